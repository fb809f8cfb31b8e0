/- The operations of the abstract machine that only reckon, and which operation of the model each stands for. -/
import Derived.Test.YtcmdlmcmefbkeaaAmd
namespace Go.Proofs.Ytcmdlmcmefbkeaa.Am
open Go

inductive RA where
  | t (n : Nat)
  | c (x : AV)
  | f (k : FuncId)

def RA.ev (f : Fr) : RA → AV
  | .t n => f n
  | .c x => x
  | .f k => .fn (.func k) [] []

inductive Ty where
  | num | str | bool | ptr | iface | other
  deriving DecidableEq

inductive VO where
  | mov (x : RA)
  | pick (c a b : RA)
  | build (z : List AV) (ps : List (Nat × Nat × RA))
  | load (k : Option Nat) (x : RA)
  | loadv (l s : Nat) (k : Option Nat) (x : RA)
  | nilck (x : RA)
  | bin (ty : Ty) (op : BinOp) (x y : RA)
  | eqs (neg : Bool) (ks : List Ty) (x y : RA)
  | un (op : UnOp) (x : RA)
  | cvi (k : IntKind) (x : RA)
  | b2s (x : RA)
  | slc (sz : Option Nat) (x : RA) (lo hi mx : Option RA)
  | faddr (off : Nat) (x : RA)
  | fld (off : Nat) (k : Option Nat) (x : RA)
  | iaddr (sz : Nat) (len : Option Nat) (x i : RA)
  | idx (x i : RA)
  | ext (x : RA) (i : Nat)
  | len (k : Nat) (x : RA)
  | mnx (mx : Bool) (x y : RA)
  | mkfn (f : Fn) (first cap : List RA)
  | toU (x : RA)
  | ofU (t n : Nat) (x : RA)
  | same (x : RA)

def aint (op : BinOp) (k : IntKind) (a b : Int) : Option AV :=
  match op with
  | .add => some (.int k (k.wrap (a + b)))
  | .sub => some (.int k (k.wrap (a - b)))
  | .mul => some (.int k (k.wrap (a * b)))
  | .quo => if b = 0 then none else some (.int k (k.wrap (a.tdiv b)))
  | .rem => if b = 0 then none else some (.int k (a.tmod b))
  | .and => some (.int k (bits .and k a b))
  | .or => some (.int k (bits .or k a b))
  | .xor => some (.int k (bits .xor k a b))
  | .andNot => some (.int k (bits .andNot k a b))
  | .eql => some (.bool (a == b))
  | .neq => some (.bool (a != b))
  | .lss => some (.bool (a < b))
  | .leq => some (.bool (a ≤ b))
  | .gtr => some (.bool (b < a))
  | .geq => some (.bool (b ≤ a))
  | _ => none

def astr (op : BinOp) (a b : List UInt8) : Option AV :=
  match op with
  | .add => if a.length + b.length ≤ 9223372036854775807 then some (.str (a ++ b)) else none
  | .eql => some (.bool (a == b))
  | .neq => some (.bool (!(a == b)))
  | .lss => some (.bool (Op.bytesLess a b))
  | .leq => some (.bool (Op.bytesLess a b || a == b))
  | .gtr => some (.bool (!(Op.bytesLess a b || a == b)))
  | .geq => some (.bool (!Op.bytesLess a b))
  | _ => none

def abin (ty : Ty) (op : BinOp) (x y : AV) : Option AV :=
  match x, y with
  | .int k a, .int k' b =>
    match op with
    | .shl => if 0 ≤ b then some (.int k (k.wrap (a * 2 ^ (min b.toNat k.bits)))) else none
    | .shr => if 0 ≤ b then some (.int k (a.fdiv (2 ^ (min b.toNat k.bits)))) else none
    | op => if k = k' then aint op k a b else none
  | .str a, .str b => astr op a b
  | .bool a, .bool b =>
    match ty, op with
    | .bool, .eql => some (.bool (a == b))
    | .bool, .neq => some (.bool (!(a == b)))
    | _, _ => none
  | .nilp, .nilp =>
    match ty, op with
    | .ptr, .eql => some (.bool true)
    | .ptr, .neq => some (.bool false)
    | _, _ => none
  | .ptr _ _ _, .nilp =>
    match ty, op with
    | .ptr, .eql => some (.bool false)
    | .ptr, .neq => some (.bool true)
    | _, _ => none
  | .ptr l s o, .ptr l' s' o' =>
    if l = l' ∧ s = s' ∧ o = o' then
      match ty, op with
      | .ptr, .eql => some (.bool true)
      | .ptr, .neq => some (.bool false)
      | _, _ => none
    else none
  | _, _ => none

/-- Two cells are equal. -/
def eq1 : Ty → AV → AV → Option Bool
  | .num, .int k a, .int k' b => if k = k' then some (a == b) else none
  | .bool, .bool a, .bool b => some (a == b)
  | .str, .str a, .str b => some (a == b)
  | _, _, _ => none

def eqL : List Ty → List AV → List AV → Option Bool
  | [], [], [] => some true
  | t :: ts, x :: l, y :: r => match eq1 t x y, eqL ts l r with
    | some a, some b => some (a && b)
    | _, _ => none
  | _, _, _ => none

def aun (op : UnOp) (x : AV) : Option AV :=
  match op, x with
  | .neg, .int k n => some (.int k (k.wrap (0 - n)))
  | .xor, .int k n => some (.int k (bits .xor k (if k.signed then -1 else k.max) n))
  | .not, .bool b => some (.bool (!b))
  | _, _ => none

def fill (f : Fr) : List (Nat × Nat × RA) → List AV → Option (List AV)
  | [], z => some z
  | (o, n, x) :: ps, z =>
    if (x.ev f).cells.length = n ∧ o + n ≤ z.length ∧ (x.ev f).cells.all AV.leaf = true then fill f ps (splice z o (x.ev f).cells) else none

/-- The bytes of a list of bytes. -/
def bytesOf : List AV → Option (List UInt8)
  | [] => some []
  | .int .u8 n :: l => (bytesOf l).map (UInt8.ofNat n.toNat :: ·)
  | _ :: _ => none

/-- What a slice holds. -/
def elemsOf (m : Mem) : AV → Option (List AV)
  | .nils => some []
  | .list l => some l
  | .vec l s g o n _ => match look m l s with
    | .vec g' _ xs => if g = g' ∧ o + n ≤ xs.length then some ((xs.drop o).take n) else none
    | _ => none
  | _ => none

/-- A bound of a slice expression. -/
def bnd (f : Fr) (d : Nat) : Option RA → Option Nat
  | none => some d
  | some r => match r.ev f with
    | .int _ n => if 0 ≤ n then some n.toNat else none
    | _ => none

def aslice (m : Mem) (sz : Option Nat) (x : AV) (lo hi : Nat) (mx : Option Nat) : Option AV :=
  match sz with
  | none => match x with
    | .str s => match mx with
      | none => if lo ≤ hi ∧ hi ≤ s.length then some (.str ((s.drop lo).take (hi - lo))) else none
      | some _ => none
    | _ => none
  | some z => match x with
    | .nils => if lo = 0 ∧ hi = 0 ∧ mx.getD 0 = 0 then some .nils else none
    | .list l => if lo ≤ hi ∧ hi ≤ mx.getD l.length ∧ mx.getD l.length ≤ l.length ∧ (lo = 0 ∨ l.all (fun e => e.cells.length == z) = true) then some (.list ((l.drop lo).take (hi - lo))) else none
    | .vec l s g o n q => match look m l s with
      | .vec g' z' _ => if g = g' ∧ z = z' ∧ lo ≤ hi ∧ hi ≤ mx.getD n ∧ mx.getD n ≤ n then some (.vec l s g (o + lo) (hi - lo) (q || mx.isSome)) else none
      | _ => none
    | _ => none

def lenA : AV → Option Nat
  | .str s => some s.length
  | .nils | .nilm => some 0
  | .list l => some l.length
  | .vec _ _ _ _ n _ => some n
  | _ => none

def part (l : List AV) (o : Nat) : Option Nat → Option AV
  | none => l[o]?
  | some k => if o + k ≤ l.length then some (.agg ((l.drop o).take k)) else none

/-- The generation of a row. -/
def gen? (m : Mem) (l s : Nat) : Option Nat :=
  match look m l s with
  | .vec g _ _ => some g
  | _ => none

def aload (m : Mem) (k : Option Nat) : AV → Option AV
  | .ptr l s o => match look m l s with
    | .cells xs => match k with
      | none => match xs[o]? with
        | some x => some (x.shN l)
        | none => none
      | some k => if o + k ≤ xs.length then some (.agg (AV.shNL l ((xs.drop o).take k))) else none
    | _ => none
  | .vptr l s g i o => match look m l s with
    | .vec g' _ xs => if g = g' then match xs[i]? with
        | some e => part e.cells o k
        | none => none
      else none
    | _ => none
  | .rptr xs => part xs 0 k
  | _ => none

def aiaddr (m : Mem) (sz : Nat) (len : Option Nat) (x : AV) (i : Int) : Option AV :=
  if 0 ≤ i then
    match len with
    | none => match x with
      | .list l => match l[i.toNat]? with
        | some e => if e.cells.length = sz then some (.rptr e.cells) else none
        | none => none
      | .vec l s g o n _ => match look m l s with
        | .vec g' sz' _ => if g = g' ∧ sz = sz' ∧ i.toNat < n then some (.vptr l s g (o + i.toNat) 0) else none
        | _ => none
      | _ => none
    | some n => match x with
      | .ptr l s o => if i.toNat < n then some (.ptr l s (o + i.toNat * sz)) else none
      | .rptr xs => if i.toNat < n then some (.rptr (xs.drop (i.toNat * sz))) else none
      | _ => none
  else none

def vop (f : Fr) (m : Mem) : VO → Option AV
  | .mov x => some (x.ev f)
  | .pick c a b => match c.ev f with
    | .bool t => some (bif t then a.ev f else b.ev f)
    | _ => none
  | .build z ps => (fill f ps z).map .agg
  | .load k x => aload m k (x.ev f)
  | .loadv l s k x => match x.ev f with
    | .ptr l' s' o => if l' = l ∧ s' = s then aload m k (.ptr l' s' o) else none
    | _ => none
  | .nilck x => match x.ev f with
    | .ptr l s o => some (.ptr l s o)
    | .vptr l s g i o => if gen? m l s = some g then some (.vptr l s g i o) else none
    | .rptr xs => some (.rptr xs)
    | .fn (.func k) a b => some (.fn (.func k) a b)
    | _ => none
  | .bin ty op x y => abin ty op (x.ev f) (y.ev f)
  | .eqs neg ks x y => match x.ev f, y.ev f with
    | .agg a, .agg b => match eqL ks a b with
      | some r => some (.bool (bif neg then !r else r))
      | none => none
    | _, _ => none
  | .un op x => aun op (x.ev f)
  | .cvi k x => match x.ev f with
    | .int _ n => some (.int k (k.wrap n))
    | _ => none
  | .b2s x => match elemsOf m (x.ev f) with
    | some l => (bytesOf l).map .str
    | none => none
  | .slc sz x lo hi mx => match lenA (x.ev f), bnd f 0 lo with
    | some n, some a => match bnd f n hi with
      | some b => match mx with
        | none => aslice m sz (x.ev f) a b none
        | some r => match bnd f 0 (some r) with
          | some c => aslice m sz (x.ev f) a b (some c)
          | none => none
      | none => none
    | _, _ => none
  | .faddr off x => match x.ev f with
    | .ptr l s o => some (.ptr l s (o + off))
    | .vptr l s g i o => if gen? m l s = some g then some (.vptr l s g i (o + off)) else none
    | .rptr xs => some (.rptr (xs.drop off))
    | _ => none
  | .fld off k x => match x.ev f with
    | .agg l => part l off k
    | _ => none
  | .iaddr sz len x i => match i.ev f with
    | .int _ n => aiaddr m sz len (x.ev f) n
    | _ => none
  | .idx x i => match x.ev f, i.ev f with
    | .str s, .int _ n => if 0 ≤ n then match s[n.toNat]? with
        | some b => some (.int .u8 (b.toNat : Int))
        | none => none
      else none
    | _, _ => none
  | .ext x i => match x.ev f with
    | .tup l => l[i]?
    | _ => none
  | .len k x => match k with
    | 0 => match x.ev f with
      | .str s => some (.int .i64 (s.length : Int))
      | _ => none
    | 1 => match x.ev f with
      | .nils => some (.int .i64 0)
      | .list l => some (.int .i64 (l.length : Int))
      | .vec l s g _ n _ => if gen? m l s = some g then some (.int .i64 (n : Int)) else none
      | _ => none
    | _ => match x.ev f with
      | .nilm => some (.int .i64 0)
      | _ => none
  | .mnx mx x y => match x.ev f, y.ev f with
    | .int k a, .int k' b => if k = k' then some (.int k (bif mx then (if a < b then b else a) else (if b < a then b else a))) else none
    | _, _ => none
  | .mkfn fn first cap => some (.fn fn (first.map (RA.ev f)) (cap.map (RA.ev f)))
  | .toU x => match x.ev f with
    | .ptr l s o => match look m l s with
      | .cells xs => if o < xs.length then some (.ptr l s o) else none
      | _ => none
    | _ => none
  | .ofU t n x => match x.ev f with
    | .ptr l s o => match look m l s with
      | .cells xs => if o = 0 ∧ xs.length = n ∧ s = t + 2000 then some (.ptr l s 0) else none
      | _ => none
    | _ => none
  | .same x => some (x.ev f)

/- Which operation of the model each stands for. -/
mutual
def AV.isC : AV → Value → Bool
  | .int k' n', v => match v with | .int k n => k == k' && n == n' | _ => false
  | .bool b', v => match v with | .bool b => b == b' | _ => false
  | .str l, v => match v with | .string s => s.data.toList == l | _ => false
  | .nils, v => match v with | .slice none 0 0 => true | _ => false
  | .nilp, v => match v with | .pointer none => true | _ => false
  | .nilf, v => match v with | .nilFunc => true | _ => false
  | .nili, v => match v with | .nilIface => true | _ => false
  | .nilm, v => match v with | .map none => true | _ => false
  | .agg l, v => match v with | .agg vs => AV.isCL l vs.toList | _ => false
  | .tup l, v => match v with | .tuple vs => AV.isCL l vs.toList | _ => false
  | _, _ => false
def AV.isCL : List AV → List Value → Bool
  | [], vs => vs.isEmpty
  | x :: l, vs => match vs with | v :: vs => x.isC v && AV.isCL l vs | [] => false
end

def isC (v : Value) (x : AV) : Bool := x.isC v
def isCL (vs : List Value) (l : List AV) : Bool := AV.isCL l vs

def chkA : Operand → RA → Bool
  | .tmp t, .t n => t == n
  | .const v, .c x => isC v x
  | .func k, .f k' => k == k'
  | _, _ => false

def chkO : Option Operand → Option RA → Bool
  | none, none => true
  | some x, some r => chkA x r
  | _, _ => false

def chkAs : List Operand → List RA → Bool
  | [], [] => true
  | x :: xs, r :: rs => chkA x r && chkAs xs rs
  | _, _ => false

/-- How a variable of type t is loaded: whole (so many cells) or as one cell. -/
def shapeOf (P : Program) (t : TypeId) : Option (Option Nat) :=
  match P.underlying t, P.info? t with
  | some (.struct _), some i => some (some i.size)
  | some (.array _ _), some i => some (some i.size)
  | some _, some _ => some none
  | _, _ => none

def isInt (P : Program) (t : TypeId) (k : IntKind) : Bool :=
  match P.underlying t with
  | some (.int k') => k == k'
  | _ => false

def isStr (P : Program) (t : TypeId) : Bool :=
  match P.underlying t with
  | some .string => true
  | _ => false

def tyOf (P : Program) (t : TypeId) : Ty :=
  match P.underlying t with
  | some (.int _) => .num
  | some .string => .str
  | some .bool => .bool
  | some (.pointer e) => if (P.info? e).isSome then .ptr else .other
  | some (.interface _) => .iface
  | _ => .other

/-- The fields of a struct that is compared: one cell each, numbers, bools, texts, in order. -/
def plainFields (P : Program) : Nat → List Field → List Ty → Bool
  | _, [], [] => true
  | o, fl :: fs, t :: ts => fl.offset == o && fl.name != "_" && tyOf P fl.type == t && plainFields P (o + 1) fs ts
  | _, _, _ => false

def placesOf (P : Program) (fs : Array Field) : Option (List (Nat × Nat)) :=
  fs.toList.mapM fun fl => (P.info? fl.type).map fun i => (fl.offset, i.size)

def chkParts (pl : List (Nat × Nat)) : List (Nat × Operand) → List (Nat × Nat × RA) → Bool
  | [], [] => true
  | (i, x) :: xs, (o, n, r) :: rs => pl[i]? == some (o, n) && chkA x r && chkParts pl xs rs
  | _, _ => false

def chkV (P : Program) (op : Op) (vo : VO) : Bool :=
  match vo with
  | .mov r => match op with
    | .move x | .assign x => chkA x r
    | _ => false
  | .pick c a b => match op with
    | .pick x y z => chkA x c && chkA y a && chkA z b
    | _ => false
  | .build z ps => match op with
    | .build t parts => match P.underlying t, P.info? t with
      | some (.struct fs), some i => match i.zero, placesOf P fs with
        | some zv, some pl => isCL zv.cells.toList z && chkParts pl parts.toList ps
        | _, _ => false
      | _, _ => false
    | _ => false
  | .load k r => match op with
    | .load t x => shapeOf P t == some k && chkA x r
    | _ => false
  | .loadv _ _ k r => match op with
    | .load t x => shapeOf P t == some k && chkA x r
    | _ => false
  | .nilck r => match op with
    | .nilCheck x => chkA x r
    | _ => false
  | .bin ty o r s => match op with
    | .binOp o' t x y _ => o == o' && tyOf P t == ty && chkA x r && chkA y s
    | _ => false
  | .eqs neg ks r s => match op with
    | .binOp o t x y _ => (o == (if neg then .neq else .eql)) && (match P.underlying t with | some (.struct fs) => plainFields P 0 fs.toList ks | _ => false) && !P.stoodInHeld t && !P.eqGuardType P.depth t && chkA x r && chkA y s
    | _ => false
  | .un o r => match op with
    | .unOp o' _ x => o == o' && chkA x r
    | _ => false
  | .cvi k r => match op with
    | .convert src dst x => isInt P dst k && (P.underlying src).isSome && chkA x r
    | _ => false
  | .b2s r => match op with
    | .convert src dst x => isStr P dst && (match P.underlying src with | some (.slice e) => isInt P e .u8 && (P.info? e).any (fun i => i.size == 1) | _ => false) && chkA x r
    | _ => false
  | .slc sz r lo hi mx => match op with
    | .slice t x l h m => (match sz with | none => isStr P t | some z => (match P.underlying t with | some (.slice e) => (P.info? e).any (fun i => i.size == z) | _ => false)) && chkA x r && chkO l lo && chkO h hi && chkO m mx && (m.isNone || h.isSome)
    | _ => false
  | .faddr off r => match op with
    | .fieldAddr t x k => (match P.underlying t with
      | some (.struct fs) => match fs[k]? with
        | some fl => fl.offset == off && (P.info? fl.type).any (fun i => i.size != 0)
        | none => false
      | _ => false) && chkA x r
    | _ => false
  | .fld off k r => match op with
    | .field t x i => (match P.underlying t with
      | some (.struct fs) => match fs[i]? with
        | some fl => fl.offset == off && shapeOf P fl.type == some k
        | none => false
      | _ => false) && chkA x r
    | _ => false
  | .iaddr sz len r i => match op with
    | .indexAddr t x y => (match P.underlying t with
      | some (.slice e) => len == none && (P.info? e).any (fun j => j.size == sz) && sz != 0
      | some (.array n e) => len == some n && (P.info? e).any (fun j => j.size == sz) && sz != 0
      | _ => false) && chkA x r && chkA y i
    | _ => false
  | .idx r i => match op with
    | .index t x y => isStr P t && chkA x r && chkA y i
    | _ => false
  | .ext r i => match op with
    | .extract x k => k == i && chkA x r
    | _ => false
  | .len k r => match op with
    | .call { callee := .builtin .len, args := ⟨[x]⟩, argTypes := ⟨[t]⟩ } => (match P.underlying t with | some .string => k == 0 | some (.slice _) => k == 1 | some (.map _ _) => k == 2 | _ => false) && chkA x r
    | _ => false
  | .mnx mx r s => match op with
    | .call { callee := .builtin b, args := ⟨[x, y]⟩, argTypes := _ } => (match b with | .max => mx | .min => !mx | _ => false) && chkA x r && chkA y s
    | _ => false
  | .mkfn fn a b => match op with
    | .makeFunc fn' xs ys => fn == fn' && chkAs xs.toList a && chkAs ys.toList b
    | _ => false
  | .toU r => match op with
    | .convert src dst x => (match P.underlying src with | some (.pointer t) => (P.info? t).any (fun i => i.size != 0) | _ => false) && (match P.underlying dst with | some .unsafePointer => true | _ => false) && chkA x r
    | _ => false
  | .ofU t n r => match op with
    | .convert src dst x => (match P.underlying src with | some .unsafePointer => true | _ => false) && (match P.underlying dst with | some (.pointer u) => u == t && (P.info? u).isSome && liesAt P P.depth t (n / P.cellsOf t) 0 t 1 | _ => false) && chkA x r
    | _ => false
  | .same r => match op with
    | .call { callee := .value (.func k), args := ⟨[x]⟩, argTypes := _ } => (match P.funcs[k]? with | some fn => fn.name == "internal/abi.NoEscape" && fn.body.isNone && (Extern.allNextRows.lookup fn.origin).isNone | _ => false) && chkA x r
    | _ => false

end Go.Proofs.Ytcmdlmcmefbkeaa.Am

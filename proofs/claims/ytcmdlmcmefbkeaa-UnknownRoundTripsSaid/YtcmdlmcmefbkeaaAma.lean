/- An abstract machine: values without addresses, objects of a call's own, code with the types worked out. How it reads a state of the model. -/
import Derived.WalkKit
import Derived.WalkLawsBesides
namespace Go.Proofs.Ytcmdlmcmefbkeaa.Am
open Go

/-- A value, as the abstract machine has it. 'top': anything. Slices: 'list' (never written again), 'vec' (a row that a frame of ours owns). Pointers: 'ptr' (a variable of a frame of ours), 'vptr' (a cell of such a row), 'rptr' (cells never written again), 'anyp' (some pointer). -/
inductive AV where
  | top
  | int (k : IntKind) (n : Int)
  | bool (b : Bool)
  | str (s : List UInt8)
  | nils | nilp | nilf | nili | nilm
  | list (l : List AV)
  | agg (l : List AV)
  | tup (l : List AV)
  | iface (t : TypeId) (x : AV)
  | fn (f : Fn) (first cap : List AV)
  | ptr (lvl site off : Nat)
  | vec (lvl site gen off n : Nat) (lim : Bool)
  | vptr (lvl site gen idx off : Nat)
  | rptr (l : List AV)
  | anyp
  deriving Inhabited

/-- An object of a frame: a variable (its cells), or a row that grows (its elements). -/
inductive Ob where
  | none
  | cells (l : List AV)
  | vec (gen sz : Nat) (l : List AV)
  deriving Inhabited

abbrev Fr := Nat → AV
abbrev Mem := List (Nat → Ob)

/-- A deferred call. -/
structure DF where
  fn : Fn
  cap : List AV
  args : List AV

structure St where
  f : Fr
  m : Mem
  ds : List DF

def upd {α : Type} (f : Nat → α) (d : Nat) (x : α) : Nat → α := fun i => bif Nat.beq i d then x else f i

theorem upd_same {α : Type} (f : Nat → α) (d : Nat) (x : α) : upd f d x d = x := by simp [upd]
theorem upd_ne {α : Type} (f : Nat → α) {d i : Nat} (x : α) (h : i ≠ d) : upd f d x i = f i := by
  have : Nat.beq i d = false := by
    cases h' : Nat.beq i d with
    | false => rfl
    | true => exact absurd (Nat.eq_of_beq_eq_true h') h
  simp [upd, this]

/-- The cells of a value. -/
def AV.cells : AV → List AV
  | .agg l => l
  | x => [x]

def flat (l : List AV) : List AV := l.flatMap AV.cells

/-- The value of one cell. -/
def AV.leaf : AV → Bool
  | .agg _ | .tup _ | .top => false
  | _ => true

mutual
/-- Holds no reference to an object of ours. -/
def AV.rf : AV → Bool
  | .ptr .. | .vec .. | .vptr .. | .rptr _ => false
  | .agg l | .tup l => AV.rfL l
  | .iface _ x => x.rf
  | .fn _ a b => AV.rfL a && AV.rfL b
  | _ => true
def AV.rfL : List AV → Bool
  | [] => true
  | x :: l => x.rf && AV.rfL l
end

mutual
/-- The same value seen from one frame further in. -/
def AV.sh : AV → AV
  | .ptr l s o => .ptr (l + 1) s o
  | .vec l s g o n q => .vec (l + 1) s g o n q
  | .vptr l s g i o => .vptr (l + 1) s g i o
  | .agg l => .agg (AV.shL l)
  | .tup l => .tup (AV.shL l)
  | .iface t x => .iface t x.sh
  | .fn f a b => .fn f (AV.shL a) (AV.shL b)
  | x => x
def AV.shL : List AV → List AV
  | [] => []
  | x :: l => x.sh :: AV.shL l
end

def AV.shN : Nat → AV → AV
  | 0, x => x
  | n + 1, x => (x.shN n).sh

mutual
/-- The same value seen from one frame further out. -/
def AV.un : AV → Option AV
  | .ptr 0 _ _ | .vec 0 _ _ _ _ _ | .vptr 0 _ _ _ _ => none
  | .ptr (l + 1) s o => some (.ptr l s o)
  | .vec (l + 1) s g o n q => some (.vec l s g o n q)
  | .vptr (l + 1) s g i o => some (.vptr l s g i o)
  | .agg l => (AV.unL l).map .agg
  | .tup l => (AV.unL l).map .tup
  | .iface t x => x.un.map (.iface t)
  | .fn f a b => match AV.unL a, AV.unL b with
    | some a, some b => some (.fn f a b)
    | _, _ => none
  | x => some x
def AV.unL : List AV → Option (List AV)
  | [] => some []
  | x :: l => match x.un, AV.unL l with
    | some x, some l => some (x :: l)
    | _, _ => none
end

def AV.unN : Nat → AV → Option AV
  | 0, x => some x
  | n + 1, x => (x.un).bind (AV.unN n)

mutual
/-- Forget what points to variable s of the frame itself. -/
def AV.scrub (s : Nat) : AV → AV
  | .ptr 0 t o => bif Nat.beq t s then .top else .ptr 0 t o
  | .agg l => .agg (AV.scrubL s l)
  | .tup l => .tup (AV.scrubL s l)
  | .iface t x => .iface t (x.scrub s)
  | .fn f a b => .fn f (AV.scrubL s a) (AV.scrubL s b)
  | x => x
def AV.scrubL (s : Nat) : List AV → List AV
  | [] => []
  | x :: l => x.scrub s :: AV.scrubL s l
end

def Ob.scrub (s : Nat) : Ob → Ob
  | .cells l => .cells (AV.scrubL s l)
  | o => o

def DF.scrub (s : Nat) (d : DF) : DF := { d with cap := AV.scrubL s d.cap, args := AV.scrubL s d.args }

/-- The object s of the frame lvl further out. -/
def look : Mem → Nat → Nat → Ob
  | [], _, _ => .none
  | fr :: _, 0, s => fr s
  | _ :: m, l + 1, s => look m l s

def put : Mem → Nat → Nat → Ob → Mem
  | [], _, _, _ => []
  | fr :: m, 0, s, o => upd fr s o :: m
  | fr :: m, l + 1, s, o => fr :: put m l s o

def scrubM (s : Nat) : Mem → Mem
  | [] => []
  | fr :: m => (fun i => (fr i).scrub s) :: m

/-- A new variable at site s: what pointed to the elder one of that site is forgotten. -/
def St.fresh (st : St) (s : Nat) (l : List AV) : St :=
  { f := fun i => (st.f i).scrub s, m := put (scrubM s st.m) 0 s (.cells (AV.scrubL s l)), ds := st.ds.map (DF.scrub s) }

mutual
/-- As it goes to a callee or out of a frame: nil slices are empty lists, rows of ours are read out (own: those of the frame itself alone). -/
def AV.still (own : Bool) (m : Mem) : AV → Option AV
  | .nils => some (.list [])
  | .vec l s g o n q => if own && l != 0 then some (.vec l s g o n q) else
    match look m l s with
    | .vec g' _ xs => if g = g' ∧ o + n ≤ xs.length then some (.list ((xs.drop o).take n)) else none
    | _ => none
  | .agg l => (AV.stillL own m l).map .agg
  | .tup l => (AV.stillL own m l).map .tup
  | .iface t x => (x.still own m).map (.iface t)
  | x => some x
def AV.stillL (own : Bool) (m : Mem) : List AV → Option (List AV)
  | [] => some []
  | x :: l => match x.still own m, AV.stillL own m l with
    | some x, some l => some (x :: l)
    | _, _ => none
end

/- The ghost that ties an abstract state to a state of the model. -/
structure Gh where
  stab : Nat → Nat → Option Value          -- cells that are never written again
  nm : Nat → Nat → Option Nat              -- the block of a variable
  vm : Nat → Nat → Option Nat              -- the block of a row
  vc : Nat → Nat → Nat                     -- its capacity
  vg : Nat → Nat → Nat                     -- its generation
  vz : Nat → Nat → Nat                     -- cells an element

/-- Seen from one frame further out. -/
def Gh.dn (G : Gh) (l : Nat) : Gh :=
  { stab := G.stab, nm := fun i s => G.nm (i + l) s, vm := fun i s => G.vm (i + l) s, vc := fun i s => G.vc (i + l) s, vg := fun i s => G.vg (i + l) s, vz := fun i s => G.vz (i + l) s }

mutual
inductive Rep (G : Gh) : AV → Value → Prop
  | top (v : Value) : Rep G .top v
  | int (k : IntKind) (n : Int) : Rep G (.int k n) (.int k n)
  | bool (b : Bool) : Rep G (.bool b) (.bool b)
  | str (s : List UInt8) : Rep G (.str s) (.string ⟨⟨s⟩⟩)
  | nils : Rep G .nils (.slice none 0 0)
  | nilp : Rep G .nilp (.pointer none)
  | nilf : Rep G .nilf .nilFunc
  | nili : Rep G .nili .nilIface
  | nilm : Rep G .nilm (.map none)
  | anyp (p : Option Addr) : Rep G .anyp (.pointer p)
  | list {l : List AV} {cs : List Value} {A : Option Addr} {n cap sz : Nat} (hc : RepL G (flat l) cs) (hz : ∀ x ∈ l, x.cells.length = sz) (hf : AV.rfL (flat l) = true) (hl : (flat l).all AV.leaf = true)
      (hs : ∀ j u, cs[j]? = some u → ∃ b o, A = some ⟨b, o, none⟩ ∧ G.stab b (o + j) = some u) (hn : n = l.length) (hcap : n ≤ cap) (hm : n ≤ maxLen) : Rep G (.list l) (.slice A n cap)
  | agg {l : List AV} {vs : List Value} (h : RepL G l vs) : Rep G (.agg l) (.agg ⟨vs⟩)
  | tup {l : List AV} {vs : List Value} (h : RepL G l vs) : Rep G (.tup l) (.tuple ⟨vs⟩)
  | iface {t : TypeId} {x : AV} {v : Value} (h : Rep G x v) : Rep G (.iface t x) (.iface t v)
  | fn {f : Fn} {a b : List AV} {va vb : List Value} (ha : RepL G a va) (hb : RepL G b vb) : Rep G (.fn f a b) (.func f ⟨va⟩ ⟨vb⟩)
  | ptr {l s o b : Nat} (h : G.nm l s = some b) : Rep G (.ptr l s o) (.pointer (some ⟨b, o, none⟩))
  | vec {l s g o n : Nat} {q : Bool} {v : Value} (hv : v.oneCell' = true) (hg : g ≤ G.vg l s) (h : g = G.vg l s → (G.vm l s = none ∧ o = 0 ∧ n = 0 ∧ v = .slice none 0 0) ∨
      ∃ b A c, G.vm l s = some b ∧ o + n ≤ G.vc l s ∧ v = .slice (some A) n c ∧ n ≤ c ∧ c ≤ maxLen ∧ (q = false → c = G.vc l s - o) ∧ ((o < G.vc l s ∨ o = 0) ∧ (q = false ∨ 0 < n) → A = ⟨b, o * G.vz l s, none⟩)) : Rep G (.vec l s g o n q) v
  | vptr {l s g i o : Nat} {v : Value} (hv : v.oneCell' = true) (hg : g ≤ G.vg l s) (h : g = G.vg l s → ∃ b, G.vm l s = some b ∧ v = .pointer (some ⟨b, i * G.vz l s + o, none⟩)) : Rep G (.vptr l s g i o) v
  | rptr {l : List AV} {cs : List Value} {b o : Nat} (hc : RepL G l cs) (hf : AV.rfL l = true) (hl : l.all AV.leaf = true) (hs : ∀ j u, cs[j]? = some u → G.stab b (o + j) = some u) : Rep G (.rptr l) (.pointer (some ⟨b, o, none⟩))
inductive RepL (G : Gh) : List AV → List Value → Prop
  | nil : RepL G [] []
  | cons {x : AV} {v : Value} {l : List AV} {vs : List Value} (h : Rep G x v) (t : RepL G l vs) : RepL G (x :: l) (v :: vs)
end

end Go.Proofs.Ytcmdlmcmefbkeaa.Am

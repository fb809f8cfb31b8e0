/- Parts of the proof, in order. -/
import Derived.WalkKit
import Derived.WalkLawsBesides
import Derived.Lib.Builder
import Derived.Laws.Externs
import Derived.Laws.StructEq
import Derived.Laws.IdiomStrings
import Derived.MapKept
import Derived.Deep.AppendSrc
import Derived.Laws.MakeOwn
import Derived.Lib.UnsafeStr
import Derived.Laws.RangeString
import Derived.Lib.Bytealg
import Derived.Deep.LoopGhost
import Derived.Scope

set_option linter.defProp false
namespace Go.Proofs.YtafhmlkilcmniaaGreatDoor

def QYI:=@Nat.eq_of_beq_eq_true
def QYJ:=@Nat.add_assoc
def QYK:=@Nat.le_refl
def QYL:=@Nat.le_trans
def QYM:=@List.getElem?_eq_some_iff
def QYN:=@List.getElem?_eq_getElem
def QYO:=@Bool.and_eq_true_iff
def QYP:=@Option.map_eq_some_iff
def QYQ:=@Array.getElem?_eq_some_iff
def QYR:=@if_neg
def QYS:=@if_pos
def QYT:=@Nat.zero_le
def QYU:=@Array.getD_eq_getD_getElem?
def QYV:=@Array.getElem?_setIfInBounds_self
def QYW:=@List.mem_iff_getElem?
def QYX:=@List.all_eq_true
def QYY:=@List.mem_of_getElem?
def QYZ:=@List.length_cons
def QY0:=@List.mem_cons_of_mem
def QY1:=@Array.getElem?_eq_getElem
def QY2:=@List.mem_cons_self
def QY3:=@Bool.false_eq_true
def QY4:=@List.append_assoc
def QY5:=@List.cons_append
def QY6:=@List.nil_append
def QY7:=@Bool.and_eq_true
def QY8:=@beq_iff_eq
def QY9:=@Nat.zero_add
def QZa:=@Option.map_some
def QZb:=@Option.some.injEq
def QZc:=@bne_iff_ne
def QZd:=@Array.getElem?_toList
def QZe:=@List.drop_drop
def QZf:=@Array.length_toList
def QZg:=@Nat.add_zero
def QZh:=@List.map_cons
def QZi:=@List.take_succ_cons
def QZj:=@List.take_of_length_le
def QZk:=@Nat.add_mul
def QZl:=@List.drop_succ_cons
def QZm:=@List.drop_of_length_le
def QZn:=@List.length_append
def QZo:=@List.getElem?_take
def QZp:=@List.getElem?_drop
def QZq:=@List.map_take
def QZr:=@List.length_drop
def QZs:=@List.drop_zero
def QZt:=@List.drop_eq_getElem_cons
def QZu:=@Nat.le_of_eq
def QZv:=@List.mem_of_mem_drop
def QZw:=@List.mem_of_mem_take
def QZx:=@Nat.eq_zero_or_pos
def QZy:=@Option.isSome_none
def QZz:=@List.getElem_mem
def QZA:=@Bool.or_eq_false_iff
def QZB:=@Bool.eq_iff_iff
def QZC:=@List.length_take
def QZD:=@Bool.not_eq_true'
def QZE:=@Bool.or_eq_true
def QZF:=@Option.any_eq_true
def QZG:=@List.map_nil
def QZH:=@List.getElem?_cons_zero
def QZI:=@List.append_nil
def QZJ:=@and_self
def QZK:=@List.eq_nil_of_length_eq_zero
def QZL:=@Nat.mul_le_mul_right
def QZM:=@List.getElem?_cons_succ
def QZN:=@Bool.not_false
def QZO:=@List.take_zero
def QZP:=@Option.bind_some
def QZQ:=@Option.getD_some
def QZR:=@List.length_nil
def QZS:=@List.all_cons
def QZT:=@Bool.and_true
def QZU:=@List.drop_nil
def QZV:=@List.take_append_drop
def QZW:=@List.all_append
def QZX:=@List.mem_append
def QZY:=@Nat.sub_zero
def QZZ:=@List.length_pos_iff
def QZ0:=@List.mem_cons
def QZ1:=@List.mem_map
def QZ2:=@decide_eq_true_eq
def QZ3:=@List.getElem?_map
def QZ4:=@List.getElem?_eq_none
def QZ5:=@List.length_map
def QZ6:=@List.getElem?_append_left
def QZ7:=@List.getElem?_append_right
def QZ8:=@Int.toNat_natCast
def QZ9:=@List.length_replicate
def Q0a:=@Nat.le_of_ble_eq_true
def Q0b:=@List.flatMap_cons
def Q0c:=@Bool.false_and
def Q0d:=@List.length_singleton
def Q0e:=@List.mem_range
def Q0f:=@List.pairwise_cons
def Q0g:=@Option.getD_none
def Q0h:=@List.take_length
def Q0i:=@List.map_append
def Q0j:=@List.take_add_one
def Q0k:=@Option.toList_some
def Q0l:=@List.map_congr_left
def Q0m:=@Int.eq_ofNat_of_zero_le
def Q0n:=@List.map_map
def Q0o:=@And.intro
def Q0p:=@Bool.true_and
def Q0q:=@Bool.not_true
def Q0r:=@Bool.true_or
def Q0s:=@Bool.false_or
def Q0t:=@List.find?_cons
def Q0u:=@decide_eq_false
def Q0v:=@Option.isSome_some
def Q0w:=@Nat.lt_succ_iff_lt_or_eq
def Q0x:=@Bool.eq_false_iff
def Q0y:=@List.any_eq_false
def Q0z:=@List.find?_eq_none
def Q0A:=@List.any_eq_true
def Q0B:=@List.mem_of_find?_eq_some
def Q0C:=@List.find?_some
def Q0D:=@decide_eq_true
def Q0E:=@decide_eq_false_iff_not
def Q0F:=@beq_eq_false_iff_ne
def Q0G:=@Bool.and_false
def Q0H:=@Bool.or_false
def Q0I:=@Bool.or_true
def Q0J:=@Bool.and_eq_false_iff
def Q0K:=@List.mem_singleton
def Q0L:=@List.pairwise_iff_getElem
def Q0M:=@List.getElem_of_mem
def Q0N:=@List.contains_iff_mem
def Q0O:=@List.getElem?_set_ne
def Q0P:=@List.length_eq_zero_iff
def Q0Q:=@List.not_mem_nil
def Q0R:=@List.append_eq_nil_iff
def Q0S:=@Bool.not_not
def Q0T:=@List.getElem?_of_mem

end Go.Proofs.YtafhmlkilcmniaaGreatDoor

namespace Go.Proofs.YtafhmlkilcmniaaGreatDoor.Am
open Go
def AX:List (Nat×List Value):=[]

inductive AV where
 |top
 |int (k:IntKind) (n:Int)
 |bool (b:Bool)
 |str (s:List UInt8)
 |nils|nilp|nilf|nili|nilm
 |list (l:List AV)
 |agg (l:List AV)
 |tup (l:List AV)
 |iface (t:TypeId) (x:AV)
 |fn (f:Fn) (first cap:List AV)
 |ptr (lvl site off:Nat)
 |vec (lvl site gen off n:Nat) (lim:Bool)
 |vptr (lvl site gen idx off:Nat)
 |rptr (l:List AV)
 |anyp
 |lcap (l:List AV)
 |mp (ks:List (List UInt8)) (vs:List AV)
 |mptr (lvl site:Nat)
 deriving Inhabited

inductive IT where
 |str (t:List UInt8)
 |mp (ks:List (List UInt8)) (vs:List AV)
 deriving Inhabited

inductive Ob where
 |none
 |cells (l:List AV)
 |vec (gen sz:Nat) (l:List AV)
 |iter (t:IT) (p:Nat)
 deriving Inhabited

abbrev Fr:=Nat→AV
abbrev Qk:=List (Nat→Ob)

structure DF where
 fn:Fn
 cap:List AV
 args:List AV

structure St where
 f:Fr
 m:Qk
 ds:List DF

def Qt {α:Type}(f:Nat→α)(d:Nat)(x:α):Nat→α:=fun i=>bif Nat.beq i d then x else f i

theorem QY {α:Type}(f:Nat→α)(d:Nat)(x:α):Qt f d x d=x:=by simp[Qt]
theorem Q2 {α:Type}(f:Nat→α){d i:Nat}(x:α)(h:i≠d):Qt f d x i=f i:=by
 have:Nat.beq i d=false:=by
  cases h':Nat.beq i d with
  |false=>rfl
  |true=>exact absurd (QYI h') h
 simp[Qt,this]

def AV.cells:AV→List AV
 |.agg l=>l
 |x=>[x]

def QP (l:List AV):List AV:=l.flatMap AV.cells

def AV.leaf:AV→Bool
 |.agg _|.tup _|.top=>false
 |_=>true

mutual
def AV.rf:AV→Bool
 |.ptr .. | .vec .. | .vptr .. | .rptr _|.mptr .. => false
 |.agg l|.tup l=>AV.rfL l
 |.iface _ x=>x.rf
 |.fn _ a b=>AV.rfL a&&AV.rfL b
 |_=>true
def AV.rfL:List AV→Bool
 | []=>true
 |x :: l=>x.rf&&AV.rfL l
end

mutual
def AV.sh:AV→AV
 |.ptr l s o=>.ptr (l+1) s o
 |.vec l s g o n q=>.vec (l+1) s g o n q
 |.vptr l s g i o=>.vptr (l+1) s g i o
 |.mptr l s=>.mptr (l+1) s
 |.agg l=>.agg (AV.shL l)
 |.tup l=>.tup (AV.shL l)
 |.iface t x=>.iface t x.sh
 |.fn f a b=>.fn f (AV.shL a) (AV.shL b)
 |x=>x
def AV.shL:List AV→List AV
 | []=>[]
 |x :: l=>x.sh :: AV.shL l
end

def AV.shN:Nat→AV→AV
 |0,x=>x
 |n+1,x=>(x.shN n).sh

mutual
def AV.un:AV→Option AV
 |.ptr 0 _ _|.vec 0 _ _ _ _ _|.vptr 0 _ _ _ _|.mptr 0 _=>none
 |.ptr (l+1) s o=>some (.ptr l s o)
 |.vec (l+1) s g o n q=>some (.vec l s g o n q)
 |.vptr (l+1) s g i o=>some (.vptr l s g i o)
 |.mptr (l+1) s=>some (.mptr l s)
 |.agg l=>(AV.unL l).map .agg
 |.tup l=>(AV.unL l).map .tup
 |.iface t x=>x.un.map (.iface t)
 |.fn f a b=>match AV.unL a,AV.unL b with
  |some a,some b=>some (.fn f a b)
  |_,_=>none
 |x=>some x
def AV.unL:List AV→Option (List AV)
 | []=>some []
 |x :: l=>match x.un,AV.unL l with
  |some x,some l=>some (x :: l)
  |_,_=>none
end

mutual
def AV.scrub (s:Nat):AV→AV
 |.ptr 0 t o=>bif Nat.beq t s then .top else .ptr 0 t o
 |.mptr 0 t=>bif Nat.beq t s then .top else .mptr 0 t
 |.agg l=>.agg (AV.scrubL s l)
 |.tup l=>.tup (AV.scrubL s l)
 |.iface t x=>.iface t (x.scrub s)
 |.fn f a b=>.fn f (AV.scrubL s a) (AV.scrubL s b)
 |x=>x
def AV.scrubL (s:Nat):List AV→List AV
 | []=>[]
 |x :: l=>x.scrub s :: AV.scrubL s l
end

def Ob.scrub (s:Nat):Ob→Ob
 |.cells l=>.cells (AV.scrubL s l)
 |o=>o

def DF.scrub (s:Nat)(d:DF):DF:={ d with cap:=AV.scrubL s d.cap,args:=AV.scrubL s d.args }

def Qh:Qk→Nat→Nat→Ob
 | [],_,_=>.none
 |fr :: _,0,s=>fr s
 |_ :: m,l+1,s=>Qh m l s

def put:Qk→Nat→Nat→Ob→Qk
 | [],_,_,_=>[]
 |fr :: m,0,s,o=>Qt fr s o :: m
 |fr :: m,l+1,s,o=>fr :: put m l s o

def K4 (s:Nat):Qk→Qk
 | []=>[]
 |fr :: m=>(fun i=>(fr i).scrub s) :: m

def St.fresh (st:St)(s:Nat)(l:List AV):St :=
 { f:=fun i=>(st.f i).scrub s,m:=put (K4 s st.m) 0 s (.cells (AV.scrubL s l)),ds:=st.ds.map (DF.scrub s) }

mutual
def AV.still (own:Bool)(m:Qk):AV→Option AV
 |.nils=>some (.list [])
 |.lcap l=>some (.list l)
 |.vec l s g o n q=>if own&&l != 0 then some (.vec l s g o n q)else
  match Qh m l s with
  |.vec g' _ xs=>if g=g'∧o+n≤xs.length then some (.list ((xs.drop o).take n))else none
  |_=>none
 |.mptr l s=>if own&&l != 0 then some (.mptr l s)else if own then match Qh m 0 s with
  |.iter (.mp ks vs) _=>some (.mp ks vs)
  |_=>none else none
 |.agg l=>(AV.stillL own m l).map .agg
 |.tup l=>(AV.stillL own m l).map .tup
 |.iface t x=>(x.still own m).map (.iface t)
 |x=>some x
def AV.stillL (own:Bool)(m:Qk):List AV→Option (List AV)
 | []=>some []
 |x :: l=>match x.still own m,AV.stillL own m l with
  |some x,some l=>some (x :: l)
  |_,_=>none
end

mutual
def AV.gv:AV→Value
 |.int k n=>.int k n
 |.bool b=>.bool b
 |.str s=>.string ⟨⟨s⟩⟩
 |.agg l=>.agg ⟨AV.gvL l⟩
 |_=>.tuple #[]
def AV.gvL:List AV→List Value
 | []=>[]
 |x :: l=>x.gv :: AV.gvL l
end
mutual
def AV.gr:AV→Bool
 |.int .. | .bool _|.str _=>true
 |.agg l=>AV.grL l
 |_=>false
def AV.grL:List AV→Bool
 | []=>true
 |x :: l=>x.gr&&AV.grL l
end

def ZD:List (List UInt8)→List AV→Nat→List MapEntry
 |k :: ks,v :: vs,i=>{ key:=.string ⟨⟨k⟩⟩,val:=v.gv,born:=i } :: ZD ks vs (i+1)
 |_,_,_=>[]
def IT.obj:IT→Nat→Obj
 |.str t,p=>.stringIter ⟨⟨t⟩⟩ p
 |.mp ks vs,_=>.map ⟨ZD ks vs 0⟩ (ZD ks vs 0).length

inductive SV where
 |cell (v:Value)
 |mapo (es:Array MapEntry) (c:Nat)
 |siz (n:Nat)
def rd (w:World)(b o:Nat):SV→Prop
 |.cell v=>w.cell? ⟨b,o,none⟩=some v
 |.mapo es c=>w.heap[b]? = some (.map es c)
 |.siz n=>∃cs t fz,w.heap[b]? = some (.cells cs t fz)∧cs.size=n∧o=n
def sv (w:World)(b o:Nat):Option SV:=match w.heap[b]? with
 |some (.map es c)=>some (.mapo es c)
 |some (.cells cs _ _)=>if o=cs.size then some (.siz o)else(w.cell? ⟨b,o,none⟩).map .cell
 |_=>(w.cell? ⟨b,o,none⟩).map .cell

def Jb (b o:Nat):Option SV:=match AX.lookup b with
 |some l=>if o=l.length then some (.siz o)else(l[o]?).map .cell
 |none=>none
def HM (w:World):Prop:=∀b o v,Jb b o=some v→rd w b o v

structure Gh where
 stab:Nat→Nat→Option SV             -- cells (and maps) that are never written again
 nm:Nat→Nat→Option Nat              -- the block of a variable
 vm:Nat→Nat→Option Nat              -- the block of a row
 vc:Nat→Nat→Nat                     -- Qg capacity
 vg:Nat→Nat→Nat                     -- Qg generation
 vz:Nat→Nat→Nat                     -- cells an element
 tab:∀b o v,Jb b o=some v→stab b o=some v

def Gh.dn (G:Gh)(l:Nat):Gh :=
 { stab:=G.stab,nm:=fun i s=>G.nm (i+l) s,vm:=fun i s=>G.vm (i+l) s,vc:=fun i s=>G.vc (i+l) s,vg:=fun i s=>G.vg (i+l) s,vz:=fun i s=>G.vz (i+l) s,tab:=G.tab }

mutual
inductive Rep (G:Gh):AV→Value→Prop
 |top (v:Value):Rep G .top v
 |int (k:IntKind) (n:Int):Rep G (.int k n) (.int k n)
 |bool (b:Bool):Rep G (.bool b) (.bool b)
 |str (s:List UInt8):Rep G (.str s) (.string ⟨⟨s⟩⟩)
 |nils:Rep G .nils (.slice none 0 0)
 |nilp:Rep G .nilp (.pointer none)
 |nilf:Rep G .nilf .nilFunc
 |nili:Rep G .nili .nilIface
 |nilm:Rep G .nilm (.map none)
 |anyp (p:Option Addr):Rep G .anyp (.pointer p)
 |list {l:List AV} {cs:List Value} {A:Option Addr} {n cap sz:Nat} (hc:RepL G (QP l) cs) (hz:∀x∈l,x.cells.length=sz) (hf:AV.rfL (QP l)=true) (hl:(QP l).all AV.leaf=true)
   (hs:∀j u,cs[j]? = some u→∃b o,A=some ⟨b,o,none⟩∧G.stab b (o+j)=some (.cell u)) (hn:n=l.length) (hcap:n≤cap) (hm:n≤maxLen):Rep G (.list l) (.slice A n cap)
 |lcap {l:List AV} {cs:List Value} {A:Option Addr} {n sz:Nat} (hc:RepL G (QP l) cs) (hz:∀x∈l,x.cells.length=sz) (hf:AV.rfL (QP l)=true) (hl:(QP l).all AV.leaf=true)
   (hs:∀j u,cs[j]? = some u→∃b o,A=some ⟨b,o,none⟩∧G.stab b (o+j)=some (.cell u)) (hn:n=l.length) (hm:n≤maxLen):Rep G (.lcap l) (.slice A n n)
 |agg {l:List AV} {vs:List Value} (h:RepL G l vs):Rep G (.agg l) (.agg ⟨vs⟩)
 |tup {l:List AV} {vs:List Value} (h:RepL G l vs):Rep G (.tup l) (.tuple ⟨vs⟩)
 |iface {t:TypeId} {x:AV} {v:Value} (h:Rep G x v):Rep G (.iface t x) (.iface t v)
 |fn {f:Fn} {a b:List AV} {va vb:List Value} (ha:RepL G a va) (hb:RepL G b vb):Rep G (.fn f a b) (.func f ⟨va⟩ ⟨vb⟩)
 |ptr {l s o b:Nat} (h:G.nm l s=some b):Rep G (.ptr l s o) (.pointer (some ⟨b,o,none⟩))
 |vec {l s g o n:Nat} {q:Bool} {v:Value} (hv:v.oneCell'=true) (hg:g≤G.vg l s) (h:g=G.vg l s→(G.vm l s=none∧o=0∧n=0∧∃A,v=.slice A 0 0∧(2000≤s→A=none))∨
   ∃b A c,G.vm l s=some b∧o+n≤G.vc l s∧v=.slice (some A) n c∧n≤c∧c≤maxLen∧(q=false→c=G.vc l s-o)∧((o<G.vc l s∨o=0)∧(q=false∨0<n)→A=⟨b,o*G.vz l s,none⟩)):Rep G (.vec l s g o n q) v
 |vptr {l s g i o:Nat} {v:Value} (hv:v.oneCell'=true) (hg:g≤G.vg l s) (h:g=G.vg l s→∃b,G.vm l s=some b∧v=.pointer (some ⟨b,i*G.vz l s+o,none⟩)):Rep G (.vptr l s g i o) v
 |mp {ks:List (List UInt8)} {vs:List AV} {b:Nat} (h:G.stab b 0=some (.mapo ⟨ZD ks vs 0⟩ (ZD ks vs 0).length)):Rep G (.mp ks vs) (.map (some b))
 |mptr {l s b:Nat} (h:G.nm l s=some b):Rep G (.mptr l s) (.map (some b))
 |rptr {l:List AV} {cs:List Value} {b o:Nat} (hc:RepL G l cs) (hf:AV.rfL l=true) (hl:l.all AV.leaf=true) (hs:∀j u,cs[j]? = some u→G.stab b (o+j)=some (.cell u)):Rep G (.rptr l) (.pointer (some ⟨b,o,none⟩))
inductive RepL (G:Gh):List AV→List Value→Prop
 |nil:RepL G [] []
 |cons {x:AV} {v:Value} {l:List AV} {vs:List Value} (h:Rep G x v) (t:RepL G l vs):RepL G (x :: l) (v :: vs)
end

theorem Gh.dn_dn (G:Gh)(a b:Nat):(G.dn a).dn b=G.dn (b+a):=by
 simp only[Gh.dn,QYJ]

structure Gle (G G':Gh):Prop where
 stab:∀b o v,G.stab b o=some v→G'.stab b o=some v
 nm:∀l s b,G.nm l s=some b→G'.nm l s=some b
 vg:∀l s,G.vg l s≤G'.vg l s
 vs:∀l s,G'.vg l s=G.vg l s→G'.vm l s=G.vm l s∧G'.vc l s=G.vc l s∧G'.vz l s=G.vz l s

theorem Gle.refl (G:Gh):Gle G G:=⟨fun _ _ _ h=>h,fun _ _ _ h=>h,fun _ _=>QYK _,fun _ _ _=>⟨rfl,rfl,rfl⟩⟩
theorem Gle.trans {a b c:Gh}(h:Gle a b)(k:Gle b c):Gle a c :=
 ⟨fun x o v e=>k.stab x o v (h.stab x o v e),fun l s b e=>k.nm l s b (h.nm l s b e),fun l s=>QYL (h.vg l s) (k.vg l s),fun l s e=>by
  have h1:=h.vg l s;have h2:=k.vg l s;obtain⟨a1,a2,a3⟩:=h.vs l s (by omega);obtain⟨b1,b2,b3⟩:=k.vs l s (by omega);exact⟨b1.trans a1,b2.trans a2,b3.trans a3⟩⟩
theorem Gle.dn {G G':Gh}(h:Gle G G')(l:Nat):Gle (G.dn l) (G'.dn l) :=
 ⟨h.stab,fun i s b e=>h.nm (i+l) s b e,fun i s=>h.vg (i+l) s,fun i s e=>h.vs (i+l) s e⟩

mutual
theorem Rep.mono {G G':Gh}(hg:Gle G G'):∀ {x:AV} {v:Value},Rep G x v→Rep G' x v
 |_,_,.top v=>.top v
 |_,_,.int k n=>.int k n
 |_,_,.bool b=>.bool b
 |_,_,.str s=>.str s
 |_,_,.nils=>.nils
 |_,_,.nilp=>.nilp
 |_,_,.nilf=>.nilf
 |_,_,.nili=>.nili
 |_,_,.nilm=>.nilm
 |_,_,.anyp p=>.anyp p
 |_,_,.list hc hz hf hl hs hn hcap hm=>.list (RepL.mono hg hc) hz hf hl (fun j u h=>by
   obtain⟨b,o,e,h'⟩:=hs j u h;exact⟨b,o,e,hg.stab _ _ _ h'⟩) hn hcap hm
 |_,_,.lcap hc hz hf hl hs hn hm=>.lcap (RepL.mono hg hc) hz hf hl (fun j u h=>by
   obtain⟨b,o,e,h'⟩:=hs j u h;exact⟨b,o,e,hg.stab _ _ _ h'⟩) hn hm
 |_,_,.agg h=>.agg (RepL.mono hg h)
 |_,_,.tup h=>.tup (RepL.mono hg h)
 |_,_,.iface h=>.iface (Rep.mono hg h)
 |_,_,.fn ha hb=>.fn (RepL.mono hg ha) (RepL.mono hg hb)
 |_,_,.ptr h=>.ptr (hg.nm _ _ _ h)
 |_,_,.mp h=>.mp (hg.stab _ _ _ h)
 |_,_,.mptr h=>.mptr (hg.nm _ _ _ h)
 |_,_,.vec (l:=l) (s:=s) hv hl h=>.vec hv (QYL hl (hg.vg _ _)) (fun e=>by
   have h1:=hg.vg l s;obtain⟨a1,a2,a3⟩:=hg.vs l s (by omega);rw[a1,a2,a3];exact h (by omega))
 |_,_,.vptr (l:=l) (s:=s) hv hl h=>.vptr hv (QYL hl (hg.vg _ _)) (fun e=>by
   have h1:=hg.vg l s;obtain⟨a1,_,a3⟩:=hg.vs l s (by omega);rw[a1,a3];exact h (by omega))
 |_,_,.rptr hc hf hl hs=>.rptr (RepL.mono hg hc) hf hl (fun j u h=>hg.stab _ _ _ (hs j u h))
theorem RepL.mono {G G':Gh}(hg:Gle G G'):∀ {x:List AV} {v:List Value},RepL G x v→RepL G' x v
 |_,_,.nil=>.nil
 |_,_,.cons h t=>.cons (Rep.mono hg h) (RepL.mono hg t)
end

theorem Rep.unlcap {G:Gh}{l:List AV}{v:Value}(h:Rep G (.lcap l) v):Rep G (.list l) v:=by
 cases h with
 |lcap hc hz hf hl hs hn hm=>exact .list hc hz hf hl hs hn (QYK _) hm

theorem RepL.length {G:Gh}{l:List AV}{vs:List Value}(h:RepL G l vs):vs.length=l.length:=by
 induction l generalizing vs with
 |nil=>cases h;rfl
 |cons x l ih=>cases h with|cons h t=>simp[ih t]

theorem RepL.at_ {G:Gh}{l:List AV}{vs:List Value}(h:RepL G l vs){i:Nat}{x:AV}(hx:l[i]? = some x):∃v,vs[i]? = some v∧Rep G x v:=by
 induction l generalizing vs i with
 |nil=>simp at hx
 |cons y l ih=>
  cases h with
  |cons h t=>
   cases i with
   |zero=>simp at hx;subst hx;exact⟨_,rfl,h⟩
   |succ i=>simp at hx;simpa using ih t hx

theorem RepL.back {G:Gh}{l:List AV}{vs:List Value}(h:RepL G l vs){i:Nat}{v:Value}(hx:vs[i]? = some v):∃x,l[i]? = some x∧Rep G x v:=by
 have hl:=h.length;have:i<l.length:=by rw[←hl];exact(QYM.1 hx).1
 obtain⟨v',e,r⟩:=h.at_ (QYN this);rw[hx]at e
 injection e with e
 subst e;exact⟨_,QYN this,r⟩

theorem RepL.append {G:Gh}{l l':List AV}{vs vs':List Value}(h:RepL G l vs)(h':RepL G l' vs'):RepL G (l++l') (vs++vs'):=by
 induction l generalizing vs with
 |nil=>cases h;exact h'
 |cons x l ih=>cases h with|cons h t=>exact .cons h (ih t)

theorem RepL.take {G:Gh}{l:List AV}{vs:List Value}(h:RepL G l vs)(n:Nat):RepL G (l.take n) (vs.take n):=by
 induction l generalizing vs n with
 |nil=>cases h;simp;exact .nil
 |cons x l ih=>
  cases h with
  |cons h t=>
   cases n with
   |zero=>simp;exact .nil
   |succ n=>simp;exact .cons h (ih t n)

theorem RepL.drop {G:Gh}{l:List AV}{vs:List Value}(h:RepL G l vs)(n:Nat):RepL G (l.drop n) (vs.drop n):=by
 induction l generalizing vs n with
 |nil=>cases h;simp;exact .nil
 |cons x l ih=>
  cases h with
  |cons h t=>
   cases n with
   |zero=>simp;exact .cons h t
   |succ n=>simp;exact ih t n

theorem RepL.set {G:Gh}{l:List AV}{vs:List Value}(h:RepL G l vs)(n:Nat){x:AV}{v:Value}(hx:Rep G x v):RepL G (l.set n x) (vs.set n v):=by
 induction l generalizing vs n with
 |nil=>cases h;simp;exact .nil
 |cons y l ih=>
  cases h with
  |cons h t=>
   cases n with
   |zero=>simp;exact .cons hx t
   |succ n=>simp;exact .cons h (ih t n)

theorem RepL.of_all {G:Gh}{l:List AV}{vs:List Value}(hl:vs.length=l.length)(h:∀(i:Nat) x v,l[i]? = some x→vs[i]? = some v→Rep G x v):RepL G l vs:=by
 induction l generalizing vs with
 |nil=>cases vs with|nil=>exact .nil|cons _ _=>simp at hl
 |cons x l ih=>
  cases vs with
  |nil=>simp at hl
  |cons v vs=>exact .cons (h 0 x v rfl rfl) (ih (by simpa using hl) (fun i y u hy hu=>h (i+1) y u (by simpa using hy) (by simpa using hu)))

theorem Rep.leaf {G:Gh}{x:AV}{v:Value}(h:Rep G x v)(hl:x.leaf=true):v.oneCell'=true:=by
 cases h with
 |top=>simp[AV.leaf]at hl
 |agg=>simp[AV.leaf]at hl
 |tup=>simp[AV.leaf]at hl
 |vec hv=>exact hv
 |vptr hv=>exact hv
 |_=>rfl

def Gh.sameStab (G G':Gh):Prop:=∀b o v,G.stab b o=some v→G'.stab b o=some v

mutual
theorem Rep.rfd {G G':Gh}(hg:G.sameStab G'):∀ {x:AV} {v:Value},x.rf=true→Rep G x v→Rep G' x v
 |_,_,_,.top v=>.top v
 |_,_,_,.int k n=>.int k n
 |_,_,_,.bool b=>.bool b
 |_,_,_,.str s=>.str s
 |_,_,_,.nils=>.nils
 |_,_,_,.nilp=>.nilp
 |_,_,_,.nilf=>.nilf
 |_,_,_,.nili=>.nili
 |_,_,_,.nilm=>.nilm
 |_,_,_,.anyp p=>.anyp p
 |_,_,_,.list hc hz hf hl hs hn hcap hm=>.list (RepL.rfd hg hf hc) hz hf hl (fun j u h=>by
   obtain⟨b,o,e,h'⟩:=hs j u h;exact⟨b,o,e,hg _ _ _ h'⟩) hn hcap hm
 |_,_,_,.lcap hc hz hf hl hs hn hm=>.lcap (RepL.rfd hg hf hc) hz hf hl (fun j u h=>by
   obtain⟨b,o,e,h'⟩:=hs j u h;exact⟨b,o,e,hg _ _ _ h'⟩) hn hm
 |_,_,hr,.agg h=>.agg (RepL.rfd hg hr h)
 |_,_,hr,.tup h=>.tup (RepL.rfd hg hr h)
 |_,_,hr,.iface h=>.iface (Rep.rfd hg hr h)
 |_,_,hr,.fn ha hb=>by
   have h2:=QYO.1 hr;exact .fn (RepL.rfd hg h2.1 ha) (RepL.rfd hg h2.2 hb)
 |_,_,hr,.ptr h=>by cases hr
 |_,_,hr,.mp h=>.mp (hg _ _ _ h)
 |_,_,hr,.mptr h=>by cases hr
 |_,_,hr,.vec hv hl h=>by cases hr
 |_,_,hr,.vptr hv hl h=>by cases hr
 |_,_,hr,.rptr hc hf hl hs=>by cases hr
theorem RepL.rfd {G G':Gh}(hg:G.sameStab G'):∀ {x:List AV} {v:List Value},AV.rfL x=true→RepL G x v→RepL G' x v
 |_,_,_,.nil=>.nil
 |_,_,hr,.cons h t=>by
   have h2:=QYO.1 hr;exact .cons (Rep.rfd hg h2.1 h) (RepL.rfd hg h2.2 t)
end

theorem RepL.ofrf {G:Gh}{l:Nat}{x:List AV}{v:List Value}(hr:AV.rfL x=true)(h:RepL (G.dn l) x v):RepL G x v:=RepL.rfd (G:=G.dn l) (G':=G) (fun _ _ _ h=>h) hr h
theorem RepL.torf {G:Gh}{l:Nat}{x:List AV}{v:List Value}(hr:AV.rfL x=true)(h:RepL G x v):RepL (G.dn l) x v:=RepL.rfd (G:=G) (G':=G.dn l) (fun _ _ _ h=>h) hr h

mutual
theorem Rep.sh {G:Gh}:∀ {x:AV} {v:Value},Rep (G.dn 1) x v→Rep G x.sh v
 |_,_,.top v=>.top v
 |_,_,.int k n=>.int k n
 |_,_,.bool b=>.bool b
 |_,_,.str s=>.str s
 |_,_,.nils=>.nils
 |_,_,.nilp=>.nilp
 |_,_,.nilf=>.nilf
 |_,_,.nili=>.nili
 |_,_,.nilm=>.nilm
 |_,_,.anyp p=>.anyp p
 |_,_,.list hc hz hf hl hs hn hcap hm=>.list (RepL.ofrf hf hc) hz hf hl hs hn hcap hm
 |_,_,.lcap hc hz hf hl hs hn hm=>.lcap (RepL.ofrf hf hc) hz hf hl hs hn hm
 |_,_,.agg h=>.agg (RepL.sh h)
 |_,_,.tup h=>.tup (RepL.sh h)
 |_,_,.iface h=>.iface (Rep.sh h)
 |_,_,.fn ha hb=>.fn (RepL.sh ha) (RepL.sh hb)
 |_,_,.ptr h=>.ptr h
 |_,_,.mp h=>.mp h
 |_,_,.mptr h=>.mptr h
 |_,_,.vec hv hl h=>.vec hv hl h
 |_,_,.vptr hv hl h=>.vptr hv hl h
 |_,_,.rptr hc hf hl hs=>.rptr (RepL.ofrf hf hc) hf hl hs
theorem RepL.sh {G:Gh}:∀ {x:List AV} {v:List Value},RepL (G.dn 1) x v→RepL G (AV.shL x) v
 |_,_,.nil=>.nil
 |_,_,.cons h t=>.cons (Rep.sh h) (RepL.sh t)
end

theorem Rep.shN (n:Nat):∀ {G:Gh} {x:AV} {v:Value},Rep (G.dn n) x v→Rep G (x.shN n) v:=by
 induction n with
 |zero=>intro G x v h;exact h
 |succ n ih=>
  intro G x v h;show Rep G ((x.shN n).sh) v;refine Rep.sh (ih ?_);rw[Gh.dn_dn];exact h

mutual
theorem Rep.un {G:Gh}:∀ {x:AV} {v:Value},Rep G x v→∀y,x.un=some y→Rep (G.dn 1) y v
 |_,_,.top v,y,e=>by cases e;exact .top v
 |_,_,.int k n,y,e=>by cases e;exact .int k n
 |_,_,.bool b,y,e=>by cases e;exact .bool b
 |_,_,.str s,y,e=>by cases e;exact .str s
 |_,_,.nils,y,e=>by cases e;exact .nils
 |_,_,.nilp,y,e=>by cases e;exact .nilp
 |_,_,.nilf,y,e=>by cases e;exact .nilf
 |_,_,.nili,y,e=>by cases e;exact .nili
 |_,_,.nilm,y,e=>by cases e;exact .nilm
 |_,_,.anyp p,y,e=>by cases e;exact .anyp p
 |_,_,.list hc hz hf hl hs hn hcap hm,y,e=>by cases e;exact .list (RepL.torf hf hc) hz hf hl hs hn hcap hm
 |_,_,.lcap hc hz hf hl hs hn hm,y,e=>by cases e;exact .lcap (RepL.torf hf hc) hz hf hl hs hn hm
 |_,_,.agg (l:=l) h,y,e=>by
   simp only[AV.un,QYP]at e;obtain⟨l',e1,rfl⟩:=e;exact .agg (RepL.un h l' e1)
 |_,_,.tup (l:=l) h,y,e=>by
   simp only[AV.un,QYP]at e;obtain⟨l',e1,rfl⟩:=e;exact .tup (RepL.un h l' e1)
 |_,_,.iface (x:=x) h,y,e=>by
   simp only[AV.un,QYP]at e;obtain⟨l',e1,rfl⟩:=e;exact .iface (Rep.un h l' e1)
 |_,_,.fn (a:=a) (b:=b) ha hb,y,e=>by
   simp only[AV.un]at e;split at e
   ·rename_i a' b' ea eb;cases e;exact .fn (RepL.un ha a' ea) (RepL.un hb b' eb)
   ·cases e
 |.ptr l s o,_,.ptr h,y,e=>by
   cases l with
   |zero=>cases e
   |succ l=>cases e;exact .ptr h
 |.vec l s g o n q,_,.vec hv hl h,y,e=>by
   cases l with
   |zero=>cases e
   |succ l=>cases e;exact .vec hv hl h
 |.vptr l s g i o,_,.vptr hv hl h,y,e=>by
   cases l with
   |zero=>cases e
   |succ l=>cases e;exact .vptr hv hl h
 |_,_,.mp h,y,e=>by cases e;exact .mp h
 |.mptr l s,_,.mptr h,y,e=>by
   cases l with
   |zero=>cases e
   |succ l=>cases e;exact .mptr h
 |_,_,.rptr hc hf hl hs,y,e=>by cases e;exact .rptr (RepL.torf hf hc) hf hl hs
theorem RepL.un {G:Gh}:∀ {x:List AV} {v:List Value},RepL G x v→∀y,AV.unL x=some y→RepL (G.dn 1) y v
 |_,_,.nil,y,e=>by cases e;exact .nil
 |_,_,.cons (x:=x) (l:=l) h t,y,e=>by
   simp only[AV.unL]at e;split at e
   ·rename_i a' b' ea eb;cases e;exact .cons (Rep.un h a' ea) (RepL.un t b' eb)
   ·cases e
end

structure Gnew (s:Nat)(G G':Gh):Prop where
 stab:∀b o v,G.stab b o=some v→G'.stab b o=some v
 nm:∀l t b,(l=0→t≠s)→G.nm l t=some b→G'.nm l t=some b
 vg:∀l t,G.vg l t≤G'.vg l t
 vs:∀l t,G'.vg l t=G.vg l t→G'.vm l t=G.vm l t∧G'.vc l t=G.vc l t∧G'.vz l t=G.vz l t

mutual
theorem Rep.scrub {G G':Gh}{s:Nat}(hg:Gnew s G G'):∀ {x:AV} {v:Value},Rep G x v→Rep G' (x.scrub s) v
 |_,_,.top v=>.top v
 |_,_,.int k n=>.int k n
 |_,_,.bool b=>.bool b
 |_,_,.str s=>.str s
 |_,_,.nils=>.nils
 |_,_,.nilp=>.nilp
 |_,_,.nilf=>.nilf
 |_,_,.nili=>.nili
 |_,_,.nilm=>.nilm
 |_,_,.anyp p=>.anyp p
 |_,_,.list hc hz hf hl hs hn hcap hm=>.list (RepL.rfd hg.stab hf hc) hz hf hl (fun j u h=>by
   obtain⟨b,o,e,h'⟩:=hs j u h;exact⟨b,o,e,hg.stab _ _ _ h'⟩) hn hcap hm
 |_,_,.lcap hc hz hf hl hs hn hm=>.lcap (RepL.rfd hg.stab hf hc) hz hf hl (fun j u h=>by
   obtain⟨b,o,e,h'⟩:=hs j u h;exact⟨b,o,e,hg.stab _ _ _ h'⟩) hn hm
 |_,_,.agg h=>.agg (RepL.scrub hg h)
 |_,_,.tup h=>.tup (RepL.scrub hg h)
 |_,_,.iface h=>.iface (Rep.scrub hg h)
 |_,_,.fn ha hb=>.fn (RepL.scrub hg ha) (RepL.scrub hg hb)
 |.ptr l t o,_,.ptr h=>by
   cases l with
   |zero=>
    show Rep G' (bif Nat.beq t s then .top else .ptr 0 t o) _;cases hb:Nat.beq t s with
    |true=>exact .top _
    |false=>exact .ptr (hg.nm 0 t _ (fun _ e=>by subst e;simp at hb) h)
   |succ l=>exact .ptr (hg.nm _ _ _ (fun e=>by cases e) h)
 |_,_,.mp h=>.mp (hg.stab _ _ _ h)
 |.mptr l t,_,.mptr h=>by
   cases l with
   |zero=>
    show Rep G' (bif Nat.beq t s then .top else .mptr 0 t) _;cases hb:Nat.beq t s with
    |true=>exact .top _
    |false=>exact .mptr (hg.nm 0 t _ (fun _ e=>by subst e;simp at hb) h)
   |succ l=>exact .mptr (hg.nm _ _ _ (fun e=>by cases e) h)
 |_,_,.vec (l:=l) (s:=s) hv hl h=>.vec hv (QYL hl (hg.vg _ _)) (fun e=>by
   have h1:=hg.vg l s;obtain⟨a1,a2,a3⟩:=hg.vs l s (by omega);rw[a1,a2,a3];exact h (by omega))
 |_,_,.vptr (l:=l) (s:=s) hv hl h=>.vptr hv (QYL hl (hg.vg _ _)) (fun e=>by
   have h1:=hg.vg l s;obtain⟨a1,_,a3⟩:=hg.vs l s (by omega);rw[a1,a3];exact h (by omega))
 |_,_,.rptr hc hf hl hs=>.rptr (RepL.rfd hg.stab hf hc) hf hl (fun j u h=>hg.stab _ _ _ (hs j u h))
theorem RepL.scrub {G G':Gh}{s:Nat}(hg:Gnew s G G'):∀ {x:List AV} {v:List Value},RepL G x v→RepL G' (AV.scrubL s x) v
 |_,_,.nil=>.nil
 |_,_,.cons h t=>.cons (Rep.scrub hg h) (RepL.scrub hg t)
end

def Gh.mine (G:Gh)(b:Nat):Prop:=(∃l s,G.nm l s=some b)∨∃l s,G.vm l s=some b

def Zr (s t:Nat):Bool:=decide (s<2000)||t+2000==s

def XH (s:Nat)(w:World)(b:Nat)(cs:Array Value):Prop:=∃t lo hi,w.heap[b]? = some (.cells cs t (lo,hi))∧Zr s t=true∧∀o,o<cs.size→¬(lo≤o∧o<hi)

theorem XH.cell {s:Nat}{w:World}{b:Nat}{cs:Array Value}(h:XH s w b cs)(i:Nat):w.cell? ⟨b,i,none⟩=cs[i]?:=by
 obtain⟨t,lo,hi,hh,_⟩:=h;exact cell_of_row w b i cs t (lo,hi) hh
theorem XH.lt {s:Nat}{w:World}{b:Nat}{cs:Array Value}(h:XH s w b cs):b<w.heap.size:=by
 obtain⟨t,lo,hi,hh,_⟩:=h;exact(QYQ.1 hh).1
theorem XH.frozen {s:Nat}{w:World}{b:Nat}{cs:Array Value}(h:XH s w b cs){i:Nat}(hi':i<cs.size):w.frozen? ⟨b,i,none⟩=false:=by
 obtain⟨t,lo,hi,hh,_,hf⟩:=h;have:=hf i hi';simp[World.frozen?,hh];omega
theorem XH.of {s:Nat}{w w':World}{b:Nat}{cs:Array Value}(h:XH s w b cs)(e:w'.heap[b]? = w.heap[b]?):XH s w' b cs:=by
 obtain⟨t,lo,hi,hh,hf⟩:=h;exact⟨t,lo,hi,e.trans hh,hf⟩
theorem XH.uniq {s s':Nat}{w:World}{b:Nat}{cs cs':Array Value}(h:XH s w b cs)(h':XH s' w b cs'):cs=cs':=by
 obtain⟨t,lo,hi,hh,hf⟩:=h;obtain⟨t',lo',hi',hh',hf'⟩:=h';rw[hh]at hh';cases hh';rfl
theorem XH.set {s:Nat}{w:World}{b:Nat}{cs:Array Value}(h:XH s w b cs)(i:Nat)(v:Value):XH s (w.setCell ⟨b,i,none⟩ v) b (cs.setIfInBounds i v):=by
 obtain⟨t,lo,hi,hh,hf⟩:=h;refine⟨t,lo,hi,?_,by simpa using hf⟩;simp[World.setCell,Array.getElem?_modify,hh]
theorem XH.new {s:Nat}(w:World)(cs:Array Value)(t:TypeId)(ht:Zr s t=true):XH s (w.alloc (.cells cs t)) w.heap.size cs :=
 ⟨t,0,0,heap_alloc_new w _,ht,fun _ _=>by omega⟩

structure RowIs (G:Gh)(s:Nat)(w:World)(b cap sz:Nat)(xs:List AV):Prop where
 cur:∃cur,XH s w b cur∧cur.size=cap*sz∧RepL G (QP xs) (cur.toList.take (xs.length*sz))
 le:xs.length≤cap
 max:cap≤maxLen

theorem RowIs.of {G G':Gh}{s:Nat}{w w':World}{b cap sz:Nat}{xs:List AV}(h:RowIs G s w b cap sz xs)(e:w'.heap[b]? = w.heap[b]?)(hr:∀vs,RepL G (QP xs) vs→RepL G' (QP xs) vs):RowIs G' s w' b cap sz xs:=by
 obtain⟨⟨cur,hc,hz,hx⟩,hl,hm⟩:=h;exact⟨⟨cur,hc.of e,hz,hr _ hx⟩,hl,hm⟩

structure Elems (sz:Nat)(xs:List AV):Prop where
 size:∀x∈xs,x.cells.length=sz
 rf:AV.rfL (QP xs)=true
 leaf:(QP xs).all AV.leaf=true

def Ob.isRow:Ob→Bool
 |.vec .. => true
 |_=>false

def Ob.isVar:Ob→Bool
 |.cells _=>true
 |.iter .. => true
 |_=>false
theorem Ob.scrub_isVar (o:Ob)(s:Nat):(o.scrub s).isVar=o.isVar:=by cases o<;>rfl

theorem YP {w:World}{b o:Nat}{v:SV}(h:rd w b o v):b<w.heap.size:=by
 cases v with
 |cell v=>exact World.block_lt_of_cell? w (a:=⟨b,o,none⟩) h
 |mapo es c=>exact(QYQ.1 h).1
 |siz n=>
  obtain⟨_,_,_,h,_⟩:=h;exact(QYQ.1 h).1
theorem JF {w w':World}{b o:Nat}{v:SV}(hb:w'.heap[b]? = w.heap[b]?)(h:rd w b o v):rd w' b o v:=by
 cases v with
 |cell v=>exact(World.cell?_of_block (a:=⟨b,o,none⟩) hb).trans h
 |mapo es c=>exact hb.trans h
 |siz n=>
  obtain⟨cs,t,fz,h,h2⟩:=h;exact⟨cs,t,fz,hb.trans h,h2⟩
theorem Bc {w:World}{b o:Nat}{v:SV}(h:sv w b o=some v):rd w b o v:=by
 have key:∀v,(w.cell? ⟨b,o,none⟩).map SV.cell=some v→rd w b o v:=fun v h=>by
  obtain⟨u,hc,rfl⟩:=QYP.1 h;exact hc
 unfold sv at h;split at h
 ·cases h;assumption
 ·rename_i cs t fz hh;split at h
  ·rename_i ho;cases h;exact⟨cs,t,fz,hh,ho.symm,rfl⟩
  ·exact key v h
 ·exact key v h
theorem UW {w:World}{b o:Nat}{u:Value}(h:w.cell? ⟨b,o,none⟩=some u):sv w b o=some (.cell u):=by
 unfold sv;split
 ·rename_i hm;rw[World.cell?]at h;simp only[hm]at h;cases h
 ·rename_i cs t fz hh;rw[QYR,h]
  ·rfl
  ·intro ho;rw[cell_of_row w b o cs t fz hh]at h;have:=(QYQ.1 h).1;omega
 ·rw[h];rfl
theorem Bd {w:World}{b o:Nat}{v:SV}(h:rd w b o v):sv w b o=some v:=by
 cases v with
 |cell v=>exact UW h
 |mapo es c=>
  have h:w.heap[b]? = some (.map es c):=h;unfold sv;rw[h]
 |siz n=>
  obtain⟨cs,t,fz,h,h2,h3⟩:=h;unfold sv;rw[h];dsimp only;rw[QYS (by omega),h3]

structure MR (G:Gh)(m:Qk)(w:World):Prop where
 stab:∀b o v,G.stab b o=some v→rd w b o v
 cells:∀l s xs,Qh m l s=.cells xs→∃b cs,G.nm l s=some b∧XH s w b cs∧RepL (G.dn l) xs cs.toList
 nm:∀l s b,G.nm l s=some b→(Qh m l s).isVar=true∧∀o,G.stab b o=none
 vec:∀l s g sz xs,Qh m l s=.vec g sz xs→G.vg l s=g∧G.vz l s=sz∧Elems sz xs∧((G.vm l s=none∧xs=[])∨∃b,G.vm l s=some b∧RowIs G s w b (G.vc l s) sz xs)
 vm:∀l s b,G.vm l s=some b→(∃g sz xs,Qh m l s=.vec g sz xs)∧∀o,G.stab b o=none
 gone:∀l s,(Qh m l s).isRow=false→G.vg l s=0
 inj1:∀l s l' s' b,G.nm l s=some b→G.nm l' s'=some b→l=l'∧s=s'
 inj2:∀l s l' s' b,G.vm l s=some b→G.vm l' s'=some b→l=l'∧s=s'
 inj3:∀l s l' s' b,G.nm l s=some b→G.vm l' s'≠some b
 iter:∀l s t p,Qh m l s=.iter t p→∃b,G.nm l s=some b∧w.heap[b]? = some (t.obj p)

theorem MR.mine {G:Gh}{m:Qk}{w:World}(h:MR G m w){b:Nat}(hb:G.mine b):b<w.heap.size∧∀o,G.stab b o=none:=by
 rcases hb with⟨l,s,e⟩|⟨l,s,e⟩
 ·obtain⟨hx,hs⟩:=h.nm l s b e;cases hl:Qh m l s with
  |cells xs=>
   obtain⟨b',cs,e',hc,_⟩:=h.cells l s xs hl;rw[e]at e';cases e';exact⟨hc.lt,hs⟩
  |iter t p=>
   obtain⟨b',e',hh⟩:=h.iter l s t p hl;rw[e]at e';cases e';exact⟨(QYQ.1 hh).1,hs⟩
  |none=>rw[hl]at hx;cases hx
  |vec g z xs=>rw[hl]at hx;cases hx
 ·obtain⟨⟨g,sz,xs,hx⟩,hs⟩:=h.vm l s b e;obtain⟨_,_,_,hv⟩:=h.vec l s g sz xs hx;rcases hv with⟨e',_⟩|⟨b',e',hr⟩
  ·rw[e]at e';cases e'
  ·rw[e]at e';cases e';obtain⟨cur,hc,_⟩:=hr.cur;exact⟨hc.lt,hs⟩

structure Ext (k:Nat)(G:Gh)(w:World)(G':Gh)(w':World):Prop where
 os:w'.os=w.os
 tape:w'.tape=w.tape
 output:w'.output=w.output
 size:w.heap.size≤w'.heap.size
 stab:∀b o v,G.stab b o=some v→G'.stab b o=some v
 nm:∀l s,k≤l→G'.nm l s=G.nm l s
 vg:∀l s,G.vg l s≤G'.vg l s
 vs:∀l s,G'.vg l s=G.vg l s→G'.vm l s=G.vm l s∧G'.vc l s=G.vc l s∧G'.vz l s=G.vz l s
 old:∀b,b<w.heap.size→¬G.mine b→w'.heap[b]? = w.heap[b]?∧∀o,G'.stab b o=G.stab b o
 mine:∀b,G'.mine b→G.mine b∨w.heap.size≤b
 mv:∀l s b,G'.vm l s=some b→(∃i t,i≤l∧G.vm i t=some b)∨w.heap.size≤b

theorem Ext.refl (k:Nat)(G:Gh)(w:World):Ext k G w G w :=
 ⟨rfl,rfl,rfl,QYK _,fun _ _ _ h=>h,fun _ _ _=>rfl,fun _ _=>QYK _,fun _ _ _=>⟨rfl,rfl,rfl⟩,fun _ _ _=>⟨rfl,fun _=>rfl⟩,fun _ h=>.inl h,fun l s _ h=>.inl ⟨l,s,QYK _,h⟩⟩

theorem Ext.trans {k:Nat}{G G1 G2:Gh}{w w1 w2:World}(h:Ext k G w G1 w1)(j:Ext k G1 w1 G2 w2):Ext k G w G2 w2 where
 os:=j.os.trans h.os
 tape:=j.tape.trans h.tape
 output:=j.output.trans h.output
 size:=QYL h.size j.size
 stab _ _ _ e:=j.stab _ _ _ (h.stab _ _ _ e)
 nm l s hl:=(j.nm l s hl).trans (h.nm l s hl)
 vg l s:=QYL (h.vg l s) (j.vg l s)
 vs l s e:=by
  have h1:=h.vg l s;have h2:=j.vg l s;obtain⟨a1,a2,a3⟩:=h.vs l s (by omega);obtain⟨b1,b2,b3⟩:=j.vs l s (by omega);exact⟨b1.trans a1,b2.trans a2,b3.trans a3⟩
 old b hb hm:=by
  obtain⟨a1,a2⟩:=h.old b hb hm;have hm1:¬G1.mine b:=fun hx=>by
   rcases h.mine b hx with h'|h'
   ·exact hm h'
   ·omega
  obtain⟨b1,b2⟩:=j.old b (Nat.lt_of_lt_of_le hb h.size) hm1;exact⟨b1.trans a1,fun o=>(b2 o).trans (a2 o)⟩
 mine:=fun b hb=>by
  rcases j.mine b hb with h'|h'
  ·exact h.mine b h'
  ·exact .inr (QYL h.size h')
 mv:=fun l s b hb=>by
  rcases j.mv l s b hb with⟨i,t,hi,h'⟩|h'
  ·rcases h.mv i t b h' with⟨i',t',hi',h''⟩|h''
   ·exact .inl ⟨i',t',QYL hi' hi,h''⟩
   ·exact .inr h''
  ·exact .inr (QYL h.size h')

theorem Ext.mono {k k':Nat}{G G':Gh}{w w':World}(h:Ext k G w G' w')(hk:k≤k'):Ext k' G w G' w' :=
 { h with nm:=fun l s hl=>h.nm l s (QYL hk hl) }

theorem Ext.gle {G G':Gh}{w w':World}(h:Ext 0 G w G' w'):Gle G G' :=
 ⟨h.stab,fun l s _ e=>(h.nm l s (QYT _)).trans e,h.vg,h.vs⟩

inductive RepD (G:Gh):DF→Deferred→Prop
 |mk {fn:Fn} {cap args:List AV} {vc va:List Value} (hc:RepL G cap vc) (ha:RepL G args va):RepD G ⟨fn,cap,args⟩ { target:=.fn fn ⟨vc⟩,args:=⟨va⟩ }
inductive RepDs (G:Gh):List DF→List Deferred→Prop
 |nil:RepDs G [] []
 |cons {d:DF} {v:Deferred} {l:List DF} {vs:List Deferred} (h:RepD G d v) (t:RepDs G l vs):RepDs G (d :: l) (v :: vs)

theorem RepDs.mono {G G':Gh}(hg:Gle G G'){l:List DF}{vs:List Deferred}(h:RepDs G l vs):RepDs G' l vs:=by
 induction h with
 |nil=>exact .nil
 |cons h _ ih=>cases h with|mk hc ha=>exact .cons (.mk (hc.mono hg) (ha.mono hg)) ih

theorem RepDs.scrub {G G':Gh}{s:Nat}(hg:Gnew s G G'){l:List DF}{vs:List Deferred}(h:RepDs G l vs):RepDs G' (l.map (DF.scrub s)) vs:=by
 induction h with
 |nil=>exact .nil
 |cons h _ ih=>cases h with|mk hc ha=>exact .cons (.mk (hc.scrub hg) (ha.scrub hg)) ih

structure Rel (G:Gh)(B N:Nat)(st:St)(a:Act)(w:World):Prop where
 mr:MR G st.m w
 size:a.tmps.size=N
 slots:∀i,Rep G (st.f i) (a.tmps.getD i undef)
 ds:RepDs G st.ds a.defers
 base:∀s b,G.nm 0 s=some b∨G.vm 0 s=some b→B≤b
 top:B≤w.heap.size
 ne:st.m≠[]

theorem MR.drew {G:Gh}{m:Qk}{w:World}(h:MR G m w):MR G m w.drew:=⟨h.stab,h.cells,h.nm,fun l s g sz xs e=>by
  obtain⟨a,b,c,d⟩:=h.vec l s g sz xs e;exact⟨a,b,c,d.imp id fun⟨b',e',r⟩=>⟨b',e',r.of rfl fun _ h=>h⟩⟩,h.vm,h.gone,h.inj1,h.inj2,h.inj3,h.iter⟩
theorem Rel.drew {G:Gh}{B N:Nat}{st:St}{a:Act}{w:World}(h:Rel G B N st a w):Rel G B N st a w.drew :=
 ⟨h.mr.drew,h.size,h.slots,h.ds,h.base,h.top,h.ne⟩
theorem Ext.drew {k:Nat}(G:Gh)(w:World):Ext k G w G w.drew :=
 ⟨rfl,rfl,rfl,QYK _,fun _ _ _ h=>h,fun _ _ _=>rfl,fun _ _=>QYK _,fun _ _ _=>⟨rfl,rfl,rfl⟩,fun _ _ _=>⟨rfl,fun _=>rfl⟩,fun _ h=>.inl h,fun l s _ h=>.inl ⟨l,s,QYK _,h⟩⟩

def Qn (f:Fr)(d:Option Nat)(x:AV):Fr :=
 match d with
 |some d=>Qt f d x
 |none=>f

theorem Act.put_size (a:Act)(d:Option Tmp)(v:Value):(a.put d v).tmps.size=a.tmps.size:=by
 cases d<;>simp[Act.put]
theorem Act.put_defers' (a:Act)(d:Option Tmp)(v:Value):(a.put d v).defers=a.defers:=by
 cases d<;>rfl

theorem P6 {G:Gh}{f:Fr}{a:Act}(hs:∀i,Rep G (f i) (a.tmps.getD i undef)){d:Option Nat}(hd:∀k,d=some k→k<a.tmps.size){x:AV}{v:Value}(hx:Rep G x v) :
  ∀i,Rep G (Qn f d x i) ((a.put d v).tmps.getD i undef):=by
 intro i;cases d with
 |none=>exact hs i
 |some d=>
  have hlt:=hd d rfl;by_cases hi:i=d
  ·subst hi;simp only[Qn,QY,Act.put,QYU,QYV]
   simpa [hlt]using hx
  ·simp only[Qn,Q2 _ _ hi,Act.put,QYU];rw[Array.getElem?_setIfInBounds_ne (fun e=>hi e.symm)]
   simpa [QYU]using hs i

theorem Rel.put {G:Gh}{B N:Nat}{st:St}{a:Act}{w:World}(h:Rel G B N st a w){d:Option Nat}(hd:∀k,d=some k→k<N){x:AV}{v:Value}(hx:Rep G x v) :
  Rel G B N { st with f:=Qn st.f d x } (a.put d v) w :=
 ⟨h.mr,by rw[Act.put_size];exact h.size,P6 h.slots (by rw[h.size];exact hd) hx,by rw[Act.put_defers'];exact h.ds,h.base,h.top,h.ne⟩

theorem Qv {m:Qk}{l s:Nat}{o:Ob}(h:l<m.length):Qh (Am.put m l s o) l s=o:=by
 induction m generalizing l with
 |nil=>simp at h
 |cons fr m ih=>
  cases l with
  |zero=>exact QY _ _ _
  |succ l=>exact ih (by simpa using h)
theorem QA {m:Qk}{l s l' s':Nat}{o:Ob}(h:l'≠l∨s'≠s):Qh (Am.put m l s o) l' s'=Qh m l' s':=by
 induction m generalizing l l' with
 |nil=>rfl
 |cons fr m ih=>
  cases l with
  |zero=>
   cases l' with
   |zero=>exact Q2 _ _ (by simpa using h)
   |succ l'=>rfl
  |succ l=>
   cases l' with
   |zero=>rfl
   |succ l'=>exact ih (by simpa using h)
theorem Xb {m:Qk}{l s:Nat}(h:Qh m l s≠.none):l<m.length:=by
 induction m generalizing l with
 |nil=>exact absurd rfl h
 |cons fr m ih=>
  cases l with
  |zero=>simp
  |succ l=>have:=ih (l:=l) h;simp;omega
theorem J4 {m:Qk}{l s:Nat}{o:Ob}(h:m≠[]):Am.put m l s o≠[]:=by
 cases m with
 |nil=>exact absurd rfl h
 |cons fr m=>cases l<;>simp[Am.put]

theorem Zt (b o i:Nat):(⟨b,o,none⟩:Addr).add i=⟨b,o+i,none⟩:=by
 unfold Addr.add;split
 ·rename_i h;subst h;rfl
 ·rfl

def AV.shNL:Nat→List AV→List AV
 |0,x=>x
 |n+1,x=>AV.shL (AV.shNL n x)

theorem RepL.shNL (n:Nat):∀ {G:Gh} {x:List AV} {v:List Value},RepL (G.dn n) x v→RepL G (AV.shNL n x) v:=by
 induction n with
 |zero=>intro G x v h;exact h
 |succ n ih=>
  intro G x v h;show RepL G (AV.shL (AV.shNL n x)) v;refine RepL.sh (ih ?_);rw[Gh.dn_dn];exact h

def AV.unNL:Nat→List AV→Option (List AV)
 |0,x=>some x
 |n+1,x=>(AV.unL x).bind (AV.unNL n)

theorem RepL.unNL (n:Nat):∀ {G:Gh} {x y:List AV} {v:List Value},RepL G x v→AV.unNL n x=some y→RepL (G.dn n) y v:=by
 induction n with
 |zero=>intro G x y v h e;cases e;exact h
 |succ n ih=>
  intro G x y v h e;simp only[AV.unNL,Option.bind_eq_some_iff]at e;obtain⟨z,e1,e2⟩:=e;have:=ih (h.un z e1) e2;rw[Gh.dn_dn]at this;exact this

theorem Rep.cells_leaf {G:Gh}{x:AV}{v:Value}(h:Rep G x v)(hl:x.leaf=true):v.cells = #[v]:=by
 have:=h.leaf hl;cases v<;>first|rfl|(simp[Value.oneCell']at this)

theorem Rep.cells {G:Gh}{x:AV}{v:Value}(h:Rep G x v)(hl:x.cells.all AV.leaf=true):RepL G x.cells v.cells.toList:=by
 cases h with
 |agg h=>exact h
 |top=>simp[AV.cells,AV.leaf]at hl
 |tup=>simp[AV.cells,AV.leaf]at hl
 |vec hv hg h=>
  have e:=Rep.cells_leaf (Rep.vec hv hg h) rfl;rw[e];exact .cons (.vec hv hg h) .nil
 |vptr hv hg h=>
  have e:=Rep.cells_leaf (Rep.vptr hv hg h) rfl;rw[e];exact .cons (.vptr hv hg h) .nil
 |int=>exact .cons (.int _ _) .nil
 |bool=>exact .cons (.bool _) .nil
 |str=>exact .cons (.str _) .nil
 |nils=>exact .cons .nils .nil
 |nilp=>exact .cons .nilp .nil
 |nilf=>exact .cons .nilf .nil
 |nili=>exact .cons .nili .nil
 |nilm=>exact .cons .nilm .nil
 |anyp p=>exact .cons (.anyp p) .nil
 |list a b c d e f g i=>exact .cons (.list a b c d e f g i) .nil
 |lcap a b c d e f g=>exact .cons (.lcap a b c d e f g) .nil
 |iface h=>exact .cons (.iface h) .nil
 |fn a b=>exact .cons (.fn a b) .nil
 |ptr h=>exact .cons (.ptr h) .nil
 |mp h=>exact .cons (.mp h) .nil
 |mptr h=>exact .cons (.mptr h) .nil
 |rptr a b c d=>exact .cons (.rptr a b c d) .nil

theorem RepL.leaves {G:Gh}{l:List AV}{vs:List Value}(h:RepL G l vs)(hl:l.all AV.leaf=true):∀v∈vs,v.oneCell'=true:=by
 intro v hv;obtain⟨i,hi⟩:=QYW.1 hv;obtain⟨x,hx,r⟩:=h.back hi;exact r.leaf (QYX.1 hl x (QYY hx))

structure Turned (b:Nat)(w w':World):Prop where
 os:w'.os=w.os
 tape:w'.tape=w.tape
 output:w'.output=w.output
 size:w'.heap.size=w.heap.size
 heap:∀k,k≠b→w'.heap[k]? = w.heap[k]?

theorem Turned.refl (b:Nat)(w:World):Turned b w w:=⟨rfl,rfl,rfl,rfl,fun _ _=>rfl⟩
theorem Turned.trans {b:Nat}{w w1 w2:World}(h:Turned b w w1)(j:Turned b w1 w2):Turned b w w2 :=
 ⟨j.os.trans h.os,j.tape.trans h.tape,j.output.trans h.output,j.size.trans h.size,fun k hk=>(j.heap k hk).trans (h.heap k hk)⟩
theorem Turned.set (w:World)(b i:Nat)(v:Value):Turned b w (w.setCell ⟨b,i,none⟩ v) :=
 ⟨rfl,rfl,rfl,by simp,fun k hk=>by
  simp only[World.setCell,Array.getElem?_modify];rw[QYR (fun e=>hk e.symm)]⟩
theorem Turned.cell {b:Nat}{w w':World}(h:Turned b w w'){k:Nat}(hk:k≠b)(o:Nat):w'.cell? ⟨k,o,none⟩=w.cell? ⟨k,o,none⟩ :=
 World.cell?_of_block (a:=⟨k,o,none⟩) (h.heap k hk)

theorem X7 (P:Program)(s b off:Nat):∀(vs:List Value) (i:Nat) (w:World) (cur:Array Value),XH s w b cur→off+i+vs.length≤cur.size→(∀v∈vs,v.oneCell'=true)→
  ∃w',(storeCells ⟨b,off,none⟩ vs i).run P w=.ok () w'∧XH s w' b (cur.toList.take (off+i)++vs++cur.toList.drop (off+i+vs.length)).toArray∧Turned b w w'
 | [],i,w,cur,hc,hf,h1=>⟨w,rfl,by simpa using hc,Turned.refl b w⟩
 |v :: vs,i,w,cur,hc,hf,h1=>by
  simp only[QYZ]at hf;obtain⟨w',hr,hs,ht⟩:=X7 P s b off vs (i+1) (w.setCell ⟨b,off+i,none⟩ v) (cur.setIfInBounds (off+i) v) (hc.set (off+i) v) (by simp;omega) (fun u hu=>h1 u (QY0 _ hu));refine⟨w',?_,?_,(Turned.set w b (off+i) v).trans ht⟩
  ·have hcell:w.cell? ⟨b,off+i,none⟩=some (cur[off+i]'(by omega)):=by rw[hc.cell];exact QY1 _
   have hfr:w.frozen? ⟨b,off+i,none⟩=false:=hc.frozen (by omega);simp only[storeCells,Zt,Sem.run_bind,run_store P w _ v _ (h1 v (QY2 ..)),hcell,hfr,QY3,if_false,Result.andThen_ok];exact hr
  ·have e:((cur.setIfInBounds (off+i) v).toList.take (off+(i+1))++vs++(cur.setIfInBounds (off+i) v).toList.drop (off+(i+1)+vs.length))=cur.toList.take (off+i)++(v :: vs)++cur.toList.drop (off+i+(vs.length+1)):=by
    rw[Array.toList_setIfInBounds];have hlt:off+i<cur.toList.length:=by simp;omega
    rw[show off+(i+1)=off+i+1 by omega,List.take_succ_eq_append_getElem (by simpa using hlt)];rw[List.drop_set_of_lt (by omega),List.take_set_of_le (QYK _)];simp only[List.getElem_set_self,QY4,QY5,QY6];congr 4
    omega
   rw[e]at hs;exact hs

def splice (xs:List AV)(o:Nat)(ys:List AV):List AV:=xs.take o++ys++xs.drop (o+ys.length)

theorem Uh {xs ys:List AV}{o:Nat}(h:o+ys.length≤xs.length):(splice xs o ys).length=xs.length:=by
 simp[splice];omega

theorem RepL.splice {G:Gh}{xs ys:List AV}{vs us:List Value}(h:RepL G xs vs)(h':RepL G ys us)(o:Nat):RepL G (splice xs o ys) (vs.take o++us++vs.drop (o+us.length)):=by
 rw[h'.length];exact((h.take o).append h').append (h.drop _)

theorem MR.stored {G:Gh}{m:Qk}{w w':World}(h:MR G m w){l s b:Nat}{xs:List AV}(hx:Qh m l s=.cells xs)(hb:G.nm l s=some b)(ht:Turned b w w'){ys:List AV}{cs:Array Value}(hs:XH s w' b cs)(hy:RepL (G.dn l) ys cs.toList) :
  MR G (Am.put m l s (.cells ys)) w' where
 stab k o v e:=by
  have hk:k≠b:=by rintro rfl;rw[(h.nm l s k hb).2 o]at e;cases e
  exact JF (ht.heap k hk) (h.stab k o v e)
 cells l' s' zs e:=by
  by_cases hh:l'=l∧s'=s
  ·obtain⟨rfl,rfl⟩:=hh;rw[Qv (Xb (by rw[hx];simp))]at e;cases e;exact⟨b,cs,hb,hs,hy⟩
  ·rw[QA (by omega)]at e;obtain⟨b',cs',e',hc,hr⟩:=h.cells l' s' zs e;exact⟨b',cs',e',hc.of (ht.heap b' (fun eb=>hh (by subst eb;exact h.inj1 _ _ _ _ _ e' hb))),hr⟩
 nm l' s' b' e:=by
  obtain⟨hz,h2⟩:=h.nm l' s' b' e;refine⟨?_,h2⟩;by_cases hh:l'=l∧s'=s
  ·obtain⟨rfl,rfl⟩:=hh;rw[Qv (Xb (by rw[hx];simp))];rfl
  ·rw[QA (by omega)];exact hz
 vec l' s' g sz zs e:=by
  by_cases hh:l'=l∧s'=s
  ·obtain⟨rfl,rfl⟩:=hh;rw[Qv (Xb (by rw[hx];simp))]at e;cases e
  ·rw[QA (by omega)]at e;obtain⟨a1,a2,a3,a4⟩:=h.vec l' s' g sz zs e;refine⟨a1,a2,a3,a4.imp id fun⟨b',e',r⟩=>⟨b',e',r.of (ht.heap b' ?_) fun _ h=>h⟩⟩;rintro rfl;exact h.inj3 _ _ _ _ _ hb e'
 vm l' s' b' e:=by
  obtain⟨⟨g,sz,zs,hz⟩,h2⟩:=h.vm l' s' b' e;refine⟨?_,h2⟩;by_cases hh:l'=l∧s'=s
  ·obtain⟨rfl,rfl⟩:=hh;rw[hx]at hz;cases hz
  ·exact⟨g,sz,zs,by rw[QA (by omega)];exact hz⟩
 gone l' s' e:=by
  by_cases hh:l'=l∧s'=s
  ·obtain⟨rfl,rfl⟩:=hh;exact h.gone l' s' (by rw[hx];rfl)
  ·rw[QA (by omega)]at e;exact h.gone l' s' e
 inj1:=h.inj1
 inj2:=h.inj2
 inj3:=h.inj3
 iter l' s' t p e:=by
  by_cases hh:l'=l∧s'=s
  ·obtain⟨rfl,rfl⟩:=hh;rw[Qv (Xb (by rw[hx];simp))]at e;cases e
  ·rw[QA (by omega)]at e;obtain⟨b',e',hc⟩:=h.iter l' s' t p e;exact⟨b',e',(ht.heap b' (fun eb=>hh (by subst eb;exact h.inj1 _ _ _ _ _ e' hb))).trans hc⟩

theorem Ext.turned {k:Nat}{G:Gh}{w w':World}{b:Nat}(ht:Turned b w w')(hm:G.mine b):Ext k G w G w' :=
 ⟨ht.os,ht.tape,ht.output,by rw[ht.size];exact QYK _,fun _ _ _ h=>h,fun _ _ _=>rfl,fun _ _=>QYK _,fun _ _ _=>⟨rfl,rfl,rfl⟩,
  fun b' _ hn=>⟨ht.heap b' (fun e=>hn (e▸hm)),fun _=>rfl⟩,fun _ h=>.inl h,fun l s _ h=>.inl ⟨l,s,QYK _,h⟩⟩

theorem Gj {m:Qk}{s t:Nat}:Qh (K4 s m) 0 t=(Qh m 0 t).scrub s:=by
 cases m<;>rfl
theorem Gk {m:Qk}{s l t:Nat}:Qh (K4 s m) (l+1) t=Qh m (l+1) t:=by
 cases m<;>rfl
theorem Fy {m:Qk}{s:Nat}(h:m≠[]):K4 s m≠[]:=by
 cases m with
 |nil=>exact absurd rfl h
 |cons fr m=>simp[K4]
theorem Ob.scrub_cells {o:Ob}{s:Nat}{xs:List AV}(h:o.scrub s=.cells xs):∃ys,o=.cells ys∧xs=AV.scrubL s ys:=by
 cases o<;>simp[Ob.scrub]at h;exact⟨_,rfl,h.symm⟩
theorem Ob.scrub_iter {o:Ob}{s p:Nat}{t:IT}(h:o.scrub s=.iter t p):o=.iter t p:=by
 cases o<;>simp[Ob.scrub]at h;obtain⟨rfl,rfl⟩:=h;rfl
theorem Ob.scrub_vec {o:Ob}{s g sz:Nat}{xs:List AV}(h:o.scrub s=.vec g sz xs):o=.vec g sz xs:=by
 cases o<;>simp[Ob.scrub]at h;obtain⟨rfl,rfl,rfl⟩:=h;rfl

def Gh.fresh (G:Gh)(s b:Nat):Gh :=
 { G with nm:=fun l t=>if l=0∧t=s then some b else G.nm l t }

def YQ (m:Qk)(s:Nat):Bool :=
 match Qh m 0 s with
 |.vec .. => false
 |_=>true

inductive RA where
 |t (n:Nat)
 |c (x:AV)
 |f (k:FuncId)
 |g (k:Nat) (l:List AV)

def RA.ev (f:Fr):RA→AV
 |.t n=>f n
 |.c x=>x
 |.f k=>.fn (.func k) [] []
 |.g _ l=>.rptr l

inductive Ty where
 |num|str|bool|ptr|iface|other
 deriving DecidableEq

inductive VO where
 |mov (x:RA)
 |pick (c a b:RA)
 |build (z:List AV) (ps:List (Nat×Nat×RA))
 |load (k:Option Nat) (x:RA)
 |loadv (l s:Nat) (k:Option Nat) (x:RA)
 |loado (k:Option Nat) (x:RA)
 |nilck (x:RA)
 |bin (ty:Ty) (op:BinOp) (x y:RA)
 |eqs (neg:Bool) (ks:List Ty) (x y:RA)
 |un (op:UnOp) (x:RA)
 |cvi (k:IntKind) (x:RA)
 |slc (sz:Option Nat) (x:RA) (lo hi mx:Option RA)
 |faddr (off:Nat) (x:RA)
 |fld (off:Nat) (k:Option Nat) (x:RA)
 |iaddr (sz:Nat) (len:Option Nat) (x i:RA)
 |idx (x i:RA)
 |ext (x:RA) (i:Nat)
 |len (k:Nat) (x:RA)
 |mnx (mx:Bool) (x y:RA)
 |mkfn (f:Fn) (first cap:List RA)
 |loadr (k:Option Nat) (x:RA)
 |same (x:RA)
 |mget (ok:Bool) (z:AV) (x i:RA)
 |mgetp (ok:Bool) (z:AV) (x i:RA)
 |aidx (n sz:Nat) (k:Option Nat) (x i:RA)
 |mki (t:Nat) (x:RA)
 |tas (t:Nat) (ok:Bool) (z:AV) (x:RA)

def XO (op:BinOp)(k:IntKind)(a b:Int):Option AV :=
 match op with
 |.add=>some (.int k (k.wrap (a+b)))
 |.sub=>some (.int k (k.wrap (a-b)))
 |.mul=>some (.int k (k.wrap (a*b)))
 |.quo=>if b=0 then none else some (.int k (k.wrap (a.tdiv b)))
 |.rem=>if b=0 then none else some (.int k (a.tmod b))
 |.and=>some (.int k (bits .and k a b))
 |.or=>some (.int k (bits .or k a b))
 |.xor=>some (.int k (bits .xor k a b))
 |.andNot=>some (.int k (bits .andNot k a b))
 |.eql=>some (.bool (a==b))
 |.neq=>some (.bool (a != b))
 |.lss=>some (.bool (a<b))
 |.leq=>some (.bool (a≤b))
 |.gtr=>some (.bool (b<a))
 |.geq=>some (.bool (b≤a))
 |_=>none

def Qs (op:BinOp)(a b:List UInt8):Option AV :=
 match op with
 |.add=>if a.length+b.length≤9223372036854775807 then some (.str (a++b))else none
 |.eql=>some (.bool (a==b))
 |.neq=>some (.bool (!(a==b)))
 |.lss=>some (.bool (Op.bytesLess a b))
 |.leq=>some (.bool (Op.bytesLess a b||a==b))
 |.gtr=>some (.bool (!(Op.bytesLess a b||a==b)))
 |.geq=>some (.bool (!Op.bytesLess a b))
 |_=>none

def Xp (ty:Ty)(op:BinOp)(x y:AV):Option AV :=
 match x,y with
 |.int k a,.int k' b=>
  match op with
  |.shl=>if 0≤b then some (.int k (k.wrap (a*2 ^ (min b.toNat k.bits))))else none
  |.shr=>if 0≤b then some (.int k (a.fdiv (2 ^ (min b.toNat k.bits))))else none
  |op=>if k=k' then XO op k a b else none
 |.str a,.str b=>Qs op a b
 |.bool a,.bool b=>
  match ty,op with
  |.bool,.eql=>some (.bool (a==b))
  |.bool,.neq=>some (.bool (!(a==b)))
  |_,_=>none
 |.nilp,.nilp=>
  match ty,op with
  |.ptr,.eql=>some (.bool true)
  |.ptr,.neq=>some (.bool false)
  |_,_=>none
 |.ptr _ _ _,.nilp=>
  match ty,op with
  |.ptr,.eql=>some (.bool false)
  |.ptr,.neq=>some (.bool true)
  |_,_=>none
 |.ptr l s o,.ptr l' s' o'=>
  if l=l'∧s=s'∧o=o' then
   match ty,op with
   |.ptr,.eql=>some (.bool true)
   |.ptr,.neq=>some (.bool false)
   |_,_=>none
  else none
 |_,_=>none

def Gl:Ty→AV→AV→Option Bool
 |.num,.int k a,.int k' b=>if k=k' then some (a==b)else none
 |.bool,.bool a,.bool b=>some (a==b)
 |.str,.str a,.str b=>some (a==b)
 |_,_,_=>none

def Hm:List Ty→List AV→List AV→Option Bool
 | [],[],[]=>some true
 |t :: ts,x :: l,y :: r=>match Gl t x y,Hm ts l r with
  |some a,some b=>some (a&&b)
  |_,_=>none
 |_,_,_=>none

def Bv (op:UnOp)(x:AV):Option AV :=
 match op,x with
 |.neg,.int k n=>some (.int k (k.wrap (0-n)))
 |.xor,.int k n=>some (.int k (bits .xor k (if k.signed then -1 else k.max) n))
 |.not,.bool b=>some (.bool (!b))
 |_,_=>none

def fill (f:Fr):List (Nat×Nat×RA)→List AV→Option (List AV)
 | [],z=>some z
 |(o,n,x) :: ps,z=>
  if (x.ev f).cells.length=n∧o+n≤z.length∧(x.ev f).cells.all AV.leaf=true then fill f ps (splice z o (x.ev f).cells)else none

def bytesOf:List AV→Option (List UInt8)
 | []=>some []
 |.int .u8 n :: l=>(bytesOf l).map (UInt8.ofNat n.toNat :: ·)
 |_ :: _=>none

def Zd (m:Qk):AV→Option (List AV)
 |.nils=>some []
 |.list l=>some l
 |.vec l s g o n _=>match Qh m l s with
  |.vec g' _ xs=>if g=g'∧o+n≤xs.length then some ((xs.drop o).take n)else none
  |_=>none
 |_=>none

def Jx (f:Fr)(d:Nat):Option RA→Option Nat
 |none=>some d
 |some r=>match r.ev f with
  |.int _ n=>if 0≤n then some n.toNat else none
  |_=>none

def Xg (m:Qk)(sz:Option Nat)(x:AV)(lo hi:Nat)(mx:Option Nat):Option AV :=
 match sz with
 |none=>match x with
  |.str s=>match mx with
   |none=>if lo≤hi∧hi≤s.length then some (.str ((s.drop lo).take (hi-lo)))else none
   |some _=>none
  |_=>none
 |some z=>match x with
  |.nils=>if lo=0∧hi=0∧mx.getD 0=0 then some .nils else none
  |.list l=>if lo≤hi∧hi≤mx.getD l.length∧mx.getD l.length≤l.length∧(lo=0∨l.all (fun e=>e.cells.length==z)=true)then some (.list ((l.drop lo).take (hi-lo)))else none
  |.vec l s g o n q=>match Qh m l s with
   |.vec g' z' _=>if g=g'∧z=z'∧lo≤hi∧hi≤mx.getD n∧mx.getD n≤n then some (.vec l s g (o+lo) (hi-lo) (q||mx.isSome))else none
   |_=>none
  |_=>none

def Zm:AV→Option Nat
 |.str s=>some s.length
 |.nils|.nilm=>some 0
 |.list l=>some l.length
 |.vec _ _ _ _ n _=>some n
 |_=>none

def part (l:List AV)(o:Nat):Option Nat→Option AV
 |none=>l[o]?
 |some k=>if o+k≤l.length then some (.agg ((l.drop o).take k))else none

def WB (m:Qk)(l s:Nat):Option Nat :=
 match Qh m l s with
 |.vec g _ _=>some g
 |_=>none

def Q5 (m:Qk)(k:Option Nat):AV→Option AV
 |.ptr l s o=>match Qh m l s with
  |.cells xs=>match k with
   |none=>match xs[o]? with
    |some x=>some (x.shN l)
    |none=>none
   |some k=>if o+k≤xs.length then some (.agg (AV.shNL l ((xs.drop o).take k)))else none
  |_=>none
 |.vptr l s g i o=>match Qh m l s with
  |.vec g' _ xs=>if g=g' then match xs[i]? with
    |some e=>part e.cells o k
    |none=>none
   else none
  |_=>none
 |.rptr xs=>part xs 0 k
 |_=>none

def Qd (m:Qk)(sz:Nat)(len:Option Nat)(x:AV)(i:Int):Option AV :=
 if 0≤i then
  match len with
  |none=>match x with
   |.list l=>match l[i.toNat]? with
    |some e=>if e.cells.length=sz then some (.rptr e.cells)else none
    |none=>none
   |.vec l s g o n _=>match Qh m l s with
    |.vec g' sz' _=>if g=g'∧sz=sz'∧i.toNat<n then some (.vptr l s g (o+i.toNat) 0)else none
    |_=>none
   |_=>none
  |some n=>match x with
   |.ptr l s o=>if i.toNat<n then some (.ptr l s (o+i.toNat*sz))else none
   |.rptr xs=>if i.toNat<n then some (.rptr (xs.drop (i.toNat*sz)))else none
   |_=>none
 else none

def ZH (m:Qk):AV→Option (List (List UInt8)×List AV)
 |.mp ks vs=>some (ks,vs)
 |.mptr l s=>match Qh m l s with
  |.iter (.mp ks vs) _=>some (ks,vs)
  |_=>none
 |_=>none
def Jy (k:List UInt8):List (List UInt8)→List AV→Option AV
 |k' :: ks,v :: vs=>bif k==k' then some v else Jy k ks vs
 |_,_=>none
def XS (k:List UInt8)(x:AV):List (List UInt8)→List AV→List (List UInt8)×List AV
 |k' :: ks,v :: vs=>bif k==k' then(k' :: ks,x :: vs)else(k' :: (XS k x ks vs).1,v :: (XS k x ks vs).2)
 |_,_=>([k],[x])

def QG (f:Fr)(m:Qk):VO→Option AV
 |.mov x=>some (x.ev f)
 |.pick c a b=>match c.ev f with
  |.bool t=>some (bif t then a.ev f else b.ev f)
  |_=>none
 |.build z ps=>(fill f ps z).map .agg
 |.load k x=>Q5 m k (x.ev f)
 |.loado k x=>match x.ev f with
  |.ptr (l+1) s o=>Q5 m k (.ptr (l+1) s o)
  |_=>none
 |.loadv l s k x=>match x.ev f with
  |.ptr l' s' o=>if l'=l∧s'=s then Q5 m k (.ptr l' s' o)else none
  |_=>none
 |.loadr k x=>match x.ev f with
  |.rptr xs=>Q5 m k (.rptr xs)
  |.vptr l s g i o=>Q5 m k (.vptr l s g i o)
  |_=>none
 |.nilck x=>match x.ev f with
  |.ptr l s o=>some (.ptr l s o)
  |.vptr l s g i o=>if WB m l s=some g then some (.vptr l s g i o)else none
  |.rptr xs=>some (.rptr xs)
  |.fn (.func k) a b=>some (.fn (.func k) a b)
  |_=>none
 |.bin ty op x y=>Xp ty op (x.ev f) (y.ev f)
 |.eqs neg ks x y=>match x.ev f,y.ev f with
  |.agg a,.agg b=>match Hm ks a b with
   |some r=>some (.bool (bif neg then !r else r))
   |none=>none
  |_,_=>none
 |.un op x=>Bv op (x.ev f)
 |.cvi k x=>match x.ev f with
  |.int _ n=>some (.int k (k.wrap n))
  |_=>none
 |.slc sz x lo hi mx=>match Zm (x.ev f),Jx f 0 lo with
  |some n,some a=>match Jx f n hi with
   |some b=>match mx with
    |none=>Xg m sz (x.ev f) a b none
    |some r=>match Jx f 0 (some r)with
     |some c=>Xg m sz (x.ev f) a b (some c)
     |none=>none
   |none=>none
  |_,_=>none
 |.faddr off x=>match x.ev f with
  |.ptr l s o=>some (.ptr l s (o+off))
  |.vptr l s g i o=>if WB m l s=some g then some (.vptr l s g i (o+off))else none
  |.rptr xs=>some (.rptr (xs.drop off))
  |_=>none
 |.fld off k x=>match x.ev f with
  |.agg l=>part l off k
  |_=>none
 |.iaddr sz len x i=>match i.ev f with
  |.int _ n=>Qd m sz len (x.ev f) n
  |_=>none
 |.idx x i=>match x.ev f,i.ev f with
  |.str s,.int _ n=>if 0≤n then match s[n.toNat]? with
    |some b=>some (.int .u8 (b.toNat:Int))
    |none=>none
   else none
  |_,_=>none
 |.ext x i=>match x.ev f with
  |.tup l=>l[i]?
  |_=>none
 |.len k x=>match k with
  |0=>match x.ev f with
   |.str s=>some (.int .i64 (s.length:Int))
   |_=>none
  |1=>match x.ev f with
   |.nils=>some (.int .i64 0)
   |.list l=>some (.int .i64 (l.length:Int))
   |.vec l s g _ n _=>if WB m l s=some g then some (.int .i64 (n:Int))else none
   |_=>none
  |_=>match x.ev f with
   |.nilm=>some (.int .i64 0)
   |_=>none
 |.mnx mx x y=>match x.ev f,y.ev f with
  |.int k a,.int k' b=>if k=k' then some (.int k (bif mx then(if a<b then b else a)else(if b<a then b else a)))else none
  |_,_=>none
 |.mkfn fn first cap=>some (.fn fn (first.map (RA.ev f)) (cap.map (RA.ev f)))
 |.same x=>some (x.ev f)
 |.aidx n sz k x i=>match x.ev f,i.ev f with
  |.agg l,.int _ j=>if 0≤j∧j<(n:Int)then part l (j.toNat*sz) k else none
  |_,_=>none
 |.mgetp ok z x i=>match x.ev f with
  |.mp ks vs=>match i.ev f with
   |.str k=>match Jy k ks vs with
    |some v=>bif v.gr then some (bif ok then .tup [v,.bool true]else v)else none
    |none=>some (bif ok then .tup [z,.bool false]else z)
   |_=>none
  |_=>none
 |.mget ok z x i=>match ZH m (x.ev f)with
  |some (ks,vs)=>match i.ev f with
   |.str k=>match Jy k ks vs with
    |some v=>bif v.gr then some (bif ok then .tup [v,.bool true]else v)else none
    |none=>some (bif ok then .tup [z,.bool false]else z)
   |_=>none
  |none=>none
 |.mki t x=>some (.iface t (x.ev f))
 |.tas t ok z x=>match x.ev f with
  |.iface t' y=>bif t'==t then some (bif ok then .tup [y,.bool true]else y)else(bif ok then some (.tup [z,.bool false])else none)
  |.nili=>bif ok then some (.tup [z,.bool false])else none
  |_=>none

mutual
def AV.isC:AV→Value→Bool
 |.int k' n',v=>match v with|.int k n=>k==k'&&n==n'|_=>false
 |.bool b',v=>match v with|.bool b=>b==b'|_=>false
 |.str l,v=>match v with|.string s=>s.data.toList==l|_=>false
 |.nils,v=>match v with|.slice none 0 0=>true|_=>false
 |.nilp,v=>match v with|.pointer none=>true|_=>false
 |.nilf,v=>match v with|.nilFunc=>true|_=>false
 |.nili,v=>match v with|.nilIface=>true|_=>false
 |.nilm,v=>match v with|.map none=>true|_=>false
 |.agg l,v=>match v with|.agg vs=>AV.isCL l vs.toList|_=>false
 |.tup l,v=>match v with|.tuple vs=>AV.isCL l vs.toList|_=>false
 |_,_=>false
def AV.isCL:List AV→List Value→Bool
 | [],vs=>vs.isEmpty
 |x :: l,vs=>match vs with|v :: vs=>x.isC v&&AV.isCL l vs | []=>false
end

def isC (v:Value)(x:AV):Bool:=x.isC v
def isCL (vs:List Value)(l:List AV):Bool:=AV.isCL l vs

def QR:Operand→RA→Bool
 |.tmp t,.t n=>t==n
 |.const v,.c x=>isC v x
 |.func k,.f k'=>k==k'
 |.global k,.g k' l=>k==k'&&(match AX.lookup k with
  |some vs=>isCL vs l&&AV.rfL l&&l.all AV.leaf
  |none=>false)
 |_,_=>false

def Us:Option Operand→Option RA→Bool
 |none,none=>true
 |some x,some r=>QR x r
 |_,_=>false

def Wq:List Operand→List RA→Bool
 | [],[]=>true
 |x :: xs,r :: rs=>QR x r&&Wq xs rs
 |_,_=>false

def Ze (P:Program)(t:TypeId):Option (Option Nat) :=
 match P.underlying t,P.info? t with
 |some (.struct _),some i=>some (some i.size)
 |some (.array _ _),some i=>some (some i.size)
 |some _,some _=>some none
 |_,_=>none

def IM (P:Program)(t:TypeId)(k:IntKind):Bool :=
 match P.underlying t with
 |some (.int k')=>k==k'
 |_=>false

def Wr (P:Program)(t:TypeId):Bool :=
 match P.underlying t with
 |some .string=>true
 |_=>false

def Kx (P:Program)(t:TypeId):Ty :=
 match P.underlying t with
 |some (.int _)=>.num
 |some .string=>.str
 |some .bool=>.bool
 |some (.pointer e)=>if (P.info? e).isSome then .ptr else .other
 |some (.interface _)=>.iface
 |_=>.other

def Js (P:Program):Nat→List Field→List Ty→Bool
 |_,[],[]=>true
 |o, fl :: fs, t :: ts=>fl.offset==o&&fl.name != "_" && Kx P fl.type==t&&Js P (o+1) fs ts
 |_,_,_=>false

def Bw (P:Program)(fs:Array Field):Option (List (Nat×Nat)) :=
 fs.toList.mapM fun fl=>(P.info? fl.type).map fun i=>(fl.offset,i.size)

def KO (pl:List (Nat×Nat)):List (Nat×Operand)→List (Nat×Nat×RA)→Bool
 | [],[]=>true
 |(i,x) :: xs,(o,n,r) :: rs=>pl[i]? == some (o,n)&&QR x r&&KO pl xs rs
 |_,_=>false

def Ki (sz:Nat):List (Nat×Operand)→List (Nat×Nat×RA)→Bool
 | [],[]=>true
 |(i,x) :: xs,(o,n,r) :: rs=>(o==i*sz&&n==sz)&&QR x r&&Ki sz xs rs
 |_,_=>false

def WC (P:Program)(t:TypeId):Bool :=
 match P.underlying t with
 |some (.interface _)=>false
 |some _=>true
 |none=>false

def XT (P:Program)(op:Op)(vo:VO):Bool :=
 match vo with
 |.mov r=>match op with
  |.move x|.assign x=>QR x r
  |_=>false
 |.pick c a b=>match op with
  |.pick x y z=>QR x c&&QR y a&&QR z b
  |_=>false
 |.build z ps=>match op with
  |.build t Qm=>match P.underlying t,P.info? t with
   |some (.struct fs),some i=>match i.zero,Bw P fs with
    |some zv,some pl=>isCL zv.cells.toList z&&KO pl Qm.toList ps
    |_,_=>false
   |some (.array _ e),some i=>match i.zero,P.info? e with
    |some zv,some ie=>isCL zv.cells.toList z&&Ki ie.size Qm.toList ps
    |_,_=>false
   |_,_=>false
  |_=>false
 |.load k r=>match op with
  |.load t x=>Ze P t==some k&&QR x r
  |_=>false
 |.loado k r=>match op with
  |.load t x=>Ze P t==some k&&QR x r
  |_=>false
 |.loadv _ _ k r=>match op with
  |.load t x=>Ze P t==some k&&QR x r
  |_=>false
 |.loadr k r=>match op with
  |.load t x=>Ze P t==some k&&QR x r
  |_=>false
 |.nilck r=>match op with
  |.nilCheck x=>QR x r
  |_=>false
 |.bin ty o r s=>match op with
  |.binOp o' t x y _=>o==o'&&Kx P t==ty&&QR x r&&QR y s
  |_=>false
 |.eqs neg ks r s=>match op with
  |.binOp o t x y _=>(o==(if neg then .neq else .eql))&&(match P.underlying t with|some (.struct fs)=>Js P 0 fs.toList ks|_=>false) && !P.stoodInHeld t && !P.eqGuardType P.depth t&&QR x r&&QR y s
  |_=>false
 |.un o r=>match op with
  |.unOp o' _ x=>o==o'&&QR x r
  |_=>false
 |.cvi k r=>match op with
  |.convert src dst x=>IM P dst k&&(P.underlying src).isSome&&QR x r
  |_=>false
 |.slc sz r lo hi mx=>match op with
  |.slice t x l h m=>(match sz with|none=>Wr P t|some z=>(match P.underlying t with|some (.slice e)=>(P.info? e).any (fun i=>i.size==z)|_=>false))&&QR x r&&Us l lo&&Us h hi&&Us m mx&&(m.isNone||h.isSome)
  |_=>false
 |.faddr off r=>match op with
  |.fieldAddr t x k=>(match P.underlying t with
   |some (.struct fs)=>match fs[k]? with
    |some fl=>fl.offset==off&&(P.info? fl.type).any (fun i=>i.size != 0)
    |none=>false
   |_=>false)&&QR x r
  |_=>false
 |.fld off k r=>match op with
  |.field t x i=>(match P.underlying t with
   |some (.struct fs)=>match fs[i]? with
    |some fl=>fl.offset==off&&Ze P fl.type==some k
    |none=>false
   |_=>false)&&QR x r
  |_=>false
 |.iaddr sz len r i=>match op with
  |.indexAddr t x y=>(match P.underlying t with
   |some (.slice e)=>len==none&&(P.info? e).any (fun j=>j.size==sz)&&sz != 0
   |some (.array n e)=>len==some n&&(P.info? e).any (fun j=>j.size==sz)&&sz != 0
   |_=>false)&&QR x r&&QR y i
  |_=>false
 |.idx r i=>match op with
  |.index t x y=>Wr P t&&QR x r&&QR y i
  |_=>false
 |.ext r i=>match op with
  |.extract x k=>k==i&&QR x r
  |_=>false
 |.len k r=>match op with
  |.call { callee:=.builtin .len,args:=⟨[x]⟩,argTypes:=⟨[t]⟩ }=>(match P.underlying t with|some .string=>k==0|some (.slice _)=>k==1|some (.map _ _)=>k==2|_=>false)&&QR x r
  |_=>false
 |.mnx mx r s=>match op with
  |.call { callee:=.builtin b,args:=⟨[x,y]⟩,argTypes:=_ }=>(match b with|.max=>mx|.min=>!mx|_=>false)&&QR x r&&QR y s
  |_=>false
 |.mkfn fn a b=>match op with
  |.makeFunc fn' xs ys=>fn==fn'&&Wq xs.toList a&&Wq ys.toList b
  |_=>false
 |.same r=>match op with
  |.call { callee := .value (.func k), args := ⟨[x]⟩, argTypes := _ }=>(match P.funcs[k]? with|some fn=>fn.name == "internal/abi.NoEscape" && fn.body.isNone&&(Extern.allNextRows.lookup fn.origin).isNone|_=>false)&&QR x r
  |_=>false
 |.aidx n sz k r i=>match op with
  |.index t x y=>(match P.underlying t with
   |some (.array n' e)=>n==n'&&(P.info? e).any (fun j=>j.size==sz)&&Ze P e==some k
   |_=>false)&&QR x r&&QR y i
  |_=>false
 |.mgetp ok z r i=>match op with
  |.lookup t x y ok'=>(match P.underlying t with
   |some (.map kt et)=>Wr P kt&&(match P.info? et with
    |some inf=>match inf.zero with
     |some zv=>isC zv z
     |none=>false
    |none=>false)
   |_=>false)&&ok==ok'&&QR x r&&QR y i
  |_=>false
 |.mget ok z r i=>match op with
  |.lookup t x y ok'=>(match P.underlying t with
   |some (.map kt et)=>Wr P kt&&(match P.info? et with
    |some inf=>match inf.zero with
     |some zv=>isC zv z
     |none=>false
    |none=>false)
   |_=>false)&&ok==ok'&&QR x r&&QR y i
  |_=>false
 |.mki t r=>match op with
  |.makeInterface t' x=>t==t'&&WC P t&&QR x r
  |_=>false
 |.tas t ok z r=>match op with
  |.typeAssert x _ t' ok'=>t==t'&&WC P t&&(match P.info? t with
   |some inf=>match inf.zero with
    |some zv=>isC zv z
    |none=>false
   |none=>false)&&ok==ok'&&QR x r
  |_=>false

mutual
theorem AV.isC_ok {G:Gh}:∀(x:AV) (v:Value),x.isC v=true→Rep G x v
 |.int k n,v,h=>by
   cases v<;>simp[AV.isC]at h;obtain⟨rfl,rfl⟩:=h;exact .int _ _
 |.bool b,v,h=>by
   cases v<;>simp[AV.isC]at h;subst h;exact .bool _
 |.str s,v,h=>by
   cases v<;>simp[AV.isC]at h;subst h;exact .str _
 |.nils,v,h=>by
   simp only[AV.isC]at h;split at h
   ·exact .nils
   ·cases h
 |.nilp,v,h=>by
   simp only[AV.isC]at h;split at h
   ·exact .nilp
   ·cases h
 |.nilf,v,h=>by
   simp only[AV.isC]at h;split at h
   ·exact .nilf
   ·cases h
 |.nili,v,h=>by
   simp only[AV.isC]at h;split at h
   ·exact .nili
   ·cases h
 |.nilm,v,h=>by
   simp only[AV.isC]at h;split at h
   ·exact .nilm
   ·cases h
 |.agg l,v,h=>by
   simp only[AV.isC]at h;split at h
   ·exact .agg (AV.isCL_ok l _ h)
   ·cases h
 |.tup l,v,h=>by
   simp only[AV.isC]at h;split at h
   ·exact .tup (AV.isCL_ok l _ h)
   ·cases h
 |.top,v,h=>by simp[AV.isC]at h
 |.list l,v,h=>by simp[AV.isC]at h
 |.lcap l,v,h=>by simp[AV.isC]at h
 |.iface t x,v,h=>by simp[AV.isC]at h
 |.fn f a b,v,h=>by simp[AV.isC]at h
 |.ptr l s o,v,h=>by simp[AV.isC]at h
 |.vec l s g o n q,v,h=>by simp[AV.isC]at h
 |.vptr l s g i o,v,h=>by simp[AV.isC]at h
 |.rptr l,v,h=>by simp[AV.isC]at h
theorem AV.isCL_ok {G:Gh}:∀(l:List AV) (vs:List Value),AV.isCL l vs=true→RepL G l vs
 | [],vs,h=>by
   cases vs with
   |nil=>exact .nil
   |cons v vs=>simp[AV.isCL]at h
 |x :: l,vs,h=>by
   cases vs with
   |nil=>simp[AV.isCL]at h
   |cons v vs=>
    simp only[AV.isCL,QY7]at h;exact .cons (AV.isC_ok x v h.1) (AV.isCL_ok l vs h.2)
end
theorem isC_ok {G:Gh}{v:Value}{x:AV}(h:isC v x=true):Rep G x v:=AV.isC_ok x v h
theorem isCL_ok {G:Gh}{v:List Value}{x:List AV}(h:isCL v x=true):RepL G x v:=AV.isCL_ok x v h

section
variable {P:Program}{G:Gh}{B N:Nat}{st:St}{a:Act}{w:World}

theorem Qu (h:Rel G B N st a w){x:Operand}{r:RA}(hc:QR x r=true):Rep G (r.ev st.f) (a.eval x):=by
 cases x with
 |tmp t=>
  cases r<;>simp[QR]at hc;subst hc;exact h.slots t
 |const v=>
  cases r<;>simp[QR]at hc;exact isC_ok hc
 |global g=>
  cases r<;>simp only[QR,QY3]at hc;rename_i k l;rw[QY7,QY8]at hc;obtain⟨rfl,hc⟩:=hc;cases hl:AX.lookup g with
  |none=>rw[hl]at hc;cases hc
  |some vs=>
   rw[hl]at hc;simp only[QY7]at hc;obtain⟨⟨h1,h2⟩,h3⟩:=hc;refine .rptr (b:=g) (o:=0) (isCL_ok h1) h2 h3 fun j u hj=>G.tab _ _ _ ?_
   have hj':=(QYM.1 hj).1;simp only[Jb,hl,QY9,hj,QZa];rw[QYR (by omega)]
 |func k=>
  cases r<;>simp[QR]at hc;subst hc;exact .fn .nil .nil

theorem YR (h:Rel G B N st a w):∀ {xs:List Operand} {rs:List RA},Wq xs rs=true→RepL G (rs.map (RA.ev st.f)) (xs.map a.eval)
 | [],[],_=>.nil
 |x :: xs,r :: rs,hc=>by
   simp only[Wq,QY7]at hc;exact .cons (Qu h hc.1) (YR h hc.2)
 | [],_ :: _,hc=>by simp[Wq]at hc
 |_ :: _,[],hc=>by simp[Wq]at hc

theorem QbG {op:BinOp}{k:IntKind}{m n:Int}{x:AV}(hx:XO op k m n=some x)(h1:op≠.shl)(h2:op≠.shr)(t:TypeId) :
    ∃v,(binOp op t (.int k m) (.int k n)).run P w=.ok v w∧Rep G x v:=by
  cases op<;>first
    |exact absurd rfl h1
    |exact absurd rfl h2
    | (simp only[XO]at hx;split at hx
       · cases hx
       · rename_i hn;cases hx;exact⟨_,by simp[binOp,Op.intDiv,hn],.int _ _⟩)
    |(simp only[XO,QZb]at hx;subst hx;exact⟨_,by simp[binOp,Op.intArith]<;>rfl,.int _ _⟩)
    |(simp only[XO,QZb]at hx;subst hx;exact⟨_,by simp[binOp]<;>rfl,.int _ _⟩)
    |(simp only[XO,QZb]at hx;subst hx;exact⟨_,by simp[binOp,Op.intCmp]<;>rfl,.bool _⟩)

theorem QbH {op:BinOp}{s u:List UInt8}{x:AV}(hx:Qs op s u=some x)(t:TypeId) :
  ∃v,(binOp op t (.string ⟨⟨s⟩⟩) (.string ⟨⟨u⟩⟩)).run P w=.ok v w∧Rep G x v:=by
 have hs:(⟨⟨s⟩⟩:ByteArray).toList=s:=by rw[ByteArray.toList_eq]
 have hu:(⟨⟨u⟩⟩:ByteArray).toList=u:=by rw[ByteArray.toList_eq]
 cases op with
 |add=>
  simp only[Qs]at hx;split at hx
  ·rename_i hl;cases hx;refine⟨.string ⟨⟨s++u⟩⟩,?_,.str _⟩;have hlen:((ByteArray.size ⟨⟨s⟩⟩+ByteArray.size ⟨⟨u⟩⟩:Nat):Int)≤IntKind.i64.max:=by
    show((s.length+u.length:Nat):Int)≤9223372036854775807;omega
   have hcat:(⟨⟨s⟩⟩:ByteArray)++⟨⟨u⟩⟩=⟨⟨s++u⟩⟩:=by
    apply ByteArray.ext
    simp
   simp only[binOp,Op.stringOp,hcat];rw[QYR (by omega)];rfl
  ·cases hx
 |eql=>simp only[Qs,QZb]at hx;subst hx;exact⟨_,by simp only[binOp,Op.stringOp,hs,hu];rfl,.bool _⟩
 |neq=>simp only[Qs,QZb]at hx;subst hx;exact⟨_,by simp only[binOp,Op.stringOp,hs,hu];rfl,.bool _⟩
 |lss=>simp only[Qs,QZb]at hx;subst hx;exact⟨_,by simp only[binOp,Op.stringOp,hs,hu];rfl,.bool _⟩
 |leq=>simp only[Qs,QZb]at hx;subst hx;exact⟨_,by simp only[binOp,Op.stringOp,hs,hu];rfl,.bool _⟩
 |gtr=>simp only[Qs,QZb]at hx;subst hx;exact⟨_,by simp only[binOp,Op.stringOp,hs,hu];rfl,.bool _⟩
 |geq=>simp only[Qs,QZb]at hx;subst hx;exact⟨_,by simp only[binOp,Op.stringOp,hs,hu];rfl,.bool _⟩
 |_=>simp[Qs]at hx

theorem HN {t:TypeId}(h:Kx P t=.ptr):∃e j,P.underlying t=some (.pointer e)∧P.info? e=some j:=by
  unfold Kx at h;split at h<;>first
    |(cases h;done)
    | (rename_i e hu
       split at h
       · rename_i hi;obtain⟨j,hj⟩:=Option.isSome_iff_exists.1 hi;exact⟨e,j,hu,hj⟩
       · cases h)

theorem Ut {t e:TypeId}(hp:P.underlying t=some (.pointer e)):(binOp .eql t (.pointer none) (.pointer none)).run P w=.ok (.bool true) w∧(binOp .neq t (.pointer none) (.pointer none)).run P w=.ok (.bool false) w:=by
 have h:∀d:Nat,(Op.equalIn (d+1) t (.pointer none) (.pointer none)).run P w=.ok true w:=fun d=>by
  simp[Op.equalIn,run_underlying hp]
 simp only[binOp]
 constructor<;>simp[Op.equal,Op.maxDepth,h 9999]

theorem Hn {t e:TypeId}(hp:P.underlying t=some (.pointer e))(a:Addr):(binOp .eql t (.pointer (some a)) (.pointer none)).run P w=.ok (.bool false) w∧(binOp .neq t (.pointer (some a)) (.pointer none)).run P w=.ok (.bool true) w:=by
 have h:∀d:Nat,(Op.equalIn (d+1) t (.pointer (some a)) (.pointer none)).run P w=.ok false w:=fun d=>by
  simp[Op.equalIn,run_underlying hp]
 simp only[binOp]
 constructor<;>simp[Op.equal,Op.maxDepth,h 9999]

theorem QbI {ty:Ty}{op:BinOp}{p q x:AV}(hx:Xp ty op p q=some x){v u:Value}(hp:Rep G p v)(hq:Rep G q u){t:TypeId}(ht:Kx P t=ty)(o1 o2:Operand) :
    ∃r,(do eqGuard op t o1 o2 v u;binOp op t v u).run P w=.ok r w∧Rep G x r:=by
  cases p<;>cases q<;>first
    |(simp[Xp]at hx;done)
    |skip
  case int.int k m k' n=>
    cases hp;cases hq;have hg:(eqGuard op t o1 o2 (.int k m) (.int k' n)).run P w=.ok () w:=by
      unfold eqGuard;split<;>rfl
    rw[Sem.run_bind,hg,Result.andThen_ok];by_cases h1:op=.shl
    · subst h1;simp only[Xp]at hx;split at hx
      · rename_i h0;cases hx;exact⟨_,by simp only[binOp,Op.shift];rw[QYR (by omega)];rfl,.int _ _⟩
      · cases hx
    · by_cases h2:op=.shr
      · subst h2;simp only[Xp]at hx;split at hx
        · rename_i h0;cases hx;exact⟨_,by simp only[binOp,Op.shift];rw[QYR (by omega)];rfl,.int _ _⟩
        · cases hx
      · have hx':(if k=k' then XO op k m n else none)=some x:=by
          cases op<;>first|exact absurd rfl h1|exact absurd rfl h2|exact hx
        split at hx'
        · rename_i hk;subst hk;exact QbG hx' h1 h2 t
        · cases hx'
  case str.str s u=>
    cases hp;cases hq;have hg:(eqGuard op t o1 o2 (.string ⟨⟨s⟩⟩) (.string ⟨⟨u⟩⟩)).run P w=.ok () w:=by
      unfold eqGuard;split<;>rfl
    rw[Sem.run_bind,hg,Result.andThen_ok];exact QbH hx t
  case bool.bool b c=>
    cases hp;cases hq;have hg:(eqGuard op t o1 o2 (.bool b) (.bool c)).run P w=.ok () w:=by
      unfold eqGuard;split<;>rfl
    rw[Sem.run_bind,hg,Result.andThen_ok];have hb:ty=.bool→P.underlying t=some .bool:=by
      intro e;rw[e]at ht;unfold Kx at ht;split at ht<;>first|(cases ht;done)|(split at ht<;>cases ht;done)|assumption
    cases ty<;>cases op<;>first
      |(simp[Xp]at hx;done)
      | (simp only[Xp,QZb]at hx;subst hx
         exact⟨_,by simp[binOp,Op.equal,Op.maxDepth,run_equalIn_bool' w 9999 t b c (hb rfl)]<;>rfl,.bool _⟩)
  case nilp.nilp=>
    cases hp;cases hq;have hg:(eqGuard op t o1 o2 (.pointer none) (.pointer none)).run P w=.ok () w:=by
      unfold eqGuard;split<;>rfl
    rw[Sem.run_bind,hg,Result.andThen_ok];cases ty<;>cases op<;>first
      |(simp[Xp]at hx;done)
      | (simp only[Xp,QZb]at hx;subst hx
         obtain⟨e,j,hu,hj⟩:=HN ht
         first|exact⟨_,(Ut hu).1,.bool _⟩|exact⟨_,(Ut hu).2,.bool _⟩)
  case ptr.nilp l s o=>
    cases hp;cases hq;rename_i b hb;have hg:(eqGuard op t o1 o2 (.pointer (some ⟨b,o,none⟩)) (.pointer none)).run P w=.ok () w:=by
      unfold eqGuard;split<;>rfl
    rw[Sem.run_bind,hg,Result.andThen_ok];cases ty<;>cases op<;>first
      |(simp[Xp]at hx;done)
      | (simp only[Xp,QZb]at hx;subst hx
         obtain⟨e,j,hu,hj⟩:=HN ht
         first|exact⟨_,(Hn hu _).1,.bool _⟩|exact⟨_,(Hn hu _).2,.bool _⟩)
  case ptr.ptr l s o l' s' o'=>
    cases hp;cases hq;rename_i b hb b' hb';simp only[Xp]at hx;split at hx
    · rename_i hh;obtain⟨rfl,rfl,rfl⟩:=hh;rw[hb]at hb';cases hb';have hg:(eqGuard op t o1 o2 (.pointer (some ⟨b,o,none⟩)) (.pointer (some ⟨b,o,none⟩))).run P w=.ok () w:=by
        unfold eqGuard;split<;>rfl
      rw[Sem.run_bind,hg,Result.andThen_ok];cases ty<;>cases op<;>first
        |(cases hx;done)
        | (simp only[QZb]at hx;subst hx
           obtain⟨e,j,hu,hj⟩:=HN ht
           first|exact⟨_,run_eql_ptr_same w _ hu hj,.bool _⟩|exact⟨_,Lib.run_neq_ptr_same w _ hu hj,.bool _⟩)
    · cases hx

end

section
variable {P:Program}{G:Gh}{B N:Nat}{st:St}{a:Act}{w:World}

theorem Bx {t:TypeId}(h:Kx P t=.num):∃k,P.underlying t=some (.int k):=by
 unfold Kx at h;split at h<;>first|(cases h;done)|(split at h<;>cases h;done)|exact⟨_,by assumption⟩
theorem Bz {t:TypeId}(h:Kx P t=.str):P.underlying t=some .string:=by
 unfold Kx at h;split at h<;>first|(cases h;done)|(split at h<;>cases h;done)|assumption
theorem Fz {t:TypeId}(h:Kx P t=.bool):P.underlying t=some .bool:=by
 unfold Kx at h;split at h<;>first|(cases h;done)|(split at h<;>cases h;done)|assumption

theorem Ky {t:TypeId}{d:TypeDesc}(h:P.underlying t=some d)(hs:∀fs,d≠.struct fs)(ha:∀n e,d≠.array n e):(isAgg t).run P w=.ok false w:=by
 simp only[isAgg,Sem.run_bind,run_underlying h,Result.andThen_ok];cases d<;>first|rfl|(exact absurd rfl (hs _))|(exact absurd rfl (ha _ _))

theorem Ui {t:TypeId}{d:TypeDesc}(h:P.underlying t=some d)(hs:(∃fs,d=.struct fs)∨∃n e,d=.array n e):(isAgg t).run P w=.ok true w:=by
 simp only[isAgg,Sem.run_bind,run_underlying h,Result.andThen_ok];rcases hs with⟨fs,rfl⟩|⟨n,e,rfl⟩<;>rfl

theorem Xz {t:TypeId}{i:TypeInfo}(h:P.info? t=some i):(sizeOf t).run P w=.ok i.size w:=by
 simp[sizeOf,typeInfo,h]

theorem Gm {t:TypeId}(h:Ze P t=some none):(isAgg t).run P w=.ok false w:=by
 unfold Ze at h;split at h
 ·cases h
 ·cases h
 ·rename_i d i h1 h2 hd hi;exact Ky hd (fun fs e=>h1 fs e) (fun n e' e=>h2 n e' e)
 ·cases h

theorem Gn {t:TypeId}{k:Nat}(h:Ze P t=some (some k)):(isAgg t).run P w=.ok true w∧(sizeOf t).run P w=.ok k w:=by
 unfold Ze at h;split at h
 ·rename_i fs i hd hi;cases h;exact⟨Ui hd (.inl ⟨fs,rfl⟩),Xz hi⟩
 ·rename_i n e i hd hi;cases h;exact⟨Ui hd (.inr ⟨n,e,rfl⟩),Xz hi⟩
 ·cases h
 ·cases h

theorem VY {G:Gh}{l:List AV}{vs:List Value}(h:RepL G l vs){o:Nat}{k:Option Nat}{x:AV}(hx:part l o k=some x){t:TypeId}(ht:Ze P t=some k) :
  ∃v,(Go.part t ⟨vs⟩ o).run P w=.ok v w∧Rep G x v:=by
 cases k with
 |none=>
  obtain⟨v,hv,r⟩:=h.at_ hx;refine⟨v,?_,r⟩;simp only[Go.part,Sem.run_bind,Gm ht,Result.andThen_ok];simp[hv]
 |some k=>
  simp only[part]at hx;split at hx
  ·rename_i hk;cases hx;obtain⟨h1,h2⟩:=Gn (w:=w) ht;refine⟨.agg ⟨(vs.drop o).take k⟩,?_,.agg ((h.drop o).take k)⟩;simp only[Go.part,Sem.run_bind,h1,Result.andThen_ok,if_true,h2,Sem.run_pure];simp[List.extract_eq_take_drop]
  ·cases hx

theorem Qge {ty:Ty}{x y:AV}{b:Bool}(h:Gl ty x y=some b){v u:Value}(hv:Rep G x v)(hu:Rep G y u){t:TypeId}(ht:Kx P t=ty)(d:Nat):(Op.equalIn (d+1) t v u).run P w=.ok b w:=by
 unfold Gl at h;split at h
 ·cases hv;cases hu;split at h
  ·rename_i hk;subst hk;cases h;obtain⟨k',hk'⟩:=Bx ht;exact run_equalIn_int w d t _ k' _ _ hk'
  ·cases h
 ·cases hv;cases hu;cases h;exact run_equalIn_bool' w d t _ _ (Fz ht)
 ·cases hv;cases hu;cases h;rw[run_equalIn_string w d t _ _ (Bz ht)];simp[ByteArray.toList_eq]
 ·cases h

theorem QbJ {t:TypeId}{ty:Ty}(ht:Kx P t=ty)(h:ty=.num∨ty=.bool∨ty=.str):(isAgg t).run P w=.ok false w:=by
 rcases h with rfl|rfl|rfl
 ·obtain⟨k,hk⟩:=Bx ht;exact Ky hk (by simp) (by simp)
 ·exact Ky (Fz ht) (by simp) (by simp)
 ·exact Ky (Bz ht) (by simp) (by simp)

theorem Qgf {ty:Ty}{x y:AV}{b:Bool}(h:Gl ty x y=some b):ty=.num∨ty=.bool∨ty=.str:=by
 unfold Gl at h;split at h<;>simp at h ⊢

theorem Ho (d:Nat)(xs ys:Array Value):∀(fs:List Field) (ks:List Ty) (o:Nat) (l r:List AV) (b:Bool),Js P o fs ks=true→RepL G l (xs.toList.drop o)→RepL G r (ys.toList.drop o)→Hm ks l r=some b→
  (Op.eqFields (d+1) xs ys fs).run P w=.ok b w
 | [],ks,o,l,r,b,hp,hl,hr,he=>by
   cases ks<;>simp[Js]at hp;unfold Hm at he;split at he
   ·cases he;rfl
   ·rename_i h;cases h
   ·cases he
 |fl :: fs,ks,o,l,r,b,hp,hl,hr,he=>by
   cases ks with
   |nil=>simp[Js]at hp
   |cons k ks=>
    simp only[Js,QY7,QY8,QZc]at hp;obtain⟨⟨⟨ho,hn⟩,hty⟩,hrest⟩:=hp;cases l with
    |nil=>simp[Hm]at he
    |cons x l=>
     cases r with
     |nil=>simp[Hm]at he
     |cons y r=>
      simp only[Hm]at he;split at he
      ·rename_i b1 b2 e1 e2;cases he;cases hx:xs.toList.drop o with
       |nil=>rw[hx]at hl;cases hl
       |cons v vs=>
        cases hy:ys.toList.drop o with
        |nil=>rw[hy]at hr;cases hr
        |cons u us=>
         rw[hx]at hl;rw[hy]at hr;cases hl with
         |cons hv hl=>
          cases hr with
          |cons hu hr=>
           have hvx:xs[o]? = some v:=by rw[←QZd,←List.head?_drop,hx];rfl
           have huy:ys[o]? = some u:=by rw[←QZd,←List.head?_drop,hy];rfl
           have hvs:xs.toList.drop (o+1)=vs:=by rw[←QZe,hx];rfl
           have hus:ys.toList.drop (o+1)=us:=by rw[←QZe,hy];rfl
           have hag:=QbJ (P:=P) (w:=w) hty (Qgf e1);have hq:=Qge (P:=P) (w:=w) e1 hv hu hty d;have ih:=Ho d xs ys fs ks (o+1) l r b2 hrest (by rw[hvs];exact hl) (by rw[hus];exact hr) e2;simp only[Op.eqFields,QYS hn,Sem.run_bind,Go.part,hag,Result.andThen_ok,ho,hvx,huy,QY3,if_false,Sem.run_pure,hq];cases b1 with
           |false=>simp
           |true=>simpa using ih
      ·cases he

theorem Qgg {op:UnOp}{p x:AV}(hx:Bv op p=some x){v:Value}(hp:Rep G p v):∃r,(Op.unary op v).run P w=.ok r w∧Rep G x r:=by
 unfold Bv at hx;split at hx
 ·cases hp;cases hx;exact⟨_,by simp[Op.unary,Op.intArith]<;>rfl,.int _ _⟩
 ·cases hp;cases hx;exact⟨_,by simp[Op.unary]<;>rfl,.int _ _⟩
 ·cases hp;cases hx;exact⟨_,by simp[Op.unary]<;>rfl,.bool _⟩
 ·cases hx

theorem Kz (off:Nat):∀(us:List Value) (j:Nat) (cs:Array Value),off+j+us.length≤cs.size→
  ((us.zipIdx j).foldl (fun cs (c,j)=>cs.setIfInBounds (off+j) c) cs).toList=cs.toList.take (off+j)++us++cs.toList.drop (off+j+us.length)
 | [],j,cs,h=>by simp
 |u :: us,j,cs,h=>by
  simp only[QYZ]at h;have ih:=Kz off us (j+1) (cs.setIfInBounds (off+j) u) (by simp;omega);simp only[List.zipIdx_cons,List.foldl_cons];rw[ih,Array.toList_setIfInBounds];have hlt:off+j<cs.toList.length:=by simp;omega
  rw[show off+(j+1)=off+j+1 by omega,List.take_succ_eq_append_getElem (by simpa using hlt),List.drop_set_of_lt (by omega),List.take_set_of_le (QYK _)];simp only[List.getElem_set_self,QY4,QY5,QY6,QYZ];congr 4
  omega

theorem VZ (h:Rel G B N st a w){pl:List (Nat×Nat)}:∀ {xs:List (Nat×Operand)} {rs:List (Nat×Nat×RA)} {z y:List AV} {cs:Array Value},KO pl xs rs=true→RepL G z cs.toList→fill st.f rs z=some y→
  ∃cs',Instr.fill (pl[·]?) cs (xs.map fun(i,x)=>(i,a.eval x))=some cs'∧RepL G y cs'.toList
 | [],[],z,y,cs,_,hz,hf=>by cases hf;exact⟨cs,rfl,hz⟩
 |(i,x) :: xs,(o,n,r) :: rs,z,y,cs,hc,hz,hf=>by
  simp only[KO,QY7,QY8]at hc;simp only[fill]at hf;split at hf
  ·rename_i hh;obtain⟨h1,h2,h3⟩:=hh;have hr:=(Qu h hc.1.2).cells h3;have hl:=hr.length;have hzl:=hz.length;simp only[QZf]at hl hzl;have hfold:=Kz o (a.eval x).cells.toList 0 cs (by simp only[QZf];omega);simp only[QZg]at hfold;have hsz:((a.eval x).cells.zipIdx.foldl (fun cs (c,j)=>cs.setIfInBounds (o+j) c) cs).toList=cs.toList.take o++(a.eval x).cells.toList++cs.toList.drop (o+(a.eval x).cells.toList.length):=by
    rw[←hfold,←Array.foldl_toList,Array.toList_zipIdx]
   obtain⟨cs',h4,h5⟩:=VZ h (cs:=(a.eval x).cells.zipIdx.foldl (fun cs (c,j)=>cs.setIfInBounds (o+j) c) cs) hc.2 (by rw[hsz];exact hz.splice hr o) hf;refine⟨cs',?_,h5⟩;simp only[QZh,Instr.fill,hc.1.1];rw[QYR (by simp;omega)];exact h4
  ·cases hf
 | [],_ :: _,_,_,_,hc,_,_=>by simp[KO]at hc
 |_ :: _,[],_,_,_,hc,_,_=>by simp[KO]at hc

theorem BA (h:Rel G B N st a w){sz:Nat}:∀ {xs:List (Nat×Operand)} {rs:List (Nat×Nat×RA)} {z y:List AV} {cs:Array Value},Ki sz xs rs=true→RepL G z cs.toList→fill st.f rs z=some y→
  ∃cs',Instr.fill (fun i=>some (i*sz,sz)) cs (xs.map fun(i,x)=>(i,a.eval x))=some cs'∧RepL G y cs'.toList
 | [],[],z,y,cs,_,hz,hf=>by cases hf;exact⟨cs,rfl,hz⟩
 |(i,x) :: xs,(o,n,r) :: rs,z,y,cs,hc,hz,hf=>by
  simp only[Ki,QY7,QY8]at hc;obtain⟨⟨⟨rfl,rfl⟩,hc1⟩,hc2⟩:=hc;simp only[fill]at hf;split at hf
  ·rename_i hh;obtain⟨h1,h2,h3⟩:=hh;have hr:=(Qu h hc1).cells h3;have hl:=hr.length;have hzl:=hz.length;simp only[QZf]at hl hzl;have hfold:=Kz (i*n) (a.eval x).cells.toList 0 cs (by simp only[QZf];omega);simp only[QZg]at hfold;have hsz:((a.eval x).cells.zipIdx.foldl (fun cs (c,j)=>cs.setIfInBounds (i*n+j) c) cs).toList=cs.toList.take (i*n)++(a.eval x).cells.toList++cs.toList.drop (i*n+(a.eval x).cells.toList.length):=by
    rw[←hfold,←Array.foldl_toList,Array.toList_zipIdx]
   obtain⟨cs',h4,h5⟩:=BA h (cs:=(a.eval x).cells.zipIdx.foldl (fun cs (c,j)=>cs.setIfInBounds (i*n+j) c) cs) hc2 (by rw[hsz];exact hz.splice hr (i*n)) hf;refine⟨cs',?_,h5⟩;simp only[QZh,Instr.fill];rw[QYR (by simp;omega)];exact h4
  ·cases hf
 | [],_ :: _,_,_,_,hc,_,_=>by simp[Ki]at hc
 |_ :: _,[],_,_,_,hc,_,_=>by simp[Ki]at hc

theorem RepL.takeDrop {G:Gh}{l:List AV}{vs:List Value}(h:RepL G l vs)(o k:Nat):RepL G ((l.drop o).take k) ((vs.drop o).take k):=(h.drop o).take k

theorem XM (x:AV)(l:List AV):QP (x :: l)=x.cells++QP l:=rfl
theorem J5 (l r:List AV):QP (l++r)=QP l++QP r:=by simp[QP]
theorem JG {sz:Nat}:∀ {l:List AV} (_:∀x∈l,x.cells.length=sz) (k:Nat),(QP l).take (k*sz)=QP (l.take k)
 | [],_,k=>by simp[QP]
 |x :: l,h,k=>by
  cases k with
  |zero=>simp[QP]
  |succ k=>
   have hx:=h x (QY2 ..);rw[XM,QZi,XM,List.take_append,hx];rw[QZj (by rw[hx,QZk];omega),show(k+1)*sz-sz=k*sz by rw[QZk];omega,JG (fun y hy=>h y (QY0 _ hy))]
theorem ZI {sz:Nat}:∀ {l:List AV} (_:∀x∈l,x.cells.length=sz) (k:Nat),(QP l).drop (k*sz)=QP (l.drop k)
 | [],_,k=>by simp[QP]
 |x :: l,h,k=>by
  cases k with
  |zero=>simp
  |succ k=>
   have hx:=h x (QY2 ..);rw[XM,QZl,List.drop_append,hx];rw[QZm (by rw[hx,QZk];omega),show(k+1)*sz-sz=k*sz by rw[QZk];omega,ZI (fun y hy=>h y (QY0 _ hy))];rfl
theorem Yk {sz:Nat}:∀ {l:List AV} (_:∀x∈l,x.cells.length=sz),(QP l).length=l.length*sz
 | [],_=>by simp[QP]
 |x :: l,h=>by
  rw[XM,QZn,h x (QY2 ..),Yk (fun y hy=>h y (QY0 _ hy)),QYZ,QZk];omega
theorem WD (h:Rel G B N st a w){k:Option Nat}{p x:AV}(hx:Q5 st.m k p=some x){v:Value}(hp:Rep G p v){t:TypeId}(ht:Ze P t=some k) :
  ∃r,(Instr.loadAt t v).run P w=.ok r w∧Rep G x r:=by
 -- cells in a row at a known place
 have key:∀(b o:Nat) (vs:List Value) (y:List AV),RepL G y vs→(∀j u,vs[j]? = some u→w.cell? ⟨b,o+j,none⟩=some u)→part y 0 k=some x→
   ∃r,(Instr.loadAt t (.pointer (some ⟨b,o,none⟩))).run P w=.ok r w∧Rep G x r:=by
  intro b o vs y hy hcell hpart;cases k with
  |none=>
   obtain⟨u,hu,r⟩:=hy.at_ hpart;refine⟨u,?_,r⟩;have hc:=hcell 0 u hu;simp only[Instr.loadAt,Instr.sureAddr,Sem.run_bind,Sem.run_pure,Result.andThen_ok,loadVar,Gm ht,QY3,if_false,run_load];simp only[QZg]at hc;rw[hc]
  |some k=>
   simp only[part]at hpart;split at hpart
   ·rename_i hk;cases hpart;obtain⟨h1,h2⟩:=Gn (w:=w) ht;have hl:=hy.length;have hlen:(vs.take k).length=k:=by simp;omega
    have hrun:=run_loadCells_list (P:=P) w ⟨b,o,none⟩ (vs.take k) (fun j u hu=>by
     rw[Zt];refine hcell j u ?_;rw[QZo]at hu;split at hu
     ·exact hu
     ·cases hu)
    rw[hlen]at hrun;refine⟨.agg ⟨vs.take k⟩,?_,?_⟩
    ·simp only[Instr.loadAt,Instr.sureAddr,Sem.run_bind,Sem.run_pure,Result.andThen_ok,loadVar,h1,if_true,h2,hrun]
    ·have:=hy.take k
     simpa using Rep.agg this
   ·cases hpart
 cases p with
 |ptr l s o=>
  cases hp with
  |ptr hb=>
   rename_i b;simp only[Q5]at hx;split at hx
   ·rename_i xs hlk;obtain⟨b',cs,hb',hsoft,hr⟩:=h.mr.cells l s xs hlk;rw[hb]at hb';cases hb';have hr':=hr.shNL l;refine key b o (cs.toList.drop o) ((AV.shNL l xs).drop o) (hr'.drop o) (fun j u hu=>?_) ?_
    ·rw[hsoft.cell,←hu];simp
    ·cases k with
     |none=>
      simp only at hx;split at hx
      ·rename_i y hy;cases hx;have:∀(n:Nat) (xs:List AV) (i:Nat) (y:AV),xs[i]? = some y→(AV.shNL n xs)[i]? = some (y.shN n):=by
        intro n
        induction n with
        |zero=>intro xs i y h;exact h
        |succ n ih=>
         intro xs i y h;have h':=ih xs i y h;have aux:∀(l:List AV) (i:Nat) (y:AV),l[i]? = some y→(AV.shL l)[i]? = some y.sh:=by
          intro l
          induction l with
          |nil=>intro i y h;simp at h
          |cons z l ih=>
           intro i y h;cases i with
           |zero=>simp at h;subst h;rfl
           |succ i=>simp at h;simpa [AV.shL]using ih i y h
         exact aux _ _ _ h'
       simp only[part,QZp,QZg];exact this l xs o y hy
      ·cases hx
     |some k=>
      simp only at hx;split at hx
      ·rename_i hk;cases hx;have hlen:∀(n:Nat) (xs:List AV),(AV.shNL n xs).length=xs.length:=by
        intro n
        induction n with
        |zero=>intro xs;rfl
        |succ n ih=>
         intro xs;have aux:∀l:List AV,(AV.shL l).length=l.length:=by
          intro l
          induction l with
          |nil=>rfl
          |cons z l ih=>simp[AV.shL,ih]
         rw[AV.shNL,aux,ih]
       have hmap:∀(n:Nat) (xs:List AV) (i j:Nat),((AV.shNL n xs).drop i).take j=AV.shNL n ((xs.drop i).take j):=by
        intro n
        induction n with
        |zero=>intro xs i j;rfl
        |succ n ih=>
         intro xs i j;have aux:∀l:List AV,AV.shL l=l.map AV.sh:=by
          intro l
          induction l with
          |nil=>rfl
          |cons z l ih=>simp[AV.shL,ih]
         rw[AV.shNL,AV.shNL,←ih,aux,aux,QZq,List.map_drop]
       simp only[part,QZr,hlen,QY9,QZs];rw[QYS (by omega),hmap]
      ·cases hx
   ·cases hx
 |vptr l s g i o=>
  cases hp with
  |vptr hv hg hh=>
   simp only[Q5]at hx;split at hx
   ·rename_i g' sz xs hlk;split at hx
    ·rename_i hgg;split at hx
     ·rename_i e he;obtain⟨e1,e2,e3,e4⟩:=h.mr.vec l s g' sz xs hlk;obtain⟨b,hb,rfl⟩:=hh (by rw[e1];exact hgg);rcases e4 with⟨e4,_⟩|⟨b',e4,hrow⟩
      ·rw[hb]at e4;cases e4
      ·rw[hb]at e4;cases e4;obtain⟨cur,hsoft,hcs,hrep⟩:=hrow.cur;have hlt:=(QYM.1 he).1;have hsz:=e3.size e (QYY he);have hsub:((QP xs).drop (i*sz)).take sz=e.cells:=by
        have h1:=ZI e3.size i;rw[h1];have h2:xs.drop i=e :: xs.drop (i+1):=by
         rw[QZt hlt];congr 1
         exact(QYM.1 he).2
        rw[h2,XM,List.take_append,hsz];simp[QZj (QZu hsz)]
       have hre:RepL G e.cells (((cur.toList.take (xs.length*sz)).drop (i*sz)).take sz):=by
        rw[←hsub];exact(hrep.drop _).take _
       rw[e2];refine key b (i*sz+o) _ _ (hre.drop o) (fun j u hu=>?_) ?_
       ·rw[hsoft.cell];rw[QZp,QZo]at hu;split at hu
        ·rw[QZp,QZo]at hu;split at hu
         ·rw[QYJ];simpa using hu
         ·cases hu
        ·cases hu
       ·cases k with
        |none=>simpa [part]using hx
        |some k=>
         simp only[part]at hx ⊢;split at hx
         ·rename_i hk;cases hx;simp only[QZr,QZs];rw[QYS (by omega)]
         ·cases hx
     ·cases hx
    ·cases hx
   ·cases hx
 |rptr xs=>
  cases hp with
  |rptr hc hf hl hs=>
   exact key _ _ _ xs hc (fun j u hu=>h.mr.stab _ _ _ (hs j u hu)) hx
 |_=>simp[Q5]at hx

end

section
variable {P:Program}{G:Gh}{B N:Nat}{st:St}{a:Act}{w:World}

def BV (v:Option Value)(d n:Nat):Prop:=(v=none∧n=d)∨∃k i,v=some (.int k i)∧0≤i∧n=i.toNat

theorem Uu (h:Rel G B N st a w){x:Option Operand}{r:Option RA}(hc:Us x r=true){d n:Nat}(hb:Jx st.f d r=some n):BV (x.map a.eval) d n:=by
 cases x with
 |none=>
  cases r with
  |none=>simp only[Jx,QZb]at hb;exact .inl ⟨rfl,hb.symm⟩
  |some r=>simp[Us]at hc
 |some x=>
  cases r with
  |none=>simp[Us]at hc
  |some r=>
   have hr:=Qu h (x:=x) (r:=r) hc;simp only[Jx]at hb;split at hb
   ·rename_i k i e;split at hb
    ·rename_i h0;cases hb;rw[e]at hr;have hv:a.eval x=.int k i:=by
      revert hr
      generalize a.eval x=v;intro hr;cases hr;rfl
     exact .inr ⟨k,i,by simp[hv],h0,rfl⟩
    ·cases hb
   ·cases hb

theorem Zx {k:IntKind}{i:Int}{y:Nat}(h0:0≤i)(hy:i.toNat≤y)(c:BoundsCode):(Instr.sliceBound (.int k i) y c).run P w=.ok i.toNat w:=by
 simp only[Instr.sliceBound,asIntOf,Sem.run_bind,Sem.run_pure,Result.andThen_ok];rw[QYS (by omega)];rfl

theorem Gp (isSlice:Bool)(len cap:Nat){lo hi mx:Option Value}{l h m:Nat}(hl:BV lo 0 l)(hh:BV hi len h)(hm:BV mx cap m)(hs:mx.isSome=true→hi.isSome=true)(h1:l≤h)(h2:h≤m)(h3:m≤cap) :
  (Instr.sliceBounds isSlice len cap lo hi mx).run P w=.ok (l,h,m) w:=by
 rcases hm with⟨rfl,rfl⟩|⟨km,im,rfl,hm0,rfl⟩
 ·rcases hh with⟨rfl,rfl⟩|⟨kh,ih,rfl,hh0,rfl⟩
  ·rcases hl with⟨rfl,rfl⟩|⟨kl,il,rfl,hl0,rfl⟩
   ·rfl
   ·simp only[Instr.sliceBounds,Sem.run_bind,Sem.run_pure,Result.andThen_ok,Zx (P:=P) (w:=w) hl0 h1]
  ·have e:=fun c=>Zx (P:=P) (w:=w) (k:=kh) hh0 h2 c
   rcases hl with⟨rfl,rfl⟩|⟨kl,il,rfl,hl0,rfl⟩
   ·simp only[Instr.sliceBounds,Sem.run_bind,Sem.run_pure,Result.andThen_ok,e]
   ·simp only[Instr.sliceBounds,Sem.run_bind,Sem.run_pure,Result.andThen_ok,e,Zx (P:=P) (w:=w) hl0 h1]
 ·have em:=fun c=>Zx (P:=P) (w:=w) (k:=km) hm0 h3 c
  rcases hh with⟨rfl,rfl⟩|⟨kh,ih,rfl,hh0,rfl⟩
  ·simp at hs
  ·have e:=fun c=>Zx (P:=P) (w:=w) (k:=kh) hh0 h2 c
   rcases hl with⟨rfl,rfl⟩|⟨kl,il,rfl,hl0,rfl⟩
   ·simp only[Instr.sliceBounds,Sem.run_bind,Sem.run_pure,Result.andThen_ok,e,em]
   ·simp only[Instr.sliceBounds,Sem.run_bind,Sem.run_pure,Result.andThen_ok,e,em,Zx (P:=P) (w:=w) hl0 h1]

theorem KA (l r:List AV):AV.rfL (l++r)=(AV.rfL l&&AV.rfL r):=by
 induction l with
 |nil=>rfl
 |cons x l ih=>simp[AV.rfL,ih,Bool.and_assoc]
theorem V1 (l:List AV):AV.rfL l=l.all AV.rf:=by
 induction l with
 |nil=>rfl
 |cons x l ih=>simp[AV.rfL,ih]
theorem ZG {l r:List AV}(h:AV.rfL r=true)(hs:∀x∈l,x∈r):AV.rfL l=true:=by
 rw[V1,QYX]at *;exact fun x hx=>h x (hs x hx)
theorem XL {l r:List AV}(h:r.all AV.leaf=true)(hs:∀x∈l,x∈r):l.all AV.leaf=true:=by
 rw[QYX]at *;exact fun x hx=>h x (hs x hx)
theorem ZQ {l r:List AV}(hs:∀x∈l,x∈r):∀x∈QP l,x∈QP r:=by
 intro x hx;simp only[QP,List.mem_flatMap]at *;obtain⟨y,hy,hx⟩:=hx;exact⟨y,hs y hy,hx⟩

theorem Rep.sub {l:List AV}{cs:List Value}{A:Option Addr}{sz:Nat}(hc:RepL G (QP l) cs)(hz:∀x∈l,x.cells.length=sz)(hf:AV.rfL (QP l)=true)(hl:(QP l).all AV.leaf=true)
  (hs:∀j u,cs[j]? = some u→∃b o,A=some ⟨b,o,none⟩∧G.stab b (o+j)=some (.cell u)) (i k c:Nat) (hik:i+k≤l.length) (hkc:k≤c) (hm:k≤maxLen) {A':Option Addr} (hA:∀b o,0<k→A=some ⟨b,o,none⟩→A'=some ⟨b,o+i*sz,none⟩) :
  Rep G (.list ((l.drop i).take k)) (.slice A' k c):=by
 have hmem:∀x∈(l.drop i).take k,x∈l:=fun x hx=>QZv (QZw hx)
 have hz':∀x∈l.drop i,x.cells.length=sz:=fun x hx=>hz x (QZv hx)
 have e:QP ((l.drop i).take k)=((QP l).drop (i*sz)).take (k*sz):=by
  rw[ZI hz,JG hz']
 refine .list (cs:=(cs.drop (i*sz)).take (k*sz)) (sz:=sz) ?_ (fun x hx=>hz x (hmem x hx)) (ZG hf (ZQ hmem)) (XL hl (ZQ hmem)) ?_ (by simp;omega) hkc hm
 ·rw[e];exact hc.takeDrop _ _
 ·intro j u hu;rw[QZo]at hu;split at hu
  ·rename_i hj;rw[QZp]at hu;obtain⟨b,o,hAA,hst⟩:=hs _ u hu;have hk:0<k:=by
    rcases QZx k with h0|h0
    ·subst h0;simp at hj
    ·exact h0
   exact⟨b,o+i*sz,hA b o hk hAA,by rw[QYJ];exact hst⟩
  ·cases hu

theorem KP {t:TypeId}(h:Wr P t=true):P.underlying t=some .string:=by
 unfold Wr at h;split at h
 ·assumption
 ·cases h

def IN (P:Program)(t:TypeId):Option Nat→Prop
 |none=>P.underlying t=some .string
 |some z=>∃e i,P.underlying t=some (.slice e)∧P.info? e=some i∧i.size=z

def MxV (m:Option Value):Option Nat→Prop
 |none=>m=none
 |some k=>m.isSome=true∧BV m 0 k

theorem FA (h:Rel G B N st a w){x:AV}{n l hh:Nat}{sz mx:Option Nat}(hn:Zm x=some n){y:AV}(hx:Xg st.m sz x l hh mx=some y){v:Value}(hv:Rep G x v){t:TypeId}
  (ht:IN P t sz) {lo hi m:Option Value} (hlo:BV lo 0 l) (hhi:BV hi n hh) (hm:MxV m mx) (hs:m.isSome=true→hi.isSome=true) :
  ∃r,(Instr.sliceAt t v lo hi m).run P w=.ok r w∧Rep G y r:=by
 cases sz with
 |none=>
  simp only[Xg]at hx;cases x with
  |str s=>
   simp only at hx;cases mx with
   |some k=>simp at hx
   |none=>
    simp only at hx;have hm':m=none:=hm;subst hm';split at hx
    ·rename_i hh2;cases hx;cases hv;simp only[Zm,QZb]at hn;have hb:=Gp (P:=P) (w:=w) false s.length s.length hlo (by rw[hn];exact hhi) (mx:=none) (.inl ⟨rfl,rfl⟩) (fun e=>by cases e) hh2.1 hh2.2 (QYK _);refine⟨.string ⟨⟨(s.drop l).take (hh-l)⟩⟩,?_,.str _⟩;simp only[Instr.sliceAt,Sem.run_bind,run_underlying (show P.underlying t=some .string from ht),Result.andThen_ok,Instr.slice,QZy,QY3,if_false];have e:(ByteArray.size ⟨⟨s⟩⟩)=s.length:=rfl;rw[e,hb];simp only[Result.andThen_ok,Sem.run_pure,ByteArray.extract_mk]
    ·cases hx
  |_=>simp at hx
 |some z=>
  obtain⟨e,i,hte,hie,hiz⟩:=ht;simp only[Xg]at hx
  -- the run at a slice
  have run:∀(A:Option Addr) (k cap m':Nat),v=.slice A k cap→BV hi k hh→BV m cap m'→l≤hh→hh≤m'→m'≤cap→
    (Instr.sliceAt t v lo hi m).run P w=.ok (.slice (if m'=l then A else A.map (·.add (l*i.size))) (hh-l) (m'-l)) w:=by
   intro A k cap m' hvv hhi' hm' h1 h2 h3;subst hvv;have hb:=Gp (P:=P) (w:=w) true k cap hlo hhi' hm' hs h1 h2 h3;simp only[Instr.sliceAt,Sem.run_bind,run_underlying hte,Result.andThen_ok,Instr.slice,hb,Xz hie,Sem.run_pure]
  cases x with
  |nils=>
   simp only at hx;split at hx
   ·rename_i hh2;cases hx;cases hv;obtain⟨rfl,rfl,hm0⟩:=hh2;simp only[Zm,QZb]at hn;have hmb:BV m 0 0:=by
     cases mx with
     |none=>exact .inl ⟨hm,rfl⟩
     |some k=>simp at hm0;subst hm0;exact hm.2
    exact⟨.slice none 0 0,run none 0 0 0 rfl (by subst hn;exact hhi) hmb (QYK _) (QYK _) (QYK _),.nils⟩
   ·cases hx
  |list xs=>
   simp only at hx;split at hx
   ·rename_i hh2;cases hx;obtain⟨h1,h2,h3,h4⟩:=hh2;simp only[Zm,QZb]at hn;cases hv with
    |list hc hz hf hl hst hn' hcap hmax=>
     rename_i cs A k cap sz';subst hn';have hmb:∃m',BV m cap m'∧hh≤m'∧m'≤cap:=by
      cases mx with
      |none=>exact⟨cap,.inl ⟨hm,rfl⟩,by simp at h2;omega,QYK _⟩
      |some k=>
       obtain⟨hm1,hm2⟩:=hm;rcases hm2 with⟨e0,_⟩|hm2
       ·rw[e0]at hm1;cases hm1
       ·exact⟨k,.inr hm2,by simpa using h2,by simp at h3;omega⟩
     obtain⟨m',hm',h5,h6⟩:=hmb;refine⟨_,run A xs.length cap m' rfl (by rw[hn];exact hhi) hm' h1 h5 h6,?_⟩;refine Rep.sub hc hz hf hl hst l (hh-l) (m'-l) (by omega) (by omega) (by omega) (fun b o hpos hA=>?_);rw[QYR (by omega),hA];simp only[QZa,Zt,QZb,Addr.mk.injEq,and_true,true_and];rcases QZx l with h0|h0
     ·subst h0;simp
     ·have hall:=h4.resolve_left (by omega);have hpos':0<xs.length:=by omega
      have e1:=hz (xs[0]'hpos') (QZz _);have e2:=QYX.1 hall (xs[0]'hpos') (QZz _);simp only[QY8]at e2;rw[hiz,←e2,e1]
   ·cases hx
  |vec lv s g o k q=>
   simp only at hx;split at hx
   ·rename_i g' z' xs hlk;split at hx
    ·rename_i hh2;cases hx;obtain⟨rfl,rfl,h1,h2,h3⟩:=hh2;simp only[Zm,QZb]at hn;subst hn;obtain⟨e1,e2,e3,e4⟩:=h.mr.vec lv s g z xs hlk;cases hv with
     |vec hone hg hh'=>
      rcases hh' e1.symm with⟨hvm,rfl,rfl,A0,rfl,hA0⟩|⟨b,A,c,hvm,hok,rfl,hkc,hcm,hq,hA⟩
      ·have hl0:l=0∧hh=0:=by
        cases mx with
        |none=>simp at h2;omega
        |some k'=>simp at h2 h3;omega
       obtain⟨rfl,rfl⟩:=hl0;have hmb:BV m 0 0:=by
        cases mx with
        |none=>exact .inl ⟨hm,rfl⟩
        |some k'=>simp at h3;subst h3;exact hm.2
       refine⟨.slice A0 0 0,run A0 0 0 0 rfl hhi hmb (QYK _) (QYK _) (QYK _),.vec rfl (QZu e1.symm) fun _=>.inl ⟨hvm,rfl,rfl,A0,rfl,hA0⟩⟩
      ·have hmb:∃m',BV m c m'∧hh≤m'∧m'≤c∧(mx=none→m'=c):=by
        cases mx with
        |none=>exact⟨c,.inl ⟨hm,rfl⟩,by simp at h2;omega,QYK _,fun _=>rfl⟩
        |some k'=>
         obtain⟨hm1,hm2⟩:=hm;rcases hm2 with⟨e0,_⟩|hm2
         ·rw[e0]at hm1;cases hm1
         ·exact⟨k',.inr hm2,by simpa using h2,by simp at h3;omega,fun e=>by cases e⟩
       obtain⟨m',hm',h5,h6,h7⟩:=hmb;have hhk:hh≤k:=by
        cases mx with
        |none=>simpa using h2
        |some k'=>simp at h2 h3;omega
       refine⟨_,run (some A) k c m' rfl hhi hm' h1 h5 h6,?_⟩;refine .vec rfl (QZu e1.symm) fun _=>.inr ⟨b,if m'=l then A else A.add (l*i.size),m'-l,hvm,by omega,by split<;>rfl,by omega,by omega,?_,?_⟩
       ·intro hqq;simp only[QZA]at hqq;have hmn:mx=none:=by cases mx<;>simp at hqq ⊢
        rw[h7 hmn,hq hqq.1];omega
       ·rintro⟨hlt,hqn⟩;by_cases hml:m'=l
        ·rw[QYS hml];have hqf:q=false∧mx=none:=by
          rcases hqn with hqn|hqn
          ·simp only[QZA]at hqn;exact⟨hqn.1,by cases mx<;>simp at hqn ⊢⟩
          ·omega
         have hc':=hq hqf.1;have hm'':=h7 hqf.2;have:l=0:=by omega
         subst this;have hA':=hA ⟨by omega,.inl hqf.1⟩;rw[hA'];simp
        ·rw[QYR hml,hA ⟨by omega,?_⟩,Zt,hiz,e2,QZk];rcases hqn with hqn|hqn
         ·simp only[QZA]at hqn;exact .inl hqn.1
         ·exact .inr (by omega)
    ·cases hx
   ·cases hx
  |_=>simp at hx

end

mutual
theorem IP {G:Gh}:∀ {x:AV} {v:Value},x.gr=true→Rep G x v→v=x.gv
 |.int k n,_,_,h=>by cases h;rfl
 |.bool b,_,_,h=>by cases h;rfl
 |.str s,_,_,h=>by cases h;rfl
 |.agg l,_,hg,h=>by
   cases h with
   |agg h=>rw[AV.gv,P7 hg h]
theorem P7 {G:Gh}:∀ {l:List AV} {vs:List Value},AV.grL l=true→RepL G l vs→vs=AV.gvL l
 | [],_,_,h=>by cases h;rfl
 |x :: l,_,hg,h=>by
   have h2:=QYO.1 hg;cases h with
   |cons h t=>rw[AV.gvL,←IP h2.1 h,←P7 h2.2 t]
end
mutual
theorem Uv {G:Gh}:∀ {x:AV},x.gr=true→Rep G x x.gv
 |.int k n,_=>.int k n
 |.bool b,_=>.bool b
 |.str s,_=>.str s
 |.agg _,hg=>.agg (V2 hg)
theorem V2 {G:Gh}:∀ {l:List AV},AV.grL l=true→RepL G l (AV.gvL l)
 | [],_=>.nil
 |x :: _,hg=>by
   have h2:=QYO.1 hg;exact .cons (Uv h2.1) (V2 h2.2)
end

def WE (k:List UInt8):List (List UInt8)→List AV→Option (Nat×AV)
 |k' :: ks,v :: vs=>bif k==k' then some (0,v)else(WE k ks vs).map fun p=>(p.1+1,p.2)
 |_,_=>none

theorem FB (k:List UInt8):∀(ks:List (List UInt8)) (vs:List AV),Jy k ks vs=(WE k ks vs).map (·.2)
 | [],vs=>by cases vs<;>rfl
 |k' :: ks,[]=>rfl
 |k' :: ks,v :: vs=>by
  simp only[Jy,WE];cases k==k' with
  |true=>rfl
  |false=>
   simp only[cond_false,FB k ks vs,Option.map_map];rfl

theorem Mz (a b:List UInt8):((⟨⟨a⟩⟩:ByteArray)==⟨⟨b⟩⟩)=(a==b):=by
 rw[QZB,MapKept.bytes_beq]
 constructor
 ·intro h;cases h;simp
 ·intro h;rw[eq_of_beq h]

theorem YS (k:List UInt8):∀(ks:List (List UInt8)) (vs:List AV) (i n:Nat),Instr.findNow .string (.string ⟨⟨k⟩⟩) (ZD ks vs i) n=some ((WE k ks vs).map fun p=>(n+p.1,p.2.gv))
 | [],vs,i,n=>by cases vs<;>rfl
 |k' :: ks,[],i,n=>rfl
 |k' :: ks,v :: vs,i,n=>by
  simp only[ZD,Instr.findNow,Instr.sameNow,Mz,WE];cases k==k' with
  |true=>rfl
  |false=>
   simp only[cond_false,YS k ks vs (i+1) (n+1),Option.map_map];congr 2
   funext p;simp only[Function.comp];congr 1
   omega

theorem Uj {P:Program}{w:World}{t kt et:TypeId}{b:Nat}{ks:List (List UInt8)}{vs:List AV}{k:List UInt8}{z:Value}(ok:Bool)(ht:P.underlying t=some (.map kt et))(hk:P.underlying kt=some .string)
  (hb:w.heap[b]? = some (IT.obj (.mp ks vs) 0)) (hz:(zeroValue et).run P w=.ok z w) :
  (Instr.lookup t (.map (some b)) (.string ⟨⟨k⟩⟩) ok).run P w=.ok (if ok then .tuple #[((Jy k ks vs).map AV.gv).getD z,.bool (Jy k ks vs).isSome]else((Jy k ks vs).map AV.gv).getD z) w:=by
 have hc:∀e,(Instr.checkKey e 10000 kt (.string ⟨⟨k⟩⟩)).run P w=.ok () w:=fun e=>MapKept.run_checkKey (k:=.string ⟨⟨k⟩⟩) hk (by simp[MapKept.IsKey]) e 9999
 have hb:w.heap[b]? = some (.map ⟨ZD ks vs 0⟩ (ZD ks vs 0).length):=hb;have hf:=MapKept.run_findKey (w:=w) hk (YS k ks vs 0 0);rw[FB];cases hm:WE k ks vs with
 |none=>
  rw[hm]at hf;cases ok<;>simp[Instr.lookup,run_underlying ht,MapKept.run_getObj_map hb,hc,hf,hz,Result.andThen]
 |some p=>
  rw[hm]at hf;cases ok<;>simp[Instr.lookup,run_underlying ht,MapKept.run_getObj_map hb,hc,hf,Result.andThen]

theorem Gq (k:List UInt8)(x:AV):∀(ks:List (List UInt8)) (vs:List AV) (i:Nat),ks.length=vs.length→WE k ks vs=none→
  ZD (XS k x ks vs).1 (XS k x ks vs).2 i=ZD ks vs i++[{ key:=.string ⟨⟨k⟩⟩,val:=x.gv,born:=i+(ZD ks vs i).length }]
 | [],[],i,_,_=>rfl
 | [],v :: vs,i,h,_=>by cases h
 |k' :: ks,[],i,h,_=>by cases h
 |k' :: ks,v :: vs,i,hl,h=>by
  simp only[WE]at h;simp only[XS];cases hk:k==k' with
  |true=>rw[hk]at h;cases h
  |false=>
   rw[hk]at h;simp only[cond_false,Option.map_eq_none_iff]at h;simp only[cond_false,ZD,Gq k x ks vs (i+1) (by simpa using hl) h,QY5,QYZ];congr 4
   omega

theorem Gr (k:List UInt8)(x:AV):∀(ks:List (List UInt8)) (vs:List AV) (i j:Nat) (v:AV),WE k ks vs=some (j,v)→
  ZD (XS k x ks vs).1 (XS k x ks vs).2 i=(ZD ks vs i).modify j (fun e=>{ e with key:=.string ⟨⟨k⟩⟩,val:=x.gv })∧(ZD ks vs i)[j]?.map (·.key)=some (.string ⟨⟨k⟩⟩)
 | [],vs,i,j,v,h=>by cases vs<;>cases h
 |k' :: ks,[],i,j,v,h=>by cases h
 |k' :: ks,u :: vs,i,j,v,h=>by
  simp only[WE]at h;simp only[XS];cases hk:k==k' with
  |true=>
   rw[hk]at h;cases h;have e:=eq_of_beq hk;subst e;exact⟨rfl,rfl⟩
  |false=>
   rw[hk]at h;simp only[cond_false,QYP]at h;obtain⟨p,h,e⟩:=h;cases e;obtain⟨h1,h2⟩:=Gr k x ks vs (i+1) p.1 p.2 h;simp only[cond_false,ZD,h1];exact⟨rfl,by simpa using h2⟩

theorem HO {P:Program}{w:World}{t kt et:TypeId}{b p:Nat}{ks:List (List UInt8)}{vs:List AV}{k:List UInt8}{x:AV}(hl:ks.length=vs.length)(ht:P.underlying t=some (.map kt et))(hk:P.underlying kt=some .string)
  (hb:w.heap[b]? = some (IT.obj (.mp ks vs) p)) :
  (Instr.mapUpdate t (.map (some b)) (.string ⟨⟨k⟩⟩) x.gv).run P w=.ok () { w with heap:=w.heap.setIfInBounds b (IT.obj (.mp (XS k x ks vs).1 (XS k x ks vs).2) p) }:=by
 have hkey:MapKept.IsKey .string (.string ⟨⟨k⟩⟩):=by simp[MapKept.IsKey]
 have hc:∀e,(Instr.checkKey e 10000 kt (.string ⟨⟨k⟩⟩)).run P w=.ok () w:=fun e=>MapKept.run_checkKey (k:=.string ⟨⟨k⟩⟩) hk hkey e 9999
 have hb:w.heap[b]? = some (.map ⟨ZD ks vs 0⟩ (ZD ks vs 0).length):=hb;have hf:=MapKept.run_findKey (w:=w) hk (YS k ks vs 0 0);cases hm:WE k ks vs with
 |none=>
  rw[hm]at hf;have he:=Gq k x ks vs 0 hl hm;simp only[IT.obj,he];simp[Instr.mapUpdate,run_underlying ht,MapKept.run_getObj_map hb,hc,hf,MapKept.run_setObj_map _ hb,Result.andThen]
 |some q=>
  rw[hm]at hf;obtain⟨he,hj⟩:=Gr k x ks vs 0 q.1 q.2 hm;simp only[IT.obj,he];have hj':∃e,(ZD ks vs 0)[q.1]? = some e∧e.key=.string ⟨⟨k⟩⟩:=by
   cases hq:(ZD ks vs 0)[q.1]? with
   |none=>rw[hq]at hj;cases hj
   |some e=>rw[hq]at hj;exact⟨e,rfl,by simpa using hj⟩
  obtain⟨e,hq,hek⟩:=hj';have hq2:(⟨ZD ks vs 0⟩:Array MapEntry)[q.1]? = some e:=by simpa using hq
  simp[Instr.mapUpdate,run_underlying ht,MapKept.run_getObj_map hb,hc,hf,hq,hek,MapKept.run_keyThatStays hkey,MapKept.run_setObj_map _ hb,Result.andThen]

section
variable {P:Program}{G:Gh}{B N:Nat}{st:St}{a:Act}{w:World}

theorem Gs (h:Rel G B N st a w){x:AV}{l:List AV}(hx:Zd st.m x=some l){v:Value}(hv:Rep G x v) :
  ∃A c,v=.slice A l.length c∧∃sz cs,RepL G (QP l) cs∧Elems sz l∧∀j u,cs[j]? = some u→∃b o,A=some ⟨b,o,none⟩∧w.cell? ⟨b,o+j,none⟩=some u:=by
 cases x with
 |nils=>
  simp only[Zd,QZb]at hx;subst hx;cases hv;exact⟨none,0,rfl,0,[],.nil,⟨by simp,rfl,rfl⟩,by simp⟩
 |list l'=>
  simp only[Zd,QZb]at hx;subst hx;cases hv with
  |list hc hz hf hl hs hn hcap hm=>
   subst hn;exact⟨_,_,rfl,_,_,hc,⟨hz,hf,hl⟩,fun j u hu=>by
    obtain⟨b,o,e,hst⟩:=hs j u hu;exact⟨b,o,e,h.mr.stab _ _ _ hst⟩⟩
 |vec lv s g o k q=>
  simp only[Zd]at hx;split at hx
  ·rename_i g' z xs hlk;split at hx
   ·rename_i hh;cases hx;obtain⟨e1,e2,e3,e4⟩:=h.mr.vec lv s g' z xs hlk;have hlen:((xs.drop o).take k).length=k:=by simp;omega
    rw[hlen];have hmem:∀x∈(xs.drop o).take k,x∈xs:=fun x hx=>QZv (QZw hx)
    have hel:Elems z ((xs.drop o).take k):=⟨fun x hx=>e3.size x (hmem x hx),ZG e3.rf (ZQ hmem),XL e3.leaf (ZQ hmem)⟩;cases hv with
    |vec hone hg hh'=>
     rcases hh' (by rw[e1];exact hh.1)with⟨hvm,rfl,rfl,A0,rfl,hA0⟩|⟨b,A,c,hvm,hok,rfl,hkc,hcm,hq,hA⟩
     ·exact⟨A0,0,rfl,z,[],by simp;exact .nil,hel,by simp⟩
     ·rcases e4 with⟨e,_⟩|⟨b',e,hrow⟩
      ·rw[hvm]at e;cases e
      ·rw[hvm]at e;cases e;obtain⟨cur,hsoft,hcs,hrep⟩:=hrow.cur;have hr:=hrep.takeDrop (o*z) (k*z);rw[ZI e3.size,JG (fun x hx=>e3.size x (QZv hx))]at hr;refine⟨some A,c,rfl,z,_,hr,hel,fun j u hu=>?_⟩;rw[QZo]at hu;split at hu
       ·rename_i hj;rw[QZp,QZo]at hu;split at hu
        ·have hk:0<k:=by
          rcases QZx k with h0|h0
          ·subst h0;simp at hj
          ·exact h0
         have hA':=hA ⟨by have:=hrow.le;omega,.inr hk⟩;rw[e2]at hA';refine⟨b,o*z,by rw[hA'],?_⟩;rw[hsoft.cell]
         simpa using hu
        ·cases hu
       ·cases hu
   ·cases hx
  ·cases hx
 |_=>simp[Zd]at hx

def Qgh (P:Program)(t:TypeId)(sz:Nat):Option Nat→Prop
 |none=>∃e j,P.underlying t=some (.slice e)∧P.info? e=some j∧j.size=sz
 |some n=>∃e j,P.underlying t=some (.array n e)∧P.info? e=some j∧j.size=sz

theorem P8 (h:Rel G B N st a w){sz:Nat}(hsz0:sz≠0){len:Option Nat}{x:AV}{i:Int}{y:AV}(hx:Qd st.m sz len x i=some y){v:Value}(hv:Rep G x v){t:TypeId}{k:IntKind}
  (ht:Qgh P t sz len) :
  ∃r,(Instr.indexAt t v (.int k i)).run P w=.ok r w∧Rep G y r:=by
 unfold Qd at hx;split at hx
 case isFalse=>cases hx
 rename_i h0;cases len with
 |none=>
  obtain⟨ety,j,hu,hi,hj⟩:=ht;have runS:∀(b o n c:Nat),v=.slice (some ⟨b,o,none⟩) n c→i.toNat<n→(Instr.indexAt t v (.int k i)).run P w=.ok (.pointer (some ⟨b,o+i.toNat*sz,none⟩)) w:=by
   intro b o n c hv' hlt;subst hv';simp only[Instr.indexAt,asIntOf,Sem.run_bind,Sem.run_pure,Result.andThen_ok,run_underlying hu];rw[QYS (by omega)];simp only[Sem.run_bind,Xz hi,Result.andThen_ok,Zt,Sem.run_pure,hj]
  simp only at hx;cases x with
  |list l=>
   simp only at hx;split at hx
   ·rename_i e he;split at hx
    ·rename_i hsz;cases hx;cases hv with
     |list hc hz hf hl hst hn hcap hmax=>
      rename_i cs A n cap sz';have hlt:=(QYM.1 he).1;have hmem:=QYY he;have hsz':=hz e hmem;have hesz:sz'=sz:=by rw[←hsz',hsz]
      subst hesz;have hsub:((QP l).drop (i.toNat*sz')).take sz'=e.cells:=by
       have h1:=ZI hz i.toNat;rw[h1];have h2:l.drop i.toNat=e :: l.drop (i.toNat+1):=by
        rw[QZt hlt];congr 1
        exact(QYM.1 he).2
       rw[h2,XM,List.take_append,hsz'];simp[QZj (QZu hsz')]
      have hrc:RepL G e.cells ((cs.drop (i.toNat*sz')).take sz'):=by
       rw[←hsub];exact hc.takeDrop _ _
      have hmf:∀x∈e.cells,x∈QP l:=fun x hx=>List.mem_flatMap.2 ⟨e,hmem,hx⟩
      have hcl:0<((cs.drop (i.toNat*sz')).take sz').length:=by rw[hrc.length,hsz];omega
      obtain⟨u0,hu0⟩:∃u,(cs.drop (i.toNat*sz'))[0]? = some u:=by
       rw[QZC]at hcl;exact⟨_,QYN (by omega)⟩
      rw[QZp]at hu0;obtain⟨b,o,hA,_⟩:=hst _ u0 hu0;refine⟨_,runS b o n cap (by rw[hA]) (by omega),?_⟩;refine .rptr hrc (ZG hf hmf) (XL hl hmf) (fun q u hq=>?_);rw[QZo]at hq;split at hq
      ·rw[QZp]at hq;obtain⟨b',o',hA',hst'⟩:=hst _ u hq;rw[hA]at hA';cases hA';rw[QYJ];exact hst'
      ·cases hq
    ·cases hx
   ·cases hx
  |vec lv s g o n q=>
   simp only at hx;split at hx
   ·rename_i g' z xs hlk;split at hx
    ·rename_i hh;obtain⟨rfl,rfl,hlt⟩:=hh;cases hx;obtain⟨e1,e2,e3,e4⟩:=h.mr.vec lv s g sz xs hlk;cases hv with
     |vec hone hg hh'=>
      rcases hh' e1.symm with⟨hvm,rfl,rfl,A0,rfl,hA0⟩|⟨b,A,c,hvm,hok,rfl,hkc,hcm,hq,hA⟩
      ·omega
      ·have hovc:o<G.vc lv s:=Nat.lt_of_lt_of_le (Nat.lt_of_le_of_lt (Nat.le_add_right o i.toNat) (Nat.add_lt_add_left hlt o)) hok;have hA':=hA ⟨.inl hovc,.inr (Nat.lt_of_le_of_lt (QYT _) hlt)⟩;rw[e2]at hA';refine⟨_,runS b (o*sz) n c (by rw[hA']) hlt,.vptr rfl (QZu e1.symm) fun _=>⟨b,hvm,?_⟩⟩;rw[e2,QZg,QZk]
    ·cases hx
   ·cases hx
  |_=>simp at hx
 |some n=>
  obtain⟨ety,j,hu,hi,hj⟩:=ht;have runA:∀(b o:Nat),v=.pointer (some ⟨b,o,none⟩)→i.toNat<n→(Instr.indexAt t v (.int k i)).run P w=.ok (.pointer (some ⟨b,o+i.toNat*sz,none⟩)) w:=by
   intro b o hv' hlt;subst hv';simp only[Instr.indexAt,asIntOf,Sem.run_bind,Sem.run_pure,Result.andThen_ok,run_underlying hu,Instr.sureAddr];rw[QYS (by omega)];simp only[Sem.run_bind,Xz hi,Result.andThen_ok,Zt,Sem.run_pure,hj]
  simp only at hx;cases x with
  |ptr lv s o=>
   simp only at hx;split at hx
   ·rename_i hlt;cases hx;cases hv with
    |ptr hb=>exact⟨_,runA _ o rfl hlt,.ptr hb⟩
   ·cases hx
  |rptr xs=>
   simp only at hx;split at hx
   ·rename_i hlt;cases hx;cases hv with
    |rptr hc hf hl hs=>
     exact⟨_,runA _ _ rfl hlt,.rptr (hc.drop _) (ZG hf fun x hx=>QZv hx) (XL hl fun x hx=>QZv hx) (fun q u hq=>by
      rw[QZp]at hq;rw[QYJ];exact hs _ u hq)⟩
   ·cases hx
  |_=>simp at hx

theorem BB (h:Rel G B N st a w){l s g:Nat}(hg:WB st.m l s=some g):g=G.vg l s:=by
 unfold WB at hg;split at hg
 ·rename_i g' z xs hlk;cases hg;exact(h.mr.vec l s g z xs hlk).1.symm
 ·cases hg

theorem Gt (h:Rel G B N st a w){x:AV}{ks:List (List UInt8)}{vs:List AV}(hx:ZH st.m x=some (ks,vs)){v:Value}(hv:Rep G x v):∃b,v=.map (some b)∧w.heap[b]? = some (IT.obj (.mp ks vs) 0):=by
 cases x with
 |mp ks' vs'=>
  cases hx;cases hv with
  |mp hb=>exact⟨_,rfl,h.mr.stab _ _ _ hb⟩
 |mptr l s=>
  simp only[ZH]at hx;split at hx
  ·rename_i hl;cases hx;cases hv with
   |mptr hb=>
    obtain⟨b',e',hh⟩:=h.mr.iter l s _ _ hl;rw[hb]at e';cases e';exact⟨_,rfl,hh⟩
  ·cases hx
 |_=>cases hx

theorem Hp {t:TypeId}(h:WC P t=true):∃d,P.underlying t=some d∧∀m,d≠.interface m:=by
 cases hu:P.underlying t with
 |none=>simp[WC,hu]at h
 |some d=>
  refine⟨d,rfl,fun m e=>?_⟩;subst e;simp[WC,hu]at h

theorem Qgi (h:Rel G B N st a w){vo:VO}{x:AV}(hx:QG st.f st.m vo=some x){o:Oper}(hc:XT P o.op vo=true):∃v,(execOp a.eval o).run P w=.ok (.value v) w∧Rep G x v:=by
 obtain⟨dst,op,ty,pos,after,guard⟩:=o;simp only at hc;cases vo with
 |mov r=>
  simp only[QG,QZb]at hx;subst hx;cases op<;>simp only[XT,QY3]at hc<;>exact⟨_,rfl,Qu h hc⟩
 |pick c p q=>
  cases op<;>simp only[XT,QY3,QY7]at hc;rename_i oc op' oq;obtain⟨⟨h1,h2⟩,h3⟩:=hc;have r1:=Qu h h1;simp only[QG]at hx;split at hx
  ·rename_i b e;cases hx;rw[e]at r1;have hv:a.eval oc=.bool b:=by
    revert r1
    generalize a.eval oc=v;intro r1;cases r1;rfl
   refine⟨if b then a.eval op' else a.eval oq,by simp[execOp,hv,asBool],?_⟩;cases b
   ·exact Qu h h3
   ·exact Qu h h2
  ·cases hx
 |build z ps=>
  cases op<;>simp only[XT,QY3]at hc;rename_i t Qm;split at hc
  ·rename_i fs i hu hi;split at hc
   ·rename_i zv pl hz hpl;simp only[QY7]at hc;simp only[QG,QYP]at hx;obtain⟨y,hy,rfl⟩:=hx;obtain⟨cs,h1,h2⟩:=VZ h hc.2 (isCL_ok hc.1) hy;refine⟨.agg cs,?_,.agg h2⟩;have hpl':(fs.mapM fun f=>(do pure (f.offset,←sizeOf f.type):Sem (Nat×Nat))).run P w=.ok pl.toArray w:=by
     unfold Bw at hpl;rw[Array.mapM_eq_mapM_toList];simp only[Sem.run_map];have aux:∀(l:List Field) (pl:List (Nat×Nat)),(l.mapM fun fl=>(P.info? fl.type).map fun i=>(fl.offset,i.size))=some pl→
       (l.mapM fun f=>(do pure (f.offset,←sizeOf f.type):Sem (Nat×Nat))).run P w=.ok pl w:=by
      intro l
      induction l with
      |nil=>intro pl e;simp at e;subst e;rfl
      |cons f l ih=>
       intro pl e;simp only[List.mapM_cons,Option.bind_eq_bind,Option.bind_eq_some_iff,QYP,Option.pure_def,QZb]at e;obtain⟨p,⟨i,hi,rfl⟩,pl',e,rfl⟩:=e;simp only[List.mapM_cons,Sem.run_bind,Xz hi,Result.andThen_ok,Sem.run_pure,ih pl' e]
     rw[aux _ pl hpl];rfl
    simp only[execOp,Instr.build,zeroValue,typeInfo,Sem.run_bind,run_program,Result.andThen_ok,hi,Sem.run_pure,hz,run_underlying hu,hpl'];have e:(fun(x:Nat)=>(pl.toArray)[x]?)=(fun(x:Nat)=>pl[x]?):=by funext x;simp
    have e2:(Qm.map fun(x:Nat×Operand)=>(x.1,a.eval x.2)).toList=Qm.toList.map fun x=>(x.1,a.eval x.2):=by simp
    rw[e,e2,h1];rfl
   ·cases hc
  ·rename_i k e i hu hi;split at hc
   ·rename_i zv ie hz hie;simp only[QY7]at hc;simp only[QG,QYP]at hx;obtain⟨y,hy,rfl⟩:=hx;obtain⟨cs,h1,h2⟩:=BA h hc.2 (isCL_ok hc.1) hy;refine⟨.agg cs,?_,.agg h2⟩;simp only[execOp,Instr.build,zeroValue,typeInfo,Sem.run_bind,run_program,Result.andThen_ok,hi,Sem.run_pure,hz,run_underlying hu,Xz hie];have e2:(Qm.map fun(x:Nat×Operand)=>(x.1,a.eval x.2)).toList=Qm.toList.map fun x=>(x.1,a.eval x.2):=by simp
    rw[e2,h1];rfl
   ·cases hc
  ·cases hc
 |load k r=>
  cases op<;>simp only[XT,QY3,QY7,QY8]at hc;rename_i t y;obtain⟨v,h1,h2⟩:=WD (P:=P) h hx (Qu h hc.2) hc.1;exact⟨v,by simp[execOp,h1],h2⟩
 |loado k r=>
  have hx':Q5 st.m k (r.ev st.f)=some x:=by
   simp only[QG]at hx;split at hx
   ·rename_i e;rw[e];exact hx
   ·cases hx
  cases op<;>simp only[XT,QY3,QY7,QY8]at hc;rename_i t y;obtain⟨v,h1,h2⟩:=WD (P:=P) h hx' (Qu h hc.2) hc.1;exact⟨v,by simp[execOp,h1],h2⟩
 |loadv l s k r=>
  have hx':Q5 st.m k (r.ev st.f)=some x:=by
   simp only[QG]at hx;split at hx
   ·rename_i e;split at hx
    ·rw[e];exact hx
    ·cases hx
   ·cases hx
  cases op<;>simp only[XT,QY3,QY7,QY8]at hc;rename_i t y;obtain⟨v,h1,h2⟩:=WD (P:=P) h hx' (Qu h hc.2) hc.1;exact⟨v,by simp[execOp,h1],h2⟩
 |loadr k r=>
  have hx':Q5 st.m k (r.ev st.f)=some x:=by
   simp only[QG]at hx;split at hx
   ·rename_i e;rw[e];exact hx
   ·rename_i e;rw[e];exact hx
   ·cases hx
  cases op<;>simp only[XT,QY3,QY7,QY8]at hc;rename_i t y;obtain⟨v,h1,h2⟩:=WD (P:=P) h hx' (Qu h hc.2) hc.1;exact⟨v,by simp[execOp,h1],h2⟩
 |nilck r=>
  cases op<;>simp only[XT,QY3]at hc;rename_i y;have r1:=Qu h hc;simp only[QG]at hx;split at hx
  ·rename_i e;cases hx;rw[e]at r1;simp only[execOp];generalize a.eval y=v at r1 ⊢;cases r1 with
   |ptr hb=>exact⟨_,rfl,.ptr hb⟩
  ·rename_i e;split at hx
   ·rename_i hg;cases hx;rw[e]at r1;simp only[execOp];generalize a.eval y=v at r1 ⊢;cases r1 with
    |vptr h1 h2 h3=>
     obtain⟨b,hb,rfl⟩:=h3 (BB h hg);exact⟨_,rfl,.vptr h1 h2 fun _=>⟨b,hb,rfl⟩⟩
   ·cases hx
  ·rename_i e;cases hx;rw[e]at r1;simp only[execOp];generalize a.eval y=v at r1 ⊢;cases r1 with
   |rptr h1 h2 h3 h4=>exact⟨_,rfl,.rptr h1 h2 h3 h4⟩
  ·rename_i e;cases hx;rw[e]at r1;simp only[execOp];generalize a.eval y=v at r1 ⊢;cases r1 with
   |fn h1 h2=>exact⟨_,rfl,.fn h1 h2⟩
  ·cases hx
 |bin ty o r s=>
  cases op<;>simp only[XT,QY3,QY7,QY8]at hc;rename_i o' t y z yt;obtain⟨⟨⟨rfl,h1⟩,h2⟩,h3⟩:=hc;obtain⟨v,h4,h5⟩:=QbI (P:=P) (w:=w) hx (Qu h h2) (Qu h h3) h1 y z;exact⟨v,by simp only[execOp,Sem.run_bind]at h4 ⊢;rw[h4];rfl,h5⟩
 |eqs neg ks r s=>
  cases op<;>simp only[XT,QY3,QY7,QY8,QZD]at hc;rename_i o' t y z yt;obtain⟨⟨⟨⟨⟨ho,h1⟩,hst⟩,hge⟩,h2⟩,h3⟩:=hc;simp only[QG]at hx;split at hx
  ·rename_i l1 l2 e1 e2;split at hx
   ·rename_i b hb;cases hx;have r1:=Qu h h2;have r2:=Qu h h3;rw[e1]at r1;rw[e2]at r2;simp only[execOp];generalize a.eval y=v at r1 ⊢;generalize a.eval z=u at r2 ⊢;cases r1 with
    |agg r1=>
     cases r2 with
     |agg r2=>
      rename_i vs us;split at h1
      ·rename_i fs hu;have hf:P.fieldsOf t=fs:=by simp[Program.fieldsOf,hu]
       have heq:=run_equalIn_struct (P:=P) w 9999 t ⟨vs⟩ ⟨us⟩ (by rw[hf];exact hu) hst;rw[hf,Ho (P:=P) (w:=w) 9998 ⟨vs⟩ ⟨us⟩ fs.toList ks 0 l1 l2 b h1 (by simpa using r1) (by simpa using r2) hb]at heq;simp only[Sem.run_bind,run_eqGuard_agg w o' t y z ⟨vs⟩ ⟨us⟩ hge,Result.andThen_ok];cases neg with
       |false=>
        simp only[QY3,if_false]at ho;subst ho;exact⟨_,by rw[run_eql_struct,heq];rfl,.bool _⟩
       |true=>
        simp only[if_true]at ho;subst ho;exact⟨_,by rw[run_neq_struct,heq];rfl,.bool _⟩
      ·cases h1
   ·cases hx
  ·cases hx
 |un o r=>
  cases op<;>simp only[XT,QY3,QY7,QY8]at hc;obtain⟨rfl,h1⟩:=hc;obtain⟨v,h4,h5⟩:=Qgg (P:=P) (w:=w) hx (Qu h h1);exact⟨v,by simp[execOp,h4],h5⟩
 |cvi k r=>
  cases op<;>simp only[XT,QY3,QY7]at hc;rename_i src dst' y;obtain⟨⟨h1,h2⟩,h3⟩:=hc;have r1:=Qu h h3;simp only[QG]at hx;split at hx
  ·rename_i k' n e;cases hx;rw[e]at r1;have hd:P.underlying dst'=some (.int k):=by
    unfold IM at h1;split at h1
    ·rename_i k'' hk;simp only[QY8]at h1;subst h1;exact hk
    ·cases h1
   obtain⟨ds,hs⟩:=Option.isSome_iff_exists.1 h2;simp only[execOp];generalize a.eval y=v at r1 ⊢;cases r1;refine⟨.int k (k.wrap n),?_,.int _ _⟩;simp only[convert,Sem.run_bind,run_underlying hs,run_underlying hd,Result.andThen_ok,Conv.intToInt];rfl
  ·cases hx
 |slc sz r lo hi mx=>
  cases op<;>simp only[XT,QY3,QY7,QZE]at hc;rename_i t y ol oh om;obtain⟨⟨⟨⟨⟨h1,h2⟩,h3⟩,h4⟩,h5⟩,h6⟩:=hc;have r1:=Qu h h2;have ht:IN P t sz:=by
   cases sz with
   |none=>exact KP h1
   |some z=>
    simp only at h1;split at h1
    ·rename_i e hu;simp only[QZF]at h1;obtain⟨i,hi,hz⟩:=h1;exact⟨e,i,hu,hi,by simpa using hz⟩
    ·cases h1
  simp only[QG]at hx;split at hx
  ·rename_i n b1 e1 e2;split at hx
   ·rename_i b2 e3;cases mx with
    |none=>
     simp only at hx;have hom:om=none:=by cases om<;>simp[Us]at h5 ⊢
     subst hom;obtain⟨v,h7,h8⟩:=FA (P:=P) h e1 hx r1 ht (Uu h h3 e2) (Uu h h4 e3) (m:=none) (show MxV none none from rfl) (fun e=>by cases e);exact⟨v,by simp only[execOp,Sem.run_bind,Option.map_none,h7];rfl,h8⟩
    |some rm=>
     simp only at hx;split at hx
     ·rename_i c hcc;have hsm:om.isSome=true:=by cases om<;>simp[Us]at h5 ⊢
      obtain⟨v,h7,h8⟩:=FA (P:=P) h e1 hx r1 ht (Uu h h3 e2) (Uu h h4 e3) (m:=om.map a.eval) ⟨by simpa using hsm,Uu h h5 hcc⟩ (fun _=>by
       rcases h6 with h6|h6
       ·cases om<;>simp at h6 hsm
       ·simpa using h6)
      exact⟨v,by simp only[execOp,Sem.run_bind,h7];rfl,h8⟩
     ·cases hx
   ·cases hx
  ·cases hx
 |mget ok z r i=>
  cases op<;>simp only[XT,QY3,QY7,QY8]at hc;rename_i t y yi ok';obtain⟨⟨⟨h1,rfl⟩,h2⟩,h3⟩:=hc;have r1:=Qu h h2;have r2:=Qu h h3;split at h1
  case h_2=>cases h1
  rename_i kt et hu;simp only[QY7]at h1;obtain⟨hks,h1⟩:=h1;split at h1
  case h_2=>cases h1
  rename_i inf hi;split at h1
  case h_2=>cases h1
  rename_i zv hzv;simp only[QG]at hx;split at hx
  case h_2=>cases hx
  rename_i ks vs he;split at hx
  case h_2=>cases hx
  rename_i k hkk;rw[hkk]at r2;have ey:a.eval yi=.string ⟨⟨k⟩⟩:=by
   generalize a.eval yi=v at r2;cases r2;rfl
  obtain⟨b,eb,hb⟩:=Gt h he r1;have hz:(zeroValue et).run P w=.ok zv w:=by simp only[zeroValue,typeInfo,Sem.run_bind,run_program,Result.andThen_ok,hi,hzv,Sem.run_pure]
  have hrun:=Uj (k:=k) ok hu (KP hks) hb hz;refine⟨_,by simp only[execOp,Sem.run_bind,eb,ey,hrun,Result.andThen_ok];rfl,?_⟩;cases hm:Jy k ks vs with
  |none=>
   rw[hm]at hx;cases hx;cases ok
   ·exact isC_ok h1
   ·exact .tup (.cons (isC_ok h1) (.cons (.bool _) .nil))
  |some v=>
   rw[hm]at hx;simp only at hx;cases hg:v.gr with
   |false=>rw[hg]at hx;cases hx
   |true=>
    rw[hg]at hx;cases hx;cases ok
    ·exact Uv hg
    ·exact .tup (.cons (Uv hg) (.cons (.bool _) .nil))
 |mgetp ok z r i=>
  cases op<;>simp only[XT,QY3,QY7,QY8]at hc;rename_i t y yi ok';obtain⟨⟨⟨h1,rfl⟩,h2⟩,h3⟩:=hc;have r1:=Qu h h2;have r2:=Qu h h3;split at h1
  case h_2=>cases h1
  rename_i kt et hu;simp only[QY7]at h1;obtain⟨hks,h1⟩:=h1;split at h1
  case h_2=>cases h1
  rename_i inf hi;split at h1
  case h_2=>cases h1
  rename_i zv hzv;simp only[QG]at hx;split at hx
  case h_2=>cases hx
  rename_i ks vs he;rw[he]at r1;split at hx
  case h_2=>cases hx
  rename_i k hkk;rw[hkk]at r2;have ey:a.eval yi=.string ⟨⟨k⟩⟩:=by
   generalize a.eval yi=v at r2;cases r2;rfl
  obtain⟨b,eb,hb⟩:=Gt (x:=.mp ks vs) h rfl r1;have hz:(zeroValue et).run P w=.ok zv w:=by simp only[zeroValue,typeInfo,Sem.run_bind,run_program,Result.andThen_ok,hi,hzv,Sem.run_pure]
  have hrun:=Uj (k:=k) ok hu (KP hks) hb hz;refine⟨_,by simp only[execOp,Sem.run_bind,eb,ey,hrun,Result.andThen_ok];rfl,?_⟩;cases hm:Jy k ks vs with
  |none=>
   rw[hm]at hx;cases hx;cases ok
   ·exact isC_ok h1
   ·exact .tup (.cons (isC_ok h1) (.cons (.bool _) .nil))
  |some v=>
   rw[hm]at hx;simp only at hx;cases hg:v.gr with
   |false=>rw[hg]at hx;cases hx
   |true=>
    rw[hg]at hx;cases hx;cases ok
    ·exact Uv hg
    ·exact .tup (.cons (Uv hg) (.cons (.bool _) .nil))
 |mki t r=>
  cases op<;>simp only[XT,QY3,QY7,QY8]at hc;rename_i t' y;obtain⟨⟨rfl,h1⟩,h2⟩:=hc;have r1:=Qu h h2;simp only[QG,QZb]at hx;subst hx;refine⟨.iface t (a.eval y),?_,.iface r1⟩;obtain⟨d,hu,hd⟩:=Hp h1;simp only[execOp,Sem.run_bind,Instr.makeInterface,run_underlying hu,Result.andThen_ok];cases d<;>first|rfl|exact absurd rfl (hd _)
 |tas t ok z r=>
  cases op<;>simp only[XT,QY3,QY7,QY8]at hc;rename_i y xt t' ok';obtain⟨⟨⟨⟨rfl,h1⟩,hz⟩,rfl⟩,h2⟩:=hc;have r1:=Qu h h2;split at hz
  case h_2=>cases hz
  rename_i inf hi;split at hz
  case h_2=>cases hz
  rename_i zv hzv;have hzz:(zeroValue t).run P w=.ok zv w:=by simp only[zeroValue,typeInfo,Sem.run_bind,run_program,Result.andThen_ok,hi,hzv,Sem.run_pure]
  obtain⟨d,hu,hd⟩:=Hp h1;simp only[QG]at hx;split at hx
  ·rename_i t' y' e;rw[e]at r1;generalize hv:a.eval y=v at r1;cases r1 with
   |iface r1=>
    cases ht:t'==t with
    |true=>
     rw[ht]at hx;have ht':t'=t:=by simpa using ht
     subst ht';cases hx;rename_i v';refine⟨if ok then .tuple #[v',.bool true]else v',?_,?_⟩
     ·simp only[execOp,hv,Sem.run_bind,Instr.typeAssert,run_underlying hu,Result.andThen_ok];cases d<;>first|exact absurd rfl (hd _)|simp
     ·cases ok
      ·exact r1
      ·exact .tup (.cons r1 (.cons (.bool _) .nil))
    |false=>
     rw[ht]at hx;have ht':¬t'=t:=by simpa using ht
     cases ok with
     |false=>cases hx
     |true=>
      cases hx;refine⟨.tuple #[zv,.bool false],?_,.tup (.cons (isC_ok hz) (.cons (.bool _) .nil))⟩;simp only[execOp,hv,Sem.run_bind,Instr.typeAssert,run_underlying hu,Result.andThen_ok];cases d<;>first|exact absurd rfl (hd _)|simp[ht',hzz]
  ·rename_i e;rw[e]at r1;generalize hv:a.eval y=v at r1;cases r1;cases ok with
   |false=>cases hx
   |true=>
    cases hx;refine⟨.tuple #[zv,.bool false],?_,.tup (.cons (isC_ok hz) (.cons (.bool _) .nil))⟩;simp only[execOp,hv,Sem.run_bind,Instr.typeAssert,run_underlying hu,Result.andThen_ok];cases d<;>first|exact absurd rfl (hd _)|simp[hzz]
  ·cases hx
 |aidx n sz k r i=>
  cases op<;>simp only[XT,QY3,QY7]at hc;rename_i t y z;obtain⟨⟨h1,h2⟩,h3⟩:=hc;have r1:=Qu h h2;have r2:=Qu h h3;split at h1
  case h_2=>cases h1
  rename_i n' e hu;simp only[QY7,QY8,QZF]at h1;obtain⟨⟨rfl,inf,hi,hz⟩,hsh⟩:=h1;simp only[QG]at hx;split at hx
  case h_2=>cases hx
  rename_i l kk j e1 e2;rw[e1]at r1;rw[e2]at r2;split at hx
  case isFalse=>cases hx
  rename_i hb;have ez:a.eval z=.int kk j:=by
   generalize a.eval z=v at r2;cases r2;rfl
  simp only[execOp,Sem.run_bind,ez];generalize a.eval y=v at r1 ⊢;cases r1 with
  |agg r1=>
   obtain⟨v,h4,h5⟩:=VY (P:=P) (w:=w) r1 hx hsh;refine⟨v,?_,h5⟩;simp only[Instr.index,asIntOf,Sem.run_bind,Sem.run_pure,run_underlying hu,Result.andThen_ok,QYS hb,Xz hi,hz,h4]
 |faddr off r=>
  cases op<;>simp only[XT,QY3,QY7]at hc;rename_i t y k;obtain⟨h1,h2⟩:=hc;have r1:=Qu h h2;split at h1
  ·rename_i fs hu;split at h1
   ·rename_i fl hfl;simp only[QY7,QY8,QZF,QZc]at h1;obtain⟨hoff,i,hi,hne⟩:=h1;have run:∀b o,a.eval y=.pointer (some ⟨b,o,none⟩)→(Instr.fieldAt t (a.eval y) k).run P w=.ok (.pointer (some ⟨b,o+off,none⟩)) w:=by
     intro b o e;rw[e];simp only[Instr.fieldAt,Sem.run_bind,run_underlying hu,Result.andThen_ok,hfl,Instr.sureAddr,Sem.run_pure,fieldPlace,Xz hi,QYR hne,Zt,hoff]
    simp only[execOp,Sem.run_bind];simp only[QG]at hx;split at hx
    ·rename_i e;cases hx;rw[e]at r1;generalize hv:a.eval y=v at r1 run ⊢;cases r1 with
     |ptr hb=>exact⟨_,by rw[run _ _ rfl];rfl,.ptr hb⟩
    ·rename_i e;split at hx
     ·rename_i hg;cases hx;rw[e]at r1;generalize hv:a.eval y=v at r1 run ⊢;cases r1 with
      |vptr g1 g2 g3=>
       obtain⟨b,hb,rfl⟩:=g3 (BB h hg);exact⟨_,by rw[run _ _ rfl];rfl,.vptr rfl g2 fun _=>⟨b,hb,by rw[QYJ]⟩⟩
     ·cases hx
    ·rename_i xs e;cases hx;rw[e]at r1;generalize hv:a.eval y=v at r1 run ⊢;cases r1 with
     |rptr g1 g2 g3 g4=>
      exact⟨_,by rw[run _ _ rfl];rfl,.rptr (g1.drop off) (ZG g2 fun x hx=>QZv hx) (XL g3 fun x hx=>QZv hx) (fun q u hq=>by
       rw[QZp]at hq;rw[QYJ];exact g4 _ u hq)⟩
    ·cases hx
   ·cases h1
  ·cases h1
 |fld off k r=>
  cases op<;>simp only[XT,QY3,QY7]at hc;rename_i t y q;obtain⟨h1,h2⟩:=hc;have r1:=Qu h h2;split at h1
  ·rename_i fs hu;split at h1
   ·rename_i fl hfl;simp only[QY7,QY8]at h1;simp only[QG]at hx;split at hx
    ·rename_i l e;rw[e]at r1;simp only[execOp,Sem.run_bind];generalize a.eval y=v at r1 ⊢;cases r1 with
     |agg r1=>
      obtain⟨v,h3,h4⟩:=VY (P:=P) (w:=w) r1 hx h1.2;refine⟨v,?_,h4⟩;simp only[Instr.field,Sem.run_bind,run_underlying hu,Result.andThen_ok,hfl,asAgg,Sem.run_pure,h1.1,h3]
    ·cases hx
   ·cases h1
  ·cases h1
 |iaddr sz len r i=>
  cases op<;>simp only[XT,QY3,QY7]at hc;rename_i t y z;obtain⟨⟨h1,h2⟩,h3⟩:=hc;have r1:=Qu h h2;have r2:=Qu h h3;have ht:sz≠0∧Qgh P t sz len:=by
   cases hu:P.underlying t with
   |none=>simp[hu]at h1
   |some d=>
    cases d with
    |slice e=>
     simp only[hu,QY7,QY8,QZF,QZc]at h1;obtain⟨⟨rfl,j,hj,hz⟩,hne⟩:=h1;exact⟨hne,e,j,hu,hj,hz⟩
    |array n e=>
     simp only[hu,QY7,QY8,QZF,QZc]at h1;obtain⟨⟨rfl,j,hj,hz⟩,hne⟩:=h1;exact⟨hne,e,j,hu,hj,hz⟩
    |_=>simp[hu]at h1
  simp only[QG]at hx;split at hx
  ·rename_i k n e;rw[e]at r2;simp only[execOp,Sem.run_bind];generalize a.eval z=u at r2 ⊢;cases r2;obtain⟨v,h4,h5⟩:=P8 (P:=P) h ht.1 hx r1 (k:=k) ht.2;exact⟨v,by rw[h4];rfl,h5⟩
  ·cases hx
 |idx r i=>
  cases op<;>simp only[XT,QY3,QY7]at hc;rename_i t y z;obtain⟨⟨h1,h2⟩,h3⟩:=hc;have r1:=Qu h h2;have r2:=Qu h h3;simp only[QG]at hx;split at hx
  ·rename_i s k n e1 e2;split at hx
   ·rename_i h0;split at hx
    ·rename_i b hb;cases hx;rw[e1]at r1;rw[e2]at r2;simp only[execOp,Sem.run_bind];generalize a.eval y=v at r1 ⊢;generalize a.eval z=u at r2 ⊢;cases r1;cases r2;refine⟨.int .u8 (b.toNat:Int),?_,.int _ _⟩;have hidx:(⟨⟨s⟩⟩:ByteArray)[n.toNat]? = some b:=by
      have hlt:=(QYM.1 hb).1;rw[ByteArray.getElem?_lt' _ _ hlt];rw[QYN hlt]at hb;exact hb
     simp only[Instr.index,asIntOf,Sem.run_bind,Sem.run_pure,Result.andThen_ok,run_underlying (KP h1),QYS h0,hidx]
    ·cases hx
   ·cases hx
  ·cases hx
 |ext r i=>
  cases op<;>simp only[XT,QY3,QY7,QY8]at hc;rename_i y k;obtain⟨rfl,h2⟩:=hc;have r1:=Qu h h2;simp only[QG]at hx;split at hx
  ·rename_i l e;rw[e]at r1;simp only[execOp,Sem.run_bind];generalize a.eval y=v at r1 ⊢;cases r1 with
   |tup r1=>
    obtain⟨v,h3,h4⟩:=r1.at_ hx;exact⟨v,by simp[Instr.extract,h3],h4⟩
  ·cases hx
 |len k r=>
  cases op<;>simp only[XT,QY3]at hc;rename_i cl;split at hc
  ·rename_i o1 y t o2;cases o2;simp only[QY7]at hc;obtain⟨h1,h2⟩:=hc;have r1:=Qu h h2;simp only[execOp,resolve,invoke,builtin,Sem.run_bind,Sem.run_pure,Result.andThen_ok,List.map_toArray,QZh,QZG,Builtin.len_,List.getElem?_toArray,QZH];simp only[QG]at hx;split at h1
   ·rename_i hu;simp only[QY8]at h1;subst h1;simp only at hx;split at hx
    ·rename_i s e;cases hx;rw[e]at r1;generalize a.eval y=v at r1 ⊢;cases r1;exact⟨_,by simp only[run_underlying hu,Result.andThen_ok];rfl,.int _ _⟩
    ·cases hx
   ·rename_i el hu;simp only[QY8]at h1;subst h1;simp only at hx;split at hx
    ·rename_i e;cases hx;rw[e]at r1;generalize a.eval y=v at r1 ⊢;cases r1;exact⟨_,by simp only[run_underlying hu,Result.andThen_ok];rfl,.int _ _⟩
    ·rename_i l e;cases hx;rw[e]at r1;generalize a.eval y=v at r1 ⊢;cases r1 with
     |list a1 a2 a3 a4 a5 a6 a7 a8=>
      subst a6;exact⟨_,by simp only[run_underlying hu,Result.andThen_ok];rfl,.int _ _⟩
    ·rename_i l s g o n q e;split at hx
     ·rename_i hg;cases hx;rw[e]at r1;generalize a.eval y=v at r1 ⊢;cases r1 with
      |vec g1 g2 g3=>
       rcases g3 (BB h hg)with⟨_,_,rfl,A0,rfl,_⟩|⟨b,A,c,_,_,rfl,_⟩
       ·exact⟨_,by simp only[run_underlying hu,Result.andThen_ok];rfl,.int _ _⟩
       ·exact⟨_,by simp only[run_underlying hu,Result.andThen_ok];rfl,.int _ _⟩
     ·cases hx
    ·cases hx
   ·rename_i ky el hu;simp only[QY8]at h1;subst h1;simp only at hx;split at hx
    ·rename_i e;cases hx;rw[e]at r1;generalize a.eval y=v at r1 ⊢;cases r1;exact⟨_,by simp only[run_underlying hu,Result.andThen_ok];rfl,.int _ _⟩
    ·cases hx
   ·cases h1
  ·cases hc
 |mnx mx r s=>
  cases op<;>simp only[XT,QY3]at hc;rename_i cl;split at hc
  ·rename_i o1 b y z ts o2;cases o2;simp only[QY7]at hc;obtain⟨⟨h1,h2⟩,h3⟩:=hc;have r1:=Qu h h2;have r2:=Qu h h3;simp only[QG]at hx;split at hx
   ·rename_i k m k' n e1 e2;split at hx
    ·rename_i hk;subst hk;cases hx;rw[e1]at r1;rw[e2]at r2;simp only[execOp,resolve,invoke,Sem.run_bind,Sem.run_pure,Result.andThen_ok,List.map_toArray,QZh,QZG];generalize a.eval y=v at r1 ⊢;generalize a.eval z=u at r2 ⊢;cases r1;cases r2;split at h1
     ·subst h1;exact⟨_,rfl,.int _ _⟩
     ·simp only[QZD]at h1;subst h1;exact⟨_,rfl,.int _ _⟩
     ·cases h1
    ·cases hx
   ·cases hx
  ·cases hc
 |mkfn fn xs ys=>
  cases op<;>simp only[XT,QY3,QY7,QY8]at hc;rename_i fn' p q;obtain⟨⟨rfl,h1⟩,h2⟩:=hc;simp only[QG,QZb]at hx;subst hx;have r1:=YR h h1;have r2:=YR h h2;refine⟨.func _ ⟨p.toList.map a.eval⟩ ⟨q.toList.map a.eval⟩,?_,.fn r1 r2⟩;have e1:Array.map a.eval p=⟨p.toList.map a.eval⟩:=by apply Array.ext';simp
  have e2:Array.map a.eval q=⟨q.toList.map a.eval⟩:=by apply Array.ext';simp
  simp only[execOp,Instr.makeFunc,e1,e2];rfl
 |same r=>
  simp only[QG,QZb]at hx;subst hx;cases op<;>simp only[XT,QY3]at hc;rename_i cl;split at hc<;>first|(cases hc;done)|skip
  rename_i o1 k y ts o2;cases o2;simp only[QY7]at hc;obtain⟨h1,h2⟩:=hc;split at h1
  ·rename_i fn hf;simp only[QY7,QY8]at h1;obtain⟨⟨hn,hb⟩,ho⟩:=h1;refine⟨_,?_,Qu h h2⟩;have hnx:Extern.findNext fn=none:=by
    have e1:Extern.allNextRows.lookup "internal/abi.NoEscape" = none := by kernel_rfl
    have e2:Extern.allNextRows.lookup fn.origin=none:=by
     cases hh:Extern.allNextRows.lookup fn.origin with
     |none=>rfl
     |some _=>rw[hh]at ho;cases ho
    simp[Extern.findNext,hn,e1,e2]
   have hfd:Extern.find fn=some Extern.AbiNoEscape.same:=by
    have e1:(Extern.allGenericRows.lookup "internal/abi.NoEscape").isNone=true := by kernel_rfl
    have e2:(Extern.allTypedRows.lookup "internal/abi.NoEscape").isNone=true := by kernel_rfl
    have e3:Extern.allRows.lookup "internal/abi.NoEscape" = some Extern.AbiNoEscape.same := by kernel_rfl
    rw[Option.isNone_iff_eq_none]at e1 e2;simp[Extern.find,hn,e1,e2,e3]
   have hrun:=run_callFunc_extern (P:=P) (f:=k) (fn:=fn) hf (by rw[hn];decide) hb hnx hfd #[a.eval y] w;show(do let d ←resolve a.eval _ ty;invoke d.target d.args).run P w=_;simp only[resolve,Deferred.ofValue,Act.eval,Sem.run_bind,Sem.run_pure,Result.andThen_ok,invoke,List.map_toArray,QZh,QZG,List.append_toArray,QZI];exact hrun
  ·cases h1

end

def Gh.row (G:Gh)(l s:Nat)(b:Option Nat)(cap g sz:Nat):Gh :=
  { G with vm:=fun i t => if i = l ∧ t = s then b else G.vm i t,vc:=fun i t => if i = l ∧ t = s then cap else G.vc i t,
           vg:=fun i t=>if i=l∧t=s then g else G.vg i t,vz:=fun i t=>if i=l∧t=s then sz else G.vz i t }

theorem Gh.row_gle {G:Gh}{l s cap g sz:Nat}{b:Option Nat}(hg:G.vg l s<g):Gle G (G.row l s b cap g sz) where
 stab _ _ _ h:=h
 nm _ _ _ h:=h
 vg i t:=by
  show G.vg i t≤if i=l∧t=s then g else G.vg i t
  split
  ·rename_i h;obtain⟨rfl,rfl⟩:=h;omega
  ·exact QYK _
 vs i t e:=by
  by_cases h:i=l∧t=s
  ·obtain⟨rfl,rfl⟩:=h;simp only[Gh.row,QZJ,if_true]at e;omega
  ·simp only[Gh.row,QYR h,QZJ]

def QI (o:Ob):Bool :=
 match o with
 |.cells _=>false
 |.iter .. => false
 |_=>true

theorem F6 {o:Ob}(h:QI o=true)(h':o.isVar=true):False:=by
 cases o<;>simp[QI,Ob.isVar]at h h'

theorem MR.vecput' {G:Gh}{m:Qk}{w w':World}(h:MR G m w){l s g sz cap:Nat}{b:Option Nat}{ys:List AV}(hl:l<m.length)(ho:QI (Qh m l s)=true)(hg:G.vg l s<g)
  (hkeep:∀k,k<w.heap.size→some k≠G.vm l s→w'.heap[k]? = w.heap[k]?) (hb:∀k,b=some k→G.vm l s=some k∨(¬G.mine k∧∀o,G.stab k o=none)) (hel:Elems sz ys)
  (hrow:(b=none∧ys=[])∨∃k,b=some k∧RowIs G s w' k cap sz ys):MR (G.row l s b cap g sz) (Am.put m l s (.vec g sz ys)) w':=by
 have hgle:=Gh.row_gle (b:=b) (cap:=cap) (sz:=sz) hg;have hst:∀k o v,G.stab k o=some v→k<w.heap.size∧some k≠G.vm l s:=by
  intro k o v e;refine⟨YP (h.stab k o v e),fun e'=>?_⟩;rw[(h.vm l s k e'.symm).2 o]at e;cases e
 have hnew:∀k o,b=some k→G.stab k o=none:=by
  intro k o e;rcases hb k e with e'|e'
  ·exact(h.vm l s k e').2 o
  ·exact e'.2 o
 have hnm:∀l' s' k,G.nm l' s'=some k→k<w.heap.size∧some k≠G.vm l s:=by
  intro l' s' k e;exact⟨(h.mine (.inl ⟨_,_,e⟩)).1,fun e'=>h.inj3 _ _ _ _ _ e e'.symm⟩
 have hvm:∀l' s' k,¬(l'=l∧s'=s)→G.vm l' s'=some k→k<w.heap.size∧some k≠G.vm l s:=by
  intro l' s' k hh e;exact⟨(h.mine (.inr ⟨_,_,e⟩)).1,fun e'=>hh (h.inj2 _ _ _ _ _ e e'.symm)⟩
 refine⟨fun k o v e=>?_,fun l' s' zs e=>?_,fun l' s' k e=>?_,fun l' s' g' z zs e=>?_,fun l' s' k e=>?_,fun l' s' e=>?_,h.inj1,fun l1 s1 l2 s2 k e1 e2=>?_,fun l1 s1 l2 s2 k e1 e2=>?_,fun l' s' t p e=>?_⟩
 ·obtain⟨h1,h2⟩:=hst k o v e;exact JF (hkeep k h1 h2) (h.stab k o v e)
 ·by_cases hh:l'=l∧s'=s
  ·obtain⟨rfl,rfl⟩:=hh;rw[Qv hl]at e;cases e
  ·rw[QA (by omega)]at e;obtain⟨k,cs,e',hc,hr⟩:=h.cells l' s' zs e;obtain⟨h1,h2⟩:=hnm _ _ _ e';exact⟨k,cs,e',hc.of (hkeep k h1 h2),hr.mono (hgle.dn l')⟩
 ·obtain⟨hz,h2⟩:=h.nm l' s' k e;refine⟨?_,h2⟩;rw[QA ?_]
  ·exact hz
  ·by_cases hh:l'=l∧s'=s
   ·obtain⟨rfl,rfl⟩:=hh;exact(F6 ho hz).elim
   ·omega
 ·by_cases hh:l'=l∧s'=s
  ·obtain⟨rfl,rfl⟩:=hh;rw[Qv hl]at e;cases e;simp only[Gh.row,QZJ,if_true];refine⟨trivial,trivial,hel,hrow.imp id fun⟨k,e,r⟩=>⟨k,e,r.of rfl fun vs hv=>RepL.rfd (G:=G) (G':=G.row l' s' b cap g sz) (fun _ _ _ h=>h) hel.rf hv⟩⟩
  ·rw[QA (by omega)]at e;obtain⟨a1,a2,a3,a4⟩:=h.vec l' s' g' z zs e;simp only[Gh.row,QYR hh];refine⟨a1,a2,a3,a4.imp id fun⟨k,e',r⟩=>⟨k,e',r.of (hkeep k ?_ ?_) fun vs hv=>RepL.rfd (G:=G) (G':=G.row l s b cap g sz) (fun _ _ _ h=>h) a3.rf hv⟩⟩
   ·exact(hvm _ _ _ hh e').1
   ·exact(hvm _ _ _ hh e').2
 ·by_cases hh:l'=l∧s'=s
  ·obtain⟨rfl,rfl⟩:=hh;simp only[Gh.row,QZJ,if_true]at e;exact⟨⟨g,sz,ys,Qv hl⟩,fun o=>hnew k o e⟩
  ·simp only[Gh.row,QYR hh]at e;obtain⟨⟨g',z,zs,hz⟩,h2⟩:=h.vm l' s' k e;exact⟨⟨g',z,zs,by rw[QA (by omega)];exact hz⟩,h2⟩
 ·by_cases hh:l'=l∧s'=s
  ·obtain⟨rfl,rfl⟩:=hh;rw[Qv hl]at e;cases e
  ·rw[QA (by omega)]at e;simp only[Gh.row,QYR hh];exact h.gone l' s' e
 ·simp only[Gh.row]at e1 e2;split at e1<;>split at e2
  ·rename_i h1 h2;exact⟨h1.1.trans h2.1.symm,h1.2.trans h2.2.symm⟩
  ·rename_i h1 h2;obtain⟨h3,h4⟩:=hvm _ _ _ h2 e2;rcases hb k e1 with e'|e'
   ·exact absurd e'.symm h4
   ·exact absurd (.inr ⟨_,_,e2⟩) e'.1
  ·rename_i h1 h2;obtain⟨h3,h4⟩:=hvm _ _ _ h1 e1;rcases hb k e2 with e'|e'
   ·exact absurd e'.symm h4
   ·exact absurd (.inr ⟨_,_,e1⟩) e'.1
  ·exact h.inj2 _ _ _ _ _ e1 e2
 ·simp only[Gh.row]at e2;obtain⟨h3,h4⟩:=hnm _ _ _ e1;split at e2
  ·rcases hb k e2 with e'|e'
   ·exact h4 e'.symm
   ·exact e'.1 (.inl ⟨_,_,e1⟩)
  ·exact h.inj3 _ _ _ _ _ e1 e2
 ·by_cases hh:l'=l∧s'=s
  ·obtain⟨rfl,rfl⟩:=hh;rw[Qv hl]at e;cases e
  ·rw[QA (by omega)]at e;obtain⟨k,e',hc⟩:=h.iter l' s' t p e;obtain⟨h1,h2⟩:=hnm _ _ _ e';exact⟨k,e',(hkeep k h1 h2).trans hc⟩

theorem MR.free {G:Gh}{m:Qk}{w:World}(h:MR G m w){k:Nat}(hk:w.heap.size≤k):¬G.mine k∧∀o,G.stab k o=none:=by
 refine⟨fun e=>by have:=(h.mine e).1;omega,fun o=>?_⟩;cases hs:G.stab k o with
 |none=>rfl
 |some v=>exact absurd (YP (h.stab k o v hs)) (Nat.not_lt.2 hk)

theorem MR.vecput {G:Gh}{m:Qk}{w w':World}(h:MR G m w){l s g sz cap:Nat}{b:Option Nat}{ys:List AV}(hl:l<m.length)(ho:QI (Qh m l s)=true)(hg:G.vg l s<g)
  (hkeep:∀k,k<w.heap.size→some k≠G.vm l s→w'.heap[k]? = w.heap[k]?) (hb:∀k,b=some k→G.vm l s=some k∨w.heap.size≤k) (hel:Elems sz ys)
  (hrow:(b=none∧ys=[])∨∃k,b=some k∧RowIs G s w' k cap sz ys):MR (G.row l s b cap g sz) (Am.put m l s (.vec g sz ys)) w' :=
 h.vecput' hl ho hg hkeep (fun k e=>(hb k e).imp id h.free) hel hrow

theorem Rel.vecput {G:Gh}{B N:Nat}{st:St}{a:Act}{w w':World}(h:Rel G B N st a w){l s g sz cap:Nat}{b:Option Nat}{ys:List AV}(hl:l<st.m.length)(ho:QI (Qh st.m l s)=true)(hg:G.vg l s<g)
  (hos:w'.os=w.os) (htape:w'.tape=w.tape) (hout:w'.output=w.output) (hsize:w.heap.size≤w'.heap.size)
  (hkeep:∀k,k<w.heap.size→some k≠G.vm l s→w'.heap[k]? = w.heap[k]?) (hb:∀k,b=some k→G.vm l s=some k∨w.heap.size≤k) (hel:Elems sz ys)
  (hrow:(b=none∧ys=[])∨∃k,b=some k∧RowIs G s w' k cap sz ys) :
  Rel (G.row l s b cap g sz) B N { st with m:=Am.put st.m l s (.vec g sz ys) } a w'∧Ext 1 G w (G.row l s b cap g sz) w':=by
 have hgle:=Gh.row_gle (b:=b) (cap:=cap) (sz:=sz) hg;refine⟨⟨h.mr.vecput hl ho hg hkeep hb hel hrow,h.size,fun i=>(h.slots i).mono hgle,h.ds.mono hgle,fun s' k e=>?_,QYL h.top hsize,J4 h.ne⟩,⟨hos,htape,hout,hsize,fun _ _ _ h=>h,fun _ _ _=>rfl,hgle.vg,hgle.vs,fun k hk hm=>⟨hkeep k hk fun e=>hm (.inr ⟨l,s,e.symm⟩),fun _=>rfl⟩,fun k hk=>?_,fun i t k e=>?_⟩⟩
 ·rcases e with e|e
  ·exact h.base s' k (.inl e)
  ·simp only[Gh.row]at e;split at e
   ·rename_i hh;rcases hb k e with e'|e'
    ·exact h.base s k (.inr (by rw[hh.1];exact e'))
    ·exact QYL h.top e'
   ·exact h.base s' k (.inr e)
 ·rcases hk with⟨i,t,e⟩|⟨i,t,e⟩
  ·exact .inl (.inl ⟨i,t,e⟩)
  ·simp only[Gh.row]at e;split at e
   ·rcases hb k e with e'|e'
    ·exact .inl (.inr ⟨_,_,e'⟩)
    ·exact .inr e'
   ·exact .inl (.inr ⟨i,t,e⟩)
 ·simp only[Gh.row]at e;split at e
  ·rename_i hh;rcases hb k e with e'|e'
   ·exact .inl ⟨l,s,by rw[hh.1];exact QYK _,e'⟩
   ·exact .inr e'
  ·exact .inl ⟨i,t,QYK _,e⟩

def QK (m:Qk)(l s:Nat):Nat :=
 match Qh m l s with
 |.vec g _ _=>g+1
 |_=>1

theorem K5 {G:Gh}{m:Qk}{w:World}(h:MR G m w){l s:Nat}(ho:QI (Qh m l s)=true):G.vg l s<QK m l s:=by
 unfold QK;split
 ·rename_i g z xs e;rw[(h.vec l s g z xs e).1];omega
 ·rename_i hn;have:Qh m l s=.none:=by
   cases hlk:Qh m l s with
   |none=>rfl
   |cells xs=>rw[hlk]at ho;cases ho
   |iter t p=>rw[hlk]at ho;cases ho
   |vec g z xs=>exact absurd hlk (hn g z xs)
  rw[h.gone l s (by rw[this];rfl)];omega

theorem Gu {P:Program}{s:Nat}{w:World}{t tx ty e:TypeId}(hty:Zr s e=true){i:TypeInfo}{z:Value}(ht:P.underlying t=some (.slice e))(hi:P.info? e=some i)(hz:i.zero=some z)(hzs:z.cells.size=i.size)
    {v:Value} {n cap:Nat} {xs:List Value} {own:Option Nat} (hv:((∃A,v=.slice A 0 0)∧own=none∧n=0∧xs=[])∨∃b cur,v=.slice (some ⟨b,0,none⟩) n cap∧own=some b∧XH s w b cur∧cur.size=cap*i.size∧n≤cap∧cap≤maxLen∧cur.toList.take (n*i.size)=xs) (hxl:xs.length=n*i.size)
    {x:Value} {m:Nat} {news:List Value} (hsrc:Src P i.size tx x m news w)
    (hmax:n+m≤maxLen) (hbytes:(n+m)*i.bytes≤140737488355328) :
    ∃v' w',(Builtin.append_ #[t,tx] ty #[v,x]).run P w=.ok v' w'∧w'.os=w.os∧w'.tape=w.tape∧w'.output=w.output∧w.heap.size≤w'.heap.size∧(∀k,k<w.heap.size→own≠some k→w'.heap[k]? = w.heap[k]?)∧
      ((v'=v∧own=none∧m=0∧w'=w)∨∃b' cap' cur',v'=.slice (some ⟨b',0,none⟩) (n+m) cap'∧(own=some b'∨w.heap.size≤b')∧XH s w' b' cur'∧cur'.size=cap'*i.size∧n+m≤cap'∧cap'≤maxLen∧cur'.toList.take ((n+m)*i.size)=xs++news):=by
  have hm63:(n+m:Nat)≤9223372036854775807:=by simp only[maxLen]at hmax;omega
  have hl:=hsrc.newsLen;have hlen:(xs++news).length=(n+m)*i.size:=by rw[QZn,hxl,hl,QZk]
  -- the growing arm
  have grown:∀(old:Nat),old<n+m→∃b' cap' cur',Value.slice (some ⟨w.heap.size,0,none⟩) (n+m) (grownCap w (n+m) old e)=.slice (some ⟨b',0,none⟩) (n+m) cap'∧(own=some b'∨w.heap.size≤b')∧
      XH s (w.drew.alloc (.cells ((xs++news).toArray++Builtin.zeroCells z.cells (grownCap w (n+m) old e-(n+m))) e)) b' cur'∧cur'.size=cap'*i.size∧n+m≤cap'∧cap'≤maxLen∧cur'.toList.take ((n+m)*i.size)=xs++news:=by
    intro old ho;have hge:=grownCap_ge w (n+m) old e;have hcm:=grownCap_le_maxLen w (n+m) old e hmax;refine⟨w.heap.size,grownCap w (n+m) old e,_,rfl,.inr (QYK _),XH.new w.drew _ e hty,?_,hge,hcm,?_⟩
    · simp only[Array.size_append,List.size_toArray,size_zeroCells,hzs,hlen,←QZk];congr 1
      omega
    · simp only[Array.toList_append];rw[←hlen];exact List.take_left
  have hkeepA:∀o k,k<w.heap.size→(w.drew.alloc o).heap[k]? = w.heap[k]?:=fun o k hk=>RowKit.Below.heap_alloc w.drew o k hk
  rcases hv with⟨⟨A0,rfl⟩,rfl,rfl,rfl⟩|⟨b,cur,rfl,rfl,hsoft,hcs,hnc,hcm,htake⟩
  · by_cases hm:m=0
    · subst hm;have hn:news=[]:=QZK (by simpa using hl);subst hn;refine⟨.slice A0 0 0,w,?_,rfl,rfl,rfl,QYK _,fun _ _ _=>rfl,.inl ⟨rfl,rfl,rfl,rfl⟩⟩;have h1:=hsrc.cells;have h2:=hsrc.len;rcases hsrc.kind with⟨e',hk⟩|hk<;>cases A0<;>simp[Builtin.append_,run_underlying ht,run_underlying hk,sizeOf,typeInfo,hi,h2,h1,storeCells]
    · have hr:=run_append_grow_src (P:=P) w t tx ty e i z ht hi hz A0 0 0 [] (by cases A0 with|none=>exact run_firstCells_none w.drew i.size 0 0 0|some a=>exact run_firstCells_some w.drew i.size 0 a 0 0 [] (by simp) (by simp)) x m news hsrc (by omega) (by omega) (growslice_fits (by omega) (by have hb:=hbytes;simp only[QY9]at hb ⊢;exact hb));have hgr:=grown 0 (by omega);exact⟨_,_,hr,rfl,rfl,rfl,by simp,fun k hk _=>hkeepA _ k hk,.inr hgr⟩
  · by_cases hroom:n+m≤cap
    · have hfit:0+n*i.size+news.length≤cur.size:=by
        rw[hl,hcs,QY9,←QZk];exact QZL _ hroom
      obtain⟨w',hst,hs',htn⟩:=X7 P s b (n*i.size) news 0 w cur hsoft (by omega) hsrc.one;refine⟨.slice (some ⟨b,0,none⟩) (n+m) cap,w',?_,htn.os,htn.tape,htn.output,by rw[htn.size];exact QYK _,fun k hk hne=>htn.heap k fun e=>hne (by rw[e]),.inr ⟨b,cap,_,rfl,.inl rfl,hs',?_,hroom,hcm,?_⟩⟩
      · have h1:=hsrc.cells;have h2:=hsrc.len w;rcases hsrc.kind with⟨e',hk⟩|hk <;>
          (simp only[Builtin.append_,List.getElem?_toArray,QZH,QZM,Sem.run_bind,run_underlying ht,run_underlying hk,Result.andThen_ok,Xz hi,Sem.run_pure,QY3,if_false,h2,QYS hroom,QZN,if_true,h1,Zt,QY9]
           rw[hst];rfl)
      · simp only[List.size_toArray,QZn,QZC,QZr,QZf,QZg];omega
      · simp only[QZg];rw[htake,←hlen];exact List.take_left
    · have hcells:∀j u,xs[j]? = some u→w.drew.cell? ((⟨b,0,none⟩:Addr).add j)=some u:=by
        intro j u hu;show w.cell? _=_;rw[Zt,QY9,hsoft.cell,←QZd];rw[←htake,QZo]at hu;split at hu
        · exact hu
        · cases hu
      have hr:=run_append_grow_src (P:=P) w t tx ty e i z ht hi hz (some ⟨b,0,none⟩) n cap xs (run_firstCells_some w.drew i.size n ⟨b,0,none⟩ n cap xs hxl hcells) x m news hsrc (by omega) (by omega) (growslice_fits (by omega) hbytes);exact⟨_,_,hr,rfl,rfl,rfl,by simp,fun k hk _=>hkeepA _ k hk,.inr (grown cap (by omega))⟩

noncomputable def Gh.pub (G:Gh)(w:World)(S:Nat→Prop):Gh :=
 { G with
  stab:=fun b o=>@ite _ (S b∧∀o,Jb b o=none) (Classical.propDecidable _) (sv w b o) (G.stab b o)
  tab:=fun b o v e=>by
   show @ite _ (S b∧∀o,Jb b o=none) (Classical.propDecidable _) (sv w b o) (G.stab b o)=some v;rw[QYR (fun h=>by rw[h.2 o]at e;cases e)];exact G.tab b o v e }
theorem Gh.notab {G:Gh}{b:Nat}(h:∀o,G.stab b o=none):∀o,Jb b o=none:=fun o=>by
 cases e:Jb b o with
 |none=>rfl
 |some v=>have:=G.tab b o v e;rw[h o]at this;cases this
theorem Gh.pub_c {G:Gh}{w:World}{S:Nat→Prop}{b o:Nat}(h:S b∧∀o,Jb b o=none):(G.pub w S).stab b o=sv w b o:=QYS h
theorem Gh.pub_n {G:Gh}{w:World}{S:Nat→Prop}{b o:Nat}(h:¬(S b∧∀o,Jb b o=none)):(G.pub w S).stab b o=G.stab b o:=QYR h

theorem Gh.pub_in {G:Gh}{w:World}{S:Nat→Prop}{b o:Nat}(h:S b)(hn:∀o,Jb b o=none):(G.pub w S).stab b o=sv w b o:=QYS ⟨h,hn⟩
theorem Gh.pub_out {G:Gh}{w:World}{S:Nat→Prop}{b o:Nat}(h:¬S b):(G.pub w S).stab b o=G.stab b o:=QYR fun x=>h x.1

theorem Gh.pub_gle {G:Gh}{w:World}{S:Nat→Prop}(h:∀b o v,G.stab b o=some v→rd w b o v):Gle G (G.pub w S) where
 stab b o v e:=by
  by_cases hS:S b∧∀o,Jb b o=none
  ·rw[Gh.pub_c hS];exact Bd (h b o v e)
  ·rw[Gh.pub_n hS];exact e
 nm _ _ _ h:=h
 vg _ _:=QYK _
 vs _ _ _:=⟨rfl,rfl,rfl⟩

mutual
theorem HP {G:Gh}{m:Qk}{w:World}(h:MR G m w){own:Bool}{S:Nat→Prop}(hS:∀l s b,(own&&l != 0)=false→G.vm l s=some b→S b)(hM:own=true→∀s b ks vs p,G.nm 0 s=some b→Qh m 0 s=.iter (.mp ks vs) p→S b):∀ {x:AV} {v:Value},Rep G x v→∀y,x.still own m=some y→Rep (G.pub w S) y v
 |.top,v,hr,y,e=>by cases e;exact .top v
 |.int _ _,_,hr,y,e=>by cases e;exact hr.mono (Gh.pub_gle h.stab)
 |.bool _,_,hr,y,e=>by cases e;exact hr.mono (Gh.pub_gle h.stab)
 |.str _,_,hr,y,e=>by cases e;exact hr.mono (Gh.pub_gle h.stab)
 |.nilp,_,hr,y,e=>by cases e;exact hr.mono (Gh.pub_gle h.stab)
 |.nilf,_,hr,y,e=>by cases e;exact hr.mono (Gh.pub_gle h.stab)
 |.nili,_,hr,y,e=>by cases e;exact hr.mono (Gh.pub_gle h.stab)
 |.nilm,_,hr,y,e=>by cases e;exact hr.mono (Gh.pub_gle h.stab)
 |.anyp,_,hr,y,e=>by cases e;exact hr.mono (Gh.pub_gle h.stab)
 |.list _,_,hr,y,e=>by cases e;exact hr.mono (Gh.pub_gle h.stab)
 |.lcap _,_,hr,y,e=>by cases e;exact hr.unlcap.mono (Gh.pub_gle h.stab)
 |.fn _ _ _,_,hr,y,e=>by cases e;exact hr.mono (Gh.pub_gle h.stab)
 |.ptr _ _ _,_,hr,y,e=>by cases e;exact hr.mono (Gh.pub_gle h.stab)
 |.mp _ _,_,hr,y,e=>by cases e;exact hr.mono (Gh.pub_gle h.stab)
 |.vptr _ _ _ _ _,_,hr,y,e=>by cases e;exact hr.mono (Gh.pub_gle h.stab)
 |.rptr _,_,hr,y,e=>by cases e;exact hr.mono (Gh.pub_gle h.stab)
 |.nils,_,hr,y,e=>by
   cases e;cases hr;exact .list (sz:=0) (cs:=[]) .nil (by simp) rfl rfl (by simp) rfl (QYK _) (QYT _)
 |.agg l,_,hr,y,e=>by
   simp only[AV.still,QYP]at e;obtain⟨l',e,rfl⟩:=e;cases hr with
   |agg hr=>exact .agg (W3 h hS hM hr l' e)
 |.tup l,_,hr,y,e=>by
   simp only[AV.still,QYP]at e;obtain⟨l',e,rfl⟩:=e;cases hr with
   |tup hr=>exact .tup (W3 h hS hM hr l' e)
 |.iface t x,_,hr,y,e=>by
   simp only[AV.still,QYP]at e;obtain⟨l',e,rfl⟩:=e;cases hr with
   |iface hr=>exact .iface (HP h hS hM hr l' e)
 |.vec l s g o n q,v,hr,y,e=>by
   simp only[AV.still]at e;split at e
   ·cases e;exact hr.mono (Gh.pub_gle h.stab)
   ·rename_i hown;split at e
    ·rename_i g' sz xs hlk;split at e
     ·rename_i hh;cases e;obtain⟨e1,e2,e3,e4⟩:=h.vec l s g' sz xs hlk;have hmem:∀x∈(xs.drop o).take n,x∈xs:=fun x hx=>QZv (QZw hx)
      cases hr with
      |vec hone hg hh'=>
       rcases hh' (by rw[e1];exact hh.1)with⟨hvm,rfl,rfl,A0,rfl,hA0⟩|⟨b,A,c,hvm,hok,rfl,hkc,hcm,hq,hA⟩
       ·simp only[QZO];exact .list (sz:=0) (cs:=[]) .nil (by simp) rfl rfl (by simp) rfl (QYK _) (QYT _)
       ·rcases e4 with⟨e,_⟩|⟨b',e,hrow⟩
        ·rw[hvm]at e;cases e
        ·rw[hvm]at e;cases e;obtain⟨cur,hsoft,hcs,hrep⟩:=hrow.cur;have hr:=(hrep.mono (Gh.pub_gle (S:=S) h.stab)).takeDrop (o*sz) (n*sz);rw[ZI e3.size,JG (fun x hx=>e3.size x (QZv hx))]at hr;refine .list (sz:=sz) hr (fun x hx=>e3.size x (hmem x hx)) (ZG e3.rf (ZQ hmem)) (XL e3.leaf (ZQ hmem)) (fun j u hu=>?_) (by simp;omega) hkc (by omega);rw[QZo]at hu;split at hu
         ·rename_i hj;rw[QZp,QZo]at hu;split at hu
          ·have hk:0<n:=by
            rcases QZx n with h0|h0
            ·subst h0;simp at hj
            ·exact h0
           have hovc:o<G.vc l s:=Nat.lt_of_lt_of_le (Nat.lt_add_of_pos_right hk) hok;have hA':=hA ⟨.inl hovc,.inr hk⟩;rw[e2]at hA';refine⟨b,o*sz,by rw[hA'],?_⟩;rw[Gh.pub_in (hS l s b (by simpa using hown) hvm) (Gh.notab (h.vm l s b hvm).2)];refine UW ?_;rw[hsoft.cell]
           simpa using hu
          ·cases hu
         ·cases hu
     ·cases e
    ·cases e
 |.mptr l s,v,hr,y,e=>by
   simp only[AV.still]at e;split at e
   ·cases e;exact hr.mono (Gh.pub_gle h.stab)
   ·rename_i hown;split at e
    ·rename_i ho;have hl:l=0:=by simpa [ho]using hown
     subst hl;split at e
     ·rename_i ks vs p hlk;cases e;cases hr with
      |mptr hb=>
       obtain⟨b',e',hh⟩:=h.iter 0 s _ _ hlk;rw[hb]at e';cases e';refine .mp ?_;rw[Gh.pub_in (hM ho s _ _ _ _ hb hlk) (Gh.notab (h.nm _ _ _ hb).2)];exact Bd (v:=.mapo _ _) hh
     ·cases e
    ·cases e
theorem W3 {G:Gh}{m:Qk}{w:World}(h:MR G m w){own:Bool}{S:Nat→Prop}(hS:∀l s b,(own&&l != 0)=false→G.vm l s=some b→S b)(hM:own=true→∀s b ks vs p,G.nm 0 s=some b→Qh m 0 s=.iter (.mp ks vs) p→S b):∀ {x:List AV} {v:List Value},RepL G x v→∀y,AV.stillL own m x=some y→RepL (G.pub w S) y v
 | [],_,hr,y,e=>by cases e;cases hr;exact .nil
 |x :: l,_,hr,y,e=>by
   simp only[AV.stillL]at e;split at e
   ·rename_i a b ea eb;cases e;cases hr with
    |cons hr ht=>exact .cons (HP h hS hM hr a ea) (W3 h hS hM ht b eb)
   ·cases e
end

def YT (P:Program) (k:FuncId):Prop := ∃fn, P.funcs[k]? = some fn∧(fn.name == "runtime.NumGoroutine")=false∧fn.body.isNone=false

def Qf (P:Program)(k:FuncId)(args:List AV)(m:Qk)(R:AV→Qk→Prop):Prop :=
 YT P k∧∀(G:Gh) (w:World) (vs:List Value),RepL G args vs→MR G m w→Calls P k ⟨vs⟩ w fun e w'=>∃G' x v m',e=.returned v∧R x m'∧Rep G' x v∧MR G' m' w'∧Ext 0 G w G' w'∧m'.length=m.length

theorem Qf.mono {P:Program}{k:FuncId}{args:List AV}{m:Qk}{R R':AV→Qk→Prop}(h:Qf P k args m R)(hr:∀x m',R x m'→R' x m'):Qf P k args m R' :=
 ⟨h.1,fun G w vs h1 h2=>(h.2 G w vs h1 h2).mono fun _ _ ⟨G',x,v,m',e,r,rest⟩=>⟨G',x,v,m',e,hr _ _ r,rest⟩⟩

def Gh.up (G:Gh):Gh where
 stab:=G.stab
 nm:=fun l s=>match l with|0=>none|l+1=>G.nm l s
 vm:=fun l s=>match l with|0=>none|l+1=>G.vm l s
 vc:=fun l s=>match l with|0=>0|l+1=>G.vc l s
 vg:=fun l s=>match l with|0=>0|l+1=>G.vg l s
 vz:=fun l s=>match l with|0=>0|l+1=>G.vz l s
 tab:=G.tab

theorem Gh.up_dn (G:Gh)(l:Nat):G.up.dn (l+1)=G.dn l:=rfl

theorem Gh.up_mine {G:Gh}{b:Nat}:G.up.mine b↔G.mine b:=by
 constructor
 ·rintro(⟨l,s,e⟩|⟨l,s,e⟩)
  ·cases l with
   |zero=>cases e
   |succ l=>exact .inl ⟨l,s,e⟩
  ·cases l with
   |zero=>cases e
   |succ l=>exact .inr ⟨l,s,e⟩
 ·rintro(⟨l,s,e⟩|⟨l,s,e⟩)
  ·exact .inl ⟨l+1,s,e⟩
  ·exact .inr ⟨l+1,s,e⟩

def Qc:Nat→Ob:=fun _=>.none

theorem MR.up {G:Gh}{m:Qk}{w:World}(h:MR G m w):MR G.up (Qc :: m) w where
 stab:=h.stab
 cells l s xs e:=by
  cases l with
  |zero=>cases e
  |succ l=>exact h.cells l s xs e
 nm l s b e:=by
  cases l with
  |zero=>cases e
  |succ l=>exact h.nm l s b e
 vec l s g sz xs e:=by
  cases l with
  |zero=>cases e
  |succ l=>
   obtain⟨a1,a2,a3,a4⟩:=h.vec l s g sz xs e;exact⟨a1,a2,a3,a4.imp id fun⟨b,e',r⟩=>⟨b,e',r.of rfl fun vs hv=>RepL.rfd (G:=G) (G':=G.up) (fun _ _ _ h=>h) a3.rf hv⟩⟩
 vm l s b e:=by
  cases l with
  |zero=>cases e
  |succ l=>exact h.vm l s b e
 gone l s e:=by
  cases l with
  |zero=>rfl
  |succ l=>exact h.gone l s e
 inj1 l s l' s' b e e':=by
  cases l with
  |zero=>cases e
  |succ l=>
   cases l' with
   |zero=>cases e'
   |succ l'=>obtain⟨h1,h2⟩:=h.inj1 l s l' s' b e e';exact⟨by rw[h1],h2⟩
 inj2 l s l' s' b e e':=by
  cases l with
  |zero=>cases e
  |succ l=>
   cases l' with
   |zero=>cases e'
   |succ l'=>obtain⟨h1,h2⟩:=h.inj2 l s l' s' b e e';exact⟨by rw[h1],h2⟩
 inj3 l s l' s' b e e':=by
  cases l with
  |zero=>cases e
  |succ l=>
   cases l' with
   |zero=>cases e'
   |succ l'=>exact h.inj3 l s l' s' b e e'
 iter l s t p e:=by
  cases l with
  |zero=>cases e
  |succ l=>exact h.iter l s t p e

def MA (l:List AV):Fr:=fun i=>(l[i]?).getD (.tup [])

def St.enter (args:List AV)(m:Qk):St:={ f:=MA (AV.shL args),m:=Qc :: m,ds:=[] }

inductive RR where
 |tmp (t:Nat)
 |cell (t:Nat) (k:Option Nat)

def RR.ev (st:St):RR→Option AV
 |.tmp t=>some (st.f t)
 |.cell t k=>Q5 st.m k (st.f t)

def RR.evL (st:St):List RR→Option (List AV)
 | []=>some []
 |r :: rs=>match r.ev st,RR.evL st rs with
  |some x,some xs=>some (x :: xs)
  |_,_=>none

def WF (st:St)(rs:List RR):Option AV :=
 match rs with
 | [r]=>r.ev st
 |rs=>(RR.evL st rs).map .tup

def J1 (P:Program):List ResultVar→List RR→Bool
 | [],[]=>true
 |.tmp t :: rs,.tmp t' :: ss=>t==t'&&J1 P rs ss
 |.cell t ty :: rs,.cell t' k :: ss=>t==t'&&Ze P ty==some k&&J1 P rs ss
 |_,_=>false

def W4 (m:Qk)(x:AV):Option AV:=(x.still true m).bind AV.un

section
variable {P:Program}{G:Gh}{B N:Nat}{st:St}{a:Act}{w:World}

theorem Gv (h:Rel G B N st a w){t:Nat}{k:Option Nat}{x:AV}(hx:Q5 st.m k (st.f t)=some x){ty:TypeId}(ht:Ze P ty=some k) :
  ∃v,(do loadVar ty (←asAddr (a.tmps.getD t undef)):Sem Value).run P w=.ok v w∧Rep G x v:=by
 have hs:=h.slots t;obtain⟨v,h1,h2⟩:=WD (P:=P) h hx hs ht;refine⟨v,?_,h2⟩;generalize a.tmps.getD t undef=u at h1 hs ⊢;simp only[Instr.loadAt,Sem.run_bind]at h1;cases u with
 |pointer p=>
  cases p with
  |none=>simp[Instr.sureAddr]at h1
  |some p=>
   simp only[Instr.sureAddr,Sem.run_pure,Result.andThen_ok]at h1;simp only[asAddr,Sem.run_bind,Sem.run_pure,Result.andThen_ok];exact h1
 |_=>simp[Instr.sureAddr]at h1

def DJ (tmps:Array Value):ResultVar→Sem Value
 |.tmp t=>pure (tmps.getD t undef)
 |.cell b t=>do loadVar t (←asAddr (tmps.getD b undef))

theorem Gw (fn:Func)(tmps:Array Value):results fn tmps=(do let vs ←fn.results.mapM (DJ tmps);pure (if h:vs.size=1 then vs[0]else .tuple vs)):=by
 have:(fun r=>match r with
  |ResultVar.tmp t=>(pure (tmps.getD t undef):Sem Value)
  |ResultVar.cell b t=>do loadVar t (←asAddr (tmps.getD b undef)))=DJ tmps:=by
  funext r;cases r<;>rfl
 rw[←this];rfl

theorem MB (h:Rel G B N st a w){rs:List RR}:∀ {vs:List ResultVar} {xs:List AV},J1 P vs rs=true→RR.evL st rs=some xs→
  ∃us,(vs.mapM (DJ a.tmps)).run P w=.ok us w∧RepL G xs us:=by
 induction rs with
 |nil=>
  intro vs xs hc he;cases vs with
  |nil=>cases he;exact⟨[],rfl,.nil⟩
  |cons v vs=>cases v<;>simp[J1]at hc
 |cons r rs ih=>
  intro vs xs hc he;simp only[RR.evL]at he;split at he
  ·rename_i x xs' e1 e2;cases he;cases vs with
   |nil=>cases r<;>simp[J1]at hc
   |cons v vs=>
    cases v with
    |tmp t=>
     cases r with
     |tmp t'=>
      simp only[J1,QY7,QY8]at hc;obtain⟨rfl,hc⟩:=hc;obtain⟨us,h1,h2⟩:=ih hc e2;cases e1;exact⟨_ :: us,by simp only[List.mapM_cons,DJ,Sem.run_bind,Sem.run_pure,Result.andThen_ok,h1],.cons (h.slots t) h2⟩
     |cell t' k=>simp[J1]at hc
    |cell t ty=>
     cases r with
     |tmp t'=>simp[J1]at hc
     |cell t' k=>
      simp only[J1,QY7,QY8]at hc;obtain⟨⟨rfl,hk⟩,hc⟩:=hc;obtain⟨us,h1,h2⟩:=ih hc e2;obtain⟨v,h3,h4⟩:=Gv (P:=P) h (t:=t) e1 hk;refine⟨v :: us,?_,.cons h4 h2⟩;simp only[List.mapM_cons,Sem.run_bind,Sem.run_pure];have h3':(DJ a.tmps (.cell t ty)).run P w=.ok v w:=h3;rw[h3'];simp only[Result.andThen_ok,h1]
  ·cases he

theorem QbK (h:Rel G B N st a w){rs:List RR}{fn:Func}{x:AV}(hc:J1 P fn.results.toList rs=true)(hx:WF st rs=some x):∃v,(results fn a.tmps).run P w=.ok v w∧Rep G x v:=by
 have key:∀xs,RR.evL st rs=some xs→∃us,(fn.results.mapM (DJ a.tmps)).run P w=.ok ⟨us⟩ w∧RepL G xs us:=by
  intro xs he;obtain⟨us,h1,h2⟩:=MB (P:=P) h hc he;refine⟨us,?_,h2⟩;rw[Array.mapM_eq_mapM_toList];simp only[Sem.run_map,h1,Result.andThen_ok]
 have hl:∀xs (us:List Value),RR.evL st rs=some xs→RepL G xs us→us.length=rs.length:=by
  intro xs us he hr;have:∀(rs:List RR) xs,RR.evL st rs=some xs→xs.length=rs.length:=by
   intro rs
   induction rs with
   |nil=>intro xs e;cases e;rfl
   |cons r rs ih=>
    intro xs e;simp only[RR.evL]at e;split at e
    ·rename_i x xs' _ e2;cases e;simp[ih _ e2]
    ·cases e
  rw[hr.length,this rs xs he]
 unfold WF at hx;split at hx
 ·rename_i r;have he:RR.evL st [r]=some [x]:=by simp[RR.evL,hx]
  obtain⟨us,h1,h2⟩:=key [x] he;cases h2 with
  |cons h2 h3=>
   cases h3;refine⟨_,?_,h2⟩;rw[Gw,Sem.run_bind,h1];rfl
 ·rename_i rs' hne;simp only[QYP]at hx;obtain⟨xs,he,rfl⟩:=hx;obtain⟨us,h1,h2⟩:=key xs he;have hlen:=hl xs us he h2;refine⟨.tuple ⟨us⟩,?_,.tup h2⟩;rw[Gw,Sem.run_bind,h1];simp only[Result.andThen_ok];have:¬(⟨us⟩:Array Value).size=1:=by
   simp only[List.size_toArray,hlen];intro h1
   match rs,h1 with
   | [r],_=>exact hne r rfl
  rw[dif_neg this];rfl

end

inductive RO where
 |val (v:VO)
 |allocN (site:Nat) (z:List AV)
 |boxN (site:Nat) (x:RA)
 |store (n:Nat) (p x:RA)
 |storev (l s n:Nat) (p x:RA)
 |app (sz bytes e:Nat) (s x:RA)
 |mk (site e sz bytes:Nat) (z:List AV) (l c:RA)
 |bsl (sz len:Nat) (z:List AV) (ps:List (Nat×Nat×RA))
 |call (f:RA) (args:List RA)
 |callF (f:RA) (args:List RA)
 |bsl0 (site sz:Nat)
 |isnil (neg:Bool) (x:RA)
 |xb (cnt:Bool) (k:Nat) (s c:RA)
 |rngs (site:Nat) (x:RA)
 |nxts (x:RA)
 |mkm (site:Nat)
 |mput (x i v:RA)
 |clr (sz:Nat) (z:List AV) (x:RA)

structure Item where
 dst:Option Nat
 op:RO
 g:Option (Nat×Bool)

def KQ (sz:Nat):List (Nat×Operand)→List (Nat×Nat×RA)→Bool
 | [],[]=>true
 |(i,x) :: xs,(o,n,r) :: rs=>o==i*sz&&n==sz&&QR x r&&KQ sz xs rs
 |_,_=>false

def isZ:Operand→Bool
 |.const (.int _ n)=>n==0
 |_=>false

def Zf (P:Program)(op:Op)(ro:RO):Bool :=
 match ro with
 |.val v=>XT P op v
 |.allocN s z=>match op with
  |.alloc e=>match P.info? e with
   |some i=>match i.zero with
    |some zv=>isCL zv.cells.toList z&&Zr s e
    |none=>false
   |none=>false
  |_=>false
 |.boxN s r=>match op with
  |.box e x=>QR x r&&Zr s e
  |_=>false
 |.store n p r=>match op with
  |.store t q x=>(P.info? t).any (fun i=>i.size==n)&&QR q p&&QR x r
  |_=>false
 |.storev _ _ n p r=>match op with
  |.store t q x=>(P.info? t).any (fun i=>i.size==n)&&QR q p&&QR x r
  |_=>false
 |.app sz bytes el s r=>match op with
  |.call { callee:=.builtin .append,args:=⟨[x,y]⟩,argTypes:=⟨[t,t']⟩ }=>t==t'&&(match P.underlying t with
   |some (.slice e)=>(P.info? e).any (fun i=>i.size==sz&&i.bytes==bytes&&(match i.zero with|some zv=>zv.cells.size==sz|none=>false))&&sz != 0&&e==el
   |_=>false)&&QR x s&&QR y r
  |_=>false
 |.clr sz z r=>match op with
  |.call { callee:=.builtin .clear,args:=⟨[x]⟩,argTypes:=⟨[t]⟩ }=>(match P.underlying t with
   |some (.slice e)=>(P.info? e).any (fun i=>i.size==sz&&(match i.zero with|some zv=>isCL zv.cells.toList z&&z.length==sz|none=>false))&&sz != 0&&AV.rfL z&&z.all AV.leaf
   |_=>false)&&QR x r
  |_=>false
 |.mk site el sz bytes z l c=>match op with
  |.makeSlice t x y=>(match P.underlying t with
   |some (.slice e)=>(P.info? e).any (fun i=>i.size==sz&&i.bytes==bytes&&(match i.zero with|some zv=>isCL zv.cells.toList z&&z.length==sz|none=>false))&&sz != 0&&e==el&&Zr site e&&AV.rfL z&&z.all AV.leaf
   |_=>false)&&QR x l&&QR y c
  |_=>false
 |.bsl sz len z ps=>match op with
  |.buildSlice t n Qm=>n==len&&len*sz≤16777216&&sz != 0&&len != 0&&(match P.underlying t with
   |some (.slice e)=>(P.info? e).any (fun i=>i.size==sz&&(match i.zero with|some zv=>isCL zv.cells.toList z&&z.length==sz|none=>false))
   |_=>false)&&KQ sz Qm.toList ps
  |_=>false
 |.call f rs=>match op with
  |.call { callee:=.value x,args,argTypes:=_ }=>QR x f&&Wq args.toList rs
  |_=>false
 |.callF f rs=>match op with
  |.call { callee:=.value x,args,argTypes:=_ }=>QR x f&&Wq args.toList rs
  |_=>false
 |.xb cnt k s c=>match op with
  |.call { callee:=.value (.func k'),args:=⟨[x,y]⟩,argTypes:=_ }=>k==k'&&(match P.funcs[k]? with
   |some fn=>fn.name==(if cnt then "internal/bytealg.CountString" else "internal/bytealg.IndexByteString")&&fn.origin == "" && fn.body.isNone
   |none=>false)&&QR x s&&QR y c
  |_=>false
 |.rngs _ r=>match op with
  |.range t x=>Wr P t&&QR x r
  |_=>false
 |.nxts r=>match op with
  |.next x true=>QR x r
  |_=>false
 |.mkm s=>match op with
  |.makeMap _ none=>decide (s<2000)
  |_=>false
 |.mput r i v=>match op with
  |.mapUpdate t x y z|.insert t x y z=>(match P.underlying t with
   |some (.map kt _)=>Wr P kt
   |_=>false)&&QR x r&&QR y i&&QR z v
  |_=>false
 |.isnil neg r=>match op with
  |.binOp b t x y _=>(match P.underlying t with
   |some (.slice _)=>true
   |_=>false)&&b==(bif neg then .neq else .eql)&&QR x r&&QR y (.c .nils)
  |_=>false
 |.bsl0 site sz=>match op with
  |.buildSlice t n Qm=>n==0&&Qm.isEmpty&&(match P.underlying t with
   |some (.slice e)=>(P.info? e).any (fun i=>i.size==sz)&&Zr site e
   |_=>false)
  |_=>false

def AY (_P:Program)(_t:TypeId)(ro:RO):Bool :=
 match ro with
 |_=>true

def MD (P:Program)(o:Oper)(ro:RO):Bool:=Zf P o.op ro&&AY P o.type ro

def Uw (P:Program)(N:Nat)(ops:Array Oper)(o:Oper)(it:Item):Bool :=
 o.dst==it.dst&&(match o.dst with|some d=>decide (d<N)|none=>true)&&(match o.guard,it.g with
  |none,none=>true
  |some (j,want),some (dj,want')=>(ops[j]?).bind (·.dst)==some dj&&want==want'
  |_,_=>false)&&MD P o it.op

def Zg (P:Program)(N:Nat)(ops:Array Oper):List Oper→List Item→Bool
 | [],[]=>true
 |o :: os,it :: Qg=>Uw P N ops o it&&Zg P N ops os Qg
 |_,_=>false

def QB (P:Program)(N:Nat)(Qg:List Item)(st:St)(Q:St→Prop):Prop :=
 ∀(ops:Array Oper) (l:List Oper),Zg P N ops l Qg=true→∀(G:Gh) (B:Nat) (a:Act) (w:World),Rel G B N st a w→
  ∀(QQ:Exit→Act→World→Prop),(∀G' st' a' w',Q st'→Rel G' B N st' a' w'→Ext 1 G w G' w'→QQ .normal a' w')→wpList P ops QQ l a w

section
variable {P:Program}{N:Nat}{st:St}{Q:St→Prop}

theorem QB.nil (h:Q st):QB P N [] st Q:=by
 intro ops l hc G B a w hr QQ hq;cases l with
 |nil=>exact hq G st a w h hr (Ext.refl 1 G w)
 |cons o l=>simp[Zg]at hc

theorem QB.stepT {it:Item}{Qg:List Item}(hg:it.g=none)
  (h:∀(G:Gh) (B:Nat) (a:Act) (w:World) (o:Oper),Rel G B N st a w→o.dst=it.dst→(∀d,it.dst=some d→d<N)→Zf P o.op it.op=true→AY P o.type it.op=true→
   ∀(K:Act→World→Prop) (QQ:Exit→Act→World→Prop),(∀G' st' a' w',QB P N Qg st' Q→Rel G' B N st' a' w'→Ext 1 G w G' w'→K a' w')→o.wp P a w K QQ):QB P N (it :: Qg) st Q:=by
 intro ops l hc G B a w hr QQ hq;cases l with
 |nil=>simp[Zg]at hc
 |cons o l=>
  simp only[Zg,Uw,QY7,QY8]at hc;obtain⟨⟨⟨⟨h1,h2⟩,h3⟩,h4⟩,h5⟩:=hc;have h4:(Zf P o.op it.op&&AY P o.type it.op)=true:=h4;rw[QY7]at h4;have hgd:o.guard=none:=by
   rw[hg]at h3;cases hog:o.guard with
   |none=>rfl
   |some p=>rw[hog]at h3;simp at h3
  refine wpList_plain hgd fun K hK=>?_
  refine h G B a w o hr h1 (fun d e=>?_) h4.1 h4.2 K QQ fun G' st' a' w' ha hr' he=>hK _ _ ?_
  ·rw[h1,e]at h2
   simpa using h2
  ·exact ha ops l h5 G' B a' w' hr' QQ fun G2 st2 a2 w2 hq2 hr2 he2=>hq G2 st2 a2 w2 hq2 hr2 (he.trans he2)

theorem QB.step {it:Item}{Qg:List Item}(hg:it.g=none)
  (h:∀(G:Gh) (B:Nat) (a:Act) (w:World) (o:Oper),Rel G B N st a w→o.dst=it.dst→(∀d,it.dst=some d→d<N)→Zf P o.op it.op=true→
   ∀(K:Act→World→Prop) (QQ:Exit→Act→World→Prop),(∀G' st' a' w',QB P N Qg st' Q→Rel G' B N st' a' w'→Ext 1 G w G' w'→K a' w')→o.wp P a w K QQ):QB P N (it :: Qg) st Q :=
 QB.stepT hg fun G B a w o hr hd hdN hc _=>h G B a w o hr hd hdN hc

theorem QB.same {d:Option Nat}{ro ro':RO}{g:Option (Nat×Bool)}{Qg:List Item}(h:∀o,MD P o ro'=MD P o ro)(k:QB P N (⟨d,ro,g⟩ :: Qg) st Q):QB P N (⟨d,ro',g⟩ :: Qg) st Q:=by
 intro ops l hc;refine k ops l ?_;cases l with
 |nil=>exact hc
 |cons o l=>simpa only [Zg,Uw,h]using hc

theorem QB.val {d:Option Nat}{vo:VO}{Qg:List Item}{x:AV}(hx:QG st.f st.m vo=some x)(h:QB P N Qg { st with f:=Qn st.f d x } Q):QB P N (⟨d,.val vo,none⟩ :: Qg) st Q:=by
 refine QB.step rfl fun G B a w o hr hd hdN hc K QQ hK=>?_
 obtain⟨v,hrun,hv⟩:=Qgi (P:=P) hr hx (o:=o) hc;unfold Oper.wp;rw[hrun];have hd':o.dst=d:=hd;show K (a.put o.dst v) w;rw[hd'];exact hK G _ _ w h (hr.put hdN hv) (Ext.refl 1 G w)

theorem QB.yes {d:Option Nat}{ro:RO}{j:Nat}{want:Bool}{Qg:List Item}(hj:st.f j=.bool want)(h:QB P N (⟨d,ro,none⟩ :: Qg) st Q):QB P N (⟨d,ro,some (j,want)⟩ :: Qg) st Q:=by
 intro ops l hc G B a w hr QQ hq;cases l with
 |nil=>simp[Zg]at hc
 |cons o l=>
  simp only[Zg,Uw,QY7,QY8]at hc;obtain⟨⟨⟨⟨h1,h2⟩,h3⟩,h4⟩,h5⟩:=hc
  -- the same operation without Qg guard
  have hno:=h ops ({ o with guard:=none } :: l) (by simp only[Zg,Uw,QY7,QY8];exact⟨⟨⟨⟨h1,h2⟩,trivial⟩,h4⟩,h5⟩) G B a w hr QQ hq;have hw:Region.wanted o (yielded ops a.tmps)=true:=by
   cases hog:o.guard with
   |none=>simp[Region.wanted,hog]
   |some p=>
    obtain⟨i,wt⟩:=p;rw[hog]at h3;simp only[QY7,QY8]at h3;obtain⟨h6,rfl⟩:=h3;have hs:=hr.slots j;rw[hj]at hs;have hv:a.tmps[j]? = some (.bool wt):=by
     have hs':a.tmps.getD j undef=.bool wt:=by
      revert hs
      generalize a.tmps.getD j undef=v;intro hs;cases hs;rfl
     simp only[QYU]at hs';cases hjj:a.tmps[j]? with
     |none=>rw[hjj]at hs';simp[undef]at hs'
     |some v=>rw[hjj]at hs';simp at hs';rw[hs']
    simp only[Region.wanted,hog,yielded,h6,QZP,hv,beq_self_eq_true]
  unfold wpList at hno ⊢;rw[QYS hw];rw[QYS (by simp[Region.wanted])]at hno;have hexec:execOp a.eval { o with guard:=none }=execOp a.eval o:=by
   unfold execOp;rfl
  rcases hno with hno|⟨hno,ho⟩
  ·left
   unfold Oper.wp at hno ⊢;rw[hexec]at hno;exact hno
  ·right
   refine⟨?_,ho⟩;unfold Oper.asks at hno ⊢;rw[hexec]at hno;exact hno

theorem QB.no {d:Option Nat}{ro:RO}{j:Nat}{want:Bool}{Qg:List Item}(hj:st.f j=.bool (!want)∨st.f j=.tup [])(h:QB P N Qg { st with f:=Qn st.f d (.tup []) } Q):QB P N (⟨d,ro,some (j,want)⟩ :: Qg) st Q:=by
 intro ops l hc G B a w hr QQ hq;cases l with
 |nil=>simp[Zg]at hc
 |cons o l=>
  simp only[Zg,Uw,QY7,QY8]at hc;obtain⟨⟨⟨⟨h1,h2⟩,h3⟩,h4⟩,h5⟩:=hc;have hw:Region.wanted o (yielded ops a.tmps)=false:=by
   cases hog:o.guard with
   |none=>rw[hog]at h3;simp at h3
   |some p=>
    obtain⟨i,wt⟩:=p;rw[hog]at h3;simp only[QY7,QY8]at h3;obtain⟨h6,rfl⟩:=h3;have hs:=hr.slots j;have hv:a.tmps[j]? = some (.bool (!wt))∨a.tmps[j]? = none∨a.tmps[j]? = some (.tuple #[]):=by
     simp only[QYU]at hs;cases hjj:a.tmps[j]? with
     |none=>exact .inr (.inl rfl)
     |some v=>
      rw[hjj]at hs;simp only[QZQ]at hs;rcases hj with hj|hj<;>rw[hj]at hs
      ·cases hs;exact .inl rfl
      ·cases hs with
       |tup hs=>cases hs;exact .inr (.inr rfl)
    simp only[Region.wanted,hog,yielded,h6,QZP];rcases hv with hv|hv|hv<;>rw[hv]<;>cases wt<;>rfl
  unfold wpList;rw[QYR (by rw[hw];simp)];have hd':o.dst=d:=h1;rw[hd'];have hdN:∀k,d=some k→k<N:=fun k e=>by
   rw[h1,e]at h2
   simpa using h2
  have:=h ops l h5 G B _ w (hr.put hdN (v:=undef) (.tup .nil)) QQ hq;exact this

end

def Jt (e:AV)(o:Nat)(ys:List AV):AV :=
 match e with
 |.agg l=>.agg (splice l o ys)
 |_=>match ys with
  |y :: _=>y
  | []=>e

def Q8 (m:Qk)(p:AV)(ys:List AV):Option Qk :=
 match p with
 |.ptr l s o=>match Qh m l s with
  |.cells xs=>if o+ys.length≤xs.length then match AV.unNL l ys with
    |some zs=>some (Am.put m l s (.cells (splice xs o zs)))
    |none=>none
   else none
  |_=>none
 |.vptr l s g i o=>match Qh m l s with
  |.vec g' sz xs=>if g=g' then match xs[i]? with
    |some e=>if o+ys.length≤e.cells.length∧ys.length≠0∧AV.rfL ys=true then some (Am.put m l s (.vec g' sz (xs.set i (Jt e o ys))))else none
    |none=>none
   else none
  |_=>none
 |_=>none

theorem F7 {e:AV}(he:e.cells.all AV.leaf=true){o:Nat}{ys:List AV}(h:o+ys.length≤e.cells.length)(hl:ys.all AV.leaf=true)(h0:ys.length≠0):(Jt e o ys).cells=splice e.cells o ys:=by
 have key:∀x:AV,x.cells=[x]→x=e→(match ys with|y :: _=>y | []=>e).cells=splice e.cells o ys:=by
  intro x hx hxe;subst hxe;rw[hx]at h ⊢;simp only[QYZ,QZR]at h;obtain⟨y,rfl⟩:∃y,ys=[y]:=by
   match ys,h0,h with
   | [y],_,_=>exact⟨y,rfl⟩
   | [],h0,_=>exact absurd rfl h0
   |_ :: _ :: _,_,h=>simp at h;omega
  have ho:o=0:=by simp at h;omega
  subst ho;simp only[QZS,List.all_nil,QZT]at hl;simp only[splice,QZO,QY6,QYZ,QZR,QZl,QZU,QZI];cases y<;>first|rfl|(simp[AV.leaf]at hl)
 cases e with
 |agg l=>rfl
 |_=>exact key _ rfl rfl

theorem BC {sz:Nat}:∀ {xs:List AV} (_:∀x∈xs,x.cells.length=sz) (i:Nat) (e:AV),e.cells.length=sz→i<xs.length→QP (xs.set i e)=(QP xs).take (i*sz)++e.cells++(QP xs).drop (i*sz+sz)
 | [],_,i,e,_,h=>by simp at h
 |x :: xs,hz,i,e,he,h=>by
  have hx:=hz x (QY2 ..);cases i with
  |zero=>
   rw[List.set_cons_zero,XM,XM,Nat.zero_mul,QZO,QY6,QY9,List.drop_append,hx];simp[QZm (QZu hx)]
  |succ i=>
   have ih:=BC (fun y hy=>hz y (QY0 _ hy)) i e he (by simpa using h);rw[List.set_cons_succ,XM,ih,XM,QZk,Nat.one_mul,List.take_append,List.drop_append,hx];rw[QZj (l:=x.cells) (by rw[hx];omega),QZm (l:=x.cells) (by rw[hx];omega)];rw[show i*sz+sz-sz=i*sz by omega,show i*sz+sz+sz-sz=i*sz+sz by omega];simp

theorem Hq {α:Type}(l us:List α)(k n:Nat)(h:k+us.length≤n)(hn:n≤l.length):(l.take k++us++l.drop (k+us.length)).take n=(l.take n).take k++us++(l.take n).drop (k+us.length):=by
 have e:(l.take k++us).length=k+us.length:=by simp;omega
 rw[List.take_append,e,QZj (l:=l.take k++us) (by omega),List.take_take,Nat.min_eq_left (by omega),List.drop_take]

theorem MR.rowset {G:Gh}{m:Qk}{w w':World}(h:MR G m w){l s g sz b:Nat}{xs ys:List AV}(hx:Qh m l s=.vec g sz xs)(hb:G.vm l s=some b)(ht:Turned b w w')(hel:Elems sz ys)(hr:RowIs G s w' b (G.vc l s) sz ys) :
  MR G (Am.put m l s (.vec g sz ys)) w' where
 stab k o v e:=by
  have hk:k≠b:=by rintro rfl;rw[(h.vm l s k hb).2 o]at e;cases e
  exact JF (ht.heap k hk) (h.stab k o v e)
 cells l' s' zs e:=by
  by_cases hh:l'=l∧s'=s
  ·obtain⟨rfl,rfl⟩:=hh;rw[Qv (Xb (by rw[hx];simp))]at e;cases e
  ·rw[QA (by omega)]at e;obtain⟨b',cs',e',hc,hr⟩:=h.cells l' s' zs e;exact⟨b',cs',e',hc.of (ht.heap b' (fun eb=>by subst eb;exact h.inj3 _ _ _ _ _ e' hb)),hr⟩
 nm l' s' b' e:=by
  obtain⟨hz,h2⟩:=h.nm l' s' b' e;refine⟨?_,h2⟩;by_cases hh:l'=l∧s'=s
  ·obtain⟨rfl,rfl⟩:=hh;rw[hx]at hz;cases hz
  ·rw[QA (by omega)];exact hz
 vec l' s' g' sz' zs e:=by
  by_cases hh:l'=l∧s'=s
  ·obtain⟨rfl,rfl⟩:=hh;rw[Qv (Xb (by rw[hx];simp))]at e;cases e;obtain⟨a1,a2,a3,a4⟩:=h.vec l' s' g sz xs hx;exact⟨a1,a2,hel,.inr ⟨b,hb,hr⟩⟩
  ·rw[QA (by omega)]at e;obtain⟨a1,a2,a3,a4⟩:=h.vec l' s' g' sz' zs e;refine⟨a1,a2,a3,a4.imp id fun⟨b',e',r⟩=>⟨b',e',r.of (ht.heap b' ?_) fun _ h=>h⟩⟩;rintro rfl;exact hh (h.inj2 _ _ _ _ _ e' hb)
 vm l' s' b' e:=by
  obtain⟨⟨g',sz',zs,hz⟩,h2⟩:=h.vm l' s' b' e;refine⟨?_,h2⟩;by_cases hh:l'=l∧s'=s
  ·obtain⟨rfl,rfl⟩:=hh;exact⟨g,sz,ys,Qv (Xb (by rw[hx];simp))⟩
  ·exact⟨g',sz',zs,by rw[QA (by omega)];exact hz⟩
 gone l' s' e:=by
  by_cases hh:l'=l∧s'=s
  ·obtain⟨rfl,rfl⟩:=hh;rw[Qv (Xb (by rw[hx];simp))]at e;cases e
  ·rw[QA (by omega)]at e;exact h.gone l' s' e
 inj1:=h.inj1
 inj2:=h.inj2
 inj3:=h.inj3
 iter l' s' t p e:=by
  by_cases hh:l'=l∧s'=s
  ·obtain⟨rfl,rfl⟩:=hh;rw[Qv (Xb (by rw[hx];simp))]at e;cases e
  ·rw[QA (by omega)]at e;obtain⟨b',e',hc⟩:=h.iter l' s' t p e;exact⟨b',e',(ht.heap b' (fun eb=>by subst eb;exact h.inj3 _ _ _ _ _ e' hb)).trans hc⟩

section
variable {P:Program}{N:Nat}{st:St}{Q:St→Prop}

theorem BD {xs:List AV}(h:(QP xs).all AV.leaf=true){e:AV}(he:e∈xs):e.cells.all AV.leaf=true :=
 XL h fun _ hx=>List.mem_flatMap.2 ⟨e,he,hx⟩

theorem Hr {t:TypeId}{i:TypeInfo}(hi:P.info? t=some i){b o:Nat}{v:Value}{w:World}(hs:v.cells.size=i.size):(Instr.storeAt t (.pointer (some ⟨b,o,none⟩)) v).run P w=(storeCells ⟨b,o,none⟩ v.cells.toList).run P w:=by
 simp only[Instr.storeAt,Instr.sureAddr,Sem.run_bind,Sem.run_pure,Result.andThen_ok,storeVar,Xz hi];rw[QYR (by omega)]

theorem QB.store {d:Option Nat}{n:Nat}{p r:RA}{Qg:List Item}{m':Qk}(hn:(r.ev st.f).cells.length=n)(hl:(r.ev st.f).cells.all AV.leaf=true)(hm:Q8 st.m (p.ev st.f) (r.ev st.f).cells=some m')
  (h:QB P N Qg { st with m:=m',f:=Qn st.f d (.tup []) } Q):QB P N (⟨d,.store n p r,none⟩ :: Qg) st Q:=by
 refine QB.step rfl fun G B a w o hr hd hdN hc K QQ hK=>?_
 cases ho:o.op<;>rw[ho]at hc<;>simp only[Zf,QY3,QY7,QZF,QY8]at hc;rename_i t q x;obtain⟨⟨⟨i,hi,hin⟩,hcp⟩,hcr⟩:=hc;have rp:=Qu hr hcp;have rx:=(Qu hr hcr).cells hl;have hsz:(a.eval x).cells.size=i.size:=by
  have:=rx.length;simp only[QZf]at this;omega
 have h1:∀u∈(a.eval x).cells.toList,u.oneCell'=true:=rx.leaves hl;have fin:∀w',(Instr.storeAt t (a.eval q) (a.eval x)).run P w=.ok () w'→(∃G',Rel G' B N { st with m:=m' } a w'∧Ext 1 G w G' w')→o.wp P a w K QQ:=by
  intro w' hrun ⟨G',hr',he⟩;have hexec:(execOp a.eval o).run P w=.ok .skip w':=by
   simp only[execOp,ho,Sem.run_bind,hrun,Result.andThen_ok,Sem.run_pure]
  unfold Oper.wp;rw[hexec];have hd':o.dst=d:=hd;show K (a.put o.dst undef) w';rw[hd'];exact hK G' _ _ w' h (hr'.put hdN (v:=undef) (.tup .nil)) he
 generalize hp:p.ev st.f=pv at rp hm;cases pv with
 |ptr l s off=>
  simp only[Q8]at hm;split at hm
  ·rename_i xs hlk;split at hm
   ·rename_i hfit;split at hm
    ·rename_i zs hzs;cases hm;generalize hq:a.eval q=qv at rp fin;cases rp with
     |ptr hb=>
      obtain⟨b,cs,hb',hsoft,hrep⟩:=hr.mr.cells l s xs hlk;rw[hb]at hb';cases hb';have hlen:=rx.length;have hxl:=hrep.length;simp only[QZf]at hlen hxl;obtain⟨w',hst,hs',htn⟩:=X7 P _ _ off (a.eval x).cells.toList 0 w cs hsoft (by simp only[QZf];omega) h1;refine fin w' (by rw[Hr hi hsz];exact hst) ⟨G,⟨?_,hr.size,hr.slots,hr.ds,hr.base,by rw[htn.size];exact hr.top,J4 hr.ne⟩,Ext.turned htn (.inl ⟨l,s,hb⟩)⟩;refine hr.mr.stored hlk hb htn hs' ?_;have:=hrep.splice (rx.unNL l hzs) off
      simpa using this
    ·cases hm
   ·cases hm
  ·cases hm
 |vptr l s g i' off=>
  simp only[Q8]at hm;split at hm
  ·rename_i g' sz xs hlk;split at hm
   ·rename_i hgg;subst hgg;split at hm
    ·rename_i e he;split at hm
     ·rename_i hfit;obtain⟨hfit,hne0,hrf⟩:=hfit;cases hm;generalize hq:a.eval q=qv at rp fin;cases rp with
      |vptr hv hg hh=>
       obtain⟨e1,e2,e3,e4⟩:=hr.mr.vec l s g sz xs hlk;obtain⟨b,hb,rfl⟩:=hh e1.symm;rcases e4 with⟨e4,_⟩|⟨b',e4,hrow⟩
       ·rw[hb]at e4;cases e4
       ·rw[hb]at e4;cases e4;obtain⟨⟨cur,hsoft,hcs,hrep⟩,hle,hmax⟩:=hrow;have hlen:=rx.length;simp only[QZf]at hlen;have hilt:=(QYM.1 he).1;have hmem:=QYY he;have hesz:=e3.size e hmem;have hbig:i'*sz+sz≤xs.length*sz:=by
         have:(i'+1)*sz≤xs.length*sz:=QZL _ hilt
         rwa [QZk,Nat.one_mul]at this
        have hbig2:xs.length*sz≤cur.size:=by rw[hcs];exact QZL _ hle
        obtain⟨w',hst,hs',htn⟩:=X7 P _ b (i'*sz+off) (a.eval x).cells.toList 0 w cur hsoft (by simp only[QZf];omega) h1;have hel':e.cells.all AV.leaf=true:=BD e3.leaf hmem;have hnc:=F7 hel' hfit hl hne0;have hncl:(Jt e off (r.ev st.f).cells).cells.length=sz:=by rw[hnc,Uh hfit,hesz]
        have hfl:=BC e3.size i' (Jt e off (r.ev st.f).cells) hncl hilt;have hflx:=Yk e3.size;have hsub:((QP xs).drop (i'*sz)).take sz=e.cells:=by
         rw[ZI e3.size];have h2:xs.drop i'=e :: xs.drop (i'+1):=by
          rw[QZt hilt];congr 1
          exact(QYM.1 he).2
         rw[h2,XM,List.take_append,hesz];simp[QZj (QZu hesz)]
        have hfl2:QP (xs.set i' (Jt e off (r.ev st.f).cells))=splice (QP xs) (i'*sz+off) (r.ev st.f).cells:=by
         rw[hfl,hnc];simp only[splice];rw[←hsub];simp only[QY4,List.take_take,List.drop_take,QZe];rw[List.take_add (i:=i'*sz) (j:=off)];simp only[QY4];congr 1
         rw[Nat.min_eq_left (by omega)];congr 2
         have e5:(QP xs).drop (i'*sz+off+(r.ev st.f).cells.length)=(((QP xs).drop (i'*sz+(off+(r.ev st.f).cells.length))).take (sz-(off+(r.ev st.f).cells.length)))++(QP xs).drop (i'*sz+sz):=by
          have:=QZV (sz-(off+(r.ev st.f).cells.length)) ((QP xs).drop (i'*sz+(off+(r.ev st.f).cells.length)));rw[QZe]at this;rw[show i'*sz+(off+(r.ev st.f).cells.length)+(sz-(off+(r.ev st.f).cells.length))=i'*sz+sz by omega]at this;rw[this,QYJ]
         rw[e5]
        have hels:Elems sz (xs.set i' (Jt e off (r.ev st.f).cells)):=by
         refine⟨fun y hy=>?_,?_,?_⟩
         ·rcases List.mem_or_eq_of_mem_set hy with hy|rfl
          ·exact e3.size y hy
          ·exact hncl
         ·rw[hfl2];simp only[splice,KA,QY7];exact⟨⟨ZG e3.rf fun y hy=>QZw hy,hrf⟩,ZG e3.rf fun y hy=>QZv hy⟩
         ·rw[hfl2];simp only[splice,QZW,QY7];exact⟨⟨XL e3.leaf fun y hy=>QZw hy,hl⟩,XL e3.leaf fun y hy=>QZv hy⟩
        refine fin w' (by rw[Hr hi hsz,e2];exact hst) ⟨G,⟨?_,hr.size,hr.slots,hr.ds,hr.base,by rw[htn.size];exact hr.top,J4 hr.ne⟩,Ext.turned htn (.inr ⟨l,s,hb⟩)⟩;refine hr.mr.rowset hlk hb htn hels ⟨⟨_,hs',?_,?_⟩,by simpa using hle,hmax⟩
        ·simp only[List.size_toArray,QZn,QZC,QZr,QZf];omega
        ·rw[hfl2,List.length_set];have h5:=hrep.splice rx (i'*sz+off);have h6:(cur.toList.take (i'*sz+off+0)++(a.eval x).cells.toList++cur.toList.drop (i'*sz+off+0+(a.eval x).cells.toList.length)).toArray.toList.take (xs.length*sz)=(cur.toList.take (xs.length*sz)).take (i'*sz+off)++(a.eval x).cells.toList++(cur.toList.take (xs.length*sz)).drop (i'*sz+off+(a.eval x).cells.toList.length):=by
          simp only[QZg];exact Hq _ _ _ _ (by simp only[QZf];omega) (by simp only[QZf];omega)
         rw[h6];exact h5
     ·cases hm
    ·cases hm
   ·cases hm
  ·cases hm
 |_=>simp[Q8]at hm

end

theorem AV.unNL_zero (l:List AV):AV.unNL 0 l=some l:=rfl

section
variable {P:Program}{N:Nat}{st:St}{Q:St→Prop}

theorem AZ {G:Gh}{B:Nat}{a:Act}{w:World}(hr:Rel G B N st a w){t tx ty e:TypeId}{i:TypeInfo}{zv:Value}(hu:P.underlying t=some (.slice e))(hi:P.info? e=some i)(hzv:i.zero=some zv)(hz:zv.cells.size=i.size)
  {l site g n:Nat} {xs ys:List AV} {v:Value} (rs:Rep G (.vec l site g 0 n false) v) (hlk:Qh st.m l site=.vec g i.size xs) (hn:n≤xs.length) (hte:Zr site e=true)
  {y:Value} {cs:List Value} (hsrc:Src P i.size tx y ys.length cs w) (hrep:RepL G (QP ys) cs) (hel:Elems i.size ys) (hmax:n+ys.length≤maxLen) (hb:(n+ys.length)*i.bytes≤140737488355328) :
  ∃v' w' G',(Builtin.append_ #[t,tx] ty #[v,y]).run P w=.ok v' w'∧Rel G' B N { st with m:=Am.put st.m l site (.vec (g+1) i.size (xs.take n++ys)) } a w'∧Ext 1 G w G' w'∧Rep G' (.vec l site (g+1) 0 (n+ys.length) false) v':=by
 obtain⟨e1,e2,e3,e4⟩:=hr.mr.vec l site g i.size xs hlk;have hels:Elems i.size (xs.take n++ys):=by
  refine⟨fun u hu=>?_,?_,?_⟩
  ·rcases QZX.1 hu with hu|hu
   ·exact e3.size u (QZw hu)
   ·exact hel.size u hu
  ·rw[J5,KA,QY7];exact⟨ZG e3.rf (ZQ fun u hu=>QZw hu),hel.rf⟩
  ·rw[J5,QZW,QY7];exact⟨XL e3.leaf (ZQ fun u hu=>QZw hu),hel.leaf⟩
 have hlm:l<st.m.length:=Xb (by rw[hlk];simp);have hro:QI (Qh st.m l site)=true:=by rw[hlk];rfl
 have hgl:G.vg l site<g+1:=by omega
 have hlen:(xs.take n++ys).length=n+ys.length:=by simp;omega
 -- what the slice value is
 have hv:((∃A,v=.slice A 0 0∧(2000≤site→A=none))∧n=0∧G.vm l site=none∧([]:List Value)=[])∨∃b cur,v=.slice (some ⟨b,0,none⟩) n (G.vc l site)∧G.vm l site=some b∧XH site w b cur∧cur.size=G.vc l site*i.size∧n≤G.vc l site∧G.vc l site≤maxLen∧RepL G (QP (xs.take n)) (cur.toList.take (n*i.size)):=by
  cases rs with
  |vec hone' hg hh=>
   rcases hh e1.symm with⟨hvm,_,rfl,A0,rfl,hA0⟩|⟨b,A',c',hvm,hok,rfl,hkc,hcm,hq,hA⟩
   ·exact .inl ⟨⟨A0,rfl,hA0⟩,rfl,hvm,rfl⟩
   ·right
    rcases e4 with⟨e,_⟩|⟨b',e,hrow⟩
    ·rw[hvm]at e;cases e
    ·rw[hvm]at e;cases e;obtain⟨⟨cur,hsoft,hcsz,hrepx⟩,hle,hmx⟩:=hrow;have hA':=hA ⟨.inr rfl,.inl rfl⟩;have hc':=hq rfl;simp only[Nat.zero_mul,QZY]at hA' hc';subst hA' hc';refine⟨b,cur,rfl,hvm,hsoft,hcsz,hkc,hmx,?_⟩;have:=hrepx.take (n*i.size);rw[JG e3.size,List.take_take,Nat.min_eq_left (QZL _ hn)]at this;exact this
 have hrunv:∃vs:List Value,RepL G (QP (xs.take n)) vs∧vs.length=n*i.size∧(((∃A,v=.slice A 0 0)∧G.vm l site=none∧n=0∧vs=[])∨∃b cur,v=.slice (some ⟨b,0,none⟩) n (G.vc l site)∧G.vm l site=some b∧XH site w b cur∧cur.size=G.vc l site*i.size∧n≤G.vc l site∧G.vc l site≤maxLen∧cur.toList.take (n*i.size)=vs):=by
  rcases hv with⟨⟨A0,rfl,_⟩,rfl,hvm,_⟩|⟨b,cur,rfl,hvm,h1,h2,h3,h4,h5⟩
  ·exact⟨[],by simp[QP];exact .nil,by simp,.inl ⟨⟨A0,rfl⟩,hvm,rfl,rfl⟩⟩
  ·refine⟨_,h5,?_,.inr ⟨b,cur,rfl,hvm,h1,h2,h3,h4,rfl⟩⟩;simp only[QZC,QZf,h2];exact Nat.min_eq_left (QZL _ h3)
 obtain⟨vs,hvs,hvl,hvv⟩:=hrunv;obtain⟨v',w',hrun,hos,htp,hout,hsize,hkeep,hres⟩:=Gu (P:=P) (w:=w) (ty:=ty) hte hu hi hzv hz hvv hvl hsrc hmax hb;have hkeep':∀k,k<w.heap.size→some k≠G.vm l site→w'.heap[k]? = w.heap[k]?:=fun k hk hne=>hkeep k hk fun e=>hne e.symm
 rcases hres with⟨rfl,hvv',hm0,rfl⟩|⟨b',cap',cur',rfl,hb',hsoft',hcs',hncap,hcm',htake⟩
 ·have hn0:n=0∧G.vm l site=none∧∃A,v'=.slice A 0 0∧(2000≤site→A=none):=by
   rcases hv with⟨h0,h1,h2,_⟩|⟨b,cur,e,e',_⟩
   ·exact⟨h1,h2,h0⟩
   ·rw[hvv']at e';cases e'
  have hys:ys=[]:=QZK hm0;obtain⟨rfl,hvn,A0,rfl,hA0⟩:=hn0;subst hys;obtain⟨hr',he⟩:=hr.vecput (w':=w') (cap:=0) (b:=none) hlm hro hgl rfl rfl rfl (QYK _) (fun _ _ _=>rfl) (fun k e=>by cases e) hels (.inl ⟨rfl,by simp⟩);exact⟨_,_,_,hrun,hr',he,.vec rfl (QZu (by simp[Gh.row])) fun _=>.inl ⟨by simp[Gh.row],rfl,by simp,A0,rfl,hA0⟩⟩
 ·obtain⟨hr',he⟩:=hr.vecput (w':=w') (cap:=cap') (b:=some b') hlm hro hgl hos htp hout hsize hkeep' (fun k e=>by cases e;exact hb') hels (.inr ⟨b',rfl,⟨cur',hsoft',hcs',by rw[hlen,htake,J5];exact hvs.append hrep⟩,by rw[hlen];exact hncap,hcm'⟩);exact⟨_,_,_,hrun,hr',he,.vec rfl (QZu (by simp[Gh.row])) fun _=>.inr ⟨b',⟨b',0,none⟩,cap',by simp[Gh.row],by simp[Gh.row];exact hncap,rfl,hncap,hcm',fun _=>by simp[Gh.row],fun _=>by simp⟩⟩

theorem QB.app {d:Option Nat}{sz bytes el:Nat}{s r:RA}{Qg:List Item}{l site g n:Nat}{xs ys:List AV}(hs:s.ev st.f=.vec l site g 0 n false)(hlk:Qh st.m l site=.vec g sz xs)(hte:Zr site el=true)(hn:n≤xs.length)
  (hy:Zd st.m (r.ev st.f)=some ys) (hsz:ys.all (fun e=>e.cells.length==sz)=true) (hmax:n+ys.length≤maxLen) (hb:(n+ys.length)*bytes≤140737488355328)
  (h:QB P N Qg { st with m:=Am.put st.m l site (.vec (g+1) sz (xs.take n++ys)),f:=Qn st.f d (.vec l site (g+1) 0 (n+ys.length) false) } Q):QB P N (⟨d,.app sz bytes el s r,none⟩ :: Qg) st Q:=by
 refine QB.step rfl fun G B a w o hr hd hdN hc K QQ hK=>?_
 cases ho:o.op<;>rw[ho]at hc<;>simp only[Zf,QY3]at hc;rename_i cl;split at hc
 case h_2=>cases hc
 rename_i o1 x y t t' o2;cases o2;simp only[QY7,QY8]at hc;obtain⟨⟨⟨rfl,hty⟩,hcs⟩,hcr⟩:=hc;cases hu:P.underlying t with
 |none=>simp[hu]at hty
 |some dd=>
  cases dd with
  |slice e=>
   simp only[hu,QY7,QZF,QZc,QY8]at hty;obtain⟨⟨⟨i,hi,⟨rfl,rfl⟩,hz⟩,hsz0⟩,rfl⟩:=hty;cases hzv:i.zero with
   |none=>rw[hzv]at hz;cases hz
   |some zv=>
    rw[hzv]at hz;simp only[QY8]at hz;have rs:=Qu hr hcs;rw[hs]at rs;obtain⟨A,c,hyv,sz',cs,hrep,hel,hcell⟩:=Gs hr hy (Qu hr hcr);have hall:∀u∈ys,u.cells.length=i.size:=fun u hu=>by simpa using QYX.1 hsz u hu
    have hel':Elems i.size ys:=⟨hall,hel.rf,hel.leaf⟩;have hcl:cs.length=ys.length*i.size:=by rw[hrep.length,Yk hall]
    have hone:∀u∈cs,u.oneCell'=true:=hrep.leaves hel.leaf;have hsrc:Src P i.size t (.slice A ys.length c) ys.length cs w:=by
     cases cs with
     |nil=>
      have h0:ys.length=0:=by
       rcases Nat.mul_eq_zero.1 (by simpa using hcl.symm)with h0|h0
       ·exact h0
       ·exact absurd h0 hsz0
      rw[h0];cases A with
      |none=>exact Src.ofNil (w:=w) hu c
      |some ad=>exact Src.ofSlice (w:=w) hu ad 0 c [] (by simp) (fun j u h=>by cases h) (fun u h=>by cases h)
     |cons u0 us=>
      obtain⟨b,o',rfl,_⟩:=hcell 0 u0 rfl;refine Src.ofSlice (w:=w) hu ⟨b,o',none⟩ ys.length c (u0 :: us) hcl (fun j u hj=>?_) hone;obtain⟨b',o'',e,hcc⟩:=hcell j u hj;cases e;rw[Zt];exact hcc
    obtain⟨v',w',G',hrun,hr',he,hv'⟩:=AZ (ty:=o.type) hr hu hi hzv hz rs hlk hn hte hsrc hrep hel' hmax hb;have hexec:(execOp a.eval o).run P w=.ok (.value v') w':=by
     simp only[execOp,ho,resolve,invoke,builtin,Sem.run_bind,Sem.run_pure,Result.andThen_ok,List.map_toArray,QZh,QZG,hyv,hrun]
    unfold Oper.wp;rw[hexec];have hd':o.dst=d:=hd;show K (a.put o.dst v') w';rw[hd'];exact hK _ _ _ _ h (hr'.put hdN hv') he
  |_=>simp[hu]at hty

theorem Rel.after {G G':Gh}{B:Nat}{a:Act}{w w':World}{m':Qk}(h:Rel G B N st a w)(hm:MR G' m' w')(he:Ext 0 G w G' w')(hl:m'.length=st.m.length):Rel G' B N { st with m:=m' } a w' where
 mr:=hm
 size:=h.size
 slots i:=(h.slots i).mono he.gle
 ds:=h.ds.mono he.gle
 base s b e:=by
  rcases e with e|e
  ·rw[he.nm 0 s (QYK _)]at e;exact h.base s b (.inl e)
  ·rcases he.mv 0 s b e with⟨i,t,hi,e⟩|e
   ·obtain rfl:i=0:=Nat.le_zero.1 hi;exact h.base t b (.inr e)
   ·exact QYL h.top e
 top:=QYL h.top he.size
 ne:=by
  have:=h.ne;intro e;have e':m'=[]:=e;rw[e']at hl;exact this (QZK hl.symm)

theorem A1 {o:Oper}{x:Operand}{args:Array Operand}{ts:Array TypeId}{a:Act}{w:World}(ho:o.op=.call { callee:=.value x,args:=args,argTypes:=ts }){k:FuncId}{va vb:List Value}(hx:a.eval x=.func (.func k) ⟨va⟩ ⟨vb⟩)(hk:YT P k) :
  (execOp a.eval o).run P w=.ok (.enter k ⟨va++args.toList.map a.eval++vb⟩) w:=by
 obtain⟨fn,hf,hn,hb⟩:=hk;have e1:args.map a.eval=⟨args.toList.map a.eval⟩:=by apply Array.ext';simp
 simp only[execOp,ho,resolve,hx,Deferred.ofValue,e1,Sem.run_bind,Sem.run_pure,Result.andThen_ok,invoke,callFunc,run_program,hf,hn,QY3,if_false,hb];simp

theorem V3 {G:Gh}{B:Nat}{a:Act}{w:World}{o:Oper}(hr:Rel G B N st a w){f:RA}{args:List RA}{k:FuncId}{fa fb:List AV}(hf:f.ev st.f=.fn (.func k) fa fb)(hk:YT P k)(hc:Zf P o.op (.call f args)=true){K:Act→World→Prop}{QQ:Exit→Act→World→Prop}
  (h:∀vs,RepL G (fa++args.map (RA.ev st.f)++fb) vs→Calls P k ⟨vs⟩ w fun e w'=>∃v,e=.returned v∧K (a.put o.dst v) w'):o.wp P a w K QQ:=by
 cases ho:o.op<;>rw[ho]at hc<;>simp only[Zf,QY3]at hc;rename_i cl;split at hc
 case h_2=>cases hc
 rename_i o1 x as ts o2;cases o2;simp only[QY7]at hc;have rf:=Qu hr hc.1;rw[hf]at rf;have ras:=YR hr hc.2;obtain⟨va,vb,hx,h1,h2⟩:∃va vb,a.eval x=.func (.func k) ⟨va⟩ ⟨vb⟩∧RepL G fa va∧RepL G fb vb:=by
  generalize a.eval x=v at rf;cases rf with
  |fn h1 h2=>exact⟨_,_,rfl,h1,h2⟩
 have hrun:=A1 (P:=P) (w:=w) ho hx hk;unfold Oper.wp;rw[hrun];show Calls P k _ w _;exact(h _ ((h1.append ras).append h2)).mono fun e w' ⟨v,he,hK⟩=>by subst he;exact hK

theorem QB.callFull {d:Option Nat}{f:RA}{args:List RA}{Qg:List Item}{k:FuncId}{fa fb:List AV}(hf:f.ev st.f=.fn (.func k) fa fb){R:AV→Qk→Prop}(hk:Qf P k (fa++args.map (RA.ev st.f)++fb) st.m R)
  (h:∀x m',R x m'→m'.length=st.m.length→QB P N Qg { st with m:=m',f:=Qn st.f d x } Q):QB P N (⟨d,.call f args,none⟩ :: Qg) st Q:=by
 refine QB.step rfl fun G B a w o hr hd hdN hc K QQ hK=>?_
 refine V3 hr hf hk.1 hc fun vs hvs=>(hk.2 G w vs hvs hr.mr).mono fun e w' ⟨G',x,v,m',he,hR,hv,hm,hx,hl⟩=>⟨v,he,?_⟩
 have hd':o.dst=d:=hd;rw[hd'];exact hK G' _ _ w' (h x m' hR hl) ((hr.after hm hx hl).put hdN hv) (hx.mono (QYT _))

def Gh.bare (stab:Nat→Nat→Option SV)(ht:∀b o v,Jb b o=some v→stab b o=some v):Gh:=⟨stab,fun _ _=>none,fun _ _=>none,fun _ _=>0,fun _ _=>0,fun _ _=>0,ht⟩
def Gh.world (W:World)(h:HM W):Gh:=Gh.bare (fun b o=>sv W b o) fun b o v e=>Bd (h b o v e)

theorem MR.bare {stab:Nat→Nat→Option SV}{ht:∀b o v,Jb b o=some v→stab b o=some v}{w:World}(h:∀b o v,stab b o=some v→rd w b o v):MR (Gh.bare stab ht) [] w where
 stab:=h
 cells l s xs e:=by cases l<;>cases e
 nm l s b e:=by cases e
 vec l s g sz xs e:=by cases l<;>cases e
 vm l s b e:=by cases e
 gone _ _ _:=rfl
 inj1 l s l' s' b e:=by cases e
 inj2 l s l' s' b e:=by cases e
 inj3 l s l' s' b e:=by cases e
 iter l s t p e:=by cases l<;>cases e

theorem Gh.bare_mine {stab:Nat→Nat→Option SV}{ht:∀b o v,Jb b o=some v→stab b o=some v}{b:Nat}:¬(Gh.bare stab ht).mine b:=by
 rintro(⟨l,s,e⟩|⟨l,s,e⟩)<;>cases e

def Gh.with(G:Gh)(stab:Nat→Nat→Option SV)(hg:∀b o v,G.stab b o=some v→stab b o=some v):Gh:={ G with stab:=stab,tab:=fun b o v e=>hg _ _ _ (G.tab b o v e) }

theorem MR.kept {G:Gh}{m:Qk}{w w':World}(h:MR G m w){stab:Nat→Nat→Option SV}(hk:∀b,b<w.heap.size→w'.heap[b]? = w.heap[b]?)(hs:∀b o v,stab b o=some v→rd w' b o v)(hg:∀b o v,G.stab b o=some v→stab b o=some v)(hm:∀b,G.mine b→∀o,stab b o=none):MR (G.with stab hg) m w' where
 stab:=hs
 cells l s xs e:=by
  obtain⟨b,cs,e',hc,hr⟩:=h.cells l s xs e;exact⟨b,cs,e',hc.of (hk b hc.lt),RepL.mono (G:=G.dn l) (G':=(G.with stab hg).dn l) ⟨hg,fun _ _ _ h=>h,fun _ _=>QYK _,fun _ _ _=>⟨rfl,rfl,rfl⟩⟩ hr⟩
 nm l s b e:=⟨(h.nm l s b e).1,hm b (.inl ⟨l,s,e⟩)⟩
 vec l s g sz xs e:=by
  obtain⟨a1,a2,a3,a4⟩:=h.vec l s g sz xs e;exact⟨a1,a2,a3,a4.imp id fun⟨b,e',r⟩=>⟨b,e',r.of (hk b (h.mine (.inr ⟨l,s,e'⟩)).1) fun vs hv=>RepL.rfd (G:=G) (G':=G.with stab hg) hg a3.rf hv⟩⟩
 vm l s b e:=⟨(h.vm l s b e).1,hm b (.inr ⟨l,s,e⟩)⟩
 gone:=h.gone
 inj1:=h.inj1
 inj2:=h.inj2
 inj3:=h.inj3
 iter l s t p e:=by
  obtain⟨b,e',hc⟩:=h.iter l s t p e;exact⟨b,e',(hk b (h.mine (.inl ⟨l,s,e'⟩)).1).trans hc⟩

theorem Ext.bare {G:Gh}{w w':World}{stab':Nat→Nat→Option SV}(hos:w'.os=w.os)(htape:w'.tape=w.tape)(hout:w'.output=w.output)(hsize:w.heap.size≤w'.heap.size)(hk:∀b,b<w.heap.size→w'.heap[b]? = w.heap[b]?)(hg:∀b o v,G.stab b o=some v→stab' b o=some v)(ho:∀b,b<w.heap.size→∀o,stab' b o=G.stab b o):Ext 0 G w (G.with stab' hg) w' :=
 ⟨hos,htape,hout,hsize,hg,fun _ _ _=>rfl,fun _ _=>QYK _,fun _ _ _=>⟨rfl,rfl,rfl⟩,fun b hb _=>⟨hk b hb,ho b hb⟩,fun _ h=>.inl h,fun l s _ h=>.inl ⟨l,s,QYK _,h⟩⟩

mutual
def AV.nl:AV→Bool
 |.list _|.rptr _|.lcap _|.mp .. => false
 |.agg l|.tup l=>AV.nlL l
 |.iface _ x=>x.nl
 |.fn _ a b=>AV.nlL a&&AV.nlL b
 |_=>true
def AV.nlL:List AV→Bool
 | []=>true
 |x :: l=>x.nl&&AV.nlL l
end

mutual
theorem Rep.plain {G G':Gh}:∀ {x:AV} {v:Value},x.nl=true→x.rf=true→Rep G x v→Rep G' x v
 |_,_,_,_,.top v=>.top v
 |_,_,_,_,.int k n=>.int k n
 |_,_,_,_,.bool b=>.bool b
 |_,_,_,_,.str s=>.str s
 |_,_,_,_,.nils=>.nils
 |_,_,_,_,.nilp=>.nilp
 |_,_,_,_,.nilf=>.nilf
 |_,_,_,_,.nili=>.nili
 |_,_,_,_,.nilm=>.nilm
 |_,_,_,_,.anyp p=>.anyp p
 |_,_,hn,_,.list hc hz hf hl hs hn' hcap hm=>by cases hn
 |_,_,hn,_,.lcap hc hz hf hl hs hn' hm=>by cases hn
 |_,_,hn,hr,.agg h=>.agg (RepL.plain hn hr h)
 |_,_,hn,hr,.tup h=>.tup (RepL.plain hn hr h)
 |_,_,hn,hr,.iface h=>.iface (Rep.plain hn hr h)
 |_,_,hn,hr,.fn ha hb=>by
   have h1:=QYO.1 hn;have h2:=QYO.1 hr;exact .fn (RepL.plain h1.1 h2.1 ha) (RepL.plain h1.2 h2.2 hb)
 |_,_,_,hr,.ptr h=>by cases hr
 |_,_,_,hr,.vec hv hl h=>by cases hr
 |_,_,_,hr,.vptr hv hl h=>by cases hr
 |_,_,_,hr,.rptr hc hf hl hs=>by cases hr
theorem RepL.plain {G G':Gh}:∀ {x:List AV} {v:List Value},AV.nlL x=true→AV.rfL x=true→RepL G x v→RepL G' x v
 |_,_,_,_,.nil=>.nil
 |_,_,hn,hr,.cons h t=>by
   have h1:=QYO.1 hn;have h2:=QYO.1 hr;exact .cons (Rep.plain h1.1 h2.1 h) (RepL.plain h1.2 h2.2 t)
end

def Fn? (P:Program)(k:FuncId)(args:List AV)(R:AV→Prop):Prop:=Qf P k args [] fun x _=>R x

mutual
theorem BE {G:Gh}{own:Bool}{m:Qk}:∀ {x:AV} {v:Value},x.rf=true→Rep G x v→∀y,x.still own m=some y→Rep G y v
 |.top,v,_,hr,y,e=>by cases e;exact .top v
 |.int _ _,_,_,hr,y,e=>by cases e;exact hr
 |.bool _,_,_,hr,y,e=>by cases e;exact hr
 |.str _,_,_,hr,y,e=>by cases e;exact hr
 |.nilp,_,_,hr,y,e=>by cases e;exact hr
 |.nilf,_,_,hr,y,e=>by cases e;exact hr
 |.nili,_,_,hr,y,e=>by cases e;exact hr
 |.nilm,_,_,hr,y,e=>by cases e;exact hr
 |.anyp,_,_,hr,y,e=>by cases e;exact hr
 |.list _,_,_,hr,y,e=>by cases e;exact hr
 |.lcap _,_,_,hr,y,e=>by cases e;exact hr.unlcap
 |.fn _ _ _,_,_,hr,y,e=>by cases e;exact hr
 |.mp _ _,_,_,hr,y,e=>by cases e;exact hr
 |.mptr _ _,_,hf,hr,y,e=>by cases hf
 |.ptr _ _ _,_,hf,hr,y,e=>by cases hf
 |.vptr _ _ _ _ _,_,hf,hr,y,e=>by cases hf
 |.rptr _,_,hf,hr,y,e=>by cases hf
 |.vec _ _ _ _ _ _,_,hf,hr,y,e=>by cases hf
 |.nils,_,_,hr,y,e=>by
   cases e;cases hr;exact .list (sz:=0) (cs:=[]) .nil (by simp) rfl rfl (by simp) rfl (QYK _) (QYT _)
 |.agg l,_,hf,hr,y,e=>by
   simp only[AV.still,QYP]at e;obtain⟨l',e,rfl⟩:=e;cases hr with
   |agg hr=>exact .agg (W5 hf hr l' e)
 |.tup l,_,hf,hr,y,e=>by
   simp only[AV.still,QYP]at e;obtain⟨l',e,rfl⟩:=e;cases hr with
   |tup hr=>exact .tup (W5 hf hr l' e)
 |.iface t x,_,hf,hr,y,e=>by
   simp only[AV.still,QYP]at e;obtain⟨l',e,rfl⟩:=e;cases hr with
   |iface hr=>exact .iface (BE (x:=x) hf hr l' e)
theorem W5 {G:Gh}{own:Bool}{m:Qk}:∀ {x:List AV} {v:List Value},AV.rfL x=true→RepL G x v→∀y,AV.stillL own m x=some y→RepL G y v
 | [],_,_,hr,y,e=>by cases e;cases hr;exact .nil
 |x :: l,_,hf,hr,y,e=>by
   have h2:=QYO.1 hf;simp only[AV.stillL]at e;split at e
   ·rename_i a b ea eb;cases e;cases hr with
    |cons hr ht=>exact .cons (BE h2.1 hr a ea) (W5 h2.2 ht b eb)
   ·cases e
end

theorem QB.callPure {d:Option Nat}{f:RA}{args:List RA}{Qg:List Item}{k:FuncId}{fa fb ys:List AV}(hf:f.ev st.f=.fn (.func k) fa fb)(hy:AV.stillL false st.m (fa++args.map (RA.ev st.f)++fb)=some ys)(hrf:AV.rfL ys=true)
  {R:AV→Prop} (hk:Fn? P k ys R) (hx:∀x,R x→x.rf=true∧(AV.rfL (fa++args.map (RA.ev st.f)++fb)=true∨x.nl=true)) (h:∀x,R x→QB P N Qg { st with f:=Qn st.f d x } Q):QB P N (⟨d,.call f args,none⟩ :: Qg) st Q:=by
 refine QB.step rfl fun G B a w o hr hd hdN hc K QQ hK=>?_
 refine V3 hr hf hk.1 hc fun vs hvs=>?_
 have hd':o.dst=d:=hd;have hlt:∀b o v,G.stab b o=some v→b<w.heap.size:=fun b o v e=>YP (hr.mr.stab b o v e)
 -- whatever cells stay for the callee
 have key:∀(stab0:Nat→Nat→Option SV) (ht0:∀b o v,Jb b o=some v→stab0 b o=some v),(∀b o v,stab0 b o=some v→rd w b o v)→RepL (Gh.bare stab0 ht0) ys vs→((∀b,b<w.heap.size→∀o,stab0 b o=G.stab b o)∨∀x,R x→x.nl=true)→
   Calls P k ⟨vs⟩ w fun e w'=>∃v,e=.returned v∧K (a.put o.dst v) w':=by
  intro stab0 ht0 hstab hrep hor;refine(hk.2 (Gh.bare stab0 ht0) w vs hrep (MR.bare hstab)).mono fun e w' ⟨G',x,v,m',he,hR,hv,hm,hx',hl⟩=>⟨v,he,?_⟩
  rw[hd'];have hxr:=(hx x hR).1;have hold:∀b,b<w.heap.size→w'.heap[b]? = w.heap[b]?:=fun b hb=>(hx'.old b hb Gh.bare_mine).1
  let stab':Nat→Nat→Option SV:=fun b o=>if b<w.heap.size then G.stab b o else G'.stab b o
  have hg:∀b o v,G.stab b o=some v→stab' b o=some v:=fun b o v e=>by
   show(if b<w.heap.size then G.stab b o else G'.stab b o)=some v;rw[QYS (hlt b o v e)];exact e
  have hs':∀b o v,stab' b o=some v→rd w' b o v:=fun b o v e=>by
   simp only[stab']at e;split at e
   ·rename_i hb;exact JF (hold b hb) (hr.mr.stab b o v e)
   ·exact hm.stab b o v e
  have hmine:∀b,G.mine b→∀o,stab' b o=none:=fun b hb o=>by
   show(if b<w.heap.size then G.stab b o else G'.stab b o)=none;rw[QYS (hr.mr.mine hb).1];exact(hr.mr.mine hb).2 o
  have hmr:=hr.mr.kept hold hs' hg hmine;have hext:Ext 0 G w (G.with stab' hg) w':=Ext.bare hx'.os hx'.tape hx'.output hx'.size hold hg (fun b hb o=>QYS hb);have hv':Rep (G.with stab' hg) x v:=by
   rcases hor with hor|hor
   ·refine hv.rfd (fun b o u e=>?_) hxr;show(if b<w.heap.size then G.stab b o else G'.stab b o)=some u;split
    ·rename_i hb;have h1:=(hx'.old b hb Gh.bare_mine).2 o;rw[e]at h1;rw[←hor b hb o];exact h1.symm
    ·exact e
   ·exact Rep.plain (hor x hR) hxr hv
  exact hK _ _ _ w' (h x hR) ((hr.after hmr hext rfl).put hdN hv') (hext.mono (QYT _))
 by_cases hrfa:AV.rfL (fa++args.map (RA.ev st.f)++fb)=true
 ·refine key G.stab G.tab hr.mr.stab ?_ (.inl fun _ _ _=>rfl);exact RepL.rfd (G:=G) (G':=Gh.bare G.stab G.tab) (fun _ _ _ h=>h) hrf (W5 hrfa hvs ys hy)
 ·let S:Nat→Prop:=fun b=>∃l s,G.vm l s=some b
  have hst:=W3 hr.mr (own:=false) (S:=S) (fun l s b _ e=>⟨l,s,e⟩) (fun h=>by cases h) hvs ys hy;refine key (G.pub w S).stab (G.pub w S).tab (fun b o v e=>?_) (RepL.rfd (G:=G.pub w S) (G':=Gh.bare (G.pub w S).stab (G.pub w S).tab) (fun _ _ _ h=>h) hrf hst) (.inr fun x hR=>((hx x hR).2.resolve_left hrfa));by_cases hS:S b∧∀o,Jb b o=none
  ·rw[Gh.pub_c hS]at e;exact Bc e
  ·rw[Gh.pub_n hS]at e;exact hr.mr.stab b o v e

end

def XP (m:Qk)(s:Nat):Bool :=
 match Qh m 0 s with
 |.none=>true
 |_=>false

theorem Rel.freshO {G:Gh}{B N:Nat}{st:St}{a:Act}{w:World}(h:Rel G B N st a w)(s:Nat)(hno:XP st.m s=true){ob:Ob}{x:Obj}(hvar:ob.isVar=true)
  (hcells:∀l,ob=.cells l→∃cs t,x=.cells cs t∧Zr s t=true∧RepL G l cs.toList) (hiter:∀t p,ob=.iter t p→x=t.obj p) :
  Rel (G.fresh s w.heap.size) B N { st with m:=Am.put st.m 0 s ob } a (w.alloc x)∧Ext 1 G w (G.fresh s w.heap.size) (w.alloc x):=by
 have hlk:Qh st.m 0 s=.none:=by
  unfold XP at hno;split at hno
  ·assumption
  ·cases hno
 have hnm0:G.nm 0 s=none:=by
  cases hg:G.nm 0 s with
  |none=>rfl
  |some b=>obtain⟨hx,_⟩:=h.mr.nm 0 s b hg;rw[hlk]at hx;cases hx
 have hnew:Gle G (G.fresh s w.heap.size):=by
  refine⟨fun _ _ _ h=>h,fun l' t b e=>?_,fun _ _=>QYK _,fun _ _ _=>⟨rfl,rfl,rfl⟩⟩;show(if l'=0∧t=s then some w.heap.size else G.nm l' t)=some b;rw[QYR]
  ·exact e
  ·rintro⟨rfl,rfl⟩;rw[hnm0]at e;cases e
 have hold:∀k,k<w.heap.size→(w.alloc x).heap[k]? = w.heap[k]?:=fun k hk=>RowKit.Below.heap_alloc w _ k hk
 have hnm:∀l' s' b',(G.fresh s w.heap.size).nm l' s'=some b'→(l'=0∧s'=s∧b'=w.heap.size)∨(¬(l'=0∧s'=s)∧G.nm l' s'=some b'∧b'<w.heap.size):=by
  intro l' s' b' e;simp only[Gh.fresh]at e;split at e
  ·rename_i hh;cases e;exact .inl ⟨hh.1,hh.2,rfl⟩
  ·rename_i hh;exact .inr ⟨hh,e,(h.mr.mine (.inl ⟨_,_,e⟩)).1⟩
 have hvm:∀l' s' b',(G.fresh s w.heap.size).vm l' s'=some b'→¬(l'=0∧s'=s)∧G.vm l' s'=some b'∧b'<w.heap.size:=by
  intro l' s' b' e;have e:G.vm l' s'=some b':=e;refine⟨?_,e,(h.mr.mine (.inr ⟨_,_,e⟩)).1⟩;rintro⟨rfl,rfl⟩;obtain⟨⟨g,sz,xs,hx⟩,_⟩:=h.mr.vm 0 s' b' e;rw[hlk]at hx;cases hx
 have hst:∀o,G.stab w.heap.size o=none:=by
  intro o;cases hs:G.stab w.heap.size o with
  |none=>rfl
  |some v=>
   have:=YP (h.mr.stab _ _ _ hs);simp at this
 have hlook:∀l' s',¬(l'=0∧s'=s)→Qh (Am.put st.m 0 s ob) l' s'=Qh st.m l' s':=by
  intro l' s' hh;rw[QA (by omega)]
 have hlook0:Qh (Am.put st.m 0 s ob) 0 s=ob:=Qv (QZZ.2 h.ne);refine⟨⟨⟨?_,?_,?_,?_,?_,?_,?_,?_,?_,?_⟩,h.size,fun i=>(h.slots i).mono hnew,h.ds.mono hnew,?_,?_,J4 h.ne⟩,?_⟩
 ·intro b o v e;exact JF (hold b (YP (h.mr.stab b o v e))) (h.mr.stab b o v e)
 ·intro l' s' zs e;by_cases hh:l'=0∧s'=s
  ·obtain⟨rfl,rfl⟩:=hh;rw[hlook0]at e;obtain⟨cs,t,rfl,hty,hl⟩:=hcells zs e;exact⟨w.heap.size,cs,by simp[Gh.fresh],XH.new w cs t hty,hl.mono hnew⟩
  ·rw[hlook l' s' hh]at e;obtain⟨b',cs',e',hc,hr⟩:=h.mr.cells l' s' zs e;exact⟨b',cs',(QYR (t:=some w.heap.size) hh).trans e',hc.of (hold _ hc.lt),hr.mono (hnew.dn l')⟩
 ·intro l' s' b' e;rcases hnm l' s' b' e with⟨rfl,rfl,rfl⟩|⟨hh,e',hlt⟩
  ·exact⟨by rw[hlook0];exact hvar,hst⟩
  ·obtain⟨hz,h2⟩:=h.mr.nm l' s' b' e';refine⟨?_,h2⟩;rw[hlook l' s' hh];exact hz
 ·intro l' s' g sz zs e;by_cases hh:l'=0∧s'=s
  ·obtain⟨rfl,rfl⟩:=hh;rw[hlook0]at e;rw[e]at hvar;cases hvar
  ·rw[hlook l' s' hh]at e;obtain⟨a1,a2,a3,a4⟩:=h.mr.vec l' s' g sz zs e;refine⟨a1,a2,a3,a4.imp id fun⟨b',e',r⟩=>⟨b',e',r.of (hold _ ?_) fun vs hv=>RepL.rfd (G:=G) (G':=G.fresh s w.heap.size) (fun _ _ _ h=>h) a3.rf hv⟩⟩;exact(h.mr.mine (.inr ⟨_,_,e'⟩)).1
 ·intro l' s' b' e;obtain⟨hh,e',hlt⟩:=hvm l' s' b' e;obtain⟨⟨g,sz,zs,hz⟩,h2⟩:=h.mr.vm l' s' b' e';refine⟨?_,h2⟩;rw[hlook l' s' hh,hz];exact⟨_,_,_,rfl⟩
 ·intro l' s' e;by_cases hh:l'=0∧s'=s
  ·obtain⟨rfl,rfl⟩:=hh;exact h.mr.gone 0 s' (by rw[hlk];rfl)
  ·rw[hlook l' s' hh]at e;exact h.mr.gone l' s' e
 ·intro l1 s1 l2 s2 b' e1 e2;rcases hnm l1 s1 b' e1 with⟨rfl,rfl,rfl⟩|⟨hh,e',hlt⟩<;>rcases hnm l2 s2 _ e2 with⟨rfl,rfl,hb⟩|⟨hh2,e2',hlt2⟩
  ·exact⟨rfl,rfl⟩
  ·omega
  ·omega
  ·exact h.mr.inj1 _ _ _ _ _ e' e2'
 ·intro l1 s1 l2 s2 b' e1 e2;exact h.mr.inj2 _ _ _ _ _ (hvm _ _ _ e1).2.1 (hvm _ _ _ e2).2.1
 ·intro l1 s1 l2 s2 b' e1 e2;obtain⟨_,e2',hlt⟩:=hvm _ _ _ e2;rcases hnm l1 s1 b' e1 with⟨rfl,rfl,rfl⟩|⟨hh,e',_⟩
  ·omega
  ·exact h.mr.inj3 _ _ _ _ _ e' e2'
 ·intro l' s' t p e;by_cases hh:l'=0∧s'=s
  ·obtain⟨rfl,rfl⟩:=hh;rw[hlook0]at e;have hx:=hiter t p e;subst hx;exact⟨w.heap.size,by simp[Gh.fresh],heap_alloc_new w _⟩
  ·rw[hlook l' s' hh]at e;obtain⟨b',e',hc⟩:=h.mr.iter l' s' t p e;exact⟨b',(QYR (t:=some w.heap.size) hh).trans e',(hold _ (h.mr.mine (.inl ⟨_,_,e'⟩)).1).trans hc⟩
 ·intro s' b' e;rcases e with e|e
  ·rcases hnm 0 s' b' e with⟨_,_,rfl⟩|⟨_,e',_⟩
   ·exact h.top
   ·exact h.base s' b' (.inl e')
  ·exact h.base s' b' (.inr (hvm _ _ _ e).2.1)
 ·have:=h.top;simp;omega
 ·refine⟨rfl,rfl,rfl,by simp,fun _ _ _ h=>h,fun l' s' hl'=>?_,hnew.vg,hnew.vs,fun b hb _=>⟨hold b hb,fun _=>rfl⟩,fun b hb=>?_,fun l s _ h=>.inl ⟨l,s,QYK _,h⟩⟩
  ·simp only[Gh.fresh];rw[QYR (by omega)]
  ·rcases hb with⟨l',s',e⟩|⟨l',s',e⟩
   ·rcases hnm l' s' b e with⟨_,_,rfl⟩|⟨_,e',_⟩
    ·exact .inr (QYK _)
    ·exact .inl (.inl ⟨_,_,e'⟩)
   ·exact .inl (.inr ⟨_,_,(hvm _ _ _ e).2.1⟩)

theorem Rel.freshN {G:Gh}{B N:Nat}{st:St}{a:Act}{w:World}(h:Rel G B N st a w)(s:Nat)(hno:XP st.m s=true){l:List AV}{cs:Array Value}(hl:RepL G l cs.toList)(t:TypeId)(hty:Zr s t=true) :
  Rel (G.fresh s w.heap.size) B N { st with m:=Am.put st.m 0 s (.cells l) } a (w.alloc (.cells cs t))∧Ext 1 G w (G.fresh s w.heap.size) (w.alloc (.cells cs t)) :=
 h.freshO s hno rfl (fun _ e=>by cases e;exact⟨cs,t,rfl,hty,hl⟩) (fun _ _ e=>by cases e)

def Gh.drop (G:Gh)(s:Nat):Gh :=
 { G with nm:=fun l t=>if l=0∧t=s then none else G.nm l t }

def St.drop (st:St)(s:Nat):St :=
 { f:=fun i=>(st.f i).scrub s,m:=Am.put (K4 s st.m) 0 s .none,ds:=st.ds.map (DF.scrub s) }

theorem Rel.drop {G:Gh}{B N:Nat}{st:St}{a:Act}{w:World}(h:Rel G B N st a w)(s:Nat)(hrow:YQ st.m s=true) :
  Rel (G.drop s) B N (st.drop s) a w∧Ext 1 G w (G.drop s) w:=by
 have hnew:Gnew s G (G.drop s):=by
  refine⟨fun _ _ _ h=>h,fun l t b hh e=>?_,fun _ _=>QYK _,fun _ _ _=>⟨rfl,rfl,rfl⟩⟩;show(if l=0∧t=s then none else G.nm l t)=some b;rw[QYR (fun k=>hh k.1 k.2)];exact e
 have hdn:∀l,Gle (G.dn (l+1)) ((G.drop s).dn (l+1)):=fun l=>by
  refine⟨fun _ _ _ h=>h,fun i t b e=>?_,fun _ _=>QYK _,fun _ _ _=>⟨rfl,rfl,rfl⟩⟩;show(if i+(l+1)=0∧t=s then none else G.nm (i+(l+1)) t)=some b;rw[QYR (by omega)];exact e
 have hnm:∀l' s' b',(G.drop s).nm l' s'=some b'→¬(l'=0∧s'=s)∧G.nm l' s'=some b':=by
  intro l' s' b' e;have e:(if l'=0∧s'=s then none else G.nm l' s')=some b':=e;split at e
  ·cases e
  ·rename_i hh;exact⟨hh,e⟩
 have hlook:∀l' s',¬(l'=0∧s'=s)→Qh (st.drop s).m l' s'=if l'=0 then(Qh st.m l' s').scrub s else Qh st.m l' s':=by
  intro l' s' hh;show Qh (Am.put (K4 s st.m) 0 s _) l' s'=_;rw[QA (by omega)];cases l' with
  |zero=>rw[Gj];rfl
  |succ l'=>rw[Gk];rfl
 have hlook0:Qh (st.drop s).m 0 s=.none:=by
  show Qh (Am.put (K4 s st.m) 0 s _) 0 s=_;exact Qv (QZZ.2 (Fy h.ne))
 refine⟨⟨⟨h.mr.stab,?_,?_,?_,?_,?_,?_,h.mr.inj2,?_,?_⟩,h.size,fun i=>(h.slots i).scrub hnew,h.ds.scrub hnew,?_,h.top,J4 (Fy h.ne)⟩,?_⟩
 ·intro l' s' zs e;by_cases hh:l'=0∧s'=s
  ·obtain⟨rfl,rfl⟩:=hh;rw[hlook0]at e;cases e
  ·rw[hlook l' s' hh]at e;cases l' with
   |zero=>
    rw[QYS rfl]at e;obtain⟨ys,e1,rfl⟩:=Ob.scrub_cells e;obtain⟨b',cs',e',hc,hr⟩:=h.mr.cells 0 s' ys e1;exact⟨b',cs',(QYR (t:=none) hh).trans e',hc,hr.scrub hnew⟩
   |succ l'=>
    rw[QYR (by omega)]at e;obtain⟨b',cs',e',hc,hr⟩:=h.mr.cells (l'+1) s' zs e;exact⟨b',cs',(QYR (t:=none) hh).trans e',hc,hr.mono (hdn l')⟩
 ·intro l' s' b' e;obtain⟨hh,e'⟩:=hnm l' s' b' e;obtain⟨hz,h2⟩:=h.mr.nm l' s' b' e';refine⟨?_,h2⟩;rw[hlook l' s' hh];cases l' with
  |zero=>rw[QYS rfl,Ob.scrub_isVar];exact hz
  |succ l'=>rw[QYR (by omega)];exact hz
 ·intro l' s' g sz zs e;by_cases hh:l'=0∧s'=s
  ·obtain⟨rfl,rfl⟩:=hh;rw[hlook0]at e;cases e
  ·rw[hlook l' s' hh]at e;have e1:Qh st.m l' s'=.vec g sz zs:=by
    cases l' with
    |zero=>rw[QYS rfl]at e;exact Ob.scrub_vec e
    |succ l'=>rwa [QYR (by omega)]at e
   obtain⟨a1,a2,a3,a4⟩:=h.mr.vec l' s' g sz zs e1;exact⟨a1,a2,a3,a4.imp id fun⟨b',e',r⟩=>⟨b',e',r.of rfl fun vs hv=>RepL.rfd (G:=G) (G':=G.drop s) (fun _ _ _ h=>h) a3.rf hv⟩⟩
 ·intro l' s' b' e;obtain⟨⟨g,sz,zs,hz⟩,h2⟩:=h.mr.vm l' s' b' e;have hh:¬(l'=0∧s'=s):=by
   rintro⟨rfl,rfl⟩;simp[YQ,hz]at hrow
  refine⟨?_,h2⟩;rw[hlook l' s' hh,hz];cases l' with
  |zero=>exact⟨_,_,_,rfl⟩
  |succ l'=>exact⟨_,_,_,rfl⟩
 ·intro l' s' e;by_cases hh:l'=0∧s'=s
  ·obtain⟨rfl,rfl⟩:=hh;show G.vg 0 s'=0;refine h.mr.gone 0 s' ?_
   revert hrow
   unfold YQ;cases Qh st.m 0 s'<;>intro hrow<;>first|rfl|cases hrow
  ·rw[hlook l' s' hh]at e;refine h.mr.gone l' s' ?_;cases l' with
   |zero=>
    rw[QYS rfl]at e;cases hl':Qh st.m 0 s'<;>rw[hl']at e<;>first|rfl|cases e
   |succ l'=>rwa [QYR (by omega)]at e
 ·intro l1 s1 l2 s2 b' e1 e2;exact h.mr.inj1 _ _ _ _ _ (hnm _ _ _ e1).2 (hnm _ _ _ e2).2
 ·intro l1 s1 l2 s2 b' e1 e2;exact h.mr.inj3 _ _ _ _ _ (hnm _ _ _ e1).2 e2
 ·intro l' s' t p e;by_cases hh:l'=0∧s'=s
  ·obtain⟨rfl,rfl⟩:=hh;rw[hlook0]at e;cases e
  ·rw[hlook l' s' hh]at e;have e1:Qh st.m l' s'=.iter t p:=by
    cases l' with
    |zero=>rw[QYS rfl]at e;exact Ob.scrub_iter e
    |succ l'=>rwa [QYR (by omega)]at e
   obtain⟨b',e',hc⟩:=h.mr.iter l' s' t p e1;exact⟨b',(QYR (t:=none) hh).trans e',hc⟩
 ·intro s' b' e;rcases e with e|e
  ·exact h.base s' b' (.inl (hnm _ _ _ e).2)
  ·exact h.base s' b' (.inr e)
 ·refine⟨rfl,rfl,rfl,QYK _,fun _ _ _ h=>h,fun l' s' hl'=>?_,hnew.vg,hnew.vs,fun b hb _=>⟨rfl,fun _=>rfl⟩,fun b hb=>?_,fun l s _ h=>.inl ⟨l,s,QYK _,h⟩⟩
  ·show(if l'=0∧s'=s then none else G.nm l' s')=G.nm l' s';rw[QYR (by omega)]
  ·rcases hb with⟨l',s',e⟩|⟨l',s',e⟩
   ·exact .inl (.inl ⟨_,_,(hnm _ _ _ e).2⟩)
   ·exact .inl (.inr ⟨_,_,e⟩)

section
variable {P:Program}{N:Nat}{st:St}{Q:St→Prop}

theorem QB.allocN {d:Option Nat}{s:Nat}{z:List AV}{Qg:List Item}(hn:XP st.m s=true)(h:QB P N Qg { st with m:=Am.put st.m 0 s (.cells z),f:=Qn st.f d (.ptr 0 s 0) } Q):QB P N (⟨d,.allocN s z,none⟩ :: Qg) st Q:=by
 refine QB.step rfl fun G B a w o hr hd hdN hc K QQ hK=>?_
 cases ho:o.op<;>rw[ho]at hc<;>simp only[Zf,QY3]at hc;rename_i e;split at hc
 ·rename_i i hi;split at hc
  ·rename_i zv hz;rw[QY7]at hc;obtain⟨hr',he⟩:=hr.freshN s hn (l:=z) (cs:=zv.cells) (isCL_ok hc.1) e hc.2;have hrun:(execOp a.eval o).run P w=.ok (.value (.pointer (some ⟨w.heap.size,0,none⟩))) (w.alloc (.cells zv.cells e)):=by
    simp only[execOp,ho,Instr.alloc,zeroValue,typeInfo,Sem.run_bind,run_program,Result.andThen_ok,hi,Sem.run_pure,hz,newVar,newRow,run_newObj];rfl
   unfold Oper.wp;rw[hrun];have hd':o.dst=d:=hd;show K (a.put o.dst _) _;rw[hd'];refine hK _ _ _ _ h (hr'.put hdN (.ptr ?_)) he;show(if (0:Nat)=0∧s=s then some w.heap.size else G.nm 0 s)=some w.heap.size;simp
  ·cases hc
 ·cases hc

theorem QB.boxN {d:Option Nat}{s:Nat}{r:RA}{Qg:List Item}(hn:XP st.m s=true)(hl:(r.ev st.f).cells.all AV.leaf=true)(h:QB P N Qg { st with m:=Am.put st.m 0 s (.cells (r.ev st.f).cells),f:=Qn st.f d (.ptr 0 s 0) } Q) :
  QB P N (⟨d,.boxN s r,none⟩ :: Qg) st Q:=by
 refine QB.step rfl fun G B a w o hr hd hdN hc K QQ hK=>?_
 cases ho:o.op<;>rw[ho]at hc<;>simp only[Zf,QY3]at hc;rename_i e x;rw[QY7]at hc;obtain⟨hr',he⟩:=hr.freshN s hn ((Qu hr hc.1).cells hl) e hc.2;have hrun:(execOp a.eval o).run P w=.ok (.value (.pointer (some ⟨w.heap.size,0,none⟩))) (w.alloc (.cells (a.eval x).cells e)):=by
  simp only[execOp,ho,Instr.box,newVar,newRow,Sem.run_bind,run_newObj,Result.andThen_ok,Sem.run_pure];rfl
 unfold Oper.wp;rw[hrun];have hd':o.dst=d:=hd;show K (a.put o.dst _) _;rw[hd'];refine hK _ _ _ _ h (hr'.put hdN (.ptr ?_)) he;show(if (0:Nat)=0∧s=s then some w.heap.size else G.nm 0 s)=some w.heap.size;simp

end

def Jc (sz:Nat):Nat→List AV→List AV
 |0,_=>[]
 |n+1,y=>(if sz=1 then y.headD .top else .agg (y.take sz)) :: Jc sz n (y.drop sz)

def Jd (z:List AV)(sz len:Nat):List AV:=(List.range (len*sz)).map fun i=>(z[i % sz]?).getD .top

theorem BF (sz n:Nat)(y:List AV):(Jc sz n y).length=n:=by
 induction n generalizing y with
 |zero=>rfl
 |succ n ih=>simp[Jc,ih]

theorem AV.leaf_cells {x:AV}(h:x.leaf=true):x.cells=[x]:=by
 cases x<;>first|rfl|cases h

theorem ME (sz n:Nat)(y:List AV)(hl:y.length=n*sz)(hy:y.all AV.leaf=true):QP (Jc sz n y)=y:=by
 induction n generalizing y with
 |zero=>
  have:y=[]:=QZK (by simpa using hl);subst this;rfl
 |succ n ih=>
  have hd:(y.drop sz).length=n*sz:=by rw[QZr,hl,QZk,Nat.one_mul];omega
  have hld:(y.drop sz).all AV.leaf=true:=XL hy fun x hx=>QZv hx
  rw[Jc,XM,ih _ hd hld];split
  ·rename_i h1;subst h1;cases y with
   |nil=>simp at hl
   |cons x y=>
    have:x.leaf=true:=by simp only[QZS,QY7]at hy;exact hy.1
    simp[AV.leaf_cells this]
  ·exact QZV sz y

theorem MG (sz n:Nat)(y:List AV)(hl:y.length=n*sz)(hy:y.all AV.leaf=true):∀x∈Jc sz n y,x.cells.length=sz:=by
 induction n generalizing y with
 |zero=>intro x hx;cases hx
 |succ n ih=>
  have hd:(y.drop sz).length=n*sz:=by rw[QZr,hl,QZk,Nat.one_mul];omega
  have hld:(y.drop sz).all AV.leaf=true:=XL hy fun x hx=>QZv hx
  intro x hx;rw[Jc]at hx;rcases QZ0.1 hx with rfl|hx
  ·split
   ·rename_i h1;subst h1;cases y with
    |nil=>simp at hl
    |cons x y=>
     have:x.leaf=true:=by simp only[QZS,QY7]at hy;exact hy.1
     simp[AV.leaf_cells this]
   ·show(y.take sz).length=sz;rw[QZC,hl,QZk,Nat.one_mul];omega
  ·exact ih _ hd hld x hx

theorem Hs {f:Fr}:∀ {ps:List (Nat×Nat×RA)} {z y:List AV},fill f ps z=some y→y.length=z.length
 | [],z,y,h=>by cases h;rfl
 |(o,n,r) :: ps,z,y,h=>by
  simp only[fill]at h;split at h
  ·rename_i hh;rw[Hs h,Uh (by omega)]
  ·cases h

section
variable {P:Program}{G:Gh}{B N:Nat}{st:St}{a:Act}{w:World}

theorem BG (h:Rel G B N st a w){sz:Nat}:∀ {xs:List (Nat×Operand)} {rs:List (Nat×Nat×RA)} {z y:List AV} {cs:Array Value},KQ sz xs rs=true→RepL G z cs.toList→fill st.f rs z=some y→
  ∃cs',Instr.fill (fun i=>some (i*sz,sz)) cs (xs.map fun(i,x)=>(i,a.eval x))=some cs'∧RepL G y cs'.toList
 | [],[],z,y,cs,_,hz,hf=>by cases hf;exact⟨cs,rfl,hz⟩
 |(i,x) :: xs,(o,n,r) :: rs,z,y,cs,hc,hz,hf=>by
  simp only[KQ,QY7,QY8]at hc;simp only[fill]at hf;obtain⟨⟨⟨rfl,rfl⟩,hca⟩,hc⟩:=hc;split at hf
  ·rename_i hh;obtain⟨h1,h2,h3⟩:=hh;have hr:=(Qu h hca).cells h3;have hl:=hr.length;have hzl:=hz.length;simp only[QZf]at hl hzl;have hfold:=Kz (i*n) (a.eval x).cells.toList 0 cs (by simp only[QZf];omega);simp only[QZg]at hfold;have hsz:((a.eval x).cells.zipIdx.foldl (fun cs (c,j)=>cs.setIfInBounds (i*n+j) c) cs).toList=cs.toList.take (i*n)++(a.eval x).cells.toList++cs.toList.drop (i*n+(a.eval x).cells.toList.length):=by
    rw[←hfold,←Array.foldl_toList,Array.toList_zipIdx]
   obtain⟨cs',h4,h5⟩:=BG h (cs:=(a.eval x).cells.zipIdx.foldl (fun cs (c,j)=>cs.setIfInBounds (i*n+j) c) cs) hc (by rw[hsz];exact hz.splice hr (i*n)) hf;refine⟨cs',?_,h5⟩;simp only[QZh,Instr.fill];rw[QYR (by simp;omega)];exact h4
  ·cases hf
 | [],_ :: _,_,_,_,hc,_,_=>by simp[KQ]at hc
 |_ :: _,[],_,_,_,hc,_,_=>by simp[KQ]at hc

end

def nn0:AV→AV
 |.nils=>.list []
 |x=>x

theorem Rep.nn0 {G:Gh}{x:AV}{v:Value}(h:Rep G x v):Rep G (nn0 x) v:=by
 unfold Am.nn0;split
 ·cases h;exact .list (sz:=0) (cs:=[]) .nil (by simp) rfl rfl (by simp) rfl (QYK _) (QYT _)
 ·exact h

theorem RepL.nn0 {G:Gh}:∀ {l:List AV} {vs:List Value},RepL G l vs→RepL G (l.map nn0) vs
 | [],_,h=>h
 |_ :: _,_,h=>by
  cases h with
  |cons h t=>exact .cons h.nn0 t.nn0

theorem Qgk {x:AV}(h:x.rf=true):(nn0 x).rf=true:=by
 unfold Am.nn0;split
 ·rfl
 ·exact h
theorem A2 {x:AV}(h:x.leaf=true):(nn0 x).leaf=true:=by
 unfold Am.nn0;split
 ·rfl
 ·exact h
theorem V4:∀ {l:List AV},AV.rfL l=true→AV.rfL (l.map nn0)=true
 | [],_=>rfl
 |x :: l,h=>by
  simp only[AV.rfL,QY7]at h;simp only[QZh,AV.rfL,QY7];exact⟨Qgk h.1,V4 h.2⟩
theorem QbL {l:List AV}(h:l.all AV.leaf=true):(l.map nn0).all AV.leaf=true:=by
 rw[QYX]at h ⊢;intro x hx;obtain⟨y,hy,rfl⟩:=QZ1.1 hx;exact A2 (h y hy)

section
variable {P:Program}{N:Nat}{st:St}{Q:St→Prop}

theorem QB.bsl {d:Option Nat}{sz len:Nat}{z:List AV}{ps:List (Nat×Nat×RA)}{Qg:List Item}{y:List AV}(hy:fill st.f ps (Jd z sz len)=some y)(hf:AV.rfL y=true)(hl:y.all AV.leaf=true)
  (h:QB P N Qg { st with f:=Qn st.f d (.list (Jc sz len (y.map nn0))) } Q):QB P N (⟨d,.bsl sz len z ps,none⟩ :: Qg) st Q:=by
 refine QB.step rfl fun G B a w o hr hd hdN hc K QQ hK=>?_
 cases ho:o.op<;>rw[ho]at hc<;>simp only[Zf,QY3,QY7,QY8,QZc,QZ2]at hc;rename_i t n Qm;obtain⟨⟨⟨⟨⟨rfl,hbig⟩,hsz0⟩,hlen0⟩,hty⟩,hps⟩:=hc;cases hu:P.underlying t with
 |none=>simp[hu]at hty
 |some dd=>
  cases dd with
  |slice e=>
   simp only[hu,QZF,QY7,QY8]at hty;obtain⟨i,hi,rfl,hz⟩:=hty;cases hzv:i.zero with
   |none=>rw[hzv]at hz;cases hz
   |some zv=>
    rw[hzv]at hz;simp only[QY7,QY8]at hz;have rz:RepL G z zv.cells.toList:=isCL_ok hz.1;have hzl:zv.cells.size=i.size:=by
     have:=rz.length;simp only[QZf]at this;omega
    have r0:RepL G (Jd z i.size n) ((Array.range (n*i.size)).map (zv.cells[· % zv.cells.size]!)).toList:=by
     refine RepL.of_all (by simp[Jd]) fun j x v hx hv=>?_
     simp only[Jd,QZ3]at hx;simp only[Array.toList_map,Array.toList_range,QZ3]at hv;by_cases hj:j<n*i.size
     ·rw[List.getElem?_range hj]at hx hv;simp only[QZa,QZb]at hx hv;have hm:j % i.size<i.size:=Nat.mod_lt _ (by omega);obtain⟨u,hu1,hu2⟩:=rz.at_ (i:=j % i.size) (QYN (by omega));rw[QYN (by omega)]at hx;simp only[QZQ]at hx;subst hx;rw[hzl]at hv;rw[QZd]at hu1;rw[Array.getElem!_eq_getD,QYU,hu1]at hv;simp only[QZQ]at hv;subst hv;exact hu2
     ·rw[QZ4 (by simp;omega)]at hx;cases hx
    obtain⟨cs,hfill,hrep0⟩:=BG hr hps r0 hy;have hrep:=hrep0.nn0;have hf:=V4 hf;have hl:=QbL hl;have hyl:(y.map nn0).length=n*i.size:=by rw[QZ5,Hs hy];simp[Jd]
    have hne:n*i.size≠0:=Nat.mul_ne_zero hlen0 hsz0;have hrun:(execOp a.eval o).run P w=.ok (.value (.slice (some ⟨w.heap.size,0,none⟩) n n)) (w.alloc (.cells cs e)):=by
     have e2:(Qm.map fun(x:Nat×Operand)=>(x.1,a.eval x.2)).toList=Qm.toList.map fun x=>(x.1,a.eval x.2):=by simp
     simp only[execOp,ho,Instr.buildSlice,Sem.run_bind,run_underlying hu,Result.andThen_ok,Xz hi];rw[QYR (by omega),QYR hne];simp only[Sem.run_bind,Sem.run_pure,Result.andThen_ok,zeroValue,typeInfo,run_program,hi,hzv,e2,hfill,newRow,run_newObj];rfl
    let stab':Nat→Nat→Option SV:=fun b k=>if b=w.heap.size then(cs[k]?).map .cell else G.stab b k
    have hlt:∀b k v,G.stab b k=some v→b<w.heap.size:=fun b k v e=>YP (hr.mr.stab b k v e)
    have hold:∀b,b<w.heap.size→(w.alloc (.cells cs e)).heap[b]? = w.heap[b]?:=fun b hb=>RowKit.Below.heap_alloc w _ b hb
    have hg:∀b k v,G.stab b k=some v→stab' b k=some v:=fun b k v e=>by
     have:=hlt b k v e;show(if b=w.heap.size then(cs[k]?).map .cell else G.stab b k)=some v;rw[QYR (by omega)];exact e
    have hs:∀b k v,stab' b k=some v→rd (w.alloc (.cells cs e)) b k v:=fun b k v e'=>by
     by_cases hb:b=w.heap.size
     ·subst hb;have e2:(cs[k]?).map SV.cell=some v:=(QYS rfl).symm.trans e';cases hk:cs[k]? with
      |none=>rw[hk]at e2;cases e2
      |some u=>
       rw[hk]at e2;cases e2;show World.cell? _ _=some u;rw[(XH.new (s:=0) w cs e rfl).cell];exact hk
     ·have e2:G.stab b k=some v:=(QYR hb).symm.trans e';exact JF (hold b (hlt b k v e2)) (hr.mr.stab b k v e2)
    have hm:∀b,G.mine b→∀k,stab' b k=none:=fun b hb k=>by
     have:=(hr.mr.mine hb).1;show(if b=w.heap.size then(cs[k]?).map .cell else G.stab b k)=none;rw[QYR (by omega)];exact(hr.mr.mine hb).2 k
    have hmr:=hr.mr.kept hold hs hg hm;have hext:Ext 0 G w (G.with stab' hg) (w.alloc (.cells cs e)):=Ext.bare (w:=w) (w':=w.alloc (.cells cs e)) (stab':=stab') rfl rfl rfl (by simp) hold hg fun b hb k=>QYR (Nat.ne_of_lt hb)
    unfold Oper.wp;rw[hrun];have hd':o.dst=d:=hd;show K (a.put o.dst _) _;rw[hd'];refine hK _ _ _ _ h ((hr.after hmr hext rfl).put hdN ?_) (hext.mono (QYT _));have hfl:=ME i.size n _ hyl hl;refine .list (cs:=cs.toList) (sz:=i.size) ?_ (MG i.size n _ hyl hl) (by rw[hfl];exact hf) (by rw[hfl];exact hl) (fun j u hu'=>?_) (BF i.size n _).symm (QYK _) ?_
    ·rw[hfl];exact hrep.mono hext.gle
    ·refine⟨w.heap.size,0,rfl,?_⟩;show(if w.heap.size=w.heap.size then(cs[0+j]?).map SV.cell else _)=some (SV.cell u);rw[QYS rfl,QY9];have hu2:cs[j]? = some u:=by simpa using hu'
     rw[hu2];rfl
    ·have:n≤n*i.size:=Nat.le_mul_of_pos_right n (by omega);simp only[maxLen];omega
  |_=>simp[hu]at hty

theorem QB.bsl0 {d:Option Nat}{site sz:Nat}{Qg:List Item}(hro:QI (Qh st.m 0 site)=true)
  (h:QB P N Qg { st with m:=Am.put st.m 0 site (.vec (QK st.m 0 site) sz []),f:=Qn st.f d (.vec 0 site (QK st.m 0 site) 0 0 false) } Q):QB P N (⟨d,.bsl0 site sz,none⟩ :: Qg) st Q:=by
 refine QB.step rfl fun G B a w o hr hd hdN hc K QQ hK=>?_
 cases ho:o.op<;>rw[ho]at hc<;>simp only[Zf,QY3,QY7,QY8]at hc;rename_i t n Qm;obtain⟨⟨rfl,hpe⟩,hty⟩:=hc;have hpe':Qm = #[]:=Array.isEmpty_iff.1 hpe;subst hpe';cases hu:P.underlying t with
 |none=>simp[hu]at hty
 |some dd=>
  cases dd with
  |slice e=>
   simp only[hu,QZF,QY7,QY8]at hty;obtain⟨⟨i,hi,rfl⟩,hte⟩:=hty;have hrun:(execOp a.eval o).run P w=.ok (.value (.slice (some ⟨w.heap.size,0,none⟩) 0 0)) (w.alloc (.cells #[] e)):=by
    have e0:Array.range 0 = #[]:=rfl;simp[execOp,ho,Instr.buildSlice,Sem.run_bind,run_underlying hu,Result.andThen_ok,Xz hi,Instr.fill,newRow,e0]
   have hrow:RowIs G site (w.alloc (.cells #[] e)) w.heap.size 0 i.size []:=⟨⟨#[],XH.new w _ e hte,by simp,by simp[QP];exact .nil⟩,QYK _,QYT _⟩;have hels:Elems i.size []:=⟨by simp,rfl,rfl⟩;have hgl:=K5 hr.mr hro;have hl0:0<st.m.length:=QZZ.2 hr.ne;obtain⟨hr',he⟩:=hr.vecput (w':=w.alloc (.cells #[] e)) (cap:=0) (b:=some w.heap.size) hl0 hro hgl rfl rfl rfl (by simp) (fun k hk _=>RowKit.Below.heap_alloc w _ k hk) (fun k e=>by cases e;exact .inr (QYK _)) hels (.inr ⟨_,rfl,hrow⟩);unfold Oper.wp;rw[hrun];have hd':o.dst=d:=hd;show K (a.put o.dst _) _;rw[hd'];exact hK _ _ _ _ h (hr'.put hdN (.vec rfl (QZu (by simp[Gh.row])) fun _=>.inr ⟨w.heap.size,⟨w.heap.size,0,none⟩,0,by simp[Gh.row],by simp[Gh.row],rfl,QYK _,QYT _,fun _=>by simp[Gh.row],fun _=>by simp⟩)) he
  |_=>simp[hu]at hty

theorem Uk {w:World}{t e:TypeId}(hu:P.underlying t=some (.slice e))(A:Option Addr)(n c:Nat):(binOp .eql t (.slice A n c) (.slice none 0 0)).run P w=.ok (.bool A.isNone) w∧(binOp .neq t (.slice A n c) (.slice none 0 0)).run P w=.ok (.bool (!A.isNone)) w:=by
 have h:∀d:Nat,(Op.equalIn (d+1) t (.slice A n c) (.slice none 0 0)).run P w=.ok A.isNone w:=fun d=>by
  cases A<;>simp[Op.equalIn,run_underlying hu]
 simp only[binOp]
 constructor<;>simp[Op.equal,Op.maxDepth,h 9999]

theorem QB.isnil {d:Option Nat}{neg:Bool}{r:RA}{Qg:List Item}{ys:List AV}(hx:Zd st.m (r.ev st.f)=some ys)
  (h0:r.ev st.f≠.nils→QB P N Qg { st with f:=Qn st.f d (.bool neg) } Q) (h1:(r.ev st.f=.nils∨QP ys=[])→QB P N Qg { st with f:=Qn st.f d (.bool (!neg)) } Q):QB P N (⟨d,.isnil neg r,none⟩ :: Qg) st Q:=by
 refine QB.step rfl fun G B a w o hr hd hdN hc K QQ hK=>?_
 cases ho:o.op<;>rw[ho]at hc<;>simp only[Zf,QY3,QY7,QY8]at hc;rename_i b t x y yt;obtain⟨⟨⟨hty,rfl⟩,hcx⟩,hcy⟩:=hc;have hrx:=Qu hr hcx;obtain⟨A,c,hv,sz,cs,hrep,_,hcell⟩:=Gs hr hx hrx;have hry:=Qu hr hcy;have hyv:a.eval y=.slice none 0 0:=by
  revert hry
  generalize a.eval y=u;intro hry;have hry:Rep G .nils u:=hry;cases hry;rfl
 split at hty
 case h_2=>cases hty
 rename_i e hu;have hd':o.dst=d:=hd;have hguard:(eqGuard (bif neg then .neq else .eql) t x y (a.eval x) (a.eval y)).run P w=.ok () w:=by
  rw[hv,hyv];cases neg<;>simp[eqGuard]
 have fin:∀q:Bool,QB P N Qg { st with f:=Qn st.f d (.bool q) } Q→(binOp (bif neg then .neq else .eql) t (a.eval x) (a.eval y)).run P w=.ok (.bool q) w→o.wp P a w K QQ:=by
  intro q hq hrun;have hexec:(execOp a.eval o).run P w=.ok (.value (.bool q)) w:=by
   simp only[execOp,ho,Sem.run_bind,hguard,hrun,Result.andThen_ok];rfl
  unfold Oper.wp;rw[hexec];show K (a.put o.dst _) w;rw[hd'];exact hK _ _ _ _ hq (hr.put hdN (.bool _)) (Ext.refl 1 G w)
 have key:(binOp (bif neg then .neq else .eql) t (a.eval x) (a.eval y)).run P w=.ok (.bool (bif A.isNone then !neg else neg)) w:=by
  rw[hv,hyv];cases neg
  ·rw[show(bif false then BinOp.neq else .eql)=.eql from rfl,(Uk hu A _ _).1];cases A<;>rfl
  ·rw[show(bif true then BinOp.neq else .eql)=.neq from rfl,(Uk hu A _ _).2];cases A<;>rfl
 cases A with
 |none=>
  refine fin _ (h1 (.inr ?_)) key;have hcs:cs=[]:=by
   cases cs with
   |nil=>rfl
   |cons u cs=>
    obtain⟨b,o,e,_⟩:=hcell 0 u rfl;cases e
  subst hcs;cases hf:QP ys with
  |nil=>rfl
  |cons z zs=>rw[hf]at hrep;cases hrep
 |some A=>
  refine fin _ (h0 fun e=>?_) key;rw[e]at hrx;rw[hv]at hrx;cases hrx

theorem BV.zero {y:Operand}(h:isZ y=true)(a:Act)(d:Nat):BV (some (a.eval y)) d 0:=by
 unfold isZ at h;split at h
 ·rename_i k n;simp only[QY8]at h;subst h;exact .inr ⟨k,0,rfl,Int.le_refl _,rfl⟩
 ·cases h

end

def X6 (sz:Nat)(z:List AV):AV:=if sz=1 then z.headD .top else .agg z

theorem Ht {sz:Nat}{z:List AV}(hz:z.length=sz)(hl:z.all AV.leaf=true):(X6 sz z).cells=z:=by
 unfold X6;split
 ·rename_i h;subst h
  match z,hz with
  | [x],_=>
   show x.cells=[x];exact AV.leaf_cells (by simpa using hl)
 ·rfl

theorem ZY {sz:Nat}{z:List AV}(hz:z.length=sz)(hl:z.all AV.leaf=true):∀(n:Nat),QP (List.replicate n (X6 sz z))=(List.replicate n z).flatten
 |0=>rfl
 |n+1=>by
  rw[List.replicate_succ,XM,Ht hz hl,ZY hz hl n];rfl

theorem YU {z:List AV}(hz:z.length≠0):∀(n j:Nat),j<n*z.length→(List.replicate n z).flatten[j]? = z[j % z.length]?
 |0,j,h=>by omega
 |n+1,j,h=>by
  rw[List.replicate_succ,List.flatten_cons];by_cases hj:j<z.length
  ·rw[QZ6 hj,Nat.mod_eq_of_lt hj]
  ·rw[QZ7 (by omega),YU hz n (j-z.length) (by rw[Nat.succ_mul]at h;omega)];rw[←Nat.mod_eq_sub_mod (by omega)]

theorem KJ {sz:Nat}{z:List AV}(hz:z.length=sz)(hf:AV.rfL z=true)(hl:z.all AV.leaf=true)(n:Nat):Elems sz (List.replicate n (X6 sz z)):=by
 refine⟨fun x hx=>?_,?_,?_⟩
 ·rw[(List.mem_replicate.1 hx).2,Ht hz hl,hz]
 ·rw[ZY hz hl];rw[V1]at hf ⊢;rw[QYX]at hf ⊢;intro x hx;obtain⟨l,h1,h2⟩:=List.mem_flatten.1 hx;rw[(List.mem_replicate.1 h1).2]at h2;exact hf x h2
 ·rw[ZY hz hl];rw[QYX]at hl ⊢;intro x hx;obtain⟨l,h1,h2⟩:=List.mem_flatten.1 hx;rw[(List.mem_replicate.1 h1).2]at h2;exact hl x h2

section
variable {P:Program}{N:Nat}{st:St}{Q:St→Prop}

theorem A3 {G:Gh}{z:List AV}{zs:Array Value}{sz:Nat}(rz:RepL G z zs.toList)(hz:z.length=sz)(h0:sz≠0)(hlf:z.all AV.leaf=true)(n:Nat):RepL G (QP (List.replicate n (X6 sz z))) (Builtin.zeroCells zs n).toList:=by
 have hzl:zs.size=sz:=by
  have:=rz.length;simp only[QZf]at this;omega
 rw[ZY hz hlf];have hfl:((List.replicate n z).flatten).length=n*sz:=by simp[hz]
 refine RepL.of_all (by rw[hfl,QZf,size_zeroCells,hzl]) fun j u v hju hjv=>?_
 have hj:j<n*sz:=by
  rw[←hfl];exact(QYM.1 hju).1
 rw[YU (by rw[hz];exact h0) n j (by rw[hz];exact hj),hz]at hju;obtain⟨v',hv',hrep⟩:=rz.at_ hju;have:v=v':=by
  simp only[Builtin.zeroCells,Array.toList_map,Array.toList_range,QZ3]at hjv;rw[List.getElem?_range (by rw[hzl];exact hj)]at hjv;simp only[QZa,QZb]at hjv;rw[hzl]at hjv;rw[QZd]at hv';rw[Array.getElem!_eq_getD,QYU,hv']at hjv;simp only[QZQ]at hjv;exact hjv.symm
 rw[this];exact hrep

theorem QB.clr {d:Option Nat}{sz:Nat}{z:List AV}{r:RA}{Qg:List Item}{l s g o n:Nat}{q:Bool}{xs:List AV}(hr0:r.ev st.f=.vec l s g o n q)(hlk:Qh st.m l s=.vec g sz xs)(hon:o+n≤xs.length)(hn:0<n)
  (h:QB P N Qg { st with m:=Am.put st.m l s (.vec g sz (xs.take o++List.replicate n (X6 sz z)++xs.drop (o+n))),f:=Qn st.f d (.tup []) } Q):QB P N (⟨d,.clr sz z r,none⟩ :: Qg) st Q:=by
 refine QB.step rfl fun G B a w op hr hd hdN hc K QQ hK=>?_
 cases ho:op.op<;>rw[ho]at hc<;>simp only[Zf,QY3]at hc;rename_i cl;split at hc
 case h_2=>cases hc
 rename_i o1 x t o2;cases o2;simp only[QY7]at hc;obtain⟨hty,hcr⟩:=hc;cases hu:P.underlying t with
 |none=>simp[hu]at hty
 |some dd=>
  cases dd with
  |slice e=>
   simp only[hu,QY7,QZF,QZc,QY8]at hty;obtain⟨⟨⟨⟨i,hi,⟨rfl,hz⟩⟩,hsz0⟩,hrf⟩,hlf⟩:=hty;cases hzv:i.zero with
   |none=>rw[hzv]at hz;cases hz
   |some zv=>
    rw[hzv]at hz;simp only[QY7,QY8]at hz;have rx:=Qu hr hcr;rw[hr0]at rx;obtain⟨e1,e2,e3,e4⟩:=hr.mr.vec l s g i.size xs hlk;have rz:RepL G z zv.cells.toList:=isCL_ok hz.1;have hzl:zv.cells.size=i.size:=by
     have:=rz.length;simp only[QZf]at this;omega
    generalize hv:a.eval x=v at rx;cases rx with
    |vec hv1 hg hh=>
     rcases hh e1.symm with⟨_,_,hn0,_⟩|⟨b,A,c,hb,hoc,rfl,hnc,hcm,_,hA⟩
     ·omega
     have hA:=hA ⟨by omega,.inr hn⟩;subst hA;rw[e2]at hv;rcases e4 with⟨e4,_⟩|⟨b',e4,hrow⟩
     ·rw[hb]at e4;cases e4
     ·rw[hb]at e4;cases e4;obtain⟨⟨cur,hsoft,hcs,hrep⟩,hle,hmax⟩:=hrow;have rep0:=A3 rz hz.2 hsz0 hlf n;have hel0:=KJ hz.2 hrf hlf n;have hls:(Builtin.zeroCells zv.cells n).toList.length=n*i.size:=by rw[QZf,size_zeroCells,hzl]
      have hbig:o*i.size+n*i.size≤xs.length*i.size:=by rw[←QZk];exact QZL _ hon
      have hbig2:xs.length*i.size≤cur.size:=by rw[hcs];exact QZL _ hle
      obtain⟨w',hst,hs',htn⟩:=X7 P s b (o*i.size) (Builtin.zeroCells zv.cells n).toList 0 w cur hsoft (by omega) (rep0.leaves hel0.leaf);have hrun:(Builtin.clear_ #[t] op.type #[a.eval x]).run P w=.ok (.tuple #[]) w':=by
       cases n with
       |zero=>omega
       |succ n=>simp only[Builtin.clear_,hv,List.getElem?_toArray,QZH,Sem.run_bind,run_underlying hu,Result.andThen_ok,Sem.run_pure,zeroValue,typeInfo,run_program,hi,hzv,hst]
      have hexec:(execOp a.eval op).run P w=.ok (.value (.tuple #[])) w':=by
       simp only[execOp,ho,resolve,invoke,builtin,Sem.run_bind,Sem.run_pure,Result.andThen_ok,List.map_toArray,QZh,QZG,hrun]
      have hfl:QP (xs.take o++List.replicate n (X6 i.size z)++xs.drop (o+n))=(QP xs).take (o*i.size)++QP (List.replicate n (X6 i.size z))++(QP xs).drop (o*i.size+n*i.size):=by
       rw[J5,J5,JG e3.size,←QZk,ZI e3.size]
      have hxl:(xs.take o++List.replicate n (X6 i.size z)++xs.drop (o+n)).length=xs.length:=by simp;omega
      have hels:Elems i.size (xs.take o++List.replicate n (X6 i.size z)++xs.drop (o+n)):=by
       refine⟨fun y hy=>?_,?_,?_⟩
       ·rcases QZX.1 hy with hy|hy
        ·rcases QZX.1 hy with hy|hy
         ·exact e3.size y (QZw hy)
         ·exact hel0.size y hy
        ·exact e3.size y (QZv hy)
       ·rw[hfl];simp only[KA,QY7];exact⟨⟨ZG e3.rf fun y hy=>QZw hy,hel0.rf⟩,ZG e3.rf fun y hy=>QZv hy⟩
       ·rw[hfl];simp only[QZW,QY7];exact⟨⟨XL e3.leaf fun y hy=>QZw hy,hel0.leaf⟩,XL e3.leaf fun y hy=>QZv hy⟩
      have hr':Rel G B N { st with m:=Am.put st.m l s (.vec g i.size (xs.take o++List.replicate n (X6 i.size z)++xs.drop (o+n))) } a w':=by
       refine⟨?_,hr.size,hr.slots,hr.ds,hr.base,by rw[htn.size];exact hr.top,J4 hr.ne⟩;refine hr.mr.rowset hlk hb htn hels ⟨⟨_,hs',?_,?_⟩,by rw[hxl];exact hle,hmax⟩
       ·simp only[List.size_toArray,QZn,QZC,QZr,QZf,hls];rw[QZf]at hls;omega
       ·rw[hfl,hxl];have h6:(cur.toList.take (o*i.size+0)++(Builtin.zeroCells zv.cells n).toList++cur.toList.drop (o*i.size+0+(Builtin.zeroCells zv.cells n).toList.length)).toArray.toList.take (xs.length*i.size)=(cur.toList.take (xs.length*i.size)).take (o*i.size)++(Builtin.zeroCells zv.cells n).toList++(cur.toList.take (xs.length*i.size)).drop (o*i.size+(Builtin.zeroCells zv.cells n).toList.length):=by
         simp only[QZg];exact Hq _ _ _ _ (by omega) (by simp only[QZf];omega)
        rw[h6,hls];exact((hrep.take _).append rep0).append (hrep.drop _)
      unfold Oper.wp;rw[hexec];have hd':op.dst=d:=hd;show K (a.put op.dst _) _;rw[hd'];exact hK _ _ _ _ h (hr'.put hdN (.tup .nil)) (Ext.turned htn (.inr ⟨l,s,hb⟩))
  |_=>simp[hu]at hty

theorem QB.mk {d:Option Nat}{site el sz bytes:Nat}{z:List AV}{l c:RA}{Qg:List Item}{kl kc:IntKind}{n m:Nat}(hl:l.ev st.f=.int kl (n:Int))(hcv:c.ev st.f=.int kc (m:Int))(hnm:n≤m)(hm:m≤9223372036854775807)(hb:bytes*m≤281474976710656)
  (hro:QI (Qh st.m 0 site)=true)
  (h:QB P N Qg { st with m:=Am.put st.m 0 site (.vec (QK st.m 0 site) sz (List.replicate n (X6 sz z))),f:=Qn st.f d (.vec 0 site (QK st.m 0 site) 0 n false) } Q):QB P N (⟨d,.mk site el sz bytes z l c,none⟩ :: Qg) st Q:=by
 refine QB.step rfl fun G B a w o hr hd hdN hc K QQ hK=>?_
 cases ho:o.op<;>rw[ho]at hc<;>simp only[Zf,QY3]at hc;rename_i t x y;simp only[QY7]at hc;obtain⟨⟨hty,hcl⟩,hcc⟩:=hc;cases hu:P.underlying t with
 |none=>simp[hu]at hty
 |some dd=>
  cases dd with
  |slice e=>
   simp only[hu,QY7,QZF,QZc,QY8]at hty;obtain⟨⟨⟨⟨⟨⟨i,hi,⟨rfl,rfl⟩,hz⟩,hsz0⟩,rfl⟩,hte⟩,hrf⟩,hlf⟩:=hty;cases hzv:i.zero with
   |none=>rw[hzv]at hz;cases hz
   |some zv=>
    rw[hzv]at hz;simp only[QY7,QY8]at hz;have rl:=Qu hr hcl;have rc:=Qu hr hcc;rw[hl]at rl;rw[hcv]at rc;have hxv:a.eval x=.int kl (n:Int):=by
     revert rl
     generalize a.eval x=v;intro rl;cases rl;rfl
    have hyv:a.eval y=.int kc (m:Int):=by
     revert rc
     generalize a.eval y=v;intro rc;cases rc;rfl
    have hbb:(i.bytes:Int)*(m:Int)≤281474976710656:=by
     have h:((i.bytes*m:Nat):Int)≤281474976710656:=by omega
     rwa [Int.natCast_mul]at h
    have hrun:=run_make (P:=P) w t e i zv hu hi hzv kl kc (n:Int) (m:Int) (by omega) (by omega) hbb (by omega);simp only[QZ8]at hrun;have rz:RepL G z zv.cells.toList:=isCL_ok hz.1;have hzl:zv.cells.size=i.size:=by
     have:=rz.length;simp only[QZf]at this;omega
    have hsize:(madeCells zv.cells (m*i.size)).size=m*i.size:=size_madeCells _ _;have hrow:RowIs G site (w.alloc (.cells (madeCells zv.cells (m*i.size)) e)) w.heap.size m i.size (List.replicate n (X6 i.size z)):=by
     refine⟨⟨_,XH.new w _ e hte,hsize,?_⟩,by simpa using hnm,by simp only[maxLen];omega⟩;rw[ZY hz.2 hlf,QZ9];have hfl:((List.replicate n z).flatten).length=n*i.size:=by simp[hz.2]
     have hle:n*i.size≤m*i.size:=QZL _ hnm;refine RepL.of_all (by rw[hfl,QZC,QZf,hsize];exact Nat.min_eq_left hle) fun j u v hju hjv=>?_
     have hj:j<n*i.size:=by
      rw[←hfl];exact(QYM.1 hju).1
     rw[YU (by rw[hz.2];exact hsz0) n j (by rw[hz.2];exact hj),hz.2]at hju;have hmod:j % i.size<i.size:=Nat.mod_lt _ (by omega);obtain⟨v',hv',hrep⟩:=rz.at_ hju;rw[List.getElem?_take_of_lt hj]at hjv;have:v=v':=by
      simp only[madeCells,Array.toList_map,Array.toList_range,QZ3]at hjv;rw[List.getElem?_range (by omega)]at hjv;simp only[QZa,QZb]at hjv;rw[hzl]at hjv;rw[QZd]at hv';rw[Array.getElem!_eq_getD,QYU,hv']at hjv;simp only[QZQ]at hjv;exact hjv.symm
     rw[this];exact hrep
    have hgl:=K5 hr.mr hro;have hl0:0<st.m.length:=QZZ.2 hr.ne;obtain⟨hr',he⟩:=hr.vecput (w':=w.alloc (.cells (madeCells zv.cells (m*i.size)) e)) (cap:=m) (b:=some w.heap.size) hl0 hro hgl rfl rfl rfl (by simp) (fun k hk _=>RowKit.Below.heap_alloc w _ k hk) (fun k e=>by cases e;exact .inr (QYK _)) (KJ hz.2 hrf hlf n) (.inr ⟨_,rfl,hrow⟩);have hexec:(execOp a.eval o).run P w=.ok (.value (.slice (some ⟨w.heap.size,0,none⟩) n m)) (w.alloc (.cells (madeCells zv.cells (m*i.size)) e)):=by
     simp only[execOp,ho,Sem.run_bind,hxv,hyv,hrun,Result.andThen_ok];rfl
    unfold Oper.wp;rw[hexec];have hd':o.dst=d:=hd;show K (a.put o.dst _) _;rw[hd'];refine hK _ _ _ _ h (hr'.put hdN (.vec rfl (QZu (by simp[Gh.row])) fun _=>.inr ⟨w.heap.size,⟨w.heap.size,0,none⟩,m,by simp[Gh.row],by simp[Gh.row];exact hnm,rfl,hnm,by simp only[maxLen];omega,fun _=>by simp[Gh.row],fun _=>by simp⟩)) he
  |_=>simp[hu]at hty

theorem Rel.other {G:Gh}{B:Nat}{a:Act}{w:World}(hr:Rel G B N st a w)(o:Obj):Rel G B N st a (w.alloc o)∧Ext 1 G w G (w.alloc o):=by
 have hold:∀b,b<w.heap.size→(w.alloc o).heap[b]? = w.heap[b]?:=fun b hb=>RowKit.Below.heap_alloc w _ b hb
 have hs:∀b k v,G.stab b k=some v→rd (w.alloc o) b k v:=fun b k v e=>JF (hold b (YP (hr.mr.stab b k v e))) (hr.mr.stab b k v e)
 have hmr:MR G st.m (w.alloc o):=hr.mr.kept (stab:=G.stab) hold hs (fun _ _ _ h=>h) fun b hb=>(hr.mr.mine hb).2
 refine⟨⟨hmr,hr.size,hr.slots,hr.ds,hr.base,QYL hr.top (by simp),hr.ne⟩,rfl,rfl,rfl,by simp,fun _ _ _ h=>h,fun _ _ _=>rfl,fun _ _=>QYK _,fun _ _ _=>⟨rfl,rfl,rfl⟩,fun b hb _=>⟨hold b hb,fun _=>rfl⟩,fun _ h=>.inl h,fun l s _ h=>.inl ⟨l,s,QYK _,h⟩⟩

end

theorem A4 {G G':Gh}{m:Qk}{w:World}(h:MR G m w){s g sz o n:Nat}{q:Bool}{xs:List AV}{v:Value}(hlk:Qh m 0 s=.vec g sz xs)(hle:o+n≤xs.length)(hr:Rep G (.vec 0 s g o n q) v)
  (hst:G.sameStab G') (hpub:∀b o v,G.vm 0 s=some b→w.cell? ⟨b,o,none⟩=some v→G'.stab b o=some (.cell v)):Rep G' (.list ((xs.drop o).take n)) v:=by
 obtain⟨e1,e2,e3,e4⟩:=h.vec 0 s g sz xs hlk;have hmem:∀x∈(xs.drop o).take n,x∈xs:=fun x hx=>QZv (QZw hx)
 cases hr with
 |vec hone hg hh'=>
  rcases hh' e1.symm with⟨hvm,rfl,rfl,A0,rfl,hA0⟩|⟨b,A,c,hvm,hok,rfl,hkc,hcm,hq,hA⟩
  ·simp only[QZO];exact .list (sz:=0) (cs:=[]) .nil (by simp) rfl rfl (by simp) rfl (QYK _) (QYT _)
  ·rcases e4 with⟨e,_⟩|⟨b',e,hrow⟩
   ·rw[hvm]at e;cases e
   ·rw[hvm]at e;cases e;obtain⟨cur,hsoft,hcs,hrep⟩:=hrow.cur;have hr:=(RepL.rfd hst e3.rf hrep).takeDrop (o*sz) (n*sz);rw[ZI e3.size,JG (fun x hx=>e3.size x (QZv hx))]at hr;refine .list (sz:=sz) hr (fun x hx=>e3.size x (hmem x hx)) (ZG e3.rf (ZQ hmem)) (XL e3.leaf (ZQ hmem)) (fun j u hu=>?_) (by simp;omega) hkc (by omega);rw[QZo]at hu;split at hu
    ·rename_i hj;rw[QZp,QZo]at hu;split at hu
     ·have hk:0<n:=by
       rcases QZx n with h0|h0
       ·subst h0;simp at hj
       ·exact h0
      have hovc:o<G.vc 0 s:=Nat.lt_of_lt_of_le (Nat.lt_add_of_pos_right hk) hok;have hA':=hA ⟨.inl hovc,.inr hk⟩;rw[e2]at hA';refine⟨b,o*sz,by rw[hA'],hpub b (o*sz+j) u hvm ?_⟩;rw[hsoft.cell]
      simpa using hu
     ·cases hu
    ·cases hu

theorem Rel.pub0 {G:Gh}{B N:Nat}{st:St}{a:Act}{w:World}(h:Rel G B N st a w){site g sz:Nat}{xs:List AV}(hlk:Qh st.m 0 site=.vec g sz xs) :
  ∃G',Rel G' B N { st with m:=Am.put st.m 0 site (.vec (g+1) sz []) } a w∧Ext 1 G w G' w∧(∀o n q v,o+n≤xs.length→Rep G (.vec 0 site g o n q) v→Rep G' (.list ((xs.drop o).take n)) v)∧G'.nm=G.nm:=by
 have hl:0<st.m.length:=QZZ.2 h.ne;have hro:QI (Qh st.m 0 site)=true:=by rw[hlk];rfl
 have hvg:=(h.mr.vec 0 site g sz xs hlk).1;obtain⟨h1,h2⟩:=h.vecput (w':=w) (sz:=sz) (cap:=0) (b:=none) (g:=g+1) (ys:=[]) hl hro (by omega) rfl rfl rfl (QYK _) (fun _ _ _=>rfl) (fun k e=>by cases e) ⟨by simp,rfl,rfl⟩ (.inl ⟨rfl,rfl⟩);generalize hG1:G.row 0 site none 0 (g+1) sz=G1 at h1 h2;have hst1:G1.stab=G.stab:=by rw[←hG1];rfl
 have hnm1:G1.nm=G.nm:=by rw[←hG1];rfl
 have hvm1:∀l s,G1.vm l s=if l=0∧s=site then none else G.vm l s:=by rw[←hG1];exact fun _ _=>rfl
 have hle1:Gle G1 (G1.pub w fun b=>G.vm 0 site=some b):=Gh.pub_gle h1.mr.stab;have nS:∀l s b,G1.nm l s=some b→¬G.vm 0 site=some b:=fun l s b e=>by rw[hnm1]at e;exact h.mr.inj3 _ _ _ _ _ e
 have vS:∀l s b,G1.vm l s=some b→¬G.vm 0 site=some b:=fun l s b e e'=>by
  rw[hvm1]at e;split at e
  ·cases e
  ·rename_i hh;exact hh (h.mr.inj2 _ _ _ _ _ e e')
 refine⟨G1.pub w fun b=>G.vm 0 site=some b,⟨⟨?_,?_,?_,?_,?_,h1.mr.gone,h1.mr.inj1,h1.mr.inj2,h1.mr.inj3,h1.mr.iter⟩,h.size,?_,h1.ds.mono hle1,h1.base,h1.top,h1.ne⟩,?_,?_,hnm1⟩
 ·intro b o v e;by_cases hS:G.vm 0 site=some b∧∀o,Jb b o=none
  ·rw[Gh.pub_c hS]at e;exact Bc e
  ·rw[Gh.pub_n hS]at e;exact h1.mr.stab b o v e
 ·intro l s zs e;obtain⟨b,cs,e',hc,hr⟩:=h1.mr.cells l s zs e;exact⟨b,cs,e',hc,hr.mono (hle1.dn l)⟩
 ·intro l s b e;obtain⟨g1,g2⟩:=h1.mr.nm l s b e;exact⟨g1,fun o=>by rw[Gh.pub_out (nS l s b e)];exact g2 o⟩
 ·intro l s g' z zs e;obtain⟨a1,a2,a3,a4⟩:=h1.mr.vec l s g' z zs e;exact⟨a1,a2,a3,a4.imp id fun⟨b,e',r⟩=>⟨b,e',r.of rfl fun vs hv=>RepL.rfd hle1.stab a3.rf hv⟩⟩
 ·intro l s b e;obtain⟨g1,g2⟩:=h1.mr.vm l s b e;exact⟨g1,fun o=>by rw[Gh.pub_out (vS l s b e)];exact g2 o⟩
 ·exact fun i=>(h1.slots i).mono hle1
 ·refine⟨rfl,rfl,rfl,QYK _,fun b o v e=>hle1.stab b o v (by rw[hst1];exact e),fun l s _=>by show G1.nm l s=_;rw[hnm1],h2.vg,h2.vs,fun b hb hm=>⟨rfl,fun o=>?_⟩,h2.mine,h2.mv⟩;rw[Gh.pub_out (fun e=>hm (.inr ⟨0,site,e⟩)),hst1]
 ·intro o n q v hle hr;refine A4 h.mr hlk hle hr (fun b o v e=>?_) (fun b o v e hv=>?_)
  ·exact hle1.stab b o v (by rw[hst1];exact e)
  ·rw[Gh.pub_in e (Gh.notab (h.mr.vm 0 site b e).2)];exact UW hv

theorem Rel.publish {G:Gh}{B N:Nat}{st:St}{a:Act}{w:World}(h:Rel G B N st a w){slot site g sz o n:Nat}{q:Bool}{xs:List AV}(hs:st.f slot=.vec 0 site g o n q)(hlk:Qh st.m 0 site=.vec g sz xs)(hle:o+n≤xs.length) :
  ∃G',Rel G' B N { st with m:=Am.put st.m 0 site (.vec (g+1) sz []),f:=Qt st.f slot (.list ((xs.drop o).take n)) } a w∧Ext 1 G w G' w:=by
 obtain⟨G',h1,h2,h3,h4⟩:=h.pub0 hlk;refine⟨G',⟨h1.mr,h1.size,fun i=>?_,h1.ds,h1.base,h1.top,h1.ne⟩,h2⟩;by_cases hi:i=slot
 ·subst hi;show Rep _ (Qt st.f i _ i) _;rw[QY];have hr:=h.slots i;rw[hs]at hr;exact h3 _ _ _ _ hle hr
 ·show Rep _ (Qt st.f slot _ i) _;rw[Q2 _ _ hi];exact h1.slots i

theorem Rel.give {G:Gh}{B N:Nat}{st:St}{a:Act}{w:World}(h:Rel G B N st a w){slot site g sz o n l S:Nat}{q:Bool}{xs:List AV}(hs:st.f slot=.vec 0 site g o n q)(hlk:Qh st.m 0 site=.vec g sz xs)(hl:l<st.m.length)(hl0:l≠0)(hro:QI (Qh st.m l S)=true)(hS:S<2000) :
  ∃G',Rel G' B N { st with m:=Am.put (Am.put st.m 0 site (.vec (g+1) sz [])) l S (.vec (QK st.m l S) sz xs),f:=Qt st.f slot (.vec l S (QK st.m l S) o n q) } a w∧Ext 1 G w G' w:=by
 have hlp:0<st.m.length:=QZZ.2 h.ne;have hro0:QI (Qh st.m 0 site)=true:=by rw[hlk];rfl
 obtain⟨e1,e2,e3,e4⟩:=h.mr.vec 0 site g sz xs hlk;obtain⟨h1,h2⟩:=h.vecput (w':=w) (sz:=sz) (cap:=0) (b:=none) (g:=g+1) (ys:=[]) hlp hro0 (by omega) rfl rfl rfl (QYK _) (fun _ _ _=>rfl) (fun k e=>by cases e) ⟨by simp,rfl,rfl⟩ (.inl ⟨rfl,rfl⟩);have hlen:(Am.put st.m 0 site (.vec (g+1) sz [])).length=st.m.length:=by
  cases st.m<;>rfl
 have hlk1:Qh (Am.put st.m 0 site (.vec (g+1) sz [])) l S=Qh st.m l S:=QA (.inl hl0);have hng:QK (Am.put st.m 0 site (.vec (g+1) sz [])) l S=QK st.m l S:=by unfold QK;rw[hlk1]
 have hgl:(G.row 0 site none 0 (g+1) sz).vg l S<QK st.m l S:=by
  rw[←hng];exact K5 h1.mr (by rw[hlk1];exact hro)
 have hvm1:∀i t,(G.row 0 site none 0 (g+1) sz).vm i t=if i=0∧t=site then none else G.vm i t:=fun _ _=>rfl
 have hfree:∀k,G.vm 0 site=some k→¬(G.row 0 site none 0 (g+1) sz).mine k∧∀o,(G.row 0 site none 0 (g+1) sz).stab k o=none:=by
  intro k e;refine⟨?_,(h.mr.vm 0 site k e).2⟩;rintro(⟨i,t,e'⟩|⟨i,t,e'⟩)
  ·exact h.mr.inj3 _ _ _ _ _ e' e
  ·rw[hvm1]at e';split at e'
   ·cases e'
   ·rename_i hh;exact hh (h.mr.inj2 _ _ _ _ _ e' e)
 have hrow:(G.vm 0 site=none∧xs=[])∨∃k,G.vm 0 site=some k∧RowIs (G.row 0 site none 0 (g+1) sz) S w k (G.vc 0 site) sz xs:=by
  rcases e4 with e|⟨b,e,hr⟩
  ·exact .inl e
  ·refine .inr ⟨b,e,⟨?_,hr.le,hr.max⟩⟩;obtain⟨cs,⟨t,lo,hi,hh,_,hb⟩,hsz,hrep⟩:=hr.cur;exact⟨cs,⟨t,lo,hi,hh,by simp[Zr,hS],hb⟩,hsz,RepL.rfd (G:=G) (G':=G.row 0 site none 0 (g+1) sz) (fun _ _ _ h=>h) e3.rf hrep⟩
 have hmr:=h1.mr.vecput' (l:=l) (s:=S) (g:=QK st.m l S) (sz:=sz) (cap:=G.vc 0 site) (b:=G.vm 0 site) (ys:=xs) (w':=w) (by rw[hlen];exact hl) (by rw[hlk1];exact hro) hgl (fun _ _ _=>rfl) (fun k e=>.inr (hfree k e)) e3 hrow;have hgle:=Gh.row_gle (G:=G.row 0 site none 0 (g+1) sz) (l:=l) (s:=S) (cap:=G.vc 0 site) (sz:=sz) (b:=G.vm 0 site) hgl;have hnm2:((G.row 0 site none 0 (g+1) sz).row l S (G.vm 0 site) (G.vc 0 site) (QK st.m l S) sz).nm=G.nm:=rfl;have hvm2:∀i t,((G.row 0 site none 0 (g+1) sz).row l S (G.vm 0 site) (G.vc 0 site) (QK st.m l S) sz).vm i t=if i=l∧t=S then G.vm 0 site else if i=0∧t=site then none else G.vm i t:=fun _ _=>rfl
 have hvc2:((G.row 0 site none 0 (g+1) sz).row l S (G.vm 0 site) (G.vc 0 site) (QK st.m l S) sz).vc l S=G.vc 0 site:=by simp[Gh.row]
 have hvz2:((G.row 0 site none 0 (g+1) sz).row l S (G.vm 0 site) (G.vc 0 site) (QK st.m l S) sz).vz l S=sz:=by simp[Gh.row]
 have hvg2:((G.row 0 site none 0 (g+1) sz).row l S (G.vm 0 site) (G.vc 0 site) (QK st.m l S) sz).vg l S=QK st.m l S:=by simp[Gh.row]
 refine⟨(G.row 0 site none 0 (g+1) sz).row l S (G.vm 0 site) (G.vc 0 site) (QK st.m l S) sz,⟨hmr,h1.size,fun i=>?_,h1.ds.mono hgle,fun s' b' e=>?_,h1.top,J4 h1.ne⟩,⟨rfl,rfl,rfl,QYK _,h2.stab,fun _ _ _=>rfl,fun i t=>QYL (h2.vg i t) (hgle.vg i t),?_,h2.old,fun b e=>?_,fun i t b e=>?_⟩⟩
 ·by_cases hi:i=slot
  ·subst hi;show Rep _ (Qt st.f i _ i) _;rw[QY];have hr:=h.slots i;rw[hs]at hr;generalize a.tmps.getD i undef=v at hr;cases hr with
   |vec hone hg hh=>
    refine .vec hone (by rw[hvg2];exact QYK _) fun _=>?_
    rcases hh e1.symm with⟨hvm,ho,hn,A,hv,_⟩|⟨b,A,c,hvm,hok,hv,hkc,hcm,hq,hA⟩
    ·exact .inl ⟨by rw[hvm2,QYS ⟨rfl,rfl⟩];exact hvm,ho,hn,A,hv,fun h=>by omega⟩
    ·refine .inr ⟨b,A,c,by rw[hvm2,QYS ⟨rfl,rfl⟩];exact hvm,by rw[hvc2];exact hok,hv,hkc,hcm,by rw[hvc2];exact hq,?_⟩;rw[hvc2,hvz2,←e2];exact hA
  ·show Rep _ (Qt st.f slot _ i) _;rw[Q2 _ _ hi];exact(h1.slots i).mono hgle
 ·rw[hnm2,hvm2]at e;rw[QYR (by omega)]at e;exact h1.base s' b' (by rw[hvm1];exact e)
 ·intro i t e;have hb1:=h2.vg i t;have hb2:=hgle.vg i t;obtain⟨a1,a2,a3⟩:=h2.vs i t (by omega);obtain⟨b1,b2,b3⟩:=hgle.vs i t (by omega);exact⟨b1.trans a1,b2.trans a2,b3.trans a3⟩
 ·refine .inl ?_;rcases e with⟨i,t,e⟩|⟨i,t,e⟩
  ·exact .inl ⟨i,t,e⟩
  ·rw[hvm2]at e;split at e
   ·exact .inr ⟨0,site,e⟩
   ·split at e
    ·cases e
    ·exact .inr ⟨i,t,e⟩
 ·refine .inl ?_;rw[hvm2]at e;split at e
  ·exact⟨0,site,QYT _,e⟩
  ·split at e
   ·cases e
   ·exact⟨i,t,QYK _,e⟩

def XA (t:List UInt8)(p:Nat):Nat×Nat:=Utf8.decode ⟨⟨t⟩⟩ p

theorem MR.moved {G:Gh}{m:Qk}{w w':World}(h:MR G m w){l s b q:Nat}{p:Nat}{t u:IT}(hx:Qh m l s=.iter t p)(hb:G.nm l s=some b)(ht:Turned b w w')(hs:w'.heap[b]? = some (u.obj q)) :
  MR G (Am.put m l s (.iter u q)) w' where
 stab k o v e:=by
  have hk:k≠b:=by rintro rfl;rw[(h.nm l s k hb).2 o]at e;cases e
  exact JF (ht.heap k hk) (h.stab k o v e)
 cells l' s' zs e:=by
  by_cases hh:l'=l∧s'=s
  ·obtain⟨rfl,rfl⟩:=hh;rw[Qv (Xb (by rw[hx];simp))]at e;cases e
  ·rw[QA (by omega)]at e;obtain⟨b',cs',e',hc,hr⟩:=h.cells l' s' zs e;exact⟨b',cs',e',hc.of (ht.heap b' (fun eb=>hh (by subst eb;exact h.inj1 _ _ _ _ _ e' hb))),hr⟩
 nm l' s' b' e:=by
  obtain⟨hz,h2⟩:=h.nm l' s' b' e;refine⟨?_,h2⟩;by_cases hh:l'=l∧s'=s
  ·obtain⟨rfl,rfl⟩:=hh;rw[Qv (Xb (by rw[hx];simp))];rfl
  ·rw[QA (by omega)];exact hz
 vec l' s' g sz zs e:=by
  by_cases hh:l'=l∧s'=s
  ·obtain⟨rfl,rfl⟩:=hh;rw[Qv (Xb (by rw[hx];simp))]at e;cases e
  ·rw[QA (by omega)]at e;obtain⟨a1,a2,a3,a4⟩:=h.vec l' s' g sz zs e;refine⟨a1,a2,a3,a4.imp id fun⟨b',e',r⟩=>⟨b',e',r.of (ht.heap b' ?_) fun _ h=>h⟩⟩;rintro rfl;exact h.inj3 _ _ _ _ _ hb e'
 vm l' s' b' e:=by
  obtain⟨⟨g,sz,zs,hz⟩,h2⟩:=h.vm l' s' b' e;refine⟨?_,h2⟩;by_cases hh:l'=l∧s'=s
  ·obtain⟨rfl,rfl⟩:=hh;rw[hx]at hz;cases hz
  ·exact⟨g,sz,zs,by rw[QA (by omega)];exact hz⟩
 gone l' s' e:=by
  by_cases hh:l'=l∧s'=s
  ·obtain⟨rfl,rfl⟩:=hh;exact h.gone l' s' (by rw[hx];rfl)
  ·rw[QA (by omega)]at e;exact h.gone l' s' e
 inj1:=h.inj1
 inj2:=h.inj2
 inj3:=h.inj3
 iter l' s' t' p' e:=by
  by_cases hh:l'=l∧s'=s
  ·obtain⟨rfl,rfl⟩:=hh;rw[Qv (Xb (by rw[hx];simp))]at e;cases e;exact⟨b,hb,hs⟩
  ·rw[QA (by omega)]at e;obtain⟨b',e',hc⟩:=h.iter l' s' t' p' e;exact⟨b',e',(ht.heap b' (fun eb=>hh (by subst eb;exact h.inj1 _ _ _ _ _ e' hb))).trans hc⟩

theorem F8 {P:Program}{w:World}{b p:Nat}{s:ByteArray}(hh:w.heap[b]? = some (.stringIter s p))(h:p<s.size)(ty:TypeId) :
  (Instr.next (.pointer (some ⟨b,0,none⟩)) true ty).run P w=.ok (.tuple #[.bool true,.int .i64 p,.int .i32 (Utf8.decode s p).1]) { w with heap:=w.heap.setIfInBounds b (.stringIter s (p+(Utf8.decode s p).2)) }:=by
 simp only[Instr.next,getObj,setObj,Sem.run_bind,Sem.run,hh,Result.andThen,h,if_true];simp[goInt]
theorem F9 {P:Program}{w:World}{b p:Nat}{s:ByteArray}(hh:w.heap[b]? = some (.stringIter s p))(h:¬p<s.size)(ty:TypeId) :
  (Instr.next (.pointer (some ⟨b,0,none⟩)) true ty).run P w=.ok (.tuple #[.bool false]) w:=by
 simp[Instr.next,getObj,Sem.run,hh,h]

section
variable {P:Program}{N:Nat}{st:St}{Q:St→Prop}

theorem QB.rngs {d:Option Nat}{s:Nat}{r:RA}{Qg:List Item}{t:List UInt8}(ht:r.ev st.f=.str t)(hn:XP st.m s=true)(h:QB P N Qg { st with m:=Am.put st.m 0 s (.iter (.str t) 0),f:=Qn st.f d (.ptr 0 s 0) } Q) :
  QB P N (⟨d,.rngs s r,none⟩ :: Qg) st Q:=by
 refine QB.step rfl fun G B a w o hr hd hdN hc K QQ hK=>?_
 cases ho:o.op<;>rw[ho]at hc<;>simp only[Zf,QY3,QY7]at hc;rename_i ty x;have hx:=Qu hr hc.2;rw[ht]at hx;have hv:a.eval x=.string ⟨⟨t⟩⟩:=by
  generalize a.eval x=v at hx;cases hx;rfl
 obtain⟨hr',he⟩:=hr.freshO s hn (ob:=.iter (.str t) 0) (x:=.stringIter ⟨⟨t⟩⟩ 0) rfl (fun _ e=>by cases e) (fun _ _ e=>by cases e;rfl);have hrun:(execOp a.eval o).run P w=.ok (.value (.pointer (some ⟨w.heap.size,0,none⟩))) (w.alloc (.stringIter ⟨⟨t⟩⟩ 0)):=by
  simp only[execOp,ho,hv,Sem.run_bind,run_range_string w ty _ (KP hc.1),Result.andThen_ok,Sem.run_pure];rfl
 unfold Oper.wp;rw[hrun];have hd':o.dst=d:=hd;show K (a.put o.dst _) _;rw[hd'];refine hK _ _ _ _ h (hr'.put hdN (.ptr ?_)) he;show(if (0:Nat)=0∧s=s then some w.heap.size else G.nm 0 s)=some w.heap.size;simp

theorem QB.nxts {d:Option Nat}{r:RA}{Qg:List Item}{l s p:Nat}{t:List UInt8}(hp:r.ev st.f=.ptr l s 0)(hl:Qh st.m l s=.iter (.str t) p)
  (h1:p<t.length→QB P N Qg { st with m:=Am.put st.m l s (.iter (.str t) (p+(XA t p).2)),f:=Qn st.f d (.tup [.bool true,.int .i64 (p:Nat),.int .i32 ((XA t p).1:Nat)]) } Q)
  (h2:t.length≤p→QB P N Qg { st with f:=Qn st.f d (.tup [.bool false]) } Q) :
  QB P N (⟨d,.nxts r,none⟩ :: Qg) st Q:=by
 refine QB.step rfl fun G B a w o hr hd hdN hc K QQ hK=>?_
 cases ho:o.op<;>rw[ho]at hc<;>simp only[Zf,QY3]at hc;rename_i x str;cases str with
 |false=>cases hc
 |true=>
 have hx:=Qu hr hc;rw[hp]at hx;obtain⟨b,hb,hh⟩:=hr.mr.iter l s (.str t) p hl;have hv:a.eval x=.pointer (some ⟨b,0,none⟩):=by
  generalize a.eval x=v at hx;cases hx;rename_i b' hb';rw[hb]at hb';cases hb';rfl
 have hd':o.dst=d:=hd;unfold Oper.wp;by_cases hlt:p<t.length
 ·have hrun:(execOp a.eval o).run P w=.ok (.value (.tuple #[.bool true,.int .i64 p,.int .i32 (XA t p).1])) { w with heap:=w.heap.setIfInBounds b (.stringIter ⟨⟨t⟩⟩ (p+(XA t p).2)) }:=by
   simp only[execOp,ho,hv,Sem.run_bind,F8 hh (show p<ByteArray.size ⟨⟨t⟩⟩from hlt),Result.andThen_ok,Sem.run_pure];rfl
  rw[hrun];show K (a.put o.dst _) _;rw[hd'];have hlen:b<w.heap.size:=(QYQ.1 hh).1;have htn:Turned b w { w with heap:=w.heap.setIfInBounds b (.stringIter ⟨⟨t⟩⟩ (p+(XA t p).2)) } :=
   ⟨rfl,rfl,rfl,by simp,fun k hk=>by
    show(w.heap.setIfInBounds b _)[k]? = _;rw[Array.getElem?_setIfInBounds_ne (fun e=>hk e.symm)]⟩
  have hnew:(w.heap.setIfInBounds b (.stringIter ⟨⟨t⟩⟩ (p+(XA t p).2)))[b]? = some (.stringIter ⟨⟨t⟩⟩ (p+(XA t p).2)):=by
   rw[QYV,QYS hlen]
  have hm:=hr.mr.moved (u:=.str t) hl hb htn hnew;have hr':Rel G B N { st with m:=Am.put st.m l s (.iter (.str t) (p+(XA t p).2)) } a { w with heap:=w.heap.setIfInBounds b (.stringIter ⟨⟨t⟩⟩ (p+(XA t p).2)) } :=
   ⟨hm,hr.size,hr.slots,hr.ds,hr.base,by rw[htn.size];exact hr.top,J4 hr.ne⟩
  exact hK _ _ _ _ (h1 hlt) (hr'.put hdN (.tup (.cons (.bool _) (.cons (.int _ _) (.cons (.int _ _) .nil))))) (Ext.turned htn (.inl ⟨l,s,hb⟩))
 ·have hrun:(execOp a.eval o).run P w=.ok (.value (.tuple #[.bool false])) w:=by
   simp only[execOp,ho,hv,Sem.run_bind,F9 hh (show ¬p<ByteArray.size ⟨⟨t⟩⟩from hlt),Result.andThen_ok,Sem.run_pure]
  rw[hrun];show K (a.put o.dst _) _;rw[hd'];exact hK _ _ _ _ (h2 (by omega)) (hr.put hdN (.tup (.cons (.bool _) .nil))) (Ext.refl 1 G w)

def Gx (cnt:Bool)(t:List UInt8)(b:Int):Int:=if cnt then(Lib.countByte t b.toNat.toUInt8:Nat)else Lib.indexByte t b.toNat.toUInt8

theorem QbM {fn:Func} (h1:fn.name = "internal/bytealg.CountString") (h2:fn.origin = ""):Extern.findNext fn=none∧Extern.find fn=some Extern.BytealgCount.count := by
 unfold Extern.findNext Extern.find;rw[h1,h2];exact⟨by kernel_rfl,by kernel_rfl⟩
theorem QbN {fn:Func} (h1:fn.name = "internal/bytealg.IndexByteString") (h2:fn.origin = ""):Extern.findNext fn=none∧Extern.find fn=some Extern.BytealgIndexByte.indexByte := by
 unfold Extern.findNext Extern.find;rw[h1,h2];exact⟨by kernel_rfl,by kernel_rfl⟩

theorem QB.xb {d:Option Nat}{cnt:Bool}{k:Nat}{s c:RA}{Qg:List Item}{t:List UInt8}{b:Int}(hs:s.ev st.f=.str t)(hb:c.ev st.f=.int .u8 b)(h:QB P N Qg { st with f:=Qn st.f d (.int .i64 (Gx cnt t b)) } Q) :
  QB P N (⟨d,.xb cnt k s c,none⟩ :: Qg) st Q:=by
 refine QB.step rfl fun G B a w o hr hd hdN hc K QQ hK=>?_
 cases ho:o.op<;>rw[ho]at hc<;>simp only[Zf,QY3]at hc;rename_i cl;split at hc
 case h_2=>cases hc
 rename_i o1 k' x y ts o2;cases o2;simp only[QY7,QY8]at hc;obtain⟨⟨⟨hk,hf⟩,hx⟩,hy⟩:=hc;subst hk;cases hfn:P.funcs[k]? with
 |none=>rw[hfn]at hf;cases hf
 |some fn=>
 rw[hfn]at hf;simp only[QY7,QY8]at hf;obtain⟨⟨hname,hor⟩,hbody⟩:=hf;have rs:=Qu hr hx;have rc:=Qu hr hy;rw[hs]at rs;rw[hb]at rc;have ev:a.eval x=.string ⟨⟨t⟩⟩:=by
  generalize a.eval x=v at rs;cases rs;rfl
 have ec:a.eval y=.int .u8 b:=by
  generalize a.eval y=v at rc;cases rc;rfl
 have hrun:(execOp a.eval o).run P w=.ok (.value (.int .i64 (Gx cnt t b))) w:=by
  cases cnt with
  |true=>
   have hname:fn.name = "internal/bytealg.CountString" := hname
   obtain⟨e1,e2⟩:=QbM hname hor;have hcf:=run_callFunc_extern (P:=P) hfn (by rw[hname];decide) hbody e1 e2 #[.string ⟨⟨t⟩⟩,.int .u8 b] w;rw[Lib.run_countString]at hcf;simp only[execOp,ho,resolve,Act.eval,Deferred.ofValue,Sem.run_bind,Sem.run_pure,Result.andThen_ok,invoke];simp[ev,ec,hcf,Gx,Result.andThen]
  |false=>
   have hname:fn.name = "internal/bytealg.IndexByteString" := hname
   obtain⟨e1,e2⟩:=QbN hname hor;have hcf:=run_callFunc_extern (P:=P) hfn (by rw[hname];decide) hbody e1 e2 #[.string ⟨⟨t⟩⟩,.int .u8 b] w;rw[Lib.run_indexByteString]at hcf;simp only[execOp,ho,resolve,Act.eval,Deferred.ofValue,Sem.run_bind,Sem.run_pure,Result.andThen_ok,invoke];simp[ev,ec,hcf,Gx,Result.andThen]
 unfold Oper.wp;rw[hrun];have hd':o.dst=d:=hd;show K (a.put o.dst _) _;rw[hd'];exact hK _ _ _ _ h (hr.put hdN (.int _ _)) (Ext.refl 1 G w)

theorem QB.mkm {d:Option Nat}{s:Nat}{Qg:List Item}(hn:XP st.m s=true)(h:QB P N Qg { st with m:=Am.put st.m 0 s (.iter (.mp [] []) 0),f:=Qn st.f d (.mptr 0 s) } Q) :
  QB P N (⟨d,.mkm s,none⟩ :: Qg) st Q:=by
 refine QB.step rfl fun G B a w o hr hd hdN hc K QQ hK=>?_
 cases ho:o.op<;>rw[ho]at hc<;>simp only[Zf,QY3]at hc;rename_i ty hint;cases hint with
 |some _=>cases hc
 |none=>
 obtain⟨hr',he⟩:=hr.freshO s hn (ob:=.iter (.mp [] []) 0) (x:=.map #[] 0) rfl (fun _ e=>by cases e) (fun _ _ e=>by cases e;rfl);have hrun:(execOp a.eval o).run P w=.ok (.value (.map (some w.heap.size))) (w.alloc (.map #[] 0)):=by
  simp only[execOp,ho,Sem.run_bind,Option.map_none,show(Instr.makeMap ty none).run P w=.ok (.map (some w.heap.size)) (w.alloc (.map #[] 0))from rfl,Result.andThen_ok,Sem.run_pure]
 unfold Oper.wp;rw[hrun];have hd':o.dst=d:=hd;show K (a.put o.dst _) _;rw[hd'];refine hK _ _ _ _ h (hr'.put hdN (.mptr ?_)) he;show(if (0:Nat)=0∧s=s then some w.heap.size else G.nm 0 s)=some w.heap.size;simp

theorem QB.mput {d:Option Nat}{x i v:RA}{Qg:List Item}{l s p:Nat}{ks:List (List UInt8)}{vs:List AV}{k:List UInt8}(hx:x.ev st.f=.mptr l s)(hl:Qh st.m l s=.iter (.mp ks vs) p)(hi:i.ev st.f=.str k)(hg:(v.ev st.f).gr=true)(_hgs:AV.grL vs=true)(hlen:ks.length=vs.length)
  (h:QB P N Qg { st with m:=Am.put st.m l s (.iter (.mp (Am.XS k (v.ev st.f) ks vs).1 (Am.XS k (v.ev st.f) ks vs).2) p),f:=Qn st.f d (.tup []) } Q) :
  QB P N (⟨d,.mput x i v,none⟩ :: Qg) st Q:=by
 refine QB.step rfl fun G B a w o hr hd hdN hc K QQ hK=>?_
 obtain⟨ty,ox,oi,ov,hc,hex⟩:∃ty ox oi ov,((((match P.underlying ty with|some (.map kt _)=>Wr P kt|_=>false)&&QR ox x)&&QR oi i)&&QR ov v)=true∧
   ∀w',(Instr.mapUpdate ty (a.eval ox) (a.eval oi) (a.eval ov)).run P w=.ok () w'→(execOp a.eval o).run P w=.ok .skip w':=by
  cases ho:o.op<;>rw[ho]at hc<;>simp only[Zf,QY3]at hc
  ·exact⟨_,_,_,_,hc,fun w' h=>by simp only[execOp,ho,Sem.run_bind,h,Result.andThen_ok,Sem.run_pure]⟩
  ·exact⟨_,_,_,_,hc,fun w' h=>by simp only[execOp,ho,Sem.run_bind,h,Result.andThen_ok,Sem.run_pure]⟩
 simp only[QY7]at hc;obtain⟨⟨⟨hty,h1⟩,h2⟩,h3⟩:=hc;split at hty
 case h_2=>cases hty
 rename_i kt et hu;have r1:=Qu hr h1;have r2:=Qu hr h2;have r3:=Qu hr h3;rw[hx]at r1;rw[hi]at r2;obtain⟨b,hb,hh⟩:=hr.mr.iter l s (.mp ks vs) p hl;have ex:a.eval ox=.map (some b):=by
  generalize a.eval ox=u at r1;cases r1;rename_i b' hb';rw[hb]at hb';cases hb';rfl
 have ei:a.eval oi=.string ⟨⟨k⟩⟩:=by
  generalize a.eval oi=u at r2;cases r2;rfl
 have ev:a.eval ov=(v.ev st.f).gv:=IP hg r3;have hrun:(execOp a.eval o).run P w=.ok .skip { w with heap:=w.heap.setIfInBounds b (IT.obj (.mp (Am.XS k (v.ev st.f) ks vs).1 (Am.XS k (v.ev st.f) ks vs).2) p) }:=by
  refine hex _ ?_;rw[ex,ei,ev];exact HO hlen hu (KP hty) hh
 unfold Oper.wp;rw[hrun];have hd':o.dst=d:=hd;show K (a.put o.dst undef) _;rw[hd'];have hlt:b<w.heap.size:=(QYQ.1 hh).1;generalize hu':IT.mp (Am.XS k (v.ev st.f) ks vs).1 (Am.XS k (v.ev st.f) ks vs).2=u at *;have htn:Turned b w { w with heap:=w.heap.setIfInBounds b (u.obj p) } :=
  ⟨rfl,rfl,rfl,by simp,fun k hk=>by
   show(w.heap.setIfInBounds b _)[k]? = _;rw[Array.getElem?_setIfInBounds_ne (fun e=>hk e.symm)]⟩
 have hnew:(w.heap.setIfInBounds b (u.obj p))[b]? = some (u.obj p):=by
  rw[QYV,QYS hlt]
 have hm:=hr.mr.moved (u:=u) hl hb htn hnew;have hr':Rel G B N { st with m:=Am.put st.m l s (.iter u p) } a { w with heap:=w.heap.setIfInBounds b (u.obj p) } :=
  ⟨hm,hr.size,hr.slots,hr.ds,hr.base,by rw[htn.size];exact hr.top,J4 hr.ne⟩
 exact hK _ _ _ _ h (hr'.put hdN (v:=undef) (.tup .nil)) (Ext.turned htn (.inl ⟨l,s,hb⟩))

end

def Qi (P:Program)(k:FuncId)(args:List AV)(v:AV):Prop:=Fn? P k args (· = v)

def Ul (P:Program)(d:Option Nat)(op:RO)(st:St)(K:St→Prop):Prop :=
 match op with
 |.val vo=>∃x,QG st.f st.m vo=some x∧K { st with f:=Qn st.f d x }
 |.allocN s z=>XP st.m s=true∧K { st with m:=Am.put st.m 0 s (.cells z),f:=Qn st.f d (.ptr 0 s 0) }
 |.boxN s r=>XP st.m s=true∧(r.ev st.f).cells.all AV.leaf=true∧K { st with m:=Am.put st.m 0 s (.cells (r.ev st.f).cells),f:=Qn st.f d (.ptr 0 s 0) }
 |.store n p r=>(r.ev st.f).cells.length=n∧(r.ev st.f).cells.all AV.leaf=true∧∃m',Q8 st.m (p.ev st.f) (r.ev st.f).cells=some m'∧K { st with m:=m',f:=Qn st.f d (.tup []) }
 |.app sz bytes el s r=>∃l site g n xs ys,s.ev st.f=.vec l site g 0 n false∧Qh st.m l site=.vec g sz xs∧Zr site el=true∧n≤xs.length∧Zd st.m (r.ev st.f)=some ys∧ys.all (fun e=>e.cells.length==sz)=true∧n+ys.length≤maxLen∧(n+ys.length)*bytes≤140737488355328∧
   K { st with m:=Am.put st.m l site (.vec (g+1) sz (xs.take n++ys)),f:=Qn st.f d (.vec l site (g+1) 0 (n+ys.length) false) }
 |.storev l s n p r=>(∃o,p.ev st.f=.ptr l s o)∧(r.ev st.f).cells.length=n∧(r.ev st.f).cells.all AV.leaf=true∧∃m',Q8 st.m (p.ev st.f) (r.ev st.f).cells=some m'∧K { st with m:=m',f:=Qn st.f d (.tup []) }
 |.call f args=>∃k fa fb ys v,f.ev st.f=.fn (.func k) fa fb∧AV.stillL false st.m (fa++args.map (RA.ev st.f)++fb)=some ys∧AV.rfL ys=true∧Qi P k ys v∧v.rf=true∧(AV.rfL (fa++args.map (RA.ev st.f)++fb)=true∨v.nl=true)∧K { st with f:=Qn st.f d v }
 |.callF f args=>∃k fa fb v m',f.ev st.f=.fn (.func k) fa fb∧Qf P k (fa++args.map (RA.ev st.f)++fb) st.m (fun x m=>x=v∧m=m')∧K { st with m:=m',f:=Qn st.f d v }
 |.bsl sz len z ps=>∃y,fill st.f ps (Jd z sz len)=some y∧AV.rfL y=true∧y.all AV.leaf=true∧K { st with f:=Qn st.f d (.list (Jc sz len (y.map nn0))) }
 |.bsl0 site sz=>QI (Qh st.m 0 site)=true∧K { st with m:=Am.put st.m 0 site (.vec (QK st.m 0 site) sz []),f:=Qn st.f d (.vec 0 site (QK st.m 0 site) 0 0 false) }
 |.clr sz z r=>∃l s g o n q xs,r.ev st.f=.vec l s g o n q∧Qh st.m l s=.vec g sz xs∧o+n≤xs.length∧0<n∧K { st with m:=Am.put st.m l s (.vec g sz (xs.take o++List.replicate n (X6 sz z)++xs.drop (o+n))),f:=Qn st.f d (.tup []) }
 |.isnil neg r=>∃ys,Zd st.m (r.ev st.f)=some ys∧(r.ev st.f≠.nils→K { st with f:=Qn st.f d (.bool neg) })∧((r.ev st.f=.nils∨QP ys=[])→K { st with f:=Qn st.f d (.bool (!neg)) })
 |.xb cnt _ s c=>∃t b,s.ev st.f=.str t∧c.ev st.f=.int .u8 b∧K { st with f:=Qn st.f d (.int .i64 (Gx cnt t b)) }
 |.rngs s r=>∃t,r.ev st.f=.str t∧XP st.m s=true∧K { st with m:=Am.put st.m 0 s (.iter (.str t) 0),f:=Qn st.f d (.ptr 0 s 0) }
 |.mkm s=>XP st.m s=true∧K { st with m:=Am.put st.m 0 s (.iter (.mp [] []) 0),f:=Qn st.f d (.mptr 0 s) }
 |.mput x i v=>∃l s ks vs p k,x.ev st.f=.mptr l s∧Qh st.m l s=.iter (.mp ks vs) p∧i.ev st.f=.str k∧(v.ev st.f).gr=true∧AV.grL vs=true∧ks.length=vs.length∧K { st with m:=Am.put st.m l s (.iter (.mp (XS k (v.ev st.f) ks vs).1 (XS k (v.ev st.f) ks vs).2) p),f:=Qn st.f d (.tup []) }
 |.nxts r=>∃l s t p,r.ev st.f=.ptr l s 0∧Qh st.m l s=.iter (.str t) p∧
   (p<t.length→K { st with m:=Am.put st.m l s (.iter (.str t) (p+(XA t p).2)),f:=Qn st.f d (.tup [.bool true,.int .i64 (p:Nat),.int .i32 ((XA t p).1:Nat)]) })∧(t.length≤p→K { st with f:=Qn st.f d (.tup [.bool false]) })
 |.mk site _ sz bytes z l c=>∃(kl kc:IntKind) (n k:Nat),l.ev st.f=.int kl (n:Int)∧c.ev st.f=.int kc (k:Int)∧n≤k∧k≤9223372036854775807∧bytes*k≤281474976710656∧QI (Qh st.m 0 site)=true∧
   K { st with m:=Am.put st.m 0 site (.vec (QK st.m 0 site) sz (List.replicate n (X6 sz z))),f:=Qn st.f d (.vec 0 site (QK st.m 0 site) 0 n false) }

def X9 (P:Program)(it:Item)(st:St)(K:St→Prop):Prop :=
 match it.g with
 |none=>Ul P it.dst it.op st K
 |some (j,want)=>match st.f j with
  |.bool b=>(b=want→Ul P it.dst it.op st K)∧(b=(!want)→K { st with f:=Qn st.f it.dst (.tup []) })
  |.tup l=>l=[]∧K { st with f:=Qn st.f it.dst (.tup []) }
  |_=>False

def Qq (P:Program):List Item→St→(St→Prop)→Prop
 | [],st,K=>K st
 |it :: Qg,st,K=>X9 P it st fun st'=>Qq P Qg st' K

section
variable {P:Program}{N:Nat}

theorem P9 {d:Option Nat}{op:RO}{Qg:List Item}{st:St}{Q:St→Prop}(h:Ul P d op st fun st'=>QB P N Qg st' Q):QB P N (⟨d,op,none⟩ :: Qg) st Q:=by
 cases op with
 |val vo=>obtain⟨x,hx,h⟩:=h;exact .val hx h
 |allocN s z=>exact .allocN h.1 h.2
 |boxN s r=>exact .boxN h.1 h.2.1 h.2.2
 |store n p r=>obtain⟨h1,h2,m',h3,h⟩:=h;exact .store h1 h2 h3 h
 |app sz bytes el s r=>obtain⟨l,site,g,n,xs,ys,h1,h2,ht,h3,h4,h5,h6,h7,h⟩:=h;exact .app h1 h2 ht h3 h4 h5 h6 h7 h
 |mk site el sz bytes z l c=>obtain⟨kl,kc,n,k,h1,h2,h3,h4,h5,h6,h⟩:=h;exact .mk h1 h2 h3 h4 h5 h6 h
 |storev l s n p r=>obtain⟨_,h1,h2,m',h3,h⟩:=h;exact .same (ro:=.store n p r) (fun _=>rfl) (.store h1 h2 h3 h)
 |call f args=>
  obtain⟨k,fa,fb,ys,v,hf,h1,h2,h3,h4,h5,h⟩:=h;exact .callPure hf h1 h2 h3 (fun x hx=>by subst hx;exact⟨h4,h5⟩) fun x hx=>by subst hx;exact h
 |callF f args=>
  obtain⟨k,fa,fb,v,m',hf,h1,h⟩:=h;exact .same (ro:=.call f args) (fun _=>rfl) (.callFull hf h1 fun x m hx _=>by obtain⟨rfl,rfl⟩:=hx;exact h)
 |bsl sz len z ps=>obtain⟨y,h1,h2,h3,h⟩:=h;exact .bsl h1 h2 h3 h
 |bsl0 site sz=>exact .bsl0 h.1 h.2
 |clr sz z r=>obtain⟨l,s,g,o,n,q,xs,h1,h2,h3,h4,h⟩:=h;exact .clr h1 h2 h3 h4 h
 |isnil neg r=>obtain⟨ys,h1,h2,h3⟩:=h;exact .isnil h1 h2 h3
 |xb cnt k s c=>obtain⟨t,b,h1,h2,h⟩:=h;exact .xb h1 h2 h
 |rngs s r=>obtain⟨t,h1,h2,h⟩:=h;exact .rngs h1 h2 h
 |nxts r=>obtain⟨l,s,t,p,h1,h2,h3,h4⟩:=h;exact .nxts h1 h2 h3 h4
 |mkm s=>obtain⟨h1,h⟩:=h;exact .mkm h1 h
 |mput x i v=>obtain⟨l,s,ks,vs,p,k,h1,h2,h3,h4,h5,h6,h⟩:=h;exact .mput h1 h2 h3 h4 h5 h6 h

theorem BH {it:Item}{Qg:List Item}{st:St}{Q:St→Prop}(h:X9 P it st fun st'=>QB P N Qg st' Q):QB P N (it :: Qg) st Q:=by
 obtain⟨d,op,g⟩:=it;cases g with
 |none=>exact P9 h
 |some p=>
  obtain⟨j,want⟩:=p;simp only[X9]at h;split at h
  ·rename_i b hj;by_cases hb:b=want
   ·subst hb;exact .yes hj (P9 (h.1 rfl))
   ·have hb':b=!want:=by cases b<;>cases want<;>first|rfl|exact absurd rfl hb
    subst hb';exact .no (.inl hj) (h.2 rfl)
  ·rename_i l hj;obtain⟨rfl,h⟩:=h;exact .no (.inr hj) h
  ·exact h.elim

theorem BI {d:Option Nat}{op:RO}{st:St}{K K':St→Prop}(hk:∀s,K s→K' s)(h:Ul P d op st K):Ul P d op st K':=by
 cases op<;>simp only[Ul]at h ⊢
 case val=>obtain⟨x,a,b⟩:=h;exact⟨x,a,hk _ b⟩
 case allocN=>exact⟨h.1,hk _ h.2⟩
 case boxN=>exact⟨h.1,h.2.1,hk _ h.2.2⟩
 case store=>obtain⟨h1,h2,m',h3,h⟩:=h;exact⟨h1,h2,m',h3,hk _ h⟩
 case app=>obtain⟨l,site,g,n,xs,ys,h1,h2,ht,h3,h4,h5,h6,h7,h⟩:=h;exact⟨l,site,g,n,xs,ys,h1,h2,ht,h3,h4,h5,h6,h7,hk _ h⟩
 case mk=>obtain⟨kl,kc,n,k,h1,h2,h3,h4,h5,h6,h⟩:=h;exact⟨kl,kc,n,k,h1,h2,h3,h4,h5,h6,hk _ h⟩
 case bsl=>obtain⟨y,h1,h2,h3,h⟩:=h;exact⟨y,h1,h2,h3,hk _ h⟩
 case bsl0=>exact⟨h.1,hk _ h.2⟩
 case clr=>obtain⟨l,s,g,o,n,q,xs,h1,h2,h3,h4,h⟩:=h;exact⟨l,s,g,o,n,q,xs,h1,h2,h3,h4,hk _ h⟩
 case isnil=>obtain⟨ys,h1,h2,h3⟩:=h;exact⟨ys,h1,fun e=>hk _ (h2 e),fun e=>hk _ (h3 e)⟩
 case xb=>obtain⟨t,b,h1,h2,h⟩:=h;exact⟨t,b,h1,h2,hk _ h⟩
 case rngs=>obtain⟨t,h1,h2,h⟩:=h;exact⟨t,h1,h2,hk _ h⟩
 case mkm=>obtain⟨h1,h⟩:=h;exact⟨h1,hk _ h⟩
 case mput=>obtain⟨l,s,ks,vs,p,k,h1,h2,h3,h4,h5,h6,h⟩:=h;exact⟨l,s,ks,vs,p,k,h1,h2,h3,h4,h5,h6,hk _ h⟩
 case nxts=>obtain⟨l,s,t,p,h1,h2,h3,h4⟩:=h;exact⟨l,s,t,p,h1,h2,fun e=>hk _ (h3 e),fun e=>hk _ (h4 e)⟩
 case storev=>obtain⟨h0,h1,h2,m',h3,h⟩:=h;exact⟨h0,h1,h2,m',h3,hk _ h⟩
 case call=>obtain⟨k,fa,fb,ys,v,hf,h1,h2,h3,h4,h5,h⟩:=h;exact⟨k,fa,fb,ys,v,hf,h1,h2,h3,h4,h5,hk _ h⟩
 case callF=>obtain⟨k,fa,fb,v,m',hf,h1,h⟩:=h;exact⟨k,fa,fb,v,m',hf,h1,hk _ h⟩

theorem YV {it:Item}{st:St}{K K':St→Prop}(hk:∀s,K s→K' s)(h:X9 P it st K):X9 P it st K':=by
 unfold X9 at h ⊢;split at h
 ·exact BI hk h
 ·split at h
  ·exact⟨fun e=>BI hk (h.1 e),fun e=>hk _ (h.2 e)⟩
  ·exact⟨h.1,hk _ h.2⟩
  ·exact h.elim

theorem V5:∀ {Qg:List Item} {st:St} {Q:St→Prop},Qq P Qg st Q→QB P N Qg st Q
 | [],_,_,h=>.nil h
 |_ :: _,_,_,h=>BH (YV (fun _ hs=>V5 hs) h)

end

inductive GO where
 |vec (slot site sz:Nat)
 |drop (s:Nat)
 |vecc (s idx site sz:Nat)
 |pub (slot site:Nat)
 |give (slot site l S:Nat)

def JW (g:GO)(st:St):Option St :=
 match g with
 |.vec slot site sz=>match st.f slot with
  |.nils=>bif QI (Qh st.m 0 site)then some { st with m:=Am.put st.m 0 site (.vec (QK st.m 0 site) sz []),f:=Qt st.f slot (.vec 0 site (QK st.m 0 site) 0 0 false) } else none
  |_=>none
 |.drop s=>bif YQ st.m s then some (st.drop s)else none
 |.vecc s idx site sz=>match Qh st.m 0 s with
  |.cells xs=>match xs[idx]? with
   |some .nils=>bif QI (Qh st.m 0 site) && !(Nat.beq site s)then some { st with m:=Am.put (Am.put st.m 0 site (.vec (QK st.m 0 site) sz [])) 0 s (.cells (xs.set idx (.vec 0 site (QK st.m 0 site) 0 0 false))) } else none
   |some _=>some st
   |none=>none
  |_=>none
 |.pub slot site=>match st.f slot with
  |.vec 0 s' g o n _=>match Qh st.m 0 site with
   |.vec g' sz xs=>bif Nat.beq s' site&&Nat.beq g g'&&Nat.ble (o+n) xs.length then some { st with m:=Am.put st.m 0 site (.vec (g+1) sz []),f:=Qt st.f slot (.list ((xs.drop o).take n)) } else none
   |_=>none
  |.list _=>some st
  |_=>none
 |.give slot site l S=>match st.f slot with
  |.vec 0 s' g o n q=>match Qh st.m 0 site with
   |.vec g' sz xs=>bif Nat.beq s' site&&Nat.beq g g'&&Nat.blt l st.m.length && !(Nat.beq l 0)&&QI (Qh st.m l S)&&Nat.blt S 2000 then some { st with m:=Am.put (Am.put st.m 0 site (.vec (g+1) sz [])) l S (.vec (QK st.m l S) sz xs),f:=Qt st.f slot (.vec l S (QK st.m l S) o n q) } else none
   |_=>none
  |_=>none

inductive RC where
 |skip
 |reg (Qg:List Item)
 |draw (Qg:List Item)
 |seq (a b:RC)
 |cond (c:RA) (a b:RC)
 |block (id:Nat) (a:RC)
 |loop (a:RC)
 |exit (id:Nat)
 |scope (a:RC)
 |lab
 |ret
 |gho (g:GO) (a:RC)
 |no

def Ks (f:St→Prop)(Q:Exit→St→Prop):Exit→St→Prop
 |.normal,st=>f st
 |e,st=>Q e st
def Kb (id:Nat)(Q:Exit→St→Prop):Exit→St→Prop
 |.exit i,st=>if i=id then Q .normal st else Q (.exit i) st
 |e,st=>Q e st
def Kg (Q:Exit→St→Prop):Exit→St→Prop
 |.goto _,_=>False
 |e,st=>Q e st

def QN (P:Program):RC→St→(Exit→St→Prop)→Prop
 |.skip,st,Q=>Q .normal st
 |.reg Qg,st,Q=>Qq P Qg st (Q .normal)
 |.draw Qg,st,Q=>Qq P Qg st (Q .normal)
 |.seq a b,st,Q=>QN P a st (Ks (fun st'=>QN P b st' Q) Q)
 |.cond c a b,st,Q=>∃t,c.ev st.f=.bool t∧(t=true→QN P a st Q)∧(t=false→QN P b st Q)
 |.block id a,st,Q=>QN P a st (Kb id Q)
 |.loop a,st,Q=>∃(I:Nat→St→Prop) (n:Nat),I n st∧∀n st',I n st'→QN P a st' (Ks (fun s=>∃k,k<n∧I k s) Q)
 |.exit id,st,Q=>Q (.exit id) st
 |.scope a,st,Q=>QN P a st (Kg Q)
 |.lab,st,Q=>Q .normal st
 |.ret,st,Q=>Q .ret st
 |.gho g a,st,Q=>∃st',JW g st=some st'∧QN P a st' Q
 |.no,_,_=>False

theorem Ra {G:Gh}{f:Fr}{a:Act}(hs:∀i,Rep G (f i) (a.tmps.getD i undef)){d:Nat}{x:AV}(hx:Rep G x (a.tmps.getD d undef)):∀i,Rep G (Qt f d x i) (a.tmps.getD i undef):=by
 intro i;by_cases hi:i=d
 ·subst hi;rw[QY];exact hx
 ·rw[Q2 _ _ hi];exact hs i

theorem A5 {G:Gh}{B N:Nat}{st st':St}{a:Act}{w:World}(h:Rel G B N st a w){g:GO}(hg:JW g st=some st'):∃G',Rel G' B N st' a w∧Ext 1 G w G' w:=by
 cases g with
 |vec slot site sz=>
  simp only[JW]at hg;split at hg
  ·rename_i hn;cases hro:QI (Qh st.m 0 site)with
   |false=>rw[hro]at hg;cases hg
   |true=>
    rw[hro]at hg;simp only[cond_true,QZb]at hg;subst hg;have hl:0<st.m.length:=QZZ.2 h.ne;obtain⟨h1,h2⟩:=h.vecput (w':=w) (sz:=sz) (cap:=0) (b:=none) (ys:=[]) hl hro (K5 h.mr hro) rfl rfl rfl (QYK _) (fun _ _ _=>rfl) (fun k e=>by cases e) ⟨by simp,rfl,rfl⟩ (.inl ⟨rfl,rfl⟩);refine⟨_,⟨h1.mr,h1.size,Ra h1.slots ?_,h1.ds,h1.base,h1.top,h1.ne⟩,h2⟩;have hs:=h.slots slot;rw[hn]at hs;generalize a.tmps.getD slot undef=v at hs;cases hs;exact .vec rfl (QZu (by simp[Gh.row])) fun _=>.inl ⟨by simp[Gh.row],rfl,rfl,none,rfl,fun _=>rfl⟩
  ·cases hg
 |drop s=>
  simp only[JW]at hg;cases hro:YQ st.m s with
  |false=>rw[hro]at hg;cases hg
  |true=>
   rw[hro]at hg;simp only[cond_true,QZb]at hg;subst hg;exact⟨_,h.drop s hro⟩
 |vecc s idx site sz=>
  simp only[JW]at hg;split at hg
  ·rename_i xs hlk;split at hg
   ·rename_i hn;cases hro:(QI (Qh st.m 0 site) && !(Nat.beq site s))with
    |false=>rw[hro]at hg;cases hg
    |true=>
     rw[hro]at hg;simp only[cond_true,QZb]at hg;subst hg;rw[QY7]at hro;have hne:s≠site:=fun e=>by
      have h2:=hro.2;rw[e]at h2;simp at h2
     have hl:0<st.m.length:=QZZ.2 h.ne;obtain⟨h1,h2⟩:=h.vecput (w':=w) (sz:=sz) (cap:=0) (b:=none) (ys:=[]) hl hro.1 (K5 h.mr hro.1) rfl rfl rfl (QYK _) (fun _ _ _=>rfl) (fun k e=>by cases e) ⟨by simp,rfl,rfl⟩ (.inl ⟨rfl,rfl⟩);have hlk':Qh (Am.put st.m 0 site (.vec (QK st.m 0 site) sz [])) 0 s=.cells xs:=by
      rw[QA (.inr hne)];exact hlk
     obtain⟨b,cs,hb,hsoft,hrep⟩:=h1.mr.cells 0 s xs hlk';obtain⟨v,hv,hr⟩:=hrep.at_ hn;have hvn:v=.slice none 0 0:=by cases hr;rfl
     subst hvn;have hset:cs.toList.set idx (.slice none 0 0)=cs.toList:=by
      obtain⟨hi,he⟩:=QYM.1 hv;rw[←he,List.set_getElem_self]
     have hrep':=hrep.set idx (x:=.vec 0 site (QK st.m 0 site) 0 0 false) (v:=.slice none 0 0) (.vec rfl (QZu (by simp[Gh.row,Gh.dn])) fun _=>.inl ⟨by simp[Gh.row,Gh.dn],rfl,rfl,none,rfl,fun _=>rfl⟩);rw[hset]at hrep';exact⟨_,⟨h1.mr.stored hlk' hb (Turned.refl b w) hsoft hrep',h1.size,h1.slots,h1.ds,h1.base,h1.top,J4 h1.ne⟩,h2⟩
   ·cases hg;exact⟨G,h,Ext.refl 1 G w⟩
   ·cases hg
  ·cases hg
 |pub slot site=>
  simp only[JW]at hg;split at hg
  ·rename_i s' g o n q hs;split at hg
   ·rename_i g' sz xs hlk;cases hb:(Nat.beq s' site&&Nat.beq g g'&&Nat.ble (o+n) xs.length)with
    |false=>rw[hb]at hg;cases hg
    |true=>
     rw[hb]at hg;simp only[cond_true,QZb]at hg;subst hg;simp only[QY7]at hb;obtain⟨⟨b1,b2⟩,b3⟩:=hb;have e1:=QYI b1;have e2:=QYI b2;subst e1 e2;exact h.publish hs hlk (Q0a b3)
   ·cases hg
  ·cases hg;exact⟨G,h,Ext.refl 1 G w⟩
  ·cases hg
 |give slot site l S=>
  simp only[JW]at hg;split at hg
  ·rename_i s' g o n q hs;split at hg
   ·rename_i g' sz xs hlk;cases hb:(Nat.beq s' site&&Nat.beq g g'&&Nat.blt l st.m.length && !(Nat.beq l 0)&&QI (Qh st.m l S)&&Nat.blt S 2000)with
    |false=>rw[hb]at hg;cases hg
    |true=>
     rw[hb]at hg;simp only[cond_true,QZb]at hg;subst hg;simp only[QY7]at hb;obtain⟨⟨⟨⟨⟨b1,b2⟩,b3⟩,b4⟩,b5⟩,b6⟩:=hb;have e1:=QYI b1;have e2:=QYI b2;subst e1 e2;have b4':l≠0:=fun e=>by rw[e]at b4;simp at b4
     exact h.give hs hlk (Q0a b3) b4' b5 (Q0a b6)
   ·cases hg
  ·cases hg

end Go.Proofs.YtafhmlkilcmniaaGreatDoor.Am

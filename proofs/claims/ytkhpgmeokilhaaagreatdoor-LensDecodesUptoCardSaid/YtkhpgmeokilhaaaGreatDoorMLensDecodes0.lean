/- Parts of the proof, in order. -/
import Derived.WalkKit
import Derived.WalkLawsBesides
import Derived.Lib.Builder
import Derived.Laws.Externs
import Derived.Laws.StructEq
import Derived.Laws.IdiomStrings
import Derived.MapKept
import Derived.Deep.AppendSrc
import Derived.Laws.MakeOwn
import Derived.Lib.UnsafeStr

namespace Go.Proofs.YtkhpgmeokilhaaaGreatDoor

set_option linter.defProp false in
def Qmq:=@Nat.eq_of_beq_eq_true
set_option linter.defProp false in
def Qmr:=@Nat.add_assoc
set_option linter.defProp false in
def Qms:=@Nat.le_refl
set_option linter.defProp false in
def Qmt:=@Nat.le_trans
set_option linter.defProp false in
def Qmu:=@List.getElem?_eq_some_iff
set_option linter.defProp false in
def Qmv:=@List.getElem?_eq_getElem
set_option linter.defProp false in
def Qmw:=@Bool.and_eq_true_iff
set_option linter.defProp false in
def Qmx:=@Option.map_eq_some_iff
set_option linter.defProp false in
def Qmy:=@Bool.or_eq_true
set_option linter.defProp false in
def Qmz:=@decide_eq_true_eq
set_option linter.defProp false in
def QmA:=@beq_iff_eq
set_option linter.defProp false in
def QmB:=@Array.getElem?_eq_some_iff
set_option linter.defProp false in
def QmC:=@if_neg
set_option linter.defProp false in
def QmD:=@if_pos
set_option linter.defProp false in
def QmE:=@Nat.zero_le
set_option linter.defProp false in
def QmF:=@Array.getD_eq_getD_getElem?
set_option linter.defProp false in
def QmG:=@Array.getElem?_setIfInBounds_self
set_option linter.defProp false in
def QmH:=@List.mem_iff_getElem?
set_option linter.defProp false in
def QmI:=@List.all_eq_true
set_option linter.defProp false in
def QmJ:=@List.mem_of_getElem?
set_option linter.defProp false in
def QmK:=@List.length_cons
set_option linter.defProp false in
def QmL:=@List.mem_cons_of_mem
set_option linter.defProp false in
def QmM:=@Array.getElem?_eq_getElem
set_option linter.defProp false in
def QmN:=@List.mem_cons_self
set_option linter.defProp false in
def QmO:=@Bool.false_eq_true
set_option linter.defProp false in
def QmP:=@List.take_succ_eq_append_getElem
set_option linter.defProp false in
def QmQ:=@List.append_assoc
set_option linter.defProp false in
def QmR:=@List.cons_append
set_option linter.defProp false in
def QmS:=@List.nil_append
set_option linter.defProp false in
def QmT:=@Bool.and_eq_true
set_option linter.defProp false in
def QmU:=@Nat.zero_add
set_option linter.defProp false in
def QmV:=@Option.map_some
set_option linter.defProp false in
def QmW:=@Option.some.injEq
set_option linter.defProp false in
def QmX:=@Option.isSome_iff_exists
set_option linter.defProp false in
def QmY:=@bne_iff_ne
set_option linter.defProp false in
def QmZ:=@Array.getElem?_toList
set_option linter.defProp false in
def Qm0:=@List.drop_drop
set_option linter.defProp false in
def Qm1:=@Array.length_toList
set_option linter.defProp false in
def Qm2:=@Nat.add_zero
set_option linter.defProp false in
def Qm3:=@List.map_cons
set_option linter.defProp false in
def Qm4:=@List.take_succ_cons
set_option linter.defProp false in
def Qm5:=@List.take_of_length_le
set_option linter.defProp false in
def Qm6:=@Nat.add_mul
set_option linter.defProp false in
def Qm7:=@List.drop_succ_cons
set_option linter.defProp false in
def Qm8:=@List.drop_of_length_le
set_option linter.defProp false in
def Qm9:=@List.length_append
set_option linter.defProp false in
def Qna:=@List.getElem?_take
set_option linter.defProp false in
def Qnb:=@List.getElem?_drop
set_option linter.defProp false in
def Qnc:=@List.length_drop
set_option linter.defProp false in
def Qnd:=@List.drop_zero
set_option linter.defProp false in
def Qne:=@List.drop_eq_getElem_cons
set_option linter.defProp false in
def Qnf:=@Nat.le_of_eq
set_option linter.defProp false in
def Qng:=@Bool.and_assoc
set_option linter.defProp false in
def Qnh:=@List.mem_flatMap
set_option linter.defProp false in
def Qni:=@List.mem_of_mem_drop
set_option linter.defProp false in
def Qnj:=@List.mem_of_mem_take
set_option linter.defProp false in
def Qnk:=@Nat.eq_zero_or_pos
set_option linter.defProp false in
def Qnl:=@Option.isSome_none
set_option linter.defProp false in
def Qnm:=@true_and
set_option linter.defProp false in
def Qnn:=@List.getElem_mem
set_option linter.defProp false in
def Qno:=@Bool.or_eq_false_iff
set_option linter.defProp false in
def Qnp:=@Bool.eq_iff_iff
set_option linter.defProp false in
def Qnq:=@List.length_map
set_option linter.defProp false in
def Qnr:=@List.length_nil
set_option linter.defProp false in
def Qns:=@List.length_take
set_option linter.defProp false in
def Qnt:=@Bool.not_eq_true'
set_option linter.defProp false in
def Qnu:=@Nat.sub_zero
set_option linter.defProp false in
def Qnv:=@Option.any_eq_true
set_option linter.defProp false in
def Qnw:=@List.map_toArray
set_option linter.defProp false in
def Qnx:=@List.map_nil
set_option linter.defProp false in
def Qny:=@List.getElem?_cons_zero
set_option linter.defProp false in
def Qnz:=@List.append_nil
set_option linter.defProp false in
def QnA:=@List.size_toArray
set_option linter.defProp false in
def QnB:=@List.eq_nil_of_length_eq_zero
set_option linter.defProp false in
def QnC:=@Nat.mul_le_mul_right
set_option linter.defProp false in
def QnD:=@List.getElem?_cons_succ
set_option linter.defProp false in
def QnE:=@Bool.not_false
set_option linter.defProp false in
def QnF:=@List.take_zero
set_option linter.defProp false in
def QnG:=@beq_self_eq_true
set_option linter.defProp false in
def QnH:=@Option.getD_some
set_option linter.defProp false in
def QnI:=@List.all_cons
set_option linter.defProp false in
def QnJ:=@List.all_nil
set_option linter.defProp false in
def QnK:=@Bool.and_true
set_option linter.defProp false in
def QnL:=@List.drop_nil
set_option linter.defProp false in
def QnM:=@Nat.min_eq_left
set_option linter.defProp false in
def QnN:=@List.take_append_drop
set_option linter.defProp false in
def QnO:=@List.all_append
set_option linter.defProp false in
def QnP:=@List.mem_append
set_option linter.defProp false in
def QnQ:=@List.mem_map
set_option linter.defProp false in
def QnR:=@List.length_pos_iff
set_option linter.defProp false in
def QnS:=@List.mem_cons
set_option linter.defProp false in
def QnT:=@List.getElem?_map
set_option linter.defProp false in
def QnU:=@List.getElem?_eq_none
set_option linter.defProp false in
def QnV:=@Int.le_refl
set_option linter.defProp false in
def QnW:=@List.getElem?_append_left
set_option linter.defProp false in
def QnX:=@List.getElem?_append_right
set_option linter.defProp false in
def QnY:=@Int.toNat_natCast
set_option linter.defProp false in
def QnZ:=@Nat.le_of_ble_eq_true
set_option linter.defProp false in
def Qn0:=@List.flatMap_cons
set_option linter.defProp false in
def Qn1:=@Bool.false_and
set_option linter.defProp false in
def Qn2:=@List.length_singleton
set_option linter.defProp false in
def Qn3:=@List.mem_filter
set_option linter.defProp false in
def Qn4:=@List.mem_range
set_option linter.defProp false in
def Qn5:=@List.pairwise_cons
set_option linter.defProp false in
def Qn6:=@List.pairwise_append
set_option linter.defProp false in
def Qn7:=@List.filter_cons
set_option linter.defProp false in
def Qn8:=@Option.getD_none
set_option linter.defProp false in
def Qn9:=@List.take_length
set_option linter.defProp false in
def Qoa:=@List.any_eq_true
set_option linter.defProp false in
def Qob:=@And.intro
set_option linter.defProp false in
def Qoc:=@Bool.true_and
set_option linter.defProp false in
def Qod:=@Bool.not_true
set_option linter.defProp false in
def Qoe:=@Bool.and_false
set_option linter.defProp false in
def Qof:=@Int.eq_ofNat_of_zero_le
set_option linter.defProp false in
def Qog:=@Bool.true_or
set_option linter.defProp false in
def Qoh:=@Bool.false_or
set_option linter.defProp false in
def Qoi:=@beq_eq_false_iff_ne
set_option linter.defProp false in
def Qoj:=@List.map_append
set_option linter.defProp false in
def Qok:=@List.take_add_one
set_option linter.defProp false in
def Qol:=@List.map_congr_left
set_option linter.defProp false in
def Qom:=@List.map_map
set_option linter.defProp false in
def Qon:=@List.find?_cons
set_option linter.defProp false in
def Qoo:=@decide_eq_false
set_option linter.defProp false in
def Qop:=@Option.isSome_some
set_option linter.defProp false in
def Qoq:=@Bool.eq_false_iff
set_option linter.defProp false in
def Qor:=@List.find?_eq_none
set_option linter.defProp false in
def Qos:=@List.mem_of_find?_eq_some
set_option linter.defProp false in
def Qot:=@List.find?_some
set_option linter.defProp false in
def Qou:=@decide_eq_true
set_option linter.defProp false in
def Qov:=@decide_eq_false_iff_not
set_option linter.defProp false in
def Qow:=@Bool.or_false
set_option linter.defProp false in
def Qox:=@Bool.or_true
set_option linter.defProp false in
def Qoy:=@Bool.and_eq_false_iff
set_option linter.defProp false in
def Qoz:=@List.getElem?_set_ne
set_option linter.defProp false in
def QoA:=@Bool.not_eq_true
set_option linter.defProp false in
def QoB:=@Bool.true_eq_false
set_option linter.defProp false in
def QoC:=@Nat.not_lt_zero
set_option linter.defProp false in
def QoD:=@List.length_eq_zero_iff
set_option linter.defProp false in
def QoE:=@Int.natCast_add
set_option linter.defProp false in
def QoF:=@List.not_mem_nil
set_option linter.defProp false in
def QoG:=@List.mem_singleton
set_option linter.defProp false in
def QoH:=@List.pairwise_singleton
set_option linter.defProp false in
def QoI:=@List.pairwise_iff_getElem
set_option linter.defProp false in
def QoJ:=@List.sum_cons
set_option linter.defProp false in
def QoK:=@List.getElem_of_mem
set_option linter.defProp false in
def QoL:=@Int.fdiv_eq_ediv_of_nonneg
set_option linter.defProp false in
def QoM:=@List.getElem?_of_mem

end Go.Proofs.YtkhpgmeokilhaaaGreatDoor

namespace Go.Proofs.YtkhpgmeokilhaaaGreatDoor.Am
open Go
def N2:List (Nat×List Value):=[(2,[.int .i64 1,.int .i64 2,.int .i64 2,.int .i64 1,.int .i64 1,.int .i64 6,.int .i64 7,.int .i64 7,.int .i64 1,.int .i64 1,.int .i64 2,.int .i64 2,.int .i64 2,.int .i64 2,.int .i64 6,.int .i64 7,.int .i64 7,.int .i64 2,.int .i64 1,.int .i64 2,.int .i64 2,.int .i64 2,.int .i64 2,.int .i64 6,.int .i64 7,.int .i64 8,.int .i64 9]),(0,[.int .u64 0,.int .u64 1,.int .u64 2147483648,.int .u64 2147483647,.int .u64 9223372036854775808,.int .u64 9223372036854775807,.int .u64 0,.int .u64 4294967295,.int .u64 0,.int .u64 18446744073709551615,.int .u64 0,.int .u64 0,.int .u64 0,.int .u64 0,.int .u64 0,.int .u64 0,.int .u64 0,.int .u64 2147483647])]

inductive MK where
 |s (l:List UInt8)
 |n (i:Int)
def MK.t:MK→Bool
 |.s _=>true
 |.n _=>false
def MK.v:MK→Value
 |.s l=>.string ⟨⟨l⟩⟩
 |.n i=>.int .i64 i
def MK.eq:MK→MK→Bool
 |.s a,.s b=>a==b
 |.n a,.n b=>a==b
 |_,_=>false

inductive AV where
 |top
 |int (k:IntKind) (n:Int)
 |bool (b:Bool)
 |str (s:List UInt8)
 |nils|nilp|nilf|nili|nilm
 |list (l:List AV)
 |agg (l:List AV)
 |tup (l:List AV)
 |iface (t:TypeId) (x:AV)
 |fn (f:Fn) (first cap:List AV)
 |ptr (lvl site off:Nat)
 |vec (lvl site gen off n:Nat) (Dh:Bool)
 |vptr (lvl site gen idx off:Nat)
 |rptr (l:List AV)
 |anyp
 |lcap (l:List AV)
 |mp (ks:List MK) (vs:List AV)
 |mptr (lvl site:Nat)
 deriving Inhabited

inductive IT where
 |str (t:List UInt8)
 |mp (ks:List MK) (vs:List AV)
 deriving Inhabited

inductive Ob where
 |none
 |cells (l:List AV)
 |vec (gen sz:Nat) (l:List AV)
 |iter (t:IT) (p:Nat)
 deriving Inhabited

abbrev Fr:=Nat→AV
abbrev Qh:=List (Nat→Ob)

structure DF where
 fn:Fn
 cap:List AV
 args:List AV

structure St where
 f:Fr
 m:Qh
 ds:List DF

def QG {α:Type}(f:Nat→α)(d:Nat)(x:α):Nat→α:=fun i=>bif Nat.beq i d then x else f i

theorem QU {α:Type}(f:Nat→α)(d:Nat)(x:α):QG f d x d=x:=by simp[QG]
theorem QX {α:Type}(f:Nat→α){d i:Nat}(x:α)(h:i≠d):QG f d x i=f i:=by
 have:Nat.beq i d=false:=by
  cases h':Nat.beq i d with
  |false=>rfl
  |true=>exact absurd (Qmq h') h
 simp[QG,this]

def AV.cells:AV→List AV
 |.agg l=>l
 |x=>[x]

def QK (l:List AV):List AV:=l.flatMap AV.cells

def AV.leaf:AV→Bool
 |.agg _|.tup _|.top=>false
 |_=>true

mutual
def AV.rf:AV→Bool
 |.ptr .. | .vec .. | .vptr .. | .rptr _|.mptr .. => false
 |.agg l|.tup l=>AV.rfL l
 |.iface _ x=>x.rf
 |.fn _ a b=>AV.rfL a&&AV.rfL b
 |_=>true
def AV.rfL:List AV→Bool
 | []=>true
 |x :: l=>x.rf&&AV.rfL l
end

mutual
def AV.sh:AV→AV
 |.ptr l s o=>.ptr (l+1) s o
 |.vec l s g o n q=>.vec (l+1) s g o n q
 |.vptr l s g i o=>.vptr (l+1) s g i o
 |.mptr l s=>.mptr (l+1) s
 |.agg l=>.agg (AV.shL l)
 |.tup l=>.tup (AV.shL l)
 |.iface t x=>.iface t x.sh
 |.fn f a b=>.fn f (AV.shL a) (AV.shL b)
 |x=>x
def AV.shL:List AV→List AV
 | []=>[]
 |x :: l=>x.sh :: AV.shL l
end

def AV.shN:Nat→AV→AV
 |0,x=>x
 |n+1,x=>(x.shN n).sh

mutual
def AV.un:AV→Option AV
 |.ptr 0 _ _|.vec 0 _ _ _ _ _|.vptr 0 _ _ _ _|.mptr 0 _=>none
 |.ptr (l+1) s o=>some (.ptr l s o)
 |.vec (l+1) s g o n q=>some (.vec l s g o n q)
 |.vptr (l+1) s g i o=>some (.vptr l s g i o)
 |.mptr (l+1) s=>some (.mptr l s)
 |.agg l=>(AV.unL l).map .agg
 |.tup l=>(AV.unL l).map .tup
 |.iface t x=>x.un.map (.iface t)
 |.fn f a b=>match AV.unL a,AV.unL b with
  |some a,some b=>some (.fn f a b)
  |_,_=>none
 |x=>some x
def AV.unL:List AV→Option (List AV)
 | []=>some []
 |x :: l=>match x.un,AV.unL l with
  |some x,some l=>some (x :: l)
  |_,_=>none
end

mutual
def AV.scrub (s:Nat):AV→AV
 |.ptr 0 t o=>bif Nat.beq t s then .top else .ptr 0 t o
 |.mptr 0 t=>bif Nat.beq t s then .top else .mptr 0 t
 |.agg l=>.agg (AV.scrubL s l)
 |.tup l=>.tup (AV.scrubL s l)
 |.iface t x=>.iface t (x.scrub s)
 |.fn f a b=>.fn f (AV.scrubL s a) (AV.scrubL s b)
 |x=>x
def AV.scrubL (s:Nat):List AV→List AV
 | []=>[]
 |x :: l=>x.scrub s :: AV.scrubL s l
end

def Ob.scrub (s:Nat):Ob→Ob
 |.cells l=>.cells (AV.scrubL s l)
 |o=>o

def DF.scrub (s:Nat)(d:DF):DF:={ d with cap:=AV.scrubL s d.cap,args:=AV.scrubL s d.args }

def Qc:Qh→Nat→Nat→Ob
 | [],_,_=>.none
 |fr :: _,0,s=>fr s
 |_ :: m,l+1,s=>Qc m l s

def put:Qh→Nat→Nat→Ob→Qh
 | [],_,_,_=>[]
 |fr :: m,0,s,o=>QG fr s o :: m
 |fr :: m,l+1,s,o=>fr :: put m l s o

def WW (s:Nat):Qh→Qh
 | []=>[]
 |fr :: m=>(fun i=>(fr i).scrub s) :: m

def St.fresh (st:St)(s:Nat)(l:List AV):St :=
 { f:=fun i=>(st.f i).scrub s,m:=put (WW s st.m) 0 s (.cells (AV.scrubL s l)),ds:=st.ds.map (DF.scrub s) }

mutual
def AV.still (own:Bool)(m:Qh):AV→Option AV
 |.nils=>some (.list [])
 |.lcap l=>some (.list l)
 |.vec l s g o n q=>if own&&l != 0 then some (.vec l s g o n q)else
  match Qc m l s with
  |.vec g' _ xs=>if g=g'∧o+n≤xs.length then some (.list ((xs.drop o).take n))else none
  |_=>none
 |.mptr l s=>if own&&l != 0 then some (.mptr l s)else if own then match Qc m 0 s with
  |.iter (.mp ks vs) _=>some (.mp ks vs)
  |_=>none else none
 |.agg l=>(AV.stillL own m l).map .agg
 |.tup l=>(AV.stillL own m l).map .tup
 |.iface t x=>(x.still own m).map (.iface t)
 |x=>some x
def AV.stillL (own:Bool)(m:Qh):List AV→Option (List AV)
 | []=>some []
 |x :: l=>match x.still own m,AV.stillL own m l with
  |some x,some l=>some (x :: l)
  |_,_=>none
end

mutual
def AV.gv:AV→Value
 |.int k n=>.int k n
 |.bool b=>.bool b
 |.str s=>.string ⟨⟨s⟩⟩
 |.agg l=>.agg ⟨AV.gvL l⟩
 |.fn f _ _=>.func f #[] #[]
 |_=>.tuple #[]
def AV.gvL:List AV→List Value
 | []=>[]
 |x :: l=>x.gv :: AV.gvL l
end
mutual
def AV.gr:AV→Bool
 |.int .. | .bool _|.str _=>true
 |.agg l=>AV.grL l
 |.fn _ a b=>a.isEmpty&&b.isEmpty
 |_=>false
def AV.grL:List AV→Bool
 | []=>true
 |x :: l=>x.gr&&AV.grL l
end

def ZS:List MK→List AV→Nat→List MapEntry
 |k :: ks,v :: vs,i=>{ key:=k.v,val:=v.gv,born:=i } :: ZS ks vs (i+1)
 |_,_,_=>[]
def IT.obj:IT→Nat→Obj
 |.str t,p=>.stringIter ⟨⟨t⟩⟩ p
 |.mp ks vs,_=>.map ⟨ZS ks vs 0⟩ (ZS ks vs 0).length

inductive SV where
 |cell (v:Value)
 |mapo (es:Array MapEntry) (c:Nat)
 |siz (n:Nat)
def rd (w:World)(b o:Nat):SV→Prop
 |.cell v=>w.cell? ⟨b,o,none⟩=some v
 |.mapo es c=>w.heap[b]? = some (.map es c)
 |.siz n=>∃cs t fz,w.heap[b]? = some (.cells cs t fz)∧cs.size=n∧o=n
def sv (w:World)(b o:Nat):Option SV:=match w.heap[b]? with
 |some (.map es c)=>some (.mapo es c)
 |some (.cells cs _ _)=>if o=cs.size then some (.siz o)else(w.cell? ⟨b,o,none⟩).map .cell
 |_=>(w.cell? ⟨b,o,none⟩).map .cell

def Jb (b o:Nat):Option SV:=match N2.lookup b with
 |some l=>if o=l.length then some (.siz o)else(l[o]?).map .cell
 |none=>none
def HC (w:World):Prop:=∀b o v,Jb b o=some v→rd w b o v

structure Gh where
 stab:Nat→Nat→Option SV             -- cells (and maps) that are never written again
 nm:Nat→Nat→Option Nat              -- the block of a variable
 vm:Nat→Nat→Option Nat              -- the block of a row
 vc:Nat→Nat→Nat                     -- its capacity
 vg:Nat→Nat→Nat                     -- its generation
 vz:Nat→Nat→Nat                     -- cells an element
 tab:∀b o v,Jb b o=some v→stab b o=some v

def Gh.dn (G:Gh)(l:Nat):Gh :=
 { stab:=G.stab,nm:=fun i s=>G.nm (i+l) s,vm:=fun i s=>G.vm (i+l) s,vc:=fun i s=>G.vc (i+l) s,vg:=fun i s=>G.vg (i+l) s,vz:=fun i s=>G.vz (i+l) s,tab:=G.tab }

mutual
inductive Rep (G:Gh):AV→Value→Prop
 |top (v:Value):Rep G .top v
 |int (k:IntKind) (n:Int):Rep G (.int k n) (.int k n)
 |bool (b:Bool):Rep G (.bool b) (.bool b)
 |str (s:List UInt8):Rep G (.str s) (.string ⟨⟨s⟩⟩)
 |nils:Rep G .nils (.slice none 0 0)
 |nilp:Rep G .nilp (.pointer none)
 |nilf:Rep G .nilf .nilFunc
 |nili:Rep G .nili .nilIface
 |nilm:Rep G .nilm (.map none)
 |anyp (p:Option Addr):Rep G .anyp (.pointer p)
 |list {l:List AV} {cs:List Value} {A:Option Addr} {n cap sz:Nat} (hc:RepL G (QK l) cs) (hz:∀x∈l,x.cells.length=sz) (hf:AV.rfL (QK l)=true) (hl:(QK l).all AV.leaf=true)
   (hs:∀j u,cs[j]? = some u→∃b o,A=some ⟨b,o,none⟩∧G.stab b (o+j)=some (.cell u)) (hn:n=l.length) (hcap:n≤cap) (hm:n≤maxLen):Rep G (.list l) (.slice A n cap)
 |lcap {l:List AV} {cs:List Value} {A:Option Addr} {n sz:Nat} (hc:RepL G (QK l) cs) (hz:∀x∈l,x.cells.length=sz) (hf:AV.rfL (QK l)=true) (hl:(QK l).all AV.leaf=true)
   (hs:∀j u,cs[j]? = some u→∃b o,A=some ⟨b,o,none⟩∧G.stab b (o+j)=some (.cell u)) (hn:n=l.length) (hm:n≤maxLen):Rep G (.lcap l) (.slice A n n)
 |agg {l:List AV} {vs:List Value} (h:RepL G l vs):Rep G (.agg l) (.agg ⟨vs⟩)
 |tup {l:List AV} {vs:List Value} (h:RepL G l vs):Rep G (.tup l) (.tuple ⟨vs⟩)
 |iface {t:TypeId} {x:AV} {v:Value} (h:Rep G x v):Rep G (.iface t x) (.iface t v)
 |fn {f:Fn} {a b:List AV} {va vb:List Value} (ha:RepL G a va) (hb:RepL G b vb):Rep G (.fn f a b) (.func f ⟨va⟩ ⟨vb⟩)
 |ptr {l s o b:Nat} (h:G.nm l s=some b):Rep G (.ptr l s o) (.pointer (some ⟨b,o,none⟩))
 |vec {l s g o n:Nat} {q:Bool} {v:Value} (hv:v.oneCell'=true) (hg:g≤G.vg l s) (h:g=G.vg l s→(G.vm l s=none∧o=0∧n=0∧∃A,v=.slice A 0 0∧(2000≤s→A=none))∨
   ∃b A c,G.vm l s=some b∧o+n≤G.vc l s∧v=.slice (some A) n c∧n≤c∧c≤maxLen∧(q=false→c=G.vc l s-o)∧((o<G.vc l s∨o=0)∧(q=false∨0<n)→A=⟨b,o*G.vz l s,none⟩)):Rep G (.vec l s g o n q) v
 |vptr {l s g i o:Nat} {v:Value} (hv:v.oneCell'=true) (hg:g≤G.vg l s) (h:g=G.vg l s→∃b,G.vm l s=some b∧v=.pointer (some ⟨b,i*G.vz l s+o,none⟩)):Rep G (.vptr l s g i o) v
 |mp {ks:List MK} {vs:List AV} {b:Nat} (h:G.stab b 0=some (.mapo ⟨ZS ks vs 0⟩ (ZS ks vs 0).length)):Rep G (.mp ks vs) (.map (some b))
 |mptr {l s b:Nat} (h:G.nm l s=some b):Rep G (.mptr l s) (.map (some b))
 |rptr {l:List AV} {cs:List Value} {b o:Nat} (hc:RepL G l cs) (hf:AV.rfL l=true) (hl:l.all AV.leaf=true) (hs:∀j u,cs[j]? = some u→G.stab b (o+j)=some (.cell u)):Rep G (.rptr l) (.pointer (some ⟨b,o,none⟩))
inductive RepL (G:Gh):List AV→List Value→Prop
 |nil:RepL G [] []
 |cons {x:AV} {v:Value} {l:List AV} {vs:List Value} (h:Rep G x v) (t:RepL G l vs):RepL G (x :: l) (v :: vs)
end

theorem Gh.dn_dn (G:Gh)(a b:Nat):(G.dn a).dn b=G.dn (b+a):=by
 simp only[Gh.dn,Qmr]

structure Gle (G G':Gh):Prop where
 stab:∀b o v,G.stab b o=some v→G'.stab b o=some v
 nm:∀l s b,G.nm l s=some b→G'.nm l s=some b
 vg:∀l s,G.vg l s≤G'.vg l s
 vs:∀l s,G'.vg l s=G.vg l s→G'.vm l s=G.vm l s∧G'.vc l s=G.vc l s∧G'.vz l s=G.vz l s

theorem Gle.refl (G:Gh):Gle G G:=⟨fun _ _ _ h=>h,fun _ _ _ h=>h,fun _ _=>Qms _,fun _ _ _=>⟨rfl,rfl,rfl⟩⟩
theorem Gle.trans {a b c:Gh}(h:Gle a b)(k:Gle b c):Gle a c :=
 ⟨fun x o v e=>k.stab x o v (h.stab x o v e),fun l s b e=>k.nm l s b (h.nm l s b e),fun l s=>Qmt (h.vg l s) (k.vg l s),fun l s e=>by
  have h1:=h.vg l s;have h2:=k.vg l s;obtain⟨a1,a2,a3⟩:=h.vs l s (by omega);obtain⟨b1,b2,b3⟩:=k.vs l s (by omega);exact⟨b1.trans a1,b2.trans a2,b3.trans a3⟩⟩
theorem Gle.dn {G G':Gh}(h:Gle G G')(l:Nat):Gle (G.dn l) (G'.dn l) :=
 ⟨h.stab,fun i s b e=>h.nm (i+l) s b e,fun i s=>h.vg (i+l) s,fun i s e=>h.vs (i+l) s e⟩

mutual
theorem Rep.mono {G G':Gh}(hg:Gle G G'):∀ {x:AV} {v:Value},Rep G x v→Rep G' x v
 |_,_,.top v=>.top v
 |_,_,.int k n=>.int k n
 |_,_,.bool b=>.bool b
 |_,_,.str s=>.str s
 |_,_,.nils=>.nils
 |_,_,.nilp=>.nilp
 |_,_,.nilf=>.nilf
 |_,_,.nili=>.nili
 |_,_,.nilm=>.nilm
 |_,_,.anyp p=>.anyp p
 |_,_,.list hc hz hf hl hs hn hcap hm=>.list (RepL.mono hg hc) hz hf hl (fun j u h=>by
   obtain⟨b,o,e,h'⟩:=hs j u h;exact⟨b,o,e,hg.stab _ _ _ h'⟩) hn hcap hm
 |_,_,.lcap hc hz hf hl hs hn hm=>.lcap (RepL.mono hg hc) hz hf hl (fun j u h=>by
   obtain⟨b,o,e,h'⟩:=hs j u h;exact⟨b,o,e,hg.stab _ _ _ h'⟩) hn hm
 |_,_,.agg h=>.agg (RepL.mono hg h)
 |_,_,.tup h=>.tup (RepL.mono hg h)
 |_,_,.iface h=>.iface (Rep.mono hg h)
 |_,_,.fn ha hb=>.fn (RepL.mono hg ha) (RepL.mono hg hb)
 |_,_,.ptr h=>.ptr (hg.nm _ _ _ h)
 |_,_,.mp h=>.mp (hg.stab _ _ _ h)
 |_,_,.mptr h=>.mptr (hg.nm _ _ _ h)
 |_,_,.vec (l:=l) (s:=s) hv hl h=>.vec hv (Qmt hl (hg.vg _ _)) (fun e=>by
   have h1:=hg.vg l s;obtain⟨a1,a2,a3⟩:=hg.vs l s (by omega);rw[a1,a2,a3];exact h (by omega))
 |_,_,.vptr (l:=l) (s:=s) hv hl h=>.vptr hv (Qmt hl (hg.vg _ _)) (fun e=>by
   have h1:=hg.vg l s;obtain⟨a1,_,a3⟩:=hg.vs l s (by omega);rw[a1,a3];exact h (by omega))
 |_,_,.rptr hc hf hl hs=>.rptr (RepL.mono hg hc) hf hl (fun j u h=>hg.stab _ _ _ (hs j u h))
theorem RepL.mono {G G':Gh}(hg:Gle G G'):∀ {x:List AV} {v:List Value},RepL G x v→RepL G' x v
 |_,_,.nil=>.nil
 |_,_,.cons h t=>.cons (Rep.mono hg h) (RepL.mono hg t)
end

theorem Rep.unlcap {G:Gh}{l:List AV}{v:Value}(h:Rep G (.lcap l) v):Rep G (.list l) v:=by
 cases h with
 |lcap hc hz hf hl hs hn hm=>exact .list hc hz hf hl hs hn (Qms _) hm

theorem Rep.tolcap {G:Gh}{l:List AV}{A:Option Addr}{n:Nat}(h:Rep G (.list l) (.slice A n n)):Rep G (.lcap l) (.slice A n n):=by
 cases h with
 |list hc hz hf hl hs hn hcap hm=>exact .lcap hc hz hf hl hs hn hm

theorem RepL.length {G:Gh}{l:List AV}{vs:List Value}(h:RepL G l vs):vs.length=l.length:=by
 induction l generalizing vs with
 |nil=>cases h;rfl
 |cons x l ih=>cases h with|cons h t=>simp[ih t]

theorem RepL.at_ {G:Gh}{l:List AV}{vs:List Value}(h:RepL G l vs){i:Nat}{x:AV}(hx:l[i]? = some x):∃v,vs[i]? = some v∧Rep G x v:=by
 induction l generalizing vs i with
 |nil=>simp at hx
 |cons y l ih=>
  cases h with
  |cons h t=>
   cases i with
   |zero=>simp at hx;subst hx;exact⟨_,rfl,h⟩
   |succ i=>simp at hx;simpa using ih t hx

theorem RepL.back {G:Gh}{l:List AV}{vs:List Value}(h:RepL G l vs){i:Nat}{v:Value}(hx:vs[i]? = some v):∃x,l[i]? = some x∧Rep G x v:=by
 have hl:=h.length;have:i<l.length:=by rw[←hl];exact(Qmu.1 hx).1
 obtain⟨v',e,r⟩:=h.at_ (Qmv this);rw[hx]at e
 injection e with e
 subst e;exact⟨_,Qmv this,r⟩

theorem RepL.append {G:Gh}{l l':List AV}{vs vs':List Value}(h:RepL G l vs)(h':RepL G l' vs'):RepL G (l++l') (vs++vs'):=by
 induction l generalizing vs with
 |nil=>cases h;exact h'
 |cons x l ih=>cases h with|cons h t=>exact .cons h (ih t)

theorem RepL.take {G:Gh}{l:List AV}{vs:List Value}(h:RepL G l vs)(n:Nat):RepL G (l.take n) (vs.take n):=by
 induction l generalizing vs n with
 |nil=>cases h;simp;exact .nil
 |cons x l ih=>
  cases h with
  |cons h t=>
   cases n with
   |zero=>simp;exact .nil
   |succ n=>simp;exact .cons h (ih t n)

theorem RepL.drop {G:Gh}{l:List AV}{vs:List Value}(h:RepL G l vs)(n:Nat):RepL G (l.drop n) (vs.drop n):=by
 induction l generalizing vs n with
 |nil=>cases h;simp;exact .nil
 |cons x l ih=>
  cases h with
  |cons h t=>
   cases n with
   |zero=>simp;exact .cons h t
   |succ n=>simp;exact ih t n

theorem RepL.set {G:Gh}{l:List AV}{vs:List Value}(h:RepL G l vs)(n:Nat){x:AV}{v:Value}(hx:Rep G x v):RepL G (l.set n x) (vs.set n v):=by
 induction l generalizing vs n with
 |nil=>cases h;simp;exact .nil
 |cons y l ih=>
  cases h with
  |cons h t=>
   cases n with
   |zero=>simp;exact .cons hx t
   |succ n=>simp;exact .cons h (ih t n)

theorem RepL.of_all {G:Gh}{l:List AV}{vs:List Value}(hl:vs.length=l.length)(h:∀(i:Nat) x v,l[i]? = some x→vs[i]? = some v→Rep G x v):RepL G l vs:=by
 induction l generalizing vs with
 |nil=>cases vs with|nil=>exact .nil|cons _ _=>simp at hl
 |cons x l ih=>
  cases vs with
  |nil=>simp at hl
  |cons v vs=>exact .cons (h 0 x v rfl rfl) (ih (by simpa using hl) (fun i y u hy hu=>h (i+1) y u (by simpa using hy) (by simpa using hu)))

theorem Rep.leaf {G:Gh}{x:AV}{v:Value}(h:Rep G x v)(hl:x.leaf=true):v.oneCell'=true:=by
 cases h with
 |top=>simp[AV.leaf]at hl
 |agg=>simp[AV.leaf]at hl
 |tup=>simp[AV.leaf]at hl
 |vec hv=>exact hv
 |vptr hv=>exact hv
 |_=>rfl

def Gh.sameStab (G G':Gh):Prop:=∀b o v,G.stab b o=some v→G'.stab b o=some v

mutual
theorem Rep.rfd {G G':Gh}(hg:G.sameStab G'):∀ {x:AV} {v:Value},x.rf=true→Rep G x v→Rep G' x v
 |_,_,_,.top v=>.top v
 |_,_,_,.int k n=>.int k n
 |_,_,_,.bool b=>.bool b
 |_,_,_,.str s=>.str s
 |_,_,_,.nils=>.nils
 |_,_,_,.nilp=>.nilp
 |_,_,_,.nilf=>.nilf
 |_,_,_,.nili=>.nili
 |_,_,_,.nilm=>.nilm
 |_,_,_,.anyp p=>.anyp p
 |_,_,_,.list hc hz hf hl hs hn hcap hm=>.list (RepL.rfd hg hf hc) hz hf hl (fun j u h=>by
   obtain⟨b,o,e,h'⟩:=hs j u h;exact⟨b,o,e,hg _ _ _ h'⟩) hn hcap hm
 |_,_,_,.lcap hc hz hf hl hs hn hm=>.lcap (RepL.rfd hg hf hc) hz hf hl (fun j u h=>by
   obtain⟨b,o,e,h'⟩:=hs j u h;exact⟨b,o,e,hg _ _ _ h'⟩) hn hm
 |_,_,hr,.agg h=>.agg (RepL.rfd hg hr h)
 |_,_,hr,.tup h=>.tup (RepL.rfd hg hr h)
 |_,_,hr,.iface h=>.iface (Rep.rfd hg hr h)
 |_,_,hr,.fn ha hb=>by
   have h2:=Qmw.1 hr;exact .fn (RepL.rfd hg h2.1 ha) (RepL.rfd hg h2.2 hb)
 |_,_,hr,.ptr h=>by cases hr
 |_,_,hr,.mp h=>.mp (hg _ _ _ h)
 |_,_,hr,.mptr h=>by cases hr
 |_,_,hr,.vec hv hl h=>by cases hr
 |_,_,hr,.vptr hv hl h=>by cases hr
 |_,_,hr,.rptr hc hf hl hs=>by cases hr
theorem RepL.rfd {G G':Gh}(hg:G.sameStab G'):∀ {x:List AV} {v:List Value},AV.rfL x=true→RepL G x v→RepL G' x v
 |_,_,_,.nil=>.nil
 |_,_,hr,.cons h t=>by
   have h2:=Qmw.1 hr;exact .cons (Rep.rfd hg h2.1 h) (RepL.rfd hg h2.2 t)
end

theorem RepL.ofrf {G:Gh}{l:Nat}{x:List AV}{v:List Value}(hr:AV.rfL x=true)(h:RepL (G.dn l) x v):RepL G x v:=RepL.rfd (G:=G.dn l) (G':=G) (fun _ _ _ h=>h) hr h
theorem RepL.torf {G:Gh}{l:Nat}{x:List AV}{v:List Value}(hr:AV.rfL x=true)(h:RepL G x v):RepL (G.dn l) x v:=RepL.rfd (G:=G) (G':=G.dn l) (fun _ _ _ h=>h) hr h

mutual
theorem Rep.sh {G:Gh}:∀ {x:AV} {v:Value},Rep (G.dn 1) x v→Rep G x.sh v
 |_,_,.top v=>.top v
 |_,_,.int k n=>.int k n
 |_,_,.bool b=>.bool b
 |_,_,.str s=>.str s
 |_,_,.nils=>.nils
 |_,_,.nilp=>.nilp
 |_,_,.nilf=>.nilf
 |_,_,.nili=>.nili
 |_,_,.nilm=>.nilm
 |_,_,.anyp p=>.anyp p
 |_,_,.list hc hz hf hl hs hn hcap hm=>.list (RepL.ofrf hf hc) hz hf hl hs hn hcap hm
 |_,_,.lcap hc hz hf hl hs hn hm=>.lcap (RepL.ofrf hf hc) hz hf hl hs hn hm
 |_,_,.agg h=>.agg (RepL.sh h)
 |_,_,.tup h=>.tup (RepL.sh h)
 |_,_,.iface h=>.iface (Rep.sh h)
 |_,_,.fn ha hb=>.fn (RepL.sh ha) (RepL.sh hb)
 |_,_,.ptr h=>.ptr h
 |_,_,.mp h=>.mp h
 |_,_,.mptr h=>.mptr h
 |_,_,.vec hv hl h=>.vec hv hl h
 |_,_,.vptr hv hl h=>.vptr hv hl h
 |_,_,.rptr hc hf hl hs=>.rptr (RepL.ofrf hf hc) hf hl hs
theorem RepL.sh {G:Gh}:∀ {x:List AV} {v:List Value},RepL (G.dn 1) x v→RepL G (AV.shL x) v
 |_,_,.nil=>.nil
 |_,_,.cons h t=>.cons (Rep.sh h) (RepL.sh t)
end

theorem Rep.shN (n:Nat):∀ {G:Gh} {x:AV} {v:Value},Rep (G.dn n) x v→Rep G (x.shN n) v:=by
 induction n with
 |zero=>intro G x v h;exact h
 |succ n ih=>
  intro G x v h;show Rep G ((x.shN n).sh) v;refine Rep.sh (ih ?_);rw[Gh.dn_dn];exact h

mutual
theorem Rep.un {G:Gh}:∀ {x:AV} {v:Value},Rep G x v→∀y,x.un=some y→Rep (G.dn 1) y v
 |_,_,.top v,y,e=>by cases e;exact .top v
 |_,_,.int k n,y,e=>by cases e;exact .int k n
 |_,_,.bool b,y,e=>by cases e;exact .bool b
 |_,_,.str s,y,e=>by cases e;exact .str s
 |_,_,.nils,y,e=>by cases e;exact .nils
 |_,_,.nilp,y,e=>by cases e;exact .nilp
 |_,_,.nilf,y,e=>by cases e;exact .nilf
 |_,_,.nili,y,e=>by cases e;exact .nili
 |_,_,.nilm,y,e=>by cases e;exact .nilm
 |_,_,.anyp p,y,e=>by cases e;exact .anyp p
 |_,_,.list hc hz hf hl hs hn hcap hm,y,e=>by cases e;exact .list (RepL.torf hf hc) hz hf hl hs hn hcap hm
 |_,_,.lcap hc hz hf hl hs hn hm,y,e=>by cases e;exact .lcap (RepL.torf hf hc) hz hf hl hs hn hm
 |_,_,.agg (l:=l) h,y,e=>by
   simp only[AV.un,Qmx]at e;obtain⟨l',e1,rfl⟩:=e;exact .agg (RepL.un h l' e1)
 |_,_,.tup (l:=l) h,y,e=>by
   simp only[AV.un,Qmx]at e;obtain⟨l',e1,rfl⟩:=e;exact .tup (RepL.un h l' e1)
 |_,_,.iface (x:=x) h,y,e=>by
   simp only[AV.un,Qmx]at e;obtain⟨l',e1,rfl⟩:=e;exact .iface (Rep.un h l' e1)
 |_,_,.fn (a:=a) (b:=b) ha hb,y,e=>by
   simp only[AV.un]at e;split at e
   ·rename_i a' b' ea eb;cases e;exact .fn (RepL.un ha a' ea) (RepL.un hb b' eb)
   ·cases e
 |.ptr l s o,_,.ptr h,y,e=>by
   cases l with
   |zero=>cases e
   |succ l=>cases e;exact .ptr h
 |.vec l s g o n q,_,.vec hv hl h,y,e=>by
   cases l with
   |zero=>cases e
   |succ l=>cases e;exact .vec hv hl h
 |.vptr l s g i o,_,.vptr hv hl h,y,e=>by
   cases l with
   |zero=>cases e
   |succ l=>cases e;exact .vptr hv hl h
 |_,_,.mp h,y,e=>by cases e;exact .mp h
 |.mptr l s,_,.mptr h,y,e=>by
   cases l with
   |zero=>cases e
   |succ l=>cases e;exact .mptr h
 |_,_,.rptr hc hf hl hs,y,e=>by cases e;exact .rptr (RepL.torf hf hc) hf hl hs
theorem RepL.un {G:Gh}:∀ {x:List AV} {v:List Value},RepL G x v→∀y,AV.unL x=some y→RepL (G.dn 1) y v
 |_,_,.nil,y,e=>by cases e;exact .nil
 |_,_,.cons (x:=x) (l:=l) h t,y,e=>by
   simp only[AV.unL]at e;split at e
   ·rename_i a' b' ea eb;cases e;exact .cons (Rep.un h a' ea) (RepL.un t b' eb)
   ·cases e
end

structure Gnew (s:Nat)(G G':Gh):Prop where
 stab:∀b o v,G.stab b o=some v→G'.stab b o=some v
 nm:∀l t b,(l=0→t≠s)→G.nm l t=some b→G'.nm l t=some b
 vg:∀l t,G.vg l t≤G'.vg l t
 vs:∀l t,G'.vg l t=G.vg l t→G'.vm l t=G.vm l t∧G'.vc l t=G.vc l t∧G'.vz l t=G.vz l t

mutual
theorem Rep.scrub {G G':Gh}{s:Nat}(hg:Gnew s G G'):∀ {x:AV} {v:Value},Rep G x v→Rep G' (x.scrub s) v
 |_,_,.top v=>.top v
 |_,_,.int k n=>.int k n
 |_,_,.bool b=>.bool b
 |_,_,.str s=>.str s
 |_,_,.nils=>.nils
 |_,_,.nilp=>.nilp
 |_,_,.nilf=>.nilf
 |_,_,.nili=>.nili
 |_,_,.nilm=>.nilm
 |_,_,.anyp p=>.anyp p
 |_,_,.list hc hz hf hl hs hn hcap hm=>.list (RepL.rfd hg.stab hf hc) hz hf hl (fun j u h=>by
   obtain⟨b,o,e,h'⟩:=hs j u h;exact⟨b,o,e,hg.stab _ _ _ h'⟩) hn hcap hm
 |_,_,.lcap hc hz hf hl hs hn hm=>.lcap (RepL.rfd hg.stab hf hc) hz hf hl (fun j u h=>by
   obtain⟨b,o,e,h'⟩:=hs j u h;exact⟨b,o,e,hg.stab _ _ _ h'⟩) hn hm
 |_,_,.agg h=>.agg (RepL.scrub hg h)
 |_,_,.tup h=>.tup (RepL.scrub hg h)
 |_,_,.iface h=>.iface (Rep.scrub hg h)
 |_,_,.fn ha hb=>.fn (RepL.scrub hg ha) (RepL.scrub hg hb)
 |.ptr l t o,_,.ptr h=>by
   cases l with
   |zero=>
    show Rep G' (bif Nat.beq t s then .top else .ptr 0 t o) _;cases hb:Nat.beq t s with
    |true=>exact .top _
    |false=>exact .ptr (hg.nm 0 t _ (fun _ e=>by subst e;simp at hb) h)
   |succ l=>exact .ptr (hg.nm _ _ _ (fun e=>by cases e) h)
 |_,_,.mp h=>.mp (hg.stab _ _ _ h)
 |.mptr l t,_,.mptr h=>by
   cases l with
   |zero=>
    show Rep G' (bif Nat.beq t s then .top else .mptr 0 t) _;cases hb:Nat.beq t s with
    |true=>exact .top _
    |false=>exact .mptr (hg.nm 0 t _ (fun _ e=>by subst e;simp at hb) h)
   |succ l=>exact .mptr (hg.nm _ _ _ (fun e=>by cases e) h)
 |_,_,.vec (l:=l) (s:=s) hv hl h=>.vec hv (Qmt hl (hg.vg _ _)) (fun e=>by
   have h1:=hg.vg l s;obtain⟨a1,a2,a3⟩:=hg.vs l s (by omega);rw[a1,a2,a3];exact h (by omega))
 |_,_,.vptr (l:=l) (s:=s) hv hl h=>.vptr hv (Qmt hl (hg.vg _ _)) (fun e=>by
   have h1:=hg.vg l s;obtain⟨a1,_,a3⟩:=hg.vs l s (by omega);rw[a1,a3];exact h (by omega))
 |_,_,.rptr hc hf hl hs=>.rptr (RepL.rfd hg.stab hf hc) hf hl (fun j u h=>hg.stab _ _ _ (hs j u h))
theorem RepL.scrub {G G':Gh}{s:Nat}(hg:Gnew s G G'):∀ {x:List AV} {v:List Value},RepL G x v→RepL G' (AV.scrubL s x) v
 |_,_,.nil=>.nil
 |_,_,.cons h t=>.cons (Rep.scrub hg h) (RepL.scrub hg t)
end

def Gh.mine (G:Gh)(b:Nat):Prop:=(∃l s,G.nm l s=some b)∨∃l s,G.vm l s=some b

def XY (s t:Nat):Bool:=decide (s<2000)||t+2000==s

theorem Mr {s t e:Nat}(h:XY s t=true)(h':XY s e=true)(hs:2000≤s):t=e:=by
 simp only[XY,Qmy,Qmz,QmA]at h h';omega

def XH (s:Nat)(w:World)(b:Nat)(cs:Array Value):Prop:=∃t lo hi,w.heap[b]? = some (.cells cs t (lo,hi))∧XY s t=true∧∀o,o<cs.size→¬(lo≤o∧o<hi)

theorem XH.cell {s:Nat}{w:World}{b:Nat}{cs:Array Value}(h:XH s w b cs)(i:Nat):w.cell? ⟨b,i,none⟩=cs[i]?:=by
 obtain⟨t,lo,hi,hh,_⟩:=h;exact cell_of_row w b i cs t (lo,hi) hh
theorem XH.lt {s:Nat}{w:World}{b:Nat}{cs:Array Value}(h:XH s w b cs):b<w.heap.size:=by
 obtain⟨t,lo,hi,hh,_⟩:=h;exact(QmB.1 hh).1
theorem XH.frozen {s:Nat}{w:World}{b:Nat}{cs:Array Value}(h:XH s w b cs){i:Nat}(hi':i<cs.size):w.frozen? ⟨b,i,none⟩=false:=by
 obtain⟨t,lo,hi,hh,_,hf⟩:=h;have:=hf i hi';simp[World.frozen?,hh];omega
theorem XH.of {s:Nat}{w w':World}{b:Nat}{cs:Array Value}(h:XH s w b cs)(e:w'.heap[b]? = w.heap[b]?):XH s w' b cs:=by
 obtain⟨t,lo,hi,hh,hf⟩:=h;exact⟨t,lo,hi,e.trans hh,hf⟩
theorem XH.uniq {s s':Nat}{w:World}{b:Nat}{cs cs':Array Value}(h:XH s w b cs)(h':XH s' w b cs'):cs=cs':=by
 obtain⟨t,lo,hi,hh,hf⟩:=h;obtain⟨t',lo',hi',hh',hf'⟩:=h';rw[hh]at hh';cases hh';rfl
theorem XH.set {s:Nat}{w:World}{b:Nat}{cs:Array Value}(h:XH s w b cs)(i:Nat)(v:Value):XH s (w.setCell ⟨b,i,none⟩ v) b (cs.setIfInBounds i v):=by
 obtain⟨t,lo,hi,hh,hf⟩:=h;refine⟨t,lo,hi,?_,by simpa using hf⟩;simp[World.setCell,Array.getElem?_modify,hh]
theorem XH.new {s:Nat}(w:World)(cs:Array Value)(t:TypeId)(ht:XY s t=true):XH s (w.alloc (.cells cs t)) w.heap.size cs :=
 ⟨t,0,0,heap_alloc_new w _,ht,fun _ _=>by omega⟩

structure RowIs (G:Gh)(s:Nat)(w:World)(b cap sz:Nat)(xs:List AV):Prop where
 cur:∃cur,XH s w b cur∧cur.size=cap*sz∧RepL G (QK xs) (cur.toList.take (xs.length*sz))
 le:xs.length≤cap
 max:cap≤maxLen

theorem RowIs.of {G G':Gh}{s:Nat}{w w':World}{b cap sz:Nat}{xs:List AV}(h:RowIs G s w b cap sz xs)(e:w'.heap[b]? = w.heap[b]?)(hr:∀vs,RepL G (QK xs) vs→RepL G' (QK xs) vs):RowIs G' s w' b cap sz xs:=by
 obtain⟨⟨cur,hc,hz,hx⟩,hl,hm⟩:=h;exact⟨⟨cur,hc.of e,hz,hr _ hx⟩,hl,hm⟩

structure Elems (sz:Nat)(xs:List AV):Prop where
 size:∀x∈xs,x.cells.length=sz
 rf:AV.rfL (QK xs)=true
 leaf:(QK xs).all AV.leaf=true

def Ob.isRow:Ob→Bool
 |.vec .. => true
 |_=>false

def Ob.isVar:Ob→Bool
 |.cells _=>true
 |.iter .. => true
 |_=>false
theorem Ob.scrub_isVar (o:Ob)(s:Nat):(o.scrub s).isVar=o.isVar:=by cases o<;>rfl

theorem UR {w:World}{b o:Nat}{v:SV}(h:rd w b o v):b<w.heap.size:=by
 cases v with
 |cell v=>exact World.block_lt_of_cell? w (a:=⟨b,o,none⟩) h
 |mapo es c=>exact(QmB.1 h).1
 |siz n=>
  obtain⟨_,_,_,h,_⟩:=h;exact(QmB.1 h).1
theorem JO {w w':World}{b o:Nat}{v:SV}(hb:w'.heap[b]? = w.heap[b]?)(h:rd w b o v):rd w' b o v:=by
 cases v with
 |cell v=>exact(World.cell?_of_block (a:=⟨b,o,none⟩) hb).trans h
 |mapo es c=>exact hb.trans h
 |siz n=>
  obtain⟨cs,t,fz,h,h2⟩:=h;exact⟨cs,t,fz,hb.trans h,h2⟩
theorem NW {w:World}{b o:Nat}{v:SV}(h:sv w b o=some v):rd w b o v:=by
 have key:∀v,(w.cell? ⟨b,o,none⟩).map SV.cell=some v→rd w b o v:=fun v h=>by
  obtain⟨u,hc,rfl⟩:=Qmx.1 h;exact hc
 unfold sv at h;split at h
 ·cases h;assumption
 ·rename_i cs t fz hh;split at h
  ·rename_i ho;cases h;exact⟨cs,t,fz,hh,ho.symm,rfl⟩
  ·exact key v h
 ·exact key v h
theorem Gz {w:World}{b o:Nat}{u:Value}(h:w.cell? ⟨b,o,none⟩=some u):sv w b o=some (.cell u):=by
 unfold sv;split
 ·rename_i hm;rw[World.cell?]at h;simp only[hm]at h;cases h
 ·rename_i cs t fz hh;rw[QmC,h]
  ·rfl
  ·intro ho;rw[cell_of_row w b o cs t fz hh]at h;have:=(QmB.1 h).1;omega
 ·rw[h];rfl
theorem NX {w:World}{b o:Nat}{v:SV}(h:rd w b o v):sv w b o=some v:=by
 cases v with
 |cell v=>exact Gz h
 |mapo es c=>
  have h:w.heap[b]? = some (.map es c):=h;unfold sv;rw[h]
 |siz n=>
  obtain⟨cs,t,fz,h,h2,h3⟩:=h;unfold sv;rw[h];dsimp only;rw[QmD (by omega),h3]

structure MR (G:Gh)(m:Qh)(w:World):Prop where
 stab:∀b o v,G.stab b o=some v→rd w b o v
 cells:∀l s xs,Qc m l s=.cells xs→∃b cs,G.nm l s=some b∧XH s w b cs∧RepL (G.dn l) xs cs.toList
 nm:∀l s b,G.nm l s=some b→(Qc m l s).isVar=true∧∀o,G.stab b o=none
 vec:∀l s g sz xs,Qc m l s=.vec g sz xs→G.vg l s=g∧G.vz l s=sz∧Elems sz xs∧((G.vm l s=none∧xs=[])∨∃b,G.vm l s=some b∧RowIs G s w b (G.vc l s) sz xs)
 vm:∀l s b,G.vm l s=some b→(∃g sz xs,Qc m l s=.vec g sz xs)∧∀o,G.stab b o=none
 gone:∀l s,(Qc m l s).isRow=false→G.vg l s=0
 inj1:∀l s l' s' b,G.nm l s=some b→G.nm l' s'=some b→l=l'∧s=s'
 inj2:∀l s l' s' b,G.vm l s=some b→G.vm l' s'=some b→l=l'∧s=s'
 inj3:∀l s l' s' b,G.nm l s=some b→G.vm l' s'≠some b
 iter:∀l s t p,Qc m l s=.iter t p→∃b,G.nm l s=some b∧w.heap[b]? = some (t.obj p)

theorem MR.mine {G:Gh}{m:Qh}{w:World}(h:MR G m w){b:Nat}(hb:G.mine b):b<w.heap.size∧∀o,G.stab b o=none:=by
 rcases hb with⟨l,s,e⟩|⟨l,s,e⟩
 ·obtain⟨hx,hs⟩:=h.nm l s b e;cases hl:Qc m l s with
  |cells xs=>
   obtain⟨b',cs,e',hc,_⟩:=h.cells l s xs hl;rw[e]at e';cases e';exact⟨hc.lt,hs⟩
  |iter t p=>
   obtain⟨b',e',hh⟩:=h.iter l s t p hl;rw[e]at e';cases e';exact⟨(QmB.1 hh).1,hs⟩
  |none=>rw[hl]at hx;cases hx
  |vec g z xs=>rw[hl]at hx;cases hx
 ·obtain⟨⟨g,sz,xs,hx⟩,hs⟩:=h.vm l s b e;obtain⟨_,_,_,hv⟩:=h.vec l s g sz xs hx;rcases hv with⟨e',_⟩|⟨b',e',hr⟩
  ·rw[e]at e';cases e'
  ·rw[e]at e';cases e';obtain⟨cur,hc,_⟩:=hr.cur;exact⟨hc.lt,hs⟩

structure Ext (k:Nat)(G:Gh)(w:World)(G':Gh)(w':World):Prop where
 os:w'.os=w.os
 tape:w'.tape=w.tape
 output:w'.output=w.output
 size:w.heap.size≤w'.heap.size
 stab:∀b o v,G.stab b o=some v→G'.stab b o=some v
 nm:∀l s,k≤l→G'.nm l s=G.nm l s
 vg:∀l s,G.vg l s≤G'.vg l s
 vs:∀l s,G'.vg l s=G.vg l s→G'.vm l s=G.vm l s∧G'.vc l s=G.vc l s∧G'.vz l s=G.vz l s
 old:∀b,b<w.heap.size→¬G.mine b→w'.heap[b]? = w.heap[b]?∧∀o,G'.stab b o=G.stab b o
 mine:∀b,G'.mine b→G.mine b∨w.heap.size≤b
 mv:∀l s b,G'.vm l s=some b→(∃i t,i≤l∧G.vm i t=some b)∨w.heap.size≤b

theorem Ext.refl (k:Nat)(G:Gh)(w:World):Ext k G w G w :=
 ⟨rfl,rfl,rfl,Qms _,fun _ _ _ h=>h,fun _ _ _=>rfl,fun _ _=>Qms _,fun _ _ _=>⟨rfl,rfl,rfl⟩,fun _ _ _=>⟨rfl,fun _=>rfl⟩,fun _ h=>.inl h,fun l s _ h=>.inl ⟨l,s,Qms _,h⟩⟩

theorem Ext.trans {k:Nat}{G G1 G2:Gh}{w w1 w2:World}(h:Ext k G w G1 w1)(j:Ext k G1 w1 G2 w2):Ext k G w G2 w2 where
 os:=j.os.trans h.os
 tape:=j.tape.trans h.tape
 output:=j.output.trans h.output
 size:=Qmt h.size j.size
 stab _ _ _ e:=j.stab _ _ _ (h.stab _ _ _ e)
 nm l s hl:=(j.nm l s hl).trans (h.nm l s hl)
 vg l s:=Qmt (h.vg l s) (j.vg l s)
 vs l s e:=by
  have h1:=h.vg l s;have h2:=j.vg l s;obtain⟨a1,a2,a3⟩:=h.vs l s (by omega);obtain⟨b1,b2,b3⟩:=j.vs l s (by omega);exact⟨b1.trans a1,b2.trans a2,b3.trans a3⟩
 old b hb hm:=by
  obtain⟨a1,a2⟩:=h.old b hb hm;have hm1:¬G1.mine b:=fun hx=>by
   rcases h.mine b hx with h'|h'
   ·exact hm h'
   ·omega
  obtain⟨b1,b2⟩:=j.old b (Nat.lt_of_lt_of_le hb h.size) hm1;exact⟨b1.trans a1,fun o=>(b2 o).trans (a2 o)⟩
 mine:=fun b hb=>by
  rcases j.mine b hb with h'|h'
  ·exact h.mine b h'
  ·exact .inr (Qmt h.size h')
 mv:=fun l s b hb=>by
  rcases j.mv l s b hb with⟨i,t,hi,h'⟩|h'
  ·rcases h.mv i t b h' with⟨i',t',hi',h''⟩|h''
   ·exact .inl ⟨i',t',Qmt hi' hi,h''⟩
   ·exact .inr h''
  ·exact .inr (Qmt h.size h')

theorem Ext.mono {k k':Nat}{G G':Gh}{w w':World}(h:Ext k G w G' w')(hk:k≤k'):Ext k' G w G' w' :=
 { h with nm:=fun l s hl=>h.nm l s (Qmt hk hl) }

theorem Ext.gle {G G':Gh}{w w':World}(h:Ext 0 G w G' w'):Gle G G' :=
 ⟨h.stab,fun l s _ e=>(h.nm l s (QmE _)).trans e,h.vg,h.vs⟩

inductive RepD (G:Gh):DF→Deferred→Prop
 |mk {fn:Fn} {cap args:List AV} {vc va:List Value} (hc:RepL G cap vc) (ha:RepL G args va):RepD G ⟨fn,cap,args⟩ { target:=.fn fn ⟨vc⟩,args:=⟨va⟩ }
inductive RepDs (G:Gh):List DF→List Deferred→Prop
 |nil:RepDs G [] []
 |cons {d:DF} {v:Deferred} {l:List DF} {vs:List Deferred} (h:RepD G d v) (t:RepDs G l vs):RepDs G (d :: l) (v :: vs)

theorem RepDs.mono {G G':Gh}(hg:Gle G G'){l:List DF}{vs:List Deferred}(h:RepDs G l vs):RepDs G' l vs:=by
 induction h with
 |nil=>exact .nil
 |cons h _ ih=>cases h with|mk hc ha=>exact .cons (.mk (hc.mono hg) (ha.mono hg)) ih

theorem RepDs.scrub {G G':Gh}{s:Nat}(hg:Gnew s G G'){l:List DF}{vs:List Deferred}(h:RepDs G l vs):RepDs G' (l.map (DF.scrub s)) vs:=by
 induction h with
 |nil=>exact .nil
 |cons h _ ih=>cases h with|mk hc ha=>exact .cons (.mk (hc.scrub hg) (ha.scrub hg)) ih

structure Rel (G:Gh)(B N:Nat)(st:St)(a:Act)(w:World):Prop where
 mr:MR G st.m w
 size:a.tmps.size=N
 slots:∀i,Rep G (st.f i) (a.tmps.getD i undef)
 ds:RepDs G st.ds a.defers
 base:∀s b,G.nm 0 s=some b∨G.vm 0 s=some b→B≤b
 top:B≤w.heap.size
 ne:st.m≠[]

theorem MR.drew {G:Gh}{m:Qh}{w:World}(h:MR G m w):MR G m w.drew:=⟨h.stab,h.cells,h.nm,fun l s g sz xs e=>by
  obtain⟨a,b,c,d⟩:=h.vec l s g sz xs e;exact⟨a,b,c,d.imp id fun⟨b',e',r⟩=>⟨b',e',r.of rfl fun _ h=>h⟩⟩,h.vm,h.gone,h.inj1,h.inj2,h.inj3,h.iter⟩
theorem Rel.drew {G:Gh}{B N:Nat}{st:St}{a:Act}{w:World}(h:Rel G B N st a w):Rel G B N st a w.drew :=
 ⟨h.mr.drew,h.size,h.slots,h.ds,h.base,h.top,h.ne⟩
theorem Ext.drew {k:Nat}(G:Gh)(w:World):Ext k G w G w.drew :=
 ⟨rfl,rfl,rfl,Qms _,fun _ _ _ h=>h,fun _ _ _=>rfl,fun _ _=>Qms _,fun _ _ _=>⟨rfl,rfl,rfl⟩,fun _ _ _=>⟨rfl,fun _=>rfl⟩,fun _ h=>.inl h,fun l s _ h=>.inl ⟨l,s,Qms _,h⟩⟩

def Qj (f:Fr)(d:Option Nat)(x:AV):Fr :=
 match d with
 |some d=>QG f d x
 |none=>f

theorem Act.put_size (a:Act)(d:Option Tmp)(v:Value):(a.put d v).tmps.size=a.tmps.size:=by
 cases d<;>simp[Act.put]
theorem Act.put_defers' (a:Act)(d:Option Tmp)(v:Value):(a.put d v).defers=a.defers:=by
 cases d<;>rfl

theorem R9 {G:Gh}{f:Fr}{a:Act}(hs:∀i,Rep G (f i) (a.tmps.getD i undef)){d:Option Nat}(hd:∀k,d=some k→k<a.tmps.size){x:AV}{v:Value}(hx:Rep G x v) :
  ∀i,Rep G (Qj f d x i) ((a.put d v).tmps.getD i undef):=by
 intro i;cases d with
 |none=>exact hs i
 |some d=>
  have hlt:=hd d rfl;by_cases hi:i=d
  ·subst hi;simp only[Qj,QU,Act.put,QmF,QmG]
   simpa [hlt]using hx
  ·simp only[Qj,QX _ _ hi,Act.put,QmF];rw[Array.getElem?_setIfInBounds_ne (fun e=>hi e.symm)]
   simpa [QmF]using hs i

theorem Rel.put {G:Gh}{B N:Nat}{st:St}{a:Act}{w:World}(h:Rel G B N st a w){d:Option Nat}(hd:∀k,d=some k→k<N){x:AV}{v:Value}(hx:Rep G x v) :
  Rel G B N { st with f:=Qj st.f d x } (a.put d v) w :=
 ⟨h.mr,by rw[Act.put_size];exact h.size,R9 h.slots (by rw[h.size];exact hd) hx,by rw[Act.put_defers'];exact h.ds,h.base,h.top,h.ne⟩

theorem Qo {m:Qh}{l s:Nat}{o:Ob}(h:l<m.length):Qc (Am.put m l s o) l s=o:=by
 induction m generalizing l with
 |nil=>simp at h
 |cons fr m ih=>
  cases l with
  |zero=>exact QU _ _ _
  |succ l=>exact ih (by simpa using h)
theorem QA {m:Qh}{l s l' s':Nat}{o:Ob}(h:l'≠l∨s'≠s):Qc (Am.put m l s o) l' s'=Qc m l' s':=by
 induction m generalizing l l' with
 |nil=>rfl
 |cons fr m ih=>
  cases l with
  |zero=>
   cases l' with
   |zero=>exact QX _ _ (by simpa using h)
   |succ l'=>rfl
  |succ l=>
   cases l' with
   |zero=>rfl
   |succ l'=>exact ih (by simpa using h)
theorem Q8 {m:Qh}{l s:Nat}(h:Qc m l s≠.none):l<m.length:=by
 induction m generalizing l with
 |nil=>exact absurd rfl h
 |cons fr m ih=>
  cases l with
  |zero=>simp
  |succ l=>have:=ih (l:=l) h;simp;omega
theorem Ko {m:Qh}{l s:Nat}{o:Ob}(h:m≠[]):Am.put m l s o≠[]:=by
 cases m with
 |nil=>exact absurd rfl h
 |cons fr m=>cases l<;>simp[Am.put]

theorem XC (b o i:Nat):(⟨b,o,none⟩:Addr).add i=⟨b,o+i,none⟩:=by
 unfold Addr.add;split
 ·rename_i h;subst h;rfl
 ·rfl

def AV.shNL:Nat→List AV→List AV
 |0,x=>x
 |n+1,x=>AV.shL (AV.shNL n x)

theorem RepL.shNL (n:Nat):∀ {G:Gh} {x:List AV} {v:List Value},RepL (G.dn n) x v→RepL G (AV.shNL n x) v:=by
 induction n with
 |zero=>intro G x v h;exact h
 |succ n ih=>
  intro G x v h;show RepL G (AV.shL (AV.shNL n x)) v;refine RepL.sh (ih ?_);rw[Gh.dn_dn];exact h

def AV.unNL:Nat→List AV→Option (List AV)
 |0,x=>some x
 |n+1,x=>(AV.unL x).bind (AV.unNL n)

theorem RepL.unNL (n:Nat):∀ {G:Gh} {x y:List AV} {v:List Value},RepL G x v→AV.unNL n x=some y→RepL (G.dn n) y v:=by
 induction n with
 |zero=>intro G x y v h e;cases e;exact h
 |succ n ih=>
  intro G x y v h e;simp only[AV.unNL,Option.bind_eq_some_iff]at e;obtain⟨z,e1,e2⟩:=e;have:=ih (h.un z e1) e2;rw[Gh.dn_dn]at this;exact this

theorem Rep.cells_leaf {G:Gh}{x:AV}{v:Value}(h:Rep G x v)(hl:x.leaf=true):v.cells = #[v]:=by
 have:=h.leaf hl;cases v<;>first|rfl|(simp[Value.oneCell']at this)

theorem Rep.cells {G:Gh}{x:AV}{v:Value}(h:Rep G x v)(hl:x.cells.all AV.leaf=true):RepL G x.cells v.cells.toList:=by
 cases h with
 |agg h=>exact h
 |top=>simp[AV.cells,AV.leaf]at hl
 |tup=>simp[AV.cells,AV.leaf]at hl
 |vec hv hg h=>
  have e:=Rep.cells_leaf (Rep.vec hv hg h) rfl;rw[e];exact .cons (.vec hv hg h) .nil
 |vptr hv hg h=>
  have e:=Rep.cells_leaf (Rep.vptr hv hg h) rfl;rw[e];exact .cons (.vptr hv hg h) .nil
 |int=>exact .cons (.int _ _) .nil
 |bool=>exact .cons (.bool _) .nil
 |str=>exact .cons (.str _) .nil
 |nils=>exact .cons .nils .nil
 |nilp=>exact .cons .nilp .nil
 |nilf=>exact .cons .nilf .nil
 |nili=>exact .cons .nili .nil
 |nilm=>exact .cons .nilm .nil
 |anyp p=>exact .cons (.anyp p) .nil
 |list a b c d e f g i=>exact .cons (.list a b c d e f g i) .nil
 |lcap a b c d e f g=>exact .cons (.lcap a b c d e f g) .nil
 |iface h=>exact .cons (.iface h) .nil
 |fn a b=>exact .cons (.fn a b) .nil
 |ptr h=>exact .cons (.ptr h) .nil
 |mp h=>exact .cons (.mp h) .nil
 |mptr h=>exact .cons (.mptr h) .nil
 |rptr a b c d=>exact .cons (.rptr a b c d) .nil

theorem RepL.leaves {G:Gh}{l:List AV}{vs:List Value}(h:RepL G l vs)(hl:l.all AV.leaf=true):∀v∈vs,v.oneCell'=true:=by
 intro v hv;obtain⟨i,hi⟩:=QmH.1 hv;obtain⟨x,hx,r⟩:=h.back hi;exact r.leaf (QmI.1 hl x (QmJ hx))

structure Turned (b:Nat)(w w':World):Prop where
 os:w'.os=w.os
 tape:w'.tape=w.tape
 output:w'.output=w.output
 size:w'.heap.size=w.heap.size
 heap:∀k,k≠b→w'.heap[k]? = w.heap[k]?

theorem Turned.refl (b:Nat)(w:World):Turned b w w:=⟨rfl,rfl,rfl,rfl,fun _ _=>rfl⟩
theorem Turned.trans {b:Nat}{w w1 w2:World}(h:Turned b w w1)(j:Turned b w1 w2):Turned b w w2 :=
 ⟨j.os.trans h.os,j.tape.trans h.tape,j.output.trans h.output,j.size.trans h.size,fun k hk=>(j.heap k hk).trans (h.heap k hk)⟩
theorem Turned.set (w:World)(b i:Nat)(v:Value):Turned b w (w.setCell ⟨b,i,none⟩ v) :=
 ⟨rfl,rfl,rfl,by simp,fun k hk=>by
  simp only[World.setCell,Array.getElem?_modify];rw[QmC (fun e=>hk e.symm)]⟩
theorem Turned.cell {b:Nat}{w w':World}(h:Turned b w w'){k:Nat}(hk:k≠b)(o:Nat):w'.cell? ⟨k,o,none⟩=w.cell? ⟨k,o,none⟩ :=
 World.cell?_of_block (a:=⟨k,o,none⟩) (h.heap k hk)

theorem Zn (P:Program)(s b off:Nat):∀(vs:List Value) (i:Nat) (w:World) (cur:Array Value),XH s w b cur→off+i+vs.length≤cur.size→(∀v∈vs,v.oneCell'=true)→
  ∃w',(storeCells ⟨b,off,none⟩ vs i).run P w=.ok () w'∧XH s w' b (cur.toList.take (off+i)++vs++cur.toList.drop (off+i+vs.length)).toArray∧Turned b w w'
 | [],i,w,cur,hc,hf,h1=>⟨w,rfl,by simpa using hc,Turned.refl b w⟩
 |v :: vs,i,w,cur,hc,hf,h1=>by
  simp only[QmK]at hf;obtain⟨w',hr,hs,ht⟩:=Zn P s b off vs (i+1) (w.setCell ⟨b,off+i,none⟩ v) (cur.setIfInBounds (off+i) v) (hc.set (off+i) v) (by simp;omega) (fun u hu=>h1 u (QmL _ hu));refine⟨w',?_,?_,(Turned.set w b (off+i) v).trans ht⟩
  ·have hcell:w.cell? ⟨b,off+i,none⟩=some (cur[off+i]'(by omega)):=by rw[hc.cell];exact QmM _
   have hfr:w.frozen? ⟨b,off+i,none⟩=false:=hc.frozen (by omega);simp only[storeCells,XC,Sem.run_bind,run_store P w _ v _ (h1 v (QmN ..)),hcell,hfr,QmO,if_false,Result.andThen_ok];exact hr
  ·have e:((cur.setIfInBounds (off+i) v).toList.take (off+(i+1))++vs++(cur.setIfInBounds (off+i) v).toList.drop (off+(i+1)+vs.length))=cur.toList.take (off+i)++(v :: vs)++cur.toList.drop (off+i+(vs.length+1)):=by
    rw[Array.toList_setIfInBounds];have hlt:off+i<cur.toList.length:=by simp;omega
    rw[show off+(i+1)=off+i+1 by omega,QmP (by simpa using hlt)];rw[List.drop_set_of_lt (by omega),List.take_set_of_le (Qms _)];simp only[List.getElem_set_self,QmQ,QmR,QmS];congr 4
    omega
   rw[e]at hs;exact hs

def splice (xs:List AV)(o:Nat)(ys:List AV):List AV:=xs.take o++ys++xs.drop (o+ys.length)

theorem Hs {xs ys:List AV}{o:Nat}(h:o+ys.length≤xs.length):(splice xs o ys).length=xs.length:=by
 simp[splice];omega

theorem RepL.splice {G:Gh}{xs ys:List AV}{vs us:List Value}(h:RepL G xs vs)(h':RepL G ys us)(o:Nat):RepL G (splice xs o ys) (vs.take o++us++vs.drop (o+us.length)):=by
 rw[h'.length];exact((h.take o).append h').append (h.drop _)

theorem MR.stored {G:Gh}{m:Qh}{w w':World}(h:MR G m w){l s b:Nat}{xs:List AV}(hx:Qc m l s=.cells xs)(hb:G.nm l s=some b)(ht:Turned b w w'){ys:List AV}{cs:Array Value}(hs:XH s w' b cs)(hy:RepL (G.dn l) ys cs.toList) :
  MR G (Am.put m l s (.cells ys)) w' where
 stab k o v e:=by
  have hk:k≠b:=by rintro rfl;rw[(h.nm l s k hb).2 o]at e;cases e
  exact JO (ht.heap k hk) (h.stab k o v e)
 cells l' s' zs e:=by
  by_cases hh:l'=l∧s'=s
  ·obtain⟨rfl,rfl⟩:=hh;rw[Qo (Q8 (by rw[hx];simp))]at e;cases e;exact⟨b,cs,hb,hs,hy⟩
  ·rw[QA (by omega)]at e;obtain⟨b',cs',e',hc,hr⟩:=h.cells l' s' zs e;exact⟨b',cs',e',hc.of (ht.heap b' (fun eb=>hh (by subst eb;exact h.inj1 _ _ _ _ _ e' hb))),hr⟩
 nm l' s' b' e:=by
  obtain⟨hz,h2⟩:=h.nm l' s' b' e;refine⟨?_,h2⟩;by_cases hh:l'=l∧s'=s
  ·obtain⟨rfl,rfl⟩:=hh;rw[Qo (Q8 (by rw[hx];simp))];rfl
  ·rw[QA (by omega)];exact hz
 vec l' s' g sz zs e:=by
  by_cases hh:l'=l∧s'=s
  ·obtain⟨rfl,rfl⟩:=hh;rw[Qo (Q8 (by rw[hx];simp))]at e;cases e
  ·rw[QA (by omega)]at e;obtain⟨a1,a2,a3,a4⟩:=h.vec l' s' g sz zs e;refine⟨a1,a2,a3,a4.imp id fun⟨b',e',r⟩=>⟨b',e',r.of (ht.heap b' ?_) fun _ h=>h⟩⟩;rintro rfl;exact h.inj3 _ _ _ _ _ hb e'
 vm l' s' b' e:=by
  obtain⟨⟨g,sz,zs,hz⟩,h2⟩:=h.vm l' s' b' e;refine⟨?_,h2⟩;by_cases hh:l'=l∧s'=s
  ·obtain⟨rfl,rfl⟩:=hh;rw[hx]at hz;cases hz
  ·exact⟨g,sz,zs,by rw[QA (by omega)];exact hz⟩
 gone l' s' e:=by
  by_cases hh:l'=l∧s'=s
  ·obtain⟨rfl,rfl⟩:=hh;exact h.gone l' s' (by rw[hx];rfl)
  ·rw[QA (by omega)]at e;exact h.gone l' s' e
 inj1:=h.inj1
 inj2:=h.inj2
 inj3:=h.inj3
 iter l' s' t p e:=by
  by_cases hh:l'=l∧s'=s
  ·obtain⟨rfl,rfl⟩:=hh;rw[Qo (Q8 (by rw[hx];simp))]at e;cases e
  ·rw[QA (by omega)]at e;obtain⟨b',e',hc⟩:=h.iter l' s' t p e;exact⟨b',e',(ht.heap b' (fun eb=>hh (by subst eb;exact h.inj1 _ _ _ _ _ e' hb))).trans hc⟩

theorem Ext.turned {k:Nat}{G:Gh}{w w':World}{b:Nat}(ht:Turned b w w')(hm:G.mine b):Ext k G w G w' :=
 ⟨ht.os,ht.tape,ht.output,by rw[ht.size];exact Qms _,fun _ _ _ h=>h,fun _ _ _=>rfl,fun _ _=>Qms _,fun _ _ _=>⟨rfl,rfl,rfl⟩,
  fun b' _ hn=>⟨ht.heap b' (fun e=>hn (e▸hm)),fun _=>rfl⟩,fun _ h=>.inl h,fun l s _ h=>.inl ⟨l,s,Qms _,h⟩⟩

theorem D0 {m:Qh}{s t:Nat}:Qc (WW s m) 0 t=(Qc m 0 t).scrub s:=by
 cases m<;>rfl
theorem D1 {m:Qh}{s l t:Nat}:Qc (WW s m) (l+1) t=Qc m (l+1) t:=by
 cases m<;>rfl
theorem B9 {m:Qh}{s:Nat}(h:m≠[]):WW s m≠[]:=by
 cases m with
 |nil=>exact absurd rfl h
 |cons fr m=>simp[WW]
theorem Ob.scrub_cells {o:Ob}{s:Nat}{xs:List AV}(h:o.scrub s=.cells xs):∃ys,o=.cells ys∧xs=AV.scrubL s ys:=by
 cases o<;>simp[Ob.scrub]at h;exact⟨_,rfl,h.symm⟩
theorem Ob.scrub_iter {o:Ob}{s p:Nat}{t:IT}(h:o.scrub s=.iter t p):o=.iter t p:=by
 cases o<;>simp[Ob.scrub]at h;obtain⟨rfl,rfl⟩:=h;rfl
theorem Ob.scrub_vec {o:Ob}{s g sz:Nat}{xs:List AV}(h:o.scrub s=.vec g sz xs):o=.vec g sz xs:=by
 cases o<;>simp[Ob.scrub]at h;obtain⟨rfl,rfl,rfl⟩:=h;rfl

def Gh.fresh (G:Gh)(s b:Nat):Gh :=
 { G with nm:=fun l t=>if l=0∧t=s then some b else G.nm l t }

def US (m:Qh)(s:Nat):Bool :=
 match Qc m 0 s with
 |.vec .. => false
 |_=>true

inductive RA where
 |t (n:Nat)
 |c (x:AV)
 |f (k:FuncId)
 |g (k:Nat) (l:List AV)

def RA.ev (f:Fr):RA→AV
 |.t n=>f n
 |.c x=>x
 |.f k=>.fn (.func k) [] []
 |.g _ l=>.rptr l

inductive Ty where
 |num|str|bool|ptr|iface|other
 deriving DecidableEq

inductive VO where
 |mov (x:RA)
 |pick (c a b:RA)
 |build (z:List AV) (ps:List (Nat×Nat×RA))
 |load (k:Option Nat) (x:RA)
 |loadv (l s:Nat) (k:Option Nat) (x:RA)
 |loado (k:Option Nat) (x:RA)
 |nilck (x:RA)
 |bin (ty:Ty) (op:BinOp) (x y:RA)
 |eqs (neg:Bool) (ks:List Ty) (x y:RA)
 |un (op:UnOp) (x:RA)
 |cvi (k:IntKind) (x:RA)
 |b2s (x:RA)
 |slc (sz:Option Nat) (x:RA) (lo hi mx:Option RA)
 |slcl (x hi mx:RA)
 |faddr (off:Nat) (x:RA)
 |fld (off:Nat) (k:Option Nat) (x:RA)
 |iaddr (sz:Nat) (len:Option Nat) (x i:RA)
 |idx (x i:RA)
 |ext (x:RA) (i:Nat)
 |len (k:Nat) (x:RA)
 |mnx (mx:Bool) (x y:RA)
 |mkfn (f:Fn) (first cap:List RA)
 |loadr (k:Option Nat) (x:RA)
 |toU (x:RA)
 |ofU (t n:Nat) (x:RA)
 |same (x:RA)
 |mget (t ok:Bool) (z:AV) (x i:RA)
 |mgetp (t ok:Bool) (z:AV) (x i:RA)
 |mki (t:Nat) (x:RA)
 |tas (t:Nat) (ok:Bool) (z:AV) (x:RA)

def Xe (op:BinOp)(k:IntKind)(a b:Int):Option AV :=
 match op with
 |.add=>some (.int k (k.wrap (a+b)))
 |.sub=>some (.int k (k.wrap (a-b)))
 |.mul=>some (.int k (k.wrap (a*b)))
 |.quo=>if b=0 then none else some (.int k (k.wrap (a.tdiv b)))
 |.rem=>if b=0 then none else some (.int k (a.tmod b))
 |.and=>some (.int k (bits .and k a b))
 |.or=>some (.int k (bits .or k a b))
 |.xor=>some (.int k (bits .xor k a b))
 |.andNot=>some (.int k (bits .andNot k a b))
 |.eql=>some (.bool (a==b))
 |.neq=>some (.bool (a != b))
 |.lss=>some (.bool (a<b))
 |.leq=>some (.bool (a≤b))
 |.gtr=>some (.bool (b<a))
 |.geq=>some (.bool (b≤a))
 |_=>none

def QP (op:BinOp)(a b:List UInt8):Option AV :=
 match op with
 |.add=>if a.length+b.length≤9223372036854775807 then some (.str (a++b))else none
 |.eql=>some (.bool (a==b))
 |.neq=>some (.bool (!(a==b)))
 |.lss=>some (.bool (Op.bytesLess a b))
 |.leq=>some (.bool (Op.bytesLess a b||a==b))
 |.gtr=>some (.bool (!(Op.bytesLess a b||a==b)))
 |.geq=>some (.bool (!Op.bytesLess a b))
 |_=>none

def Q3 (ty:Ty)(op:BinOp)(x y:AV):Option AV :=
 match x,y with
 |.int k a,.int k' b=>
  match op with
  |.shl=>if 0≤b then some (.int k (k.wrap (a*2 ^ (min b.toNat k.bits))))else none
  |.shr=>if 0≤b then some (.int k (a.fdiv (2 ^ (min b.toNat k.bits))))else none
  |op=>if k=k' then Xe op k a b else none
 |.str a,.str b=>QP op a b
 |.bool a,.bool b=>
  match ty,op with
  |.bool,.eql=>some (.bool (a==b))
  |.bool,.neq=>some (.bool (!(a==b)))
  |_,_=>none
 |.nilp,.nilp=>
  match ty,op with
  |.ptr,.eql=>some (.bool true)
  |.ptr,.neq=>some (.bool false)
  |_,_=>none
 |.ptr _ _ _,.nilp=>
  match ty,op with
  |.ptr,.eql=>some (.bool false)
  |.ptr,.neq=>some (.bool true)
  |_,_=>none
 |.ptr l s o,.ptr l' s' o'=>
  if l=l'∧s=s'∧o=o' then
   match ty,op with
   |.ptr,.eql=>some (.bool true)
   |.ptr,.neq=>some (.bool false)
   |_,_=>none
  else none
 |_,_=>none

def D2:Ty→AV→AV→Option Bool
 |.num,.int k a,.int k' b=>if k=k' then some (a==b)else none
 |.bool,.bool a,.bool b=>some (a==b)
 |.str,.str a,.str b=>some (a==b)
 |_,_,_=>none

def GZ:List Ty→List AV→List AV→Option Bool
 | [],[],[]=>some true
 |t :: ts,x :: l,y :: r=>match D2 t x y,GZ ts l r with
  |some a,some b=>some (a&&b)
  |_,_=>none
 |_,_,_=>none

def HD (op:UnOp)(x:AV):Option AV :=
 match op,x with
 |.neg,.int k n=>some (.int k (k.wrap (0-n)))
 |.xor,.int k n=>some (.int k (bits .xor k (if k.signed then -1 else k.max) n))
 |.not,.bool b=>some (.bool (!b))
 |_,_=>none

def fill (f:Fr):List (Nat×Nat×RA)→List AV→Option (List AV)
 | [],z=>some z
 |(o,n,x) :: ps,z=>
  if (x.ev f).cells.length=n∧o+n≤z.length∧(x.ev f).cells.all AV.leaf=true then fill f ps (splice z o (x.ev f).cells)else none

def bytesOf:List AV→Option (List UInt8)
 | []=>some []
 |.int .u8 n :: l=>(bytesOf l).map (UInt8.ofNat n.toNat :: ·)
 |_ :: _=>none

def QY (m:Qh):AV→Option (List AV)
 |.nils=>some []
 |.list l=>some l
 |.vec l s g o n _=>match Qc m l s with
  |.vec g' _ xs=>if g=g'∧o+n≤xs.length then some ((xs.drop o).take n)else none
  |_=>none
 |_=>none

def KY (f:Fr)(d:Nat):Option RA→Option Nat
 |none=>some d
 |some r=>match r.ev f with
  |.int _ n=>if 0≤n then some n.toNat else none
  |_=>none

def XD (m:Qh)(sz:Option Nat)(x:AV)(lo hi:Nat)(mx:Option Nat):Option AV :=
 match sz with
 |none=>match x with
  |.str s=>match mx with
   |none=>if lo≤hi∧hi≤s.length then some (.str ((s.drop lo).take (hi-lo)))else none
   |some _=>none
  |_=>none
 |some z=>match x with
  |.nils=>if lo=0∧hi=0∧mx.getD 0=0 then some .nils else none
  |.list l=>if lo≤hi∧hi≤mx.getD l.length∧mx.getD l.length≤l.length∧(lo=0∨l.all (fun e=>e.cells.length==z)=true)then some (.list ((l.drop lo).take (hi-lo)))else none
  |.vec l s g o n q=>match Qc m l s with
   |.vec g' z' _=>if g=g'∧z=z'∧lo≤hi∧hi≤mx.getD n∧mx.getD n≤n then some (.vec l s g (o+lo) (hi-lo) (q||mx.isSome))else none
   |_=>none
  |_=>none

def Jc:AV→Option Nat
 |.str s=>some s.length
 |.nils|.nilm=>some 0
 |.list l=>some l.length
 |.vec _ _ _ _ n _=>some n
 |_=>none

def part (l:List AV)(o:Nat):Option Nat→Option AV
 |none=>l[o]?
 |some k=>if o+k≤l.length then some (.agg ((l.drop o).take k))else none

def W9 (m:Qh)(l s:Nat):Option Nat :=
 match Qc m l s with
 |.vec g _ _=>some g
 |_=>none

def Xf (m:Qh)(k:Option Nat):AV→Option AV
 |.ptr l s o=>match Qc m l s with
  |.cells xs=>match k with
   |none=>match xs[o]? with
    |some x=>some (x.shN l)
    |none=>none
   |some k=>if o+k≤xs.length then some (.agg (AV.shNL l ((xs.drop o).take k)))else none
  |_=>none
 |.vptr l s g i o=>match Qc m l s with
  |.vec g' _ xs=>if g=g' then match xs[i]? with
    |some e=>part e.cells o k
    |none=>none
   else none
  |_=>none
 |.rptr xs=>part xs 0 k
 |_=>none

def Qf (m:Qh)(sz:Nat)(len:Option Nat)(x:AV)(i:Int):Option AV :=
 if 0≤i then
  match len with
  |none=>match x with
   |.list l=>match l[i.toNat]? with
    |some e=>if e.cells.length=sz then some (.rptr e.cells)else none
    |none=>none
   |.vec l s g o n _=>match Qc m l s with
    |.vec g' sz' _=>if g=g'∧sz=sz'∧i.toNat<n then some (.vptr l s g (o+i.toNat) 0)else none
    |_=>none
   |_=>none
  |some n=>match x with
   |.ptr l s o=>if i.toNat<n then some (.ptr l s (o+i.toNat*sz))else none
   |.rptr xs=>if i.toNat<n then some (.rptr (xs.drop (i.toNat*sz)))else none
   |_=>none
 else none

def WX (m:Qh):AV→Option (List MK×List AV)
 |.mp ks vs=>some (ks,vs)
 |.mptr l s=>match Qc m l s with
  |.iter (.mp ks vs) _=>some (ks,vs)
  |_=>none
 |_=>none
def KZ:Bool→AV→Option MK
 |true,.str l=>some (.s l)
 |false,.int .i64 n=>some (.n n)
 |_,_=>none
def keys (t:Bool)(ks:List MK):Bool:=ks.all fun k=>k.t==t
def J3 (k:MK):List MK→List AV→Option AV
 |k' :: ks,v :: vs=>bif k.eq k' then some v else J3 k ks vs
 |_,_=>none
def Zc (k:MK)(x:AV):List MK→List AV→List MK×List AV
 |k' :: ks,v :: vs=>bif k.eq k' then(k' :: ks,x :: vs)else(k' :: (Zc k x ks vs).1,v :: (Zc k x ks vs).2)
 |_,_=>([k],[x])

def Qx (f:Fr)(m:Qh):VO→Option AV
 |.mov x=>some (x.ev f)
 |.pick c a b=>match c.ev f with
  |.bool t=>some (bif t then a.ev f else b.ev f)
  |_=>none
 |.build z ps=>(fill f ps z).map .agg
 |.load k x=>Xf m k (x.ev f)
 |.loado k x=>match x.ev f with
  |.ptr (l+1) s o=>Xf m k (.ptr (l+1) s o)
  |_=>none
 |.loadv l s k x=>match x.ev f with
  |.ptr l' s' o=>if l'=l∧s'=s then Xf m k (.ptr l' s' o)else none
  |_=>none
 |.loadr k x=>match x.ev f with
  |.rptr xs=>Xf m k (.rptr xs)
  |.vptr l s g i o=>Xf m k (.vptr l s g i o)
  |_=>none
 |.nilck x=>match x.ev f with
  |.ptr l s o=>some (.ptr l s o)
  |.vptr l s g i o=>if W9 m l s=some g then some (.vptr l s g i o)else none
  |.rptr xs=>some (.rptr xs)
  |.fn (.func k) a b=>some (.fn (.func k) a b)
  |_=>none
 |.bin ty op x y=>Q3 ty op (x.ev f) (y.ev f)
 |.eqs neg ks x y=>match x.ev f,y.ev f with
  |.agg a,.agg b=>match GZ ks a b with
   |some r=>some (.bool (bif neg then !r else r))
   |none=>none
  |_,_=>none
 |.un op x=>HD op (x.ev f)
 |.cvi k x=>match x.ev f with
  |.int _ n=>some (.int k (k.wrap n))
  |_=>none
 |.b2s x=>match QY m (x.ev f)with
  |some l=>(bytesOf l).map .str
  |none=>none
 |.slcl x hi mx=>match x.ev f with
  |.list l=>match hi.ev f with
   |.int _ a=>match mx.ev f with
    |.int _ b=>if a=(l.length:Int)∧b=(l.length:Int)then some (.lcap l)else none
    |_=>none
   |_=>none
  |_=>none
 |.slc sz x lo hi mx=>match Jc (x.ev f),KY f 0 lo with
  |some n,some a=>match KY f n hi with
   |some b=>match mx with
    |none=>XD m sz (x.ev f) a b none
    |some r=>match KY f 0 (some r)with
     |some c=>XD m sz (x.ev f) a b (some c)
     |none=>none
   |none=>none
  |_,_=>none
 |.faddr off x=>match x.ev f with
  |.ptr l s o=>some (.ptr l s (o+off))
  |.vptr l s g i o=>if W9 m l s=some g then some (.vptr l s g i (o+off))else none
  |.rptr xs=>some (.rptr (xs.drop off))
  |_=>none
 |.fld off k x=>match x.ev f with
  |.agg l=>part l off k
  |_=>none
 |.iaddr sz len x i=>match i.ev f with
  |.int _ n=>Qf m sz len (x.ev f) n
  |_=>none
 |.idx x i=>match x.ev f,i.ev f with
  |.str s,.int _ n=>if 0≤n then match s[n.toNat]? with
    |some b=>some (.int .u8 (b.toNat:Int))
    |none=>none
   else none
  |_,_=>none
 |.ext x i=>match x.ev f with
  |.tup l=>l[i]?
  |_=>none
 |.len k x=>match k with
  |0=>match x.ev f with
   |.str s=>some (.int .i64 (s.length:Int))
   |_=>none
  |1=>match x.ev f with
   |.nils=>some (.int .i64 0)
   |.list l=>some (.int .i64 (l.length:Int))
   |.vec l s g _ n _=>if W9 m l s=some g then some (.int .i64 (n:Int))else none
   |_=>none
  |_=>match x.ev f with
   |.nilm=>some (.int .i64 0)
   |_=>none
 |.mnx mx x y=>match x.ev f,y.ev f with
  |.int k a,.int k' b=>if k=k' then some (.int k (bif mx then(if a<b then b else a)else(if b<a then b else a)))else none
  |_,_=>none
 |.mkfn fn first cap=>some (.fn fn (first.map (RA.ev f)) (cap.map (RA.ev f)))
 |.toU x=>match x.ev f with
  |.ptr l s o=>match Qc m l s with
   |.cells xs=>if o<xs.length then some (.ptr l s o)else none
   |_=>none
  |_=>none
 |.ofU t n x=>match x.ev f with
  |.ptr l s o=>match Qc m l s with
   |.cells xs=>if o=0∧xs.length=n∧s=t+2000 then some (.ptr l s 0)else none
   |_=>none
  |_=>none
 |.same x=>some (x.ev f)
 |.mgetp t ok z x i=>match x.ev f with
  |.mp ks vs=>match KZ t (i.ev f)with
   |some k=>bif keys t ks then(match J3 k ks vs with
    |some v=>bif v.gr then some (bif ok then .tup [v,.bool true]else v)else none
    |none=>some (bif ok then .tup [z,.bool false]else z))else none
   |none=>none
  |_=>none
 |.mget t ok z x i=>match WX m (x.ev f)with
  |some (ks,vs)=>match KZ t (i.ev f)with
   |some k=>bif keys t ks then(match J3 k ks vs with
    |some v=>bif v.gr then some (bif ok then .tup [v,.bool true]else v)else none
    |none=>some (bif ok then .tup [z,.bool false]else z))else none
   |none=>none
  |none=>none
 |.mki t x=>some (.iface t (x.ev f))
 |.tas t ok z x=>match x.ev f with
  |.iface t' y=>bif t'==t then some (bif ok then .tup [y,.bool true]else y)else(bif ok then some (.tup [z,.bool false])else none)
  |.nili=>bif ok then some (.tup [z,.bool false])else none
  |_=>none

mutual
def AV.isC:AV→Value→Bool
 |.int k' n',v=>match v with|.int k n=>k==k'&&n==n'|_=>false
 |.bool b',v=>match v with|.bool b=>b==b'|_=>false
 |.str l,v=>match v with|.string s=>s.data.toList==l|_=>false
 |.nils,v=>match v with|.slice none 0 0=>true|_=>false
 |.nilp,v=>match v with|.pointer none=>true|_=>false
 |.nilf,v=>match v with|.nilFunc=>true|_=>false
 |.nili,v=>match v with|.nilIface=>true|_=>false
 |.nilm,v=>match v with|.map none=>true|_=>false
 |.agg l,v=>match v with|.agg vs=>AV.isCL l vs.toList|_=>false
 |.tup l,v=>match v with|.tuple vs=>AV.isCL l vs.toList|_=>false
 |_,_=>false
def AV.isCL:List AV→List Value→Bool
 | [],vs=>vs.isEmpty
 |x :: l,vs=>match vs with|v :: vs=>x.isC v&&AV.isCL l vs | []=>false
end

def isC (v:Value)(x:AV):Bool:=x.isC v
def isCL (vs:List Value)(l:List AV):Bool:=AV.isCL l vs

def QH:Operand→RA→Bool
 |.tmp t,.t n=>t==n
 |.const v,.c x=>isC v x
 |.func k,.f k'=>k==k'
 |.global k,.g k' l=>k==k'&&(match N2.lookup k with
  |some vs=>isCL vs l&&AV.rfL l&&l.all AV.leaf
  |none=>false)
 |_,_=>false

def HE:Option Operand→Option RA→Bool
 |none,none=>true
 |some x,some r=>QH x r
 |_,_=>false

def Kx:List Operand→List RA→Bool
 | [],[]=>true
 |x :: xs,r :: rs=>QH x r&&Kx xs rs
 |_,_=>false

def ZK (P:Program)(t:TypeId):Option (Option Nat) :=
 match P.underlying t,P.info? t with
 |some (.struct _),some i=>some (some i.size)
 |some (.array _ _),some i=>some (some i.size)
 |some _,some _=>some none
 |_,_=>none

def Yi (P:Program)(t:TypeId)(k:IntKind):Bool :=
 match P.underlying t with
 |some (.int k')=>k==k'
 |_=>false

def Yj (P:Program)(t:TypeId):Bool :=
 match P.underlying t with
 |some .string=>true
 |_=>false

def N3 (P:Program)(tx:Bool)(t:TypeId):Bool:=bif tx then Yj P t else Yi P t .i64

def K0 (P:Program)(t:TypeId):Ty :=
 match P.underlying t with
 |some (.int _)=>.num
 |some .string=>.str
 |some .bool=>.bool
 |some (.pointer e)=>if (P.info? e).isSome then .ptr else .other
 |some (.interface _)=>.iface
 |_=>.other

def JC (P:Program):Nat→List Field→List Ty→Bool
 |_,[],[]=>true
 |o, fl :: fs, t :: ts=>fl.offset==o&&fl.name != "_" && K0 P fl.type==t&&JC P (o+1) fs ts
 |_,_,_=>false

def N4 (P:Program)(fs:Array Field):Option (List (Nat×Nat)) :=
 fs.toList.mapM fun fl=>(P.info? fl.type).map fun i=>(fl.offset,i.size)

def WA (pl:List (Nat×Nat)):List (Nat×Operand)→List (Nat×Nat×RA)→Bool
 | [],[]=>true
 |(i,x) :: xs,(o,n,r) :: rs=>pl[i]? == some (o,n)&&QH x r&&WA pl xs rs
 |_,_=>false

def KQ (sz:Nat):List (Nat×Operand)→List (Nat×Nat×RA)→Bool
 | [],[]=>true
 |(i,x) :: xs,(o,n,r) :: rs=>(o==i*sz&&n==sz)&&QH x r&&KQ sz xs rs
 |_,_=>false

def YC (P:Program)(t:TypeId):Bool :=
 match P.underlying t with
 |some (.interface _)=>false
 |some _=>true
 |none=>false

def XV (P:Program)(op:Op)(vo:VO):Bool :=
 match vo with
 |.mov r=>match op with
  |.move x|.assign x=>QH x r
  |_=>false
 |.pick c a b=>match op with
  |.pick x y z=>QH x c&&QH y a&&QH z b
  |_=>false
 |.build z ps=>match op with
  |.build t Ql=>match P.underlying t,P.info? t with
   |some (.struct fs),some i=>match i.zero,N4 P fs with
    |some zv,some pl=>isCL zv.cells.toList z&&WA pl Ql.toList ps
    |_,_=>false
   |some (.array _ e),some i=>match i.zero,P.info? e with
    |some zv,some ie=>isCL zv.cells.toList z&&KQ ie.size Ql.toList ps
    |_,_=>false
   |_,_=>false
  |_=>false
 |.load k r=>match op with
  |.load t x=>ZK P t==some k&&QH x r
  |_=>false
 |.loado k r=>match op with
  |.load t x=>ZK P t==some k&&QH x r
  |_=>false
 |.loadv _ _ k r=>match op with
  |.load t x=>ZK P t==some k&&QH x r
  |_=>false
 |.loadr k r=>match op with
  |.load t x=>ZK P t==some k&&QH x r
  |_=>false
 |.nilck r=>match op with
  |.nilCheck x=>QH x r
  |_=>false
 |.bin ty o r s=>match op with
  |.binOp o' t x y _=>o==o'&&K0 P t==ty&&QH x r&&QH y s
  |_=>false
 |.eqs neg ks r s=>match op with
  |.binOp o t x y _=>(o==(if neg then .neq else .eql))&&(match P.underlying t with|some (.struct fs)=>JC P 0 fs.toList ks|_=>false) && !P.stoodInHeld t && !P.eqGuardType P.depth t&&QH x r&&QH y s
  |_=>false
 |.un o r=>match op with
  |.unOp o' _ x=>o==o'&&QH x r
  |_=>false
 |.cvi k r=>match op with
  |.convert src dst x=>Yi P dst k&&(P.underlying src).isSome&&QH x r
  |_=>false
 |.b2s r=>match op with
  |.convert src dst x=>Yj P dst&&(match P.underlying src with|some (.slice e)=>Yi P e .u8&&(P.info? e).any (fun i=>i.size==1)|_=>false)&&QH x r
  |_=>false
 |.slcl r hi mx=>match op with
  |.slice t x none (some y) (some z)=>(match P.underlying t with
   |some (.slice e)=>(P.info? e).isSome
   |_=>false)&&QH x r&&QH y hi&&QH z mx
  |_=>false
 |.slc sz r lo hi mx=>match op with
  |.slice t x l h m=>(match sz with|none=>Yj P t|some z=>(match P.underlying t with|some (.slice e)=>(P.info? e).any (fun i=>i.size==z)|_=>false))&&QH x r&&HE l lo&&HE h hi&&HE m mx&&(m.isNone||h.isSome)
  |_=>false
 |.faddr off r=>match op with
  |.fieldAddr t x k=>(match P.underlying t with
   |some (.struct fs)=>match fs[k]? with
    |some fl=>fl.offset==off&&(P.info? fl.type).any (fun i=>i.size != 0)
    |none=>false
   |_=>false)&&QH x r
  |_=>false
 |.fld off k r=>match op with
  |.field t x i=>(match P.underlying t with
   |some (.struct fs)=>match fs[i]? with
    |some fl=>fl.offset==off&&ZK P fl.type==some k
    |none=>false
   |_=>false)&&QH x r
  |_=>false
 |.iaddr sz len r i=>match op with
  |.indexAddr t x y=>(match P.underlying t with
   |some (.slice e)=>len==none&&(P.info? e).any (fun j=>j.size==sz)&&sz != 0
   |some (.array n e)=>len==some n&&(P.info? e).any (fun j=>j.size==sz)&&sz != 0
   |_=>false)&&QH x r&&QH y i
  |_=>false
 |.idx r i=>match op with
  |.index t x y=>Yj P t&&QH x r&&QH y i
  |_=>false
 |.ext r i=>match op with
  |.extract x k=>k==i&&QH x r
  |_=>false
 |.len k r=>match op with
  |.call { callee:=.builtin .len,args:=⟨[x]⟩,argTypes:=⟨[t]⟩ }=>(match P.underlying t with|some .string=>k==0|some (.slice _)=>k==1|some (.map _ _)=>k==2|_=>false)&&QH x r
  |_=>false
 |.mnx mx r s=>match op with
  |.call { callee:=.builtin b,args:=⟨[x,y]⟩,argTypes:=_ }=>(match b with|.max=>mx|.min=>!mx|_=>false)&&QH x r&&QH y s
  |_=>false
 |.mkfn fn a b=>match op with
  |.makeFunc fn' xs ys=>fn==fn'&&Kx xs.toList a&&Kx ys.toList b
  |_=>false
 |.toU r=>match op with
  |.convert src dst x=>(match P.underlying src with|some (.pointer t)=>(P.info? t).any (fun i=>i.size != 0)|_=>false)&&(match P.underlying dst with|some .unsafePointer=>true|_=>false)&&QH x r
  |_=>false
 |.ofU t n r=>match op with
  |.convert src dst x=>(match P.underlying src with|some .unsafePointer=>true|_=>false)&&(match P.underlying dst with|some (.pointer u)=>u==t&&(P.info? u).isSome&&liesAt P P.depth t (n / P.cellsOf t) 0 t 1|_=>false)&&QH x r
  |_=>false
 |.same r=>match op with
  |.call { callee := .value (.func k), args := ⟨[x]⟩, argTypes := _ }=>(match P.funcs[k]? with|some fn=>fn.name == "internal/abi.NoEscape" && fn.body.isNone&&(Extern.allNextRows.lookup fn.origin).isNone|_=>false)&&QH x r
  |_=>false
 |.mgetp tx ok z r i=>match op with
  |.lookup t x y ok'=>(match P.underlying t with
   |some (.map kt et)=>N3 P tx kt&&(match P.info? et with
    |some inf=>match inf.zero with
     |some zv=>isC zv z
     |none=>false
    |none=>false)
   |_=>false)&&ok==ok'&&QH x r&&QH y i
  |_=>false
 |.mget tx ok z r i=>match op with
  |.lookup t x y ok'=>(match P.underlying t with
   |some (.map kt et)=>N3 P tx kt&&(match P.info? et with
    |some inf=>match inf.zero with
     |some zv=>isC zv z
     |none=>false
    |none=>false)
   |_=>false)&&ok==ok'&&QH x r&&QH y i
  |_=>false
 |.mki t r=>match op with
  |.makeInterface t' x=>t==t'&&YC P t&&QH x r
  |_=>false
 |.tas t ok z r=>match op with
  |.typeAssert x _ t' ok'=>t==t'&&YC P t&&(match P.info? t with
   |some inf=>match inf.zero with
    |some zv=>isC zv z
    |none=>false
   |none=>false)&&ok==ok'&&QH x r
  |_=>false

mutual
theorem AV.isC_ok {G:Gh}:∀(x:AV) (v:Value),x.isC v=true→Rep G x v
 |.int k n,v,h=>by
   cases v<;>simp[AV.isC]at h;obtain⟨rfl,rfl⟩:=h;exact .int _ _
 |.bool b,v,h=>by
   cases v<;>simp[AV.isC]at h;subst h;exact .bool _
 |.str s,v,h=>by
   cases v<;>simp[AV.isC]at h;subst h;exact .str _
 |.nils,v,h=>by
   simp only[AV.isC]at h;split at h
   ·exact .nils
   ·cases h
 |.nilp,v,h=>by
   simp only[AV.isC]at h;split at h
   ·exact .nilp
   ·cases h
 |.nilf,v,h=>by
   simp only[AV.isC]at h;split at h
   ·exact .nilf
   ·cases h
 |.nili,v,h=>by
   simp only[AV.isC]at h;split at h
   ·exact .nili
   ·cases h
 |.nilm,v,h=>by
   simp only[AV.isC]at h;split at h
   ·exact .nilm
   ·cases h
 |.agg l,v,h=>by
   simp only[AV.isC]at h;split at h
   ·exact .agg (AV.isCL_ok l _ h)
   ·cases h
 |.tup l,v,h=>by
   simp only[AV.isC]at h;split at h
   ·exact .tup (AV.isCL_ok l _ h)
   ·cases h
 |.top,v,h=>by simp[AV.isC]at h
 |.list l,v,h=>by simp[AV.isC]at h
 |.lcap l,v,h=>by simp[AV.isC]at h
 |.iface t x,v,h=>by simp[AV.isC]at h
 |.fn f a b,v,h=>by simp[AV.isC]at h
 |.ptr l s o,v,h=>by simp[AV.isC]at h
 |.vec l s g o n q,v,h=>by simp[AV.isC]at h
 |.vptr l s g i o,v,h=>by simp[AV.isC]at h
 |.rptr l,v,h=>by simp[AV.isC]at h
theorem AV.isCL_ok {G:Gh}:∀(l:List AV) (vs:List Value),AV.isCL l vs=true→RepL G l vs
 | [],vs,h=>by
   cases vs with
   |nil=>exact .nil
   |cons v vs=>simp[AV.isCL]at h
 |x :: l,vs,h=>by
   cases vs with
   |nil=>simp[AV.isCL]at h
   |cons v vs=>
    simp only[AV.isCL,QmT]at h;exact .cons (AV.isC_ok x v h.1) (AV.isCL_ok l vs h.2)
end
theorem isC_ok {G:Gh}{v:Value}{x:AV}(h:isC v x=true):Rep G x v:=AV.isC_ok x v h
theorem isCL_ok {G:Gh}{v:List Value}{x:List AV}(h:isCL v x=true):RepL G x v:=AV.isCL_ok x v h

section
variable {P:Program}{G:Gh}{B N:Nat}{st:St}{a:Act}{w:World}

theorem Qs (h:Rel G B N st a w){x:Operand}{r:RA}(hc:QH x r=true):Rep G (r.ev st.f) (a.eval x):=by
 cases x with
 |tmp t=>
  cases r<;>simp[QH]at hc;subst hc;exact h.slots t
 |const v=>
  cases r<;>simp[QH]at hc;exact isC_ok hc
 |global g=>
  cases r<;>simp only[QH,QmO]at hc;rename_i k l;rw[QmT,QmA]at hc;obtain⟨rfl,hc⟩:=hc;cases hl:N2.lookup g with
  |none=>rw[hl]at hc;cases hc
  |some vs=>
   rw[hl]at hc;simp only[QmT]at hc;obtain⟨⟨h1,h2⟩,h3⟩:=hc;refine .rptr (b:=g) (o:=0) (isCL_ok h1) h2 h3 fun j u hj=>G.tab _ _ _ ?_
   have hj':=(Qmu.1 hj).1;simp only[Jb,hl,QmU,hj,QmV];rw[QmC (by omega)]
 |func k=>
  cases r<;>simp[QH]at hc;subst hc;exact .fn .nil .nil

theorem UT (h:Rel G B N st a w):∀ {xs:List Operand} {rs:List RA},Kx xs rs=true→RepL G (rs.map (RA.ev st.f)) (xs.map a.eval)
 | [],[],_=>.nil
 |x :: xs,r :: rs,hc=>by
   simp only[Kx,QmT]at hc;exact .cons (Qs h hc.1) (UT h hc.2)
 | [],_ :: _,hc=>by simp[Kx]at hc
 |_ :: _,[],hc=>by simp[Kx]at hc

theorem LM {op:BinOp}{k:IntKind}{m n:Int}{x:AV}(hx:Xe op k m n=some x)(h1:op≠.shl)(h2:op≠.shr)(t:TypeId) :
    ∃v,(binOp op t (.int k m) (.int k n)).run P w=.ok v w∧Rep G x v:=by
  cases op<;>first
    |exact absurd rfl h1
    |exact absurd rfl h2
    | (simp only[Xe]at hx;split at hx
       · cases hx
       · rename_i hn;cases hx;exact⟨_,by simp[binOp,Op.intDiv,hn],.int _ _⟩)
    |(simp only[Xe,QmW]at hx;subst hx;exact⟨_,by simp[binOp,Op.intArith]<;>rfl,.int _ _⟩)
    |(simp only[Xe,QmW]at hx;subst hx;exact⟨_,by simp[binOp]<;>rfl,.int _ _⟩)
    |(simp only[Xe,QmW]at hx;subst hx;exact⟨_,by simp[binOp,Op.intCmp]<;>rfl,.bool _⟩)

theorem LN {op:BinOp}{s u:List UInt8}{x:AV}(hx:QP op s u=some x)(t:TypeId) :
  ∃v,(binOp op t (.string ⟨⟨s⟩⟩) (.string ⟨⟨u⟩⟩)).run P w=.ok v w∧Rep G x v:=by
 have hs:(⟨⟨s⟩⟩:ByteArray).toList=s:=by rw[ByteArray.toList_eq]
 have hu:(⟨⟨u⟩⟩:ByteArray).toList=u:=by rw[ByteArray.toList_eq]
 cases op with
 |add=>
  simp only[QP]at hx;split at hx
  ·rename_i hl;cases hx;refine⟨.string ⟨⟨s++u⟩⟩,?_,.str _⟩;have hlen:((ByteArray.size ⟨⟨s⟩⟩+ByteArray.size ⟨⟨u⟩⟩:Nat):Int)≤IntKind.i64.max:=by
    show((s.length+u.length:Nat):Int)≤9223372036854775807;omega
   have hcat:(⟨⟨s⟩⟩:ByteArray)++⟨⟨u⟩⟩=⟨⟨s++u⟩⟩:=by
    apply ByteArray.ext
    simp
   simp only[binOp,Op.stringOp,hcat];rw[QmC (by omega)];rfl
  ·cases hx
 |eql=>simp only[QP,QmW]at hx;subst hx;exact⟨_,by simp only[binOp,Op.stringOp,hs,hu];rfl,.bool _⟩
 |neq=>simp only[QP,QmW]at hx;subst hx;exact⟨_,by simp only[binOp,Op.stringOp,hs,hu];rfl,.bool _⟩
 |lss=>simp only[QP,QmW]at hx;subst hx;exact⟨_,by simp only[binOp,Op.stringOp,hs,hu];rfl,.bool _⟩
 |leq=>simp only[QP,QmW]at hx;subst hx;exact⟨_,by simp only[binOp,Op.stringOp,hs,hu];rfl,.bool _⟩
 |gtr=>simp only[QP,QmW]at hx;subst hx;exact⟨_,by simp only[binOp,Op.stringOp,hs,hu];rfl,.bool _⟩
 |geq=>simp only[QP,QmW]at hx;subst hx;exact⟨_,by simp only[binOp,Op.stringOp,hs,hu];rfl,.bool _⟩
 |_=>simp[QP]at hx

theorem Dq {t:TypeId}(h:K0 P t=.ptr):∃e j,P.underlying t=some (.pointer e)∧P.info? e=some j:=by
  unfold K0 at h;split at h<;>first
    |(cases h;done)
    | (rename_i e hu
       split at h
       · rename_i hi;obtain⟨j,hj⟩:=QmX.1 hi;exact⟨e,j,hu,hj⟩
       · cases h)

theorem HF {t e:TypeId}(hp:P.underlying t=some (.pointer e)):(binOp .eql t (.pointer none) (.pointer none)).run P w=.ok (.bool true) w∧(binOp .neq t (.pointer none) (.pointer none)).run P w=.ok (.bool false) w:=by
 have h:∀d:Nat,(Op.equalIn (d+1) t (.pointer none) (.pointer none)).run P w=.ok true w:=fun d=>by
  simp[Op.equalIn,run_underlying hp]
 simp only[binOp]
 constructor<;>simp[Op.equal,Op.maxDepth,h 9999]

theorem G3 {t e:TypeId}(hp:P.underlying t=some (.pointer e))(a:Addr):(binOp .eql t (.pointer (some a)) (.pointer none)).run P w=.ok (.bool false) w∧(binOp .neq t (.pointer (some a)) (.pointer none)).run P w=.ok (.bool true) w:=by
 have h:∀d:Nat,(Op.equalIn (d+1) t (.pointer (some a)) (.pointer none)).run P w=.ok false w:=fun d=>by
  simp[Op.equalIn,run_underlying hp]
 simp only[binOp]
 constructor<;>simp[Op.equal,Op.maxDepth,h 9999]

theorem LO {ty:Ty}{op:BinOp}{p q x:AV}(hx:Q3 ty op p q=some x){v u:Value}(hp:Rep G p v)(hq:Rep G q u){t:TypeId}(ht:K0 P t=ty)(o1 o2:Operand) :
    ∃r,(do eqGuard op t o1 o2 v u;binOp op t v u).run P w=.ok r w∧Rep G x r:=by
  cases p<;>cases q<;>first
    |(simp[Q3]at hx;done)
    |skip
  case int.int k m k' n=>
    cases hp;cases hq;have hg:(eqGuard op t o1 o2 (.int k m) (.int k' n)).run P w=.ok () w:=by
      unfold eqGuard;split<;>rfl
    rw[Sem.run_bind,hg,Result.andThen_ok];by_cases h1:op=.shl
    · subst h1;simp only[Q3]at hx;split at hx
      · rename_i h0;cases hx;exact⟨_,by simp only[binOp,Op.shift];rw[QmC (by omega)];rfl,.int _ _⟩
      · cases hx
    · by_cases h2:op=.shr
      · subst h2;simp only[Q3]at hx;split at hx
        · rename_i h0;cases hx;exact⟨_,by simp only[binOp,Op.shift];rw[QmC (by omega)];rfl,.int _ _⟩
        · cases hx
      · have hx':(if k=k' then Xe op k m n else none)=some x:=by
          cases op<;>first|exact absurd rfl h1|exact absurd rfl h2|exact hx
        split at hx'
        · rename_i hk;subst hk;exact LM hx' h1 h2 t
        · cases hx'
  case str.str s u=>
    cases hp;cases hq;have hg:(eqGuard op t o1 o2 (.string ⟨⟨s⟩⟩) (.string ⟨⟨u⟩⟩)).run P w=.ok () w:=by
      unfold eqGuard;split<;>rfl
    rw[Sem.run_bind,hg,Result.andThen_ok];exact LN hx t
  case bool.bool b c=>
    cases hp;cases hq;have hg:(eqGuard op t o1 o2 (.bool b) (.bool c)).run P w=.ok () w:=by
      unfold eqGuard;split<;>rfl
    rw[Sem.run_bind,hg,Result.andThen_ok];have hb:ty=.bool→P.underlying t=some .bool:=by
      intro e;rw[e]at ht;unfold K0 at ht;split at ht<;>first|(cases ht;done)|(split at ht<;>cases ht;done)|assumption
    cases ty<;>cases op<;>first
      |(simp[Q3]at hx;done)
      | (simp only[Q3,QmW]at hx;subst hx
         exact⟨_,by simp[binOp,Op.equal,Op.maxDepth,run_equalIn_bool' w 9999 t b c (hb rfl)]<;>rfl,.bool _⟩)
  case nilp.nilp=>
    cases hp;cases hq;have hg:(eqGuard op t o1 o2 (.pointer none) (.pointer none)).run P w=.ok () w:=by
      unfold eqGuard;split<;>rfl
    rw[Sem.run_bind,hg,Result.andThen_ok];cases ty<;>cases op<;>first
      |(simp[Q3]at hx;done)
      | (simp only[Q3,QmW]at hx;subst hx
         obtain⟨e,j,hu,hj⟩:=Dq ht
         first|exact⟨_,(HF hu).1,.bool _⟩|exact⟨_,(HF hu).2,.bool _⟩)
  case ptr.nilp l s o=>
    cases hp;cases hq;rename_i b hb;have hg:(eqGuard op t o1 o2 (.pointer (some ⟨b,o,none⟩)) (.pointer none)).run P w=.ok () w:=by
      unfold eqGuard;split<;>rfl
    rw[Sem.run_bind,hg,Result.andThen_ok];cases ty<;>cases op<;>first
      |(simp[Q3]at hx;done)
      | (simp only[Q3,QmW]at hx;subst hx
         obtain⟨e,j,hu,hj⟩:=Dq ht
         first|exact⟨_,(G3 hu _).1,.bool _⟩|exact⟨_,(G3 hu _).2,.bool _⟩)
  case ptr.ptr l s o l' s' o'=>
    cases hp;cases hq;rename_i b hb b' hb';simp only[Q3]at hx;split at hx
    · rename_i hh;obtain⟨rfl,rfl,rfl⟩:=hh;rw[hb]at hb';cases hb';have hg:(eqGuard op t o1 o2 (.pointer (some ⟨b,o,none⟩)) (.pointer (some ⟨b,o,none⟩))).run P w=.ok () w:=by
        unfold eqGuard;split<;>rfl
      rw[Sem.run_bind,hg,Result.andThen_ok];cases ty<;>cases op<;>first
        |(cases hx;done)
        | (simp only[QmW]at hx;subst hx
           obtain⟨e,j,hu,hj⟩:=Dq ht
           first|exact⟨_,run_eql_ptr_same w _ hu hj,.bool _⟩|exact⟨_,Lib.run_neq_ptr_same w _ hu hj,.bool _⟩)
    · cases hx

end

section
variable {P:Program}{G:Gh}{B N:Nat}{st:St}{a:Act}{w:World}

theorem N5 {t:TypeId}(h:K0 P t=.num):∃k,P.underlying t=some (.int k):=by
 unfold K0 at h;split at h<;>first|(cases h;done)|(split at h<;>cases h;done)|exact⟨_,by assumption⟩
theorem N6 {t:TypeId}(h:K0 P t=.str):P.underlying t=some .string:=by
 unfold K0 at h;split at h<;>first|(cases h;done)|(split at h<;>cases h;done)|assumption
theorem Na {t:TypeId}(h:K0 P t=.bool):P.underlying t=some .bool:=by
 unfold K0 at h;split at h<;>first|(cases h;done)|(split at h<;>cases h;done)|assumption

theorem K1 {t:TypeId}{d:TypeDesc}(h:P.underlying t=some d)(hs:∀fs,d≠.struct fs)(ha:∀n e,d≠.array n e):(isAgg t).run P w=.ok false w:=by
 simp only[isAgg,Sem.run_bind,run_underlying h,Result.andThen_ok];cases d<;>first|rfl|(exact absurd rfl (hs _))|(exact absurd rfl (ha _ _))

theorem Ht {t:TypeId}{d:TypeDesc}(h:P.underlying t=some d)(hs:(∃fs,d=.struct fs)∨∃n e,d=.array n e):(isAgg t).run P w=.ok true w:=by
 simp only[isAgg,Sem.run_bind,run_underlying h,Result.andThen_ok];rcases hs with⟨fs,rfl⟩|⟨n,e,rfl⟩<;>rfl

theorem Xx {t:TypeId}{i:TypeInfo}(h:P.info? t=some i):(sizeOf t).run P w=.ok i.size w:=by
 simp[sizeOf,typeInfo,h]

theorem D3 {t:TypeId}(h:ZK P t=some none):(isAgg t).run P w=.ok false w:=by
 unfold ZK at h;split at h
 ·cases h
 ·cases h
 ·rename_i d i h1 h2 hd hi;exact K1 hd (fun fs e=>h1 fs e) (fun n e' e=>h2 n e' e)
 ·cases h

theorem D4 {t:TypeId}{k:Nat}(h:ZK P t=some (some k)):(isAgg t).run P w=.ok true w∧(sizeOf t).run P w=.ok k w:=by
 unfold ZK at h;split at h
 ·rename_i fs i hd hi;cases h;exact⟨Ht hd (.inl ⟨fs,rfl⟩),Xx hi⟩
 ·rename_i n e i hd hi;cases h;exact⟨Ht hd (.inr ⟨n,e,rfl⟩),Xx hi⟩
 ·cases h
 ·cases h

theorem LP {G:Gh}{l:List AV}{vs:List Value}(h:RepL G l vs){o:Nat}{k:Option Nat}{x:AV}(hx:part l o k=some x){t:TypeId}(ht:ZK P t=some k) :
  ∃v,(Go.part t ⟨vs⟩ o).run P w=.ok v w∧Rep G x v:=by
 cases k with
 |none=>
  obtain⟨v,hv,r⟩:=h.at_ hx;refine⟨v,?_,r⟩;simp only[Go.part,Sem.run_bind,D3 ht,Result.andThen_ok];simp[hv]
 |some k=>
  simp only[part]at hx;split at hx
  ·rename_i hk;cases hx;obtain⟨h1,h2⟩:=D4 (w:=w) ht;refine⟨.agg ⟨(vs.drop o).take k⟩,?_,.agg ((h.drop o).take k)⟩;simp only[Go.part,Sem.run_bind,h1,Result.andThen_ok,if_true,h2,Sem.run_pure];simp[List.extract_eq_take_drop]
  ·cases hx

theorem QbP {ty:Ty}{x y:AV}{b:Bool}(h:D2 ty x y=some b){v u:Value}(hv:Rep G x v)(hu:Rep G y u){t:TypeId}(ht:K0 P t=ty)(d:Nat):(Op.equalIn (d+1) t v u).run P w=.ok b w:=by
 unfold D2 at h;split at h
 ·cases hv;cases hu;split at h
  ·rename_i hk;subst hk;cases h;obtain⟨k',hk'⟩:=N5 ht;exact run_equalIn_int w d t _ k' _ _ hk'
  ·cases h
 ·cases hv;cases hu;cases h;exact run_equalIn_bool' w d t _ _ (Na ht)
 ·cases hv;cases hu;cases h;rw[run_equalIn_string w d t _ _ (N6 ht)];simp[ByteArray.toList_eq]
 ·cases h

theorem LQ {t:TypeId}{ty:Ty}(ht:K0 P t=ty)(h:ty=.num∨ty=.bool∨ty=.str):(isAgg t).run P w=.ok false w:=by
 rcases h with rfl|rfl|rfl
 ·obtain⟨k,hk⟩:=N5 ht;exact K1 hk (by simp) (by simp)
 ·exact K1 (Na ht) (by simp) (by simp)
 ·exact K1 (N6 ht) (by simp) (by simp)

theorem QbQ {ty:Ty}{x y:AV}{b:Bool}(h:D2 ty x y=some b):ty=.num∨ty=.bool∨ty=.str:=by
 unfold D2 at h;split at h<;>simp at h ⊢

theorem G4 (d:Nat)(xs ys:Array Value):∀(fs:List Field) (ks:List Ty) (o:Nat) (l r:List AV) (b:Bool),JC P o fs ks=true→RepL G l (xs.toList.drop o)→RepL G r (ys.toList.drop o)→GZ ks l r=some b→
  (Op.eqFields (d+1) xs ys fs).run P w=.ok b w
 | [],ks,o,l,r,b,hp,hl,hr,he=>by
   cases ks<;>simp[JC]at hp;unfold GZ at he;split at he
   ·cases he;rfl
   ·rename_i h;cases h
   ·cases he
 |fl :: fs,ks,o,l,r,b,hp,hl,hr,he=>by
   cases ks with
   |nil=>simp[JC]at hp
   |cons k ks=>
    simp only[JC,QmT,QmA,QmY]at hp;obtain⟨⟨⟨ho,hn⟩,hty⟩,hrest⟩:=hp;cases l with
    |nil=>simp[GZ]at he
    |cons x l=>
     cases r with
     |nil=>simp[GZ]at he
     |cons y r=>
      simp only[GZ]at he;split at he
      ·rename_i b1 b2 e1 e2;cases he;cases hx:xs.toList.drop o with
       |nil=>rw[hx]at hl;cases hl
       |cons v vs=>
        cases hy:ys.toList.drop o with
        |nil=>rw[hy]at hr;cases hr
        |cons u us=>
         rw[hx]at hl;rw[hy]at hr;cases hl with
         |cons hv hl=>
          cases hr with
          |cons hu hr=>
           have hvx:xs[o]? = some v:=by rw[←QmZ,←List.head?_drop,hx];rfl
           have huy:ys[o]? = some u:=by rw[←QmZ,←List.head?_drop,hy];rfl
           have hvs:xs.toList.drop (o+1)=vs:=by rw[←Qm0,hx];rfl
           have hus:ys.toList.drop (o+1)=us:=by rw[←Qm0,hy];rfl
           have hag:=LQ (P:=P) (w:=w) hty (QbQ e1);have hq:=QbP (P:=P) (w:=w) e1 hv hu hty d;have ih:=G4 d xs ys fs ks (o+1) l r b2 hrest (by rw[hvs];exact hl) (by rw[hus];exact hr) e2;simp only[Op.eqFields,QmD hn,Sem.run_bind,Go.part,hag,Result.andThen_ok,ho,hvx,huy,QmO,if_false,Sem.run_pure,hq];cases b1 with
           |false=>simp
           |true=>simpa using ih
      ·cases he

theorem QbR {op:UnOp}{p x:AV}(hx:HD op p=some x){v:Value}(hp:Rep G p v):∃r,(Op.unary op v).run P w=.ok r w∧Rep G x r:=by
 unfold HD at hx;split at hx
 ·cases hp;cases hx;exact⟨_,by simp[Op.unary,Op.intArith]<;>rfl,.int _ _⟩
 ·cases hp;cases hx;exact⟨_,by simp[Op.unary]<;>rfl,.int _ _⟩
 ·cases hp;cases hx;exact⟨_,by simp[Op.unary]<;>rfl,.bool _⟩
 ·cases hx

theorem K2 (off:Nat):∀(us:List Value) (j:Nat) (cs:Array Value),off+j+us.length≤cs.size→
  ((us.zipIdx j).foldl (fun cs (c,j)=>cs.setIfInBounds (off+j) c) cs).toList=cs.toList.take (off+j)++us++cs.toList.drop (off+j+us.length)
 | [],j,cs,h=>by simp
 |u :: us,j,cs,h=>by
  simp only[QmK]at h;have ih:=K2 off us (j+1) (cs.setIfInBounds (off+j) u) (by simp;omega);simp only[List.zipIdx_cons,List.foldl_cons];rw[ih,Array.toList_setIfInBounds];have hlt:off+j<cs.toList.length:=by simp;omega
  rw[show off+(j+1)=off+j+1 by omega,QmP (by simpa using hlt),List.drop_set_of_lt (by omega),List.take_set_of_le (Qms _)];simp only[List.getElem_set_self,QmQ,QmR,QmS,QmK];congr 4
  omega

theorem Ms (h:Rel G B N st a w){pl:List (Nat×Nat)}:∀ {xs:List (Nat×Operand)} {rs:List (Nat×Nat×RA)} {z y:List AV} {cs:Array Value},WA pl xs rs=true→RepL G z cs.toList→fill st.f rs z=some y→
  ∃cs',Instr.fill (pl[·]?) cs (xs.map fun(i,x)=>(i,a.eval x))=some cs'∧RepL G y cs'.toList
 | [],[],z,y,cs,_,hz,hf=>by cases hf;exact⟨cs,rfl,hz⟩
 |(i,x) :: xs,(o,n,r) :: rs,z,y,cs,hc,hz,hf=>by
  simp only[WA,QmT,QmA]at hc;simp only[fill]at hf;split at hf
  ·rename_i hh;obtain⟨h1,h2,h3⟩:=hh;have hr:=(Qs h hc.1.2).cells h3;have hl:=hr.length;have hzl:=hz.length;simp only[Qm1]at hl hzl;have hfold:=K2 o (a.eval x).cells.toList 0 cs (by simp only[Qm1];omega);simp only[Qm2]at hfold;have hsz:((a.eval x).cells.zipIdx.foldl (fun cs (c,j)=>cs.setIfInBounds (o+j) c) cs).toList=cs.toList.take o++(a.eval x).cells.toList++cs.toList.drop (o+(a.eval x).cells.toList.length):=by
    rw[←hfold,←Array.foldl_toList,Array.toList_zipIdx]
   obtain⟨cs',h4,h5⟩:=Ms h (cs:=(a.eval x).cells.zipIdx.foldl (fun cs (c,j)=>cs.setIfInBounds (o+j) c) cs) hc.2 (by rw[hsz];exact hz.splice hr o) hf;refine⟨cs',?_,h5⟩;simp only[Qm3,Instr.fill,hc.1.1];rw[QmC (by simp;omega)];exact h4
  ·cases hf
 | [],_ :: _,_,_,_,hc,_,_=>by simp[WA]at hc
 |_ :: _,[],_,_,_,hc,_,_=>by simp[WA]at hc

theorem N7 (h:Rel G B N st a w){sz:Nat}:∀ {xs:List (Nat×Operand)} {rs:List (Nat×Nat×RA)} {z y:List AV} {cs:Array Value},KQ sz xs rs=true→RepL G z cs.toList→fill st.f rs z=some y→
  ∃cs',Instr.fill (fun i=>some (i*sz,sz)) cs (xs.map fun(i,x)=>(i,a.eval x))=some cs'∧RepL G y cs'.toList
 | [],[],z,y,cs,_,hz,hf=>by cases hf;exact⟨cs,rfl,hz⟩
 |(i,x) :: xs,(o,n,r) :: rs,z,y,cs,hc,hz,hf=>by
  simp only[KQ,QmT,QmA]at hc;obtain⟨⟨⟨rfl,rfl⟩,hc1⟩,hc2⟩:=hc;simp only[fill]at hf;split at hf
  ·rename_i hh;obtain⟨h1,h2,h3⟩:=hh;have hr:=(Qs h hc1).cells h3;have hl:=hr.length;have hzl:=hz.length;simp only[Qm1]at hl hzl;have hfold:=K2 (i*n) (a.eval x).cells.toList 0 cs (by simp only[Qm1];omega);simp only[Qm2]at hfold;have hsz:((a.eval x).cells.zipIdx.foldl (fun cs (c,j)=>cs.setIfInBounds (i*n+j) c) cs).toList=cs.toList.take (i*n)++(a.eval x).cells.toList++cs.toList.drop (i*n+(a.eval x).cells.toList.length):=by
    rw[←hfold,←Array.foldl_toList,Array.toList_zipIdx]
   obtain⟨cs',h4,h5⟩:=N7 h (cs:=(a.eval x).cells.zipIdx.foldl (fun cs (c,j)=>cs.setIfInBounds (i*n+j) c) cs) hc2 (by rw[hsz];exact hz.splice hr (i*n)) hf;refine⟨cs',?_,h5⟩;simp only[Qm3,Instr.fill];rw[QmC (by simp;omega)];exact h4
  ·cases hf
 | [],_ :: _,_,_,_,hc,_,_=>by simp[KQ]at hc
 |_ :: _,[],_,_,_,hc,_,_=>by simp[KQ]at hc

theorem RepL.takeDrop {G:Gh}{l:List AV}{vs:List Value}(h:RepL G l vs)(o k:Nat):RepL G ((l.drop o).take k) ((vs.drop o).take k):=(h.drop o).take k

theorem XQ (x:AV)(l:List AV):QK (x :: l)=x.cells++QK l:=rfl
theorem ZI (l r:List AV):QK (l++r)=QK l++QK r:=by simp[QK]
theorem Jm {sz:Nat}:∀ {l:List AV} (_:∀x∈l,x.cells.length=sz) (k:Nat),(QK l).take (k*sz)=QK (l.take k)
 | [],_,k=>by simp[QK]
 |x :: l,h,k=>by
  cases k with
  |zero=>simp[QK]
  |succ k=>
   have hx:=h x (QmN ..);rw[XQ,Qm4,XQ,List.take_append,hx];rw[Qm5 (by rw[hx,Qm6];omega),show(k+1)*sz-sz=k*sz by rw[Qm6];omega,Jm (fun y hy=>h y (QmL _ hy))]
theorem ZZ {sz:Nat}:∀ {l:List AV} (_:∀x∈l,x.cells.length=sz) (k:Nat),(QK l).drop (k*sz)=QK (l.drop k)
 | [],_,k=>by simp[QK]
 |x :: l,h,k=>by
  cases k with
  |zero=>simp
  |succ k=>
   have hx:=h x (QmN ..);rw[XQ,Qm7,List.drop_append,hx];rw[Qm8 (by rw[hx,Qm6];omega),show(k+1)*sz-sz=k*sz by rw[Qm6];omega,ZZ (fun y hy=>h y (QmL _ hy))];rfl
theorem Kp {sz:Nat}:∀ {l:List AV} (_:∀x∈l,x.cells.length=sz),(QK l).length=l.length*sz
 | [],_=>by simp[QK]
 |x :: l,h=>by
  rw[XQ,Qm9,h x (QmN ..),Kp (fun y hy=>h y (QmL _ hy)),QmK,Qm6];omega
theorem YD (h:Rel G B N st a w){k:Option Nat}{p x:AV}(hx:Xf st.m k p=some x){v:Value}(hp:Rep G p v){t:TypeId}(ht:ZK P t=some k) :
  ∃r,(Instr.loadAt t v).run P w=.ok r w∧Rep G x r:=by
 -- cells in a row at a known place
 have key:∀(b o:Nat) (vs:List Value) (y:List AV),RepL G y vs→(∀j u,vs[j]? = some u→w.cell? ⟨b,o+j,none⟩=some u)→part y 0 k=some x→
   ∃r,(Instr.loadAt t (.pointer (some ⟨b,o,none⟩))).run P w=.ok r w∧Rep G x r:=by
  intro b o vs y hy hcell hpart;cases k with
  |none=>
   obtain⟨u,hu,r⟩:=hy.at_ hpart;refine⟨u,?_,r⟩;have hc:=hcell 0 u hu;simp only[Instr.loadAt,Instr.sureAddr,Sem.run_bind,Sem.run_pure,Result.andThen_ok,loadVar,D3 ht,QmO,if_false,run_load];simp only[Qm2]at hc;rw[hc]
  |some k=>
   simp only[part]at hpart;split at hpart
   ·rename_i hk;cases hpart;obtain⟨h1,h2⟩:=D4 (w:=w) ht;have hl:=hy.length;have hlen:(vs.take k).length=k:=by simp;omega
    have hrun:=run_loadCells_list (P:=P) w ⟨b,o,none⟩ (vs.take k) (fun j u hu=>by
     rw[XC];refine hcell j u ?_;rw[Qna]at hu;split at hu
     ·exact hu
     ·cases hu)
    rw[hlen]at hrun;refine⟨.agg ⟨vs.take k⟩,?_,?_⟩
    ·simp only[Instr.loadAt,Instr.sureAddr,Sem.run_bind,Sem.run_pure,Result.andThen_ok,loadVar,h1,if_true,h2,hrun]
    ·have:=hy.take k
     simpa using Rep.agg this
   ·cases hpart
 cases p with
 |ptr l s o=>
  cases hp with
  |ptr hb=>
   rename_i b;simp only[Xf]at hx;split at hx
   ·rename_i xs hlk;obtain⟨b',cs,hb',hsoft,hr⟩:=h.mr.cells l s xs hlk;rw[hb]at hb';cases hb';have hr':=hr.shNL l;refine key b o (cs.toList.drop o) ((AV.shNL l xs).drop o) (hr'.drop o) (fun j u hu=>?_) ?_
    ·rw[hsoft.cell,←hu];simp
    ·cases k with
     |none=>
      simp only at hx;split at hx
      ·rename_i y hy;cases hx;have:∀(n:Nat) (xs:List AV) (i:Nat) (y:AV),xs[i]? = some y→(AV.shNL n xs)[i]? = some (y.shN n):=by
        intro n
        induction n with
        |zero=>intro xs i y h;exact h
        |succ n ih=>
         intro xs i y h;have h':=ih xs i y h;have aux:∀(l:List AV) (i:Nat) (y:AV),l[i]? = some y→(AV.shL l)[i]? = some y.sh:=by
          intro l
          induction l with
          |nil=>intro i y h;simp at h
          |cons z l ih=>
           intro i y h;cases i with
           |zero=>simp at h;subst h;rfl
           |succ i=>simp at h;simpa [AV.shL]using ih i y h
         exact aux _ _ _ h'
       simp only[part,Qnb,Qm2];exact this l xs o y hy
      ·cases hx
     |some k=>
      simp only at hx;split at hx
      ·rename_i hk;cases hx;have hlen:∀(n:Nat) (xs:List AV),(AV.shNL n xs).length=xs.length:=by
        intro n
        induction n with
        |zero=>intro xs;rfl
        |succ n ih=>
         intro xs;have aux:∀l:List AV,(AV.shL l).length=l.length:=by
          intro l
          induction l with
          |nil=>rfl
          |cons z l ih=>simp[AV.shL,ih]
         rw[AV.shNL,aux,ih]
       have hmap:∀(n:Nat) (xs:List AV) (i j:Nat),((AV.shNL n xs).drop i).take j=AV.shNL n ((xs.drop i).take j):=by
        intro n
        induction n with
        |zero=>intro xs i j;rfl
        |succ n ih=>
         intro xs i j;have aux:∀l:List AV,AV.shL l=l.map AV.sh:=by
          intro l
          induction l with
          |nil=>rfl
          |cons z l ih=>simp[AV.shL,ih]
         rw[AV.shNL,AV.shNL,←ih,aux,aux,List.map_take,List.map_drop]
       simp only[part,Qnc,hlen,QmU,Qnd];rw[QmD (by omega),hmap]
      ·cases hx
   ·cases hx
 |vptr l s g i o=>
  cases hp with
  |vptr hv hg hh=>
   simp only[Xf]at hx;split at hx
   ·rename_i g' sz xs hlk;split at hx
    ·rename_i hgg;split at hx
     ·rename_i e he;obtain⟨e1,e2,e3,e4⟩:=h.mr.vec l s g' sz xs hlk;obtain⟨b,hb,rfl⟩:=hh (by rw[e1];exact hgg);rcases e4 with⟨e4,_⟩|⟨b',e4,hrow⟩
      ·rw[hb]at e4;cases e4
      ·rw[hb]at e4;cases e4;obtain⟨cur,hsoft,hcs,hrep⟩:=hrow.cur;have hlt:=(Qmu.1 he).1;have hsz:=e3.size e (QmJ he);have hsub:((QK xs).drop (i*sz)).take sz=e.cells:=by
        have h1:=ZZ e3.size i;rw[h1];have h2:xs.drop i=e :: xs.drop (i+1):=by
         rw[Qne hlt];congr 1
         exact(Qmu.1 he).2
        rw[h2,XQ,List.take_append,hsz];simp[Qm5 (Qnf hsz)]
       have hre:RepL G e.cells (((cur.toList.take (xs.length*sz)).drop (i*sz)).take sz):=by
        rw[←hsub];exact(hrep.drop _).take _
       rw[e2];refine key b (i*sz+o) _ _ (hre.drop o) (fun j u hu=>?_) ?_
       ·rw[hsoft.cell];rw[Qnb,Qna]at hu;split at hu
        ·rw[Qnb,Qna]at hu;split at hu
         ·rw[Qmr];simpa using hu
         ·cases hu
        ·cases hu
       ·cases k with
        |none=>simpa [part]using hx
        |some k=>
         simp only[part]at hx ⊢;split at hx
         ·rename_i hk;cases hx;simp only[Qnc,Qnd];rw[QmD (by omega)]
         ·cases hx
     ·cases hx
    ·cases hx
   ·cases hx
 |rptr xs=>
  cases hp with
  |rptr hc hf hl hs=>
   exact key _ _ _ xs hc (fun j u hu=>h.mr.stab _ _ _ (hs j u hu)) hx
 |_=>simp[Xf]at hx

end

section
variable {P:Program}{G:Gh}{B N:Nat}{st:St}{a:Act}{w:World}

def BV (v:Option Value)(d n:Nat):Prop:=(v=none∧n=d)∨∃k i,v=some (.int k i)∧0≤i∧n=i.toNat

theorem HG (h:Rel G B N st a w){x:Option Operand}{r:Option RA}(hc:HE x r=true){d n:Nat}(hb:KY st.f d r=some n):BV (x.map a.eval) d n:=by
 cases x with
 |none=>
  cases r with
  |none=>simp only[KY,QmW]at hb;exact .inl ⟨rfl,hb.symm⟩
  |some r=>simp[HE]at hc
 |some x=>
  cases r with
  |none=>simp[HE]at hc
  |some r=>
   have hr:=Qs h (x:=x) (r:=r) hc;simp only[KY]at hb;split at hb
   ·rename_i k i e;split at hb
    ·rename_i h0;cases hb;rw[e]at hr;have hv:a.eval x=.int k i:=by
      revert hr
      generalize a.eval x=v;intro hr;cases hr;rfl
     exact .inr ⟨k,i,by simp[hv],h0,rfl⟩
    ·cases hb
   ·cases hb

theorem ZL {k:IntKind}{i:Int}{y:Nat}(h0:0≤i)(hy:i.toNat≤y)(c:BoundsCode):(Instr.sliceBound (.int k i) y c).run P w=.ok i.toNat w:=by
 simp only[Instr.sliceBound,asIntOf,Sem.run_bind,Sem.run_pure,Result.andThen_ok];rw[QmD (by omega)];rfl

theorem UU (isSlice:Bool)(len cap:Nat){lo hi mx:Option Value}{l h m:Nat}(hl:BV lo 0 l)(hh:BV hi len h)(hm:BV mx cap m)(hs:mx.isSome=true→hi.isSome=true)(h1:l≤h)(h2:h≤m)(h3:m≤cap) :
  (Instr.sliceBounds isSlice len cap lo hi mx).run P w=.ok (l,h,m) w:=by
 rcases hm with⟨rfl,rfl⟩|⟨km,im,rfl,hm0,rfl⟩
 ·rcases hh with⟨rfl,rfl⟩|⟨kh,ih,rfl,hh0,rfl⟩
  ·rcases hl with⟨rfl,rfl⟩|⟨kl,il,rfl,hl0,rfl⟩
   ·rfl
   ·simp only[Instr.sliceBounds,Sem.run_bind,Sem.run_pure,Result.andThen_ok,ZL (P:=P) (w:=w) hl0 h1]
  ·have e:=fun c=>ZL (P:=P) (w:=w) (k:=kh) hh0 h2 c
   rcases hl with⟨rfl,rfl⟩|⟨kl,il,rfl,hl0,rfl⟩
   ·simp only[Instr.sliceBounds,Sem.run_bind,Sem.run_pure,Result.andThen_ok,e]
   ·simp only[Instr.sliceBounds,Sem.run_bind,Sem.run_pure,Result.andThen_ok,e,ZL (P:=P) (w:=w) hl0 h1]
 ·have em:=fun c=>ZL (P:=P) (w:=w) (k:=km) hm0 h3 c
  rcases hh with⟨rfl,rfl⟩|⟨kh,ih,rfl,hh0,rfl⟩
  ·simp at hs
  ·have e:=fun c=>ZL (P:=P) (w:=w) (k:=kh) hh0 h2 c
   rcases hl with⟨rfl,rfl⟩|⟨kl,il,rfl,hl0,rfl⟩
   ·simp only[Instr.sliceBounds,Sem.run_bind,Sem.run_pure,Result.andThen_ok,e,em]
   ·simp only[Instr.sliceBounds,Sem.run_bind,Sem.run_pure,Result.andThen_ok,e,em,ZL (P:=P) (w:=w) hl0 h1]

theorem J4 (l r:List AV):AV.rfL (l++r)=(AV.rfL l&&AV.rfL r):=by
 induction l with
 |nil=>rfl
 |cons x l ih=>simp[AV.rfL,ih,Qng]
theorem Mt (l:List AV):AV.rfL l=l.all AV.rf:=by
 induction l with
 |nil=>rfl
 |cons x l ih=>simp[AV.rfL,ih]
theorem ZX {l r:List AV}(h:AV.rfL r=true)(hs:∀x∈l,x∈r):AV.rfL l=true:=by
 rw[Mt,QmI]at *;exact fun x hx=>h x (hs x hx)
theorem XZ {l r:List AV}(h:r.all AV.leaf=true)(hs:∀x∈l,x∈r):l.all AV.leaf=true:=by
 rw[QmI]at *;exact fun x hx=>h x (hs x hx)
theorem Z7 {l r:List AV}(hs:∀x∈l,x∈r):∀x∈QK l,x∈QK r:=by
 intro x hx;simp only[QK,Qnh]at *;obtain⟨y,hy,hx⟩:=hx;exact⟨y,hs y hy,hx⟩

theorem Rep.sub {l:List AV}{cs:List Value}{A:Option Addr}{sz:Nat}(hc:RepL G (QK l) cs)(hz:∀x∈l,x.cells.length=sz)(hf:AV.rfL (QK l)=true)(hl:(QK l).all AV.leaf=true)
  (hs:∀j u,cs[j]? = some u→∃b o,A=some ⟨b,o,none⟩∧G.stab b (o+j)=some (.cell u)) (i k c:Nat) (hik:i+k≤l.length) (hkc:k≤c) (hm:k≤maxLen) {A':Option Addr} (hA:∀b o,0<k→A=some ⟨b,o,none⟩→A'=some ⟨b,o+i*sz,none⟩) :
  Rep G (.list ((l.drop i).take k)) (.slice A' k c):=by
 have hmem:∀x∈(l.drop i).take k,x∈l:=fun x hx=>Qni (Qnj hx)
 have hz':∀x∈l.drop i,x.cells.length=sz:=fun x hx=>hz x (Qni hx)
 have e:QK ((l.drop i).take k)=((QK l).drop (i*sz)).take (k*sz):=by
  rw[ZZ hz,Jm hz']
 refine .list (cs:=(cs.drop (i*sz)).take (k*sz)) (sz:=sz) ?_ (fun x hx=>hz x (hmem x hx)) (ZX hf (Z7 hmem)) (XZ hl (Z7 hmem)) ?_ (by simp;omega) hkc hm
 ·rw[e];exact hc.takeDrop _ _
 ·intro j u hu;rw[Qna]at hu;split at hu
  ·rename_i hj;rw[Qnb]at hu;obtain⟨b,o,hAA,hst⟩:=hs _ u hu;have hk:0<k:=by
    rcases Qnk k with h0|h0
    ·subst h0;simp at hj
    ·exact h0
   exact⟨b,o+i*sz,hA b o hk hAA,by rw[Qmr];exact hst⟩
  ·cases hu

theorem KA {t:TypeId}(h:Yj P t=true):P.underlying t=some .string:=by
 unfold Yj at h;split at h
 ·assumption
 ·cases h

def E3 (P:Program)(t:TypeId):Option Nat→Prop
 |none=>P.underlying t=some .string
 |some z=>∃e i,P.underlying t=some (.slice e)∧P.info? e=some i∧i.size=z

def MxV (m:Option Value):Option Nat→Prop
 |none=>m=none
 |some k=>m.isSome=true∧BV m 0 k

theorem Nb (h:Rel G B N st a w){x:AV}{n l hh:Nat}{sz mx:Option Nat}(hn:Jc x=some n){y:AV}(hx:XD st.m sz x l hh mx=some y){v:Value}(hv:Rep G x v){t:TypeId}
  (ht:E3 P t sz) {lo hi m:Option Value} (hlo:BV lo 0 l) (hhi:BV hi n hh) (hm:MxV m mx) (hs:m.isSome=true→hi.isSome=true) :
  ∃r,(Instr.sliceAt t v lo hi m).run P w=.ok r w∧Rep G y r:=by
 cases sz with
 |none=>
  simp only[XD]at hx;cases x with
  |str s=>
   simp only at hx;cases mx with
   |some k=>simp at hx
   |none=>
    simp only at hx;have hm':m=none:=hm;subst hm';split at hx
    ·rename_i hh2;cases hx;cases hv;simp only[Jc,QmW]at hn;have hb:=UU (P:=P) (w:=w) false s.length s.length hlo (by rw[hn];exact hhi) (mx:=none) (.inl ⟨rfl,rfl⟩) (fun e=>by cases e) hh2.1 hh2.2 (Qms _);refine⟨.string ⟨⟨(s.drop l).take (hh-l)⟩⟩,?_,.str _⟩;simp only[Instr.sliceAt,Sem.run_bind,run_underlying (show P.underlying t=some .string from ht),Result.andThen_ok,Instr.slice,Qnl,QmO,if_false];have e:(ByteArray.size ⟨⟨s⟩⟩)=s.length:=rfl;rw[e,hb];simp only[Result.andThen_ok,Sem.run_pure,ByteArray.extract_mk]
    ·cases hx
  |_=>simp at hx
 |some z=>
  obtain⟨e,i,hte,hie,hiz⟩:=ht;simp only[XD]at hx
  -- the run at a slice
  have run:∀(A:Option Addr) (k cap m':Nat),v=.slice A k cap→BV hi k hh→BV m cap m'→l≤hh→hh≤m'→m'≤cap→
    (Instr.sliceAt t v lo hi m).run P w=.ok (.slice (if m'=l then A else A.map (·.add (l*i.size))) (hh-l) (m'-l)) w:=by
   intro A k cap m' hvv hhi' hm' h1 h2 h3;subst hvv;have hb:=UU (P:=P) (w:=w) true k cap hlo hhi' hm' hs h1 h2 h3;simp only[Instr.sliceAt,Sem.run_bind,run_underlying hte,Result.andThen_ok,Instr.slice,hb,Xx hie,Sem.run_pure]
  cases x with
  |nils=>
   simp only at hx;split at hx
   ·rename_i hh2;cases hx;cases hv;obtain⟨rfl,rfl,hm0⟩:=hh2;simp only[Jc,QmW]at hn;have hmb:BV m 0 0:=by
     cases mx with
     |none=>exact .inl ⟨hm,rfl⟩
     |some k=>simp at hm0;subst hm0;exact hm.2
    exact⟨.slice none 0 0,run none 0 0 0 rfl (by subst hn;exact hhi) hmb (Qms _) (Qms _) (Qms _),.nils⟩
   ·cases hx
  |list xs=>
   simp only at hx;split at hx
   ·rename_i hh2;cases hx;obtain⟨h1,h2,h3,h4⟩:=hh2;simp only[Jc,QmW]at hn;cases hv with
    |list hc hz hf hl hst hn' hcap hmax=>
     rename_i cs A k cap sz';subst hn';have hmb:∃m',BV m cap m'∧hh≤m'∧m'≤cap:=by
      cases mx with
      |none=>exact⟨cap,.inl ⟨hm,rfl⟩,by simp at h2;omega,Qms _⟩
      |some k=>
       obtain⟨hm1,hm2⟩:=hm;rcases hm2 with⟨e0,_⟩|hm2
       ·rw[e0]at hm1;cases hm1
       ·exact⟨k,.inr hm2,by simpa using h2,by simp at h3;omega⟩
     obtain⟨m',hm',h5,h6⟩:=hmb;refine⟨_,run A xs.length cap m' rfl (by rw[hn];exact hhi) hm' h1 h5 h6,?_⟩;refine Rep.sub hc hz hf hl hst l (hh-l) (m'-l) (by omega) (by omega) (by omega) (fun b o hpos hA=>?_);rw[QmC (by omega),hA];simp only[QmV,XC,QmW,Addr.mk.injEq,and_true,Qnm];rcases Qnk l with h0|h0
     ·subst h0;simp
     ·have hall:=h4.resolve_left (by omega);have hpos':0<xs.length:=by omega
      have e1:=hz (xs[0]'hpos') (Qnn _);have e2:=QmI.1 hall (xs[0]'hpos') (Qnn _);simp only[QmA]at e2;rw[hiz,←e2,e1]
   ·cases hx
  |vec lv s g o k q=>
   simp only at hx;split at hx
   ·rename_i g' z' xs hlk;split at hx
    ·rename_i hh2;cases hx;obtain⟨rfl,rfl,h1,h2,h3⟩:=hh2;simp only[Jc,QmW]at hn;subst hn;obtain⟨e1,e2,e3,e4⟩:=h.mr.vec lv s g z xs hlk;cases hv with
     |vec hone hg hh'=>
      rcases hh' e1.symm with⟨hvm,rfl,rfl,A0,rfl,hA0⟩|⟨b,A,c,hvm,hok,rfl,hkc,hcm,hq,hA⟩
      ·have hl0:l=0∧hh=0:=by
        cases mx with
        |none=>simp at h2;omega
        |some k'=>simp at h2 h3;omega
       obtain⟨rfl,rfl⟩:=hl0;have hmb:BV m 0 0:=by
        cases mx with
        |none=>exact .inl ⟨hm,rfl⟩
        |some k'=>simp at h3;subst h3;exact hm.2
       refine⟨.slice A0 0 0,run A0 0 0 0 rfl hhi hmb (Qms _) (Qms _) (Qms _),.vec rfl (Qnf e1.symm) fun _=>.inl ⟨hvm,rfl,rfl,A0,rfl,hA0⟩⟩
      ·have hmb:∃m',BV m c m'∧hh≤m'∧m'≤c∧(mx=none→m'=c):=by
        cases mx with
        |none=>exact⟨c,.inl ⟨hm,rfl⟩,by simp at h2;omega,Qms _,fun _=>rfl⟩
        |some k'=>
         obtain⟨hm1,hm2⟩:=hm;rcases hm2 with⟨e0,_⟩|hm2
         ·rw[e0]at hm1;cases hm1
         ·exact⟨k',.inr hm2,by simpa using h2,by simp at h3;omega,fun e=>by cases e⟩
       obtain⟨m',hm',h5,h6,h7⟩:=hmb;have hhk:hh≤k:=by
        cases mx with
        |none=>simpa using h2
        |some k'=>simp at h2 h3;omega
       refine⟨_,run (some A) k c m' rfl hhi hm' h1 h5 h6,?_⟩;refine .vec rfl (Qnf e1.symm) fun _=>.inr ⟨b,if m'=l then A else A.add (l*i.size),m'-l,hvm,by omega,by split<;>rfl,by omega,by omega,?_,?_⟩
       ·intro hqq;simp only[Qno]at hqq;have hmn:mx=none:=by cases mx<;>simp at hqq ⊢
        rw[h7 hmn,hq hqq.1];omega
       ·rintro⟨hlt,hqn⟩;by_cases hml:m'=l
        ·rw[QmD hml];have hqf:q=false∧mx=none:=by
          rcases hqn with hqn|hqn
          ·simp only[Qno]at hqn;exact⟨hqn.1,by cases mx<;>simp at hqn ⊢⟩
          ·omega
         have hc':=hq hqf.1;have hm'':=h7 hqf.2;have:l=0:=by omega
         subst this;have hA':=hA ⟨by omega,.inl hqf.1⟩;rw[hA'];simp
        ·rw[QmC hml,hA ⟨by omega,?_⟩,XC,hiz,e2,Qm6];rcases hqn with hqn|hqn
         ·simp only[Qno]at hqn;exact .inl hqn.1
         ·exact .inr (by omega)
    ·cases hx
   ·cases hx
  |_=>simp at hx

end

mutual
theorem E4 {G:Gh}:∀ {x:AV} {v:Value},x.gr=true→Rep G x v→v=x.gv
 |.int k n,_,_,h=>by cases h;rfl
 |.bool b,_,_,h=>by cases h;rfl
 |.str s,_,_,h=>by cases h;rfl
 |.agg l,_,hg,h=>by
   cases h with
   |agg h=>rw[AV.gv,Sa hg h]
 |.fn _ a b,_,hg,h=>by
   have h2:=Qmw.1 hg;cases a with
   |cons _ _=>cases h2.1
   |nil=>
   cases b with
   |cons _ _=>cases h2.2
   |nil=>
   cases h with
   |fn ha hb=>cases ha;cases hb;rfl
theorem Sa {G:Gh}:∀ {l:List AV} {vs:List Value},AV.grL l=true→RepL G l vs→vs=AV.gvL l
 | [],_,_,h=>by cases h;rfl
 |x :: l,_,hg,h=>by
   have h2:=Qmw.1 hg;cases h with
   |cons h t=>rw[AV.gvL,←E4 h2.1 h,←Sa h2.2 t]
end
mutual
theorem HH {G:Gh}:∀ {x:AV},x.gr=true→Rep G x x.gv
 |.int k n,_=>.int k n
 |.bool b,_=>.bool b
 |.str s,_=>.str s
 |.agg _,hg=>.agg (Mu hg)
 |.fn _ a b,hg=>by
   have h2:=Qmw.1 hg;cases a with
   |cons _ _=>cases h2.1
   |nil=>
   cases b with
   |cons _ _=>cases h2.2
   |nil=>exact .fn .nil .nil
theorem Mu {G:Gh}:∀ {l:List AV},AV.grL l=true→RepL G l (AV.gvL l)
 | [],_=>.nil
 |x :: _,hg=>by
   have h2:=Qmw.1 hg;exact .cons (HH h2.1) (Mu h2.2)
end

def YE (k:MK):List MK→List AV→Option (Nat×AV)
 |k' :: ks,v :: vs=>bif k.eq k' then some (0,v)else(YE k ks vs).map fun p=>(p.1+1,p.2)
 |_,_=>none

theorem Nc (k:MK):∀(ks:List MK) (vs:List AV),J3 k ks vs=(YE k ks vs).map (·.2)
 | [],vs=>by cases vs<;>rfl
 |k' :: ks,[]=>rfl
 |k' :: ks,v :: vs=>by
  simp only[J3,YE];cases k.eq k' with
  |true=>rfl
  |false=>
   simp only[cond_false,Nc k ks vs,Option.map_map];rfl

theorem PA (a b:List UInt8):((⟨⟨a⟩⟩:ByteArray)==⟨⟨b⟩⟩)=(a==b):=by
 rw[Qnp,MapKept.bytes_beq]
 constructor
 ·intro h;cases h;simp
 ·intro h;rw[eq_of_beq h]

def kd:Bool→TypeDesc
 |true=>.string
 |false=>.int .i64
theorem Bq {P:Program}{tx:Bool}{t:TypeId}(h:N3 P tx t=true):P.underlying t=some (kd tx):=by
 cases tx with
 |true=>exact KA h
 |false=>
  have h:Yi P t .i64=true:=h;unfold Yi at h;split at h
  ·rename_i k hk;rw[hk,←eq_of_beq h];rfl
  ·cases h
theorem Dr {G:Gh}{t:Bool}{x:AV}{k:MK}{v:Value}(h:KZ t x=some k)(hv:Rep G x v):k.t=t∧v=k.v:=by
 unfold KZ at h;split at h<;>cases h<;>cases hv<;>exact⟨rfl,rfl⟩
theorem Mv {k:MK}{t:Bool}(h:k.t=t):MapKept.IsKey (kd t) k.v:=by
 subst h;cases k<;>simp[MapKept.IsKey,kd,MK.t,MK.v]
theorem LR {k k':MK}{t:Bool}(h:k.t=t)(h':k'.t=t):Instr.sameNow (kd t) k.v k'.v=some (k.eq k'):=by
 subst h;cases k<;>cases k'<;>simp_all[MK.t,MK.v,MK.eq,kd,Instr.sameNow,PA]

theorem MK.eq_of {a b:MK}(h:a.eq b=true):a=b:=by
 cases a<;>cases b<;>simp_all[MK.eq]
theorem UV {k:MK}{t:Bool}(hk:k.t=t):∀(ks:List MK) (vs:List AV) (i n:Nat),keys t ks=true→Instr.findNow (kd t) k.v (ZS ks vs i) n=some ((YE k ks vs).map fun p=>(n+p.1,p.2.gv))
 | [],vs,i,n,_=>by cases vs<;>rfl
 |k' :: ks,[],i,n,_=>rfl
 |k' :: ks,v :: vs,i,n,h=>by
  have h2:(k'.t==t&&keys t ks)=true:=h;rw[QmT,QmA]at h2;simp only[ZS,Instr.findNow,LR hk h2.1,YE];cases k.eq k' with
  |true=>rfl
  |false=>
   simp only[cond_false,UV hk ks vs (i+1) (n+1) h2.2,Option.map_map];congr 2
   funext p;simp only[Function.comp];congr 1
   omega

theorem Hu {P:Program}{w:World}{t kt et:TypeId}{b:Nat}{ks:List MK}{vs:List AV}{k:MK}{z:Value}{tx:Bool}(hkt:k.t=tx)(hks:keys tx ks=true)(ok:Bool)(ht:P.underlying t=some (.map kt et))(hk:P.underlying kt=some (kd tx))
  (hb:w.heap[b]? = some (IT.obj (.mp ks vs) 0)) (hz:(zeroValue et).run P w=.ok z w) :
  (Instr.lookup t (.map (some b)) k.v ok).run P w=.ok (if ok then .tuple #[((J3 k ks vs).map AV.gv).getD z,.bool (J3 k ks vs).isSome]else((J3 k ks vs).map AV.gv).getD z) w:=by
 have hc:∀e,(Instr.checkKey e 10000 kt k.v).run P w=.ok () w:=fun e=>MapKept.run_checkKey (k:=k.v) hk (Mv hkt) e 9999
 have hb:w.heap[b]? = some (.map ⟨ZS ks vs 0⟩ (ZS ks vs 0).length):=hb;have hf:=MapKept.run_findKey (w:=w) hk (UV hkt ks vs 0 0 hks);rw[Nc];cases hm:YE k ks vs with
 |none=>
  rw[hm]at hf;cases ok<;>simp[Instr.lookup,run_underlying ht,MapKept.run_getObj_map hb,hc,hf,hz,Result.andThen]
 |some p=>
  rw[hm]at hf;cases ok<;>simp[Instr.lookup,run_underlying ht,MapKept.run_getObj_map hb,hc,hf,Result.andThen]

theorem D5 (k:MK)(x:AV):∀(ks:List MK) (vs:List AV) (i:Nat),ks.length=vs.length→YE k ks vs=none→
  ZS (Zc k x ks vs).1 (Zc k x ks vs).2 i=ZS ks vs i++[{ key:=k.v,val:=x.gv,born:=i+(ZS ks vs i).length }]
 | [],[],i,_,_=>rfl
 | [],v :: vs,i,h,_=>by cases h
 |k' :: ks,[],i,h,_=>by cases h
 |k' :: ks,v :: vs,i,hl,h=>by
  simp only[YE]at h;simp only[Zc];cases hk:k.eq k' with
  |true=>rw[hk]at h;cases h
  |false=>
   rw[hk]at h;simp only[cond_false,Option.map_eq_none_iff]at h;simp only[cond_false,ZS,D5 k x ks vs (i+1) (by simpa using hl) h,QmR,QmK];congr 4
   omega

theorem D6 (k:MK)(x:AV):∀(ks:List MK) (vs:List AV) (i j:Nat) (v:AV),YE k ks vs=some (j,v)→
  ZS (Zc k x ks vs).1 (Zc k x ks vs).2 i=(ZS ks vs i).modify j (fun e=>{ e with key:=k.v,val:=x.gv })∧(ZS ks vs i)[j]?.map (·.key)=some k.v
 | [],vs,i,j,v,h=>by cases vs<;>cases h
 |k' :: ks,[],i,j,v,h=>by cases h
 |k' :: ks,u :: vs,i,j,v,h=>by
  simp only[YE]at h;simp only[Zc];cases hk:k.eq k' with
  |true=>
   rw[hk]at h;cases h;have e:=MK.eq_of hk;subst e;exact⟨rfl,rfl⟩
  |false=>
   rw[hk]at h;simp only[cond_false,Qmx]at h;obtain⟨p,h,e⟩:=h;cases e;obtain⟨h1,h2⟩:=D6 k x ks vs (i+1) p.1 p.2 h;simp only[cond_false,ZS,h1];exact⟨rfl,by simpa using h2⟩

theorem Ds {P:Program}{w:World}{t kt et:TypeId}{b p:Nat}{ks:List MK}{vs:List AV}{k:MK}{x:AV}{tx:Bool}(hkt:k.t=tx)(hks:keys tx ks=true)(hl:ks.length=vs.length)(ht:P.underlying t=some (.map kt et))(hk:P.underlying kt=some (kd tx))
  (hb:w.heap[b]? = some (IT.obj (.mp ks vs) p)) :
  (Instr.mapUpdate t (.map (some b)) k.v x.gv).run P w=.ok () { w with heap:=w.heap.setIfInBounds b (IT.obj (.mp (Zc k x ks vs).1 (Zc k x ks vs).2) p) }:=by
 have hkey:MapKept.IsKey (kd tx) k.v:=Mv hkt;have hc:∀e,(Instr.checkKey e 10000 kt k.v).run P w=.ok () w:=fun e=>MapKept.run_checkKey (k:=k.v) hk hkey e 9999
 have hb:w.heap[b]? = some (.map ⟨ZS ks vs 0⟩ (ZS ks vs 0).length):=hb;have hf:=MapKept.run_findKey (w:=w) hk (UV hkt ks vs 0 0 hks);cases hm:YE k ks vs with
 |none=>
  rw[hm]at hf;have he:=D5 k x ks vs 0 hl hm;simp only[IT.obj,he];simp[Instr.mapUpdate,run_underlying ht,MapKept.run_getObj_map hb,hc,hf,MapKept.run_setObj_map _ hb,Result.andThen]
 |some q=>
  rw[hm]at hf;obtain⟨he,hj⟩:=D6 k x ks vs 0 q.1 q.2 hm;simp only[IT.obj,he];have hj':∃e,(ZS ks vs 0)[q.1]? = some e∧e.key=k.v:=by
   cases hq:(ZS ks vs 0)[q.1]? with
   |none=>rw[hq]at hj;cases hj
   |some e=>rw[hq]at hj;exact⟨e,rfl,by simpa using hj⟩
  obtain⟨e,hq,hek⟩:=hj';have hq2:(⟨ZS ks vs 0⟩:Array MapEntry)[q.1]? = some e:=by simpa using hq
  simp[Instr.mapUpdate,run_underlying ht,MapKept.run_getObj_map hb,hc,hf,hq,hek,MapKept.run_keyThatStays hkey,MapKept.run_setObj_map _ hb,Result.andThen]

section
variable {P:Program}{G:Gh}{B N:Nat}{st:St}{a:Act}{w:World}

theorem K3 (h:Rel G B N st a w){x:AV}{l:List AV}(hx:QY st.m x=some l){v:Value}(hv:Rep G x v) :
  ∃A c,v=.slice A l.length c∧∃sz cs,RepL G (QK l) cs∧Elems sz l∧∀j u,cs[j]? = some u→∃b o,A=some ⟨b,o,none⟩∧w.cell? ⟨b,o+j,none⟩=some u:=by
 cases x with
 |nils=>
  simp only[QY,QmW]at hx;subst hx;cases hv;exact⟨none,0,rfl,0,[],.nil,⟨by simp,rfl,rfl⟩,by simp⟩
 |list l'=>
  simp only[QY,QmW]at hx;subst hx;cases hv with
  |list hc hz hf hl hs hn hcap hm=>
   subst hn;exact⟨_,_,rfl,_,_,hc,⟨hz,hf,hl⟩,fun j u hu=>by
    obtain⟨b,o,e,hst⟩:=hs j u hu;exact⟨b,o,e,h.mr.stab _ _ _ hst⟩⟩
 |vec lv s g o k q=>
  simp only[QY]at hx;split at hx
  ·rename_i g' z xs hlk;split at hx
   ·rename_i hh;cases hx;obtain⟨e1,e2,e3,e4⟩:=h.mr.vec lv s g' z xs hlk;have hlen:((xs.drop o).take k).length=k:=by simp;omega
    rw[hlen];have hmem:∀x∈(xs.drop o).take k,x∈xs:=fun x hx=>Qni (Qnj hx)
    have hel:Elems z ((xs.drop o).take k):=⟨fun x hx=>e3.size x (hmem x hx),ZX e3.rf (Z7 hmem),XZ e3.leaf (Z7 hmem)⟩;cases hv with
    |vec hone hg hh'=>
     rcases hh' (by rw[e1];exact hh.1)with⟨hvm,rfl,rfl,A0,rfl,hA0⟩|⟨b,A,c,hvm,hok,rfl,hkc,hcm,hq,hA⟩
     ·exact⟨A0,0,rfl,z,[],by simp;exact .nil,hel,by simp⟩
     ·rcases e4 with⟨e,_⟩|⟨b',e,hrow⟩
      ·rw[hvm]at e;cases e
      ·rw[hvm]at e;cases e;obtain⟨cur,hsoft,hcs,hrep⟩:=hrow.cur;have hr:=hrep.takeDrop (o*z) (k*z);rw[ZZ e3.size,Jm (fun x hx=>e3.size x (Qni hx))]at hr;refine⟨some A,c,rfl,z,_,hr,hel,fun j u hu=>?_⟩;rw[Qna]at hu;split at hu
       ·rename_i hj;rw[Qnb,Qna]at hu;split at hu
        ·have hk:0<k:=by
          rcases Qnk k with h0|h0
          ·subst h0;simp at hj
          ·exact h0
         have hA':=hA ⟨by have:=hrow.le;omega,.inr hk⟩;rw[e2]at hA';refine⟨b,o*z,by rw[hA'],?_⟩;rw[hsoft.cell]
         simpa using hu
        ·cases hu
       ·cases hu
   ·cases hx
  ·cases hx
 |_=>simp[QY]at hx

theorem D7:∀ {l:List AV} {s:List UInt8} {vs:List Value},bytesOf l=some s→RepL G l vs→∃ns:List Int,vs=ns.map (Value.int .u8)∧s=ns.map fun n=>UInt8.ofNat n.toNat
 | [],s,vs,hb,hr=>by
   cases hb;cases hr;exact⟨[],rfl,rfl⟩
 |x :: l,s,vs,hb,hr=>by
   unfold bytesOf at hb;split at hb
   ·rename_i h;cases h
   ·rename_i n l' h;cases h;simp only[Qmx]at hb;obtain⟨s',hb,rfl⟩:=hb;cases hr with
    |cons h t=>
     obtain⟨ns,rfl,rfl⟩:=D7 hb t;cases h;exact⟨n :: ns,rfl,rfl⟩
   ·cases hb

theorem N8 {l:List AV}{s:List UInt8}(h:bytesOf l=some s):QK l=l:=by
 induction l generalizing s with
 |nil=>rfl
 |cons x l ih=>
  unfold bytesOf at h;split at h
  ·rename_i e;cases e
  ·rename_i n l' e;cases e;simp only[Qmx]at h;obtain⟨s',h,rfl⟩:=h;rw[XQ,ih h];rfl
  ·cases h

theorem QbS (h:Rel G B N st a w){x:AV}{l:List AV}(hx:QY st.m x=some l){s:List UInt8}(hs:bytesOf l=some s){v:Value}(hv:Rep G x v):(Conv.bytesToString v).run P w=.ok (.string ⟨⟨s⟩⟩) w:=by
 obtain⟨A,c,rfl,sz,cs,hr,hel,hcell⟩:=K3 h hx hv;rw[N8 hs]at hr;obtain⟨ns,rfl,rfl⟩:=D7 hs hr;have hlen:=hr.length;simp only[Qnq]at hlen;cases ns with
 |nil=>
  simp only[Qnr]at hlen;rw[←hlen];cases A<;>rfl
 |cons n ns=>
  obtain⟨b,o,rfl,_⟩:=hcell 0 _ rfl;have hl:=run_loadCells_list (P:=P) w ⟨b,o,none⟩ ((n :: ns).map (Value.int .u8)) (fun j u hu=>by
   obtain⟨b',o',e,hc⟩:=hcell j u hu;cases e;rw[XC];exact hc)
  simp only[Qnq]at hl;rw[←hlen,run_bytesToString w _ _ c (n :: ns) hl];congr 2
  have aux:∀(l:List Int) (r:List UInt8),l.foldl (fun r n=>r.push (UInt8.ofNat n.toNat)) (⟨⟨r⟩⟩:ByteArray)=⟨⟨r++l.map fun n=>UInt8.ofNat n.toNat⟩⟩:=by
   intro l
   induction l with
   |nil=>intro r;simp
   |cons k l ih=>
    intro r;have e:(⟨⟨r⟩⟩:ByteArray).push (UInt8.ofNat k.toNat)=⟨⟨r++[UInt8.ofNat k.toNat]⟩⟩:=by
     simp[ByteArray.push]
    rw[List.foldl_cons,e,ih];simp
  exact aux (n :: ns) []

def QbT (P:Program)(t:TypeId)(sz:Nat):Option Nat→Prop
 |none=>∃e j,P.underlying t=some (.slice e)∧P.info? e=some j∧j.size=sz
 |some n=>∃e j,P.underlying t=some (.array n e)∧P.info? e=some j∧j.size=sz

theorem Sb (h:Rel G B N st a w){sz:Nat}(hsz0:sz≠0){len:Option Nat}{x:AV}{i:Int}{y:AV}(hx:Qf st.m sz len x i=some y){v:Value}(hv:Rep G x v){t:TypeId}{k:IntKind}
  (ht:QbT P t sz len) :
  ∃r,(Instr.indexAt t v (.int k i)).run P w=.ok r w∧Rep G y r:=by
 unfold Qf at hx;split at hx
 case isFalse=>cases hx
 rename_i h0;cases len with
 |none=>
  obtain⟨ety,j,hu,hi,hj⟩:=ht;have runS:∀(b o n c:Nat),v=.slice (some ⟨b,o,none⟩) n c→i.toNat<n→(Instr.indexAt t v (.int k i)).run P w=.ok (.pointer (some ⟨b,o+i.toNat*sz,none⟩)) w:=by
   intro b o n c hv' hlt;subst hv';simp only[Instr.indexAt,asIntOf,Sem.run_bind,Sem.run_pure,Result.andThen_ok,run_underlying hu];rw[QmD (by omega)];simp only[Sem.run_bind,Xx hi,Result.andThen_ok,XC,Sem.run_pure,hj]
  simp only at hx;cases x with
  |list l=>
   simp only at hx;split at hx
   ·rename_i e he;split at hx
    ·rename_i hsz;cases hx;cases hv with
     |list hc hz hf hl hst hn hcap hmax=>
      rename_i cs A n cap sz';have hlt:=(Qmu.1 he).1;have hmem:=QmJ he;have hsz':=hz e hmem;have hesz:sz'=sz:=by rw[←hsz',hsz]
      subst hesz;have hsub:((QK l).drop (i.toNat*sz')).take sz'=e.cells:=by
       have h1:=ZZ hz i.toNat;rw[h1];have h2:l.drop i.toNat=e :: l.drop (i.toNat+1):=by
        rw[Qne hlt];congr 1
        exact(Qmu.1 he).2
       rw[h2,XQ,List.take_append,hsz'];simp[Qm5 (Qnf hsz')]
      have hrc:RepL G e.cells ((cs.drop (i.toNat*sz')).take sz'):=by
       rw[←hsub];exact hc.takeDrop _ _
      have hmf:∀x∈e.cells,x∈QK l:=fun x hx=>Qnh.2 ⟨e,hmem,hx⟩
      have hcl:0<((cs.drop (i.toNat*sz')).take sz').length:=by rw[hrc.length,hsz];omega
      obtain⟨u0,hu0⟩:∃u,(cs.drop (i.toNat*sz'))[0]? = some u:=by
       rw[Qns]at hcl;exact⟨_,Qmv (by omega)⟩
      rw[Qnb]at hu0;obtain⟨b,o,hA,_⟩:=hst _ u0 hu0;refine⟨_,runS b o n cap (by rw[hA]) (by omega),?_⟩;refine .rptr hrc (ZX hf hmf) (XZ hl hmf) (fun q u hq=>?_);rw[Qna]at hq;split at hq
      ·rw[Qnb]at hq;obtain⟨b',o',hA',hst'⟩:=hst _ u hq;rw[hA]at hA';cases hA';rw[Qmr];exact hst'
      ·cases hq
    ·cases hx
   ·cases hx
  |vec lv s g o n q=>
   simp only at hx;split at hx
   ·rename_i g' z xs hlk;split at hx
    ·rename_i hh;obtain⟨rfl,rfl,hlt⟩:=hh;cases hx;obtain⟨e1,e2,e3,e4⟩:=h.mr.vec lv s g sz xs hlk;cases hv with
     |vec hone hg hh'=>
      rcases hh' e1.symm with⟨hvm,rfl,rfl,A0,rfl,hA0⟩|⟨b,A,c,hvm,hok,rfl,hkc,hcm,hq,hA⟩
      ·omega
      ·have hovc:o<G.vc lv s:=Nat.lt_of_lt_of_le (Nat.lt_of_le_of_lt (Nat.le_add_right o i.toNat) (Nat.add_lt_add_left hlt o)) hok;have hA':=hA ⟨.inl hovc,.inr (Nat.lt_of_le_of_lt (QmE _) hlt)⟩;rw[e2]at hA';refine⟨_,runS b (o*sz) n c (by rw[hA']) hlt,.vptr rfl (Qnf e1.symm) fun _=>⟨b,hvm,?_⟩⟩;rw[e2,Qm2,Qm6]
    ·cases hx
   ·cases hx
  |_=>simp at hx
 |some n=>
  obtain⟨ety,j,hu,hi,hj⟩:=ht;have runA:∀(b o:Nat),v=.pointer (some ⟨b,o,none⟩)→i.toNat<n→(Instr.indexAt t v (.int k i)).run P w=.ok (.pointer (some ⟨b,o+i.toNat*sz,none⟩)) w:=by
   intro b o hv' hlt;subst hv';simp only[Instr.indexAt,asIntOf,Sem.run_bind,Sem.run_pure,Result.andThen_ok,run_underlying hu,Instr.sureAddr];rw[QmD (by omega)];simp only[Sem.run_bind,Xx hi,Result.andThen_ok,XC,Sem.run_pure,hj]
  simp only at hx;cases x with
  |ptr lv s o=>
   simp only at hx;split at hx
   ·rename_i hlt;cases hx;cases hv with
    |ptr hb=>exact⟨_,runA _ o rfl hlt,.ptr hb⟩
   ·cases hx
  |rptr xs=>
   simp only at hx;split at hx
   ·rename_i hlt;cases hx;cases hv with
    |rptr hc hf hl hs=>
     exact⟨_,runA _ _ rfl hlt,.rptr (hc.drop _) (ZX hf fun x hx=>Qni hx) (XZ hl fun x hx=>Qni hx) (fun q u hq=>by
      rw[Qnb]at hq;rw[Qmr];exact hs _ u hq)⟩
   ·cases hx
  |_=>simp at hx

theorem N9 (h:Rel G B N st a w){l s g:Nat}(hg:W9 st.m l s=some g):g=G.vg l s:=by
 unfold W9 at hg;split at hg
 ·rename_i g' z xs hlk;cases hg;exact(h.mr.vec l s g z xs hlk).1.symm
 ·cases hg

theorem D8 (h:Rel G B N st a w){x:AV}{ks:List MK}{vs:List AV}(hx:WX st.m x=some (ks,vs)){v:Value}(hv:Rep G x v):∃b,v=.map (some b)∧w.heap[b]? = some (IT.obj (.mp ks vs) 0):=by
 cases x with
 |mp ks' vs'=>
  cases hx;cases hv with
  |mp hb=>exact⟨_,rfl,h.mr.stab _ _ _ hb⟩
 |mptr l s=>
  simp only[WX]at hx;split at hx
  ·rename_i hl;cases hx;cases hv with
   |mptr hb=>
    obtain⟨b',e',hh⟩:=h.mr.iter l s _ _ hl;rw[hb]at e';cases e';exact⟨_,rfl,hh⟩
  ·cases hx
 |_=>cases hx

theorem G5 {t:TypeId}(h:YC P t=true):∃d,P.underlying t=some d∧∀m,d≠.interface m:=by
 cases hu:P.underlying t with
 |none=>simp[YC,hu]at h
 |some d=>
  refine⟨d,rfl,fun m e=>?_⟩;subst e;simp[YC,hu]at h

theorem QbU (h:Rel G B N st a w){vo:VO}{x:AV}(hx:Qx st.f st.m vo=some x){o:Oper}(hc:XV P o.op vo=true):∃v,(execOp a.eval o).run P w=.ok (.value v) w∧Rep G x v:=by
 obtain⟨dst,op,ty,pos,after,guard⟩:=o;simp only at hc;cases vo with
 |mov r=>
  simp only[Qx,QmW]at hx;subst hx;cases op<;>simp only[XV,QmO]at hc<;>exact⟨_,rfl,Qs h hc⟩
 |pick c p q=>
  cases op<;>simp only[XV,QmO,QmT]at hc;rename_i oc op' oq;obtain⟨⟨h1,h2⟩,h3⟩:=hc;have r1:=Qs h h1;simp only[Qx]at hx;split at hx
  ·rename_i b e;cases hx;rw[e]at r1;have hv:a.eval oc=.bool b:=by
    revert r1
    generalize a.eval oc=v;intro r1;cases r1;rfl
   refine⟨if b then a.eval op' else a.eval oq,by simp[execOp,hv,asBool],?_⟩;cases b
   ·exact Qs h h3
   ·exact Qs h h2
  ·cases hx
 |build z ps=>
  cases op<;>simp only[XV,QmO]at hc;rename_i t Ql;split at hc
  ·rename_i fs i hu hi;split at hc
   ·rename_i zv pl hz hpl;simp only[QmT]at hc;simp only[Qx,Qmx]at hx;obtain⟨y,hy,rfl⟩:=hx;obtain⟨cs,h1,h2⟩:=Ms h hc.2 (isCL_ok hc.1) hy;refine⟨.agg cs,?_,.agg h2⟩;have hpl':(fs.mapM fun f=>(do pure (f.offset,←sizeOf f.type):Sem (Nat×Nat))).run P w=.ok pl.toArray w:=by
     unfold N4 at hpl;rw[Array.mapM_eq_mapM_toList];simp only[Sem.run_map];have aux:∀(l:List Field) (pl:List (Nat×Nat)),(l.mapM fun fl=>(P.info? fl.type).map fun i=>(fl.offset,i.size))=some pl→
       (l.mapM fun f=>(do pure (f.offset,←sizeOf f.type):Sem (Nat×Nat))).run P w=.ok pl w:=by
      intro l
      induction l with
      |nil=>intro pl e;simp at e;subst e;rfl
      |cons f l ih=>
       intro pl e;simp only[List.mapM_cons,Option.bind_eq_bind,Option.bind_eq_some_iff,Qmx,Option.pure_def,QmW]at e;obtain⟨p,⟨i,hi,rfl⟩,pl',e,rfl⟩:=e;simp only[List.mapM_cons,Sem.run_bind,Xx hi,Result.andThen_ok,Sem.run_pure,ih pl' e]
     rw[aux _ pl hpl];rfl
    simp only[execOp,Instr.build,zeroValue,typeInfo,Sem.run_bind,run_program,Result.andThen_ok,hi,Sem.run_pure,hz,run_underlying hu,hpl'];have e:(fun(x:Nat)=>(pl.toArray)[x]?)=(fun(x:Nat)=>pl[x]?):=by funext x;simp
    have e2:(Ql.map fun(x:Nat×Operand)=>(x.1,a.eval x.2)).toList=Ql.toList.map fun x=>(x.1,a.eval x.2):=by simp
    rw[e,e2,h1];rfl
   ·cases hc
  ·rename_i k e i hu hi;split at hc
   ·rename_i zv ie hz hie;simp only[QmT]at hc;simp only[Qx,Qmx]at hx;obtain⟨y,hy,rfl⟩:=hx;obtain⟨cs,h1,h2⟩:=N7 h hc.2 (isCL_ok hc.1) hy;refine⟨.agg cs,?_,.agg h2⟩;simp only[execOp,Instr.build,zeroValue,typeInfo,Sem.run_bind,run_program,Result.andThen_ok,hi,Sem.run_pure,hz,run_underlying hu,Xx hie];have e2:(Ql.map fun(x:Nat×Operand)=>(x.1,a.eval x.2)).toList=Ql.toList.map fun x=>(x.1,a.eval x.2):=by simp
    rw[e2,h1];rfl
   ·cases hc
  ·cases hc
 |load k r=>
  cases op<;>simp only[XV,QmO,QmT,QmA]at hc;rename_i t y;obtain⟨v,h1,h2⟩:=YD (P:=P) h hx (Qs h hc.2) hc.1;exact⟨v,by simp[execOp,h1],h2⟩
 |loado k r=>
  have hx':Xf st.m k (r.ev st.f)=some x:=by
   simp only[Qx]at hx;split at hx
   ·rename_i e;rw[e];exact hx
   ·cases hx
  cases op<;>simp only[XV,QmO,QmT,QmA]at hc;rename_i t y;obtain⟨v,h1,h2⟩:=YD (P:=P) h hx' (Qs h hc.2) hc.1;exact⟨v,by simp[execOp,h1],h2⟩
 |loadv l s k r=>
  have hx':Xf st.m k (r.ev st.f)=some x:=by
   simp only[Qx]at hx;split at hx
   ·rename_i e;split at hx
    ·rw[e];exact hx
    ·cases hx
   ·cases hx
  cases op<;>simp only[XV,QmO,QmT,QmA]at hc;rename_i t y;obtain⟨v,h1,h2⟩:=YD (P:=P) h hx' (Qs h hc.2) hc.1;exact⟨v,by simp[execOp,h1],h2⟩
 |loadr k r=>
  have hx':Xf st.m k (r.ev st.f)=some x:=by
   simp only[Qx]at hx;split at hx
   ·rename_i e;rw[e];exact hx
   ·rename_i e;rw[e];exact hx
   ·cases hx
  cases op<;>simp only[XV,QmO,QmT,QmA]at hc;rename_i t y;obtain⟨v,h1,h2⟩:=YD (P:=P) h hx' (Qs h hc.2) hc.1;exact⟨v,by simp[execOp,h1],h2⟩
 |nilck r=>
  cases op<;>simp only[XV,QmO]at hc;rename_i y;have r1:=Qs h hc;simp only[Qx]at hx;split at hx
  ·rename_i e;cases hx;rw[e]at r1;simp only[execOp];generalize a.eval y=v at r1 ⊢;cases r1 with
   |ptr hb=>exact⟨_,rfl,.ptr hb⟩
  ·rename_i e;split at hx
   ·rename_i hg;cases hx;rw[e]at r1;simp only[execOp];generalize a.eval y=v at r1 ⊢;cases r1 with
    |vptr h1 h2 h3=>
     obtain⟨b,hb,rfl⟩:=h3 (N9 h hg);exact⟨_,rfl,.vptr h1 h2 fun _=>⟨b,hb,rfl⟩⟩
   ·cases hx
  ·rename_i e;cases hx;rw[e]at r1;simp only[execOp];generalize a.eval y=v at r1 ⊢;cases r1 with
   |rptr h1 h2 h3 h4=>exact⟨_,rfl,.rptr h1 h2 h3 h4⟩
  ·rename_i e;cases hx;rw[e]at r1;simp only[execOp];generalize a.eval y=v at r1 ⊢;cases r1 with
   |fn h1 h2=>exact⟨_,rfl,.fn h1 h2⟩
  ·cases hx
 |bin ty o r s=>
  cases op<;>simp only[XV,QmO,QmT,QmA]at hc;rename_i o' t y z yt;obtain⟨⟨⟨rfl,h1⟩,h2⟩,h3⟩:=hc;obtain⟨v,h4,h5⟩:=LO (P:=P) (w:=w) hx (Qs h h2) (Qs h h3) h1 y z;exact⟨v,by simp only[execOp,Sem.run_bind]at h4 ⊢;rw[h4];rfl,h5⟩
 |eqs neg ks r s=>
  cases op<;>simp only[XV,QmO,QmT,QmA,Qnt]at hc;rename_i o' t y z yt;obtain⟨⟨⟨⟨⟨ho,h1⟩,hst⟩,hge⟩,h2⟩,h3⟩:=hc;simp only[Qx]at hx;split at hx
  ·rename_i l1 l2 e1 e2;split at hx
   ·rename_i b hb;cases hx;have r1:=Qs h h2;have r2:=Qs h h3;rw[e1]at r1;rw[e2]at r2;simp only[execOp];generalize a.eval y=v at r1 ⊢;generalize a.eval z=u at r2 ⊢;cases r1 with
    |agg r1=>
     cases r2 with
     |agg r2=>
      rename_i vs us;split at h1
      ·rename_i fs hu;have hf:P.fieldsOf t=fs:=by simp[Program.fieldsOf,hu]
       have heq:=run_equalIn_struct (P:=P) w 9999 t ⟨vs⟩ ⟨us⟩ (by rw[hf];exact hu) hst;rw[hf,G4 (P:=P) (w:=w) 9998 ⟨vs⟩ ⟨us⟩ fs.toList ks 0 l1 l2 b h1 (by simpa using r1) (by simpa using r2) hb]at heq;simp only[Sem.run_bind,run_eqGuard_agg w o' t y z ⟨vs⟩ ⟨us⟩ hge,Result.andThen_ok];cases neg with
       |false=>
        simp only[QmO,if_false]at ho;subst ho;exact⟨_,by rw[run_eql_struct,heq];rfl,.bool _⟩
       |true=>
        simp only[if_true]at ho;subst ho;exact⟨_,by rw[run_neq_struct,heq];rfl,.bool _⟩
      ·cases h1
   ·cases hx
  ·cases hx
 |un o r=>
  cases op<;>simp only[XV,QmO,QmT,QmA]at hc;obtain⟨rfl,h1⟩:=hc;obtain⟨v,h4,h5⟩:=QbR (P:=P) (w:=w) hx (Qs h h1);exact⟨v,by simp[execOp,h4],h5⟩
 |cvi k r=>
  cases op<;>simp only[XV,QmO,QmT]at hc;rename_i src dst' y;obtain⟨⟨h1,h2⟩,h3⟩:=hc;have r1:=Qs h h3;simp only[Qx]at hx;split at hx
  ·rename_i k' n e;cases hx;rw[e]at r1;have hd:P.underlying dst'=some (.int k):=by
    unfold Yi at h1;split at h1
    ·rename_i k'' hk;simp only[QmA]at h1;subst h1;exact hk
    ·cases h1
   obtain⟨ds,hs⟩:=QmX.1 h2;simp only[execOp];generalize a.eval y=v at r1 ⊢;cases r1;refine⟨.int k (k.wrap n),?_,.int _ _⟩;simp only[convert,Sem.run_bind,run_underlying hs,run_underlying hd,Result.andThen_ok,Conv.intToInt];rfl
  ·cases hx
 |b2s r=>
  cases op<;>simp only[XV,QmO,QmT]at hc;rename_i src dst' y;obtain⟨⟨h1,h2⟩,h3⟩:=hc;have r1:=Qs h h3;simp only[Qx]at hx;split at hx
  ·rename_i l e;simp only[Qmx]at hx;obtain⟨s,hs,rfl⟩:=hx;split at h2
   ·rename_i e' hsrc;simp only[QmT]at h2;have he:P.underlying e'=some (.int .u8):=by
     have:=h2.1;unfold Yi at this;split at this
     ·rename_i k'' hk;simp only[QmA]at this;subst this;exact hk
     ·cases this
    obtain⟨A,c,hv,_⟩:=K3 h e r1;have hrun:=QbS (P:=P) h e hs r1;simp only[execOp];rw[hv]at hrun ⊢;refine⟨.string ⟨⟨s⟩⟩,?_,.str _⟩;simp only[Sem.run_bind,run_convert_bytes_string w src dst' e' A _ c hsrc he (KA h1),hrun];rfl
   ·cases h2
  ·cases hx
 |slcl r hi mx=>
  cases op<;>simp only[XV,QmO]at hc;rename_i t x olo ohi omx;cases olo with
  |some _=>simp at hc
  |none=>
  cases ohi with
  |none=>simp at hc
  |some y=>
  cases omx with
  |none=>simp at hc
  |some z=>
  simp only[QmT]at hc;obtain⟨⟨⟨hty,hcx⟩,hcy⟩,hcz⟩:=hc;have rx:=Qs h hcx;have ry:=Qs h hcy;have rz:=Qs h hcz;simp only[Qx]at hx;split at hx
  ·rename_i l hl;split at hx
   ·rename_i ka a hy;split at hx
    ·rename_i kb b hz;split at hx
     ·rename_i hab;cases hx;obtain⟨rfl,rfl⟩:=hab;rw[hl]at rx;rw[hy]at ry;rw[hz]at rz;cases hu:P.underlying t with
      |none=>simp[hu]at hty
      |some dd=>
       cases dd with
       |slice e=>
        simp only[hu,QmX]at hty;obtain⟨i,hi⟩:=hty;have ey:a.eval y=.int ka (l.length:Int):=by
         revert ry;generalize a.eval y=u;intro ry;cases ry;rfl
        have ez:a.eval z=.int kb (l.length:Int):=by
         revert rz;generalize a.eval z=u;intro rz;cases rz;rfl
        revert rx
        generalize hxv:a.eval x=v;intro rx;cases rx with
        |list hc hzz hf hlf hst hn' hcap hmax=>
         rename_i cs A n cap sz';subst hn';have hb:=UU (P:=P) (w:=w) true l.length cap (lo:=none) (hi:=some (.int ka (l.length:Int))) (mx:=some (.int kb (l.length:Int))) (l:=0) (h:=l.length) (m:=l.length) (.inl ⟨rfl,rfl⟩) (.inr ⟨ka,_,rfl,by omega,by simp⟩) (.inr ⟨kb,_,rfl,by omega,by simp⟩) (fun _=>rfl) (QmE _) (Qms _) hcap;refine⟨.slice (if l.length=0 then A else A.map (·.add (0*i.size))) l.length l.length,?_,Rep.tolcap ?_⟩
         ·simp only[execOp,hxv,Sem.run_bind,Option.map_none,QmV,ey,ez,Instr.sliceAt,run_underlying hu,Result.andThen_ok,Instr.slice,hb,Xx hi,Sem.run_pure,Qnu]
          try rfl
         ·have:=Rep.sub hc hzz hf hlf hst 0 l.length l.length (by omega) (Qms _) hmax (A':=if l.length=0 then A else A.map (·.add (0*i.size))) (fun b o hpos hA=>by
           rw[QmC (by omega),hA];simp only[QmV,XC,Nat.zero_mul])
          simpa using this
       |_=>simp[hu]at hty
     ·cases hx
    ·cases hx
   ·cases hx
  ·cases hx
 |slc sz r lo hi mx=>
  cases op<;>simp only[XV,QmO,QmT,Qmy]at hc;rename_i t y ol oh om;obtain⟨⟨⟨⟨⟨h1,h2⟩,h3⟩,h4⟩,h5⟩,h6⟩:=hc;have r1:=Qs h h2;have ht:E3 P t sz:=by
   cases sz with
   |none=>exact KA h1
   |some z=>
    simp only at h1;split at h1
    ·rename_i e hu;simp only[Qnv]at h1;obtain⟨i,hi,hz⟩:=h1;exact⟨e,i,hu,hi,by simpa using hz⟩
    ·cases h1
  simp only[Qx]at hx;split at hx
  ·rename_i n b1 e1 e2;split at hx
   ·rename_i b2 e3;cases mx with
    |none=>
     simp only at hx;have hom:om=none:=by cases om<;>simp[HE]at h5 ⊢
     subst hom;obtain⟨v,h7,h8⟩:=Nb (P:=P) h e1 hx r1 ht (HG h h3 e2) (HG h h4 e3) (m:=none) (show MxV none none from rfl) (fun e=>by cases e);exact⟨v,by simp only[execOp,Sem.run_bind,Option.map_none,h7];rfl,h8⟩
    |some rm=>
     simp only at hx;split at hx
     ·rename_i c hcc;have hsm:om.isSome=true:=by cases om<;>simp[HE]at h5 ⊢
      obtain⟨v,h7,h8⟩:=Nb (P:=P) h e1 hx r1 ht (HG h h3 e2) (HG h h4 e3) (m:=om.map a.eval) ⟨by simpa using hsm,HG h h5 hcc⟩ (fun _=>by
       rcases h6 with h6|h6
       ·cases om<;>simp at h6 hsm
       ·simpa using h6)
      exact⟨v,by simp only[execOp,Sem.run_bind,h7];rfl,h8⟩
     ·cases hx
   ·cases hx
  ·cases hx
 |mget tx ok z r i=>
  cases op<;>simp only[XV,QmO,QmT,QmA]at hc;rename_i t y yi ok';obtain⟨⟨⟨h1,rfl⟩,h2⟩,h3⟩:=hc;have r1:=Qs h h2;have r2:=Qs h h3;split at h1
  case h_2=>cases h1
  rename_i kt et hu;simp only[QmT]at h1;obtain⟨hks,h1⟩:=h1;split at h1
  case h_2=>cases h1
  rename_i inf hi;split at h1
  case h_2=>cases h1
  rename_i zv hzv;simp only[Qx]at hx;split at hx
  case h_2=>cases hx
  rename_i ks vs he;split at hx
  case h_2=>cases hx
  rename_i k hkk;obtain⟨hkt,ey⟩:=Dr hkk r2;cases hkk2:keys tx ks with
  |false=>rw[hkk2]at hx;cases hx
  |true=>
  rw[hkk2,cond_true]at hx;obtain⟨b,eb,hb⟩:=D8 h he r1;have hz:(zeroValue et).run P w=.ok zv w:=by simp only[zeroValue,typeInfo,Sem.run_bind,run_program,Result.andThen_ok,hi,hzv,Sem.run_pure]
  have hrun:=Hu (k:=k) hkt hkk2 ok hu (Bq hks) hb hz;refine⟨_,by simp only[execOp,Sem.run_bind,eb,ey,hrun,Result.andThen_ok];rfl,?_⟩;cases hm:J3 k ks vs with
  |none=>
   rw[hm]at hx;cases hx;cases ok
   ·exact isC_ok h1
   ·exact .tup (.cons (isC_ok h1) (.cons (.bool _) .nil))
  |some v=>
   rw[hm]at hx;simp only at hx;cases hg:v.gr with
   |false=>rw[hg]at hx;cases hx
   |true=>
    rw[hg]at hx;cases hx;cases ok
    ·exact HH hg
    ·exact .tup (.cons (HH hg) (.cons (.bool _) .nil))
 |mgetp tx ok z r i=>
  cases op<;>simp only[XV,QmO,QmT,QmA]at hc;rename_i t y yi ok';obtain⟨⟨⟨h1,rfl⟩,h2⟩,h3⟩:=hc;have r1:=Qs h h2;have r2:=Qs h h3;split at h1
  case h_2=>cases h1
  rename_i kt et hu;simp only[QmT]at h1;obtain⟨hks,h1⟩:=h1;split at h1
  case h_2=>cases h1
  rename_i inf hi;split at h1
  case h_2=>cases h1
  rename_i zv hzv;simp only[Qx]at hx;split at hx
  case h_2=>cases hx
  rename_i ks vs he;rw[he]at r1;split at hx
  case h_2=>cases hx
  rename_i k hkk;obtain⟨hkt,ey⟩:=Dr hkk r2;cases hkk2:keys tx ks with
  |false=>rw[hkk2]at hx;cases hx
  |true=>
  rw[hkk2,cond_true]at hx;obtain⟨b,eb,hb⟩:=D8 (x:=.mp ks vs) h rfl r1;have hz:(zeroValue et).run P w=.ok zv w:=by simp only[zeroValue,typeInfo,Sem.run_bind,run_program,Result.andThen_ok,hi,hzv,Sem.run_pure]
  have hrun:=Hu (k:=k) hkt hkk2 ok hu (Bq hks) hb hz;refine⟨_,by simp only[execOp,Sem.run_bind,eb,ey,hrun,Result.andThen_ok];rfl,?_⟩;cases hm:J3 k ks vs with
  |none=>
   rw[hm]at hx;cases hx;cases ok
   ·exact isC_ok h1
   ·exact .tup (.cons (isC_ok h1) (.cons (.bool _) .nil))
  |some v=>
   rw[hm]at hx;simp only at hx;cases hg:v.gr with
   |false=>rw[hg]at hx;cases hx
   |true=>
    rw[hg]at hx;cases hx;cases ok
    ·exact HH hg
    ·exact .tup (.cons (HH hg) (.cons (.bool _) .nil))
 |mki t r=>
  cases op<;>simp only[XV,QmO,QmT,QmA]at hc;rename_i t' y;obtain⟨⟨rfl,h1⟩,h2⟩:=hc;have r1:=Qs h h2;simp only[Qx,QmW]at hx;subst hx;refine⟨.iface t (a.eval y),?_,.iface r1⟩;obtain⟨d,hu,hd⟩:=G5 h1;simp only[execOp,Sem.run_bind,Instr.makeInterface,run_underlying hu,Result.andThen_ok];cases d<;>first|rfl|exact absurd rfl (hd _)
 |tas t ok z r=>
  cases op<;>simp only[XV,QmO,QmT,QmA]at hc;rename_i y xt t' ok';obtain⟨⟨⟨⟨rfl,h1⟩,hz⟩,rfl⟩,h2⟩:=hc;have r1:=Qs h h2;split at hz
  case h_2=>cases hz
  rename_i inf hi;split at hz
  case h_2=>cases hz
  rename_i zv hzv;have hzz:(zeroValue t).run P w=.ok zv w:=by simp only[zeroValue,typeInfo,Sem.run_bind,run_program,Result.andThen_ok,hi,hzv,Sem.run_pure]
  obtain⟨d,hu,hd⟩:=G5 h1;simp only[Qx]at hx;split at hx
  ·rename_i t' y' e;rw[e]at r1;generalize hv:a.eval y=v at r1;cases r1 with
   |iface r1=>
    cases ht:t'==t with
    |true=>
     rw[ht]at hx;have ht':t'=t:=by simpa using ht
     subst ht';cases hx;rename_i v';refine⟨if ok then .tuple #[v',.bool true]else v',?_,?_⟩
     ·simp only[execOp,hv,Sem.run_bind,Instr.typeAssert,run_underlying hu,Result.andThen_ok];cases d<;>first|exact absurd rfl (hd _)|simp
     ·cases ok
      ·exact r1
      ·exact .tup (.cons r1 (.cons (.bool _) .nil))
    |false=>
     rw[ht]at hx;have ht':¬t'=t:=by simpa using ht
     cases ok with
     |false=>cases hx
     |true=>
      cases hx;refine⟨.tuple #[zv,.bool false],?_,.tup (.cons (isC_ok hz) (.cons (.bool _) .nil))⟩;simp only[execOp,hv,Sem.run_bind,Instr.typeAssert,run_underlying hu,Result.andThen_ok];cases d<;>first|exact absurd rfl (hd _)|simp[ht',hzz]
  ·rename_i e;rw[e]at r1;generalize hv:a.eval y=v at r1;cases r1;cases ok with
   |false=>cases hx
   |true=>
    cases hx;refine⟨.tuple #[zv,.bool false],?_,.tup (.cons (isC_ok hz) (.cons (.bool _) .nil))⟩;simp only[execOp,hv,Sem.run_bind,Instr.typeAssert,run_underlying hu,Result.andThen_ok];cases d<;>first|exact absurd rfl (hd _)|simp[hzz]
  ·cases hx
 |faddr off r=>
  cases op<;>simp only[XV,QmO,QmT]at hc;rename_i t y k;obtain⟨h1,h2⟩:=hc;have r1:=Qs h h2;split at h1
  ·rename_i fs hu;split at h1
   ·rename_i fl hfl;simp only[QmT,QmA,Qnv,QmY]at h1;obtain⟨hoff,i,hi,hne⟩:=h1;have run:∀b o,a.eval y=.pointer (some ⟨b,o,none⟩)→(Instr.fieldAt t (a.eval y) k).run P w=.ok (.pointer (some ⟨b,o+off,none⟩)) w:=by
     intro b o e;rw[e];simp only[Instr.fieldAt,Sem.run_bind,run_underlying hu,Result.andThen_ok,hfl,Instr.sureAddr,Sem.run_pure,fieldPlace,Xx hi,QmC hne,XC,hoff]
    simp only[execOp,Sem.run_bind];simp only[Qx]at hx;split at hx
    ·rename_i e;cases hx;rw[e]at r1;generalize hv:a.eval y=v at r1 run ⊢;cases r1 with
     |ptr hb=>exact⟨_,by rw[run _ _ rfl];rfl,.ptr hb⟩
    ·rename_i e;split at hx
     ·rename_i hg;cases hx;rw[e]at r1;generalize hv:a.eval y=v at r1 run ⊢;cases r1 with
      |vptr g1 g2 g3=>
       obtain⟨b,hb,rfl⟩:=g3 (N9 h hg);exact⟨_,by rw[run _ _ rfl];rfl,.vptr rfl g2 fun _=>⟨b,hb,by rw[Qmr]⟩⟩
     ·cases hx
    ·rename_i xs e;cases hx;rw[e]at r1;generalize hv:a.eval y=v at r1 run ⊢;cases r1 with
     |rptr g1 g2 g3 g4=>
      exact⟨_,by rw[run _ _ rfl];rfl,.rptr (g1.drop off) (ZX g2 fun x hx=>Qni hx) (XZ g3 fun x hx=>Qni hx) (fun q u hq=>by
       rw[Qnb]at hq;rw[Qmr];exact g4 _ u hq)⟩
    ·cases hx
   ·cases h1
  ·cases h1
 |fld off k r=>
  cases op<;>simp only[XV,QmO,QmT]at hc;rename_i t y q;obtain⟨h1,h2⟩:=hc;have r1:=Qs h h2;split at h1
  ·rename_i fs hu;split at h1
   ·rename_i fl hfl;simp only[QmT,QmA]at h1;simp only[Qx]at hx;split at hx
    ·rename_i l e;rw[e]at r1;simp only[execOp,Sem.run_bind];generalize a.eval y=v at r1 ⊢;cases r1 with
     |agg r1=>
      obtain⟨v,h3,h4⟩:=LP (P:=P) (w:=w) r1 hx h1.2;refine⟨v,?_,h4⟩;simp only[Instr.field,Sem.run_bind,run_underlying hu,Result.andThen_ok,hfl,asAgg,Sem.run_pure,h1.1,h3]
    ·cases hx
   ·cases h1
  ·cases h1
 |iaddr sz len r i=>
  cases op<;>simp only[XV,QmO,QmT]at hc;rename_i t y z;obtain⟨⟨h1,h2⟩,h3⟩:=hc;have r1:=Qs h h2;have r2:=Qs h h3;have ht:sz≠0∧QbT P t sz len:=by
   cases hu:P.underlying t with
   |none=>simp[hu]at h1
   |some d=>
    cases d with
    |slice e=>
     simp only[hu,QmT,QmA,Qnv,QmY]at h1;obtain⟨⟨rfl,j,hj,hz⟩,hne⟩:=h1;exact⟨hne,e,j,hu,hj,hz⟩
    |array n e=>
     simp only[hu,QmT,QmA,Qnv,QmY]at h1;obtain⟨⟨rfl,j,hj,hz⟩,hne⟩:=h1;exact⟨hne,e,j,hu,hj,hz⟩
    |_=>simp[hu]at h1
  simp only[Qx]at hx;split at hx
  ·rename_i k n e;rw[e]at r2;simp only[execOp,Sem.run_bind];generalize a.eval z=u at r2 ⊢;cases r2;obtain⟨v,h4,h5⟩:=Sb (P:=P) h ht.1 hx r1 (k:=k) ht.2;exact⟨v,by rw[h4];rfl,h5⟩
  ·cases hx
 |idx r i=>
  cases op<;>simp only[XV,QmO,QmT]at hc;rename_i t y z;obtain⟨⟨h1,h2⟩,h3⟩:=hc;have r1:=Qs h h2;have r2:=Qs h h3;simp only[Qx]at hx;split at hx
  ·rename_i s k n e1 e2;split at hx
   ·rename_i h0;split at hx
    ·rename_i b hb;cases hx;rw[e1]at r1;rw[e2]at r2;simp only[execOp,Sem.run_bind];generalize a.eval y=v at r1 ⊢;generalize a.eval z=u at r2 ⊢;cases r1;cases r2;refine⟨.int .u8 (b.toNat:Int),?_,.int _ _⟩;have hidx:(⟨⟨s⟩⟩:ByteArray)[n.toNat]? = some b:=by
      have hlt:=(Qmu.1 hb).1;rw[ByteArray.getElem?_lt' _ _ (by exact hlt)];rw[Qmv hlt]at hb;exact hb
     simp only[Instr.index,asIntOf,Sem.run_bind,Sem.run_pure,Result.andThen_ok,run_underlying (KA h1),QmD h0,hidx]
    ·cases hx
   ·cases hx
  ·cases hx
 |ext r i=>
  cases op<;>simp only[XV,QmO,QmT,QmA]at hc;rename_i y k;obtain⟨rfl,h2⟩:=hc;have r1:=Qs h h2;simp only[Qx]at hx;split at hx
  ·rename_i l e;rw[e]at r1;simp only[execOp,Sem.run_bind];generalize a.eval y=v at r1 ⊢;cases r1 with
   |tup r1=>
    obtain⟨v,h3,h4⟩:=r1.at_ hx;exact⟨v,by simp[Instr.extract,h3],h4⟩
  ·cases hx
 |len k r=>
  cases op<;>simp only[XV,QmO]at hc;rename_i cl;split at hc
  ·rename_i o1 y t o2;cases o2;simp only[QmT]at hc;obtain⟨h1,h2⟩:=hc;have r1:=Qs h h2;simp only[execOp,resolve,invoke,builtin,Sem.run_bind,Sem.run_pure,Result.andThen_ok,Qnw,Qm3,Qnx,Builtin.len_,List.getElem?_toArray,Qny];simp only[Qx]at hx;split at h1
   ·rename_i hu;simp only[QmA]at h1;subst h1;simp only at hx;split at hx
    ·rename_i s e;cases hx;rw[e]at r1;generalize a.eval y=v at r1 ⊢;cases r1;exact⟨_,by simp only[run_underlying hu,Result.andThen_ok];rfl,.int _ _⟩
    ·cases hx
   ·rename_i el hu;simp only[QmA]at h1;subst h1;simp only at hx;split at hx
    ·rename_i e;cases hx;rw[e]at r1;generalize a.eval y=v at r1 ⊢;cases r1;exact⟨_,by simp only[run_underlying hu,Result.andThen_ok];rfl,.int _ _⟩
    ·rename_i l e;cases hx;rw[e]at r1;generalize a.eval y=v at r1 ⊢;cases r1 with
     |list a1 a2 a3 a4 a5 a6 a7 a8=>
      subst a6;exact⟨_,by simp only[run_underlying hu,Result.andThen_ok];rfl,.int _ _⟩
    ·rename_i l s g o n q e;split at hx
     ·rename_i hg;cases hx;rw[e]at r1;generalize a.eval y=v at r1 ⊢;cases r1 with
      |vec g1 g2 g3=>
       rcases g3 (N9 h hg)with⟨_,_,rfl,A0,rfl,_⟩|⟨b,A,c,_,_,rfl,_⟩
       ·exact⟨_,by simp only[run_underlying hu,Result.andThen_ok];rfl,.int _ _⟩
       ·exact⟨_,by simp only[run_underlying hu,Result.andThen_ok];rfl,.int _ _⟩
     ·cases hx
    ·cases hx
   ·rename_i ky el hu;simp only[QmA]at h1;subst h1;simp only at hx;split at hx
    ·rename_i e;cases hx;rw[e]at r1;generalize a.eval y=v at r1 ⊢;cases r1;exact⟨_,by simp only[run_underlying hu,Result.andThen_ok];rfl,.int _ _⟩
    ·cases hx
   ·cases h1
  ·cases hc
 |mnx mx r s=>
  cases op<;>simp only[XV,QmO]at hc;rename_i cl;split at hc
  ·rename_i o1 b y z ts o2;cases o2;simp only[QmT]at hc;obtain⟨⟨h1,h2⟩,h3⟩:=hc;have r1:=Qs h h2;have r2:=Qs h h3;simp only[Qx]at hx;split at hx
   ·rename_i k m k' n e1 e2;split at hx
    ·rename_i hk;subst hk;cases hx;rw[e1]at r1;rw[e2]at r2;simp only[execOp,resolve,invoke,Sem.run_bind,Sem.run_pure,Result.andThen_ok,Qnw,Qm3,Qnx];generalize a.eval y=v at r1 ⊢;generalize a.eval z=u at r2 ⊢;cases r1;cases r2;split at h1
     ·subst h1;exact⟨_,rfl,.int _ _⟩
     ·simp only[Qnt]at h1;subst h1;exact⟨_,rfl,.int _ _⟩
     ·cases h1
    ·cases hx
   ·cases hx
  ·cases hc
 |mkfn fn xs ys=>
  cases op<;>simp only[XV,QmO,QmT,QmA]at hc;rename_i fn' p q;obtain⟨⟨rfl,h1⟩,h2⟩:=hc;simp only[Qx,QmW]at hx;subst hx;have r1:=UT h h1;have r2:=UT h h2;refine⟨.func _ ⟨p.toList.map a.eval⟩ ⟨q.toList.map a.eval⟩,?_,.fn r1 r2⟩;have e1:Array.map a.eval p=⟨p.toList.map a.eval⟩:=by apply Array.ext';simp
  have e2:Array.map a.eval q=⟨q.toList.map a.eval⟩:=by apply Array.ext';simp
  simp only[execOp,Instr.makeFunc,e1,e2];rfl
 |toU r=>
  cases op<;>simp only[XV,QmO,QmT]at hc;rename_i src dst y;obtain⟨⟨h1,h2⟩,h3⟩:=hc;have r1:=Qs h h3;simp only[Qx]at hx;split at hx
  ·rename_i l s o e;split at hx
   ·rename_i xs hlk;split at hx
    ·rename_i ho;cases hx;rw[e]at r1;simp only[execOp];generalize a.eval y=v at r1 ⊢;cases r1 with
     |ptr hb=>
      rename_i b;split at h1
      ·rename_i t hs;split at h2
       ·rename_i hd;cases hi:P.info? t with
        |none=>rw[hi]at h1;simp at h1
        |some j=>
         rw[hi]at h1;obtain⟨b',cs,e',⟨ty',lo,hi',hheap,_,_⟩,hr⟩:=h.mr.cells l s xs hlk;rw[hb]at e';cases e';have hl:=hr.length;have hsh:w.shape? b=some (ty',cs.size):=by unfold World.shape?;rw[hheap]
         have hrun:=Lib.run_to_unsafe (P:=P) w ⟨b,o,none⟩ hs hd hi (by simpa using h1) hsh (by simp at hl;show o<cs.size;omega);exact⟨_,by rw[Sem.run_bind,hrun];rfl,.ptr hb⟩
       ·cases h2
      ·cases h1
    ·cases hx
   ·cases hx
  ·cases hx
 |ofU t n r=>
  cases op<;>simp only[XV,QmO,QmT]at hc;rename_i src dst y;obtain⟨⟨h1,h2⟩,h3⟩:=hc;have r1:=Qs h h3;simp only[Qx]at hx;split at hx
  ·rename_i l s o e;split at hx
   ·rename_i xs hlk;split at hx
    ·rename_i ho;obtain⟨rfl,rfl,rfl⟩:=ho;cases hx;rw[e]at r1;simp only[execOp];generalize a.eval y=v at r1 ⊢;cases r1 with
     |ptr hb=>
      rename_i b;split at h1
      ·rename_i hs;split at h2
       ·rename_i u hd;simp only[QmT,QmA]at h2;obtain⟨⟨rfl,hi⟩,hlies⟩:=h2;obtain⟨j,hj⟩:=QmX.1 hi;obtain⟨b',cs,e',⟨ty',lo,hi',hheap,hty,_⟩,hr⟩:=h.mr.cells l (u+2000) xs hlk;rw[hb]at e';cases e';have hl:=hr.length;have ht:ty'=u:=Mr (s:=u+2000) hty (by simp[XY]) (by omega);subst ht;have hsh:w.shape? b=some (ty',xs.length):=by unfold World.shape?;rw[hheap];simp at hl;simp[hl]
        have hrun:=Lib.run_from_unsafe (P:=P) w ⟨b,0,none⟩ hs hd hj hsh hlies;exact⟨_,by rw[Sem.run_bind,hrun];rfl,.ptr hb⟩
       ·cases h2
      ·cases h1
    ·cases hx
   ·cases hx
  ·cases hx
 |same r=>
  simp only[Qx,QmW]at hx;subst hx;cases op<;>simp only[XV,QmO]at hc;rename_i cl;split at hc<;>first|(cases hc;done)|skip
  rename_i o1 k y ts o2;cases o2;simp only[QmT]at hc;obtain⟨h1,h2⟩:=hc;split at h1
  ·rename_i fn hf;simp only[QmT,QmA]at h1;obtain⟨⟨hn,hb⟩,ho⟩:=h1;refine⟨_,?_,Qs h h2⟩;have hnx:Extern.findNext fn=none:=by
    have e1:Extern.allNextRows.lookup "internal/abi.NoEscape" = none := by kernel_rfl
    have e2:Extern.allNextRows.lookup fn.origin=none:=by
     cases hh:Extern.allNextRows.lookup fn.origin with
     |none=>rfl
     |some _=>rw[hh]at ho;cases ho
    simp[Extern.findNext,hn,e1,e2]
   have hfd:Extern.find fn=some Extern.AbiNoEscape.same:=by
    have e1:(Extern.allGenericRows.lookup "internal/abi.NoEscape").isNone=true := by kernel_rfl
    have e2:(Extern.allTypedRows.lookup "internal/abi.NoEscape").isNone=true := by kernel_rfl
    have e3:Extern.allRows.lookup "internal/abi.NoEscape" = some Extern.AbiNoEscape.same := by kernel_rfl
    rw[Option.isNone_iff_eq_none]at e1 e2;simp[Extern.find,hn,e1,e2,e3]
   have hrun:=run_callFunc_extern (P:=P) (f:=k) (fn:=fn) hf (by rw[hn];decide) hb hnx hfd #[a.eval y] w;show(do let d ←resolve a.eval _ ty;invoke d.target d.args).run P w=_;simp only[resolve,Deferred.ofValue,Act.eval,Sem.run_bind,Sem.run_pure,Result.andThen_ok,invoke,Qnw,Qm3,Qnx,List.append_toArray,Qnz];exact hrun
  ·cases h1

end

def Gh.row (G:Gh)(l s:Nat)(b:Option Nat)(cap g sz:Nat):Gh :=
  { G with vm:=fun i t => if i = l ∧ t = s then b else G.vm i t,vc:=fun i t => if i = l ∧ t = s then cap else G.vc i t,
           vg:=fun i t=>if i=l∧t=s then g else G.vg i t,vz:=fun i t=>if i=l∧t=s then sz else G.vz i t }

theorem Gh.row_gle {G:Gh}{l s cap g sz:Nat}{b:Option Nat}(hg:G.vg l s<g):Gle G (G.row l s b cap g sz) where
 stab _ _ _ h:=h
 nm _ _ _ h:=h
 vg i t:=by
  show G.vg i t≤if i=l∧t=s then g else G.vg i t
  split
  ·rename_i h;obtain⟨rfl,rfl⟩:=h;omega
  ·exact Qms _
 vs i t e:=by
  by_cases h:i=l∧t=s
  ·obtain⟨rfl,rfl⟩:=h;simp only[Gh.row,and_self,if_true]at e;omega
  ·simp only[Gh.row,QmC h,and_self]

def Qn (o:Ob):Bool :=
 match o with
 |.cells _=>false
 |.iter .. => false
 |_=>true

theorem NQ {o:Ob}(h:Qn o=true)(h':o.isVar=true):False:=by
 cases o<;>simp[Qn,Ob.isVar]at h h'

theorem MR.vecput' {G:Gh}{m:Qh}{w w':World}(h:MR G m w){l s g sz cap:Nat}{b:Option Nat}{ys:List AV}(hl:l<m.length)(ho:Qn (Qc m l s)=true)(hg:G.vg l s<g)
  (hkeep:∀k,k<w.heap.size→some k≠G.vm l s→w'.heap[k]? = w.heap[k]?) (hb:∀k,b=some k→G.vm l s=some k∨(¬G.mine k∧∀o,G.stab k o=none)) (hel:Elems sz ys)
  (hrow:(b=none∧ys=[])∨∃k,b=some k∧RowIs G s w' k cap sz ys):MR (G.row l s b cap g sz) (Am.put m l s (.vec g sz ys)) w':=by
 have hgle:=Gh.row_gle (b:=b) (cap:=cap) (sz:=sz) hg;have hst:∀k o v,G.stab k o=some v→k<w.heap.size∧some k≠G.vm l s:=by
  intro k o v e;refine⟨UR (h.stab k o v e),fun e'=>?_⟩;rw[(h.vm l s k e'.symm).2 o]at e;cases e
 have hnew:∀k o,b=some k→G.stab k o=none:=by
  intro k o e;rcases hb k e with e'|e'
  ·exact(h.vm l s k e').2 o
  ·exact e'.2 o
 have hnm:∀l' s' k,G.nm l' s'=some k→k<w.heap.size∧some k≠G.vm l s:=by
  intro l' s' k e;exact⟨(h.mine (.inl ⟨_,_,e⟩)).1,fun e'=>h.inj3 _ _ _ _ _ e e'.symm⟩
 have hvm:∀l' s' k,¬(l'=l∧s'=s)→G.vm l' s'=some k→k<w.heap.size∧some k≠G.vm l s:=by
  intro l' s' k hh e;exact⟨(h.mine (.inr ⟨_,_,e⟩)).1,fun e'=>hh (h.inj2 _ _ _ _ _ e e'.symm)⟩
 refine⟨fun k o v e=>?_,fun l' s' zs e=>?_,fun l' s' k e=>?_,fun l' s' g' z zs e=>?_,fun l' s' k e=>?_,fun l' s' e=>?_,h.inj1,fun l1 s1 l2 s2 k e1 e2=>?_,fun l1 s1 l2 s2 k e1 e2=>?_,fun l' s' t p e=>?_⟩
 ·obtain⟨h1,h2⟩:=hst k o v e;exact JO (hkeep k h1 h2) (h.stab k o v e)
 ·by_cases hh:l'=l∧s'=s
  ·obtain⟨rfl,rfl⟩:=hh;rw[Qo hl]at e;cases e
  ·rw[QA (by omega)]at e;obtain⟨k,cs,e',hc,hr⟩:=h.cells l' s' zs e;obtain⟨h1,h2⟩:=hnm _ _ _ e';exact⟨k,cs,e',hc.of (hkeep k h1 h2),hr.mono (hgle.dn l')⟩
 ·obtain⟨hz,h2⟩:=h.nm l' s' k e;refine⟨?_,h2⟩;rw[QA ?_]
  ·exact hz
  ·by_cases hh:l'=l∧s'=s
   ·obtain⟨rfl,rfl⟩:=hh;exact(NQ ho hz).elim
   ·omega
 ·by_cases hh:l'=l∧s'=s
  ·obtain⟨rfl,rfl⟩:=hh;rw[Qo hl]at e;cases e;simp only[Gh.row,and_self,if_true];refine⟨trivial,trivial,hel,hrow.imp id fun⟨k,e,r⟩=>⟨k,e,r.of rfl fun vs hv=>RepL.rfd (G:=G) (G':=G.row l' s' b cap g sz) (fun _ _ _ h=>h) hel.rf hv⟩⟩
  ·rw[QA (by omega)]at e;obtain⟨a1,a2,a3,a4⟩:=h.vec l' s' g' z zs e;simp only[Gh.row,QmC hh];refine⟨a1,a2,a3,a4.imp id fun⟨k,e',r⟩=>⟨k,e',r.of (hkeep k ?_ ?_) fun vs hv=>RepL.rfd (G:=G) (G':=G.row l s b cap g sz) (fun _ _ _ h=>h) a3.rf hv⟩⟩
   ·exact(hvm _ _ _ hh e').1
   ·exact(hvm _ _ _ hh e').2
 ·by_cases hh:l'=l∧s'=s
  ·obtain⟨rfl,rfl⟩:=hh;simp only[Gh.row,and_self,if_true]at e;exact⟨⟨g,sz,ys,Qo hl⟩,fun o=>hnew k o e⟩
  ·simp only[Gh.row,QmC hh]at e;obtain⟨⟨g',z,zs,hz⟩,h2⟩:=h.vm l' s' k e;exact⟨⟨g',z,zs,by rw[QA (by omega)];exact hz⟩,h2⟩
 ·by_cases hh:l'=l∧s'=s
  ·obtain⟨rfl,rfl⟩:=hh;rw[Qo hl]at e;cases e
  ·rw[QA (by omega)]at e;simp only[Gh.row,QmC hh];exact h.gone l' s' e
 ·simp only[Gh.row]at e1 e2;split at e1<;>split at e2
  ·rename_i h1 h2;exact⟨h1.1.trans h2.1.symm,h1.2.trans h2.2.symm⟩
  ·rename_i h1 h2;obtain⟨h3,h4⟩:=hvm _ _ _ h2 e2;rcases hb k e1 with e'|e'
   ·exact absurd e'.symm h4
   ·exact absurd (.inr ⟨_,_,e2⟩) e'.1
  ·rename_i h1 h2;obtain⟨h3,h4⟩:=hvm _ _ _ h1 e1;rcases hb k e2 with e'|e'
   ·exact absurd e'.symm h4
   ·exact absurd (.inr ⟨_,_,e1⟩) e'.1
  ·exact h.inj2 _ _ _ _ _ e1 e2
 ·simp only[Gh.row]at e2;obtain⟨h3,h4⟩:=hnm _ _ _ e1;split at e2
  ·rcases hb k e2 with e'|e'
   ·exact h4 e'.symm
   ·exact e'.1 (.inl ⟨_,_,e1⟩)
  ·exact h.inj3 _ _ _ _ _ e1 e2
 ·by_cases hh:l'=l∧s'=s
  ·obtain⟨rfl,rfl⟩:=hh;rw[Qo hl]at e;cases e
  ·rw[QA (by omega)]at e;obtain⟨k,e',hc⟩:=h.iter l' s' t p e;obtain⟨h1,h2⟩:=hnm _ _ _ e';exact⟨k,e',(hkeep k h1 h2).trans hc⟩

theorem MR.free {G:Gh}{m:Qh}{w:World}(h:MR G m w){k:Nat}(hk:w.heap.size≤k):¬G.mine k∧∀o,G.stab k o=none:=by
 refine⟨fun e=>by have:=(h.mine e).1;omega,fun o=>?_⟩;cases hs:G.stab k o with
 |none=>rfl
 |some v=>exact absurd (UR (h.stab k o v hs)) (Nat.not_lt.2 hk)

theorem MR.vecput {G:Gh}{m:Qh}{w w':World}(h:MR G m w){l s g sz cap:Nat}{b:Option Nat}{ys:List AV}(hl:l<m.length)(ho:Qn (Qc m l s)=true)(hg:G.vg l s<g)
  (hkeep:∀k,k<w.heap.size→some k≠G.vm l s→w'.heap[k]? = w.heap[k]?) (hb:∀k,b=some k→G.vm l s=some k∨w.heap.size≤k) (hel:Elems sz ys)
  (hrow:(b=none∧ys=[])∨∃k,b=some k∧RowIs G s w' k cap sz ys):MR (G.row l s b cap g sz) (Am.put m l s (.vec g sz ys)) w' :=
 h.vecput' hl ho hg hkeep (fun k e=>(hb k e).imp id h.free) hel hrow

theorem Rel.vecput {G:Gh}{B N:Nat}{st:St}{a:Act}{w w':World}(h:Rel G B N st a w){l s g sz cap:Nat}{b:Option Nat}{ys:List AV}(hl:l<st.m.length)(ho:Qn (Qc st.m l s)=true)(hg:G.vg l s<g)
  (hos:w'.os=w.os) (htape:w'.tape=w.tape) (hout:w'.output=w.output) (hsize:w.heap.size≤w'.heap.size)
  (hkeep:∀k,k<w.heap.size→some k≠G.vm l s→w'.heap[k]? = w.heap[k]?) (hb:∀k,b=some k→G.vm l s=some k∨w.heap.size≤k) (hel:Elems sz ys)
  (hrow:(b=none∧ys=[])∨∃k,b=some k∧RowIs G s w' k cap sz ys) :
  Rel (G.row l s b cap g sz) B N { st with m:=Am.put st.m l s (.vec g sz ys) } a w'∧Ext 1 G w (G.row l s b cap g sz) w':=by
 have hgle:=Gh.row_gle (b:=b) (cap:=cap) (sz:=sz) hg;refine⟨⟨h.mr.vecput hl ho hg hkeep hb hel hrow,h.size,fun i=>(h.slots i).mono hgle,h.ds.mono hgle,fun s' k e=>?_,Qmt h.top hsize,Ko h.ne⟩,⟨hos,htape,hout,hsize,fun _ _ _ h=>h,fun _ _ _=>rfl,hgle.vg,hgle.vs,fun k hk hm=>⟨hkeep k hk fun e=>hm (.inr ⟨l,s,e.symm⟩),fun _=>rfl⟩,fun k hk=>?_,fun i t k e=>?_⟩⟩
 ·rcases e with e|e
  ·exact h.base s' k (.inl e)
  ·simp only[Gh.row]at e;split at e
   ·rename_i hh;rcases hb k e with e'|e'
    ·exact h.base s k (.inr (by rw[hh.1];exact e'))
    ·exact Qmt h.top e'
   ·exact h.base s' k (.inr e)
 ·rcases hk with⟨i,t,e⟩|⟨i,t,e⟩
  ·exact .inl (.inl ⟨i,t,e⟩)
  ·simp only[Gh.row]at e;split at e
   ·rcases hb k e with e'|e'
    ·exact .inl (.inr ⟨_,_,e'⟩)
    ·exact .inr e'
   ·exact .inl (.inr ⟨i,t,e⟩)
 ·simp only[Gh.row]at e;split at e
  ·rename_i hh;rcases hb k e with e'|e'
   ·exact .inl ⟨l,s,by rw[hh.1];exact Qms _,e'⟩
   ·exact .inr e'
  ·exact .inl ⟨i,t,Qms _,e⟩

def Qy (m:Qh)(l s:Nat):Nat :=
 match Qc m l s with
 |.vec g _ _=>g+1
 |_=>1

theorem Jn {G:Gh}{m:Qh}{w:World}(h:MR G m w){l s:Nat}(ho:Qn (Qc m l s)=true):G.vg l s<Qy m l s:=by
 unfold Qy;split
 ·rename_i g z xs e;rw[(h.vec l s g z xs e).1];omega
 ·rename_i hn;have:Qc m l s=.none:=by
   cases hlk:Qc m l s with
   |none=>rfl
   |cells xs=>rw[hlk]at ho;cases ho
   |iter t p=>rw[hlk]at ho;cases ho
   |vec g z xs=>exact absurd hlk (hn g z xs)
  rw[h.gone l s (by rw[this];rfl)];omega

theorem D9 {P:Program}{s:Nat}{w:World}{t tx ty e:TypeId}(hty:XY s e=true){i:TypeInfo}{z:Value}(ht:P.underlying t=some (.slice e))(hi:P.info? e=some i)(hz:i.zero=some z)(hzs:z.cells.size=i.size)
    {v:Value} {n cap:Nat} {xs:List Value} {own:Option Nat} (hv:((∃A,v=.slice A 0 0)∧own=none∧n=0∧xs=[])∨∃b cur,v=.slice (some ⟨b,0,none⟩) n cap∧own=some b∧XH s w b cur∧cur.size=cap*i.size∧n≤cap∧cap≤maxLen∧cur.toList.take (n*i.size)=xs) (hxl:xs.length=n*i.size)
    {x:Value} {m:Nat} {news:List Value} (hsrc:Src P i.size tx x m news w)
    (hmax:n+m≤maxLen) (hbytes:(n+m)*i.bytes≤140737488355328) :
    ∃v' w',(Builtin.append_ #[t,tx] ty #[v,x]).run P w=.ok v' w'∧w'.os=w.os∧w'.tape=w.tape∧w'.output=w.output∧w.heap.size≤w'.heap.size∧(∀k,k<w.heap.size→own≠some k→w'.heap[k]? = w.heap[k]?)∧
      ((v'=v∧own=none∧m=0∧w'=w)∨∃b' cap' cur',v'=.slice (some ⟨b',0,none⟩) (n+m) cap'∧(own=some b'∨w.heap.size≤b')∧XH s w' b' cur'∧cur'.size=cap'*i.size∧n+m≤cap'∧cap'≤maxLen∧cur'.toList.take ((n+m)*i.size)=xs++news):=by
  have hm63:(n+m:Nat)≤9223372036854775807:=by simp only[maxLen]at hmax;omega
  have hl:=hsrc.newsLen;have hlen:(xs++news).length=(n+m)*i.size:=by rw[Qm9,hxl,hl,Qm6]
  -- the growing arm
  have grown:∀(old:Nat),old<n+m→∃b' cap' cur',Value.slice (some ⟨w.heap.size,0,none⟩) (n+m) (grownCap w (n+m) old e)=.slice (some ⟨b',0,none⟩) (n+m) cap'∧(own=some b'∨w.heap.size≤b')∧
      XH s (w.drew.alloc (.cells ((xs++news).toArray++Builtin.zeroCells z.cells (grownCap w (n+m) old e-(n+m))) e)) b' cur'∧cur'.size=cap'*i.size∧n+m≤cap'∧cap'≤maxLen∧cur'.toList.take ((n+m)*i.size)=xs++news:=by
    intro old ho;have hge:=grownCap_ge w (n+m) old e;have hcm:=grownCap_le_maxLen w (n+m) old e hmax;refine⟨w.heap.size,grownCap w (n+m) old e,_,rfl,.inr (Qms _),XH.new w.drew _ e hty,?_,hge,hcm,?_⟩
    · simp only[Array.size_append,QnA,size_zeroCells,hzs,hlen,←Qm6];congr 1
      omega
    · simp only[Array.toList_append];rw[←hlen];exact List.take_left
  have hkeepA:∀o k,k<w.heap.size→(w.drew.alloc o).heap[k]? = w.heap[k]?:=fun o k hk=>RowKit.Below.heap_alloc w.drew o k hk
  rcases hv with⟨⟨A0,rfl⟩,rfl,rfl,rfl⟩|⟨b,cur,rfl,rfl,hsoft,hcs,hnc,hcm,htake⟩
  · by_cases hm:m=0
    · subst hm;have hn:news=[]:=QnB (by simpa using hl);subst hn;refine⟨.slice A0 0 0,w,?_,rfl,rfl,rfl,Qms _,fun _ _ _=>rfl,.inl ⟨rfl,rfl,rfl,rfl⟩⟩;have h1:=hsrc.cells;have h2:=hsrc.len;rcases hsrc.kind with⟨e',hk⟩|hk<;>cases A0<;>simp[Builtin.append_,run_underlying ht,run_underlying hk,sizeOf,typeInfo,hi,h2,h1,storeCells]
    · have hr:=run_append_grow_src (P:=P) w t tx ty e i z ht hi hz A0 0 0 [] (by cases A0 with|none=>exact run_firstCells_none w.drew i.size 0 0 0|some a=>exact run_firstCells_some w.drew i.size 0 a 0 0 [] (by simp) (by simp)) x m news hsrc (by omega) (by omega) (growslice_fits (by omega) (by have hb:=hbytes;simp only[QmU]at hb ⊢;exact hb));have hgr:=grown 0 (by omega);exact⟨_,_,hr,rfl,rfl,rfl,by simp,fun k hk _=>hkeepA _ k hk,.inr hgr⟩
  · by_cases hroom:n+m≤cap
    · have hfit:0+n*i.size+news.length≤cur.size:=by
        rw[hl,hcs,QmU,←Qm6];exact QnC _ hroom
      obtain⟨w',hst,hs',htn⟩:=Zn P s b (n*i.size) news 0 w cur hsoft (by omega) hsrc.one;refine⟨.slice (some ⟨b,0,none⟩) (n+m) cap,w',?_,htn.os,htn.tape,htn.output,by rw[htn.size];exact Qms _,fun k hk hne=>htn.heap k fun e=>hne (by rw[e]),.inr ⟨b,cap,_,rfl,.inl rfl,hs',?_,hroom,hcm,?_⟩⟩
      · have h1:=hsrc.cells;have h2:=hsrc.len w;rcases hsrc.kind with⟨e',hk⟩|hk <;>
          (simp only[Builtin.append_,List.getElem?_toArray,Qny,QnD,Sem.run_bind,run_underlying ht,run_underlying hk,Result.andThen_ok,Xx hi,Sem.run_pure,QmO,if_false,h2,QmD hroom,QnE,if_true,h1,XC,QmU]
           rw[hst];rfl)
      · simp only[QnA,Qm9,Qns,Qnc,Qm1,Qm2];omega
      · simp only[Qm2];rw[htake,←hlen];exact List.take_left
    · have hcells:∀j u,xs[j]? = some u→w.drew.cell? ((⟨b,0,none⟩:Addr).add j)=some u:=by
        intro j u hu;show w.cell? _=_;rw[XC,QmU,hsoft.cell,←QmZ];rw[←htake,Qna]at hu;split at hu
        · exact hu
        · cases hu
      have hr:=run_append_grow_src (P:=P) w t tx ty e i z ht hi hz (some ⟨b,0,none⟩) n cap xs (run_firstCells_some w.drew i.size n ⟨b,0,none⟩ n cap xs hxl hcells) x m news hsrc (by omega) (by omega) (growslice_fits (by omega) hbytes);exact⟨_,_,hr,rfl,rfl,rfl,by simp,fun k hk _=>hkeepA _ k hk,.inr (grown cap (by omega))⟩

noncomputable def Gh.pub (G:Gh)(w:World)(S:Nat→Prop):Gh :=
 { G with
  stab:=fun b o=>@ite _ (S b∧∀o,Jb b o=none) (Classical.propDecidable _) (sv w b o) (G.stab b o)
  tab:=fun b o v e=>by
   show @ite _ (S b∧∀o,Jb b o=none) (Classical.propDecidable _) (sv w b o) (G.stab b o)=some v;rw[QmC (fun h=>by rw[h.2 o]at e;cases e)];exact G.tab b o v e }
theorem Gh.notab {G:Gh}{b:Nat}(h:∀o,G.stab b o=none):∀o,Jb b o=none:=fun o=>by
 cases e:Jb b o with
 |none=>rfl
 |some v=>have:=G.tab b o v e;rw[h o]at this;cases this
theorem Gh.pub_c {G:Gh}{w:World}{S:Nat→Prop}{b o:Nat}(h:S b∧∀o,Jb b o=none):(G.pub w S).stab b o=sv w b o:=QmD h
theorem Gh.pub_n {G:Gh}{w:World}{S:Nat→Prop}{b o:Nat}(h:¬(S b∧∀o,Jb b o=none)):(G.pub w S).stab b o=G.stab b o:=QmC h

theorem Gh.pub_in {G:Gh}{w:World}{S:Nat→Prop}{b o:Nat}(h:S b)(hn:∀o,Jb b o=none):(G.pub w S).stab b o=sv w b o:=QmD ⟨h,hn⟩
theorem Gh.pub_out {G:Gh}{w:World}{S:Nat→Prop}{b o:Nat}(h:¬S b):(G.pub w S).stab b o=G.stab b o:=QmC fun x=>h x.1

theorem Gh.pub_gle {G:Gh}{w:World}{S:Nat→Prop}(h:∀b o v,G.stab b o=some v→rd w b o v):Gle G (G.pub w S) where
 stab b o v e:=by
  by_cases hS:S b∧∀o,Jb b o=none
  ·rw[Gh.pub_c hS];exact NX (h b o v e)
  ·rw[Gh.pub_n hS];exact e
 nm _ _ _ h:=h
 vg _ _:=Qms _
 vs _ _ _:=⟨rfl,rfl,rfl⟩

mutual
theorem Dt {G:Gh}{m:Qh}{w:World}(h:MR G m w){own:Bool}{S:Nat→Prop}(hS:∀l s b,(own&&l != 0)=false→G.vm l s=some b→S b)(hM:own=true→∀s b ks vs p,G.nm 0 s=some b→Qc m 0 s=.iter (.mp ks vs) p→S b):∀ {x:AV} {v:Value},Rep G x v→∀y,x.still own m=some y→Rep (G.pub w S) y v
 |.top,v,hr,y,e=>by cases e;exact .top v
 |.int _ _,_,hr,y,e=>by cases e;exact hr.mono (Gh.pub_gle h.stab)
 |.bool _,_,hr,y,e=>by cases e;exact hr.mono (Gh.pub_gle h.stab)
 |.str _,_,hr,y,e=>by cases e;exact hr.mono (Gh.pub_gle h.stab)
 |.nilp,_,hr,y,e=>by cases e;exact hr.mono (Gh.pub_gle h.stab)
 |.nilf,_,hr,y,e=>by cases e;exact hr.mono (Gh.pub_gle h.stab)
 |.nili,_,hr,y,e=>by cases e;exact hr.mono (Gh.pub_gle h.stab)
 |.nilm,_,hr,y,e=>by cases e;exact hr.mono (Gh.pub_gle h.stab)
 |.anyp,_,hr,y,e=>by cases e;exact hr.mono (Gh.pub_gle h.stab)
 |.list _,_,hr,y,e=>by cases e;exact hr.mono (Gh.pub_gle h.stab)
 |.lcap _,_,hr,y,e=>by cases e;exact hr.unlcap.mono (Gh.pub_gle h.stab)
 |.fn _ _ _,_,hr,y,e=>by cases e;exact hr.mono (Gh.pub_gle h.stab)
 |.ptr _ _ _,_,hr,y,e=>by cases e;exact hr.mono (Gh.pub_gle h.stab)
 |.mp _ _,_,hr,y,e=>by cases e;exact hr.mono (Gh.pub_gle h.stab)
 |.vptr _ _ _ _ _,_,hr,y,e=>by cases e;exact hr.mono (Gh.pub_gle h.stab)
 |.rptr _,_,hr,y,e=>by cases e;exact hr.mono (Gh.pub_gle h.stab)
 |.nils,_,hr,y,e=>by
   cases e;cases hr;exact .list (sz:=0) (cs:=[]) .nil (by simp) rfl rfl (by simp) rfl (Qms _) (QmE _)
 |.agg l,_,hr,y,e=>by
   simp only[AV.still,Qmx]at e;obtain⟨l',e,rfl⟩:=e;cases hr with
   |agg hr=>exact .agg (YY h hS hM hr l' e)
 |.tup l,_,hr,y,e=>by
   simp only[AV.still,Qmx]at e;obtain⟨l',e,rfl⟩:=e;cases hr with
   |tup hr=>exact .tup (YY h hS hM hr l' e)
 |.iface t x,_,hr,y,e=>by
   simp only[AV.still,Qmx]at e;obtain⟨l',e,rfl⟩:=e;cases hr with
   |iface hr=>exact .iface (Dt h hS hM hr l' e)
 |.vec l s g o n q,v,hr,y,e=>by
   simp only[AV.still]at e;split at e
   ·cases e;exact hr.mono (Gh.pub_gle h.stab)
   ·rename_i hown;split at e
    ·rename_i g' sz xs hlk;split at e
     ·rename_i hh;cases e;obtain⟨e1,e2,e3,e4⟩:=h.vec l s g' sz xs hlk;have hmem:∀x∈(xs.drop o).take n,x∈xs:=fun x hx=>Qni (Qnj hx)
      cases hr with
      |vec hone hg hh'=>
       rcases hh' (by rw[e1];exact hh.1)with⟨hvm,rfl,rfl,A0,rfl,hA0⟩|⟨b,A,c,hvm,hok,rfl,hkc,hcm,hq,hA⟩
       ·simp only[QnF];exact .list (sz:=0) (cs:=[]) .nil (by simp) rfl rfl (by simp) rfl (Qms _) (QmE _)
       ·rcases e4 with⟨e,_⟩|⟨b',e,hrow⟩
        ·rw[hvm]at e;cases e
        ·rw[hvm]at e;cases e;obtain⟨cur,hsoft,hcs,hrep⟩:=hrow.cur;have hr:=(hrep.mono (Gh.pub_gle (S:=S) h.stab)).takeDrop (o*sz) (n*sz);rw[ZZ e3.size,Jm (fun x hx=>e3.size x (Qni hx))]at hr;refine .list (sz:=sz) hr (fun x hx=>e3.size x (hmem x hx)) (ZX e3.rf (Z7 hmem)) (XZ e3.leaf (Z7 hmem)) (fun j u hu=>?_) (by simp;omega) hkc (by omega);rw[Qna]at hu;split at hu
         ·rename_i hj;rw[Qnb,Qna]at hu;split at hu
          ·have hk:0<n:=by
            rcases Qnk n with h0|h0
            ·subst h0;simp at hj
            ·exact h0
           have hovc:o<G.vc l s:=Nat.lt_of_lt_of_le (Nat.lt_add_of_pos_right hk) hok;have hA':=hA ⟨.inl hovc,.inr hk⟩;rw[e2]at hA';refine⟨b,o*sz,by rw[hA'],?_⟩;rw[Gh.pub_in (hS l s b (by simpa using hown) hvm) (Gh.notab (h.vm l s b hvm).2)];refine Gz ?_;rw[hsoft.cell]
           simpa using hu
          ·cases hu
         ·cases hu
     ·cases e
    ·cases e
 |.mptr l s,v,hr,y,e=>by
   simp only[AV.still]at e;split at e
   ·cases e;exact hr.mono (Gh.pub_gle h.stab)
   ·rename_i hown;split at e
    ·rename_i ho;have hl:l=0:=by simpa [ho]using hown
     subst hl;split at e
     ·rename_i ks vs p hlk;cases e;cases hr with
      |mptr hb=>
       obtain⟨b',e',hh⟩:=h.iter 0 s _ _ hlk;rw[hb]at e';cases e';refine .mp ?_;rw[Gh.pub_in (hM ho s _ _ _ _ hb hlk) (Gh.notab (h.nm _ _ _ hb).2)];exact NX (v:=.mapo _ _) hh
     ·cases e
    ·cases e
theorem YY {G:Gh}{m:Qh}{w:World}(h:MR G m w){own:Bool}{S:Nat→Prop}(hS:∀l s b,(own&&l != 0)=false→G.vm l s=some b→S b)(hM:own=true→∀s b ks vs p,G.nm 0 s=some b→Qc m 0 s=.iter (.mp ks vs) p→S b):∀ {x:List AV} {v:List Value},RepL G x v→∀y,AV.stillL own m x=some y→RepL (G.pub w S) y v
 | [],_,hr,y,e=>by cases e;cases hr;exact .nil
 |x :: l,_,hr,y,e=>by
   simp only[AV.stillL]at e;split at e
   ·rename_i a b ea eb;cases e;cases hr with
    |cons hr ht=>exact .cons (Dt h hS hM hr a ea) (YY h hS hM ht b eb)
   ·cases e
end

def UW (P:Program) (k:FuncId):Prop := ∃fn, P.funcs[k]? = some fn∧(fn.name == "runtime.NumGoroutine")=false∧fn.body.isNone=false

def Qd (P:Program)(k:FuncId)(args:List AV)(m:Qh)(R:AV→Qh→Prop):Prop :=
 UW P k∧∀(G:Gh) (w:World) (vs:List Value),RepL G args vs→MR G m w→Calls P k ⟨vs⟩ w fun e w'=>∃G' x v m',e=.returned v∧R x m'∧Rep G' x v∧MR G' m' w'∧Ext 0 G w G' w'∧m'.length=m.length

theorem Qd.mono {P:Program}{k:FuncId}{args:List AV}{m:Qh}{R R':AV→Qh→Prop}(h:Qd P k args m R)(hr:∀x m',R x m'→R' x m'):Qd P k args m R' :=
 ⟨h.1,fun G w vs h1 h2=>(h.2 G w vs h1 h2).mono fun _ _ ⟨G',x,v,m',e,r,rest⟩=>⟨G',x,v,m',e,hr _ _ r,rest⟩⟩

def Gh.up (G:Gh):Gh where
 stab:=G.stab
 nm:=fun l s=>match l with|0=>none|l+1=>G.nm l s
 vm:=fun l s=>match l with|0=>none|l+1=>G.vm l s
 vc:=fun l s=>match l with|0=>0|l+1=>G.vc l s
 vg:=fun l s=>match l with|0=>0|l+1=>G.vg l s
 vz:=fun l s=>match l with|0=>0|l+1=>G.vz l s
 tab:=G.tab

theorem Gh.up_dn (G:Gh)(l:Nat):G.up.dn (l+1)=G.dn l:=rfl

theorem Gh.up_mine {G:Gh}{b:Nat}:G.up.mine b↔G.mine b:=by
 constructor
 ·rintro(⟨l,s,e⟩|⟨l,s,e⟩)
  ·cases l with
   |zero=>cases e
   |succ l=>exact .inl ⟨l,s,e⟩
  ·cases l with
   |zero=>cases e
   |succ l=>exact .inr ⟨l,s,e⟩
 ·rintro(⟨l,s,e⟩|⟨l,s,e⟩)
  ·exact .inl ⟨l+1,s,e⟩
  ·exact .inr ⟨l+1,s,e⟩

def Qb:Nat→Ob:=fun _=>.none

theorem MR.up {G:Gh}{m:Qh}{w:World}(h:MR G m w):MR G.up (Qb :: m) w where
 stab:=h.stab
 cells l s xs e:=by
  cases l with
  |zero=>cases e
  |succ l=>exact h.cells l s xs e
 nm l s b e:=by
  cases l with
  |zero=>cases e
  |succ l=>exact h.nm l s b e
 vec l s g sz xs e:=by
  cases l with
  |zero=>cases e
  |succ l=>
   obtain⟨a1,a2,a3,a4⟩:=h.vec l s g sz xs e;exact⟨a1,a2,a3,a4.imp id fun⟨b,e',r⟩=>⟨b,e',r.of rfl fun vs hv=>RepL.rfd (G:=G) (G':=G.up) (fun _ _ _ h=>h) a3.rf hv⟩⟩
 vm l s b e:=by
  cases l with
  |zero=>cases e
  |succ l=>exact h.vm l s b e
 gone l s e:=by
  cases l with
  |zero=>rfl
  |succ l=>exact h.gone l s e
 inj1 l s l' s' b e e':=by
  cases l with
  |zero=>cases e
  |succ l=>
   cases l' with
   |zero=>cases e'
   |succ l'=>obtain⟨h1,h2⟩:=h.inj1 l s l' s' b e e';exact⟨by rw[h1],h2⟩
 inj2 l s l' s' b e e':=by
  cases l with
  |zero=>cases e
  |succ l=>
   cases l' with
   |zero=>cases e'
   |succ l'=>obtain⟨h1,h2⟩:=h.inj2 l s l' s' b e e';exact⟨by rw[h1],h2⟩
 inj3 l s l' s' b e e':=by
  cases l with
  |zero=>cases e
  |succ l=>
   cases l' with
   |zero=>cases e'
   |succ l'=>exact h.inj3 l s l' s' b e e'
 iter l s t p e:=by
  cases l with
  |zero=>cases e
  |succ l=>exact h.iter l s t p e

def Vb (l:List AV):Fr:=fun i=>(l[i]?).getD (.tup [])

def St.enter (args:List AV)(m:Qh):St:={ f:=Vb (AV.shL args),m:=Qb :: m,ds:=[] }

inductive RR where
 |tmp (t:Nat)
 |cell (t:Nat) (k:Option Nat)

def RR.ev (st:St):RR→Option AV
 |.tmp t=>some (st.f t)
 |.cell t k=>Xf st.m k (st.f t)

def RR.evL (st:St):List RR→Option (List AV)
 | []=>some []
 |r :: rs=>match r.ev st,RR.evL st rs with
  |some x,some xs=>some (x :: xs)
  |_,_=>none

def K4 (st:St)(rs:List RR):Option AV :=
 match rs with
 | [r]=>r.ev st
 |rs=>(RR.evL st rs).map .tup

def Jv (P:Program):List ResultVar→List RR→Bool
 | [],[]=>true
 |.tmp t :: rs,.tmp t' :: ss=>t==t'&&Jv P rs ss
 |.cell t ty :: rs,.cell t' k :: ss=>t==t'&&ZK P ty==some k&&Jv P rs ss
 |_,_=>false

def WP (m:Qh)(x:AV):Option AV:=(x.still true m).bind AV.un

section
variable {P:Program}{G:Gh}{B N:Nat}{st:St}{a:Act}{w:World}

theorem Fa (h:Rel G B N st a w){t:Nat}{k:Option Nat}{x:AV}(hx:Xf st.m k (st.f t)=some x){ty:TypeId}(ht:ZK P ty=some k) :
  ∃v,(do loadVar ty (←asAddr (a.tmps.getD t undef)):Sem Value).run P w=.ok v w∧Rep G x v:=by
 have hs:=h.slots t;obtain⟨v,h1,h2⟩:=YD (P:=P) h hx hs ht;refine⟨v,?_,h2⟩;generalize a.tmps.getD t undef=u at h1 hs ⊢;simp only[Instr.loadAt,Sem.run_bind]at h1;cases u with
 |pointer p=>
  cases p with
  |none=>simp[Instr.sureAddr]at h1
  |some p=>
   simp only[Instr.sureAddr,Sem.run_pure,Result.andThen_ok]at h1;simp only[asAddr,Sem.run_bind,Sem.run_pure,Result.andThen_ok];exact h1
 |_=>simp[Instr.sureAddr]at h1

def Bs (tmps:Array Value):ResultVar→Sem Value
 |.tmp t=>pure (tmps.getD t undef)
 |.cell b t=>do loadVar t (←asAddr (tmps.getD b undef))

theorem Fb (fn:Func)(tmps:Array Value):results fn tmps=(do let vs ←fn.results.mapM (Bs tmps);pure (if h:vs.size=1 then vs[0]else .tuple vs)):=by
 have:(fun r=>match r with
  |ResultVar.tmp t=>(pure (tmps.getD t undef):Sem Value)
  |ResultVar.cell b t=>do loadVar t (←asAddr (tmps.getD b undef)))=Bs tmps:=by
  funext r;cases r<;>rfl
 rw[←this];rfl

theorem PB (h:Rel G B N st a w){rs:List RR}:∀ {vs:List ResultVar} {xs:List AV},Jv P vs rs=true→RR.evL st rs=some xs→
  ∃us,(vs.mapM (Bs a.tmps)).run P w=.ok us w∧RepL G xs us:=by
 induction rs with
 |nil=>
  intro vs xs hc he;cases vs with
  |nil=>cases he;exact⟨[],rfl,.nil⟩
  |cons v vs=>cases v<;>simp[Jv]at hc
 |cons r rs ih=>
  intro vs xs hc he;simp only[RR.evL]at he;split at he
  ·rename_i x xs' e1 e2;cases he;cases vs with
   |nil=>cases r<;>simp[Jv]at hc
   |cons v vs=>
    cases v with
    |tmp t=>
     cases r with
     |tmp t'=>
      simp only[Jv,QmT,QmA]at hc;obtain⟨rfl,hc⟩:=hc;obtain⟨us,h1,h2⟩:=ih hc e2;cases e1;exact⟨_ :: us,by simp only[List.mapM_cons,Bs,Sem.run_bind,Sem.run_pure,Result.andThen_ok,h1],.cons (h.slots t) h2⟩
     |cell t' k=>simp[Jv]at hc
    |cell t ty=>
     cases r with
     |tmp t'=>simp[Jv]at hc
     |cell t' k=>
      simp only[Jv,QmT,QmA]at hc;obtain⟨⟨rfl,hk⟩,hc⟩:=hc;obtain⟨us,h1,h2⟩:=ih hc e2;obtain⟨v,h3,h4⟩:=Fa (P:=P) h (t:=t) e1 hk;refine⟨v :: us,?_,.cons h4 h2⟩;simp only[List.mapM_cons,Sem.run_bind,Sem.run_pure];have h3':(Bs a.tmps (.cell t ty)).run P w=.ok v w:=h3;rw[h3'];simp only[Result.andThen_ok,h1]
  ·cases he

theorem LS (h:Rel G B N st a w){rs:List RR}{fn:Func}{x:AV}(hc:Jv P fn.results.toList rs=true)(hx:K4 st rs=some x):∃v,(results fn a.tmps).run P w=.ok v w∧Rep G x v:=by
 have key:∀xs,RR.evL st rs=some xs→∃us,(fn.results.mapM (Bs a.tmps)).run P w=.ok ⟨us⟩ w∧RepL G xs us:=by
  intro xs he;obtain⟨us,h1,h2⟩:=PB (P:=P) h hc he;refine⟨us,?_,h2⟩;rw[Array.mapM_eq_mapM_toList];simp only[Sem.run_map,h1,Result.andThen_ok]
 have hl:∀xs (us:List Value),RR.evL st rs=some xs→RepL G xs us→us.length=rs.length:=by
  intro xs us he hr;have:∀(rs:List RR) xs,RR.evL st rs=some xs→xs.length=rs.length:=by
   intro rs
   induction rs with
   |nil=>intro xs e;cases e;rfl
   |cons r rs ih=>
    intro xs e;simp only[RR.evL]at e;split at e
    ·rename_i x xs' _ e2;cases e;simp[ih _ e2]
    ·cases e
  rw[hr.length,this rs xs he]
 unfold K4 at hx;split at hx
 ·rename_i r;have he:RR.evL st [r]=some [x]:=by simp[RR.evL,hx]
  obtain⟨us,h1,h2⟩:=key [x] he;cases h2 with
  |cons h2 h3=>
   cases h3;refine⟨_,?_,h2⟩;rw[Fb,Sem.run_bind,h1];rfl
 ·rename_i rs' hne;simp only[Qmx]at hx;obtain⟨xs,he,rfl⟩:=hx;obtain⟨us,h1,h2⟩:=key xs he;have hlen:=hl xs us he h2;refine⟨.tuple ⟨us⟩,?_,.tup h2⟩;rw[Fb,Sem.run_bind,h1];simp only[Result.andThen_ok];have:¬(⟨us⟩:Array Value).size=1:=by
   simp only[QnA,hlen];intro h1
   match rs,h1 with
   | [r],_=>exact hne r rfl
  rw[dif_neg this];rfl

end

inductive RO where
 |val (v:VO)
 |allocN (site:Nat) (z:List AV)
 |boxN (site:Nat) (x:RA)
 |store (n:Nat) (p x:RA)
 |storev (l s n:Nat) (p x:RA)
 |app (sz bytes e:Nat) (s x:RA)
 |appS (e:Nat) (s x:RA)
 |mk (site e sz bytes:Nat) (z:List AV) (l c:RA)
 |s2b (site e:Nat) (x:RA)
 |usd (x:RA)
 |ustr (e:Nat) (p n:RA)
 |bsl (sz len:Nat) (z:List AV) (ps:List (Nat×Nat×RA))
 |call (f:RA) (args:List RA)
 |callF (f:RA) (args:List RA)
 |bslv (site sz len:Nat) (z:List AV) (ps:List (Nat×Nat×RA))
 |bsl0 (site sz:Nat)
 |isnil (neg:Bool) (x:RA)
 |appc (site sz bytes e:Nat) (s x:RA)
 |callG (f:RA) (args:List RA)
 |xb (cnt:Bool) (k:Nat) (s c:RA)
 |callK (l s:Nat) (f:RA) (args:List RA)
 |callO (l s:Nat) (f:RA) (args:List RA)   -- a call that looks at one row of ours alone,and leaves all as it was
 |rngs (site:Nat) (x:RA)
 |nxts (x:RA)
 |mkm (site:Nat)
 |mput (t:Bool) (x i v:RA)
 |clr (sz:Nat) (z:List AV) (x:RA)

structure Item where
 dst:Option Nat
 op:RO
 g:Option (Nat×Bool)

def KB (sz:Nat):List (Nat×Operand)→List (Nat×Nat×RA)→Bool
 | [],[]=>true
 |(i,x) :: xs,(o,n,r) :: rs=>o==i*sz&&n==sz&&QH x r&&KB sz xs rs
 |_,_=>false

def isZ:Operand→Bool
 |.const (.int _ n)=>n==0
 |_=>false

def XJ (P:Program)(op:Op)(ro:RO):Bool :=
 match ro with
 |.val v=>XV P op v
 |.allocN s z=>match op with
  |.alloc e=>match P.info? e with
   |some i=>match i.zero with
    |some zv=>isCL zv.cells.toList z&&XY s e
    |none=>false
   |none=>false
  |_=>false
 |.boxN s r=>match op with
  |.box e x=>QH x r&&XY s e
  |_=>false
 |.store n p r=>match op with
  |.store t q x=>(P.info? t).any (fun i=>i.size==n)&&QH q p&&QH x r
  |_=>false
 |.storev _ _ n p r=>match op with
  |.store t q x=>(P.info? t).any (fun i=>i.size==n)&&QH q p&&QH x r
  |_=>false
 |.app sz bytes el s r=>match op with
  |.call { callee:=.builtin .append,args:=⟨[x,y]⟩,argTypes:=⟨[t,t']⟩ }=>t==t'&&(match P.underlying t with
   |some (.slice e)=>(P.info? e).any (fun i=>i.size==sz&&i.bytes==bytes&&(match i.zero with|some zv=>zv.cells.size==sz|none=>false))&&sz != 0&&e==el
   |_=>false)&&QH x s&&QH y r
  |_=>false
 |.appS el s r=>match op with
  |.call { callee:=.builtin .append,args:=⟨[x,y]⟩,argTypes:=⟨[t,t']⟩ }=>Yj P t'&&(match P.underlying t with
   |some (.slice e)=>(P.info? e).any (fun i=>i.size==1&&i.bytes==1&&(match i.zero with|some zv=>zv.cells.size==1|none=>false))&&e==el
   |_=>false)&&QH x s&&QH y r
  |_=>false
 |.clr sz z r=>match op with
  |.call { callee:=.builtin .clear,args:=⟨[x]⟩,argTypes:=⟨[t]⟩ }=>(match P.underlying t with
   |some (.slice e)=>(P.info? e).any (fun i=>i.size==sz&&(match i.zero with|some zv=>isCL zv.cells.toList z&&z.length==sz|none=>false))&&sz != 0&&AV.rfL z&&z.all AV.leaf
   |_=>false)&&QH x r
  |_=>false
 |.mk site el sz bytes z l c=>match op with
  |.makeSlice t x y=>(match P.underlying t with
   |some (.slice e)=>(P.info? e).any (fun i=>i.size==sz&&i.bytes==bytes&&(match i.zero with|some zv=>isCL zv.cells.toList z&&z.length==sz|none=>false))&&sz != 0&&e==el&&XY site e&&AV.rfL z&&z.all AV.leaf
   |_=>false)&&QH x l&&QH y c
  |_=>false
 |.s2b site el r=>match op with
  |.convert src dst x=>Yj P src&&(match P.underlying dst with
   |some (.slice e)=>Yi P e .u8&&e==el&&XY site e
   |_=>false)&&QH x r
  |_=>false
 |.usd r=>match op with
  |.call { callee:=.builtin .unsafeSliceData,args:=⟨[x]⟩,argTypes:=_ }=>QH x r
  |_=>false
 |.ustr el p n=>match op with
  |.call { callee:=.builtin .unsafeString,args:=⟨[x,y]⟩,argTypes:=⟨[pt,_]⟩ }=>(match P.underlying pt with
   |some (.pointer e)=>e==el&&P.cellsOf e==1
   |_=>false)&&QH x p&&QH y n
  |_=>false
 |.bsl sz len z ps=>match op with
  |.buildSlice t n Ql=>n==len&&len*sz≤16777216&&sz != 0&&len != 0&&(match P.underlying t with
   |some (.slice e)=>(P.info? e).any (fun i=>i.size==sz&&(match i.zero with|some zv=>isCL zv.cells.toList z&&z.length==sz|none=>false))
   |_=>false)&&KB sz Ql.toList ps
  |_=>false
 |.call f rs=>match op with
  |.call { callee:=.value x,args,argTypes:=_ }=>QH x f&&Kx args.toList rs
  |_=>false
 |.callF f rs=>match op with
  |.call { callee:=.value x,args,argTypes:=_ }=>QH x f&&Kx args.toList rs
  |_=>false
 |.xb cnt k s c=>match op with
  |.call { callee:=.value (.func k'),args:=⟨[x,y]⟩,argTypes:=_ }=>k==k'&&(match P.funcs[k]? with
   |some fn=>fn.name==(if cnt then "internal/bytealg.CountString" else "internal/bytealg.IndexByteString")&&fn.origin == "" && fn.body.isNone
   |none=>false)&&QH x s&&QH y c
  |_=>false
 |.callK _ _ f rs=>match op with
  |.call { callee:=.value x,args,argTypes:=_ }=>QH x f&&Kx args.toList rs
  |_=>false
 |.callO _ _ f rs=>match op with
  |.call { callee:=.value x,args,argTypes:=_ }=>QH x f&&Kx args.toList rs
  |_=>false
 |.callG f rs=>match op with
  |.call { callee:=.value x,args,argTypes:=_ }=>QH x f&&Kx args.toList rs
  |_=>false
 |.rngs _ r=>match op with
  |.range t x=>Yj P t&&QH x r
  |_=>false
 |.nxts r=>match op with
  |.next x true=>QH x r
  |_=>false
 |.mkm s=>match op with
  |.makeMap _ none=>decide (s<2000)
  |_=>false
 |.mput tx r i v=>match op with
  |.mapUpdate t x y z|.insert t x y z=>(match P.underlying t with
   |some (.map kt _)=>N3 P tx kt
   |_=>false)&&QH x r&&QH y i&&QH z v
  |_=>false
 |.bslv site sz len z ps=>match op with
  |.buildSlice t n Ql=>n==len&&len*sz≤16777216&&sz != 0&&len != 0&&(match P.underlying t with
   |some (.slice e)=>(P.info? e).any (fun i=>i.size==sz&&(match i.zero with|some zv=>isCL zv.cells.toList z&&z.length==sz|none=>false))&&XY site e
   |_=>false)&&KB sz Ql.toList ps
  |_=>false
 |.appc site sz bytes el s r=>match op with
  |.call { callee:=.builtin .append,args:=⟨[x,y]⟩,argTypes:=⟨[t,t']⟩ }=>t==t'&&(match P.underlying t with
   |some (.slice e)=>(P.info? e).any (fun i=>i.size==sz&&i.bytes==bytes&&(match i.zero with|some zv=>zv.cells.size==sz|none=>false))&&sz != 0&&e==el&&XY site e
   |_=>false)&&QH x s&&QH y r
  |_=>false
 |.isnil neg r=>match op with
  |.binOp b t x y _=>(match P.underlying t with
   |some (.slice _)=>true
   |_=>false)&&b==(bif neg then .neq else .eql)&&QH x r&&QH y (.c .nils)
  |_=>false
 |.bsl0 site sz=>match op with
  |.buildSlice t n Ql=>n==0&&Ql.isEmpty&&(match P.underlying t with
   |some (.slice e)=>(P.info? e).any (fun i=>i.size==sz)&&XY site e
   |_=>false)
  |_=>false

def PC (P:Program)(t:TypeId)(ro:RO):Bool :=
 match ro with
 |.usd _=>match P.underlying t with
  |some (.pointer _)=>true
  |_=>false
 |_=>true

def PD (P:Program)(o:Oper)(ro:RO):Bool:=XJ P o.op ro&&PC P o.type ro

def HI (P:Program)(N:Nat)(ops:Array Oper)(o:Oper)(it:Item):Bool :=
 o.dst==it.dst&&(match o.dst with|some d=>decide (d<N)|none=>true)&&(match o.guard,it.g with
  |none,none=>true
  |some (j,want),some (dj,want')=>(ops[j]?).bind (·.dst)==some dj&&want==want'
  |_,_=>false)&&PD P o it.op

def Zw (P:Program)(N:Nat)(ops:Array Oper):List Oper→List Item→Bool
 | [],[]=>true
 |o :: os,it :: its=>HI P N ops o it&&Zw P N ops os its
 |_,_=>false

def Qu (P:Program)(N:Nat)(its:List Item)(st:St)(Q:St→Prop):Prop :=
 ∀(ops:Array Oper) (l:List Oper),Zw P N ops l its=true→∀(G:Gh) (B:Nat) (a:Act) (w:World),Rel G B N st a w→
  ∀(QQ:Exit→Act→World→Prop),(∀G' st' a' w',Q st'→Rel G' B N st' a' w'→Ext 1 G w G' w'→QQ .normal a' w')→wpList P ops QQ l a w

section
variable {P:Program}{N:Nat}{st:St}{Q:St→Prop}

theorem Qu.nil (h:Q st):Qu P N [] st Q:=by
 intro ops l hc G B a w hr QQ hq;cases l with
 |nil=>exact hq G st a w h hr (Ext.refl 1 G w)
 |cons o l=>simp[Zw]at hc

theorem Qu.stepT {it:Item}{its:List Item}(hg:it.g=none)
  (h:∀(G:Gh) (B:Nat) (a:Act) (w:World) (o:Oper),Rel G B N st a w→o.dst=it.dst→(∀d,it.dst=some d→d<N)→XJ P o.op it.op=true→PC P o.type it.op=true→
   ∀(K:Act→World→Prop) (QQ:Exit→Act→World→Prop),(∀G' st' a' w',Qu P N its st' Q→Rel G' B N st' a' w'→Ext 1 G w G' w'→K a' w')→o.wp P a w K QQ):Qu P N (it :: its) st Q:=by
 intro ops l hc G B a w hr QQ hq;cases l with
 |nil=>simp[Zw]at hc
 |cons o l=>
  simp only[Zw,HI,QmT,QmA]at hc;obtain⟨⟨⟨⟨h1,h2⟩,h3⟩,h4⟩,h5⟩:=hc;have h4:(XJ P o.op it.op&&PC P o.type it.op)=true:=h4;rw[QmT]at h4;have hgd:o.guard=none:=by
   rw[hg]at h3;cases hog:o.guard with
   |none=>rfl
   |some p=>rw[hog]at h3;simp at h3
  refine wpList_plain hgd fun K hK=>?_
  refine h G B a w o hr h1 (fun d e=>?_) h4.1 h4.2 K QQ fun G' st' a' w' ha hr' he=>hK _ _ ?_
  ·rw[h1,e]at h2
   simpa using h2
  ·exact ha ops l h5 G' B a' w' hr' QQ fun G2 st2 a2 w2 hq2 hr2 he2=>hq G2 st2 a2 w2 hq2 hr2 (he.trans he2)

theorem Qu.step {it:Item}{its:List Item}(hg:it.g=none)
  (h:∀(G:Gh) (B:Nat) (a:Act) (w:World) (o:Oper),Rel G B N st a w→o.dst=it.dst→(∀d,it.dst=some d→d<N)→XJ P o.op it.op=true→
   ∀(K:Act→World→Prop) (QQ:Exit→Act→World→Prop),(∀G' st' a' w',Qu P N its st' Q→Rel G' B N st' a' w'→Ext 1 G w G' w'→K a' w')→o.wp P a w K QQ):Qu P N (it :: its) st Q :=
 Qu.stepT hg fun G B a w o hr hd hdN hc _=>h G B a w o hr hd hdN hc

theorem Qu.same {d:Option Nat}{ro ro':RO}{g:Option (Nat×Bool)}{its:List Item}(h:∀o,PD P o ro'=PD P o ro)(k:Qu P N (⟨d,ro,g⟩ :: its) st Q):Qu P N (⟨d,ro',g⟩ :: its) st Q:=by
 intro ops l hc;refine k ops l ?_;cases l with
 |nil=>exact hc
 |cons o l=>simpa only [Zw,HI,h]using hc

theorem Qu.val {d:Option Nat}{vo:VO}{its:List Item}{x:AV}(hx:Qx st.f st.m vo=some x)(h:Qu P N its { st with f:=Qj st.f d x } Q):Qu P N (⟨d,.val vo,none⟩ :: its) st Q:=by
 refine Qu.step rfl fun G B a w o hr hd hdN hc K QQ hK=>?_
 obtain⟨v,hrun,hv⟩:=QbU (P:=P) hr hx (o:=o) hc;unfold Oper.wp;rw[hrun];have hd':o.dst=d:=hd;show K (a.put o.dst v) w;rw[hd'];exact hK G _ _ w h (hr.put hdN hv) (Ext.refl 1 G w)

theorem Qu.yes {d:Option Nat}{ro:RO}{j:Nat}{want:Bool}{its:List Item}(hj:st.f j=.bool want)(h:Qu P N (⟨d,ro,none⟩ :: its) st Q):Qu P N (⟨d,ro,some (j,want)⟩ :: its) st Q:=by
 intro ops l hc G B a w hr QQ hq;cases l with
 |nil=>simp[Zw]at hc
 |cons o l=>
  simp only[Zw,HI,QmT,QmA]at hc;obtain⟨⟨⟨⟨h1,h2⟩,h3⟩,h4⟩,h5⟩:=hc
  -- the same operation without its guard
  have hno:=h ops ({ o with guard:=none } :: l) (by simp only[Zw,HI,QmT,QmA];exact⟨⟨⟨⟨h1,h2⟩,trivial⟩,h4⟩,h5⟩) G B a w hr QQ hq;have hw:Region.wanted o (yielded ops a.tmps)=true:=by
   cases hog:o.guard with
   |none=>simp[Region.wanted,hog]
   |some p=>
    obtain⟨i,wt⟩:=p;rw[hog]at h3;simp only[QmT,QmA]at h3;obtain⟨h6,rfl⟩:=h3;have hs:=hr.slots j;rw[hj]at hs;have hv:a.tmps[j]? = some (.bool wt):=by
     have hs':a.tmps.getD j undef=.bool wt:=by
      revert hs
      generalize a.tmps.getD j undef=v;intro hs;cases hs;rfl
     simp only[QmF]at hs';cases hjj:a.tmps[j]? with
     |none=>rw[hjj]at hs';simp[undef]at hs'
     |some v=>rw[hjj]at hs';simp at hs';rw[hs']
    simp only[Region.wanted,hog,yielded,h6,Option.bind_some,hv,QnG]
  unfold wpList at hno ⊢;rw[QmD hw];rw[QmD (by simp[Region.wanted])]at hno;have hexec:execOp a.eval { o with guard:=none }=execOp a.eval o:=by
   unfold execOp;rfl
  rcases hno with hno|⟨hno,ho⟩
  ·left
   unfold Oper.wp at hno ⊢;rw[hexec]at hno;exact hno
  ·right
   refine⟨?_,ho⟩;unfold Oper.asks at hno ⊢;rw[hexec]at hno;exact hno

theorem Qu.no {d:Option Nat}{ro:RO}{j:Nat}{want:Bool}{its:List Item}(hj:st.f j=.bool (!want)∨st.f j=.tup [])(h:Qu P N its { st with f:=Qj st.f d (.tup []) } Q):Qu P N (⟨d,ro,some (j,want)⟩ :: its) st Q:=by
 intro ops l hc G B a w hr QQ hq;cases l with
 |nil=>simp[Zw]at hc
 |cons o l=>
  simp only[Zw,HI,QmT,QmA]at hc;obtain⟨⟨⟨⟨h1,h2⟩,h3⟩,h4⟩,h5⟩:=hc;have hw:Region.wanted o (yielded ops a.tmps)=false:=by
   cases hog:o.guard with
   |none=>rw[hog]at h3;simp at h3
   |some p=>
    obtain⟨i,wt⟩:=p;rw[hog]at h3;simp only[QmT,QmA]at h3;obtain⟨h6,rfl⟩:=h3;have hs:=hr.slots j;have hv:a.tmps[j]? = some (.bool (!wt))∨a.tmps[j]? = none∨a.tmps[j]? = some (.tuple #[]):=by
     simp only[QmF]at hs;cases hjj:a.tmps[j]? with
     |none=>exact .inr (.inl rfl)
     |some v=>
      rw[hjj]at hs;simp only[QnH]at hs;rcases hj with hj|hj<;>rw[hj]at hs
      ·cases hs;exact .inl rfl
      ·cases hs with
       |tup hs=>cases hs;exact .inr (.inr rfl)
    simp only[Region.wanted,hog,yielded,h6,Option.bind_some];rcases hv with hv|hv|hv<;>rw[hv]<;>cases wt<;>rfl
  unfold wpList;rw[QmC (by rw[hw];simp)];have hd':o.dst=d:=h1;rw[hd'];have hdN:∀k,d=some k→k<N:=fun k e=>by
   rw[h1,e]at h2
   simpa using h2
  have:=h ops l h5 G B _ w (hr.put hdN (v:=undef) (.tup .nil)) QQ hq;exact this

end

def Jd (e:AV)(o:Nat)(ys:List AV):AV :=
 match e with
 |.agg l=>.agg (splice l o ys)
 |_=>match ys with
  |y :: _=>y
  | []=>e

def Xa (m:Qh)(p:AV)(ys:List AV):Option Qh :=
 match p with
 |.ptr l s o=>match Qc m l s with
  |.cells xs=>if o+ys.length≤xs.length then match AV.unNL l ys with
    |some zs=>some (Am.put m l s (.cells (splice xs o zs)))
    |none=>none
   else none
  |_=>none
 |.vptr l s g i o=>match Qc m l s with
  |.vec g' sz xs=>if g=g' then match xs[i]? with
    |some e=>if o+ys.length≤e.cells.length∧ys.length≠0∧AV.rfL ys=true then some (Am.put m l s (.vec g' sz (xs.set i (Jd e o ys))))else none
    |none=>none
   else none
  |_=>none
 |_=>none

theorem NR {e:AV}(he:e.cells.all AV.leaf=true){o:Nat}{ys:List AV}(h:o+ys.length≤e.cells.length)(hl:ys.all AV.leaf=true)(h0:ys.length≠0):(Jd e o ys).cells=splice e.cells o ys:=by
 have key:∀x:AV,x.cells=[x]→x=e→(match ys with|y :: _=>y | []=>e).cells=splice e.cells o ys:=by
  intro x hx hxe;subst hxe;rw[hx]at h ⊢;simp only[QmK,Qnr]at h;obtain⟨y,rfl⟩:∃y,ys=[y]:=by
   match ys,h0,h with
   | [y],_,_=>exact⟨y,rfl⟩
   | [],h0,_=>exact absurd rfl h0
   |_ :: _ :: _,_,h=>simp at h;omega
  have ho:o=0:=by simp at h;omega
  subst ho;simp only[QnI,QnJ,QnK]at hl;simp only[splice,QnF,QmS,QmK,Qnr,Qm7,QnL,Qnz];cases y<;>first|rfl|(simp[AV.leaf]at hl)
 cases e with
 |agg l=>rfl
 |_=>exact key _ rfl rfl

theorem Vc {sz:Nat}:∀ {xs:List AV} (_:∀x∈xs,x.cells.length=sz) (i:Nat) (e:AV),e.cells.length=sz→i<xs.length→QK (xs.set i e)=(QK xs).take (i*sz)++e.cells++(QK xs).drop (i*sz+sz)
 | [],_,i,e,_,h=>by simp at h
 |x :: xs,hz,i,e,he,h=>by
  have hx:=hz x (QmN ..);cases i with
  |zero=>
   rw[List.set_cons_zero,XQ,XQ,Nat.zero_mul,QnF,QmS,QmU,List.drop_append,hx];simp[Qm8 (Qnf hx)]
  |succ i=>
   have ih:=Vc (fun y hy=>hz y (QmL _ hy)) i e he (by simpa using h);rw[List.set_cons_succ,XQ,ih,XQ,Qm6,Nat.one_mul,List.take_append,List.drop_append,hx];rw[Qm5 (l:=x.cells) (by rw[hx];omega),Qm8 (l:=x.cells) (by rw[hx];omega)];rw[show i*sz+sz-sz=i*sz by omega,show i*sz+sz+sz-sz=i*sz+sz by omega];simp

theorem G6 {α:Type}(l us:List α)(k n:Nat)(h:k+us.length≤n)(hn:n≤l.length):(l.take k++us++l.drop (k+us.length)).take n=(l.take n).take k++us++(l.take n).drop (k+us.length):=by
 have e:(l.take k++us).length=k+us.length:=by simp;omega
 rw[List.take_append,e,Qm5 (l:=l.take k++us) (by omega),List.take_take,QnM (by omega),List.drop_take]

theorem MR.rowset {G:Gh}{m:Qh}{w w':World}(h:MR G m w){l s g sz b:Nat}{xs ys:List AV}(hx:Qc m l s=.vec g sz xs)(hb:G.vm l s=some b)(ht:Turned b w w')(hel:Elems sz ys)(hr:RowIs G s w' b (G.vc l s) sz ys) :
  MR G (Am.put m l s (.vec g sz ys)) w' where
 stab k o v e:=by
  have hk:k≠b:=by rintro rfl;rw[(h.vm l s k hb).2 o]at e;cases e
  exact JO (ht.heap k hk) (h.stab k o v e)
 cells l' s' zs e:=by
  by_cases hh:l'=l∧s'=s
  ·obtain⟨rfl,rfl⟩:=hh;rw[Qo (Q8 (by rw[hx];simp))]at e;cases e
  ·rw[QA (by omega)]at e;obtain⟨b',cs',e',hc,hr⟩:=h.cells l' s' zs e;exact⟨b',cs',e',hc.of (ht.heap b' (fun eb=>by subst eb;exact h.inj3 _ _ _ _ _ e' hb)),hr⟩
 nm l' s' b' e:=by
  obtain⟨hz,h2⟩:=h.nm l' s' b' e;refine⟨?_,h2⟩;by_cases hh:l'=l∧s'=s
  ·obtain⟨rfl,rfl⟩:=hh;rw[hx]at hz;cases hz
  ·rw[QA (by omega)];exact hz
 vec l' s' g' sz' zs e:=by
  by_cases hh:l'=l∧s'=s
  ·obtain⟨rfl,rfl⟩:=hh;rw[Qo (Q8 (by rw[hx];simp))]at e;cases e;obtain⟨a1,a2,a3,a4⟩:=h.vec l' s' g sz xs hx;exact⟨a1,a2,hel,.inr ⟨b,hb,hr⟩⟩
  ·rw[QA (by omega)]at e;obtain⟨a1,a2,a3,a4⟩:=h.vec l' s' g' sz' zs e;refine⟨a1,a2,a3,a4.imp id fun⟨b',e',r⟩=>⟨b',e',r.of (ht.heap b' ?_) fun _ h=>h⟩⟩;rintro rfl;exact hh (h.inj2 _ _ _ _ _ e' hb)
 vm l' s' b' e:=by
  obtain⟨⟨g',sz',zs,hz⟩,h2⟩:=h.vm l' s' b' e;refine⟨?_,h2⟩;by_cases hh:l'=l∧s'=s
  ·obtain⟨rfl,rfl⟩:=hh;exact⟨g,sz,ys,Qo (Q8 (by rw[hx];simp))⟩
  ·exact⟨g',sz',zs,by rw[QA (by omega)];exact hz⟩
 gone l' s' e:=by
  by_cases hh:l'=l∧s'=s
  ·obtain⟨rfl,rfl⟩:=hh;rw[Qo (Q8 (by rw[hx];simp))]at e;cases e
  ·rw[QA (by omega)]at e;exact h.gone l' s' e
 inj1:=h.inj1
 inj2:=h.inj2
 inj3:=h.inj3
 iter l' s' t p e:=by
  by_cases hh:l'=l∧s'=s
  ·obtain⟨rfl,rfl⟩:=hh;rw[Qo (Q8 (by rw[hx];simp))]at e;cases e
  ·rw[QA (by omega)]at e;obtain⟨b',e',hc⟩:=h.iter l' s' t p e;exact⟨b',e',(ht.heap b' (fun eb=>by subst eb;exact h.inj3 _ _ _ _ _ e' hb)).trans hc⟩

section
variable {P:Program}{N:Nat}{st:St}{Q:St→Prop}

theorem Vd {xs:List AV}(h:(QK xs).all AV.leaf=true){e:AV}(he:e∈xs):e.cells.all AV.leaf=true :=
 XZ h fun _ hx=>Qnh.2 ⟨e,he,hx⟩

theorem G7 {t:TypeId}{i:TypeInfo}(hi:P.info? t=some i){b o:Nat}{v:Value}{w:World}(hs:v.cells.size=i.size):(Instr.storeAt t (.pointer (some ⟨b,o,none⟩)) v).run P w=(storeCells ⟨b,o,none⟩ v.cells.toList).run P w:=by
 simp only[Instr.storeAt,Instr.sureAddr,Sem.run_bind,Sem.run_pure,Result.andThen_ok,storeVar,Xx hi];rw[QmC (by omega)]

theorem Qu.store {d:Option Nat}{n:Nat}{p r:RA}{its:List Item}{m':Qh}(hn:(r.ev st.f).cells.length=n)(hl:(r.ev st.f).cells.all AV.leaf=true)(hm:Xa st.m (p.ev st.f) (r.ev st.f).cells=some m')
  (h:Qu P N its { st with m:=m',f:=Qj st.f d (.tup []) } Q):Qu P N (⟨d,.store n p r,none⟩ :: its) st Q:=by
 refine Qu.step rfl fun G B a w o hr hd hdN hc K QQ hK=>?_
 cases ho:o.op<;>rw[ho]at hc<;>simp only[XJ,QmO,QmT,Qnv,QmA]at hc;rename_i t q x;obtain⟨⟨⟨i,hi,hin⟩,hcp⟩,hcr⟩:=hc;have rp:=Qs hr hcp;have rx:=(Qs hr hcr).cells hl;have hsz:(a.eval x).cells.size=i.size:=by
  have:=rx.length;simp only[Qm1]at this;omega
 have h1:∀u∈(a.eval x).cells.toList,u.oneCell'=true:=rx.leaves hl;have fin:∀w',(Instr.storeAt t (a.eval q) (a.eval x)).run P w=.ok () w'→(∃G',Rel G' B N { st with m:=m' } a w'∧Ext 1 G w G' w')→o.wp P a w K QQ:=by
  intro w' hrun ⟨G',hr',he⟩;have hexec:(execOp a.eval o).run P w=.ok .skip w':=by
   simp only[execOp,ho,Sem.run_bind,hrun,Result.andThen_ok,Sem.run_pure]
  unfold Oper.wp;rw[hexec];have hd':o.dst=d:=hd;show K (a.put o.dst undef) w';rw[hd'];exact hK G' _ _ w' h (hr'.put hdN (v:=undef) (.tup .nil)) he
 generalize hp:p.ev st.f=pv at rp hm;cases pv with
 |ptr l s off=>
  simp only[Xa]at hm;split at hm
  ·rename_i xs hlk;split at hm
   ·rename_i hfit;split at hm
    ·rename_i zs hzs;cases hm;generalize hq:a.eval q=qv at rp fin;cases rp with
     |ptr hb=>
      obtain⟨b,cs,hb',hsoft,hrep⟩:=hr.mr.cells l s xs hlk;rw[hb]at hb';cases hb';have hlen:=rx.length;have hxl:=hrep.length;simp only[Qm1]at hlen hxl;obtain⟨w',hst,hs',htn⟩:=Zn P _ _ off (a.eval x).cells.toList 0 w cs hsoft (by simp only[Qm1];omega) h1;refine fin w' (by rw[G7 hi hsz];exact hst) ⟨G,⟨?_,hr.size,hr.slots,hr.ds,hr.base,by rw[htn.size];exact hr.top,Ko hr.ne⟩,Ext.turned htn (.inl ⟨l,s,hb⟩)⟩;refine hr.mr.stored hlk hb htn hs' ?_;have:=hrep.splice (rx.unNL l hzs) off
      simpa using this
    ·cases hm
   ·cases hm
  ·cases hm
 |vptr l s g i' off=>
  simp only[Xa]at hm;split at hm
  ·rename_i g' sz xs hlk;split at hm
   ·rename_i hgg;subst hgg;split at hm
    ·rename_i e he;split at hm
     ·rename_i hfit;obtain⟨hfit,hne0,hrf⟩:=hfit;cases hm;generalize hq:a.eval q=qv at rp fin;cases rp with
      |vptr hv hg hh=>
       obtain⟨e1,e2,e3,e4⟩:=hr.mr.vec l s g sz xs hlk;obtain⟨b,hb,rfl⟩:=hh e1.symm;rcases e4 with⟨e4,_⟩|⟨b',e4,hrow⟩
       ·rw[hb]at e4;cases e4
       ·rw[hb]at e4;cases e4;obtain⟨⟨cur,hsoft,hcs,hrep⟩,hle,hmax⟩:=hrow;have hlen:=rx.length;simp only[Qm1]at hlen;have hilt:=(Qmu.1 he).1;have hmem:=QmJ he;have hesz:=e3.size e hmem;have hbig:i'*sz+sz≤xs.length*sz:=by
         have:(i'+1)*sz≤xs.length*sz:=QnC _ hilt
         rwa [Qm6,Nat.one_mul]at this
        have hbig2:xs.length*sz≤cur.size:=by rw[hcs];exact QnC _ hle
        obtain⟨w',hst,hs',htn⟩:=Zn P _ b (i'*sz+off) (a.eval x).cells.toList 0 w cur hsoft (by simp only[Qm1];omega) h1;have hel':e.cells.all AV.leaf=true:=Vd e3.leaf hmem;have hnc:=NR hel' hfit hl hne0;have hncl:(Jd e off (r.ev st.f).cells).cells.length=sz:=by rw[hnc,Hs hfit,hesz]
        have hfl:=Vc e3.size i' (Jd e off (r.ev st.f).cells) hncl hilt;have hflx:=Kp e3.size;have hsub:((QK xs).drop (i'*sz)).take sz=e.cells:=by
         rw[ZZ e3.size];have h2:xs.drop i'=e :: xs.drop (i'+1):=by
          rw[Qne hilt];congr 1
          exact(Qmu.1 he).2
         rw[h2,XQ,List.take_append,hesz];simp[Qm5 (Qnf hesz)]
        have hfl2:QK (xs.set i' (Jd e off (r.ev st.f).cells))=splice (QK xs) (i'*sz+off) (r.ev st.f).cells:=by
         rw[hfl,hnc];simp only[splice];rw[←hsub];simp only[QmQ,List.take_take,List.drop_take,Qm0];rw[List.take_add (i:=i'*sz) (j:=off)];simp only[QmQ];congr 1
         rw[QnM (by omega)];congr 2
         have e5:(QK xs).drop (i'*sz+off+(r.ev st.f).cells.length)=(((QK xs).drop (i'*sz+(off+(r.ev st.f).cells.length))).take (sz-(off+(r.ev st.f).cells.length)))++(QK xs).drop (i'*sz+sz):=by
          have:=QnN (sz-(off+(r.ev st.f).cells.length)) ((QK xs).drop (i'*sz+(off+(r.ev st.f).cells.length)));rw[Qm0]at this;rw[show i'*sz+(off+(r.ev st.f).cells.length)+(sz-(off+(r.ev st.f).cells.length))=i'*sz+sz by omega]at this;rw[this,Qmr]
         rw[e5]
        have hels:Elems sz (xs.set i' (Jd e off (r.ev st.f).cells)):=by
         refine⟨fun y hy=>?_,?_,?_⟩
         ·rcases List.mem_or_eq_of_mem_set hy with hy|rfl
          ·exact e3.size y hy
          ·exact hncl
         ·rw[hfl2];simp only[splice,J4,QmT];exact⟨⟨ZX e3.rf fun y hy=>Qnj hy,hrf⟩,ZX e3.rf fun y hy=>Qni hy⟩
         ·rw[hfl2];simp only[splice,QnO,QmT];exact⟨⟨XZ e3.leaf fun y hy=>Qnj hy,hl⟩,XZ e3.leaf fun y hy=>Qni hy⟩
        refine fin w' (by rw[G7 hi hsz,e2];exact hst) ⟨G,⟨?_,hr.size,hr.slots,hr.ds,hr.base,by rw[htn.size];exact hr.top,Ko hr.ne⟩,Ext.turned htn (.inr ⟨l,s,hb⟩)⟩;refine hr.mr.rowset hlk hb htn hels ⟨⟨_,hs',?_,?_⟩,by simpa using hle,hmax⟩
        ·simp only[QnA,Qm9,Qns,Qnc,Qm1];omega
        ·rw[hfl2,List.length_set];have h5:=hrep.splice rx (i'*sz+off);have h6:(cur.toList.take (i'*sz+off+0)++(a.eval x).cells.toList++cur.toList.drop (i'*sz+off+0+(a.eval x).cells.toList.length)).toArray.toList.take (xs.length*sz)=(cur.toList.take (xs.length*sz)).take (i'*sz+off)++(a.eval x).cells.toList++(cur.toList.take (xs.length*sz)).drop (i'*sz+off+(a.eval x).cells.toList.length):=by
          simp only[Qm2];exact G6 _ _ _ _ (by simp only[Qm1];omega) (by simp only[Qm1];omega)
         rw[h6];exact h5
     ·cases hm
    ·cases hm
   ·cases hm
  ·cases hm
 |_=>simp[Xa]at hm

end

theorem AV.unNL_zero (l:List AV):AV.unNL 0 l=some l:=rfl

section
variable {P:Program}{N:Nat}{st:St}{Q:St→Prop}

theorem Ve {G:Gh}{B:Nat}{a:Act}{w:World}(hr:Rel G B N st a w){t tx ty e:TypeId}{i:TypeInfo}{zv:Value}(hu:P.underlying t=some (.slice e))(hi:P.info? e=some i)(hzv:i.zero=some zv)(hz:zv.cells.size=i.size)
  {l site g n:Nat} {xs ys:List AV} {v:Value} (rs:Rep G (.vec l site g 0 n false) v) (hlk:Qc st.m l site=.vec g i.size xs) (hn:n≤xs.length) (hte:XY site e=true)
  {y:Value} {cs:List Value} (hsrc:Src P i.size tx y ys.length cs w) (hrep:RepL G (QK ys) cs) (hel:Elems i.size ys) (hmax:n+ys.length≤maxLen) (hb:(n+ys.length)*i.bytes≤140737488355328) :
  ∃v' w' G',(Builtin.append_ #[t,tx] ty #[v,y]).run P w=.ok v' w'∧Rel G' B N { st with m:=Am.put st.m l site (.vec (g+1) i.size (xs.take n++ys)) } a w'∧Ext 1 G w G' w'∧Rep G' (.vec l site (g+1) 0 (n+ys.length) false) v':=by
 obtain⟨e1,e2,e3,e4⟩:=hr.mr.vec l site g i.size xs hlk;have hels:Elems i.size (xs.take n++ys):=by
  refine⟨fun u hu=>?_,?_,?_⟩
  ·rcases QnP.1 hu with hu|hu
   ·exact e3.size u (Qnj hu)
   ·exact hel.size u hu
  ·rw[ZI,J4,QmT];exact⟨ZX e3.rf (Z7 fun u hu=>Qnj hu),hel.rf⟩
  ·rw[ZI,QnO,QmT];exact⟨XZ e3.leaf (Z7 fun u hu=>Qnj hu),hel.leaf⟩
 have hlm:l<st.m.length:=Q8 (by rw[hlk];simp);have hro:Qn (Qc st.m l site)=true:=by rw[hlk];rfl
 have hgl:G.vg l site<g+1:=by omega
 have hlen:(xs.take n++ys).length=n+ys.length:=by simp;omega
 -- what the slice value is
 have hv:((∃A,v=.slice A 0 0∧(2000≤site→A=none))∧n=0∧G.vm l site=none∧([]:List Value)=[])∨∃b cur,v=.slice (some ⟨b,0,none⟩) n (G.vc l site)∧G.vm l site=some b∧XH site w b cur∧cur.size=G.vc l site*i.size∧n≤G.vc l site∧G.vc l site≤maxLen∧RepL G (QK (xs.take n)) (cur.toList.take (n*i.size)):=by
  cases rs with
  |vec hone' hg hh=>
   rcases hh e1.symm with⟨hvm,_,rfl,A0,rfl,hA0⟩|⟨b,A',c',hvm,hok,rfl,hkc,hcm,hq,hA⟩
   ·exact .inl ⟨⟨A0,rfl,hA0⟩,rfl,hvm,rfl⟩
   ·right
    rcases e4 with⟨e,_⟩|⟨b',e,hrow⟩
    ·rw[hvm]at e;cases e
    ·rw[hvm]at e;cases e;obtain⟨⟨cur,hsoft,hcsz,hrepx⟩,hle,hmx⟩:=hrow;have hA':=hA ⟨.inr rfl,.inl rfl⟩;have hc':=hq rfl;simp only[Nat.zero_mul,Qnu]at hA' hc';subst hA' hc';refine⟨b,cur,rfl,hvm,hsoft,hcsz,hkc,hmx,?_⟩;have:=hrepx.take (n*i.size);rw[Jm e3.size,List.take_take,QnM (QnC _ hn)]at this;exact this
 have hrunv:∃vs:List Value,RepL G (QK (xs.take n)) vs∧vs.length=n*i.size∧(((∃A,v=.slice A 0 0)∧G.vm l site=none∧n=0∧vs=[])∨∃b cur,v=.slice (some ⟨b,0,none⟩) n (G.vc l site)∧G.vm l site=some b∧XH site w b cur∧cur.size=G.vc l site*i.size∧n≤G.vc l site∧G.vc l site≤maxLen∧cur.toList.take (n*i.size)=vs):=by
  rcases hv with⟨⟨A0,rfl,_⟩,rfl,hvm,_⟩|⟨b,cur,rfl,hvm,h1,h2,h3,h4,h5⟩
  ·exact⟨[],by simp[QK];exact .nil,by simp,.inl ⟨⟨A0,rfl⟩,hvm,rfl,rfl⟩⟩
  ·refine⟨_,h5,?_,.inr ⟨b,cur,rfl,hvm,h1,h2,h3,h4,rfl⟩⟩;simp only[Qns,Qm1,h2];exact QnM (QnC _ h3)
 obtain⟨vs,hvs,hvl,hvv⟩:=hrunv;obtain⟨v',w',hrun,hos,htp,hout,hsize,hkeep,hres⟩:=D9 (P:=P) (w:=w) (ty:=ty) hte hu hi hzv hz hvv hvl hsrc hmax hb;have hkeep':∀k,k<w.heap.size→some k≠G.vm l site→w'.heap[k]? = w.heap[k]?:=fun k hk hne=>hkeep k hk fun e=>hne e.symm
 rcases hres with⟨rfl,hvv',hm0,rfl⟩|⟨b',cap',cur',rfl,hb',hsoft',hcs',hncap,hcm',htake⟩
 ·have hn0:n=0∧G.vm l site=none∧∃A,v'=.slice A 0 0∧(2000≤site→A=none):=by
   rcases hv with⟨h0,h1,h2,_⟩|⟨b,cur,e,e',_⟩
   ·exact⟨h1,h2,h0⟩
   ·rw[hvv']at e';cases e'
  have hys:ys=[]:=QnB hm0;obtain⟨rfl,hvn,A0,rfl,hA0⟩:=hn0;subst hys;obtain⟨hr',he⟩:=hr.vecput (w':=w') (cap:=0) (b:=none) hlm hro hgl rfl rfl rfl (Qms _) (fun _ _ _=>rfl) (fun k e=>by cases e) hels (.inl ⟨rfl,by simp⟩);exact⟨_,_,_,hrun,hr',he,.vec rfl (Qnf (by simp[Gh.row])) fun _=>.inl ⟨by simp[Gh.row],rfl,by simp,A0,rfl,hA0⟩⟩
 ·obtain⟨hr',he⟩:=hr.vecput (w':=w') (cap:=cap') (b:=some b') hlm hro hgl hos htp hout hsize hkeep' (fun k e=>by cases e;exact hb') hels (.inr ⟨b',rfl,⟨cur',hsoft',hcs',by rw[hlen,htake,ZI];exact hvs.append hrep⟩,by rw[hlen];exact hncap,hcm'⟩);exact⟨_,_,_,hrun,hr',he,.vec rfl (Qnf (by simp[Gh.row])) fun _=>.inr ⟨b',⟨b',0,none⟩,cap',by simp[Gh.row],by simp[Gh.row];exact hncap,rfl,hncap,hcm',fun _=>by simp[Gh.row],fun _=>by simp⟩⟩

theorem Qu.app {d:Option Nat}{sz bytes el:Nat}{s r:RA}{its:List Item}{l site g n:Nat}{xs ys:List AV}(hs:s.ev st.f=.vec l site g 0 n false)(hlk:Qc st.m l site=.vec g sz xs)(hte:XY site el=true)(hn:n≤xs.length)
  (hy:QY st.m (r.ev st.f)=some ys) (hsz:ys.all (fun e=>e.cells.length==sz)=true) (hmax:n+ys.length≤maxLen) (hb:(n+ys.length)*bytes≤140737488355328)
  (h:Qu P N its { st with m:=Am.put st.m l site (.vec (g+1) sz (xs.take n++ys)),f:=Qj st.f d (.vec l site (g+1) 0 (n+ys.length) false) } Q):Qu P N (⟨d,.app sz bytes el s r,none⟩ :: its) st Q:=by
 refine Qu.step rfl fun G B a w o hr hd hdN hc K QQ hK=>?_
 cases ho:o.op<;>rw[ho]at hc<;>simp only[XJ,QmO]at hc;rename_i cl;split at hc
 case h_2=>cases hc
 rename_i o1 x y t t' o2;cases o2;simp only[QmT,QmA]at hc;obtain⟨⟨⟨rfl,hty⟩,hcs⟩,hcr⟩:=hc;cases hu:P.underlying t with
 |none=>simp[hu]at hty
 |some dd=>
  cases dd with
  |slice e=>
   simp only[hu,QmT,Qnv,QmY,QmA]at hty;obtain⟨⟨⟨i,hi,⟨rfl,rfl⟩,hz⟩,hsz0⟩,rfl⟩:=hty;cases hzv:i.zero with
   |none=>rw[hzv]at hz;cases hz
   |some zv=>
    rw[hzv]at hz;simp only[QmA]at hz;have rs:=Qs hr hcs;rw[hs]at rs;obtain⟨A,c,hyv,sz',cs,hrep,hel,hcell⟩:=K3 hr hy (Qs hr hcr);have hall:∀u∈ys,u.cells.length=i.size:=fun u hu=>by simpa using QmI.1 hsz u hu
    have hel':Elems i.size ys:=⟨hall,hel.rf,hel.leaf⟩;have hcl:cs.length=ys.length*i.size:=by rw[hrep.length,Kp hall]
    have hone:∀u∈cs,u.oneCell'=true:=hrep.leaves hel.leaf;have hsrc:Src P i.size t (.slice A ys.length c) ys.length cs w:=by
     cases cs with
     |nil=>
      have h0:ys.length=0:=by
       rcases Nat.mul_eq_zero.1 (by simpa using hcl.symm)with h0|h0
       ·exact h0
       ·exact absurd h0 hsz0
      rw[h0];cases A with
      |none=>exact Src.ofNil (w:=w) hu c
      |some ad=>exact Src.ofSlice (w:=w) hu ad 0 c [] (by simp) (fun j u h=>by cases h) (fun u h=>by cases h)
     |cons u0 us=>
      obtain⟨b,o',rfl,_⟩:=hcell 0 u0 rfl;refine Src.ofSlice (w:=w) hu ⟨b,o',none⟩ ys.length c (u0 :: us) hcl (fun j u hj=>?_) hone;obtain⟨b',o'',e,hcc⟩:=hcell j u hj;cases e;rw[XC];exact hcc
    obtain⟨v',w',G',hrun,hr',he,hv'⟩:=Ve (ty:=o.type) hr hu hi hzv hz rs hlk hn hte hsrc hrep hel' hmax hb;have hexec:(execOp a.eval o).run P w=.ok (.value v') w':=by
     simp only[execOp,ho,resolve,invoke,builtin,Sem.run_bind,Sem.run_pure,Result.andThen_ok,Qnw,Qm3,Qnx,hyv,hrun]
    unfold Oper.wp;rw[hexec];have hd':o.dst=d:=hd;show K (a.put o.dst v') w';rw[hd'];exact hK _ _ _ _ h (hr'.put hdN hv') he
  |_=>simp[hu]at hty

def Qr (s:List UInt8):List AV:=s.map fun b=>.int .u8 (b.toNat:Int)

theorem G8 {G:Gh}(s:List UInt8):RepL G (Qr s) (s.map fun b=>Value.int .u8 (b.toNat:Int)):=by
 induction s with
 |nil=>exact .nil
 |cons b s ih=>exact .cons (.int _ _) ih

theorem JP (s:List UInt8):QK (Qr s)=Qr s:=by
 induction s with
 |nil=>rfl
 |cons b s ih=>show [_]++QK (Qr s)=_;rw[ih];rfl

theorem Hv (s:List UInt8):Elems 1 (Qr s):=by
 refine⟨fun x hx=>?_,?_,?_⟩
 ·obtain⟨b,_,rfl⟩:=QnQ.1 hx;rfl
 ·rw[JP]
  induction s with
  |nil=>rfl
  |cons b s ih=>exact ih
 ·rw[JP]
  induction s with
  |nil=>rfl
  |cons b s ih=>exact ih

theorem Qu.appS {d:Option Nat}{el:Nat}{s r:RA}{its:List Item}{l site g n:Nat}{xs:List AV}{t:List UInt8}(hs:s.ev st.f=.vec l site g 0 n false)(hlk:Qc st.m l site=.vec g 1 xs)(hte:XY site el=true)(hn:n≤xs.length)
  (hy:r.ev st.f=.str t) (hmax:n+t.length≤140737488355328)
  (h:Qu P N its { st with m:=Am.put st.m l site (.vec (g+1) 1 (xs.take n++Qr t)),f:=Qj st.f d (.vec l site (g+1) 0 (n+t.length) false) } Q):Qu P N (⟨d,.appS el s r,none⟩ :: its) st Q:=by
 refine Qu.step rfl fun G B a w o hr hd hdN hc K QQ hK=>?_
 cases ho:o.op<;>rw[ho]at hc<;>simp only[XJ,QmO]at hc;rename_i cl;split at hc
 case h_2=>cases hc
 rename_i o1 x y tt t' o2;cases o2;simp only[QmT]at hc;obtain⟨⟨⟨hst,hty⟩,hcs⟩,hcr⟩:=hc;cases hu:P.underlying tt with
 |none=>simp[hu]at hty
 |some dd=>
  cases dd with
  |slice e=>
   simp only[hu,QmT,Qnv,QmA]at hty;obtain⟨⟨i,hi,⟨hi1,hi2⟩,hz⟩,rfl⟩:=hty;cases hzv:i.zero with
   |none=>rw[hzv]at hz;cases hz
   |some zv=>
    rw[hzv]at hz;simp only[QmA]at hz;have rs:=Qs hr hcs;rw[hs]at rs;have rx:=Qs hr hcr;rw[hy]at rx;have hxv:a.eval y=.string ⟨⟨t⟩⟩:=by
     revert rx
     generalize a.eval y=v;intro rx;cases rx;rfl
    have hlen:(Qr t).length=t.length:=by simp[Qr]
    have hsrc:Src P i.size t' (.string ⟨⟨t⟩⟩) (Qr t).length (t.map fun b=>Value.int .u8 (b.toNat:Int)) w:=by
     rw[hi1,hlen];exact Src.ofString (w:=w) (KA hst) ⟨⟨t⟩⟩
    rw[←hi1]at hlk;obtain⟨v',w',G',hrun,hr',he,hv'⟩:=Ve (ty:=o.type) (ys:=Qr t) hr hu hi hzv (hz.trans hi1.symm) rs hlk hn hte hsrc (by rw[JP];exact G8 t) (by rw[hi1];exact Hv t) (by rw[hlen];simp only[maxLen];omega) (by rw[hlen,hi2];omega);have hexec:(execOp a.eval o).run P w=.ok (.value v') w':=by
     simp only[execOp,ho,resolve,invoke,builtin,Sem.run_bind,Sem.run_pure,Result.andThen_ok,Qnw,Qm3,Qnx,hxv,hrun]
    unfold Oper.wp;rw[hexec];have hd':o.dst=d:=hd;show K (a.put o.dst v') w';rw[hd'];rw[hi1]at hr';rw[hlen]at hv';exact hK _ _ _ _ h (hr'.put hdN hv') he
  |_=>simp[hu]at hty

theorem Rel.after {G G':Gh}{B:Nat}{a:Act}{w w':World}{m':Qh}(h:Rel G B N st a w)(hm:MR G' m' w')(he:Ext 0 G w G' w')(hl:m'.length=st.m.length):Rel G' B N { st with m:=m' } a w' where
 mr:=hm
 size:=h.size
 slots i:=(h.slots i).mono he.gle
 ds:=h.ds.mono he.gle
 base s b e:=by
  rcases e with e|e
  ·rw[he.nm 0 s (Qms _)]at e;exact h.base s b (.inl e)
  ·rcases he.mv 0 s b e with⟨i,t,hi,e⟩|e
   ·obtain rfl:i=0:=Nat.le_zero.1 hi;exact h.base t b (.inr e)
   ·exact Qmt h.top e
 top:=Qmt h.top he.size
 ne:=by
  have:=h.ne;intro e;have e':m'=[]:=e;rw[e']at hl;exact this (QnB hl.symm)

theorem Aw {o:Oper}{x:Operand}{args:Array Operand}{ts:Array TypeId}{a:Act}{w:World}(ho:o.op=.call { callee:=.value x,args:=args,argTypes:=ts }){k:FuncId}{va vb:List Value}(hx:a.eval x=.func (.func k) ⟨va⟩ ⟨vb⟩)(hk:UW P k) :
  (execOp a.eval o).run P w=.ok (.enter k ⟨va++args.toList.map a.eval++vb⟩) w:=by
 obtain⟨fn,hf,hn,hb⟩:=hk;have e1:args.map a.eval=⟨args.toList.map a.eval⟩:=by apply Array.ext';simp
 simp only[execOp,ho,resolve,hx,Deferred.ofValue,e1,Sem.run_bind,Sem.run_pure,Result.andThen_ok,invoke,callFunc,run_program,hf,hn,QmO,if_false,hb];simp

theorem Mw {G:Gh}{B:Nat}{a:Act}{w:World}{o:Oper}(hr:Rel G B N st a w){f:RA}{args:List RA}{k:FuncId}{fa fb:List AV}(hf:f.ev st.f=.fn (.func k) fa fb)(hk:UW P k)(hc:XJ P o.op (.call f args)=true){K:Act→World→Prop}{QQ:Exit→Act→World→Prop}
  (h:∀vs,RepL G (fa++args.map (RA.ev st.f)++fb) vs→Calls P k ⟨vs⟩ w fun e w'=>∃v,e=.returned v∧K (a.put o.dst v) w'):o.wp P a w K QQ:=by
 cases ho:o.op<;>rw[ho]at hc<;>simp only[XJ,QmO]at hc;rename_i cl;split at hc
 case h_2=>cases hc
 rename_i o1 x as ts o2;cases o2;simp only[QmT]at hc;have rf:=Qs hr hc.1;rw[hf]at rf;have ras:=UT hr hc.2;obtain⟨va,vb,hx,h1,h2⟩:∃va vb,a.eval x=.func (.func k) ⟨va⟩ ⟨vb⟩∧RepL G fa va∧RepL G fb vb:=by
  generalize a.eval x=v at rf;cases rf with
  |fn h1 h2=>exact⟨_,_,rfl,h1,h2⟩
 have hrun:=Aw (P:=P) (w:=w) ho hx hk;unfold Oper.wp;rw[hrun];show Calls P k _ w _;exact(h _ ((h1.append ras).append h2)).mono fun e w' ⟨v,he,hK⟩=>by subst he;exact hK

theorem Qu.callFull {d:Option Nat}{f:RA}{args:List RA}{its:List Item}{k:FuncId}{fa fb:List AV}(hf:f.ev st.f=.fn (.func k) fa fb){R:AV→Qh→Prop}(hk:Qd P k (fa++args.map (RA.ev st.f)++fb) st.m R)
  (h:∀x m',R x m'→m'.length=st.m.length→Qu P N its { st with m:=m',f:=Qj st.f d x } Q):Qu P N (⟨d,.call f args,none⟩ :: its) st Q:=by
 refine Qu.step rfl fun G B a w o hr hd hdN hc K QQ hK=>?_
 refine Mw hr hf hk.1 hc fun vs hvs=>(hk.2 G w vs hvs hr.mr).mono fun e w' ⟨G',x,v,m',he,hR,hv,hm,hx,hl⟩=>⟨v,he,?_⟩
 have hd':o.dst=d:=hd;rw[hd'];exact hK G' _ _ w' (h x m' hR hl) ((hr.after hm hx hl).put hdN hv) (hx.mono (QmE _))

def Gh.bare (stab:Nat→Nat→Option SV)(ht:∀b o v,Jb b o=some v→stab b o=some v):Gh:=⟨stab,fun _ _=>none,fun _ _=>none,fun _ _=>0,fun _ _=>0,fun _ _=>0,ht⟩
def Gh.world (W:World)(h:HC W):Gh:=Gh.bare (fun b o=>sv W b o) fun b o v e=>NX (h b o v e)

theorem MR.bare {stab:Nat→Nat→Option SV}{ht:∀b o v,Jb b o=some v→stab b o=some v}{w:World}(h:∀b o v,stab b o=some v→rd w b o v):MR (Gh.bare stab ht) [] w where
 stab:=h
 cells l s xs e:=by cases l<;>cases e
 nm l s b e:=by cases e
 vec l s g sz xs e:=by cases l<;>cases e
 vm l s b e:=by cases e
 gone _ _ _:=rfl
 inj1 l s l' s' b e:=by cases e
 inj2 l s l' s' b e:=by cases e
 inj3 l s l' s' b e:=by cases e
 iter l s t p e:=by cases l<;>cases e

theorem Gh.bare_mine {stab:Nat→Nat→Option SV}{ht:∀b o v,Jb b o=some v→stab b o=some v}{b:Nat}:¬(Gh.bare stab ht).mine b:=by
 rintro(⟨l,s,e⟩|⟨l,s,e⟩)<;>cases e

def Gh.with(G:Gh)(stab:Nat→Nat→Option SV)(hg:∀b o v,G.stab b o=some v→stab b o=some v):Gh:={ G with stab:=stab,tab:=fun b o v e=>hg _ _ _ (G.tab b o v e) }

theorem MR.kept {G:Gh}{m:Qh}{w w':World}(h:MR G m w){stab:Nat→Nat→Option SV}(hk:∀b,b<w.heap.size→w'.heap[b]? = w.heap[b]?)(hs:∀b o v,stab b o=some v→rd w' b o v)(hg:∀b o v,G.stab b o=some v→stab b o=some v)(hm:∀b,G.mine b→∀o,stab b o=none):MR (G.with stab hg) m w' where
 stab:=hs
 cells l s xs e:=by
  obtain⟨b,cs,e',hc,hr⟩:=h.cells l s xs e;exact⟨b,cs,e',hc.of (hk b hc.lt),RepL.mono (G:=G.dn l) (G':=(G.with stab hg).dn l) ⟨hg,fun _ _ _ h=>h,fun _ _=>Qms _,fun _ _ _=>⟨rfl,rfl,rfl⟩⟩ hr⟩
 nm l s b e:=⟨(h.nm l s b e).1,hm b (.inl ⟨l,s,e⟩)⟩
 vec l s g sz xs e:=by
  obtain⟨a1,a2,a3,a4⟩:=h.vec l s g sz xs e;exact⟨a1,a2,a3,a4.imp id fun⟨b,e',r⟩=>⟨b,e',r.of (hk b (h.mine (.inr ⟨l,s,e'⟩)).1) fun vs hv=>RepL.rfd (G:=G) (G':=G.with stab hg) hg a3.rf hv⟩⟩
 vm l s b e:=⟨(h.vm l s b e).1,hm b (.inr ⟨l,s,e⟩)⟩
 gone:=h.gone
 inj1:=h.inj1
 inj2:=h.inj2
 inj3:=h.inj3
 iter l s t p e:=by
  obtain⟨b,e',hc⟩:=h.iter l s t p e;exact⟨b,e',(hk b (h.mine (.inl ⟨l,s,e'⟩)).1).trans hc⟩

theorem Ext.bare {G:Gh}{w w':World}{stab':Nat→Nat→Option SV}(hos:w'.os=w.os)(htape:w'.tape=w.tape)(hout:w'.output=w.output)(hsize:w.heap.size≤w'.heap.size)(hk:∀b,b<w.heap.size→w'.heap[b]? = w.heap[b]?)(hg:∀b o v,G.stab b o=some v→stab' b o=some v)(ho:∀b,b<w.heap.size→∀o,stab' b o=G.stab b o):Ext 0 G w (G.with stab' hg) w' :=
 ⟨hos,htape,hout,hsize,hg,fun _ _ _=>rfl,fun _ _=>Qms _,fun _ _ _=>⟨rfl,rfl,rfl⟩,fun b hb _=>⟨hk b hb,ho b hb⟩,fun _ h=>.inl h,fun l s _ h=>.inl ⟨l,s,Qms _,h⟩⟩

mutual
def AV.nl:AV→Bool
 |.list _|.rptr _|.lcap _|.mp .. => false
 |.agg l|.tup l=>AV.nlL l
 |.iface _ x=>x.nl
 |.fn _ a b=>AV.nlL a&&AV.nlL b
 |_=>true
def AV.nlL:List AV→Bool
 | []=>true
 |x :: l=>x.nl&&AV.nlL l
end

mutual
theorem Rep.plain {G G':Gh}:∀ {x:AV} {v:Value},x.nl=true→x.rf=true→Rep G x v→Rep G' x v
 |_,_,_,_,.top v=>.top v
 |_,_,_,_,.int k n=>.int k n
 |_,_,_,_,.bool b=>.bool b
 |_,_,_,_,.str s=>.str s
 |_,_,_,_,.nils=>.nils
 |_,_,_,_,.nilp=>.nilp
 |_,_,_,_,.nilf=>.nilf
 |_,_,_,_,.nili=>.nili
 |_,_,_,_,.nilm=>.nilm
 |_,_,_,_,.anyp p=>.anyp p
 |_,_,hn,_,.list hc hz hf hl hs hn' hcap hm=>by cases hn
 |_,_,hn,_,.lcap hc hz hf hl hs hn' hm=>by cases hn
 |_,_,hn,hr,.agg h=>.agg (RepL.plain hn hr h)
 |_,_,hn,hr,.tup h=>.tup (RepL.plain hn hr h)
 |_,_,hn,hr,.iface h=>.iface (Rep.plain hn hr h)
 |_,_,hn,hr,.fn ha hb=>by
   have h1:=Qmw.1 hn;have h2:=Qmw.1 hr;exact .fn (RepL.plain h1.1 h2.1 ha) (RepL.plain h1.2 h2.2 hb)
 |_,_,_,hr,.ptr h=>by cases hr
 |_,_,_,hr,.vec hv hl h=>by cases hr
 |_,_,_,hr,.vptr hv hl h=>by cases hr
 |_,_,_,hr,.rptr hc hf hl hs=>by cases hr
theorem RepL.plain {G G':Gh}:∀ {x:List AV} {v:List Value},AV.nlL x=true→AV.rfL x=true→RepL G x v→RepL G' x v
 |_,_,_,_,.nil=>.nil
 |_,_,hn,hr,.cons h t=>by
   have h1:=Qmw.1 hn;have h2:=Qmw.1 hr;exact .cons (Rep.plain h1.1 h2.1 h) (RepL.plain h1.2 h2.2 t)
end

def Fn? (P:Program)(k:FuncId)(args:List AV)(R:AV→Prop):Prop:=Qd P k args [] fun x _=>R x

mutual
theorem Vf {G:Gh}{own:Bool}{m:Qh}:∀ {x:AV} {v:Value},x.rf=true→Rep G x v→∀y,x.still own m=some y→Rep G y v
 |.top,v,_,hr,y,e=>by cases e;exact .top v
 |.int _ _,_,_,hr,y,e=>by cases e;exact hr
 |.bool _,_,_,hr,y,e=>by cases e;exact hr
 |.str _,_,_,hr,y,e=>by cases e;exact hr
 |.nilp,_,_,hr,y,e=>by cases e;exact hr
 |.nilf,_,_,hr,y,e=>by cases e;exact hr
 |.nili,_,_,hr,y,e=>by cases e;exact hr
 |.nilm,_,_,hr,y,e=>by cases e;exact hr
 |.anyp,_,_,hr,y,e=>by cases e;exact hr
 |.list _,_,_,hr,y,e=>by cases e;exact hr
 |.lcap _,_,_,hr,y,e=>by cases e;exact hr.unlcap
 |.fn _ _ _,_,_,hr,y,e=>by cases e;exact hr
 |.mp _ _,_,_,hr,y,e=>by cases e;exact hr
 |.mptr _ _,_,hf,hr,y,e=>by cases hf
 |.ptr _ _ _,_,hf,hr,y,e=>by cases hf
 |.vptr _ _ _ _ _,_,hf,hr,y,e=>by cases hf
 |.rptr _,_,hf,hr,y,e=>by cases hf
 |.vec _ _ _ _ _ _,_,hf,hr,y,e=>by cases hf
 |.nils,_,_,hr,y,e=>by
   cases e;cases hr;exact .list (sz:=0) (cs:=[]) .nil (by simp) rfl rfl (by simp) rfl (Qms _) (QmE _)
 |.agg l,_,hf,hr,y,e=>by
   simp only[AV.still,Qmx]at e;obtain⟨l',e,rfl⟩:=e;cases hr with
   |agg hr=>exact .agg (YZ hf hr l' e)
 |.tup l,_,hf,hr,y,e=>by
   simp only[AV.still,Qmx]at e;obtain⟨l',e,rfl⟩:=e;cases hr with
   |tup hr=>exact .tup (YZ hf hr l' e)
 |.iface t x,_,hf,hr,y,e=>by
   simp only[AV.still,Qmx]at e;obtain⟨l',e,rfl⟩:=e;cases hr with
   |iface hr=>exact .iface (Vf (x:=x) hf hr l' e)
theorem YZ {G:Gh}{own:Bool}{m:Qh}:∀ {x:List AV} {v:List Value},AV.rfL x=true→RepL G x v→∀y,AV.stillL own m x=some y→RepL G y v
 | [],_,_,hr,y,e=>by cases e;cases hr;exact .nil
 |x :: l,_,hf,hr,y,e=>by
   have h2:=Qmw.1 hf;simp only[AV.stillL]at e;split at e
   ·rename_i a b ea eb;cases e;cases hr with
    |cons hr ht=>exact .cons (Vf h2.1 hr a ea) (YZ h2.2 ht b eb)
   ·cases e
end

theorem Qu.callPure {d:Option Nat}{f:RA}{args:List RA}{its:List Item}{k:FuncId}{fa fb ys:List AV}(hf:f.ev st.f=.fn (.func k) fa fb)(hy:AV.stillL false st.m (fa++args.map (RA.ev st.f)++fb)=some ys)(hrf:AV.rfL ys=true)
  {R:AV→Prop} (hk:Fn? P k ys R) (hx:∀x,R x→x.rf=true∧(AV.rfL (fa++args.map (RA.ev st.f)++fb)=true∨x.nl=true)) (h:∀x,R x→Qu P N its { st with f:=Qj st.f d x } Q):Qu P N (⟨d,.call f args,none⟩ :: its) st Q:=by
 refine Qu.step rfl fun G B a w o hr hd hdN hc K QQ hK=>?_
 refine Mw hr hf hk.1 hc fun vs hvs=>?_
 have hd':o.dst=d:=hd;have hlt:∀b o v,G.stab b o=some v→b<w.heap.size:=fun b o v e=>UR (hr.mr.stab b o v e)
 -- whatever cells stay for the callee
 have key:∀(stab0:Nat→Nat→Option SV) (ht0:∀b o v,Jb b o=some v→stab0 b o=some v),(∀b o v,stab0 b o=some v→rd w b o v)→RepL (Gh.bare stab0 ht0) ys vs→((∀b,b<w.heap.size→∀o,stab0 b o=G.stab b o)∨∀x,R x→x.nl=true)→
   Calls P k ⟨vs⟩ w fun e w'=>∃v,e=.returned v∧K (a.put o.dst v) w':=by
  intro stab0 ht0 hstab hrep hor;refine(hk.2 (Gh.bare stab0 ht0) w vs hrep (MR.bare hstab)).mono fun e w' ⟨G',x,v,m',he,hR,hv,hm,hx',hl⟩=>⟨v,he,?_⟩
  rw[hd'];have hxr:=(hx x hR).1;have hold:∀b,b<w.heap.size→w'.heap[b]? = w.heap[b]?:=fun b hb=>(hx'.old b hb Gh.bare_mine).1
  let stab':Nat→Nat→Option SV:=fun b o=>if b<w.heap.size then G.stab b o else G'.stab b o
  have hg:∀b o v,G.stab b o=some v→stab' b o=some v:=fun b o v e=>by
   show(if b<w.heap.size then G.stab b o else G'.stab b o)=some v;rw[QmD (hlt b o v e)];exact e
  have hs':∀b o v,stab' b o=some v→rd w' b o v:=fun b o v e=>by
   simp only[stab']at e;split at e
   ·rename_i hb;exact JO (hold b hb) (hr.mr.stab b o v e)
   ·exact hm.stab b o v e
  have hmine:∀b,G.mine b→∀o,stab' b o=none:=fun b hb o=>by
   show(if b<w.heap.size then G.stab b o else G'.stab b o)=none;rw[QmD (hr.mr.mine hb).1];exact(hr.mr.mine hb).2 o
  have hmr:=hr.mr.kept hold hs' hg hmine;have hext:Ext 0 G w (G.with stab' hg) w':=Ext.bare hx'.os hx'.tape hx'.output hx'.size hold hg (fun b hb o=>QmD hb);have hv':Rep (G.with stab' hg) x v:=by
   rcases hor with hor|hor
   ·refine hv.rfd (fun b o u e=>?_) hxr;show(if b<w.heap.size then G.stab b o else G'.stab b o)=some u;split
    ·rename_i hb;have h1:=(hx'.old b hb Gh.bare_mine).2 o;rw[e]at h1;rw[←hor b hb o];exact h1.symm
    ·exact e
   ·exact Rep.plain (hor x hR) hxr hv
  exact hK _ _ _ w' (h x hR) ((hr.after hmr hext rfl).put hdN hv') (hext.mono (QmE _))
 by_cases hrfa:AV.rfL (fa++args.map (RA.ev st.f)++fb)=true
 ·refine key G.stab G.tab hr.mr.stab ?_ (.inl fun _ _ _=>rfl);exact RepL.rfd (G:=G) (G':=Gh.bare G.stab G.tab) (fun _ _ _ h=>h) hrf (YZ hrfa hvs ys hy)
 ·let S:Nat→Prop:=fun b=>∃l s,G.vm l s=some b
  have hst:=YY hr.mr (own:=false) (S:=S) (fun l s b _ e=>⟨l,s,e⟩) (fun h=>by cases h) hvs ys hy;refine key (G.pub w S).stab (G.pub w S).tab (fun b o v e=>?_) (RepL.rfd (G:=G.pub w S) (G':=Gh.bare (G.pub w S).stab (G.pub w S).tab) (fun _ _ _ h=>h) hrf hst) (.inr fun x hR=>((hx x hR).2.resolve_left hrfa));by_cases hS:S b∧∀o,Jb b o=none
  ·rw[Gh.pub_c hS]at e;exact NW e
  ·rw[Gh.pub_n hS]at e;exact hr.mr.stab b o v e

end

def X0 (m:Qh)(s:Nat):Bool :=
 match Qc m 0 s with
 |.none=>true
 |_=>false

theorem Rel.freshO {G:Gh}{B N:Nat}{st:St}{a:Act}{w:World}(h:Rel G B N st a w)(s:Nat)(hno:X0 st.m s=true){ob:Ob}{x:Obj}(hvar:ob.isVar=true)
  (hcells:∀l,ob=.cells l→∃cs t,x=.cells cs t∧XY s t=true∧RepL G l cs.toList) (hiter:∀t p,ob=.iter t p→x=t.obj p) :
  Rel (G.fresh s w.heap.size) B N { st with m:=Am.put st.m 0 s ob } a (w.alloc x)∧Ext 1 G w (G.fresh s w.heap.size) (w.alloc x):=by
 have hlk:Qc st.m 0 s=.none:=by
  unfold X0 at hno;split at hno
  ·assumption
  ·cases hno
 have hnm0:G.nm 0 s=none:=by
  cases hg:G.nm 0 s with
  |none=>rfl
  |some b=>obtain⟨hx,_⟩:=h.mr.nm 0 s b hg;rw[hlk]at hx;cases hx
 have hnew:Gle G (G.fresh s w.heap.size):=by
  refine⟨fun _ _ _ h=>h,fun l' t b e=>?_,fun _ _=>Qms _,fun _ _ _=>⟨rfl,rfl,rfl⟩⟩;show(if l'=0∧t=s then some w.heap.size else G.nm l' t)=some b;rw[QmC]
  ·exact e
  ·rintro⟨rfl,rfl⟩;rw[hnm0]at e;cases e
 have hold:∀k,k<w.heap.size→(w.alloc x).heap[k]? = w.heap[k]?:=fun k hk=>RowKit.Below.heap_alloc w _ k hk
 have hnm:∀l' s' b',(G.fresh s w.heap.size).nm l' s'=some b'→(l'=0∧s'=s∧b'=w.heap.size)∨(¬(l'=0∧s'=s)∧G.nm l' s'=some b'∧b'<w.heap.size):=by
  intro l' s' b' e;simp only[Gh.fresh]at e;split at e
  ·rename_i hh;cases e;exact .inl ⟨hh.1,hh.2,rfl⟩
  ·rename_i hh;exact .inr ⟨hh,e,(h.mr.mine (.inl ⟨_,_,e⟩)).1⟩
 have hvm:∀l' s' b',(G.fresh s w.heap.size).vm l' s'=some b'→¬(l'=0∧s'=s)∧G.vm l' s'=some b'∧b'<w.heap.size:=by
  intro l' s' b' e;have e:G.vm l' s'=some b':=e;refine⟨?_,e,(h.mr.mine (.inr ⟨_,_,e⟩)).1⟩;rintro⟨rfl,rfl⟩;obtain⟨⟨g,sz,xs,hx⟩,_⟩:=h.mr.vm 0 s' b' e;rw[hlk]at hx;cases hx
 have hst:∀o,G.stab w.heap.size o=none:=by
  intro o;cases hs:G.stab w.heap.size o with
  |none=>rfl
  |some v=>
   have:=UR (h.mr.stab _ _ _ hs);simp at this
 have hlook:∀l' s',¬(l'=0∧s'=s)→Qc (Am.put st.m 0 s ob) l' s'=Qc st.m l' s':=by
  intro l' s' hh;rw[QA (by omega)]
 have hlook0:Qc (Am.put st.m 0 s ob) 0 s=ob:=Qo (QnR.2 h.ne);refine⟨⟨⟨?_,?_,?_,?_,?_,?_,?_,?_,?_,?_⟩,h.size,fun i=>(h.slots i).mono hnew,h.ds.mono hnew,?_,?_,Ko h.ne⟩,?_⟩
 ·intro b o v e;exact JO (hold b (UR (h.mr.stab b o v e))) (h.mr.stab b o v e)
 ·intro l' s' zs e;by_cases hh:l'=0∧s'=s
  ·obtain⟨rfl,rfl⟩:=hh;rw[hlook0]at e;obtain⟨cs,t,rfl,hty,hl⟩:=hcells zs e;exact⟨w.heap.size,cs,by simp[Gh.fresh],XH.new w cs t hty,hl.mono hnew⟩
  ·rw[hlook l' s' hh]at e;obtain⟨b',cs',e',hc,hr⟩:=h.mr.cells l' s' zs e;exact⟨b',cs',(QmC (t:=some w.heap.size) hh).trans e',hc.of (hold _ hc.lt),hr.mono (hnew.dn l')⟩
 ·intro l' s' b' e;rcases hnm l' s' b' e with⟨rfl,rfl,rfl⟩|⟨hh,e',hlt⟩
  ·exact⟨by rw[hlook0];exact hvar,hst⟩
  ·obtain⟨hz,h2⟩:=h.mr.nm l' s' b' e';refine⟨?_,h2⟩;rw[hlook l' s' hh];exact hz
 ·intro l' s' g sz zs e;by_cases hh:l'=0∧s'=s
  ·obtain⟨rfl,rfl⟩:=hh;rw[hlook0]at e;rw[e]at hvar;cases hvar
  ·rw[hlook l' s' hh]at e;obtain⟨a1,a2,a3,a4⟩:=h.mr.vec l' s' g sz zs e;refine⟨a1,a2,a3,a4.imp id fun⟨b',e',r⟩=>⟨b',e',r.of (hold _ ?_) fun vs hv=>RepL.rfd (G:=G) (G':=G.fresh s w.heap.size) (fun _ _ _ h=>h) a3.rf hv⟩⟩;exact(h.mr.mine (.inr ⟨_,_,e'⟩)).1
 ·intro l' s' b' e;obtain⟨hh,e',hlt⟩:=hvm l' s' b' e;obtain⟨⟨g,sz,zs,hz⟩,h2⟩:=h.mr.vm l' s' b' e';refine⟨?_,h2⟩;rw[hlook l' s' hh,hz];exact⟨_,_,_,rfl⟩
 ·intro l' s' e;by_cases hh:l'=0∧s'=s
  ·obtain⟨rfl,rfl⟩:=hh;exact h.mr.gone 0 s' (by rw[hlk];rfl)
  ·rw[hlook l' s' hh]at e;exact h.mr.gone l' s' e
 ·intro l1 s1 l2 s2 b' e1 e2;rcases hnm l1 s1 b' e1 with⟨rfl,rfl,rfl⟩|⟨hh,e',hlt⟩<;>rcases hnm l2 s2 _ e2 with⟨rfl,rfl,hb⟩|⟨hh2,e2',hlt2⟩
  ·exact⟨rfl,rfl⟩
  ·omega
  ·omega
  ·exact h.mr.inj1 _ _ _ _ _ e' e2'
 ·intro l1 s1 l2 s2 b' e1 e2;exact h.mr.inj2 _ _ _ _ _ (hvm _ _ _ e1).2.1 (hvm _ _ _ e2).2.1
 ·intro l1 s1 l2 s2 b' e1 e2;obtain⟨_,e2',hlt⟩:=hvm _ _ _ e2;rcases hnm l1 s1 b' e1 with⟨rfl,rfl,rfl⟩|⟨hh,e',_⟩
  ·omega
  ·exact h.mr.inj3 _ _ _ _ _ e' e2'
 ·intro l' s' t p e;by_cases hh:l'=0∧s'=s
  ·obtain⟨rfl,rfl⟩:=hh;rw[hlook0]at e;have hx:=hiter t p e;subst hx;exact⟨w.heap.size,by simp[Gh.fresh],heap_alloc_new w _⟩
  ·rw[hlook l' s' hh]at e;obtain⟨b',e',hc⟩:=h.mr.iter l' s' t p e;exact⟨b',(QmC (t:=some w.heap.size) hh).trans e',(hold _ (h.mr.mine (.inl ⟨_,_,e'⟩)).1).trans hc⟩
 ·intro s' b' e;rcases e with e|e
  ·rcases hnm 0 s' b' e with⟨_,_,rfl⟩|⟨_,e',_⟩
   ·exact h.top
   ·exact h.base s' b' (.inl e')
  ·exact h.base s' b' (.inr (hvm _ _ _ e).2.1)
 ·have:=h.top;simp;omega
 ·refine⟨rfl,rfl,rfl,by simp,fun _ _ _ h=>h,fun l' s' hl'=>?_,hnew.vg,hnew.vs,fun b hb _=>⟨hold b hb,fun _=>rfl⟩,fun b hb=>?_,fun l s _ h=>.inl ⟨l,s,Qms _,h⟩⟩
  ·simp only[Gh.fresh];rw[QmC (by omega)]
  ·rcases hb with⟨l',s',e⟩|⟨l',s',e⟩
   ·rcases hnm l' s' b e with⟨_,_,rfl⟩|⟨_,e',_⟩
    ·exact .inr (Qms _)
    ·exact .inl (.inl ⟨_,_,e'⟩)
   ·exact .inl (.inr ⟨_,_,(hvm _ _ _ e).2.1⟩)

theorem Rel.freshN {G:Gh}{B N:Nat}{st:St}{a:Act}{w:World}(h:Rel G B N st a w)(s:Nat)(hno:X0 st.m s=true){l:List AV}{cs:Array Value}(hl:RepL G l cs.toList)(t:TypeId)(hty:XY s t=true) :
  Rel (G.fresh s w.heap.size) B N { st with m:=Am.put st.m 0 s (.cells l) } a (w.alloc (.cells cs t))∧Ext 1 G w (G.fresh s w.heap.size) (w.alloc (.cells cs t)) :=
 h.freshO s hno rfl (fun _ e=>by cases e;exact⟨cs,t,rfl,hty,hl⟩) (fun _ _ e=>by cases e)

def Gh.drop (G:Gh)(s:Nat):Gh :=
 { G with nm:=fun l t=>if l=0∧t=s then none else G.nm l t }

def St.drop (st:St)(s:Nat):St :=
 { f:=fun i=>(st.f i).scrub s,m:=Am.put (WW s st.m) 0 s .none,ds:=st.ds.map (DF.scrub s) }

theorem Rel.drop {G:Gh}{B N:Nat}{st:St}{a:Act}{w:World}(h:Rel G B N st a w)(s:Nat)(hrow:US st.m s=true) :
  Rel (G.drop s) B N (st.drop s) a w∧Ext 1 G w (G.drop s) w:=by
 have hnew:Gnew s G (G.drop s):=by
  refine⟨fun _ _ _ h=>h,fun l t b hh e=>?_,fun _ _=>Qms _,fun _ _ _=>⟨rfl,rfl,rfl⟩⟩;show(if l=0∧t=s then none else G.nm l t)=some b;rw[QmC (fun k=>hh k.1 k.2)];exact e
 have hdn:∀l,Gle (G.dn (l+1)) ((G.drop s).dn (l+1)):=fun l=>by
  refine⟨fun _ _ _ h=>h,fun i t b e=>?_,fun _ _=>Qms _,fun _ _ _=>⟨rfl,rfl,rfl⟩⟩;show(if i+(l+1)=0∧t=s then none else G.nm (i+(l+1)) t)=some b;rw[QmC (by omega)];exact e
 have hnm:∀l' s' b',(G.drop s).nm l' s'=some b'→¬(l'=0∧s'=s)∧G.nm l' s'=some b':=by
  intro l' s' b' e;have e:(if l'=0∧s'=s then none else G.nm l' s')=some b':=e;split at e
  ·cases e
  ·rename_i hh;exact⟨hh,e⟩
 have hlook:∀l' s',¬(l'=0∧s'=s)→Qc (st.drop s).m l' s'=if l'=0 then(Qc st.m l' s').scrub s else Qc st.m l' s':=by
  intro l' s' hh;show Qc (Am.put (WW s st.m) 0 s _) l' s'=_;rw[QA (by omega)];cases l' with
  |zero=>rw[D0];rfl
  |succ l'=>rw[D1];rfl
 have hlook0:Qc (st.drop s).m 0 s=.none:=by
  show Qc (Am.put (WW s st.m) 0 s _) 0 s=_;exact Qo (QnR.2 (B9 h.ne))
 refine⟨⟨⟨h.mr.stab,?_,?_,?_,?_,?_,?_,h.mr.inj2,?_,?_⟩,h.size,fun i=>(h.slots i).scrub hnew,h.ds.scrub hnew,?_,h.top,Ko (B9 h.ne)⟩,?_⟩
 ·intro l' s' zs e;by_cases hh:l'=0∧s'=s
  ·obtain⟨rfl,rfl⟩:=hh;rw[hlook0]at e;cases e
  ·rw[hlook l' s' hh]at e;cases l' with
   |zero=>
    rw[QmD rfl]at e;obtain⟨ys,e1,rfl⟩:=Ob.scrub_cells e;obtain⟨b',cs',e',hc,hr⟩:=h.mr.cells 0 s' ys e1;exact⟨b',cs',(QmC (t:=none) hh).trans e',hc,hr.scrub hnew⟩
   |succ l'=>
    rw[QmC (by omega)]at e;obtain⟨b',cs',e',hc,hr⟩:=h.mr.cells (l'+1) s' zs e;exact⟨b',cs',(QmC (t:=none) hh).trans e',hc,hr.mono (hdn l')⟩
 ·intro l' s' b' e;obtain⟨hh,e'⟩:=hnm l' s' b' e;obtain⟨hz,h2⟩:=h.mr.nm l' s' b' e';refine⟨?_,h2⟩;rw[hlook l' s' hh];cases l' with
  |zero=>rw[QmD rfl,Ob.scrub_isVar];exact hz
  |succ l'=>rw[QmC (by omega)];exact hz
 ·intro l' s' g sz zs e;by_cases hh:l'=0∧s'=s
  ·obtain⟨rfl,rfl⟩:=hh;rw[hlook0]at e;cases e
  ·rw[hlook l' s' hh]at e;have e1:Qc st.m l' s'=.vec g sz zs:=by
    cases l' with
    |zero=>rw[QmD rfl]at e;exact Ob.scrub_vec e
    |succ l'=>rwa [QmC (by omega)]at e
   obtain⟨a1,a2,a3,a4⟩:=h.mr.vec l' s' g sz zs e1;exact⟨a1,a2,a3,a4.imp id fun⟨b',e',r⟩=>⟨b',e',r.of rfl fun vs hv=>RepL.rfd (G:=G) (G':=G.drop s) (fun _ _ _ h=>h) a3.rf hv⟩⟩
 ·intro l' s' b' e;obtain⟨⟨g,sz,zs,hz⟩,h2⟩:=h.mr.vm l' s' b' e;have hh:¬(l'=0∧s'=s):=by
   rintro⟨rfl,rfl⟩;simp[US,hz]at hrow
  refine⟨?_,h2⟩;rw[hlook l' s' hh,hz];cases l' with
  |zero=>exact⟨_,_,_,rfl⟩
  |succ l'=>exact⟨_,_,_,rfl⟩
 ·intro l' s' e;by_cases hh:l'=0∧s'=s
  ·obtain⟨rfl,rfl⟩:=hh;show G.vg 0 s'=0;refine h.mr.gone 0 s' ?_
   revert hrow
   unfold US;cases Qc st.m 0 s'<;>intro hrow<;>first|rfl|cases hrow
  ·rw[hlook l' s' hh]at e;refine h.mr.gone l' s' ?_;cases l' with
   |zero=>
    rw[QmD rfl]at e;cases hl':Qc st.m 0 s'<;>rw[hl']at e<;>first|rfl|cases e
   |succ l'=>rwa [QmC (by omega)]at e
 ·intro l1 s1 l2 s2 b' e1 e2;exact h.mr.inj1 _ _ _ _ _ (hnm _ _ _ e1).2 (hnm _ _ _ e2).2
 ·intro l1 s1 l2 s2 b' e1 e2;exact h.mr.inj3 _ _ _ _ _ (hnm _ _ _ e1).2 e2
 ·intro l' s' t p e;by_cases hh:l'=0∧s'=s
  ·obtain⟨rfl,rfl⟩:=hh;rw[hlook0]at e;cases e
  ·rw[hlook l' s' hh]at e;have e1:Qc st.m l' s'=.iter t p:=by
    cases l' with
    |zero=>rw[QmD rfl]at e;exact Ob.scrub_iter e
    |succ l'=>rwa [QmC (by omega)]at e
   obtain⟨b',e',hc⟩:=h.mr.iter l' s' t p e1;exact⟨b',(QmC (t:=none) hh).trans e',hc⟩
 ·intro s' b' e;rcases e with e|e
  ·exact h.base s' b' (.inl (hnm _ _ _ e).2)
  ·exact h.base s' b' (.inr e)
 ·refine⟨rfl,rfl,rfl,Qms _,fun _ _ _ h=>h,fun l' s' hl'=>?_,hnew.vg,hnew.vs,fun b hb _=>⟨rfl,fun _=>rfl⟩,fun b hb=>?_,fun l s _ h=>.inl ⟨l,s,Qms _,h⟩⟩
  ·show(if l'=0∧s'=s then none else G.nm l' s')=G.nm l' s';rw[QmC (by omega)]
  ·rcases hb with⟨l',s',e⟩|⟨l',s',e⟩
   ·exact .inl (.inl ⟨_,_,(hnm _ _ _ e).2⟩)
   ·exact .inl (.inr ⟨_,_,e⟩)

section
variable {P:Program}{N:Nat}{st:St}{Q:St→Prop}

theorem Qu.allocN {d:Option Nat}{s:Nat}{z:List AV}{its:List Item}(hn:X0 st.m s=true)(h:Qu P N its { st with m:=Am.put st.m 0 s (.cells z),f:=Qj st.f d (.ptr 0 s 0) } Q):Qu P N (⟨d,.allocN s z,none⟩ :: its) st Q:=by
 refine Qu.step rfl fun G B a w o hr hd hdN hc K QQ hK=>?_
 cases ho:o.op<;>rw[ho]at hc<;>simp only[XJ,QmO]at hc;rename_i e;split at hc
 ·rename_i i hi;split at hc
  ·rename_i zv hz;rw[QmT]at hc;obtain⟨hr',he⟩:=hr.freshN s hn (l:=z) (cs:=zv.cells) (isCL_ok hc.1) e hc.2;have hrun:(execOp a.eval o).run P w=.ok (.value (.pointer (some ⟨w.heap.size,0,none⟩))) (w.alloc (.cells zv.cells e)):=by
    simp only[execOp,ho,Instr.alloc,zeroValue,typeInfo,Sem.run_bind,run_program,Result.andThen_ok,hi,Sem.run_pure,hz,newVar,newRow,run_newObj];rfl
   unfold Oper.wp;rw[hrun];have hd':o.dst=d:=hd;show K (a.put o.dst _) _;rw[hd'];refine hK _ _ _ _ h (hr'.put hdN (.ptr ?_)) he;show(if (0:Nat)=0∧s=s then some w.heap.size else G.nm 0 s)=some w.heap.size;simp
  ·cases hc
 ·cases hc

theorem Qu.boxN {d:Option Nat}{s:Nat}{r:RA}{its:List Item}(hn:X0 st.m s=true)(hl:(r.ev st.f).cells.all AV.leaf=true)(h:Qu P N its { st with m:=Am.put st.m 0 s (.cells (r.ev st.f).cells),f:=Qj st.f d (.ptr 0 s 0) } Q) :
  Qu P N (⟨d,.boxN s r,none⟩ :: its) st Q:=by
 refine Qu.step rfl fun G B a w o hr hd hdN hc K QQ hK=>?_
 cases ho:o.op<;>rw[ho]at hc<;>simp only[XJ,QmO]at hc;rename_i e x;rw[QmT]at hc;obtain⟨hr',he⟩:=hr.freshN s hn ((Qs hr hc.1).cells hl) e hc.2;have hrun:(execOp a.eval o).run P w=.ok (.value (.pointer (some ⟨w.heap.size,0,none⟩))) (w.alloc (.cells (a.eval x).cells e)):=by
  simp only[execOp,ho,Instr.box,newVar,newRow,Sem.run_bind,run_newObj,Result.andThen_ok,Sem.run_pure];rfl
 unfold Oper.wp;rw[hrun];have hd':o.dst=d:=hd;show K (a.put o.dst _) _;rw[hd'];refine hK _ _ _ _ h (hr'.put hdN (.ptr ?_)) he;show(if (0:Nat)=0∧s=s then some w.heap.size else G.nm 0 s)=some w.heap.size;simp

end

def Zl (sz:Nat):Nat→List AV→List AV
 |0,_=>[]
 |n+1,y=>(if sz=1 then y.headD .top else .agg (y.take sz)) :: Zl sz n (y.drop sz)

def X9 (z:List AV)(sz len:Nat):List AV:=(List.range (len*sz)).map fun i=>(z[i % sz]?).getD .top

theorem HJ (sz n:Nat)(y:List AV):(Zl sz n y).length=n:=by
 induction n generalizing y with
 |zero=>rfl
 |succ n ih=>simp[Zl,ih]

theorem AV.leaf_cells {x:AV}(h:x.leaf=true):x.cells=[x]:=by
 cases x<;>first|rfl|cases h

theorem Fc (sz n:Nat)(y:List AV)(hl:y.length=n*sz)(hy:y.all AV.leaf=true):QK (Zl sz n y)=y:=by
 induction n generalizing y with
 |zero=>
  have:y=[]:=QnB (by simpa using hl);subst this;rfl
 |succ n ih=>
  have hd:(y.drop sz).length=n*sz:=by rw[Qnc,hl,Qm6,Nat.one_mul];omega
  have hld:(y.drop sz).all AV.leaf=true:=XZ hy fun x hx=>Qni hx
  rw[Zl,XQ,ih _ hd hld];split
  ·rename_i h1;subst h1;cases y with
   |nil=>simp at hl
   |cons x y=>
    have:x.leaf=true:=by simp only[QnI,QmT]at hy;exact hy.1
    simp[AV.leaf_cells this]
  ·exact QnN sz y

theorem Fe (sz n:Nat)(y:List AV)(hl:y.length=n*sz)(hy:y.all AV.leaf=true):∀x∈Zl sz n y,x.cells.length=sz:=by
 induction n generalizing y with
 |zero=>intro x hx;cases hx
 |succ n ih=>
  have hd:(y.drop sz).length=n*sz:=by rw[Qnc,hl,Qm6,Nat.one_mul];omega
  have hld:(y.drop sz).all AV.leaf=true:=XZ hy fun x hx=>Qni hx
  intro x hx;rw[Zl]at hx;rcases QnS.1 hx with rfl|hx
  ·split
   ·rename_i h1;subst h1;cases y with
    |nil=>simp at hl
    |cons x y=>
     have:x.leaf=true:=by simp only[QnI,QmT]at hy;exact hy.1
     simp[AV.leaf_cells this]
   ·show(y.take sz).length=sz;rw[Qns,hl,Qm6,Nat.one_mul];omega
  ·exact ih _ hd hld x hx

theorem Ul {f:Fr}:∀ {ps:List (Nat×Nat×RA)} {z y:List AV},fill f ps z=some y→y.length=z.length
 | [],z,y,h=>by cases h;rfl
 |(o,n,r) :: ps,z,y,h=>by
  simp only[fill]at h;split at h
  ·rename_i hh;rw[Ul h,Hs (by omega)]
  ·cases h

section
variable {P:Program}{G:Gh}{B N:Nat}{st:St}{a:Act}{w:World}

theorem Du (h:Rel G B N st a w){sz:Nat}:∀ {xs:List (Nat×Operand)} {rs:List (Nat×Nat×RA)} {z y:List AV} {cs:Array Value},KB sz xs rs=true→RepL G z cs.toList→fill st.f rs z=some y→
  ∃cs',Instr.fill (fun i=>some (i*sz,sz)) cs (xs.map fun(i,x)=>(i,a.eval x))=some cs'∧RepL G y cs'.toList
 | [],[],z,y,cs,_,hz,hf=>by cases hf;exact⟨cs,rfl,hz⟩
 |(i,x) :: xs,(o,n,r) :: rs,z,y,cs,hc,hz,hf=>by
  simp only[KB,QmT,QmA]at hc;simp only[fill]at hf;obtain⟨⟨⟨rfl,rfl⟩,hca⟩,hc⟩:=hc;split at hf
  ·rename_i hh;obtain⟨h1,h2,h3⟩:=hh;have hr:=(Qs h hca).cells h3;have hl:=hr.length;have hzl:=hz.length;simp only[Qm1]at hl hzl;have hfold:=K2 (i*n) (a.eval x).cells.toList 0 cs (by simp only[Qm1];omega);simp only[Qm2]at hfold;have hsz:((a.eval x).cells.zipIdx.foldl (fun cs (c,j)=>cs.setIfInBounds (i*n+j) c) cs).toList=cs.toList.take (i*n)++(a.eval x).cells.toList++cs.toList.drop (i*n+(a.eval x).cells.toList.length):=by
    rw[←hfold,←Array.foldl_toList,Array.toList_zipIdx]
   obtain⟨cs',h4,h5⟩:=Du h (cs:=(a.eval x).cells.zipIdx.foldl (fun cs (c,j)=>cs.setIfInBounds (i*n+j) c) cs) hc (by rw[hsz];exact hz.splice hr (i*n)) hf;refine⟨cs',?_,h5⟩;simp only[Qm3,Instr.fill];rw[QmC (by simp;omega)];exact h4
  ·cases hf
 | [],_ :: _,_,_,_,hc,_,_=>by simp[KB]at hc
 |_ :: _,[],_,_,_,hc,_,_=>by simp[KB]at hc

end

def nn0:AV→AV
 |.nils=>.list []
 |x=>x

theorem Rep.nn0 {G:Gh}{x:AV}{v:Value}(h:Rep G x v):Rep G (nn0 x) v:=by
 unfold Am.nn0;split
 ·cases h;exact .list (sz:=0) (cs:=[]) .nil (by simp) rfl rfl (by simp) rfl (Qms _) (QmE _)
 ·exact h

theorem RepL.nn0 {G:Gh}:∀ {l:List AV} {vs:List Value},RepL G l vs→RepL G (l.map nn0) vs
 | [],_,h=>h
 |_ :: _,_,h=>by
  cases h with
  |cons h t=>exact .cons h.nn0 t.nn0

theorem QbW {x:AV}(h:x.rf=true):(nn0 x).rf=true:=by
 unfold Am.nn0;split
 ·rfl
 ·exact h
theorem Ax {x:AV}(h:x.leaf=true):(nn0 x).leaf=true:=by
 unfold Am.nn0;split
 ·rfl
 ·exact h
theorem Bu:∀ {l:List AV},AV.rfL l=true→AV.rfL (l.map nn0)=true
 | [],_=>rfl
 |x :: l,h=>by
  simp only[AV.rfL,QmT]at h;simp only[Qm3,AV.rfL,QmT];exact⟨QbW h.1,Bu h.2⟩
theorem Mx {l:List AV}(h:l.all AV.leaf=true):(l.map nn0).all AV.leaf=true:=by
 rw[QmI]at h ⊢;intro x hx;obtain⟨y,hy,rfl⟩:=QnQ.1 hx;exact Ax (h y hy)

section
variable {P:Program}{N:Nat}{st:St}{Q:St→Prop}

theorem Qu.bsl {d:Option Nat}{sz len:Nat}{z:List AV}{ps:List (Nat×Nat×RA)}{its:List Item}{y:List AV}(hy:fill st.f ps (X9 z sz len)=some y)(hf:AV.rfL y=true)(hl:y.all AV.leaf=true)
  (h:Qu P N its { st with f:=Qj st.f d (.list (Zl sz len (y.map nn0))) } Q):Qu P N (⟨d,.bsl sz len z ps,none⟩ :: its) st Q:=by
 refine Qu.step rfl fun G B a w o hr hd hdN hc K QQ hK=>?_
 cases ho:o.op<;>rw[ho]at hc<;>simp only[XJ,QmO,QmT,QmA,QmY,Qmz]at hc;rename_i t n Ql;obtain⟨⟨⟨⟨⟨rfl,hbig⟩,hsz0⟩,hlen0⟩,hty⟩,hps⟩:=hc;cases hu:P.underlying t with
 |none=>simp[hu]at hty
 |some dd=>
  cases dd with
  |slice e=>
   simp only[hu,Qnv,QmT,QmA]at hty;obtain⟨i,hi,rfl,hz⟩:=hty;cases hzv:i.zero with
   |none=>rw[hzv]at hz;cases hz
   |some zv=>
    rw[hzv]at hz;simp only[QmT,QmA]at hz;have rz:RepL G z zv.cells.toList:=isCL_ok hz.1;have hzl:zv.cells.size=i.size:=by
     have:=rz.length;simp only[Qm1]at this;omega
    have r0:RepL G (X9 z i.size n) ((Array.range (n*i.size)).map (zv.cells[· % zv.cells.size]!)).toList:=by
     refine RepL.of_all (by simp[X9]) fun j x v hx hv=>?_
     simp only[X9,QnT]at hx;simp only[Array.toList_map,Array.toList_range,QnT]at hv;by_cases hj:j<n*i.size
     ·rw[List.getElem?_range hj]at hx hv;simp only[QmV,QmW]at hx hv;have hm:j % i.size<i.size:=Nat.mod_lt _ (by omega);obtain⟨u,hu1,hu2⟩:=rz.at_ (i:=j % i.size) (Qmv (by omega));rw[Qmv (by omega)]at hx;simp only[QnH]at hx;subst hx;rw[hzl]at hv;rw[QmZ]at hu1;rw[Array.getElem!_eq_getD,QmF,hu1]at hv;simp only[QnH]at hv;subst hv;exact hu2
     ·rw[QnU (by simp;omega)]at hx;cases hx
    obtain⟨cs,hfill,hrep0⟩:=Du hr hps r0 hy;have hrep:=hrep0.nn0;have hf:=Bu hf;have hl:=Mx hl;have hyl:(y.map nn0).length=n*i.size:=by rw[Qnq,Ul hy];simp[X9]
    have hne:n*i.size≠0:=Nat.mul_ne_zero hlen0 hsz0;have hrun:(execOp a.eval o).run P w=.ok (.value (.slice (some ⟨w.heap.size,0,none⟩) n n)) (w.alloc (.cells cs e)):=by
     have e2:(Ql.map fun(x:Nat×Operand)=>(x.1,a.eval x.2)).toList=Ql.toList.map fun x=>(x.1,a.eval x.2):=by simp
     simp only[execOp,ho,Instr.buildSlice,Sem.run_bind,run_underlying hu,Result.andThen_ok,Xx hi];rw[QmC (by omega),QmC hne];simp only[Sem.run_bind,Sem.run_pure,Result.andThen_ok,zeroValue,typeInfo,run_program,hi,hzv,e2,hfill,newRow,run_newObj];rfl
    let stab':Nat→Nat→Option SV:=fun b k=>if b=w.heap.size then(cs[k]?).map .cell else G.stab b k
    have hlt:∀b k v,G.stab b k=some v→b<w.heap.size:=fun b k v e=>UR (hr.mr.stab b k v e)
    have hold:∀b,b<w.heap.size→(w.alloc (.cells cs e)).heap[b]? = w.heap[b]?:=fun b hb=>RowKit.Below.heap_alloc w _ b hb
    have hg:∀b k v,G.stab b k=some v→stab' b k=some v:=fun b k v e=>by
     have:=hlt b k v e;show(if b=w.heap.size then(cs[k]?).map .cell else G.stab b k)=some v;rw[QmC (by omega)];exact e
    have hs:∀b k v,stab' b k=some v→rd (w.alloc (.cells cs e)) b k v:=fun b k v e'=>by
     by_cases hb:b=w.heap.size
     ·subst hb;have e2:(cs[k]?).map SV.cell=some v:=(QmD rfl).symm.trans e';cases hk:cs[k]? with
      |none=>rw[hk]at e2;cases e2
      |some u=>
       rw[hk]at e2;cases e2;show World.cell? _ _=some u;rw[(XH.new (s:=0) w cs e rfl).cell];exact hk
     ·have e2:G.stab b k=some v:=(QmC hb).symm.trans e';exact JO (hold b (hlt b k v e2)) (hr.mr.stab b k v e2)
    have hm:∀b,G.mine b→∀k,stab' b k=none:=fun b hb k=>by
     have:=(hr.mr.mine hb).1;show(if b=w.heap.size then(cs[k]?).map .cell else G.stab b k)=none;rw[QmC (by omega)];exact(hr.mr.mine hb).2 k
    have hmr:=hr.mr.kept hold hs hg hm;have hext:Ext 0 G w (G.with stab' hg) (w.alloc (.cells cs e)):=Ext.bare (w:=w) (w':=w.alloc (.cells cs e)) (stab':=stab') rfl rfl rfl (by simp) hold hg fun b hb k=>QmC (Nat.ne_of_lt hb)
    unfold Oper.wp;rw[hrun];have hd':o.dst=d:=hd;show K (a.put o.dst _) _;rw[hd'];refine hK _ _ _ _ h ((hr.after hmr hext rfl).put hdN ?_) (hext.mono (QmE _));have hfl:=Fc i.size n _ hyl hl;refine .list (cs:=cs.toList) (sz:=i.size) ?_ (Fe i.size n _ hyl hl) (by rw[hfl];exact hf) (by rw[hfl];exact hl) (fun j u hu'=>?_) (HJ i.size n _).symm (Qms _) ?_
    ·rw[hfl];exact hrep.mono hext.gle
    ·refine⟨w.heap.size,0,rfl,?_⟩;show(if w.heap.size=w.heap.size then(cs[0+j]?).map SV.cell else _)=some (SV.cell u);rw[QmD rfl,QmU];have hu2:cs[j]? = some u:=by simpa using hu'
     rw[hu2];rfl
    ·have:n≤n*i.size:=Nat.le_mul_of_pos_right n (by omega);simp only[maxLen];omega
  |_=>simp[hu]at hty

theorem Qu.bslv {d:Option Nat}{site sz len:Nat}{z:List AV}{ps:List (Nat×Nat×RA)}{its:List Item}{y:List AV}(hy:fill st.f ps (X9 z sz len)=some y)(hf:AV.rfL y=true)(hl:y.all AV.leaf=true)(hro:Qn (Qc st.m 0 site)=true)
  (h:Qu P N its { st with m:=Am.put st.m 0 site (.vec (Qy st.m 0 site) sz (Zl sz len (y.map nn0))),f:=Qj st.f d (.vec 0 site (Qy st.m 0 site) 0 len false) } Q):Qu P N (⟨d,.bslv site sz len z ps,none⟩ :: its) st Q:=by
 refine Qu.step rfl fun G B a w o hr hd hdN hc K QQ hK=>?_
 cases ho:o.op<;>rw[ho]at hc<;>simp only[XJ,QmO,QmT,QmA,QmY,Qmz]at hc;rename_i t n Ql;obtain⟨⟨⟨⟨⟨rfl,hbig⟩,hsz0⟩,hlen0⟩,hty⟩,hps⟩:=hc;cases hu:P.underlying t with
 |none=>simp[hu]at hty
 |some dd=>
  cases dd with
  |slice e=>
   simp only[hu,Qnv,QmT,QmA]at hty;obtain⟨⟨i,hi,rfl,hz⟩,hte⟩:=hty;cases hzv:i.zero with
   |none=>rw[hzv]at hz;cases hz
   |some zv=>
    rw[hzv]at hz;simp only[QmT,QmA]at hz;have rz:RepL G z zv.cells.toList:=isCL_ok hz.1;have hzl:zv.cells.size=i.size:=by
     have:=rz.length;simp only[Qm1]at this;omega
    have r0:RepL G (X9 z i.size n) ((Array.range (n*i.size)).map (zv.cells[· % zv.cells.size]!)).toList:=by
     refine RepL.of_all (by simp[X9]) fun j x v hx hv=>?_
     simp only[X9,QnT]at hx;simp only[Array.toList_map,Array.toList_range,QnT]at hv;by_cases hj:j<n*i.size
     ·rw[List.getElem?_range hj]at hx hv;simp only[QmV,QmW]at hx hv;have hm:j % i.size<i.size:=Nat.mod_lt _ (by omega);obtain⟨u,hu1,hu2⟩:=rz.at_ (i:=j % i.size) (Qmv (by omega));rw[Qmv (by omega)]at hx;simp only[QnH]at hx;subst hx;rw[hzl]at hv;rw[QmZ]at hu1;rw[Array.getElem!_eq_getD,QmF,hu1]at hv;simp only[QnH]at hv;subst hv;exact hu2
     ·rw[QnU (by simp;omega)]at hx;cases hx
    obtain⟨cs,hfill,hrep0⟩:=Du hr hps r0 hy;have hrep:=hrep0.nn0;have hf:=Bu hf;have hl:=Mx hl;have hyl:(y.map nn0).length=n*i.size:=by rw[Qnq,Ul hy];simp[X9]
    have hne:n*i.size≠0:=Nat.mul_ne_zero hlen0 hsz0;have hrun:(execOp a.eval o).run P w=.ok (.value (.slice (some ⟨w.heap.size,0,none⟩) n n)) (w.alloc (.cells cs e)):=by
     have e2:(Ql.map fun(x:Nat×Operand)=>(x.1,a.eval x.2)).toList=Ql.toList.map fun x=>(x.1,a.eval x.2):=by simp
     simp only[execOp,ho,Instr.buildSlice,Sem.run_bind,run_underlying hu,Result.andThen_ok,Xx hi];rw[QmC (by omega),QmC hne];simp only[Sem.run_bind,Sem.run_pure,Result.andThen_ok,zeroValue,typeInfo,run_program,hi,hzv,e2,hfill,newRow,run_newObj];rfl
    have hcsz:cs.size=n*i.size:=by
     have:=hrep.length;simp only[Qm1]at this;omega
    have hfl:=Fc i.size n _ hyl hl;have hcl:=HJ i.size n (y.map nn0);have hnm:n≤maxLen:=by
     have:n≤n*i.size:=Nat.le_mul_of_pos_right n (by omega);simp only[maxLen];omega
    have hrow:RowIs G site (w.alloc (.cells cs e)) w.heap.size n i.size (Zl i.size n (y.map nn0)):=by
     refine⟨⟨cs,XH.new w _ e hte,hcsz,?_⟩,by rw[hcl];exact Qms _,hnm⟩;rw[hfl,hcl,Qm5 (by rw[Qm1,hcsz];exact Qms _)];exact hrep
    have hels:Elems i.size (Zl i.size n (y.map nn0)):=⟨Fe i.size n _ hyl hl,by rw[hfl];exact hf,by rw[hfl];exact hl⟩;have hgl:=Jn hr.mr hro;have hl0:0<st.m.length:=QnR.2 hr.ne;obtain⟨hr',he⟩:=hr.vecput (w':=w.alloc (.cells cs e)) (cap:=n) (b:=some w.heap.size) hl0 hro hgl rfl rfl rfl (by simp) (fun k hk _=>RowKit.Below.heap_alloc w _ k hk) (fun k e=>by cases e;exact .inr (Qms _)) hels (.inr ⟨_,rfl,hrow⟩);unfold Oper.wp;rw[hrun];have hd':o.dst=d:=hd;show K (a.put o.dst _) _;rw[hd'];exact hK _ _ _ _ h (hr'.put hdN (.vec rfl (Qnf (by simp[Gh.row])) fun _=>.inr ⟨w.heap.size,⟨w.heap.size,0,none⟩,n,by simp[Gh.row],by simp[Gh.row],rfl,Qms _,hnm,fun _=>by simp[Gh.row],fun _=>by simp⟩)) he
  |_=>simp[hu]at hty

theorem Qu.bsl0 {d:Option Nat}{site sz:Nat}{its:List Item}(hro:Qn (Qc st.m 0 site)=true)
  (h:Qu P N its { st with m:=Am.put st.m 0 site (.vec (Qy st.m 0 site) sz []),f:=Qj st.f d (.vec 0 site (Qy st.m 0 site) 0 0 false) } Q):Qu P N (⟨d,.bsl0 site sz,none⟩ :: its) st Q:=by
 refine Qu.step rfl fun G B a w o hr hd hdN hc K QQ hK=>?_
 cases ho:o.op<;>rw[ho]at hc<;>simp only[XJ,QmO,QmT,QmA]at hc;rename_i t n Ql;obtain⟨⟨rfl,hpe⟩,hty⟩:=hc;have hpe':Ql = #[]:=Array.isEmpty_iff.1 hpe;subst hpe';cases hu:P.underlying t with
 |none=>simp[hu]at hty
 |some dd=>
  cases dd with
  |slice e=>
   simp only[hu,Qnv,QmT,QmA]at hty;obtain⟨⟨i,hi,rfl⟩,hte⟩:=hty;have hrun:(execOp a.eval o).run P w=.ok (.value (.slice (some ⟨w.heap.size,0,none⟩) 0 0)) (w.alloc (.cells #[] e)):=by
    have e0:Array.range 0 = #[]:=rfl;simp[execOp,ho,Instr.buildSlice,Sem.run_bind,run_underlying hu,Result.andThen_ok,Xx hi,Instr.fill,newRow,e0]
   have hrow:RowIs G site (w.alloc (.cells #[] e)) w.heap.size 0 i.size []:=⟨⟨#[],XH.new w _ e hte,by simp,by simp[QK];exact .nil⟩,Qms _,QmE _⟩;have hels:Elems i.size []:=⟨by simp,rfl,rfl⟩;have hgl:=Jn hr.mr hro;have hl0:0<st.m.length:=QnR.2 hr.ne;obtain⟨hr',he⟩:=hr.vecput (w':=w.alloc (.cells #[] e)) (cap:=0) (b:=some w.heap.size) hl0 hro hgl rfl rfl rfl (by simp) (fun k hk _=>RowKit.Below.heap_alloc w _ k hk) (fun k e=>by cases e;exact .inr (Qms _)) hels (.inr ⟨_,rfl,hrow⟩);unfold Oper.wp;rw[hrun];have hd':o.dst=d:=hd;show K (a.put o.dst _) _;rw[hd'];exact hK _ _ _ _ h (hr'.put hdN (.vec rfl (Qnf (by simp[Gh.row])) fun _=>.inr ⟨w.heap.size,⟨w.heap.size,0,none⟩,0,by simp[Gh.row],by simp[Gh.row],rfl,Qms _,QmE _,fun _=>by simp[Gh.row],fun _=>by simp⟩)) he
  |_=>simp[hu]at hty

theorem Hw {w:World}{t e:TypeId}(hu:P.underlying t=some (.slice e))(A:Option Addr)(n c:Nat):(binOp .eql t (.slice A n c) (.slice none 0 0)).run P w=.ok (.bool A.isNone) w∧(binOp .neq t (.slice A n c) (.slice none 0 0)).run P w=.ok (.bool (!A.isNone)) w:=by
 have h:∀d:Nat,(Op.equalIn (d+1) t (.slice A n c) (.slice none 0 0)).run P w=.ok A.isNone w:=fun d=>by
  cases A<;>simp[Op.equalIn,run_underlying hu]
 simp only[binOp]
 constructor<;>simp[Op.equal,Op.maxDepth,h 9999]

theorem Qu.appc {d:Option Nat}{site sz bytes el:Nat}{s r:RA}{its:List Item}{xs ys:List AV}(hs:s.ev st.f=.lcap xs)(hy:QY st.m (r.ev st.f)=some ys)(hne:ys≠[])(hxz:xs.all (fun e=>e.cells.length==sz)=true)(hsz:ys.all (fun e=>e.cells.length==sz)=true)
  (hmax:xs.length+ys.length≤maxLen) (hb:(xs.length+ys.length)*bytes≤140737488355328) (hro:Qn (Qc st.m 0 site)=true)
  (h:Qu P N its { st with m:=Am.put st.m 0 site (.vec (Qy st.m 0 site) sz (xs++ys)),f:=Qj st.f d (.vec 0 site (Qy st.m 0 site) 0 (xs.length+ys.length) false) } Q):Qu P N (⟨d,.appc site sz bytes el s r,none⟩ :: its) st Q:=by
 refine Qu.step rfl fun G B a w o hr hd hdN hc K QQ hK=>?_
 cases ho:o.op<;>rw[ho]at hc<;>simp only[XJ,QmO]at hc;rename_i cl;split at hc
 case h_2=>cases hc
 rename_i o1 x y t t' o2;cases o2;simp only[QmT,QmA]at hc;obtain⟨⟨⟨rfl,hty⟩,hcs⟩,hcr⟩:=hc;cases hu:P.underlying t with
 |none=>simp[hu]at hty
 |some dd=>
  cases dd with
  |slice e=>
   simp only[hu,QmT,Qnv,QmY,QmA]at hty;obtain⟨⟨⟨⟨i,hi,⟨rfl,rfl⟩,hz⟩,hsz0⟩,rfl⟩,hte⟩:=hty;cases hzv:i.zero with
   |none=>rw[hzv]at hz;cases hz
   |some zv=>
    rw[hzv]at hz;simp only[QmA]at hz;have rs:=Qs hr hcs;rw[hs]at rs;obtain⟨A,c,hyv,sz',cs,hrep,hel,hcell⟩:=K3 hr hy (Qs hr hcr);have hall:∀u∈ys,u.cells.length=i.size:=fun u hu=>by simpa using QmI.1 hsz u hu
    have hallx:∀u∈xs,u.cells.length=i.size:=fun u hu=>by simpa using QmI.1 hxz u hu
    have hcl:cs.length=ys.length*i.size:=by rw[hrep.length,Kp hall]
    have hone:∀u∈cs,u.oneCell'=true:=hrep.leaves hel.leaf;have hylen:0<ys.length:=QnR.2 hne;have hsrc:Src P i.size t (.slice A ys.length c) ys.length cs w:=by
     cases cs with
     |nil=>
      have h0:ys.length=0:=by
       rcases Nat.mul_eq_zero.1 (by simpa using hcl.symm)with h0|h0
       ·exact h0
       ·exact absurd h0 hsz0
      omega
     |cons u0 us=>
      obtain⟨b,o',rfl,_⟩:=hcell 0 u0 rfl;refine Src.ofSlice (w:=w) hu ⟨b,o',none⟩ ys.length c (u0 :: us) hcl (fun j u hj=>?_) hone;obtain⟨b',o'',e,hcc⟩:=hcell j u hj;cases e;rw[XC];exact hcc
    revert rs
    generalize hxv:a.eval x=v;intro rs;cases rs with
    |lcap hc0 hz0 hf0 hl0 hs0 hn0 hm0=>
     rename_i cs0 A0 n0 sz0;subst hn0;have hcl0:cs0.length=xs.length*i.size:=by rw[hc0.length,Kp hallx]
     have hold:(Builtin.firstCells i.size xs.length (.slice A0 xs.length xs.length)).run P w.drew=.ok cs0.toArray w.drew:=by
      cases A0 with
      |none=>
       have:cs0=[]:=by
        cases cs0 with
        |nil=>rfl
        |cons u us=>
         obtain⟨b,o',e,_⟩:=hs0 0 u rfl;cases e
       subst this;exact run_firstCells_none w.drew i.size _ _ _
      |some ad=>
       refine run_firstCells_some w.drew i.size xs.length ad _ _ cs0 hcl0 fun j u hj=>?_
       obtain⟨b,o',e,hst⟩:=hs0 j u hj;cases e;show w.cell? _=_;rw[XC];exact hr.mr.stab _ _ _ hst
     have hmax':xs.length+ys.length≤9223372036854775807:=by simp only[maxLen]at hmax;omega
     have hrun:=run_append_grow_src (P:=P) w t t o.type e i zv hu hi hzv A0 xs.length xs.length cs0 hold (.slice A ys.length c) ys.length cs hsrc (by omega) (by omega) (growslice_fits (by omega) hb);have hge:=grownCap_ge w (xs.length+ys.length) xs.length e;have hcm:=grownCap_le_maxLen w (xs.length+ys.length) xs.length e hmax;generalize hcap:grownCap w (xs.length+ys.length) xs.length e=cap at hrun hge hcm;have hlen:(cs0++cs).length=(xs++ys).length*i.size:=by rw[Qm9,hcl0,hcl,Qm9,Qm6]
     have hrow:RowIs G site (w.drew.alloc (.cells ((cs0++cs).toArray++Builtin.zeroCells zv.cells (cap-(xs.length+ys.length))) e)) w.heap.size cap i.size (xs++ys):=by
      refine⟨⟨_,XH.new w.drew _ e hte,?_,?_⟩,by rw[Qm9];exact hge,hcm⟩
      ·simp only[Array.size_append,QnA,size_zeroCells,hz,hlen,Qm9,←Qm6];congr 1
       omega
      ·simp only[Array.toList_append];rw[←hlen,List.take_left,ZI];exact hc0.append hrep
     have hels:Elems i.size (xs++ys):=by
      refine⟨fun u hu=>?_,?_,?_⟩
      ·rcases QnP.1 hu with hu|hu
       ·exact hallx u hu
       ·exact hall u hu
      ·rw[ZI,J4,hf0,hel.rf];rfl
      ·rw[ZI,QnO,hl0,hel.leaf];rfl
     have hgl:=Jn hr.mr hro;have hl0':0<st.m.length:=QnR.2 hr.ne;obtain⟨hr',he⟩:=hr.vecput (w':=w.drew.alloc (.cells ((cs0++cs).toArray++Builtin.zeroCells zv.cells (cap-(xs.length+ys.length))) e)) (cap:=cap) (b:=some w.heap.size) hl0' hro hgl rfl rfl rfl (by simp) (fun k hk _=>RowKit.Below.heap_alloc w.drew _ k hk) (fun k e=>by cases e;exact .inr (Qms _)) hels (.inr ⟨_,rfl,hrow⟩);have hexec:(execOp a.eval o).run P w=.ok (.value (.slice (some ⟨w.heap.size,0,none⟩) (xs.length+ys.length) cap)) (w.drew.alloc (.cells ((cs0++cs).toArray++Builtin.zeroCells zv.cells (cap-(xs.length+ys.length))) e)):=by
      simp only[execOp,ho,resolve,invoke,builtin,Sem.run_bind,Sem.run_pure,Result.andThen_ok,Qnw,Qm3,Qnx,hyv,hxv,hrun]
     unfold Oper.wp;rw[hexec];have hd':o.dst=d:=hd;show K (a.put o.dst _) _;rw[hd'];exact hK _ _ _ _ h (hr'.put hdN (.vec rfl (Qnf (by simp[Gh.row])) fun _=>.inr ⟨w.heap.size,⟨w.heap.size,0,none⟩,cap,by simp[Gh.row],by simp[Gh.row];exact hge,rfl,hge,hcm,fun _=>by simp[Gh.row],fun _=>by simp⟩)) he
  |_=>simp[hu]at hty

theorem Qu.isnil {d:Option Nat}{neg:Bool}{r:RA}{its:List Item}{ys:List AV}(hx:QY st.m (r.ev st.f)=some ys)
  (h0:r.ev st.f≠.nils→Qu P N its { st with f:=Qj st.f d (.bool neg) } Q) (h1:(r.ev st.f=.nils∨QK ys=[])→Qu P N its { st with f:=Qj st.f d (.bool (!neg)) } Q):Qu P N (⟨d,.isnil neg r,none⟩ :: its) st Q:=by
 refine Qu.step rfl fun G B a w o hr hd hdN hc K QQ hK=>?_
 cases ho:o.op<;>rw[ho]at hc<;>simp only[XJ,QmO,QmT,QmA]at hc;rename_i b t x y yt;obtain⟨⟨⟨hty,rfl⟩,hcx⟩,hcy⟩:=hc;have hrx:=Qs hr hcx;obtain⟨A,c,hv,sz,cs,hrep,_,hcell⟩:=K3 hr hx hrx;have hry:=Qs hr hcy;have hyv:a.eval y=.slice none 0 0:=by
  revert hry
  generalize a.eval y=u;intro hry;have hry:Rep G .nils u:=hry;cases hry;rfl
 split at hty
 case h_2=>cases hty
 rename_i e hu;have hd':o.dst=d:=hd;have hguard:(eqGuard (bif neg then .neq else .eql) t x y (a.eval x) (a.eval y)).run P w=.ok () w:=by
  rw[hv,hyv];cases neg<;>simp[eqGuard]
 have fin:∀q:Bool,Qu P N its { st with f:=Qj st.f d (.bool q) } Q→(binOp (bif neg then .neq else .eql) t (a.eval x) (a.eval y)).run P w=.ok (.bool q) w→o.wp P a w K QQ:=by
  intro q hq hrun;have hexec:(execOp a.eval o).run P w=.ok (.value (.bool q)) w:=by
   simp only[execOp,ho,Sem.run_bind,hguard,hrun,Result.andThen_ok];rfl
  unfold Oper.wp;rw[hexec];show K (a.put o.dst _) w;rw[hd'];exact hK _ _ _ _ hq (hr.put hdN (.bool _)) (Ext.refl 1 G w)
 have key:(binOp (bif neg then .neq else .eql) t (a.eval x) (a.eval y)).run P w=.ok (.bool (bif A.isNone then !neg else neg)) w:=by
  rw[hv,hyv];cases neg
  ·rw[show(bif false then BinOp.neq else .eql)=.eql from rfl,(Hw hu A _ _).1];cases A<;>rfl
  ·rw[show(bif true then BinOp.neq else .eql)=.neq from rfl,(Hw hu A _ _).2];cases A<;>rfl
 cases A with
 |none=>
  refine fin _ (h1 (.inr ?_)) key;have hcs:cs=[]:=by
   cases cs with
   |nil=>rfl
   |cons u cs=>
    obtain⟨b,o,e,_⟩:=hcell 0 u rfl;cases e
  subst hcs;cases hf:QK ys with
  |nil=>rfl
  |cons z zs=>rw[hf]at hrep;cases hrep
 |some A=>
  refine fin _ (h0 fun e=>?_) key;rw[e]at hrx;rw[hv]at hrx;cases hrx

theorem BV.zero {y:Operand}(h:isZ y=true)(a:Act)(d:Nat):BV (some (a.eval y)) d 0:=by
 unfold isZ at h;split at h
 ·rename_i k n;simp only[QmA]at h;subst h;exact .inr ⟨k,0,rfl,QnV _,rfl⟩
 ·cases h

end

def Zx (sz:Nat)(z:List AV):AV:=if sz=1 then z.headD .top else .agg z

theorem G9 {sz:Nat}{z:List AV}(hz:z.length=sz)(hl:z.all AV.leaf=true):(Zx sz z).cells=z:=by
 unfold Zx;split
 ·rename_i h;subst h
  match z,hz with
  | [x],_=>
   show x.cells=[x];exact AV.leaf_cells (by simpa using hl)
 ·rfl

theorem Je {sz:Nat}{z:List AV}(hz:z.length=sz)(hl:z.all AV.leaf=true):∀(n:Nat),QK (List.replicate n (Zx sz z))=(List.replicate n z).flatten
 |0=>rfl
 |n+1=>by
  rw[List.replicate_succ,XQ,G9 hz hl,Je hz hl n];rfl

theorem UX {z:List AV}(hz:z.length≠0):∀(n j:Nat),j<n*z.length→(List.replicate n z).flatten[j]? = z[j % z.length]?
 |0,j,h=>by omega
 |n+1,j,h=>by
  rw[List.replicate_succ,List.flatten_cons];by_cases hj:j<z.length
  ·rw[QnW hj,Nat.mod_eq_of_lt hj]
  ·rw[QnX (by omega),UX hz n (j-z.length) (by rw[Nat.succ_mul]at h;omega)];rw[←Nat.mod_eq_sub_mod (by omega)]

theorem Wv {sz:Nat}{z:List AV}(hz:z.length=sz)(hf:AV.rfL z=true)(hl:z.all AV.leaf=true)(n:Nat):Elems sz (List.replicate n (Zx sz z)):=by
 refine⟨fun x hx=>?_,?_,?_⟩
 ·rw[(List.mem_replicate.1 hx).2,G9 hz hl,hz]
 ·rw[Je hz hl];rw[Mt]at hf ⊢;rw[QmI]at hf ⊢;intro x hx;obtain⟨l,h1,h2⟩:=List.mem_flatten.1 hx;rw[(List.mem_replicate.1 h1).2]at h2;exact hf x h2
 ·rw[Je hz hl];rw[QmI]at hl ⊢;intro x hx;obtain⟨l,h1,h2⟩:=List.mem_flatten.1 hx;rw[(List.mem_replicate.1 h1).2]at h2;exact hl x h2

section
variable {P:Program}{N:Nat}{st:St}{Q:St→Prop}

theorem Ay {G:Gh}{z:List AV}{zs:Array Value}{sz:Nat}(rz:RepL G z zs.toList)(hz:z.length=sz)(h0:sz≠0)(hlf:z.all AV.leaf=true)(n:Nat):RepL G (QK (List.replicate n (Zx sz z))) (Builtin.zeroCells zs n).toList:=by
 have hzl:zs.size=sz:=by
  have:=rz.length;simp only[Qm1]at this;omega
 rw[Je hz hlf];have hfl:((List.replicate n z).flatten).length=n*sz:=by simp[hz]
 refine RepL.of_all (by rw[hfl,Qm1,size_zeroCells,hzl]) fun j u v hju hjv=>?_
 have hj:j<n*sz:=by
  rw[←hfl];exact(Qmu.1 hju).1
 rw[UX (by rw[hz];exact h0) n j (by rw[hz];exact hj),hz]at hju;obtain⟨v',hv',hrep⟩:=rz.at_ hju;have:v=v':=by
  simp only[Builtin.zeroCells,Array.toList_map,Array.toList_range,QnT]at hjv;rw[List.getElem?_range (by rw[hzl];exact hj)]at hjv;simp only[QmV,QmW]at hjv;rw[hzl]at hjv;rw[QmZ]at hv';rw[Array.getElem!_eq_getD,QmF,hv']at hjv;simp only[QnH]at hjv;exact hjv.symm
 rw[this];exact hrep

theorem Qu.clr {d:Option Nat}{sz:Nat}{z:List AV}{r:RA}{its:List Item}{l s g o n:Nat}{q:Bool}{xs:List AV}(hr0:r.ev st.f=.vec l s g o n q)(hlk:Qc st.m l s=.vec g sz xs)(hon:o+n≤xs.length)(hn:0<n)
  (h:Qu P N its { st with m:=Am.put st.m l s (.vec g sz (xs.take o++List.replicate n (Zx sz z)++xs.drop (o+n))),f:=Qj st.f d (.tup []) } Q):Qu P N (⟨d,.clr sz z r,none⟩ :: its) st Q:=by
 refine Qu.step rfl fun G B a w op hr hd hdN hc K QQ hK=>?_
 cases ho:op.op<;>rw[ho]at hc<;>simp only[XJ,QmO]at hc;rename_i cl;split at hc
 case h_2=>cases hc
 rename_i o1 x t o2;cases o2;simp only[QmT]at hc;obtain⟨hty,hcr⟩:=hc;cases hu:P.underlying t with
 |none=>simp[hu]at hty
 |some dd=>
  cases dd with
  |slice e=>
   simp only[hu,QmT,Qnv,QmY,QmA]at hty;obtain⟨⟨⟨⟨i,hi,⟨rfl,hz⟩⟩,hsz0⟩,hrf⟩,hlf⟩:=hty;cases hzv:i.zero with
   |none=>rw[hzv]at hz;cases hz
   |some zv=>
    rw[hzv]at hz;simp only[QmT,QmA]at hz;have rx:=Qs hr hcr;rw[hr0]at rx;obtain⟨e1,e2,e3,e4⟩:=hr.mr.vec l s g i.size xs hlk;have rz:RepL G z zv.cells.toList:=isCL_ok hz.1;have hzl:zv.cells.size=i.size:=by
     have:=rz.length;simp only[Qm1]at this;omega
    generalize hv:a.eval x=v at rx;cases rx with
    |vec hv1 hg hh=>
     rcases hh e1.symm with⟨_,_,hn0,_⟩|⟨b,A,c,hb,hoc,rfl,hnc,hcm,_,hA⟩
     ·omega
     have hA:=hA ⟨by omega,.inr hn⟩;subst hA;rw[e2]at hv;rcases e4 with⟨e4,_⟩|⟨b',e4,hrow⟩
     ·rw[hb]at e4;cases e4
     ·rw[hb]at e4;cases e4;obtain⟨⟨cur,hsoft,hcs,hrep⟩,hle,hmax⟩:=hrow;have rep0:=Ay rz hz.2 hsz0 hlf n;have hel0:=Wv hz.2 hrf hlf n;have hls:(Builtin.zeroCells zv.cells n).toList.length=n*i.size:=by rw[Qm1,size_zeroCells,hzl]
      have hbig:o*i.size+n*i.size≤xs.length*i.size:=by rw[←Qm6];exact QnC _ hon
      have hbig2:xs.length*i.size≤cur.size:=by rw[hcs];exact QnC _ hle
      obtain⟨w',hst,hs',htn⟩:=Zn P s b (o*i.size) (Builtin.zeroCells zv.cells n).toList 0 w cur hsoft (by omega) (rep0.leaves hel0.leaf);have hrun:(Builtin.clear_ #[t] op.type #[a.eval x]).run P w=.ok (.tuple #[]) w':=by
       cases n with
       |zero=>omega
       |succ n=>simp only[Builtin.clear_,hv,List.getElem?_toArray,Qny,Sem.run_bind,run_underlying hu,Result.andThen_ok,Sem.run_pure,zeroValue,typeInfo,run_program,hi,hzv,hst]
      have hexec:(execOp a.eval op).run P w=.ok (.value (.tuple #[])) w':=by
       simp only[execOp,ho,resolve,invoke,builtin,Sem.run_bind,Sem.run_pure,Result.andThen_ok,Qnw,Qm3,Qnx,hrun]
      have hfl:QK (xs.take o++List.replicate n (Zx i.size z)++xs.drop (o+n))=(QK xs).take (o*i.size)++QK (List.replicate n (Zx i.size z))++(QK xs).drop (o*i.size+n*i.size):=by
       rw[ZI,ZI,Jm e3.size,←Qm6,ZZ e3.size]
      have hxl:(xs.take o++List.replicate n (Zx i.size z)++xs.drop (o+n)).length=xs.length:=by simp;omega
      have hels:Elems i.size (xs.take o++List.replicate n (Zx i.size z)++xs.drop (o+n)):=by
       refine⟨fun y hy=>?_,?_,?_⟩
       ·rcases QnP.1 hy with hy|hy
        ·rcases QnP.1 hy with hy|hy
         ·exact e3.size y (Qnj hy)
         ·exact hel0.size y hy
        ·exact e3.size y (Qni hy)
       ·rw[hfl];simp only[J4,QmT];exact⟨⟨ZX e3.rf fun y hy=>Qnj hy,hel0.rf⟩,ZX e3.rf fun y hy=>Qni hy⟩
       ·rw[hfl];simp only[QnO,QmT];exact⟨⟨XZ e3.leaf fun y hy=>Qnj hy,hel0.leaf⟩,XZ e3.leaf fun y hy=>Qni hy⟩
      have hr':Rel G B N { st with m:=Am.put st.m l s (.vec g i.size (xs.take o++List.replicate n (Zx i.size z)++xs.drop (o+n))) } a w':=by
       refine⟨?_,hr.size,hr.slots,hr.ds,hr.base,by rw[htn.size];exact hr.top,Ko hr.ne⟩;refine hr.mr.rowset hlk hb htn hels ⟨⟨_,hs',?_,?_⟩,by rw[hxl];exact hle,hmax⟩
       ·simp only[QnA,Qm9,Qns,Qnc,Qm1,hls];rw[Qm1]at hls;omega
       ·rw[hfl,hxl];have h6:(cur.toList.take (o*i.size+0)++(Builtin.zeroCells zv.cells n).toList++cur.toList.drop (o*i.size+0+(Builtin.zeroCells zv.cells n).toList.length)).toArray.toList.take (xs.length*i.size)=(cur.toList.take (xs.length*i.size)).take (o*i.size)++(Builtin.zeroCells zv.cells n).toList++(cur.toList.take (xs.length*i.size)).drop (o*i.size+(Builtin.zeroCells zv.cells n).toList.length):=by
         simp only[Qm2];exact G6 _ _ _ _ (by omega) (by simp only[Qm1];omega)
        rw[h6,hls];exact((hrep.take _).append rep0).append (hrep.drop _)
      unfold Oper.wp;rw[hexec];have hd':op.dst=d:=hd;show K (a.put op.dst _) _;rw[hd'];exact hK _ _ _ _ h (hr'.put hdN (.tup .nil)) (Ext.turned htn (.inr ⟨l,s,hb⟩))
  |_=>simp[hu]at hty

theorem Qu.mk {d:Option Nat}{site el sz bytes:Nat}{z:List AV}{l c:RA}{its:List Item}{kl kc:IntKind}{n m:Nat}(hl:l.ev st.f=.int kl (n:Int))(hcv:c.ev st.f=.int kc (m:Int))(hnm:n≤m)(hm:m≤9223372036854775807)(hb:bytes*m≤281474976710656)
  (hro:Qn (Qc st.m 0 site)=true)
  (h:Qu P N its { st with m:=Am.put st.m 0 site (.vec (Qy st.m 0 site) sz (List.replicate n (Zx sz z))),f:=Qj st.f d (.vec 0 site (Qy st.m 0 site) 0 n false) } Q):Qu P N (⟨d,.mk site el sz bytes z l c,none⟩ :: its) st Q:=by
 refine Qu.step rfl fun G B a w o hr hd hdN hc K QQ hK=>?_
 cases ho:o.op<;>rw[ho]at hc<;>simp only[XJ,QmO]at hc;rename_i t x y;simp only[QmT]at hc;obtain⟨⟨hty,hcl⟩,hcc⟩:=hc;cases hu:P.underlying t with
 |none=>simp[hu]at hty
 |some dd=>
  cases dd with
  |slice e=>
   simp only[hu,QmT,Qnv,QmY,QmA]at hty;obtain⟨⟨⟨⟨⟨⟨i,hi,⟨rfl,rfl⟩,hz⟩,hsz0⟩,rfl⟩,hte⟩,hrf⟩,hlf⟩:=hty;cases hzv:i.zero with
   |none=>rw[hzv]at hz;cases hz
   |some zv=>
    rw[hzv]at hz;simp only[QmT,QmA]at hz;have rl:=Qs hr hcl;have rc:=Qs hr hcc;rw[hl]at rl;rw[hcv]at rc;have hxv:a.eval x=.int kl (n:Int):=by
     revert rl
     generalize a.eval x=v;intro rl;cases rl;rfl
    have hyv:a.eval y=.int kc (m:Int):=by
     revert rc
     generalize a.eval y=v;intro rc;cases rc;rfl
    have hbb:(i.bytes:Int)*(m:Int)≤281474976710656:=by
     have h:((i.bytes*m:Nat):Int)≤281474976710656:=by omega
     rwa [Int.natCast_mul]at h
    have hrun:=run_make (P:=P) w t e i zv hu hi hzv kl kc (n:Int) (m:Int) (by omega) (by omega) hbb (by omega);simp only[QnY]at hrun;have rz:RepL G z zv.cells.toList:=isCL_ok hz.1;have hzl:zv.cells.size=i.size:=by
     have:=rz.length;simp only[Qm1]at this;omega
    have hsize:(madeCells zv.cells (m*i.size)).size=m*i.size:=size_madeCells _ _;have hrow:RowIs G site (w.alloc (.cells (madeCells zv.cells (m*i.size)) e)) w.heap.size m i.size (List.replicate n (Zx i.size z)):=by
     refine⟨⟨_,XH.new w _ e hte,hsize,?_⟩,by simpa using hnm,by simp only[maxLen];omega⟩;rw[Je hz.2 hlf,List.length_replicate];have hfl:((List.replicate n z).flatten).length=n*i.size:=by simp[hz.2]
     have hle:n*i.size≤m*i.size:=QnC _ hnm;refine RepL.of_all (by rw[hfl,Qns,Qm1,hsize];exact QnM hle) fun j u v hju hjv=>?_
     have hj:j<n*i.size:=by
      rw[←hfl];exact(Qmu.1 hju).1
     rw[UX (by rw[hz.2];exact hsz0) n j (by rw[hz.2];exact hj),hz.2]at hju;have hmod:j % i.size<i.size:=Nat.mod_lt _ (by omega);obtain⟨v',hv',hrep⟩:=rz.at_ hju;rw[List.getElem?_take_of_lt hj]at hjv;have:v=v':=by
      simp only[madeCells,Array.toList_map,Array.toList_range,QnT]at hjv;rw[List.getElem?_range (by omega)]at hjv;simp only[QmV,QmW]at hjv;rw[hzl]at hjv;rw[QmZ]at hv';rw[Array.getElem!_eq_getD,QmF,hv']at hjv;simp only[QnH]at hjv;exact hjv.symm
     rw[this];exact hrep
    have hgl:=Jn hr.mr hro;have hl0:0<st.m.length:=QnR.2 hr.ne;obtain⟨hr',he⟩:=hr.vecput (w':=w.alloc (.cells (madeCells zv.cells (m*i.size)) e)) (cap:=m) (b:=some w.heap.size) hl0 hro hgl rfl rfl rfl (by simp) (fun k hk _=>RowKit.Below.heap_alloc w _ k hk) (fun k e=>by cases e;exact .inr (Qms _)) (Wv hz.2 hrf hlf n) (.inr ⟨_,rfl,hrow⟩);have hexec:(execOp a.eval o).run P w=.ok (.value (.slice (some ⟨w.heap.size,0,none⟩) n m)) (w.alloc (.cells (madeCells zv.cells (m*i.size)) e)):=by
     simp only[execOp,ho,Sem.run_bind,hxv,hyv,hrun,Result.andThen_ok];rfl
    unfold Oper.wp;rw[hexec];have hd':o.dst=d:=hd;show K (a.put o.dst _) _;rw[hd'];refine hK _ _ _ _ h (hr'.put hdN (.vec rfl (Qnf (by simp[Gh.row])) fun _=>.inr ⟨w.heap.size,⟨w.heap.size,0,none⟩,m,by simp[Gh.row],by simp[Gh.row];exact hnm,rfl,hnm,by simp only[maxLen];omega,fun _=>by simp[Gh.row],fun _=>by simp⟩)) he
  |_=>simp[hu]at hty

theorem Qu.s2b {d:Option Nat}{site el:Nat}{r:RA}{its:List Item}{s:List UInt8}(hs:r.ev st.f=.str s)(hm:s.length≤9223372036854775807)(hro:Qn (Qc st.m 0 site)=true)
  (h:Qu P N its { st with m:=Am.put st.m 0 site (.vec (Qy st.m 0 site) 1 (Qr s)),f:=Qj st.f d (.vec 0 site (Qy st.m 0 site) 0 s.length false) } Q):Qu P N (⟨d,.s2b site el r,none⟩ :: its) st Q:=by
 refine Qu.step rfl fun G B a w o hr hd hdN hc K QQ hK=>?_
 cases ho:o.op<;>rw[ho]at hc<;>simp only[XJ,QmO]at hc;rename_i src dst x;simp only[QmT]at hc;obtain⟨⟨hst,hty⟩,hcx⟩:=hc;cases hu:P.underlying dst with
 |none=>simp[hu]at hty
 |some dd=>
  cases dd with
  |slice e=>
   simp only[hu,QmT,QmA]at hty;obtain⟨⟨hint,rfl⟩,hte⟩:=hty;have he8:P.underlying e=some (.int .u8):=by
    unfold Yi at hint;split at hint
    ·rename_i k hk;simp only[QmA]at hint;rw[hk,←hint]
    ·cases hint
   have rx:=Qs hr hcx;rw[hs]at rx;have hxv:a.eval x=.string ⟨⟨s⟩⟩:=by
    revert rx
    generalize a.eval x=v;intro rx;cases rx;rfl
   have hrun:=run_bytes_of_string (P:=P) w src dst e ⟨⟨s⟩⟩ (KA hst) hu he8;have hsz:(⟨⟨s⟩⟩:ByteArray).size=s.length:=rfl;rw[hsz]at hrun;have hge:=grownCap_ge w s.length 0 e;have hcm:=grownCap_le_maxLen w s.length 0 e (by simp only[maxLen];omega);generalize hcap:grownCap w s.length 0 e=cap at hrun hge hcm;have hrs:(bytesRow ⟨⟨s⟩⟩ cap).size=cap*1:=by
    simp only[bytesRow,Array.size_append,Array.size_map,Array.size_replicate,hsz,QnA];omega
   have hrow:RowIs G site (w.drew.alloc (.cells (bytesRow ⟨⟨s⟩⟩ cap) e ((bytesRow ⟨⟨s⟩⟩ cap).size,(bytesRow ⟨⟨s⟩⟩ cap).size+1))) w.heap.size cap 1 (Qr s):=by
    refine⟨⟨bytesRow ⟨⟨s⟩⟩ cap,⟨e,_,_,heap_alloc_new w.drew _,hte,fun o ho=>by omega⟩,hrs,?_⟩,by simpa [Qr]using hge,hcm⟩;rw[JP];have:(bytesRow ⟨⟨s⟩⟩ cap).toList.take ((Qr s).length*1)=s.map fun b=>Value.int .u8 (b.toNat:Int):=by
     have hl:(Qr s).length*1=(s.map fun b=>Value.int .u8 (b.toNat:Int)).length:=by simp[Qr]
     rw[hl];simp only[bytesRow,Array.toList_append,Array.toList_map];exact List.take_left
    rw[this];exact G8 s
   have hgl:=Jn hr.mr hro;have hl0:0<st.m.length:=QnR.2 hr.ne;obtain⟨hr',he⟩:=hr.vecput (w':=w.drew.alloc (.cells (bytesRow ⟨⟨s⟩⟩ cap) e ((bytesRow ⟨⟨s⟩⟩ cap).size,(bytesRow ⟨⟨s⟩⟩ cap).size+1))) (cap:=cap) (b:=some w.heap.size) hl0 hro hgl rfl rfl rfl (by simp) (fun k hk _=>RowKit.Below.heap_alloc w.drew _ k hk) (fun k e=>by cases e;exact .inr (Qms _)) (Hv s) (.inr ⟨_,rfl,hrow⟩);have hexec:(execOp a.eval o).run P w=.ok (.value (.slice (some ⟨w.heap.size,0,none⟩) s.length cap)) (w.drew.alloc (.cells (bytesRow ⟨⟨s⟩⟩ cap) e ((bytesRow ⟨⟨s⟩⟩ cap).size,(bytesRow ⟨⟨s⟩⟩ cap).size+1))):=by
    simp only[execOp,ho,Sem.run_bind,hxv,hrun,Result.andThen_ok];rfl
   unfold Oper.wp;rw[hexec];have hd':o.dst=d:=hd;show K (a.put o.dst _) _;rw[hd'];refine hK _ _ _ _ h (hr'.put hdN (.vec rfl (Qnf (by simp[Gh.row])) fun _=>.inr ⟨w.heap.size,⟨w.heap.size,0,none⟩,cap,by simp[Gh.row],by simp[Gh.row];exact hge,rfl,hge,hcm,fun _=>by simp[Gh.row],fun _=>by simp⟩)) he
  |_=>simp[hu]at hty

theorem Rel.other {G:Gh}{B:Nat}{a:Act}{w:World}(hr:Rel G B N st a w)(o:Obj):Rel G B N st a (w.alloc o)∧Ext 1 G w G (w.alloc o):=by
 have hold:∀b,b<w.heap.size→(w.alloc o).heap[b]? = w.heap[b]?:=fun b hb=>RowKit.Below.heap_alloc w _ b hb
 have hs:∀b k v,G.stab b k=some v→rd (w.alloc o) b k v:=fun b k v e=>JO (hold b (UR (hr.mr.stab b k v e))) (hr.mr.stab b k v e)
 have hmr:MR G st.m (w.alloc o):=hr.mr.kept (stab:=G.stab) hold hs (fun _ _ _ h=>h) fun b hb=>(hr.mr.mine hb).2
 refine⟨⟨hmr,hr.size,hr.slots,hr.ds,hr.base,Qmt hr.top (by simp),hr.ne⟩,rfl,rfl,rfl,by simp,fun _ _ _ h=>h,fun _ _ _=>rfl,fun _ _=>Qms _,fun _ _ _=>⟨rfl,rfl,rfl⟩,fun b hb _=>⟨hold b hb,fun _=>rfl⟩,fun _ h=>.inl h,fun l s _ h=>.inl ⟨l,s,Qms _,h⟩⟩

theorem Qu.usd {d:Option Nat}{r:RA}{its:List Item}{l s g n:Nat}{sz:Nat}{xs:List AV}(hs2:2000≤s)(hx:r.ev st.f=.vec l s g 0 n false)(hlk:Qc st.m l s=.vec g sz xs)
  (h:Qu P N its { st with f:=Qj st.f d (if n=0 then .anyp else .vptr l s g 0 0) } Q):Qu P N (⟨d,.usd r,none⟩ :: its) st Q:=by
 refine Qu.stepT rfl fun G B a w o hr hd hdN hc hT K QQ hK=>?_
 cases ho:o.op<;>rw[ho]at hc<;>simp only[XJ,QmO]at hc;rename_i cl;split at hc
 case h_2=>cases hc
 rename_i o1 x ts o2;cases o2;simp only[PC]at hT;split at hT
 case h_2=>cases hT
 rename_i pe hpe;have rx:=Qs hr hc;rw[hx]at rx;have hd':o.dst=d:=hd;have fin:∀(v:Value) (w':World),(Builtin.unsafeSliceData_ ts o.type #[a.eval x]).run P w=.ok v w'→(Rel G B N st a w'∧Ext 1 G w G w')→Rep G (if n=0 then .anyp else .vptr l s g 0 0) v→o.wp P a w K QQ:=by
  intro v w' hrun hrel hrep;have hexec:(execOp a.eval o).run P w=.ok (.value v) w':=by
   simp only[execOp,ho,resolve,invoke,builtin,Sem.run_bind,Sem.run_pure,Result.andThen_ok,Qnw,Qm3,Qnx,hrun]
  unfold Oper.wp;rw[hexec];show K (a.put o.dst v) w';rw[hd'];exact hK _ _ _ _ h (hrel.1.put hdN hrep) hrel.2
 obtain⟨e1,e2,e3,e4⟩:=hr.mr.vec l s g sz xs hlk;generalize a.eval x=v at rx fin;cases rx with
 |vec hone hg hh=>
  rcases hh e1.symm with⟨hvm,_,rfl,A0,rfl,hA0⟩|⟨b,A,c,hvm,hok,rfl,hkc,hcm,hq,hA⟩
  ·rw[hA0 hs2]at fin;exact fin _ w (Lib.run_unsafeSliceData_nil w _ _ 0 0) ⟨hr,Ext.refl 1 G w⟩ (by rw[QmD rfl];exact .anyp none)
  ·have hA':=hA ⟨.inr rfl,.inl rfl⟩;simp only[Nat.zero_mul]at hA';subst hA';by_cases hc0:c=0
   ·subst hc0;have hn:n=0:=by omega
    subst hn;rcases e4 with⟨e,_⟩|⟨b',e,hrow⟩
    ·rw[hvm]at e;cases e
    ·rw[hvm]at e;cases e;obtain⟨cur,⟨t',lo,hi,hheap,_⟩,_⟩:=hrow.cur;have hsh:w.shape? b=some (t',cur.size):=by unfold World.shape?;rw[hheap]
     exact fin _ _ (Lib.run_unsafeSliceData_zero w _ _ pe hpe ⟨b,0,none⟩ 0 _ hsh) (hr.other _) (by rw[QmD rfl];exact .anyp _)
   ·refine fin _ w (Lib.run_unsafeSliceData_row w _ _ _ _ _ hc0) ⟨hr,Ext.refl 1 G w⟩ ?_;by_cases hn:n=0
    ·rw[QmD hn];exact .anyp _
    ·rw[QmC hn];exact .vptr rfl hg fun _=>⟨b,hvm,by simp⟩

theorem Qu.ustr0 {d:Option Nat}{el:Nat}{p r:RA}{its:List Item}(hp:p.ev st.f=.anyp)(hx:r.ev st.f=.int .i64 0)
  (h:Qu P N its { st with f:=Qj st.f d (.str []) } Q):Qu P N (⟨d,.ustr el p r,none⟩ :: its) st Q:=by
 refine Qu.step rfl fun G B a w o hr hd hdN hc K QQ hK=>?_
 cases ho:o.op<;>rw[ho]at hc<;>simp only[XJ,QmO]at hc;rename_i cl;split at hc
 case h_2=>cases hc
 rename_i o1 x y pt it o2;cases o2;simp only[QmT]at hc;obtain⟨⟨h1,h2⟩,h3⟩:=hc;have r1:=Qs hr h2;have r2:=Qs hr h3;rw[hp]at r1;rw[hx]at r2;have hyv:a.eval y=.int .i64 0:=by
  revert r2
  generalize a.eval y=v;intro r2;cases r2;rfl
 obtain⟨q,hxv⟩:∃q,a.eval x=.pointer q:=by
  revert r1
  generalize a.eval x=v;intro r1;cases r1;exact⟨_,rfl⟩
 have hrun:=Lib.run_unsafeString_none (P:=P) w pt it o.type q;have hexec:(execOp a.eval o).run P w=.ok (.value (.string .empty)) w:=by
  simp only[execOp,ho,resolve,invoke,builtin,Sem.run_bind,Sem.run_pure,Result.andThen_ok,Qnw,Qm3,Qnx,hxv,hyv,hrun]
 unfold Oper.wp;rw[hexec];have hd':o.dst=d:=hd;show K (a.put o.dst _) _;rw[hd'];exact hK _ _ _ _ h (hr.put hdN (.str [])) (Ext.refl 1 G w)

theorem Qu.ustr {d:Option Nat}{el:Nat}{p r:RA}{its:List Item}{l g n:Nat}{xs:List AV}{s:List UInt8}(hp:p.ev st.f=.vptr l (el+2000) g 0 0)(hx:r.ev st.f=.int .i64 (n:Int))(hlk:Qc st.m l (el+2000)=.vec g 1 xs)(hn:n≤xs.length)(hn0:n≠0)(hs:xs.take n=Qr s)
  (h:Qu P N its { st with m:=Am.put st.m l (el+2000) (.vec (g+1) 1 []),f:=Qj st.f d (.str s) } Q):Qu P N (⟨d,.ustr el p r,none⟩ :: its) st Q:=by
 refine Qu.step rfl fun G B a w o hr hd hdN hc K QQ hK=>?_
 cases ho:o.op<;>rw[ho]at hc<;>simp only[XJ,QmO]at hc;rename_i cl;split at hc
 case h_2=>cases hc
 rename_i o1 x y pt it o2;cases o2;simp only[QmT]at hc;obtain⟨⟨h1,h2⟩,h3⟩:=hc;split at h1
 case h_2=>cases h1
 rename_i e hpt;simp only[QmT,QmA]at h1;obtain⟨rfl,hco⟩:=h1;have r1:=Qs hr h2;have r2:=Qs hr h3;rw[hp]at r1;rw[hx]at r2;have hyv:a.eval y=.int .i64 (n:Int):=by
  revert r2
  generalize a.eval y=v;intro r2;cases r2;rfl
 obtain⟨e1,e2,e3,e4⟩:=hr.mr.vec l (e+2000) g 1 xs hlk;have hsl:s.length=n:=by
  have:=congrArg List.length hs;simp only[Qns,Qr,Qnq]at this;omega
 obtain⟨b,hvm,hrow⟩:∃b,G.vm l (e+2000)=some b∧RowIs G (e+2000) w b (G.vc l (e+2000)) 1 xs:=by
  rcases e4 with⟨_,e⟩|h'
  ·subst e;simp at hn;exact absurd hn hn0
  ·exact h'
 have hxv:a.eval x=.pointer (some ⟨b,0,none⟩):=by
  revert r1
  generalize a.eval x=v;intro r1;cases r1 with
  |vptr _ _ hh=>
   obtain⟨b',e',rfl⟩:=hh e1.symm;rw[hvm]at e';cases e';simp
 obtain⟨⟨cur,⟨t',lo,hi,hheap,hty,hfr⟩,hcsz,hrep⟩,hle,hmx⟩:=hrow;have ht:t'=e:=Mr (s:=e+2000) hty (by simp[XY]) (by omega);subst ht;have hsh:w.shape? b=some (t',cur.size):=by unfold World.shape?;rw[hheap]
 have hne:s≠[]:=by rintro rfl;simp at hsl;exact hn0 hsl.symm
 have hcell:∀j u,s[j]? = some u→w.cell? ((⟨b,0,none⟩:Addr).add j)=some (.int .u8 u.toNat):=by
  intro j u hj;rw[XC,QmU,cell_of_row w b j cur t' (lo,hi) hheap,←QmZ];have hjl:j<s.length:=(Qmu.1 hj).1;have hrep':=hrep.take n;rw[Nat.mul_one,List.take_take,QnM hn]at hrep';have hft:(QK xs).take n=Qr s:=by
   have:=Jm e3.size n;rw[Nat.mul_one]at this;rw[this,hs,JP]
  rw[hft]at hrep';have hb:(Qr s)[j]? = some (.int .u8 (u.toNat:Int)):=by simp[Qr,hj]
  obtain⟨v,hv,hr1⟩:=hrep'.at_ hb;cases hr1;rw[Qna]at hv;split at hv
  ·exact hv
  ·cases hv
 have hlc:s.length≤cur.size:=by rw[hcsz,hsl];omega
 have hrun:=Lib.run_unsafeString_row (P:=P) w pt it o.type t' hpt hco b cur.size hsh s hne hlc (by simp only[maxLen]at hmx;omega) hcell;rw[hsl]at hrun;have hexec:(execOp a.eval o).run P w=.ok (.value (.string ⟨s.toArray⟩)) (w.freeze ⟨b,0,none⟩ n):=by
  simp only[execOp,ho,resolve,invoke,builtin,Sem.run_bind,Sem.run_pure,Result.andThen_ok,Qnw,Qm3,Qnx,hxv,hyv,hrun]
 have hfz:(w.freeze ⟨b,0,none⟩ n).os=w.os∧(w.freeze ⟨b,0,none⟩ n).tape=w.tape∧(w.freeze ⟨b,0,none⟩ n).output=w.output∧(w.freeze ⟨b,0,none⟩ n).heap.size=w.heap.size∧∀k,k≠b→(w.freeze ⟨b,0,none⟩ n).heap[k]? = w.heap[k]?:=by
  unfold World.freeze;split
  ·exact⟨rfl,rfl,rfl,rfl,fun _ _=>rfl⟩
  ·refine⟨rfl,rfl,rfl,by simp,fun k hk=>?_⟩;simp only[Array.getElem?_modify];rw[QmC (fun e=>hk e.symm)]
 have hlm:l<st.m.length:=Q8 (by rw[hlk];simp);obtain⟨hr',he⟩:=hr.vecput (w':=w.freeze ⟨b,0,none⟩ n) (l:=l) (s:=t'+2000) (g:=g+1) (sz:=1) (cap:=0) (b:=none) (ys:=[]) hlm (by rw[hlk];rfl) (by omega) hfz.1 hfz.2.1 hfz.2.2.1 (by rw[hfz.2.2.2.1];exact Qms _) (fun k _ hk=>hfz.2.2.2.2 k (fun e=>hk (by rw[e,hvm]))) (fun k e=>by cases e) ⟨by simp,rfl,rfl⟩ (.inl ⟨rfl,rfl⟩);unfold Oper.wp;rw[hexec];have hd':o.dst=d:=hd;show K (a.put o.dst _) _;rw[hd'];exact hK _ _ _ _ h (hr'.put hdN (.str s)) he

end

end Go.Proofs.YtkhpgmeokilhaaaGreatDoor.Am

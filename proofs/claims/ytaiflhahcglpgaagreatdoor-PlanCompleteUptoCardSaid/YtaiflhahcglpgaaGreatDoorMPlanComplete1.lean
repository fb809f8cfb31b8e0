/- Parts of the proof, in order. -/
import Derived.Orders
import Derived.Defers
import Derived.Below
import Derived.ChangeSame
import Derived.ProofKit
import Derived.OpenShut
import Derived.ChangeArms
import Derived.Lib.SmallJoins
import Derived.Deep.Slices
import Derived.DataShut
import Derived.Test.YtaiflhahcglpgaaGreatDoorRows
import Derived.Test.YtaiflhahcglpgaaGreatDoorProg
import Derived.WalkKit
import Derived.Test.YtaiflhahcglpgaaGreatDoorMPlanComplete0

namespace Go.Proofs.YtaiflhahcglpgaaGreatDoor.Am
open Go

def RA.sl:RA→List Nat
 |.t n=>[n]
 |_=>[]
def P1:Option RA→List Nat
 |some r=>r.sl
 |none=>[]
def VO.sl:VO→List Nat
 |.mov x=>x.sl
 |.pick c a b=>c.sl++(a.sl++b.sl)
 |.build _ ps=>ps.flatMap fun p=>p.2.2.sl
 |.load _ x=>x.sl
 |.loadv _ _ _ x=>x.sl
 |.loado _ x=>x.sl
 |.loadr _ x=>x.sl
 |.nilck x=>x.sl
 |.un _ x=>x.sl
 |.cvi _ x=>x.sl
 |.faddr _ x=>x.sl
 |.fld _ _ x=>x.sl
 |.ext x _=>x.sl
 |.len _ x=>x.sl
 |.bin _ _ x y=>x.sl++y.sl
 |.eqs _ _ x y=>x.sl++y.sl
 |.iaddr _ _ x y=>x.sl++y.sl
 |.idx x y=>x.sl++y.sl
 |.mnx _ x y=>x.sl++y.sl
 |.slc _ x lo hi mx=>x.sl++(P1 lo++(P1 hi++P1 mx))
 |.mkfn _ a b=>a.flatMap RA.sl++b.flatMap RA.sl
 |.same x=>x.sl
 |.mget _ _ x y=>x.sl++y.sl
 |.mgetp _ _ x y=>x.sl++y.sl
 |.aidx _ _ _ x y=>x.sl++y.sl
def RO.sl:RO→List Nat
 |.val v=>v.sl
 |.allocN _ _=>[]
 |.boxN _ r=>r.sl
 |.store _ p r=>p.sl++r.sl
 |.storev _ _ _ p r=>p.sl++r.sl
 |.app _ _ _ s r=>s.sl++r.sl
 |.mk _ _ _ _ _ l c=>l.sl++c.sl
 |.bsl _ _ _ ps=>ps.flatMap fun p=>p.2.2.sl
 |.call f rs=>f.sl++rs.flatMap RA.sl
 |.callF f rs=>f.sl++rs.flatMap RA.sl
 |.bsl0 _ _=>[]
 |.lit0 _=>[]
 |.appe _ _ _ s r=>s.sl++r.sl
 |.isnil _ x=>x.sl
 |.xb _ _ s c=>s.sl++c.sl
 |.callK _ _ f rs=>f.sl++rs.flatMap RA.sl
 |.rngs _ r=>r.sl
 |.nxts r=>r.sl
 |.mkm _=>[]
 |.mput x y z=>x.sl++(y.sl++z.sl)
def Item.sl (it:Item):List Nat:=it.op.sl++(match it.g with|some (j,_)=>[j]|none=>[])

def Zr (l:List Nat)(f f':Fr):Prop:=∀t,t∈l→f t=f' t
theorem Zr.left {a b:List Nat}{f f':Fr}(h:Zr (a++b) f f'):Zr a f f':=fun t ht=>h t (List.mem_append_left _ ht)
theorem Zr.right {a b:List Nat}{f f':Fr}(h:Zr (a++b) f f'):Zr b f f':=fun t ht=>h t (List.mem_append_right _ ht)

theorem RA.ev_same {r:RA}{f f':Fr}(h:Zr r.sl f f'):r.ev f=r.ev f':=by
 cases r with
 |t n=>exact h n (by simp[RA.sl])
 |c x=>rfl
 |f k=>rfl
 |g k l=>rfl

theorem JY:∀ {rs:List RA} {f f':Fr},Zr (rs.flatMap RA.sl) f f'→rs.map (RA.ev f)=rs.map (RA.ev f')
 | [],_,_,_=>rfl
 |r :: rs,f,f',h=>by
  rw[List.flatMap_cons]at h;rw[QF3,QF3,RA.ev_same h.left,JY h.right]

theorem WF {f f':Fr}:∀ {ps:List (Nat×Nat×RA)} {z:List AV},Zr (ps.flatMap fun p=>p.2.2.sl) f f'→fill f ps z=fill f' ps z
 | [],_,_=>rfl
 |(o,n,r) :: ps,z,h=>by
  rw[List.flatMap_cons]at h;simp only[fill,RA.ev_same h.left,WF h.right]

theorem Yy {f f':Fr}{d:Nat}{r:Option RA}(h:Zr (P1 r) f f'):JR f d r=JR f' d r:=by
 cases r with
 |none=>rfl
 |some r=>simp only[JR,RA.ev_same (r:=r) h]

theorem MH {f f':Fr}{m:Ql}{vo:VO}(h:Zr vo.sl f f'):QC f m vo=QC f' m vo:=by
 cases vo with
 |mov x=>simp only[QC,RA.ev_same (r:=x) h]
 |pick c a b=>simp only[QC,RA.ev_same (r:=c) h.left,RA.ev_same (r:=a) h.right.left,RA.ev_same (r:=b) h.right.right]
 |build z ps=>simp only[QC,WF (ps:=ps) h]
 |load k x=>simp only[QC,RA.ev_same (r:=x) h]
 |loadv l s k x=>simp only[QC,RA.ev_same (r:=x) h]
 |loado k x=>simp only[QC,RA.ev_same (r:=x) h]
 |loadr k x=>simp only[QC,RA.ev_same (r:=x) h]
 |nilck x=>simp only[QC,RA.ev_same (r:=x) h]
 |un o x=>simp only[QC,RA.ev_same (r:=x) h]
 |cvi k x=>simp only[QC,RA.ev_same (r:=x) h]
 |faddr o x=>simp only[QC,RA.ev_same (r:=x) h]
 |fld o k x=>simp only[QC,RA.ev_same (r:=x) h]
 |ext x i=>simp only[QC,RA.ev_same (r:=x) h]
 |same x=>simp only[QC,RA.ev_same (r:=x) h]
 |len k x=>simp only[QC,RA.ev_same (r:=x) h]
 |bin t o x y=>simp only[QC,RA.ev_same (r:=x) h.left,RA.ev_same (r:=y) h.right]
 |eqs n ks x y=>simp only[QC,RA.ev_same (r:=x) h.left,RA.ev_same (r:=y) h.right]
 |iaddr sz len x y=>simp only[QC,RA.ev_same (r:=x) h.left,RA.ev_same (r:=y) h.right]
 |idx x y=>simp only[QC,RA.ev_same (r:=x) h.left,RA.ev_same (r:=y) h.right]
 |mget ok z x y=>simp only[QC,RA.ev_same (r:=x) h.left,RA.ev_same (r:=y) h.right]
 |mgetp ok z x y=>simp only[QC,RA.ev_same (r:=x) h.left,RA.ev_same (r:=y) h.right]
 |aidx n sz k x y=>simp only[QC,RA.ev_same (r:=x) h.left,RA.ev_same (r:=y) h.right]
 |mnx b x y=>simp only[QC,RA.ev_same (r:=x) h.left,RA.ev_same (r:=y) h.right]
 |slc sz x lo hi mx=>
  have h1:=h.right.left;have h2:=h.right.right.left;have h3:=h.right.right.right;simp only[QC,RA.ev_same (r:=x) h.left,Yy (r:=lo) h1,Yy (r:=hi) h2];cases mx with
  |none=>rfl
  |some r=>simp only[Yy (r:=some r) h3]
 |mkfn fn a b=>simp only[QC,JY (rs:=a) h.left,JY (rs:=b) h.right]

inductive MC where
 |no
 |shape
 |rows
 |cell (l s:Nat)
 |outer
 |all
 deriving DecidableEq

def VO.mc:VO→MC
 |.load _ _=>.all
 |.loadv l s _ _=>.cell l s
 |.loado _ _=>.outer
 |.loadr _ _=>.rows
 |.nilck _=>.shape
 |.faddr _ _=>.shape
 |.len _ _=>.shape
 |.slc .. => .shape
 |.iaddr .. => .shape
 |.mget .. => .all
 |_=>.no

def Ob.sh:Ob→Option (Nat×Nat)
 |.vec g z _=>some (g,z)
 |_=>Option.none
def Ob.row:Ob→Option (Nat×Nat×List AV)
 |.vec g z xs=>some (g,z,xs)
 |_=>Option.none

def Xm:MC→Ql→Ql→Prop
 |.no,_,_=>True
 |.shape,m,m'=>∀l s,(Qh m l s).sh=(Qh m' l s).sh
 |.rows,m,m'=>∀l s,(Qh m l s).row=(Qh m' l s).row
 |.cell l s,m,m'=>Qh m l s=Qh m' l s∨((Qh m l s).isRow=true∧(Qh m' l s).isRow=true)
 |.outer,m,m'=>∀l s,Qh m (l+1) s=Qh m' (l+1) s
 |.all,m,m'=>m=m'

theorem Xm.refl (c:MC)(m:Ql):Xm c m m:=by
 cases c<;>simp[Xm]

theorem WG {m m':Ql}{l s:Nat}(h:(Qh m l s).sh=(Qh m' l s).sh):K9 m l s=K9 m' l s:=by
 unfold K9;cases h1:Qh m l s<;>cases h2:Qh m' l s<;>rw[h1,h2]at h<;>simp_all[Ob.sh]

theorem Gn {m m':Ql}(h:Xm .shape m m')(sz:Option Nat)(x:AV)(lo hi:Nat)(mx:Option Nat):Xo m sz x lo hi mx=Xo m' sz x lo hi mx:=by
 cases sz with
 |none=>rfl
 |some z=>
  cases x with
  |vec l s g o n q=>
   have h:=h l s;simp only[Xo];cases h1:Qh m l s<;>cases h2:Qh m' l s<;>rw[h1,h2]at h<;>simp_all[Ob.sh]
  |_=>rfl

theorem Gp {m m':Ql}(h:Xm .shape m m')(sz:Nat)(len:Option Nat)(x:AV)(i:Int):Qe m sz len x i=Qe m' sz len x i:=by
 unfold Qe;cases len with
 |none=>
  cases x with
  |vec l s g o n q=>
   have h:=h l s;simp only;cases h1:Qh m l s<;>cases h2:Qh m' l s<;>rw[h1,h2]at h<;>simp_all[Ob.sh]
  |_=>rfl
 |some k=>rfl

def MI (F:Nat→List AV→Option AV):Ob→Option AV
 |.vec g _ xs=>F g xs
 |_=>none

theorem Nt {o o':Ob}(h:o.row=o'.row)(F:Nat→List AV→Option AV):MI F o=MI F o':=by
  cases o<;>cases o'<;>simp only[Ob.row,QFY,Prod.mk.injEq,reduceCtorEq]at h<;>first
    |rfl
    | (obtain⟨rfl,_,rfl⟩:=h
       rfl)

theorem Y2 (m:Ql)(k:Option Nat)(l s g i o:Nat):Xw m k (.vptr l s g i o)=MI (fun g' xs=>if g=g' then match xs[i]? with
  |some e=>part e.cells o k
  |none=>none
 else none) (Qh m l s):=by
 simp only[Xw];cases Qh m l s<;>rfl

theorem Ta {f:Fr}{m m':Ql}{vo:VO}(h:Xm vo.mc m m'):QC f m vo=QC f m' vo:=by
 cases vo<;>simp only[VO.mc]at h<;>try rfl
 case load k x=>have h:m=m':=h;subst h;rfl
 case mget ok z x i=>have h:m=m':=h;subst h;rfl
 case loado k x=>
  have h:∀l s,Qh m (l+1) s=Qh m' (l+1) s:=h;simp only[QC];split
  ·simp only[Xw,h]
  ·rfl
 case loadv l s k x=>
  have h:Qh m l s=Qh m' l s∨((Qh m l s).isRow=true∧(Qh m' l s).isRow=true):=h;simp only[QC];split
  ·split
   ·rename_i hh;obtain⟨rfl,rfl⟩:=hh;rcases h with h|⟨h1,h2⟩
    ·simp only[Xw,h]
    ·simp only[Xw];cases e1:Qh m _ _<;>cases e2:Qh m' _ _<;>rw[e1]at h1<;>rw[e2]at h2<;>first|rfl|(simp[Ob.isRow]at h1;done)|(simp[Ob.isRow]at h2;done)
   ·rfl
  ·rfl
 case loadr k x=>
  simp only[QC];split
  ·rfl
  ·rename_i l s g i o e;have h4:(Qh m l s).row=(Qh m' l s).row:=h l s;rw[Y2,Y2,Nt h4]
  ·rfl
 case nilck x=>simp only[QC,fun l s=>WG (h l s)]
 case faddr o x=>simp only[QC,fun l s=>WG (h l s)]
 case len k x=>simp only[QC,fun l s=>WG (h l s)]
 case slc sz x lo hi mx=>simp only[QC,Gn h]
 case iaddr sz len x i=>simp only[QC,Gp h]

mutual
theorem Y3 {m m':Ql}(h:Xm .rows m m'):∀x:AV,x.still false m=x.still false m'
 |.vec l s g o n q=>by
   have h:=h l s;simp only[AV.still];cases h1:Qh m l s<;>cases h2:Qh m' l s<;>rw[h1,h2]at h<;>simp_all[Ob.row]
 |.agg l=>by simp only[AV.still,J4 h l]
 |.tup l=>by simp only[AV.still,J4 h l]
 |.iface t x=>by simp only[AV.still,Y3 h x]
 |.top|.int .. | .bool _|.str _|.nils|.nilp|.nilf|.nili|.nilm|.anyp|.list _|.lcap _|.fn .. | .ptr .. | .vptr .. | .rptr _|.mp .. => rfl
 |.mptr l s=>by simp only[AV.still,QGP,QFQ,if_false]
theorem J4 {m m':Ql}(h:Xm .rows m m'):∀l:List AV,AV.stillL false m l=AV.stillL false m' l
 | []=>rfl
 |x :: l=>by simp only[AV.stillL,Y3 h x,J4 h l]
end

def RO.pure:RO→Bool
 |.val _=>true
 |.bsl .. => true
 |.call _ _=>true
 |.lit0 _=>true
 |.appe .. => true
 |_=>false

def RO.mc:RO→MC
 |.val v=>v.mc
 |.call _ _=>.rows
 |.bsl .. => .no
 |.lit0 _=>.no
 |.appe .. => .no
 |_=>.all

section
variable {P:Program}

def BB (P:Program)(op:RO)(st:St)(x:AV):Prop :=
 match op with
 |.val vo=>QC st.f st.m vo=some x
 |.call f args=>∃k fa fb ys,f.ev st.f=.fn (.func k) fa fb∧AV.stillL false st.m (fa++args.map (RA.ev st.f)++fb)=some ys∧AV.rfL ys=true∧Qr P k ys x∧x.rf=true∧(AV.rfL (fa++args.map (RA.ev st.f)++fb)=true∨x.nl=true)
 |_=>False

def X2 (P:Program)(op:RO)(st:St)(x:AV)(m:Ql):Prop :=
 match op with
 |.val vo=>QC st.f st.m vo=some x∧m=st.m
 |.call f args=>BB P (.call f args) st x∧m=st.m
 |.allocN s z=>XC st.m s=true∧x=.ptr 0 s 0∧m=Am.put st.m 0 s (.cells z)
 |.boxN s r=>XC st.m s=true∧(r.ev st.f).cells.all AV.leaf=true∧x=.ptr 0 s 0∧m=Am.put st.m 0 s (.cells (r.ev st.f).cells)
 |.store n p r=>(r.ev st.f).cells.length=n∧(r.ev st.f).cells.all AV.leaf=true∧Q5 st.m (p.ev st.f) (r.ev st.f).cells=some m∧x=.tup []
 |.storev l s n p r=>(∃o,p.ev st.f=.ptr l s o)∧(r.ev st.f).cells.length=n∧(r.ev st.f).cells.all AV.leaf=true∧Q5 st.m (p.ev st.f) (r.ev st.f).cells=some m∧x=.tup []
 |.app sz bytes el s r=>∃l site g n xs ys,s.ev st.f=.vec l site g 0 n false∧Qh st.m l site=.vec g sz xs∧X8 site el=true∧n≤xs.length∧XN st.m (r.ev st.f)=some ys∧ys.all (fun e=>e.cells.length==sz)=true∧n+ys.length≤maxLen∧(n+ys.length)*bytes≤140737488355328∧
   x=.vec l site (g+1) 0 (n+ys.length) false∧m=Am.put st.m l site (.vec (g+1) sz (xs.take n++ys))
 |.bsl sz len z ps=>(∃y,fill st.f ps (ZX z sz len)=some y∧AV.rfL y=true∧y.all AV.leaf=true∧x=.list (ZW sz len (y.map nn0)))∧m=st.m
 |.lit0 _=>x=.lcap []∧m=st.m
 |.appe sz bytes _ s r=>(∃xs ys,s.ev st.f=.lcap xs∧r.ev st.f=.list ys∧xs.all (fun e=>e.cells.length==sz)=true∧ys.all (fun e=>e.cells.length==sz)=true∧xs.length+ys.length≤maxLen∧(xs.length+ys.length)*bytes≤140737488355328∧x=.list (xs++ys))∧m=st.m
 |.bsl0 site sz=>QO (Qh st.m 0 site)=true∧x=.vec 0 site (Q9 st.m 0 site) 0 0 false∧m=Am.put st.m 0 site (.vec (Q9 st.m 0 site) sz [])
 |.callF f args=>∃k fa fb,f.ev st.f=.fn (.func k) fa fb∧Qf P k (fa++args.map (RA.ev st.f)++fb) st.m (fun y m'=>y=x∧m'=m)
 |.callK l s f args=>∃k fa fb,f.ev st.f=.fn (.func k) fa fb∧Qf P k (fa++args.map (RA.ev st.f)++fb) st.m (fun y m'=>y=x∧m'=m)∧Qh m l s=Qh st.m l s
 |_=>False

def RO.keeps:RO→Bool
 |.mk .. => false
 |.isnil .. => false
 |.xb .. => false
 |.rngs .. => false
 |.nxts .. => false
 |.mkm .. => false
 |.mput .. => false
 |_=>true

theorem Gq {d:Option Nat}{op:RO}{st:St}{K:St→Prop}(hk:op.keeps=true):Wr P d op st K↔∃x m,X2 P op st x m∧K { st with m:=m,f:=Qk st.f d x }:=by
 cases op<;>simp only[RO.keeps,QFQ]at hk<;>simp only[Wr,X2,BB]
 case val=>exact⟨fun⟨x,h,k⟩=>⟨x,_,⟨h,rfl⟩,k⟩,fun⟨x,m,⟨h,e⟩,k⟩=>by subst e;exact⟨x,h,k⟩⟩
 case allocN=>exact⟨fun⟨h,k⟩=>⟨_,_,⟨h,rfl,rfl⟩,k⟩,fun⟨x,m,⟨h,e,e'⟩,k⟩=>by subst e e';exact⟨h,k⟩⟩
 case boxN=>exact⟨fun⟨h,h',k⟩=>⟨_,_,⟨h,h',rfl,rfl⟩,k⟩,fun⟨x,m,⟨h,h',e,e'⟩,k⟩=>by subst e e';exact⟨h,h',k⟩⟩
 case store=>exact⟨fun⟨h1,h2,m',h3,k⟩=>⟨_,m',⟨h1,h2,h3,rfl⟩,k⟩,fun⟨x,m,⟨h1,h2,h3,e⟩,k⟩=>by subst e;exact⟨h1,h2,m,h3,k⟩⟩
 case storev=>exact⟨fun⟨h0,h1,h2,m',h3,k⟩=>⟨_,m',⟨h0,h1,h2,h3,rfl⟩,k⟩,fun⟨x,m,⟨h0,h1,h2,h3,e⟩,k⟩=>by subst e;exact⟨h0,h1,h2,m,h3,k⟩⟩
 case app=>exact⟨fun⟨l,site,g,n,xs,ys,h1,h2,ht,h3,h4,h5,h6,h7,k⟩=>⟨_,_,⟨l,site,g,n,xs,ys,h1,h2,ht,h3,h4,h5,h6,h7,rfl,rfl⟩,k⟩,fun⟨x,m,⟨l,site,g,n,xs,ys,h1,h2,ht,h3,h4,h5,h6,h7,e,e'⟩,k⟩=>by subst e e';exact⟨l,site,g,n,xs,ys,h1,h2,ht,h3,h4,h5,h6,h7,k⟩⟩
 case call=>exact⟨fun⟨k,fa,fb,ys,v,h1,h2,h3,h4,h5,h6,kk⟩=>⟨v,_,⟨⟨k,fa,fb,ys,h1,h2,h3,h4,h5,h6⟩,rfl⟩,kk⟩,fun⟨x,m,⟨⟨k,fa,fb,ys,h1,h2,h3,h4,h5,h6⟩,e⟩,kk⟩=>by subst e;exact⟨k,fa,fb,ys,x,h1,h2,h3,h4,h5,h6,kk⟩⟩
 case bsl=>exact⟨fun⟨y,h1,h2,h3,k⟩=>⟨_,_,⟨⟨y,h1,h2,h3,rfl⟩,rfl⟩,k⟩,fun⟨x,m,⟨⟨y,h1,h2,h3,e⟩,e'⟩,k⟩=>by subst e e';exact⟨y,h1,h2,h3,k⟩⟩
 case lit0=>exact⟨fun k=>⟨_,_,⟨rfl,rfl⟩,k⟩,fun⟨x,m,⟨e,e'⟩,k⟩=>by subst e e';exact k⟩
 case appe=>exact⟨fun⟨xs,ys,h1,h2,h3,h4,h5,h6,k⟩=>⟨_,_,⟨⟨xs,ys,h1,h2,h3,h4,h5,h6,rfl⟩,rfl⟩,k⟩,fun⟨x,m,⟨⟨xs,ys,h1,h2,h3,h4,h5,h6,e⟩,e'⟩,k⟩=>by subst e e';exact⟨xs,ys,h1,h2,h3,h4,h5,h6,k⟩⟩
 case bsl0=>exact⟨fun⟨h1,k⟩=>⟨_,_,⟨h1,rfl,rfl⟩,k⟩,fun⟨x,m,⟨h1,e,e'⟩,k⟩=>by subst e e';exact⟨h1,k⟩⟩
 case callK=>exact⟨fun⟨k,fa,fb,v,m',h1,h2,h3,kk⟩=>⟨v,m',⟨k,fa,fb,h1,h2,h3⟩,kk⟩,fun⟨x,m,⟨k,fa,fb,h1,h2,h3⟩,kk⟩=>⟨k,fa,fb,x,m,h1,h2,h3,kk⟩⟩
 case callF=>exact⟨fun⟨k,fa,fb,v,m',h1,h2,kk⟩=>⟨v,m',⟨k,fa,fb,h1,h2⟩,kk⟩,fun⟨x,m,⟨k,fa,fb,h1,h2⟩,kk⟩=>⟨k,fa,fb,x,m,h1,h2,kk⟩⟩

def Zh (P:Program)(it:Item)(st:St)(x:AV)(m:Ql):Prop :=
 match it.g with
 |none=>X2 P it.op st x m
 |some (j,want)=>match st.f j with
  |.bool b=>(b=want∧X2 P it.op st x m)∨(b=(!want)∧x=.tup []∧m=st.m)
  |.tup l=>l=[]∧x=.tup []∧m=st.m
  |_=>False

theorem Jd {it:Item}{st:St}{K:St→Prop}(hk:it.op.keeps=true):XT P it st K↔∃x m,Zh P it st x m∧K { st with m:=m,f:=Qk st.f it.dst x }:=by
 obtain⟨d,op,g⟩:=it;cases g with
 |none=>exact Gq hk
 |some p=>
  obtain⟨j,want⟩:=p;simp only[XT,Zh];cases hj:st.f j with
  |bool b=>
   simp only;rw[Gq hk]
   constructor
   ·intro⟨h1,h2⟩;by_cases hb:b=want
    ·obtain⟨x,m,h,k⟩:=h1 hb;exact⟨x,m,.inl ⟨hb,h⟩,k⟩
    ·have hb':b=!want:=by cases b<;>cases want<;>first|rfl|exact absurd rfl hb
     exact⟨_,_,.inr ⟨hb',rfl,rfl⟩,h2 hb'⟩
   ·rintro⟨x,m,⟨hb,h⟩|⟨hb,rfl,rfl⟩,k⟩
    ·exact⟨fun _=>⟨x,m,h,k⟩,fun e=>by rw[hb]at e;cases want<;>cases e⟩
    ·exact⟨fun e=>(by rw[hb]at e;cases want<;>cases e),fun _=>k⟩
  |tup l=>
   constructor
   ·rintro⟨h,k⟩;exact⟨_,_,⟨h,rfl,rfl⟩,k⟩
   ·rintro⟨x,m,⟨h,rfl,rfl⟩,k⟩;exact⟨h,k⟩
  |_=>exact⟨fun h=>h.elim,fun⟨_,_,h,_⟩=>h.elim⟩

theorem Y4 {op:RO}{f f':Fr}{m m':Ql}{ds ds':List DF}{x:AV}(h:Zr op.sl f f')(k:X2 P op ⟨f,m,ds⟩ x m'):X2 P op ⟨f',m,ds'⟩ x m':=by
 cases op with
 |val vo=>simp only[X2,MH (vo:=vo) h]at k ⊢;exact k
 |call g args=>simp only[X2,BB,RA.ev_same (r:=g) h.left,JY (rs:=args) h.right]at k ⊢;exact k
 |callK l s g args=>simp only[X2,RA.ev_same (r:=g) h.left,JY (rs:=args) h.right]at k ⊢;exact k
 |callF g args=>simp only[X2,RA.ev_same (r:=g) h.left,JY (rs:=args) h.right]at k ⊢;exact k
 |allocN s z=>exact k
 |boxN s r=>simp only[X2,RA.ev_same (r:=r) h]at k ⊢;exact k
 |store n p r=>simp only[X2,RA.ev_same (r:=p) h.left,RA.ev_same (r:=r) h.right]at k ⊢;exact k
 |storev l s n p r=>simp only[X2,RA.ev_same (r:=p) h.left,RA.ev_same (r:=r) h.right]at k ⊢;exact k
 |app sz bytes el s r=>simp only[X2,RA.ev_same (r:=s) h.left,RA.ev_same (r:=r) h.right]at k ⊢;exact k
 |bsl sz len z ps=>simp only[X2,WF (ps:=ps) h]at k ⊢;exact k
 |bsl0 site sz=>exact k
 |lit0 sz=>exact k
 |appe sz bytes el s r=>simp only[X2,RA.ev_same (r:=s) h.left,RA.ev_same (r:=r) h.right]at k ⊢;exact k
 |_=>exact k.elim

theorem Kh {it:Item}{f f':Fr}{m m':Ql}{ds ds':List DF}{x:AV}(h:Zr it.sl f f')(k:Zh P it ⟨f,m,ds⟩ x m'):Zh P it ⟨f',m,ds'⟩ x m':=by
 obtain⟨d,op,g⟩:=it;cases g with
 |none=>exact Y4 (Zr.left h) k
 |some p=>
  obtain⟨j,want⟩:=p;have hj:f j=f' j:=(Zr.right h) j (by simp);simp only[Zh]at k ⊢;rw[←hj];cases he:f j with
  |bool b=>rw[he]at k;exact k.imp (fun h1=>⟨h1.1,Y4 (Zr.left h) h1.2⟩) id
  |tup l=>rw[he]at k;exact k
  |_=>rw[he]at k;exact k

theorem Gr {op:RO}(hp:op.pure=true){f:Fr}{m m' m1:Ql}{ds ds':List DF}{x:AV}(h:Xm op.mc m m')(k:X2 P op ⟨f,m,ds⟩ x m1):m1=m∧X2 P op ⟨f,m',ds'⟩ x m':=by
 cases op with
 |bsl sz len z ps=>obtain⟨k,e⟩:=k;exact⟨e,k,rfl⟩
 |lit0 sz=>obtain⟨k,e⟩:=k;exact⟨e,k,rfl⟩
 |appe sz bytes el s r=>obtain⟨k,e⟩:=k;exact⟨e,k,rfl⟩
 |val vo=>obtain⟨k,e⟩:=k;exact⟨e,by rw[←Ta (f:=f) h];exact k,rfl⟩
 |call g args=>
  obtain⟨⟨k,fa,fb,ys,h1,h2,h3,h4,h5,h6⟩,e⟩:=k;refine⟨e,⟨k,fa,fb,ys,h1,?_,h3,h4,h5,h6⟩,rfl⟩;rw[←J4 h];exact h2
 |_=>cases hp

theorem WH {it:Item}(hp:it.op.pure=true){f:Fr}{m m' m1:Ql}{ds ds':List DF}{x:AV}(h:Xm it.op.mc m m')(k:Zh P it ⟨f,m,ds⟩ x m1):m1=m∧Zh P it ⟨f,m',ds'⟩ x m':=by
 obtain⟨d,op,g⟩:=it;cases g with
 |none=>exact Gr hp h k
 |some p=>
  obtain⟨j,want⟩:=p;simp only[Zh]at k ⊢;cases he:f j with
  |bool b=>
   rw[he]at k;rcases k with⟨h1,k⟩|⟨h1,h2,h3⟩
   ·obtain⟨a,b⟩:=Gr hp h k;exact⟨a,.inl ⟨h1,b⟩⟩
   ·exact⟨h3,.inr ⟨h1,h2,trivial⟩⟩
  |tup l=>rw[he]at k;exact⟨k.2.2,k.1,k.2.1,trivial⟩
  |_=>rw[he]at k;exact k.elim

def RO.lets (op:RO)(c:MC):Bool :=
 match op with
 |.val _=>true
 |.call _ _=>true
 |.store .. => c == .no||c == .shape
 |.storev l s _ _ _=>match c with
  |.cell l' s'=>l' != l||s' != s
  |.outer=>l==0
  |.all=>false
  |_=>true
 |.allocN s _=>match c with
  |.cell l' s'=>l' != 0||s' != s
  |.all=>false
  |_=>true
 |.boxN s _=>match c with
  |.cell l' s'=>l' != 0||s' != s
  |.all=>false
  |_=>true
 |.app .. => match c with
  |.no=>true
  |.cell _ _=>true
  |_=>false
 |.bsl .. => true
 |.lit0 _=>true
 |.appe .. => true
 |.bsl0 s _=>match c with
  |.no=>true
  |.cell l' s'=>l' != 0||s' != s
  |.outer=>true
  |_=>false
 |.callF .. => c == .no
 |.callK l s _ _=>match c with
  |.no=>true
  |.cell l' s'=>l'==l&&s'==s
  |_=>false
 |_=>false

theorem KN {m:Ql}{l s:Nat}{o o':Ob}(hl:Qh m l s=o)(ho:o.row=none)(ho':o'.row=none)(hlt:l<m.length){c:MC}(hc:match c with
  |.cell l' s'=>(l' != l||s' != s)=true
  |.outer=>(l==0)=true
  |.all=>False
  |_=>True):Xm c m (Am.put m l s o'):=by
 have key:∀l' s',(l'=l∧s'=s)∨Qh (Am.put m l s o') l' s'=Qh m l' s':=by
  intro l' s';by_cases hh:l'=l∧s'=s
  ·exact .inl hh
  ·exact .inr (Qv (by omega))
 have hsh:∀ {x:Ob},x.row=none→x.sh=none:=by intro x;cases x<;>simp[Ob.row,Ob.sh]
 cases c with
 |no=>trivial
 |shape=>
  intro l' s';rcases key l' s' with⟨rfl,rfl⟩|e
  ·rw[QA hlt,hl,hsh ho,hsh ho']
  ·rw[e]
 |rows=>
  intro l' s';rcases key l' s' with⟨rfl,rfl⟩|e
  ·rw[QA hlt,hl,ho,ho']
  ·rw[e]
 |cell l' s'=>
  show Qh m l' s'=Qh _ l' s'∨_;rcases key l' s' with⟨rfl,rfl⟩|e
  ·simp at hc
  ·exact .inl e.symm
 |outer=>
  intro l' s';have hc:l=0:=by simpa using hc
  exact(Qv (by omega)).symm
 |all=>exact hc.elim

theorem Nu {m:Ql}{s:Nat}(h:XC m s=true):Qh m 0 s=.none:=by
 unfold XC at h;split at h
 ·assumption
 ·cases h

end

theorem Xm.symm {c:MC}{m m':Ql}(h:Xm c m m'):Xm c m' m:=by
 cases c with
 |no=>trivial
 |shape=>exact fun l s=>(h l s).symm
 |rows=>exact fun l s=>(h l s).symm
 |cell l s=>exact Or.imp Eq.symm And.symm h
 |outer=>exact fun l s=>(h l s).symm
 |all=>exact Eq.symm h

theorem Gs {m m':Ql}{p:AV}{ys:List AV}(h:Q5 m p ys=some m'):Xm .shape m m':=by
 cases p with
 |ptr l s o=>
  simp only[Q5]at h;split at h
  ·rename_i xs hlk;split at h
   ·split at h
    ·cases h;exact KN (c:=.shape) hlk rfl rfl (Xt (by rw[hlk];simp)) trivial
    ·cases h
   ·cases h
  ·cases h
 |vptr l s g i o=>
  simp only[Q5]at h;split at h
  ·rename_i g' sz xs hlk;split at h
   ·rename_i hg;subst hg;split at h
    ·split at h
     ·cases h;intro l' s';by_cases hh:l'=l∧s'=s
      ·obtain⟨rfl,rfl⟩:=hh;rw[QA (Xt (by rw[hlk];simp)),hlk];rfl
      ·rw[Qv (by omega)]
     ·cases h
    ·cases h
   ·cases h
  ·cases h
 |_=>simp[Q5]at h

section
variable {P:Program}{N:Nat}

theorem Gt {m:Ql}{s:Nat}{xs:List AV}(h:XC m s=true){c:MC}(hc:match c with
  |.cell l' s'=>(l' != 0||s' != s)=true
  |.all=>False
  |_=>True):Xm c m (Am.put m 0 s (.cells xs)):=by
 cases m with
 |nil=>exact Xm.refl c _
 |cons fr m=>exact KN (Nu h) rfl rfl (by simp) (by cases c<;>first|exact hc|rfl)

theorem Y5 {op:RO}{c:MC}(hc:op.lets c=true){st:St}{x:AV}{m:Ql}(h:X2 P op st x m):Xm c st.m m:=by
 cases op with
 |val vo=>rw[h.2];exact Xm.refl c _
 |call f args=>rw[h.2];exact Xm.refl c _
 |callK l s f args=>
  obtain⟨_,_,_,_,_,he⟩:=h;cases c with
  |no=>trivial
  |cell l' s'=>
   simp only[RO.lets,QFU,QFV]at hc;obtain⟨rfl,rfl⟩:=hc;exact .inl he.symm
  |_=>simp[RO.lets]at hc
 |store n p r=>
  simp only[RO.lets,QGm,QFV]at hc;rcases hc with rfl|rfl
  ·trivial
  ·exact Gs h.2.2.1
 |storev l s n p r=>
  obtain⟨⟨o,ho⟩,h1,h2,h3,h4⟩:=h;rw[ho]at h3;simp only[Q5]at h3;split at h3
  ·rename_i xs hlk;split at h3
   ·split at h3
    ·cases h3;refine KN hlk rfl rfl (Xt (by rw[hlk];simp)) ?_;cases c<;>first|trivial|exact hc|cases hc
    ·cases h3
   ·cases h3
  ·cases h3
 |allocN s z=>
  rw[h.2.2];refine Gt h.1 ?_;cases c<;>first|trivial|exact hc|cases hc
 |boxN s r=>
  rw[h.2.2.2];refine Gt h.1 ?_;cases c<;>first|trivial|exact hc|cases hc
 |app sz bytes el s r=>
  obtain⟨l,site,g,n,xs,ys,_,hlk,_,_,_,_,_,_,_,rfl⟩:=h;cases c with
  |no=>trivial
  |cell l' s'=>
   show Qh st.m l' s'=Qh _ l' s'∨_;by_cases hh:l'=l∧s'=site
   ·obtain⟨rfl,rfl⟩:=hh;refine .inr ⟨by rw[hlk];rfl,?_⟩;rw[QA (Xt (by rw[hlk];simp))];rfl
   ·exact .inl (Qv (by omega)).symm
  |_=>simp[RO.lets]at hc
 |bsl sz len z ps=>rw[h.2];exact Xm.refl c _
 |lit0 sz=>rw[h.2];exact Xm.refl c _
 |appe sz bytes el s r=>rw[h.2];exact Xm.refl c _
 |bsl0 site sz=>
  obtain⟨_,_,rfl⟩:=h;cases c with
  |no=>trivial
  |cell l' s'=>
   simp only[RO.lets,QGm,QFZ]at hc;exact .inl (Qv (by omega)).symm
  |outer=>exact fun l' s'=>(Qv (.inl (Nat.succ_ne_zero l'))).symm
  |_=>simp[RO.lets]at hc
 |callF f args=>
  simp only[RO.lets,QFV]at hc;subst hc;trivial
 |_=>exact h.elim

theorem Y6 {it:Item}{c:MC}(hc:it.op.lets c=true){st:St}{x:AV}{m:Ql}(h:Zh P it st x m):Xm c st.m m:=by
 obtain⟨d,op,g⟩:=it;cases g with
 |none=>exact Y5 hc h
 |some p=>
  obtain⟨j,want⟩:=p;simp only[Zh]at h;cases he:st.f j with
  |bool b=>
   rw[he]at h;rcases h with⟨_,h⟩|⟨_,_,h⟩
   ·exact Y5 hc h
   ·rw[h];exact Xm.refl c _
  |tup l=>rw[he]at h;rw[h.2.2];exact Xm.refl c _
  |_=>rw[he]at h;exact h.elim

def W0 (a b:Item):Bool :=
  (match a.dst with
   |some d=>!(b.sl.contains d)&&b.dst != some d
   |none=>true) &&
  (match b.dst with
   |some d=>!(a.sl.contains d)
   |none=>true)

def Gu (a b:Item):Bool :=
 match a.op,b.op,a.g,b.g with
 |.allocN s _,.allocN t _,none,none=>s != t
 |_,_,_,_=>false

def W2 (a b:Item):Bool :=
 a.op.keeps&&b.op.keeps&&W0 a b&&((a.op.pure&&b.op.lets a.op.mc)||(b.op.pure&&a.op.lets b.op.mc)||Gu a b)

theorem Gv {m:Ql}{s t:Nat}{o:Ob}(h:s≠t):XC (Am.put m 0 s o) t=XC m t:=by
 unfold XC;rw[Qv (.inr (Ne.symm h))]
theorem MJ {m:Ql}{s t:Nat}{o q:Ob}(h:s≠t):Am.put (Am.put m 0 s o) 0 t q=Am.put (Am.put m 0 t q) 0 s o:=by
 cases m with
 |nil=>rfl
 |cons fr m=>
  simp only[Am.put];congr 1
  funext i;by_cases h1:i=t
  ·subst h1;rw[QT,QX _ _ (Ne.symm h),QT]
  ·rw[QX _ _ h1];by_cases h2:i=s
   ·subst h2;rw[QT,QT]
   ·rw[QX _ _ h2,QX _ _ h2,QX _ _ h1]
theorem D5 {a b:Item}(h:Gu a b=true){st:St}{f:Fr}{x y:AV}{m m2:Ql}(ga:Zh P a st x m)(gb:Zh P b { st with m:=m,f:=f } y m2) :
  ∃m1,Zh P b st y m1∧∀f',Zh P a { st with m:=m1,f:=f' } x m2:=by
 obtain⟨da,oa,ga'⟩:=a;obtain⟨db,ob,gb'⟩:=b;unfold Gu at h;dsimp only at h;split at h
 ·rename_i s z t w;have hne:s≠t:=by simpa using h
  obtain⟨h1,rfl,rfl⟩:=ga;obtain⟨h2,rfl,rfl⟩:=gb;dsimp only at h2;rw[Gv hne]at h2;refine⟨_,⟨h2,rfl,rfl⟩,fun f'=>⟨?_,rfl,?_⟩⟩
  ·dsimp only;rw[Gv (Ne.symm hne)];exact h1
  ·exact MJ hne
 ·cases h

theorem Hu {l:List Nat}{f:Fr}{d:Option Nat}{x:AV}(h:∀k,d=some k→k∉l):Zr l f (Qk f d x):=by
 intro t ht;cases d with
 |none=>rfl
 |some k=>
  have:t≠k:=fun e=>h k rfl (e▸ht)
  show f t=Qx f k x t;rw[QX _ _ this]

theorem Nv {f:Fr}{d e:Option Nat}{x y:AV}(h:∀k,d=some k→e≠some k):Qk (Qk f d x) e y=Qk (Qk f e y) d x:=by
 cases d with
 |none=>rfl
 |some d=>
  cases e with
  |none=>rfl
  |some e=>
   have hne:d≠e:=fun hh=>h d rfl (hh▸rfl)
   funext i;show Qx (Qx f d x) e y i=Qx (Qx f e y) d x i;by_cases h1:i=e
   ·subst h1;rw[QT,QX _ _ (Ne.symm hne),QT]
   ·rw[QX _ _ h1];by_cases h2:i=d
    ·subst h2;rw[QT,QT]
    ·rw[QX _ _ h2,QX _ _ h2,QX _ _ h1]

theorem BC {a b:Item}(h:W0 a b=true):(∀k,a.dst=some k→k∉b.sl)∧(∀k,a.dst=some k→b.dst≠some k)∧(∀k,b.dst=some k→k∉a.sl):=by
 unfold W0 at h;simp only[QFU]at h;refine⟨fun k e=>?_,fun k e=>?_,fun k e=>?_⟩
 ·have:=h.1;rw[e]at this;simp at this;exact this.1
 ·have:=h.1;rw[e]at this;simp at this;exact this.2
 ·have:=h.2;rw[e]at this;simpa using this

theorem BD {a b:Item}(h:W2 a b=true){st:St}{K:St→Prop}(k:XT P a st fun s=>XT P b s K):XT P b st fun s=>XT P a s K:=by
 unfold W2 at h;simp only[QFU,QGm]at h;obtain⟨⟨⟨ka,kb⟩,hap⟩,hor⟩:=h;obtain⟨h1,h2,h3⟩:=BC hap;rw[Jd ka]at k;obtain⟨x,m,ga,k⟩:=k;rw[Jd kb]at k;obtain⟨y,m2,gb,k⟩:=k;rw[Jd kb];have hs1:∀f:Fr,Zr b.sl f (Qk f a.dst x):=fun f=>Hu h1
 have hs3:∀f:Fr,Zr a.sl f (Qk f b.dst y):=fun f=>Hu h3
 have hsym:∀ {l f f'},Zr l f f'→Zr l f' f:=fun h t ht=>(h t ht).symm
 have hK:K { st with m:=m2,f:=Qk (Qk st.f b.dst y) a.dst x }:=by
  rw[←Nv h2];exact k
 rcases hor with(⟨pa,lb⟩|⟨pb,la⟩)|hf
 ·have e:m=st.m:=(WH (m':=st.m) (ds':=st.ds) pa (Xm.refl _ _) ga).1;subst e;have gb':Zh P b st y m2:=Kh (hsym (hs1 st.f)) gb;refine⟨y,m2,gb',?_⟩;rw[Jd ka];have ga':Zh P a { st with m:=m2 } x m2:=(WH pa (Y6 lb gb') ga).2;exact⟨x,m2,Kh (hs3 st.f) ga',hK⟩
 ·have hag:=Y6 la ga;obtain⟨e,gb1⟩:=WH (m':=st.m) (ds':=st.ds) pb hag.symm gb;have e:m2=m:=e;subst e;have gb':Zh P b st y st.m:=Kh (hsym (hs1 st.f)) gb1;refine⟨y,st.m,gb',?_⟩;rw[Jd ka];exact⟨x,m2,Kh (hs3 st.f) ga,hK⟩
 ·obtain⟨m1,gb',ga'⟩:=D5 hf ga gb;refine⟨y,m1,gb',?_⟩;rw[Jd ka];exact⟨x,m2,ga' _,hK⟩

theorem Nw {ops:Array Oper}{o:Oper}{i:Nat}(hi:ops[i]? = some o){it:Item}(hc:WE P N ops o it=true){st:St}{K:St→Prop}(h:XT P it st K){G:Gh}{B:Nat}{a:Act}{w:World}(hr:Rel G B N st a w){KK:Act→World→Prop}{QQ:Exit→Act→World→Prop}
  (hk:∀G' st' a' w',K st'→Rel G' B N st' a' w'→Ext 1 G w G' w'→KK a' w'):wpOp P ops QQ i KK a w:=by
 have h1:Qu P N [it] st K:=Gl (We (fun _ hs=>Qu.nil hs) h);have h2:=h1 ops [o] (by simp[XV,hc]) G B a w hr (fun e a w=>match e with
  |.normal=>KK a w
  |e=>QQ e a w) (fun G' st' a' w' h1 h2 h3=>hk G' st' a' w' h1 h2 h3)
 unfold wpOp;simp only[hi];unfold wpList at h2;split
 ·rename_i hw;rw[QFF hw]at h2;rcases h2 with h2|h2
  ·left
   unfold Oper.wp at h2 ⊢;generalize (execOp a.eval o).run P w=r at h2 ⊢;cases r with
   |ok n w'=>
    cases n<;>simp only[Oper.upon]at h2 ⊢<;>first
     |exact h2
     |exact Calls.mono h2 (fun e w'' he=>by cases e<;>exact he)
   |halt x w'=>cases x<;>simp only[Oper.upon]at h2 ⊢<;>exact h2
  ·exact .inr h2
 ·rename_i hw;rw[QFE hw]at h2;exact h2

def dflt:Item:=⟨none,.val (.mov (.c .top)),none⟩
def Wf (Qd:List Item)(l:List Nat):List Item:=l.map fun i=>Qd.getD i dflt

theorem Nx {Qd:List Item}{i:Nat}{post:List Nat}{Q:St→Prop}:∀ {pre:List Nat} {st:St},(∀p,p∈pre→W2 (Qd.getD p dflt) (Qd.getD i dflt)=true)→
  Qp P (Wf Qd (pre++i :: post)) st Q→XT P (Qd.getD i dflt) st fun s=>Qp P (Wf Qd (pre++post)) s Q
 | [],_,_,h=>h
 |p :: pre,st,hp,h=>by
  have h':XT P (Qd.getD p dflt) st fun s=>Qp P (Wf Qd (pre++i :: post)) s Q:=h
  have h2:=We (fun s hs=>Nx (fun q hq=>hp q (QFN _ hq)) hs) h';exact BD (hp p (QFP ..)) h2

inductive Bef (ops:Array Oper):Nat→Nat→Prop
 |one {i:Nat} {o:Oper} {e:Edge} (ho:ops[i]? = some o) (he:e∈o.after) (hb:Region.binds .any e=true):Bef ops e.on i
 |more {i p:Nat} {o:Oper} {e:Edge} (ho:ops[i]? = some o) (he:e∈o.after) (hb:Region.binds .any e=true) (h:Bef ops p e.on):Bef ops p i

def BE (acc:List Nat)(m:Nat)(e:Edge):Nat:=if Region.binds .any e then(m ||| 2 ^ e.on) ||| acc.getD e.on 0 else m
def Ny (acc:List Nat)(o:Oper):Nat:=o.after.toList.foldl (BE acc) 0
def BF:List Oper→List Nat→List Nat
 | [],acc=>acc
 |o :: os,acc=>BF os (acc++[Ny acc o])

theorem Y7 {acc:List Nat}{p:Nat}:∀(l:List Edge) (m:Nat),(l.foldl (BE acc) m).testBit p=true→m.testBit p=true∨∃e∈l,Region.binds .any e=true∧(p=e.on∨(acc.getD e.on 0).testBit p=true)
 | [],m,h=>.inl h
 |e :: l,m,h=>by
  rw[List.foldl_cons]at h;rcases Y7 l _ h with h1|⟨e',h1,h2,h3⟩
  ·unfold BE at h1;split at h1
   ·rename_i hb;rw[Nat.testBit_or,Nat.testBit_or,QGm,QGm]at h1;rcases h1 with(h1|h1)|h1
    ·exact .inl h1
    ·rw[Nat.testBit_two_pow]at h1;exact .inr ⟨e,QFP ..,hb,.inl (of_decide_eq_true h1).symm⟩
    ·exact .inr ⟨e,QFP ..,hb,.inr h1⟩
   ·exact .inl h1
  ·exact .inr ⟨e',QFN _ h1,h2,h3⟩

theorem Gw {ops:Array Oper}:∀(l:List Oper) (acc:List Nat),ops.toList=ops.toList.take acc.length++l→acc.length+l.length=ops.size→(∀i p,(acc.getD i 0).testBit p=true→Bef ops p i)→∀i p,((BF l acc).getD i 0).testBit p=true→Bef ops p i
 | [],acc,_,_,h=>h
 |o :: l,acc,e,hn,h=>by
  have hlen:acc.length<ops.toList.length:=by simp at hn ⊢;omega
  have hat:ops[acc.length]? = some o:=by
   rw[←QF0,e,QGL (by simp;omega)];simp;have:acc.length-min acc.length ops.size=0:=by simp at hlen;omega
   rw[this];rfl
  refine Gw l (acc++[Ny acc o]) ?_ (by simp at hn ⊢;omega) fun i p hb=>?_
  ·rw[QF7,List.length_singleton,List.take_succ_eq_append_getElem hlen,QFR];have:ops.toList[acc.length]=o:=by
    have:=QFA hlen;rw[QF0,hat]at this;cases this;rfl
   rw[this];exact e
  ·rw[List.getD_eq_getElem?_getD]at hb;by_cases hi:i<acc.length
   ·rw[List.getElem?_append_left hi,←List.getD_eq_getElem?_getD]at hb;exact h i p hb
   ·by_cases hi2:i=acc.length
    ·subst hi2;rw[QGL (QFx _)]at hb;simp only[Nat.sub_self,QGp,QGx]at hb;rcases Y7 _ _ hb with h1|⟨e',h1,h2,h3⟩
     ·simp at h1
     ·rcases h3 with rfl|h3
      ·exact .one hat (by simpa using h1) h2
      ·exact .more hat (by simpa using h1) h2 (h _ _ h3)
    ·rw[QGJ (by simp;omega)]at hb;simp at hb

def UL (ops:Array Oper)(Qd:List Item):Bool :=
 (List.range ops.size).all fun i=>match ops[i]? with
  |some o=>o.after.all (fun e=>!Region.binds .any e||decide (e.on<i))&&(List.range i).all fun p=>((BF ops.toList []).getD i 0).testBit p||W2 (Qd.getD p dflt) (Qd.getD i dflt)
  |none=>true

theorem Bef.listed {ops:Array Oper}{L:Nat→Prop}(hcl:∀q,L q→∀o e,ops[q]? = some o→e∈o.after→Region.binds .any e=true→L e.on){p i:Nat}(h:Bef ops p i)(hi:∀o e,ops[i]? = some o→e∈o.after→Region.binds .any e=true→L e.on):L p:=by
 induction h with
 |one ho he hb=>exact hi _ _ ho he hb
 |more ho he hb _ ih=>exact ih (hcl _ (hi _ _ ho he hb))

def unl (n:Nat)(listed:Array Bool):List Nat:=(List.range n).filter fun i=>!listed.getD i true

theorem Yz {ops:Array Oper}:∀ {l:List Oper} {Qd:List Item},XV P N ops l Qd=true→l.length=Qd.length∧∀(i:Nat) (o:Oper),l[i]? = some o→WE P N ops o (Qd.getD i dflt)=true
 | [],Qd,h=>by
  cases Qd with
  |nil=>exact⟨rfl,by simp⟩
  |cons it Qd=>simp[XV]at h
 |o :: l,Qd,h=>by
  cases Qd with
  |nil=>simp[XV]at h
  |cons it Qd=>
   simp only[XV,QFU]at h;obtain⟨e,h2⟩:=Yz h.2;refine⟨by simp[e],fun i o' ho=>?_⟩;cases i with
   |zero=>simp at ho;subst ho;exact h.1
   |succ i=>simpa using h2 i o' (by simpa using ho)

theorem MK {ops:Array Oper}{Qd:List Item}(hc:XV P N ops ops.toList Qd=true)(hd:UL ops Qd=true){B:Nat}{Q:St→Prop}{QQ:Exit→Act→World→Prop} :
  ∀(fuel:Nat) (listed:Array Bool),listed.size=ops.size→(∀q,listed.getD q false=true→∀o e,ops[q]? = some o→e∈o.after→Region.binds .any e=true→listed.getD e.on false=true)→(unl ops.size listed).length≤fuel→∀(st:St) (G:Gh) (a:Act) (w:World),Qp P (Wf Qd (unl ops.size listed)) st Q→Rel G B N st a w→
   (∀G' st' a' w',Q st'→Rel G' B N st' a' w'→Ext 1 G w G' w'→QQ .normal a' w')→wpAny P .any ops QQ fuel listed a w:=by
 obtain⟨hlen,hcs⟩:=Yz hc;have hready:∀(listed:Array Bool) i,i∈Region.ready .any ops listed→i∈unl ops.size listed:=by
  intro listed i hi;obtain⟨h0,o,ho,_⟩:=mem_ready.1 hi;exact List.mem_filter.2 ⟨QGQ.2 (QFD.1 ho).1,by simp[h0]⟩
 have hat:∀i,i<ops.size→∃o,ops[i]? = some o∧(∀e∈o.after,Region.binds .any e=true→e.on<i)∧∀p,p<i→Bef ops p i∨W2 (Qd.getD p dflt) (Qd.getD i dflt)=true:=by
  intro i hi;refine⟨ops[i],QFO hi,?_⟩;have h1:=QFK.1 hd i (QGQ.2 hi);rw[QFO hi]at h1;simp only[QFU]at h1;refine⟨fun e he hb=>?_,fun p hp=>?_⟩
  ·have h2:=Array.all_eq_true_iff_forall_mem.1 h1.1 e he
   simpa [hb]using h2
  ·have h2:=QFK.1 h1.2 p (QGQ.2 hp);rw[QGm]at h2;rcases h2 with h2|h2
   ·exact .inl (Gw ops.toList [] (by simp) (by simp) (fun i p hb=>by simp at hb) i p h2)
   ·exact .inr h2
 -- the first that is left is ready
 have hfirst:∀(listed:Array Bool),listed.size=ops.size→Region.ready .any ops listed=[]→unl ops.size listed=[]:=by
  intro listed hsz hr;cases hu:unl ops.size listed with
  |nil=>rfl
  |cons i rest=>
   exfalso;have hpw:(unl ops.size listed).Pairwise (· < ·):=List.Pairwise.filter _ List.pairwise_lt_range;have hi:i∈unl ops.size listed:=by rw[hu];exact QFP ..
   obtain⟨hi1,hi2⟩:=List.mem_filter.1 hi;obtain⟨o,ho,h1,_⟩:=hat i (QGQ.1 hi1);have:i∈Region.ready .any ops listed:=by
    refine mem_ready.2 ⟨by simpa using hi2,o,ho,fun e he hb=>?_⟩;have hlt:=h1 e he hb;cases hg:listed.getD e.on false with
    |true=>rfl
    |false=>
     have hin:e.on∈unl ops.size listed:=by
      refine List.mem_filter.2 ⟨QGQ.2 (Nat.lt_trans hlt (QGQ.1 hi1)),?_⟩;have hlt':e.on<listed.size:=by rw[hsz];exact Nat.lt_trans hlt (QGQ.1 hi1)
      simp[QFO hlt']at hg ⊢;exact hg
     rw[hu]at hin hpw;rcases QGF.1 hin with e'|e'
     ·omega
     ·have:=(List.pairwise_cons.1 hpw).1 _ e';omega
   rw[hr]at this;cases this
 intro fuel
 induction fuel with
 |zero=>
  intro listed hsz hcl hl st G a w h hr hq;have hu:unl ops.size listed=[]:=QGs (by omega);refine⟨?_,?_⟩
  ·cases hx:Region.ready .any ops listed with
   |nil=>rfl
   |cons i r=>
    have:=hready listed i (by rw[hx];exact QFP ..);rw[hu]at this;cases this
  ·rw[hu]at h;exact hq G st a w h hr (Ext.refl 1 G w)
 |succ fuel ih=>
  intro listed hsz hcl hl st G a w h hr hq;refine⟨fun hx=>?_,fun i hi=>?_⟩
  ·rw[hfirst listed hsz hx]at h;exact hq G st a w h hr (Ext.refl 1 G w)
  ·have hiu:=hready listed i hi;obtain⟨pre,post,hsplit⟩:=List.append_of_mem hiu;have hpw:(unl ops.size listed).Pairwise (· < ·):=List.Pairwise.filter _ List.pairwise_lt_range;rw[hsplit]at h hpw;obtain⟨_,hp2,hp3⟩:=List.pairwise_append.1 hpw;obtain⟨hi1,hi2⟩:=List.mem_filter.1 hiu;obtain⟨o,ho,h1,h2⟩:=hat i (QGQ.1 hi1);obtain⟨_,o',ho',h3⟩:=mem_ready.1 hi;rw[ho]at ho';cases ho';have hind:∀p,p∈pre→W2 (Qd.getD p dflt) (Qd.getD i dflt)=true:=by
    intro p hp;rcases h2 p (hp3 p hp i (QFP ..))with hbef|h
    ·exfalso;have hl1:=hbef.listed (L:=fun q=>listed.getD q false=true) hcl (fun o2 e ho2 he hb=>by rw[ho]at ho2;cases ho2;exact h3 e he hb);have hpu:p∈unl ops.size listed:=by rw[hsplit];exact List.mem_append_left _ hp
     obtain⟨hr1,hr2⟩:=List.mem_filter.1 hpu;have hlt':p<listed.size:=by rw[hsz];exact QGQ.1 hr1
     simp[QFO hlt']at hl1 hr2;rw[hl1]at hr2;cases hr2
    ·exact h
   have hb:=Nx (P:=P) hind h;have hnext:unl ops.size (listed.setIfInBounds i true)=pre++post:=by
    have e1:unl ops.size (listed.setIfInBounds i true)=(unl ops.size listed).filter fun j=>j != i:=by
     unfold unl;rw[List.filter_filter];refine List.filter_congr fun j hj=>?_
     by_cases hji:j=i
     ·subst hji;have hlt':j<listed.size:=by rw[hsz];exact QGQ.1 hj
      simp[hlt']
     ·rw[getD_set_ne true (fun e=>hji e.symm)];simp[hji]
    rw[e1,hsplit,List.filter_append,List.filter_cons];have e2:pre.filter (fun j=>j != i)=pre:=List.filter_eq_self.2 fun j hj=>by
     have:=hp3 j hj i (QFP ..);simp;omega
    have e3:post.filter (fun j=>j != i)=post:=List.filter_eq_self.2 fun j hj=>by
     have:=(List.pairwise_cons.1 hp2).1 j hj;simp;omega
    rw[e2,e3];simp
   have hset:∀q,listed.getD q false=true→(listed.setIfInBounds i true).getD q false=true:=fun q hq'=>by
    by_cases hqi:q=i
    ·subst hqi;have hlt':q<listed.size:=by rw[hsz];exact QGQ.1 hi1
     simp[hlt']
    ·rw[getD_set_ne false (fun e=>hqi e.symm)];exact hq'
   have hcl':∀q,(listed.setIfInBounds i true).getD q false=true→∀o e,ops[q]? = some o→e∈o.after→Region.binds .any e=true→(listed.setIfInBounds i true).getD e.on false=true:=fun q hq' o2 e ho2 he2 hb2=>by
    by_cases hqi:q=i
    ·subst hqi;rw[ho]at ho2;cases ho2;exact hset _ (h3 e he2 hb2)
    ·rw[getD_set_ne false (fun e=>hqi e.symm)]at hq';exact hset _ (hcl q hq' o2 e ho2 he2 hb2)
   refine Nw ho (hcs i o (by simpa using ho)) hb hr fun G' st' a' w' hk hr' he=>?_
   refine ih (listed.setIfInBounds i true) (by simpa using hsz) hcl' ?_ st' G' a' w' (by rw[hnext];exact hk) hr' fun G2 st2 a2 w2 hq2 hr2 he2=>hq G2 st2 a2 w2 hq2 hr2 (he.trans he2)
   rw[hnext];rw[hsplit]at hl;simp only[QF7,QFM]at hl ⊢;omega

theorem Nz {Qd:List Item}:Wf Qd (List.range Qd.length)=Qd:=by
 apply List.ext_getElem
 ·simp[Wf]
 ·intro i h1 h2;simp[Wf,h2]

theorem Tb {ops:Array Oper}{Qd:List Item}(hm:P.follows .mixedOrders=true)(hc:XV P N ops ops.toList Qd=true)(hd:UL ops Qd=true){st:St}{Q:St→Prop}(h:Qp P Qd st Q){G:Gh}{B:Nat}{a:Act}{w:World}(hr:Rel G B N st a w){QQ:Exit→Act→World→Prop}{id:Nat}
  (hq:∀G' st' a' w',Q st'→Rel G' B N st' a' w'→Ext 1 G w G' w'→QQ .normal a' w'):(Code.region id ops true).wp P QQ a w:=by
 refine wp_region_any hm ?_;have hlen:=(Yz hc).1;simp only[QF1]at hlen;have hu:unl ops.size (Array.replicate ops.size false)=List.range Qd.length:=by
  unfold unl;rw[hlen];refine List.filter_eq_self.2 fun i hi=>?_
  simp[QGQ.1 hi]
 refine MK hc hd ops.size (Array.replicate ops.size false) (by simp) (fun q hq'=>by rw[QFH]at hq';simp[Array.getElem?_replicate]at hq';split at hq'<;>cases hq') (by rw[hu];simp[hlen]) st G a _ (by rw[hu,Nz];exact h) hr.drew fun G' st' a' w' h1 h2 h3=>hq G' st' a' w' h1 h2 ((Ext.drew G w).trans h3)

end

def XY (P:Program)(N:Nat):RC→Code→Bool
 |.gho _ r,c=>XY P N r c
 |.no,_=>true
 |.skip,c=>match c with
  |.skip=>true
  |_=>false
 |.reg Qd,c=>match c with
  |.region _ ops false=>XV P N ops ops.toList Qd
  |_=>false
 |.draw Qd,c=>match c with
  |.region _ ops true=>P.follows .mixedOrders&&XV P N ops ops.toList Qd&&UL ops Qd
  |_=>false
 |.seq a b,c=>match c with
  |.seq x y=>XY P N a x&&XY P N b y
  |_=>false
 |.cond r a b,c=>match c with
  |.cond o x y=>QE o r&&XY P N a x&&XY P N b y
  |_=>false
 |.block i a,c=>match c with
  |.block j x=>i==j&&XY P N a x
  |_=>false
 |.loop a,c=>match c with
  |.loop x=>XY P N a x
  |_=>false
 |.exit i,c=>match c with
  |.exit j=>i==j
  |_=>false
 |.scope a,c=>match c with
  |.scope x=>XY P N a x
  |_=>false
 |.lab,c=>match c with
  |.label _=>true
  |_=>false
 |.ret,c=>match c with
  |.ret=>true
  |_=>false

section
variable {P:Program}{N B:Nat}

theorem NA:∀ {rc:RC} {c:Code} {st:St} {Q:Exit→St→Prop},QJ P rc st Q→XY P N rc c=true→∀ {G:Gh} {a:Act} {w:World},Rel G B N st a w→∀ {QQ:Exit→Act→World→Prop},
  (∀e G' st' a' w',Q e st'→Rel G' B N st' a' w'→Ext 1 G w G' w'→QQ e a' w')→c.wp P QQ a w:=by
 intro rc
 induction rc with
 |skip=>
  intro c st Q h hc G a w hr QQ hq;cases c<;>simp only[XY,QFQ]at hc;exact wp_skip (hq _ _ _ _ _ h hr (Ext.refl 1 G w))
 |reg Qd=>
  intro c st Q h hc G a w hr QQ hq;cases c<;>simp only[XY,QFQ]at hc;rename_i id ops d;cases d<;>simp only[QFQ]at hc;refine wp_region_list ?_;exact Fi (N:=N) h ops ops.toList hc G B a w hr QQ fun G' st' a' w' h1 h2 h3=>hq _ _ _ _ _ h1 h2 h3
 |draw Qd=>
  intro c st Q h hc G a w hr QQ hq;cases c<;>simp only[XY,QFQ]at hc;rename_i id ops d;cases d<;>simp only[QFQ,QFU]at hc;exact Tb hc.1.1 hc.1.2 hc.2 h hr fun G' st' a' w' h1 h2 h3=>hq _ _ _ _ _ h1 h2 h3
 |seq x y ihx ihy=>
  intro c st Q h hc G a w hr QQ hq;cases c<;>simp only[XY,QFQ,QFU]at hc;refine wp_seq (ihx h hc.1 hr fun e G' st' a' w' h1 h2 h3=>?_);cases e with
  |normal=>exact ihy h1 hc.2 h2 fun e G2 st2 a2 w2 k1 k2 k3=>hq _ _ _ _ _ k1 k2 (h3.trans k3)
  |_=>exact hq _ _ _ _ _ h1 h2 h3
 |cond r x y ihx ihy=>
  intro c st Q h hc G a w hr QQ hq;cases c<;>simp only[XY,QFQ,QFU]at hc;rename_i o cx cy;obtain⟨t,ht,h1,h2⟩:=h;have hv:=Qs hr hc.1.1;rw[ht]at hv;have hv':a.eval o=.bool t:=by
   generalize a.eval o=v at hv;cases hv;rfl
  refine wp_cond_split hv' (fun e=>?_) (fun e=>?_)
  ·exact ihx (h1 e) hc.1.2 hr hq
  ·exact ihy (h2 e) hc.2 hr hq
 |block i x ih=>
  intro c st Q h hc G a w hr QQ hq;cases c<;>simp only[XY,QFQ,QFU,QFV]at hc;obtain⟨rfl,hc⟩:=hc;refine wp_block (ih h hc hr fun e G' st' a' w' h1 h2 h3=>?_);cases e with
  |exit j=>
   simp only[Exit.inBlock];simp only[Kb]at h1;split
   ·rename_i hh;rw[QFF hh]at h1;exact hq _ _ _ _ _ h1 h2 h3
   ·rename_i hh;rw[QFE hh]at h1;exact hq _ _ _ _ _ h1 h2 h3
  |_=>exact hq _ _ _ _ _ h1 h2 h3
 |loop x ih=>
  intro c st Q h hc G a w hr QQ hq;cases c<;>simp only[XY,QFQ]at hc;obtain⟨I,n,h0,hI⟩:=h;refine wp_loop_ghost (fun k a' w'=>∃G' st',I k st'∧Rel G' B N st' a' w'∧Ext 1 G w G' w') n ⟨G,st,h0,hr,Ext.refl 1 G w⟩ ?_;rintro k a' w' ⟨G',st',i1,i2,i3⟩;refine ih (hI k st' i1) hc i2 fun e G2 st2 a2 w2 h1 h2 h3=>?_
  cases e with
  |normal=>
   obtain⟨k',hk,hi⟩:=h1;exact⟨k',hk,G2,st2,hi,h2,i3.trans h3⟩
  |_=>exact hq _ _ _ _ _ h1 h2 (i3.trans h3)
 |exit i=>
  intro c st Q h hc G a w hr QQ hq;cases c<;>simp only[XY,QFQ,QFV]at hc;subst hc;exact wp_exit (hq _ _ _ _ _ h hr (Ext.refl 1 G w))
 |scope x ih=>
  intro c st Q h hc G a w hr QQ hq;cases c<;>simp only[XY,QFQ]at hc;refine wp_scope_straight (ih h hc hr fun e G' st' a' w' h1 h2 h3=>?_);cases e with
  |goto l=>exact h1.elim
  |_=>exact hq _ _ _ _ _ h1 h2 h3
 |lab=>
  intro c st Q h hc G a w hr QQ hq;cases c<;>simp only[XY,QFQ]at hc;exact wp_label (hq _ _ _ _ _ h hr (Ext.refl 1 G w))
 |ret=>
  intro c st Q h hc G a w hr QQ hq;cases c<;>simp only[XY,QFQ]at hc;exact wp_ret (hq _ _ _ _ _ h hr (Ext.refl 1 G w))
 |gho g x ih=>
  intro c st Q h hc G a w hr QQ hq;obtain⟨st',hg,h⟩:=h;obtain⟨G',h1,h2⟩:=MG hr hg;exact ih h hc h1 fun e G2 st2 a2 w2 k1 k2 k3=>hq _ _ _ _ _ k1 k2 (h2.trans k3)
 |no=>
  intro c st Q h;exact h.elim

theorem MR.out {G:Gh}{fr:Nat→Ob}{m:Ql}{w:World}(h:MR G (fr :: m) w){S:Nat→Prop}(hS:∀b,S b→(∃s,G.vm 0 s=some b)∨∃s,G.nm 0 s=some b):MR ((G.pub w S).dn 1) m w:=by
 have hnS:∀l s b,G.nm (l+1) s=some b→¬S b:=fun l s b e hs=>by
  rcases hS b hs with⟨s',e'⟩|⟨s',e'⟩
  ·exact h.inj3 _ _ _ _ _ e e'
  ·have:=(h.inj1 _ _ _ _ _ e e').1;omega
 have hvS:∀l s b,G.vm (l+1) s=some b→¬S b:=fun l s b e hs=>by
  rcases hS b hs with⟨s',e'⟩|⟨s',e'⟩
  ·have:=(h.inj2 _ _ _ _ _ e e').1;omega
  ·exact h.inj3 _ _ _ _ _ e' e
 have hgle:Gle G (G.pub w S):=Gh.pub_gle h.stab;refine⟨fun b o v e=>?_,fun l s xs e=>?_,fun l s b e=>?_,fun l s g sz xs e=>?_,fun l s b e=>?_,fun l s e=>?_,fun l s l' s' b e e'=>?_,fun l s l' s' b e e'=>?_,fun l s l' s' b e e'=>?_,fun l s t p e=>h.iter (l+1) s t p e⟩
 ·have e:(G.pub w S).stab b o=some v:=e;by_cases hs:S b∧∀o,ZM b o=none
  ·rw[Gh.pub_c hs]at e;exact HT e
  ·rw[Gh.pub_n hs]at e;exact h.stab b o v e
 ·obtain⟨b,cs,e',hc,hr⟩:=h.cells (l+1) s xs e;refine⟨b,cs,e',hc,?_⟩;rw[Gh.dn_dn];exact hr.mono (hgle.dn (l+1))
 ·obtain⟨h1,h2⟩:=h.nm (l+1) s b e;refine⟨h1,fun o=>?_⟩;show(G.pub w S).stab b o=none;rw[Gh.pub_out (hnS _ _ _ e)];exact h2 o
 ·obtain⟨a1,a2,a3,a4⟩:=h.vec (l+1) s g sz xs e;exact⟨a1,a2,a3,a4.imp id fun⟨b,e',r⟩=>⟨b,e',r.of rfl fun vs hv=>RepL.rfd (G:=G) (G':=(G.pub w S).dn 1) hgle.stab a3.rf hv⟩⟩
 ·obtain⟨h1,h2⟩:=h.vm (l+1) s b e;refine⟨h1,fun o=>?_⟩;show(G.pub w S).stab b o=none;rw[Gh.pub_out (hvS _ _ _ e)];exact h2 o
 ·exact h.gone (l+1) s e
 ·obtain⟨h1,h2⟩:=h.inj1 _ _ _ _ _ e e';exact⟨by omega,h2⟩
 ·obtain⟨h1,h2⟩:=h.inj2 _ _ _ _ _ e e';exact⟨by omega,h2⟩
 ·exact h.inj3 _ _ _ _ _ e e'

def Zu (rs:List RR)(n:Nat)(R:AV→Ql→Prop):Exit→St→Prop:=fun e st=>
 (e=.normal∨e=.ret)∧st.ds=[]∧∃x y fr m,Kp st rs=some x∧Kz st.m x=some y∧st.m=fr :: m∧m.length=n∧R y m

theorem D6 {G:Gh}{args:List AV}{vs:List Value}(h:RepL G args vs){N:Nat}(i:Nat):Rep G.up (Bv (AV.shL args) i) (((vs.toArray++Array.replicate (N-vs.toArray.size) undef):Array Value).getD i undef):=by
 have h':RepL G.up (AV.shL args) vs:=RepL.sh (G:=G.up) (by rw[Gh.up_dn];exact h);have hl:=h'.length;unfold Bv;by_cases hi:i<vs.length
 ·obtain⟨x,e,hx⟩:=h'.back (QFA hi);rw[e];simp only[QGx,QFH];rw[Array.getElem?_append_left (by simpa using hi)]
  simpa [hi]using hx
 ·rw[QGJ (by omega)];simp only[QGR,QFH];rw[Array.getElem?_append_right (by simpa using hi)];cases hx:(Array.replicate (N-vs.toArray.size) undef)[i-vs.toArray.size]? with
  |none=>exact .tup .nil
  |some v=>
   have:=QFD.1 hx;obtain⟨_,h2⟩:=this;simp at h2;subst h2;exact .tup .nil

theorem Hv {fn:Func}{args:List AV}{m:Ql}{G:Gh}{w:World}{vs:List Value}(hvs:RepL G args vs)(hm:MR G m w)(hN:fn.ntmps=N)(ha:args.length≤N) :
  Rel G.up w.heap.size N (St.enter args m) { tmps:=vs.toArray++Array.replicate (fn.ntmps-vs.toArray.size) undef,defers:=[] } w:=by
 have hlen:=hvs.length;refine⟨hm.up,?_,fun i=>D6 hvs i,.nil,fun s b e=>?_,QFx _,by simp[St.enter]⟩
 ·simp;omega
 ·rcases e with e|e<;>cases e

theorem Fj {fn:Func}{rs:List RR}{G G':Gh}{m m':Ql}{w w':World}{st':St}{a':Act}{fr:Nat→Ob}{x y:AV}{R:AV→Ql→Prop}(hr:Jf P fn.results.toList rs=true)(hr':Rel G' w.heap.size N st' a' w')(he:Ext 1 G.up w G' w')
  (hx:Kp st' rs=some x) (hy:Kz st'.m x=some y) (hst:st'.m=fr :: m') (hml:m'.length=m.length) (hR:R y m') :
  ∃v,(results fn a'.tmps).run P w'=.ok v w'∧(∃G'' x v' m'',(Ending.returned v)=.returned v'∧R x m''∧Rep G'' x v'∧MR G'' m'' w'∧Ext 0 G w G'' w'∧m''.length=m.length):=by
 obtain⟨v,hrun,hv⟩:=S6 (P:=P) hr' hr hx
 let S:Nat→Prop:=fun b=>(∃s,G'.vm 0 s=some b)∨∃s,G'.nm 0 s=some b
 have hmr:=hr'.mr;have hSt:∀l s b,(true&&l != 0)=false→G'.vm l s=some b→S b:=by
  intro l s b hl e;have:l=0:=by simpa using hl
  subst this;exact .inl ⟨s,e⟩
 unfold Kz at hy;rw[Option.bind_eq_some_iff]at hy;obtain⟨z,hz,hy⟩:=hy;have hv2:=Rep.un (Yx hmr (own:=true) (S:=S) hSt (fun _ s b _ _ _ e _=>.inr ⟨s,e⟩) hv z hz) y hy;rw[hst]at hmr;have hout:=hmr.out (S:=S) (fun b hs=>hs);have hmine:∀b,((G'.pub w' S).dn 1).mine b→G'.mine b:=by
  rintro b (⟨l,s,e⟩|⟨l,s,e⟩)
  ·exact .inl ⟨l+1,s,e⟩
  ·exact .inr ⟨l+1,s,e⟩
 have hext:Ext 0 G w ((G'.pub w' S).dn 1) w':=by
  refine⟨he.os,he.tape,he.output,he.size,fun b o v e=>?_,fun l s _=>he.nm (l+1) s (by omega),fun l s=>he.vg (l+1) s,fun l s e=>he.vs (l+1) s e,fun b hb hnm=>?_,fun b hb=>?_,fun l s b e=>?_⟩
  ·exact(Gh.pub_gle (S:=S) hr'.mr.stab).stab b o v (he.stab b o v e)
  ·obtain⟨h1,h2⟩:=he.old b hb (fun hx=>hnm (Gh.up_mine.1 hx));refine⟨h1,fun o=>?_⟩;have hnS:¬S b:=by
    rintro(⟨s,e⟩|⟨s,e⟩)
    ·have:=hr'.base s b (.inr e);omega
    ·have:=hr'.base s b (.inl e);omega
   show(G'.pub w' S).stab b o=G.stab b o;rw[Gh.pub_out hnS];exact h2 o
  ·rcases he.mine b (hmine b hb)with h1|h1
   ·exact .inl (Gh.up_mine.1 h1)
   ·exact .inr h1
  ·rcases he.mv (l+1) s b e with⟨i,t,hi,h1⟩|h1
   ·cases i with
    |zero=>cases h1
    |succ i=>exact .inl ⟨i,t,by omega,h1⟩
   ·exact .inr h1
 exact⟨v,hrun,_,y,v,m',rfl,hR,hv2,hout,hext,hml⟩

theorem Ws {k:FuncId} {fn:Func} {c:Code} {rc:RC} {rs:List RR} {args:List AV} {m:Ql} {R:AV→Ql→Prop} (hf:P.funcs[k]? = some fn) (hb:fn.body=some c) (hn:(fn.name == "runtime.NumGoroutine")=false) (hN:fn.ntmps=N) (hc:XY P N rc c=true) (hr:Jf P fn.results.toList rs=true)
  (ha:args.length≤N) (h:QJ P rc (St.enter args m) (Zu rs m.length R)):Qf P k args m R:=by
 refine⟨⟨fn,hf,hn,by rw[hb];rfl⟩,fun G w vs hvs hm=>?_⟩;refine calls_of_wp hf hb ?_;refine NA h hc (Hv hvs hm hN ha) fun e G' st' a' w' hq hr' he=>?_
 obtain⟨hex,hds,x,y,fr,m',hx,hy,hst,hml,hR⟩:=hq;have hdef:a'.defers=[]:=by
  have:=hr'.ds;rw[hds]at this;cases hd:a'.defers with
  |nil=>rfl
  |cons d l=>rw[hd]at this;cases this
 have hfin:=Fj (R:=R) hr hr' he hx hy hst hml hR;rcases hex with rfl|rfl
 ·exact⟨hdef,hfin⟩
 ·exact⟨hdef,hfin⟩

def KS (P:Program)(k:FuncId)(args:List AV)(m:Ql)(R:AV→Ql→Prop):Prop :=
 Wd P k∧∀(G:Gh) (w:World) (vs:List Value),RepL G args vs→MR G m w→∀u,CallsD P k ⟨vs⟩ u w fun e u' w'=>u'=u∧∃G' x v m',e=.returned v∧R x m'∧Rep G' x v∧MR G' m' w'∧Ext 0 G w G' w'∧m'.length=m.length

theorem UM {k:FuncId} {fn:Func} {c:Code} {rc:RC} {rs:List RR} {args:List AV} {m:Ql} {R:AV→Ql→Prop} (hf:P.funcs[k]? = some fn) (hb:fn.body=some c) (hn:(fn.name == "runtime.NumGoroutine")=false) (hN:fn.ntmps=N) (hc:XY P N rc c=true) (hr:Jf P fn.results.toList rs=true)
  (ha:args.length≤N) (h:QJ P rc (St.enter args m) (Zu rs m.length R)):KS P k args m R:=by
 refine⟨⟨fn,hf,hn,by rw[hb];rfl⟩,fun G w vs hvs hm u=>?_⟩;refine callsD_of_wp (R:=fun e w'=>∃G' x v m',e=.returned v∧R x m'∧Rep G' x v∧MR G' m' w'∧Ext 0 G w G' w'∧m'.length=m.length) hf hb ?_;refine NA h hc (Hv hvs hm hN ha) fun e G' st' a' w' hq hr' he=>?_
 obtain⟨hex,hds,x,y,fr,m',hx,hy,hst,hml,hR⟩:=hq;have hdef:a'.defers=[]:=by
  have:=hr'.ds;rw[hds]at this;cases hd:a'.defers with
  |nil=>rfl
  |cons d l=>rw[hd]at this;cases this
 have hfin:=Fj (R:=R) hr hr' he hx hy hst hml hR;rcases hex with rfl|rfl
 ·exact⟨hdef,hfin⟩
 ·exact⟨hdef,hfin⟩

end

def CK (P:Program)(k N:Nat)(rc:RC)(rs:List RR):Prop :=
 ∃fn c, P.funcs[k]? = some fn∧fn.body=some c∧(fn.name == "runtime.NumGoroutine")=false∧fn.ntmps=N∧XY P N rc c=true∧Jf P fn.results.toList rs=true
theorem CK.go {P:Program}{k N:Nat}{rc:RC}{rs:List RR}{args:List AV}{m:Ql}{R:AV→Ql→Prop}(h:CK P k N rc rs)(ha:args.length≤N)(w:QJ P rc (St.enter args m) (Zu rs m.length R)):Qf P k args m R:=by
 obtain⟨fn,c,h1,h2,h3,h4,h5,h6⟩:=h;exact Ws h1 h2 h3 h4 h5 h6 ha w
theorem ck {P:Program} {k N:Nat} {fn:Func} {rc:RC} {rs:List RR} (hf:P.funcs[k]? = some fn) (hN:fn.ntmps=N) (h:(fn.body.isSome && !(fn.name == "runtime.NumGoroutine")&&XY P N rc (fn.body.getD .skip)&&Jf P fn.results.toList rs)=true):CK P k N rc rs := by
 simp only[QFU,QGl,Option.isSome_iff_exists]at h;obtain⟨⟨⟨⟨c,hc⟩,h1⟩,h2⟩,h3⟩:=h;rw[hc]at h2;exact⟨fn,c,hf,hc,h1,hN,h2,h3⟩
theorem CK.dd {P:Program}{k N:Nat}{rc:RC}{rs:List RR}{args:List AV}{m:Ql}{R:AV→Ql→Prop}(h:CK P k N rc rs)(ha:args.length≤N)(w:QJ P rc (St.enter args m) (Zu rs m.length R)):KS P k args m R:=by
 obtain⟨fn,c,h1,h2,h3,h4,h5,h6⟩:=h;exact UM h1 h2 h3 h4 h5 h6 ha w
theorem CK.rl {P:Program}{k N:Nat}{rc:RC}{rs:List RR}{args:List AV}{R:AV→Prop}(h:CK P k N rc rs)(ha:args.length≤N)(w:QJ P rc (St.enter args []) (Zu rs 0 fun x _=>R x)):E0 P k args R:=h.go ha w
theorem CK.fn {P:Program}{k N:Nat}{rc:RC}{rs:List RR}{args:List AV}{v:AV}(h:CK P k N rc rs)(ha:args.length≤N)(w:QJ P rc (St.enter args []) (Zu rs 0 fun x _=>x=v)):Qr P k args v:=h.go ha w

section
variable {P:Program}{f:Fr}{m:Ql}{ds:List DF}{K:St→Prop}{Q:Exit→St→Prop}{Qd:List Item}{d:Nat}

def Kc (P:Program)(b:RC)(Q:Exit→St→Prop):Exit→St→Prop:=Ks (fun st'=>QJ P b st' Q) Q
def Kl (I:Nat→St→Prop)(n:Nat)(Q:Exit→St→Prop):Exit→St→Prop:=Ks (fun s=>∃k,k<n∧I k s) Q

theorem E2 {st:St}:QJ P .skip st Q=Q .normal st:=id rfl
theorem QtY {st:St}:QJ P .no st Q=False:=id rfl
theorem QmL {st:St}:QJ P .lab st Q=Q .normal st:=id rfl
theorem QmM {st:St}:QJ P .ret st Q=Q .ret st:=id rfl
theorem E3 {st:St}{i:Nat}:QJ P (.exit i) st Q=Q (.exit i) st:=id rfl
theorem QmN {st:St}:QJ P (.reg Qd) st Q=Qp P Qd st (Q .normal):=id rfl
theorem E4 {st:St}:QJ P (.draw Qd) st Q=Qp P Qd st (Q .normal):=id rfl
theorem QmO {st:St}{a b:RC}:QJ P (.seq a b) st Q=QJ P a st (Kc P b Q):=id rfl
theorem Tc {st:St}{i:Nat}{a:RC}:QJ P (.block i a) st Q=QJ P a st (Kb i Q):=id rfl
theorem Td {st:St}{a:RC}:QJ P (.scope a) st Q=QJ P a st (Kg Q):=id rfl
def UN:AV→Bool
 |.bool b=>b
 |_=>false
def NB:AV→Prop
 |.bool _=>True
 |_=>False
theorem E5 (b:Bool):UN (.bool b)=b:=id rfl
theorem QmP (b:Bool):NB (.bool b)=True:=id rfl
def YA (P:Program)(v:AV)(a b:RC)(st:St)(Q:Exit→St→Prop):Prop:=NB v∧(UN v=true→QJ P a st Q)∧(UN v=false→QJ P b st Q)
theorem ML {a b:RC}{st:St}:YA P (.bool true) a b st Q=QJ P a st Q:=by simp[YA,NB,UN]
theorem MM {a b:RC}{st:St}:YA P (.bool false) a b st Q=QJ P b st Q:=by simp[YA,NB,UN]
theorem XW {t:Bool}{a b:RC}{st:St}(h1:t=true→QJ P a st Q)(h2:t=false→QJ P b st Q):YA P (.bool t) a b st Q:=⟨trivial,h1,h2⟩
theorem E6 {c:RA}{a b:RC}:QJ P (.cond c a b) ⟨f,m,ds⟩ Q=YA P (c.ev f) a b ⟨f,m,ds⟩ Q:=by
 simp only[QJ,YA];generalize c.ev f=v;cases v<;>simp[UN,NB]

theorem E7 {b:RC}{st:St}:Kc P b Q .normal st=QJ P b st Q:=id rfl
theorem E8 {b:RC}{st:St}{i:Nat}:Kc P b Q (.exit i) st=Q (.exit i) st:=id rfl
theorem E9 {b:RC}{st:St}:Kc P b Q .ret st=Q .ret st:=id rfl
theorem Ia {st:St}{i:Nat}:Kb i Q .normal st=Q .normal st:=id rfl
theorem Ib {st:St}{i j:Nat}:Kb i Q (.exit j) st=if j=i then Q .normal st else Q (.exit j) st:=id rfl
theorem Ic {st:St}{i:Nat}:Kb i Q .ret st=Q .ret st:=id rfl
theorem Ie {st:St}:Kg Q .normal st=Q .normal st:=id rfl
theorem Ig {st:St}{j:Nat}:Kg Q (.exit j) st=Q (.exit j) st:=id rfl
theorem Ih {st:St}:Kg Q .ret st=Q .ret st:=id rfl
theorem Ii {I:Nat→St→Prop}{n:Nat}{st:St}:Kl I n Q .normal st = ∃k,k<n∧I k st:=id rfl
theorem Ij {I:Nat→St→Prop}{n:Nat}{st:St}{j:Nat}:Kl I n Q (.exit j) st=Q (.exit j) st:=id rfl
theorem Ik {I:Nat→St→Prop}{n:Nat}{st:St}:Kl I n Q .ret st=Q .ret st:=id rfl

theorem Qg {a:RC}{st:St}(I:Nat→St→Prop)(n:Nat)(h0:I n st)(h:∀n st',I n st'→QJ P a st' (Kl I n Q)):QJ P (.loop a) st Q:=⟨I,n,h0,h⟩

theorem QmQ {st:St}:Qp P [] st K=K st:=id rfl
def YB (x:Option AV):AV:=x.getD .top
def Gx (x:Option AV):Prop:=x.isSome=true
theorem Gy (x:AV):YB (some x)=x:=id rfl
theorem QmR (x:AV):Gx (some x)=True:=by simp[Gx]
theorem QmS {vo:VO}:Qp P (⟨some d,.val vo,none⟩ :: Qd) ⟨f,m,ds⟩ K=(Gx (QC f m vo)∧Qp P Qd ⟨Qx f d (YB (QC f m vo)),m,ds⟩ K):=by
 simp only[Qp,XT,Wr,Qk];generalize QC f m vo=v;cases v<;>simp[YB,Gx]

def mget (x:Option Ql):Ql:=x.getD []
def Fk (x:Option Ql):Prop:=x.isSome=true
theorem Il (x:Ql):mget (some x)=x:=id rfl
theorem QmT (x:Ql):Fk (some x)=True:=by simp[Fk]
theorem Te {n:Nat}{p r:RA}:Qp P (⟨none,.store n p r,none⟩ :: Qd) ⟨f,m,ds⟩ K=((r.ev f).cells.length=n∧(r.ev f).cells.all AV.leaf=true∧Fk (Q5 m (p.ev f) (r.ev f).cells)∧Qp P Qd ⟨f,mget (Q5 m (p.ev f) (r.ev f).cells),ds⟩ K):=by
 simp only[Qp,XT,Wr,Qk];generalize Q5 m (p.ev f) (r.ev f).cells=v;cases v<;>simp[mget,Fk]
def MN (l s:Nat)(v:AV):Prop:=∃o,v=.ptr l s o
theorem Im (l s o:Nat):MN l s (.ptr l s o)=True:=eq_true ⟨o,rfl⟩
theorem MO {l s n:Nat}{p r:RA}:Qp P (⟨none,.storev l s n p r,none⟩ :: Qd) ⟨f,m,ds⟩ K=(MN l s (p.ev f)∧(r.ev f).cells.length=n∧(r.ev f).cells.all AV.leaf=true∧Fk (Q5 m (p.ev f) (r.ev f).cells)∧Qp P Qd ⟨f,mget (Q5 m (p.ev f) (r.ev f).cells),ds⟩ K):=by
 simp only[Qp,XT,Wr,Qk,MN];generalize Q5 m (p.ev f) (r.ev f).cells=v;cases v<;>simp[mget,Fk]
theorem MP {s:Nat}{z:List AV}:Qp P (⟨some d,.allocN s z,none⟩ :: Qd) ⟨f,m,ds⟩ K=(XC m s=true∧Qp P Qd ⟨Qx f d (.ptr 0 s 0),Am.put m 0 s (.cells z),ds⟩ K):=id rfl
theorem Io {s:Nat}{r:RA}:Qp P (⟨some d,.boxN s r,none⟩ :: Qd) ⟨f,m,ds⟩ K=(XC m s=true∧(r.ev f).cells.all AV.leaf=true∧Qp P Qd ⟨Qx f d (.ptr 0 s 0),Am.put m 0 s (.cells (r.ev f).cells),ds⟩ K):=id rfl

theorem P2 {sz len:Nat}{z:List AV}{ps:List (Nat×Nat×RA)}{y:List AV}(hy:fill f ps (ZX z sz len)=some y)(h1:AV.rfL y=true)(h2:y.all AV.leaf=true):Qp P (⟨some d,.bsl sz len z ps,none⟩ :: Qd) ⟨f,m,ds⟩ K=Qp P Qd ⟨Qx f d (.list (ZW sz len (y.map nn0))),m,ds⟩ K:=by
 apply propext
 constructor
 ·rintro⟨y',h,_,_,k⟩;have h:fill f ps (ZX z sz len)=some y':=h;rw[hy]at h;cases h;exact k
 ·intro k;exact⟨y,hy,h1,h2,k⟩
theorem X4 {sz:Nat}{z l:List AV}{r:RA}(hr:r.ev f=.agg l)(hl:l.length=sz)(h1:sz≠1)(hf:AV.rfL l=true)(hlf:l.all AV.leaf=true)(h:Qp P Qd ⟨Qx f d (.list [.agg (l.map nn0)]),m,ds⟩ K) :
  Qp P (⟨some d,.bsl sz 1 z [(0,sz,r)],none⟩ :: Qd) ⟨f,m,ds⟩ K:=by
 have hz:(ZX z sz 1).length=sz:=by simp[ZX]
 have hy:fill f [(0,sz,r)] (ZX z sz 1)=some l:=by
  simp only[fill,hr,AV.cells,hl,hlf,QFW,hz,QFx,QGr,if_true,splice,List.take_zero,QFT];rw[QF6 (by omega),QGq]
 rw[P2 hy hf hlf];have hc:ZW sz 1 (l.map nn0)=[.agg (l.map nn0)]:=by
  simp only[ZW,QFE h1];rw[QF4 (by rw[QGK];omega)]
 rw[hc];exact h

theorem KS.mono {k:FuncId}{args:List AV}{m:Ql}{R R':AV→Ql→Prop}(h:KS P k args m R)(hr:∀x m',R x m'→R' x m'):KS P k args m R' :=
 ⟨h.1,fun G w vs h1 h2 u c cs hu=>by
  obtain⟨e,u',w',fr,⟨h3,G',x,v,m',h4,h5,h6⟩,h7⟩:=h.2 G w vs h1 h2 u c cs hu;exact⟨e,u',w',fr,⟨h3,G',x,v,m',h4,hr _ _ h5,h6⟩,h7⟩⟩

theorem W3 {slot site sz:Nat}{a:RC}{fr:Nat→Ob}(h1:f slot=.nils)(h2:fr site=.none)(h:QJ P a ⟨Qx f slot (.vec 0 site 1 0 0 false),Qx fr site (.vec 1 sz []) :: m,ds⟩ Q):QJ P (.gho (.vec slot site sz) a) ⟨f,fr :: m,ds⟩ Q:=by
 refine⟨_,?_,h⟩;have e:Qh (fr :: m) 0 site=.none:=h2;simp[JH,h1,e,QO,Q9,Am.put]

theorem Xa {sz bytes el:Nat}{s r:RA}{site g n:Nat}{fr:Nat→Ob}{xs ys:List AV}(hs:s.ev f=.vec 0 site g 0 n false)(hl:fr site=.vec g sz xs)(ht:X8 site el=true)(hn:n=xs.length)(hr:r.ev f=.list ys)(hz:ys.all (fun e=>e.cells.length==sz)=true)(hm:n+ys.length≤maxLen)(hb:(n+ys.length)*bytes≤140737488355328)
  (h:Qp P Qd ⟨Qx f d (.vec 0 site (g+1) 0 (n+ys.length) false),Qx fr site (.vec (g+1) sz (xs++ys)) :: m,ds⟩ K):Qp P (⟨some d,.app sz bytes el s r,none⟩ :: Qd) ⟨f,fr :: m,ds⟩ K:=by
 refine⟨0,site,g,n,xs,ys,hs,hl,ht,by omega,?_,hz,hm,hb,?_⟩
 ·show XN (fr :: m) (r.ev f)=some ys;rw[hr];rfl
 ·subst hn;rw[QGS];exact h

theorem Xd {k:Nat}{args:List RA}{ys:List AV}{v:AV}(hk:Qr P k ys v)(hy:AV.stillL false m (args.map (RA.ev f))=some ys)(h1:AV.rfL ys=true)(h2:v.rf=true)(h3:AV.rfL (args.map (RA.ev f))=true∨v.nl=true)(h:Qp P Qd ⟨Qx f d v,m,ds⟩ K) :
  Qp P (⟨some d,.call (.f k) args,none⟩ :: Qd) ⟨f,m,ds⟩ K:=by
 refine⟨k,[],[],ys,v,rfl,?_,h1,hk,h2,?_,h⟩
 ·simpa using hy
 ·simpa using h3

theorem aC {k:Nat}{args:List RA}{ys:List AV}{v:AV}(hk:Qr P k ys v)(h:Qp P Qd ⟨Qx f d v,m,ds⟩ K)(hy:AV.stillL false m (args.map (RA.ev f))=some ys:=by rfl)(h1:AV.rfL ys=true:=by rfl)(h2:v.rf=true:=by rfl)(h3:AV.rfL (args.map (RA.ev f))=true∨v.nl=true:=by exact .inl rfl) :
  Qp P (⟨some d,.call (.f k) args,none⟩ :: Qd) ⟨f,m,ds⟩ K:=Xd hk hy h1 h2 h3 h

theorem Fl {cnt:Bool}{k:Nat}{s c:RA}{t:List UInt8}{b:Int}(hs:s.ev f=.str t)(hb:c.ev f=.int .u8 b)(h:Qp P Qd ⟨Qx f d (.int .i64 (Y1 cnt t b)),m,ds⟩ K):Qp P (⟨some d,.xb cnt k s c,none⟩ :: Qd) ⟨f,m,ds⟩ K :=
 ⟨t,b,hs,hb,h⟩

theorem Hw {s:Nat}{r:RA}{fr:Nat→Ob}{t:List UInt8}(ht:r.ev f=.str t)(hn:fr s=.none)(h:Qp P Qd ⟨Qx f d (.ptr 0 s 0),Qx fr s (.iter (.str t) 0) :: m,ds⟩ K) :
  Qp P (⟨some d,.rngs s r,none⟩ :: Qd) ⟨f,fr :: m,ds⟩ K:=by
 refine⟨t,ht,?_,h⟩;show(match fr s with|.none=>true|_=>false)=true;rw[hn]

theorem Hx {s p:Nat}{r:RA}{fr:Nat→Ob}{t:List UInt8}(hr:r.ev f=.ptr 0 s 0)(hl:fr s=.iter (.str t) p)
  (h1:p<t.length→Qp P Qd ⟨Qx f d (.tup [.bool true,.int .i64 (p:Nat),.int .i32 ((Xl t p).1:Nat)]),Qx fr s (.iter (.str t) (p+(Xl t p).2)) :: m,ds⟩ K)
  (h2:t.length≤p→Qp P Qd ⟨Qx f d (.tup [.bool false]),fr :: m,ds⟩ K) :
  Qp P (⟨some d,.nxts r,none⟩ :: Qd) ⟨f,fr :: m,ds⟩ K :=
 ⟨0,s,t,p,hr,hl,h1,h2⟩

theorem Qb {k:Nat}{args:List RA}{ys:List AV}{v:AV}{m':Ql}(hk:Qf P k ys m fun x m1=>x=v∧m1=m')(hy:args.map (RA.ev f)=ys)(h:Qp P Qd ⟨Qx f d v,m',ds⟩ K) :
  Qp P (⟨some d,.callF (.f k) args,none⟩ :: Qd) ⟨f,m,ds⟩ K:=by
 refine⟨k,[],[],v,m',rfl,?_,h⟩;show Qf P k (args.map (RA.ev f)++[]) m fun x m1=>x=v∧m1=m'
 rw[QGq,hy];exact hk

theorem UO {site el sz bytes:Nat}{z:List AV}{l c:RA}{kl kc:IntKind}{n k:Nat}{fr:Nat→Ob}(hl:l.ev f=.int kl (n:Int))(hc:c.ev f=.int kc (k:Int))(hnk:n≤k)(hk:k≤9223372036854775807)(hb:bytes*k≤281474976710656)(hs:fr site=.none)
  (h:Qp P Qd ⟨Qx f d (.vec 0 site 1 0 n false),Qx fr site (.vec 1 sz (List.replicate n (Jq sz z))) :: m,ds⟩ K):Qp P (⟨some d,.mk site el sz bytes z l c,none⟩ :: Qd) ⟨f,fr :: m,ds⟩ K:=by
 have e:Qh (fr :: m) 0 site=.none:=hs;refine⟨kl,kc,n,k,hl,hc,hnk,hk,hb,?_,?_⟩
 ·show QO (Qh (fr :: m) 0 site)=true;rw[e];rfl
 ·have hg:Q9 (fr :: m) 0 site=1:=by unfold Q9;rw[e]
  simp only[hg];exact h

theorem NC {s:Nat}{a:RC}{fr:Nat→Ob}:QJ P (.gho (.drop s) a) ⟨f,fr :: m,ds⟩ Q=((fr s).isRow=false∧QJ P a ⟨fun i=>(f i).scrub s,Qx (fun i=>(fr i).scrub s) s .none :: m,ds.map (DF.scrub s)⟩ Q):=by
 apply propext
 have hn:K8 (fr :: m) s=!(fr s).isRow:=by
  unfold K8;show(match fr s with|.vec .. => false|_=>true)=_;cases fr s<;>rfl
 constructor
 ·rintro⟨st',h1,h2⟩;simp only[JH,hn]at h1;cases hr:(fr s).isRow with
  |true=>rw[hr]at h1;cases h1
  |false=>rw[hr]at h1;cases h1;exact⟨rfl,h2⟩
 ·rintro⟨h1,h2⟩;refine⟨_,?_,h2⟩;simp only[JH,hn,h1];rfl
theorem ND (s:Nat):AV.top.scrub s=.top:=id rfl
theorem NE (s:Nat)(k:IntKind)(n:Int):(AV.int k n).scrub s=.int k n:=id rfl
theorem BG (s:Nat)(b:Bool):(AV.bool b).scrub s=.bool b:=id rfl
theorem NF (s:Nat)(b:List UInt8):(AV.str b).scrub s=.str b:=id rfl
theorem BH (s:Nat):AV.nils.scrub s=.nils:=id rfl
theorem BI (s:Nat):AV.nilp.scrub s=.nilp:=id rfl
theorem BJ (s:Nat):AV.nili.scrub s=.nili:=id rfl
theorem BK (s:Nat):AV.nilf.scrub s=.nilf:=id rfl
theorem BL (s:Nat)(l:List AV):(AV.list l).scrub s=.list l:=id rfl
theorem NG (s l t g o n:Nat)(q:Bool):(AV.vec l t g o n q).scrub s=.vec l t g o n q:=id rfl
theorem NH (s:Nat)(l:List AV):(AV.agg l).scrub s=.agg (AV.scrubL s l):=id rfl
theorem NI (s:Nat)(l:List AV):(AV.tup l).scrub s=.tup (AV.scrubL s l):=id rfl
theorem NJ (s t o:Nat):(AV.ptr 0 t o).scrub s=bif Nat.beq t s then .top else .ptr 0 t o:=id rfl
theorem BM (s l t o:Nat):(AV.ptr (l+1) t o).scrub s=.ptr (l+1) t o:=id rfl
theorem NK (s:Nat):AV.scrubL s []=[]:=id rfl
theorem BN (s:Nat)(x:AV)(l:List AV):AV.scrubL s (x :: l)=x.scrub s :: AV.scrubL s l:=id rfl
theorem D7 (s:Nat)(l:List AV):(Ob.cells l).scrub s=.cells (AV.scrubL s l):=id rfl
theorem NL (s g z:Nat)(l:List AV):(Ob.vec g z l).scrub s=.vec g z l:=id rfl
theorem BO (s:Nat):Ob.none.scrub s=.none:=id rfl
theorem Ym (s:Nat)(o:Ob):(o.scrub s).isRow=o.isRow:=by cases o<;>rfl
theorem D8 (l:List AV):(Ob.cells l).isRow=false:=id rfl
theorem BP:Ob.none.isRow=false:=id rfl

def Zx (P:Program)(v:AV)(w:Bool)(d:Option Nat)(ro:RO)(Qd:List Item)(st:St)(K:St→Prop):Prop :=
 match v with
 |.bool b=>(b=w→Qp P (⟨d,ro,none⟩ :: Qd) st K)∧(b=(!w)→Qp P Qd { st with f:=Qk st.f d (.tup []) } K)
 |.tup l=>l=[]∧Qp P Qd { st with f:=Qk st.f d (.tup []) } K
 |_=>False
theorem Zy {b:Bool}{d:Option Nat}{ro:RO}{st:St}(h1:b=true→Qp P (⟨d,ro,none⟩ :: Qd) st K)(h2:b=false→Qp P Qd { st with f:=Qk st.f d (.tup []) } K):Zx P (.bool b) true d ro Qd st K:=⟨h1,h2⟩
theorem Zz {b:Bool}{d:Option Nat}{ro:RO}{st:St}(h1:b=false→Qp P (⟨d,ro,none⟩ :: Qd) st K)(h2:b=true→Qp P Qd { st with f:=Qk st.f d (.tup []) } K):Zx P (.bool b) false d ro Qd st K:=⟨h1,h2⟩
theorem MQ {d:Option Nat}{ro:RO}{st:St}:Zx P (.bool true) true d ro Qd st K=Qp P (⟨d,ro,none⟩ :: Qd) st K:=by simp[Zx]
theorem MS {d:Option Nat}{ro:RO}{st:St}:Zx P (.bool false) false d ro Qd st K=Qp P (⟨d,ro,none⟩ :: Qd) st K:=by simp[Zx]
theorem NM {ro:RO}:Zx P (.bool true) false (some d) ro Qd ⟨f,m,ds⟩ K=Qp P Qd ⟨Qx f d (.tup []),m,ds⟩ K:=by simp[Zx,Qk]
theorem NN {ro:RO}:Zx P (.bool false) true (some d) ro Qd ⟨f,m,ds⟩ K=Qp P Qd ⟨Qx f d (.tup []),m,ds⟩ K:=by simp[Zx,Qk]
theorem MT {ro:RO}{w:Bool}:Zx P (.tup []) w (some d) ro Qd ⟨f,m,ds⟩ K=Qp P Qd ⟨Qx f d (.tup []),m,ds⟩ K:=by simp[Zx,Qk]
theorem BQ {ro:RO}{st:St}:Zx P (.bool true) false none ro Qd st K=Qp P Qd st K:=by simp[Zx,Qk]
theorem BR {ro:RO}{st:St}:Zx P (.bool false) true none ro Qd st K=Qp P Qd st K:=by simp[Zx,Qk]
theorem NO {ro:RO}{w:Bool}{st:St}:Zx P (.tup []) w none ro Qd st K=Qp P Qd st K:=by simp[Zx,Qk]
theorem e_g {ro:RO}{j:Nat}{w:Bool}{d:Option Nat}:Qp P (⟨d,ro,some (j,w)⟩ :: Qd) ⟨f,m,ds⟩ K=Zx P (f j) w d ro Qd ⟨f,m,ds⟩ K:=by
 simp only[Qp,XT,Zx]
 all_goals(generalize f j=v;cases v<;>rfl)

theorem MU {rs:List RR}{n:Nat}{R:AV→Ql→Prop}{fr:Nat→Ob}:Zu rs n R .ret ⟨f,fr :: m,ds⟩=(ds=[]∧Gx (Kp ⟨f,fr :: m,ds⟩ rs)∧Gx (Kz (fr :: m) (YB (Kp ⟨f,fr :: m,ds⟩ rs)))∧m.length=n∧R (YB (Kz (fr :: m) (YB (Kp ⟨f,fr :: m,ds⟩ rs)))) m):=by
 apply propext
 constructor
 ·rintro⟨_,h1,x,y,fr',m',h2,h3,h4,h5,h6⟩;cases h4;have h1:ds=[]:=h1;rw[h2,Gy,h3];exact⟨h1,rfl,rfl,h5,h6⟩
 ·rintro⟨h1,h2,h3,h4,h5⟩;generalize hv:Kp ⟨f,fr :: m,ds⟩ rs=v at h2 h3 h5;cases v with
  |none=>cases h2
  |some x=>
   rw[Gy]at h3 h5;cases hl:Kz (fr :: m) x with
   |none=>rw[hl]at h3;cases h3
   |some y=>
    rw[hl]at h5;exact⟨.inr rfl,h1,x,y,fr,m,hv,hl,rfl,h4,h5⟩
theorem MV {rs:List RR}{n:Nat}{R:AV→Ql→Prop}{st:St}:Zu rs n R .normal st=Zu rs n R .ret st:=by
 simp[Zu]

theorem QmU {α:Type}(f:Nat→α)(d:Nat)(x:α)(i:Nat):Qx f d x i=bif Nat.beq i d then x else f i:=id rfl
theorem Ip (a b:Nat):Nat.beq a b=(a==b):=by
 cases h:Nat.beq a b with
 |true=>rw[QFv h];simp
 |false=>have:=Nat.ne_of_beq_eq_false h;simp[this]
theorem Xz {s idx site sz:Nat}{a:RC}{fr:Nat→Ob}{xs:List AV}(h1:fr s=.cells xs)(h2:xs[idx]? = some .nils)(h3:fr site=.none)(hne:Nat.beq site s=false)(h:QJ P a ⟨f,Qx (Qx fr site (.vec 1 sz [])) s (.cells (xs.set idx (.vec 0 site 1 0 0 false))) :: m,ds⟩ Q):QJ P (.gho (.vecc s idx site sz) a) ⟨f,fr :: m,ds⟩ Q:=by
 refine⟨_,?_,h⟩;have e1:Qh (fr :: m) 0 s=.cells xs:=h1;have e:Qh (fr :: m) 0 site=.none:=h3;simp[JH,e1,h2,e,QO,Q9,Am.put,hne]
theorem Jv {α:Type}(f:Nat→α)(d:Nat)(x y:α):Qx (Qx f d x) d y=Qx f d y:=by
 funext i;by_cases h:i=d
 ·subst h;rw[QT,QT]
 ·rw[QX _ _ h,QX _ _ h,QX _ _ h]
theorem Z0 {α:Type}(f:Nat→α)(d e:Nat)(x y:α)(hde:d≠e):Qx (Qx f d x) e y=Qx (Qx f e y) d x:=by
 funext i;by_cases h:i=d
 ·subst h;rw[QT,QX _ _ hde,QT]
 ·by_cases h2:i=e
  ·subst h2;rw[QT,QX _ _ h,QT]
  ·rw[QX _ _ h2,QX _ _ h,QX _ _ h,QX _ _ h2]
theorem W4 {α:Type}(f:Nat→α)(d:Nat)(x:α)(h:f d=x):Qx f d x=f:=by
 funext i;by_cases hi:i=d
 ·subst hi;rw[QT,h]
 ·rw[QX _ _ hi]
theorem e_t (n:Nat):(RA.t n).ev f=f n:=id rfl
theorem e_c (x:AV):(RA.c x).ev f=x:=id rfl
theorem e_f (k:Nat):(RA.f k).ev f=.fn (.func k) [] []:=id rfl

end

end Go.Proofs.YtaiflhahcglpgaaGreatDoor.Am

namespace Go.Proofs.YtaiflhahcglpgaaGreatDoor.Br
open Go Am Go.RowKit Go.WideShapes Go.ChangeShapes Go.ChangeAt

theorem Gz {P:Program}{k:FuncId}{args:List AV}{v:Bool}(h:Qr P k args (.bool v)){stab:Nat→Nat→Option SV}(ht:∀b o v,ZM b o=some v→stab b o=some v){w:World}(hs:∀b o u,stab b o=some u→rd w b o u){vs:List Value}(hr:RepL (Gh.bare stab ht) args vs) :
  Calls P k ⟨vs⟩ w fun e w'=>e=.returned (.bool v)∧Below w.heap.size w w' :=
 (h.2 (Gh.bare stab ht) w vs hr (MR.bare hs)).mono fun e w' ⟨G',x,u,m',he,hx,hu,_,hex,_⟩=>by
  subst hx;cases hu;exact⟨he,hex.os,hex.tape,hex.output,hex.size,fun b hb=>(hex.old b hb Gh.bare_mine).1⟩

theorem GA {n:Int}(h:(Lit.int .u64 n).wf=true):0≤n:=by
 simp[Lit.wf,IntKind.min,IntKind.max,IntKind.bits,IntKind.signed]at h;omega
theorem Iq {n:Int}(h:(Lit.int .u64 n).wf=true):n<18446744073709551616:=by
 simp[Lit.wf,IntKind.min,IntKind.max,IntKind.bits,IntKind.signed]at h;omega

section
variable {H:Type}{enc:TypeId×Value→H}{P:Program}
theorem HS {f:Func}{s:ChangeSpec}{W0 fresh handsOn again:Bool}{W W':World}{args:Array Value}{v:Value}{ds gs:List (DataW H)}{before pa pv:List MemPlace}
  (hW:DataW.Whole enc P f.params.toList s.vars W0 W args.toList ds gs before)
  (hres:∀(b:Nat) (sp:Nat→Bool) (hd:Bool),DataW.TrodAll enc P W' b sp hd f.resultTypes.toList (v.resultList f.resultTypes.size) (s.fn H (ds++gs)).results [])
  (hargs:∀sp:Nat→Bool,(∀p∈before,sp p.block=true)→DataW.TrodAll enc P W' 0 sp true f.params.toList args.toList (s.fn H (ds++gs)).args pa)
  (hvars:∀sp:Nat→Bool,(∀p∈before,sp p.block=true)→DataW.TrodVars enc P W' sp s.vars (s.fn H (ds++gs)).vars pv)
  (hps:before=pa++pv) (hb:Below W.heap.size W W')
  (hok:∀(j:Nat) (t:TypeId) (r:Value),f.resultTypes[j]? = some t→(v.resultList f.resultTypes.size)[j]? = some r→Value.okWide P W' .any 0 t r) :
  s.post enc P f W0 fresh handsOn again W args v W':=by
 have hlt:∀p∈before,p.block<W.heap.size:=fun p hp=>hW.lt p hp
 have hold:∀p∈before,(fun b=>decide (b<W.heap.size)) p.block=true:=fun p hp=>by simpa using hlt p hp
 refine⟨ds,gs,before,[],pa,pv,hW,hres _ _ _,hargs _ hold,hvars _ hold,World.keptBut_mono (fun p hp=>⟨hp,?_⟩) (hb.frame (·∈before)),fun _=>?_⟩
 ·rw[hps,List.mem_append]at hp;exact Or.inr hp
 ·obtain⟨_,_,_,_,_,hz,hn⟩:=hW;refine⟨hok,_,_,([]++pa)++pv,⟨[]++pa,pv,trodAll_append (hargs _ (fun _ _=>rfl)) (hres _ _ _),hvars _ (fun _ _=>rfl),rfl,?_,?_⟩,?_⟩
  ·intro b off hp;have hin:MemPlace.cell b off∈before:=by rw[hps];simpa using hp
   rw[hb.frozen (hlt _ hin)];exact hz b off hin
  ·intro ha;have:=hn ha;rw[hps]at this
   simpa using this
  ·intro p hp _;rw[hps]
   simpa using hp
end

section
variable {H:Type}{enc:TypeId×Value→H}{P:Program}{w:World}{base:Nat}{sp:Nat→Bool}{held:Bool}

end

open Go.Joins Go.Deep Go.WideElems Go.Maps

section
variable {H:Type}{enc:TypeId×Value→H}{P:Program}{W:World}{base:Nat}{sp:Nat→Bool}{held:Bool}

end

theorem Yn {X α:Type}{f:X→List α}{sz:Nat}(hsz:0<sz)(hf:∀x,(f x).length=sz):∀(xs:List X) (j:Nat),(xs.flatMap f)[j]? = (xs[j / sz]?).bind fun x=>(f x)[j % sz]?
 | [],j=>by simp
 |x :: xs,j=>by
  rw[List.flatMap_cons];by_cases hj:j<sz
  ·rw[List.getElem?_append_left (by rw[hf];exact hj),Nat.div_eq_of_lt hj,Nat.mod_eq_of_lt hj];rfl
  ·obtain⟨i,rfl⟩:∃i,j=sz+i:=⟨j-sz,by omega⟩;rw[QGL (by rw[hf];omega),hf,Yn hsz hf xs,show sz+i-sz=i by omega,show(sz+i) / sz=i / sz+1 by rw[Nat.add_div_left _ hsz],Nat.add_mod_left];rfl

section
variable {H:Type}{enc:TypeId×Value→H}{P:Program}{W:World}

structure El (enc:TypeId×Value→H)(P:Program)(e:TypeId)(sz:Nat)(X:Type) where
 av:X→AV
 vals:X→List Value
 It:X→DataW H
 ok:X→Prop
 pos:0<sz
 len:∀x,(vals x).length=sz
 cells:∀x,(av x).cells.length=sz
 rfl':∀x,AV.rfL (av x).cells=true
 leaf:∀x,(av x).cells.all AV.leaf=true
 rep:∀(G:Gh) x,RepL G (av x).cells (vals x)
 opened:∀ {W:World} {n:Nat} {cs:List Value} {d:DataW H} {pl:List MemPlace},cs.length=sz→DataW.trod enc P W 0 (fun _=>true) true n e cs=some (d,pl)→∃x,ok x∧cs=vals x∧d=It x∧pl=[]
 shut:∀(W:World) (sp:Nat→Bool) x,ok x→∃n,DataW.trod enc P W 0 sp true n e (vals x)=some (It x,[])

end

def XB:List AV→AV
 | [x]=>x
 |l=>.agg l

def Y8 (P:Program):Nat→List Field→Nat→Bool
 |o,[],n=>Nat.beq o n
 |o,f :: fs,n=>Nat.beq f.offset o&&Y8 P (o+P.cellsOf f.type) fs n

def NP (P:Program)(ts:List TypeId)(t:TypeId):Bool :=
 match P.underlying t with
 |some (.int _)|some .bool|some .string=>P.cellsOf t==1
 |some (.struct fs)=>Y8 P 0 fs.toList (P.cellsOf t)&&fs.toList.all fun f=>ts.contains f.type
 |some (.slice e)=>P.cellsOf t==1&&(decide (0<P.cellsOf e)&&decide (0<P.bytesOf e))&&ts.contains e
 |_=>false
def NQ (P:Program)(ts:List TypeId):Bool:=ts.all (NP P ts)

def QS (P:Program)(M:Nat):Nat→TypeId→List AV→Prop
 |0,_,_=>False
 |k+1,t,cs=>match P.underlying t with
  |some (.int ik)=>∃n,cs=[.int ik n]∧(Lit.int ik n).wf=true
  |some .bool=>∃b,cs=[.bool b]
  |some .string=>∃s,cs=[.str s]∧s.length≤M
  |some (.struct fs)=>HasL (QS P M k) fs.toList cs
  |some (.slice e)=>∃l:List (List AV),cs=[.list (l.map XB)]∧(l.length≤maxLen∧(M=reachBytes→l.length*P.bytesOf e≤M))∧(∀c∈l,QS P M k e c)∧l.length≤M
  |_=>False
where
 HasL (h:TypeId→List AV→Prop):List Field→List AV→Prop
  | [],cs=>cs=[]
  |f :: fs,cs=>∃a b,cs=a++b∧h f.type a∧HasL h fs b

theorem Yo {l:List AV}(h:l.all AV.leaf=true):(XB l).cells=l:=by
 match l,h with
 | [],_=>rfl
 | [x],h=>cases x<;>first|rfl|simp[AV.leaf]at h
 |_ :: _ :: _,_=>rfl

mutual
def wt:AV→Nat
 |.list l=>1+Jk l
 |.agg l=>Jk l
 |_=>1
def Jk:List AV→Nat
 | []=>0
 |x :: l=>wt x+Jk l
end
theorem Fm (a b:List AV):Jk (a++b)=Jk a+Jk b:=by
 induction a with
 |nil=>simp[Jk]
 |cons x a ih=>simp only[QFS,Jk,ih];omega
theorem MW:∀l:List AV,wt (XB l)=Jk l
 | []=>by simp[XB,wt]
 | [x]=>by simp[XB,Jk]
 |_ :: _ :: _=>by simp[XB,wt]

theorem WI {G:Gh}:∀ {ls:List (List AV)} {cs:List (List Value)},ls.length=cs.length→(∀i (h1:i<ls.length) (h2:i<cs.length),RepL G ls[i] cs[i])→RepL G ls.flatten cs.flatten
 | [],[],_,_=>.nil
 |l :: ls,c :: cs,hn,h=>by
  rw[List.flatten_cons,List.flatten_cons];exact RepL.append (h 0 (by simp) (by simp)) (WI (by simpa using hn) fun i h1 h2=>h (i+1) (by simpa using h1) (by simpa using h2))
 | [],_ :: _,hn,_=>by simp at hn
 |_ :: _,[],hn,_=>by simp at hn

section
variable {H:Type}{enc:TypeId×Value→H}{P:Program}{W:World}{M:Nat}

theorem YC {d:DataW H}:∀ {l:List (DataW H)},d∈l→Rows.uptoBulk d≤Rows.uptoBulkAll l
 | [],h=>by cases h
 |x :: l,h=>by
  rw[Rows.uptoBulkAll];rcases QGF.1 h with rfl|h
  ·omega
  ·have:=YC h;omega

theorem MX (d:DataW H):1≤Rows.uptoBulk d:=by unfold Rows.uptoBulk;split<;>omega
theorem Y9 {x:AV}(h:wt x=1)(d:DataW H):Jk [x]≤Rows.uptoBulk d:=by
 have:=MX d;rw[Jk,Jk,h];exact this
theorem MY (a b:List (DataW H)):Rows.uptoBulkAll (a++b)=Rows.uptoBulkAll a+Rows.uptoBulkAll b:=by
 induction a with
 |nil=>simp[Rows.uptoBulkAll]
 |cons x a ih=>simp only[QFS,Rows.uptoBulkAll,ih];omega
theorem GB (F:Nat→List AV)(xs:List (DataW H))(h:∀i d,xs[i]? = some d→Jk (F i)≤Rows.uptoBulk d):∀n,n≤xs.length→Jk (((List.range n).map F).map XB)≤Rows.uptoBulkAll (xs.take n)
 |0,_=>QFG _
 |n+1,hn=>by
  have hx:xs[n]? = some xs[n]:=QFA (by omega);have:=GB F xs h n (by omega);have h1:=h n _ hx;rw[List.range_succ,QGT,QGT,Fm,QGU,hx,MY];simp only[QF3,QGo,Jk,MW,QGV,Rows.uptoBulkAll];omega

def P3 (P:Program)(M:Nat)(t:TypeId)(d:DataW H):Prop:=M=maxLen∨(M≠reachBytes∧Rows.uptoBulk d≤M)∨(d.weights P t).all (·≤M)=true

theorem Ua {t:TypeId}{d:DataW H}:∀ {ts:List TypeId} {ds:List (DataW H)} (i:Nat),(DataW.weightsEach P ts ds).all (·≤M)=true→ts[i]? = some t→ds[i]? = some d→(d.weights P t).all (·≤M)=true
 | [],_,_,_,h,_=>by simp at h
 |_ :: _,[],_,_,_,h=>by simp at h
 |t' :: ts,d' :: ds,0,h,h1,h2=>by
  rw[DataW.weightsEach,QGC,QFU]at h;cases h1;cases h2;exact h.1
 |t' :: ts,d' :: ds,i+1,h,h1,h2=>by
  rw[DataW.weightsEach,QGC,QFU]at h;exact Ua i h.2 (by simpa using h1) (by simpa using h2)

theorem KT {e:TypeId}{d:DataW H}:∀ {ds:List (DataW H)},(DataW.weightsAll P e ds).all (·≤M)=true→d∈ds→(d.weights P e).all (·≤M)=true
 | [],_,h=>by cases h
 |d' :: ds,h,hd=>by
  rw[DataW.weightsAll,QGC,QFU]at h;rcases QGF.1 hd with rfl|hd
  ·exact h.1
  ·exact KT h.2 hd

def Ir (W:World)(hL:UJ W)(h:List AV→Prop)(B n:Nat)(cs:List Value):Prop :=
 ∃avs,h avs∧RepL (Gh.world W hL) avs cs∧avs.length=n∧AV.rfL avs=true∧avs.all AV.leaf=true∧Jk avs≤B

theorem Yp (hL:UJ W){h:TypeId→List AV→Prop}{cs:List Value}:∀(fs:List Field) (ds:List (DataW H)) (o:Nat),Y8 P o fs cs.length=true→fs.length=ds.length→(∀(i:Nat) (f:Field) (d:DataW H),fs[i]? = some f→ds[i]? = some d→Ir W hL (h f.type) (Rows.uptoBulk d) (P.cellsOf f.type) ((cs.drop f.offset).take (P.cellsOf f.type)))→
  Ir W hL (QS.HasL h fs) (Rows.uptoBulkAll ds) (cs.length-o) (cs.drop o)
 | [],_,o,hc,_,_=>by
  have e:o=cs.length:=QFv hc;refine⟨[],rfl,?_,by simp[e],rfl,rfl,QFG _⟩;rw[e,List.drop_length];exact .nil
 |_ :: _,[],_,_,hl,_=>by simp at hl
 |f :: fs,d :: ds,o,hc,hl,hf=>by
  simp only[Y8,QFU]at hc;have eo:f.offset=o:=QFv hc.1;obtain⟨a,a1,a2,a3,a4,a5,a6⟩:=hf 0 f d rfl rfl;obtain⟨b,b1,b2,b3,b4,b5,b6⟩:=Yp hL fs ds _ hc.2 (by simpa using hl) fun i g d hg hd=>hf (i+1) g d (by simpa using hg) (by simpa using hd)
  rw[eo]at a2;refine⟨a++b,⟨a,b,rfl,a1,b1⟩,?_,?_,by rw[JG,a4,b4]<;>rfl,by rw[QGC,a5,b5]<;>rfl,by rw[Fm,Rows.uptoBulkAll];omega⟩
  ·have:=RepL.append a2 b2
   rwa [←List.drop_drop,QGB]at this
  ·have hlen:a.length=((cs.drop o).take (P.cellsOf f.type)).length:=(RepL.length a2).symm;rw[QF7,a3,b3];rw[a3,QGk,QGa]at hlen;omega

theorem WJ (hL:UJ W){ts:List TypeId}(hP:NQ P ts=true):∀(k:Nat) (t:TypeId) (cs:List Value) (d:DataW H) (pl:List MemPlace),ts.contains t=true→DataW.trod enc P W 0 (fun _=>true) true k t cs=some (d,pl)→P3 P M t d→
  Ir W hL (QS P M k t) (Rows.uptoBulk d) (P.cellsOf t) cs
 |0,_,_,_,_,_,h,_=>by simp[DataW.trod]at h
 |k+1,t,cs,d,pl,ht,h,hb=>by
  have hp:=QFK.1 hP t (by simpa using ht);unfold NP at hp;split at hp
  ·rename_i ik hu;obtain⟨v,rfl,_,hw⟩:=DataW.trod_int hu h;refine⟨[.int ik v],?_,.cons (.int ik v) .nil,by rw[QFV]at hp;simp[hp],rfl,rfl,Y9 rfl _⟩;simp only[QS,hu];exact⟨v,rfl,hw⟩
  ·rename_i hu;obtain⟨b,rfl,_⟩:=DataW.trod_bool hu h;refine⟨[.bool b],?_,.cons (.bool b) .nil,by rw[QFV]at hp;simp[hp],rfl,rfl,Y9 rfl _⟩;simp only[QS,hu];exact⟨b,rfl⟩
  ·rename_i hu;obtain⟨⟨⟨s⟩⟩,rfl,e,hw⟩:=DataW.trod_string hu h;have hw:s.length≤M:=by
    cases e;rcases hb with rfl|hb|hb
    ·exact hw
    ·replace hb:=hb.2;rw[Rows.uptoBulk]at hb;exact QFy (Nat.le_succ _) hb
    ·rw[DataW.weights]at hb
     simpa using hb
   refine⟨[.str s],?_,.cons (.str s) .nil,by rw[QFV]at hp;simp[hp],rfl,rfl,Y9 rfl _⟩;simp only[QS,hu];exact⟨s,rfl,hw⟩
  ·rename_i fs hu;simp only[QFU,QFK]at hp;obtain⟨xs,n',hk,e,hlen,hxl,hx⟩:=DataW.trod_struct hu h;obtain rfl:k=n':=by omega
   have hbx:∀(i:Nat) x (f:Field),xs[i]? = some x→fs[i]? = some f→P3 P M f.type x.1:=fun i x f hx hf=>by
    cases e;refine hb.imp id fun hb=>hb.imp (fun hb=>⟨hb.1,?_⟩) fun hb=>?_
    ·replace hb:=hb.2;rw[Rows.uptoBulk]at hb;have:=YC (l:=xs.map (·.1)) (QGG.2 ⟨x,QFL hx,rfl⟩);omega
    ·rw[DataW.weights,hu]at hb;exact Ua i hb (by simp[hf]) (by simp[hx])
   have:=Yp hL (W:=W) (h:=QS P M k) (cs:=cs) fs.toList (xs.map (·.1)) 0 (by rw[hlen];exact hp.1) (by simp[hxl]) (fun i f d hi hd=>by
    have hi':fs[i]? = some f:=by simpa using hi
    have hf:f∈fs.toList:=QFL hi;obtain⟨x,hxi,rfl⟩:∃x,xs[i]? = some x∧x.1=d:=by
     rw[QGI]at hd;obtain⟨x,h1,h2⟩:=QFC.1 hd;exact⟨x,h1,h2⟩
    have h2:=hx i f hi';rw[hxi]at h2;exact WJ hL hP k f.type _ _ _ (hp.2 f hf) h2 (hbx i _ f hxi hi'))
   rw[QGb,QGD,hlen]at this;obtain⟨avs,h1,h2,h3,h4,h5,h6⟩:=this;refine⟨avs,?_,h2,h3,h4,h5,by cases e;rw[Rows.uptoBulk];omega⟩;simp only[QS,hu];exact h1
  ·rename_i e hu;simp only[QFU,QGH,QFV]at hp;obtain⟨⟨h1,h0,hby⟩,hpe⟩:=hp;rcases DataW.trod_slice hu h with⟨rfl,_⟩|⟨a,len,cap,elems,rest,n',hk,rfl,e0,_,hl,hm,hln0,hel,_⟩
   ·refine⟨[.list []],?_,.cons (.list (cs:=[]) (sz:=0) .nil (by simp) rfl rfl (by simp) rfl (QFG _) (QFG _)) .nil,by simp[h1],rfl,rfl,Y9 rfl _⟩;simp only[QS,hu];exact⟨[],rfl,⟨QFG _,fun _=>by simp⟩,by simp,QFG _⟩
   ·obtain rfl:k=n':=by omega
    have hbx:∀x∈elems,P3 P M e x.1:=fun x hx=>by
     cases e0;refine hb.imp id fun hb=>hb.imp (fun hb=>⟨hb.1,?_⟩) fun hb=>?_
     ·replace hb:=hb.2;rw[Rows.uptoBulk]at hb;have:=YC (l:=elems.map (·.1)) (QGG.2 ⟨x,hx,rfl⟩);omega
     ·rw[DataW.weights,hu,QGz,QGC,QFU,QFU]at hb;exact KT hb.2.1 (QGG.2 ⟨x,hx,rfl⟩)
    have hlenM:len≤M:=by
     cases e0;rcases hb with rfl|hb|hb
     ·omega
     ·have key:∀l:List (DataW H),l.length≤Rows.uptoBulkAll l:=by
       intro l
       induction l with
       |nil=>simp
       |cons x l ih=>
        have:1≤Rows.uptoBulk x:=by unfold Rows.uptoBulk;split<;>omega
        rw[Rows.uptoBulkAll,QFM];omega
      replace hb:=hb.2;rw[Rows.uptoBulk]at hb;have:=key (elems.map (·.1));rw[QGK]at this;omega
     ·rw[DataW.weights,hu,QGz,QFU]at hb;have h5:=hb.1;simp only[QGH,QGK]at h5;have h6:elems.length*1≤(elems.length+rest.length)*P.bytesOf e:=Nat.mul_le_mul (Nat.le_add_right _ _) hby;omega
    have hlenB:M=reachBytes→len*P.bytesOf e≤M:=fun hM=>by
     cases e0;rcases hb with rfl|hb|hb
     ·exact absurd hM (by unfold maxLen reachBytes;omega)
     ·exact absurd hM hb.1
     ·rw[DataW.weights,hu,QGz,QFU]at hb;have h5:=hb.1;simp only[QGH,QGK]at h5;have h6:elems.length*P.bytesOf e≤(elems.length+rest.length)*P.bytesOf e:=Nat.mul_le_mul (Nat.le_add_right _ _) (QFx _);have h7:len*P.bytesOf e=elems.length*P.bytesOf e:=by rw[show len=elems.length by omega]
      omega
    haveI:Inhabited ({c:List Value // c.length=P.cellsOf e}×List AV):=⟨(⟨List.replicate (P.cellsOf e) (.bool false),by simp⟩,[])⟩
    obtain⟨F,hF⟩:=choose_lt (α:={c:List Value // c.length=P.cellsOf e}×List AV) (n:=len) (p:=fun i x=>W.cells? 0 (a.add (i*P.cellsOf e)) (P.cellsOf e)=some x.1.1∧QS P M k e x.2∧RepL (Gh.world W hL) x.2 x.1.1∧x.2.length=P.cellsOf e∧AV.rfL x.2=true∧x.2.all AV.leaf=true∧∀d,elems[i]? = some d→Jk x.2≤Rows.uptoBulk d.1) (fun i hi=>by
     have hb:=hel i hi;rw[QFA (by omega)]at hb;obtain⟨cs',c1,c2⟩:=Option.bind_eq_some_iff.1 hb;obtain⟨_,hln,_⟩:=World.cells?_some c1;obtain⟨avs,o1,o2,o3,o4,o5,o6⟩:=WJ hL hP k e cs' _ _ hpe c2 (hbx _ (List.getElem_mem _));exact⟨(⟨cs',hln⟩,avs),c1,o1,o2,o3,o4,o5,fun d hd=>by
      rw[QFA (by omega)]at hd;cases hd;exact o6⟩)
    have cellAt:∀i j,i<len→j<P.cellsOf e→W.cell? (a.add (i*P.cellsOf e+j))=(F i).1.1[j]?:=by
     intro i j hi hj;obtain⟨_,_,h3⟩:=World.cells?_some (hF i hi).1;rw[←h3 j hj,add_add]
    have hspot:0<len→a.spot=none:=by
     intro hc;have:=cellAt 0 0 hc h0;rw[Nat.zero_mul,show a.add (0+0)=a from rfl,QFA (by rw[(F 0).1.2];exact h0)]at this;unfold World.cell? at this;split at this
     ·split at this
      ·cases this
      ·rename_i h;simpa using h
     ·cases this
    have hel':∀c∈(List.range len).map (fun i=>(F i).2),∃i,i<len∧c=(F i).2:=by
     intro c hc;obtain⟨i,hi,rfl⟩:=QGG.1 hc;exact⟨i,QGQ.1 hi,rfl⟩
    have hflat:∀L:List (List AV),(∀c∈L,c.all AV.leaf=true)→QK (L.map XB)=L.flatten:=by
     intro L
     induction L with
     |nil=>intro _;rfl
     |cons c L ih=>
      intro hh;show(XB c).cells++QK (L.map XB)=c++L.flatten;rw[Yo (hh c (by simp)),ih fun x hx=>hh x (by simp[hx])]
    have hrf:∀L:List (List AV),(∀c∈L,AV.rfL c=true)→AV.rfL L.flatten=true:=by
     intro L
     induction L with
     |nil=>intro _;rfl
     |cons c L ih=>
      intro hh;rw[List.flatten_cons,JG,hh c (by simp),ih fun x hx=>hh x (by simp[hx])]<;>rfl
    have hlf:∀L:List (List AV),(∀c∈L,c.all AV.leaf=true)→L.flatten.all AV.leaf=true:=by
     intro L
     induction L with
     |nil=>intro _;rfl
     |cons c L ih=>
      intro hh;rw[List.flatten_cons,QGC,hh c (by simp),ih fun x hx=>hh x (by simp[hx])]<;>rfl
    have hl1:∀c∈(List.range len).map (fun i=>(F i).2),c.all AV.leaf=true:=fun c hc=>by
     obtain⟨i,hi,rfl⟩:=hel' c hc;exact(hF i hi).2.2.2.2.2.1
    have hl2:∀c∈(List.range len).map (fun i=>(F i).2),AV.rfL c=true:=fun c hc=>by
     obtain⟨i,hi,rfl⟩:=hel' c hc;exact(hF i hi).2.2.2.2.1
    have hwt:Jk [.list (((List.range len).map fun i=>(F i).2).map XB)]≤Rows.uptoBulk d:=by
     cases e0;have hw:=fun n hn=>GB (fun i=>if i<len then(F i).2 else []) (elems.map (·.1)) (fun i d hd=>by
      rw[QGI]at hd;obtain⟨x,h1,rfl⟩:=QFC.1 hd;by_cases hi:i<len
      ·rw[QFF hi];exact(hF i hi).2.2.2.2.2.2 x h1
      ·rw[QFE hi];exact QFG _) n hn
     have h1:=hw len (by rw[QGK];omega);rw[QF4 (by rw[QGK];omega)]at h1;have h2:(List.range len).map (fun i=>if i<len then(F i).2 else [])=(List.range len).map fun i=>(F i).2:=by
      refine QGW fun i hi=>?_
      rw[QFF (QGQ.1 hi)]
     rw[h2]at h1;rw[Jk,Jk,wt,Rows.uptoBulk];omega
    refine⟨[.list (((List.range len).map fun i=>(F i).2).map XB)],?_,.cons (.list (cs:=((List.range len).map fun i=>(F i).1.1).flatten) (sz:=P.cellsOf e) ?_ ?_ ?_ ?_ ?_ (by simp) hl (by omega)) .nil,by simp[h1],rfl,rfl,hwt⟩
    ·simp only[QS,hu];refine⟨_,rfl,⟨by simp;omega,fun hM=>by simpa using hlenB hM⟩,?_,by simpa using hlenM⟩;intro c hc;obtain⟨i,hi,rfl⟩:=hel' c hc;exact(hF i hi).2.1
    ·rw[hflat _ hl1];refine WI (by simp) fun i g1 g2=>?_
     simp only[QGK,List.length_range]at g1;simp only[List.getElem_map,List.getElem_range];exact(hF i (by omega)).2.2.1
    ·intro x hx;obtain⟨c,hc,rfl⟩:=QGG.1 hx;rw[Yo (hl1 c hc)];obtain⟨i,hi,rfl⟩:=hel' c hc;exact(hF i hi).2.2.2.1
    ·rw[hflat _ hl1];exact hrf _ hl2
    ·rw[hflat _ hl1];exact hlf _ hl1
    ·intro j u hj;rw[←List.flatMap_def,Yn h0 (fun i=>(F i).1.2)]at hj;by_cases hi:j / P.cellsOf e<len
     ·rw[List.getElem?_range hi]at hj;have hj:(F (j / P.cellsOf e)).1.1[j % P.cellsOf e]? = some u:=hj;have hk:=cellAt (j / P.cellsOf e) (j % P.cellsOf e) (by omega) (Nat.mod_lt _ h0);rw[hj,Nat.div_add_mod']at hk;have hs:=hspot (Nat.lt_of_le_of_lt (QFG _) hi);obtain⟨b,o,s⟩:=a;subst hs;refine⟨b,o,rfl,?_⟩;refine WZ ?_;show W.cell? ⟨b,o+j,none⟩=some u;rw[←hk];unfold Addr.add;split
      ·rename_i h;rw[h];rfl
      ·rfl
     ·rw[QGJ (by simp;omega)]at hj;cases hj
  ·cases hp

theorem BS {t:TypeId}{v:Value}{d:DataW H}{p:List MemPlace}(hl:laidOutB P=true)(hr:P.readableRec t=true)(hrow:t<P.types.size)(h:DataW.Trod enc P W 0 (fun _=>true) true t v d p) :
  ∀(W':World) (sp:Nat→Bool),Below W.heap.size W W'→(∀q∈p,sp q.block=true)→DataW.Trod enc P W' 0 sp true t v d p:=by
 intro W' sp hb hs;obtain⟨n,hn⟩:=h;exact Trod_stays hl hr hrow ⟨n,hn⟩ (fun x hx=>hb.same (DataW.trod_lt n _ _ _ hn x hx)) hs

theorem D9 (hL:UJ W){t:TypeId}{fs:Array Field}{ts:List TypeId}{r:Reach}{b0:Nat}{v:Value}{d:DataW H}{p:List MemPlace}(hP:NQ P ts=true)(ht:ts.contains t=true)(hs:P.underlying t=some (.struct fs))(hv:Value.okWide P W r b0 t v)
  (h:DataW.Trod enc P W 0 (fun _=>true) true t v d p) (hb:P3 P M t d):∃k avs,QS P M k t avs∧Rep (Gh.world W hL) (.agg avs) v:=by
 obtain⟨⟨cs⟩,rfl,_⟩:=okWide_struct hs hv;obtain⟨n,hn⟩:=h;obtain⟨avs,h1,h2,_⟩:=WJ hL hP n t _ _ _ ht hn hb;exact⟨n,avs,h1,.agg h2⟩
theorem Xh {X:Type}{f:X→List AV}{ok:X→Prop}:∀ {l:List (List AV)},(∀c∈l,∃x,ok x∧c=f x)→∃xs:List X,l=xs.map f∧∀x∈xs,ok x
 | [],_=>⟨[],rfl,by simp⟩
 |c :: l,h=>by
  obtain⟨x,hx,rfl⟩:=h c (by simp);obtain⟨xs,rfl,hxs⟩:=Xh (l:=l) fun c hc=>h c (by simp[hc])
  exact⟨x :: xs,rfl,by simpa using ⟨hx,hxs⟩⟩

end

end Go.Proofs.YtaiflhahcglpgaaGreatDoor.Br

namespace Go.Proofs.YtaiflhahcglpgaaGreatDoor.Br
open Go Am

section
variable {P:Program}{M k:Nat}{t:TypeId}{cs:List AV}

theorem XJ {ik:IntKind}(hu:P.underlying t=some (.int ik))(h:QS P M k t cs):∃n,cs=[.int ik n]∧(Lit.int ik n).wf=true:=by
 cases k with
 |zero=>cases h
 |succ k=>simpa only [QS,hu]using h

theorem GC (hu:P.underlying t=some .bool)(h:QS P M k t cs):∃b,cs=[.bool b]:=by
 cases k with
 |zero=>cases h
 |succ k=>simpa only [QS,hu]using h

theorem XQ (hu:P.underlying t=some .string)(h:QS P M k t cs):∃s,cs=[.str s]∧s.length≤M:=by
 cases k with
 |zero=>cases h
 |succ k=>simpa only [QS,hu]using h

theorem Q1 {e:TypeId}(hu:P.underlying t=some (.slice e))(h:QS P M k t cs):∃(k':Nat) (l:List (List AV)),cs=[.list (l.map XB)]∧l.length≤M∧∀c∈l,QS P M k' e c:=by
 cases k with
 |zero=>cases h
 |succ k=>
  simp only[QS,hu]at h;obtain⟨l,h1,_,h3,h4⟩:=h;exact⟨k,l,h1,h4,h3⟩

theorem Xx {fs:Array Field}(hu:P.underlying t=some (.struct fs))(h:QS P M k t cs):∃k',QS.HasL (QS P M k') fs.toList cs:=by
 cases k with
 |zero=>cases h
 |succ k=>
  simp only[QS,hu]at h;exact⟨k,h⟩

end

structure PO where
 num:Int
 name:List UInt8
 alias:List UInt8
 card:Int
 key:Int
 kind:Int
 target:Int
 union:Int

def PO.cells (o:PO):List AV:=[.int .i64 o.num,.str o.name,.str o.alias,.int .i64 o.card,.int .i64 o.key,.int .i64 o.kind,.int .i64 o.target,.int .i64 o.union]

structure PO.ok (M:Nat)(o:PO):Prop where
 num:(Lit.int .i64 o.num).wf=true
 name:o.name.length≤M
 alias:o.alias.length≤M
 card:(Lit.int .i64 o.card).wf=true
 key:(Lit.int .i64 o.key).wf=true
 kind:(Lit.int .i64 o.kind).wf=true
 target:(Lit.int .i64 o.target).wf=true
 union:(Lit.int .i64 o.union).wf=true

structure PG where
 name:List UInt8
 ops:List PO
 unions:Int

def PG.cells (g:PG):List AV:=[.str g.name,.list (g.ops.map fun o=>.agg o.cells),.int .i64 g.unions]

structure PG.ok (M:Nat)(g:PG):Prop where
 name:g.name.length≤M
 len:g.ops.length≤maxLen
 ops:∀o∈g.ops,o.ok M
 unions:(Lit.int .i64 g.unions).wf=true

structure PS where
 lo:Int
 hi:Int

def PS.cells (x:PS):List AV:=[.int .i64 x.lo,.int .i64 x.hi]
def PS.ok (x:PS):Prop:=(Lit.int .i64 x.lo).wf=true∧(Lit.int .i64 x.hi).wf=true

theorem GD {M k:Nat}{cs:List AV}(h:QS Tryz.prog M k 87 cs):∃x:PS,x.ok∧cs=x.cells:=by
 obtain⟨k,h⟩:=Xx Tryz.underlying87 h;simp only[QS.HasL]at h;obtain⟨_,_,rfl,h0,_,_,rfl,h1,rfl⟩:=h;obtain⟨a0,rfl,w0⟩:=XJ Tryz.underlying3 h0;obtain⟨a1,rfl,w1⟩:=XJ Tryz.underlying3 h1;exact⟨⟨a0,a1⟩,⟨w0,w1⟩,rfl⟩

structure PN where
 name:List UInt8
 val:List AV

def PN.cells (x:PN):List AV:=.str x.name :: x.val
def PN.ok (P:Program)(M:Nat)(t:TypeId)(x:PN):Prop:=x.name.length≤M∧∃k,QS P M k t x.val

structure PI where
 name:List UInt8
 num:Int
 notes:List PN

def PI.cells (x:PI):List AV:=[.str x.name,.int .i64 x.num,.list (x.notes.map fun n=>XB n.cells)]

structure PI.ok (M:Nat)(x:PI):Prop where
 name:x.name.length≤M
 num:(Lit.int .i64 x.num).wf=true
 len:x.notes.length≤maxLen
 notes:∀n∈x.notes,n.ok Tryz.prog M 69

structure PE where
 name:List UInt8
 opn:Bool
 items:List PI
 free:List PS
 notes:List PN

def PE.cells (x:PE):List AV:=[.str x.name,.bool x.opn,.list (x.items.map fun n=>.agg n.cells),.list (x.free.map fun n=>.agg n.cells),.list (x.notes.map fun n=>XB n.cells)]

structure PE.ok (M:Nat)(x:PE):Prop where
 name:x.name.length≤M
 len1:x.items.length≤maxLen
 items:∀n∈x.items,n.ok M
 len2:x.free.length≤maxLen
 free:∀n∈x.free,n.ok
 len3:x.notes.length≤maxLen
 notes:∀n∈x.notes,n.ok Tryz.prog M 69

structure PL where
 progs:List PG
 enums:List PE

def PL.av (p:PL):AV:=.agg [.list (p.progs.map fun n=>.agg n.cells),.list (p.enums.map fun n=>.agg n.cells)]

structure PL.ok (M:Nat)(x:PL):Prop where
 len1:x.progs.length≤maxLen
 progs:∀n∈x.progs,n.ok M
 len2:x.enums.length≤maxLen
 enums:∀n∈x.enums,n.ok M

end Go.Proofs.YtaiflhahcglpgaaGreatDoor.Br

namespace Go.Proofs.YtaiflhahcglpgaaGreatDoor.Vp

def Is:Nat→Nat→List UInt8
 |0,u=>[UInt8.ofNat u]
 |k+1,u=>if u<128 then [UInt8.ofNat u]else UInt8.ofNat (u % 128+128) :: Is k (u / 128)

def put (u:Nat):List UInt8:=Is 9 u

def Ub:Nat→Nat→List UInt8→Nat×Nat×Nat
 |_,_,[]=>(0,0,4)
 |i,acc,c :: t=>
  if i=9∧1<c.toNat then(0,0,6)
  else if c.toNat<128 then(acc+c.toNat*128 ^ i,i+1,0)
  else Ub (i+1) (acc+(c.toNat-128)*128 ^ i) t

def take (s:List UInt8):Nat×Nat×Nat:=Ub 0 0 s

theorem Yq (n:Nat)(h:n<256):(UInt8.ofNat n).toNat=n:=by
 simp[UInt8.toNat_ofNat'];omega

theorem BT (i acc:Nat)(s t:List UInt8)(h:(Ub i acc s).2.2≠4):Ub i acc (s++t)=Ub i acc s:=by
 induction s generalizing i acc with
 |nil=>simp[Ub]at h
 |cons c r ih=>
  simp only[QFS];unfold Ub at h ⊢;split
  ·rfl
  ·rename_i h1;rw[QFE h1]at h;split
   ·rfl
   ·rename_i h2;rw[QFE h2]at h;exact ih _ _ h

theorem Tf (i acc:Nat)(s:List UInt8)(hi:i≤9)(hl:10≤i+s.length):(Ub i acc s).2.2≠4:=by
 induction s generalizing i acc with
 |nil=>simp at hl;omega
 |cons c r ih=>
  unfold Ub;split
  ·simp
  ·rename_i h1;split
   ·simp
   ·rename_i h2;exact ih _ _ (by omega) (by simp at hl;omega)

theorem take_take (s:List UInt8):take (s.take 10)=take s:=by
 rcases Nat.lt_or_ge s.length 10 with h|h
 ·rw[QF4 (by omega)]
 ·have:=BT 0 0 (s.take 10) (s.drop 10) (Tf 0 0 _ (by omega) (by simp;omega));rw[QGB]at this;exact this.symm

end Go.Proofs.YtaiflhahcglpgaaGreatDoor.Vp

namespace Go.Proofs.YtaiflhahcglpgaaGreatDoor.Bt
open Go

theorem QtZ (n:Int):IntKind.u64.wrap n=n % 18446744073709551616:=by simp[IntKind.wrap,IntKind.bits,IntKind.signed]
theorem ZO (n:Int):IntKind.i64.wrap n=(n+9223372036854775808) % 18446744073709551616-9223372036854775808:=IntKind.wrap_i64 n

theorem Hy {n:Nat}(h:n<18446744073709551616):(BitVec.ofInt 64 (n:Int)).toNat=n:=by
 simp;omega

theorem Fo (a b:Nat)(ha:a<18446744073709551616)(hb:b<18446744073709551616):bits .and .u64 (a:Int) (b:Int)=((a &&& b:Nat):Int):=by
 have hx:a &&& b<2 ^ 64:=Nat.and_lt_two_pow _ (by omega);show IntKind.u64.wrap ((BitVec.ofInt 64 (a:Int) &&& BitVec.ofInt 64 (b:Int)).toNat:Int)=_;rw[BitVec.toNat_and,Hy ha,Hy hb,QtZ];omega
end Go.Proofs.YtaiflhahcglpgaaGreatDoor.Bt

namespace Go.Proofs.YtaiflhahcglpgaaGreatDoor.Cp
open Go Am Bt Vp

structure C where
 d:List UInt8
 a:Int
 e:Int
 dp:Int
 nd:Int
 tx:Int

def C.av (c:C):AV:=.agg [.str c.d,.int .i64 c.a,.int .i64 c.e,.int .i64 c.dp,.int .i64 c.nd,.int .i64 c.tx]
def zc:C:=⟨[],0,0,0,0,0⟩

structure L where
 b:Int
 dp:Int
 nd:Int
 tx:Int
def L.av (l:L):AV:=.agg [.int .i64 l.b,.int .i64 l.dp,.int .i64 l.nd,.int .i64 l.tx]

def C.sound (c:C):Bool:=decide (0≤c.a)&&decide (c.a≤c.e)&&decide (c.e≤(c.d.length:Int))
def C.rest (c:C):List UInt8:=bif c.sound then(c.d.drop c.a.toNat).take (c.e.toNat-c.a.toNat)else []
def C.left (c:C):Int:=(c.rest.length:Int)
def C.ahead (c:C)(n:Int):C:={ c with a:=IntKind.i64.wrap (c.a+n) }

def opn (s:List UInt8)(l:L):C×Nat :=
 if l.b<0∨l.dp<0∨l.nd<0∨l.tx<0 then(zc,1)else if l.b<(s.length:Int)then(zc,3)else(⟨s,0,s.length,l.dp,l.nd,l.tx⟩,0)

def C.varint (c:C):Nat×C×Nat :=
 let r:=Vp.take c.rest
 if r.2.2=0 then(r.1,c.ahead r.2.1,0)else(0,c,r.2.2)

end Go.Proofs.YtaiflhahcglpgaaGreatDoor.Cp

namespace Go.Proofs.YtaiflhahcglpgaaGreatDoor.Up
open Go Am Bt Vp Cp

structure R where
 num:Int
 wire:Int
 bits:Nat
 data:List UInt8
 deriving DecidableEq

def R.av (f:R):AV:=.agg [.int .i64 f.num,.int .i64 f.wire,.int .u64 (f.bits:Nat),.str f.data]
def It (c:C)(wire:Int):List UInt8×C×Nat :=
 let r:=c.varint
 if r.2.2=0 then
  if r.2.1.left<(r.1:Int)then([],c,4)
  else if (if wire=3 then c.tx else 65536)<(r.1:Int)then([],c,3)
  else((r.2.1.d.drop r.2.1.a.toNat).take r.1,r.2.1.ahead r.1,0)
 else([],c,r.2.2)
end Go.Proofs.YtaiflhahcglpgaaGreatDoor.Up

namespace Go.Proofs.YtaiflhahcglpgaaGreatDoor.Br
open Go Am Up

theorem Tg {M k:Nat}{cs:List AV}(h:QS Tryz.prog M k 155 cs):∃f:R,((Lit.int .i64 f.num).wf=true∧(Lit.int .i64 f.wire).wf=true∧(Lit.int .u64 (f.bits:Int)).wf=true∧f.data.length≤M)∧.agg cs=f.av:=by
 obtain⟨k,h⟩:=Xx Tryz.underlying155 h;simp only[QS.HasL]at h;obtain⟨_,_,rfl,h0,_,_,rfl,h1,_,_,rfl,h2,_,_,rfl,h3,rfl⟩:=h;obtain⟨a0,rfl,w0⟩:=XJ Tryz.underlying3 h0;obtain⟨a1,rfl,w1⟩:=XJ Tryz.underlying3 h1;obtain⟨a2,rfl,w2⟩:=XJ Tryz.underlying63 h2;obtain⟨a3,rfl,w3⟩:=XQ Tryz.underlying9 h3;have hn:0≤a2:=GA w2;obtain⟨n,rfl⟩:=QGX hn;exact⟨⟨a0,a1,n,a3⟩,⟨w0,w1,w2,w3⟩,rfl⟩

end Go.Proofs.YtaiflhahcglpgaaGreatDoor.Br

set_option linter.unusedSimpArgs false
namespace Go.Proofs.YtaiflhahcglpgaaGreatDoor.Br
open Go Am Up

inductive V where
 |mk (k:Int) (b:Nat) (t:List UInt8) (l:List V) (p:List (V×V)) (s:List (Int×V)) (r:List R)
 deriving Inhabited

mutual
def V.cells:V→List AV
 |.mk k b t l p s r=>[.int .i64 k,.int .u64 (b:Nat),.str t,.list (V.cl l),.list (V.cp p),.list (V.cs s),.list (r.map R.av)]
def V.cl:List V→List AV
 | []=>[]
 |x :: l=>.agg x.cells :: V.cl l
def V.cp:List (V×V)→List AV
 | []=>[]
 |(a,b) :: l=>.agg (a.cells++b.cells) :: V.cp l
def V.cs:List (Int×V)→List AV
 | []=>[]
 |(n,a) :: l=>.agg (.int .i64 n :: a.cells) :: V.cs l
end

def V.kd:V→Int|.mk k _ _ _ _ _ _=>k
def V.bits:V→Nat|.mk _ b _ _ _ _ _=>b
def V.text:V→List UInt8|.mk _ _ t _ _ _ _=>t
def V.list:V→List V|.mk _ _ _ l _ _ _=>l
def V.pairs:V→List (V×V)|.mk _ _ _ _ p _ _=>p
def V.slots:V→List (Int×V)|.mk _ _ _ _ _ s _=>s
def V.raws:V→List R|.mk _ _ _ _ _ _ r=>r

def V.av (v:V):AV:=.agg v.cells
def V.pav (p:V×V):AV:=.agg (p.1.cells++p.2.cells)
def V.sav (s:Int×V):AV:=.agg (.int .i64 s.1 :: s.2.cells)

theorem V.cl_eq:∀l:List V,V.cl l=l.map V.av
 | []=>rfl
 |x :: l=>by rw[V.cl,V.cl_eq l];rfl
theorem V.cp_eq:∀l:List (V×V),V.cp l=l.map V.pav
 | []=>rfl
 |(a,b) :: l=>by rw[V.cp,V.cp_eq l];rfl
theorem V.cs_eq:∀l:List (Int×V),V.cs l=l.map V.sav
 | []=>rfl
 |(n,a) :: l=>by rw[V.cs,V.cs_eq l];rfl

theorem V.eta:∀v:V,v.cells=[.int .i64 v.kd,.int .u64 (v.bits:Nat),.str v.text,.list (v.list.map V.av),.list (v.pairs.map V.pav),.list (v.slots.map V.sav),.list (v.raws.map R.av)]
 |.mk k b t l p s r=>by rw[V.cells,V.cl_eq,V.cp_eq,V.cs_eq];rfl

theorem V.ind {P:V→Prop}(h:∀v:V,(∀x∈v.list,P x)→(∀x∈v.pairs,P x.1∧P x.2)→(∀x∈v.slots,P x.2)→P v)(v:V):P v :=
 V.rec (motive_1:=P) (motive_2:=fun l=>∀x∈l,P x) (motive_3:=fun p=>∀x∈p,P x.1∧P x.2) (motive_4:=fun s=>∀x∈s,P x.2) (motive_5:=fun q=>P q.1∧P q.2) (motive_6:=fun q=>P q.2)
  (fun k b t l p s r hl hp hs=>h (.mk k b t l p s r) hl hp hs)
  (by simp) (fun a l ha hl=>by simpa using ⟨ha,hl⟩)
  (by simp) (fun a l ha hl=>by simp only[QGF,forall_eq_or_imp];exact⟨ha,hl⟩)
  (by simp) (fun a l ha hl=>by simp only[QGF,forall_eq_or_imp];exact⟨ha,hl⟩)
  (fun a b ha hb=>⟨ha,hb⟩) (fun n a ha=>ha) v

structure _root_.Go.Proofs.YtaiflhahcglpgaaGreatDoor.Up.R.ok (M:Nat)(f:R):Prop where
 num:(Lit.int .i64 f.num).wf=true
 wire:(Lit.int .i64 f.wire).wf=true
 bits:(Lit.int .u64 (f.bits:Int)).wf=true
 data:f.data.length≤M

inductive V.ok (M:Nat):V→Prop
 |mk {v:V} (kd:(Lit.int .i64 v.kd).wf=true) (bits:(Lit.int .u64 (v.bits:Int)).wf=true) (text:v.text.length≤M) (nl:v.list.length≤1099511627776) (np:v.pairs.length≤549755813888) (ns:v.slots.length≤1099511627776) (nr:v.raws.length≤70368744177664)
   (list:∀x∈v.list,V.ok M x) (keys:∀x∈v.pairs,V.ok M x.1) (vals:∀x∈v.pairs,V.ok M x.2) (nums:∀x∈v.slots,(Lit.int .i64 x.1).wf=true) (slots:∀x∈v.slots,V.ok M x.2) (raws:∀x∈v.raws,x.ok M):V.ok M v

section
variable {M:Nat}{v:V}(h:v.ok M)
include h
theorem V.ok.kd:(Lit.int .i64 v.kd).wf=true:=by cases h;assumption
theorem V.ok.bits:(Lit.int .u64 (v.bits:Int)).wf=true:=by cases h;assumption
theorem V.ok.text:v.text.length≤M:=by cases h;assumption
theorem V.ok.nl:v.list.length≤1099511627776:=by cases h;assumption
theorem V.ok.np:v.pairs.length≤549755813888:=by cases h;assumption
theorem V.ok.ns:v.slots.length≤1099511627776:=by cases h;assumption
theorem V.ok.nr:v.raws.length≤70368744177664:=by cases h;assumption
theorem V.ok.list:∀x∈v.list,x.ok M:=by cases h;assumption
theorem V.ok.keys:∀x∈v.pairs,x.1.ok M:=by cases h;assumption
theorem V.ok.vals:∀x∈v.pairs,x.2.ok M:=by cases h;assumption
theorem V.ok.nums:∀x∈v.slots,(Lit.int .i64 x.1).wf=true:=by cases h;assumption
theorem V.ok.slots:∀x∈v.slots,x.2.ok M:=by cases h;assumption
theorem V.ok.raws:∀x∈v.raws,x.ok M:=by cases h;assumption
end

theorem V.cells_length (v:V):v.cells.length=7:=by rw[V.eta];rfl

theorem KU {c:List AV}(h:2≤c.length):XB c=.agg c:=by
 match c,h with
 |_ :: _ :: _,_=>rfl

theorem P4 {M:Nat}(hM:M=reachBytes∨M≤1048576):∀ {k:Nat} {cs:List AV},QS Tryz.prog M k 69 cs→∃v:V,v.ok M∧cs=v.cells:=by
 intro k
 induction k using Nat.strongRecOn with
 |ind k ih=>
 intro cs h;cases k with
 |zero=>cases h
 |succ k=>
 simp only[QS,Tryz.underlying69,QS.HasL]at h;obtain⟨_,_,rfl,h0,_,_,rfl,h1,_,_,rfl,h2,_,_,rfl,h3,_,_,rfl,h4,_,_,rfl,h5,_,_,rfl,h6,rfl⟩:=h;obtain⟨a0,rfl,w0⟩:=XJ Tryz.underlying3 h0;obtain⟨a1,rfl,w1⟩:=XJ Tryz.underlying63 h1;obtain⟨a2,rfl,w2⟩:=XQ Tryz.underlying9 h2;have hb:0≤a1:=GA w1;obtain⟨b,rfl⟩:=QGX hb;have sl:∀ {k0:Nat} {t e:TypeId} {cs:List AV},k0≤k→Tryz.prog.underlying t=some (.slice e)→QS Tryz.prog M k0 t cs→∃(k':Nat) (l:List (List AV)),k'<k∧cs=[.list (l.map XB)]∧(l.length≤M∧(M=reachBytes→l.length*Tryz.prog.bytesOf e≤M))∧∀c∈l,QS Tryz.prog M k' e c:=by
  intro k0 t e cs hk hu h;cases k0 with
  |zero=>cases h
  |succ k0=>
   simp only[QS,hu]at h;obtain⟨l,h1,h4,h3,h2⟩:=h;exact⟨k0,l,by omega,h1,⟨h2,h4.2⟩,h3⟩
 have nb:∀ {n b:Nat} (c:Nat),(n≤M∧(M=reachBytes→n*b≤M))→1048576≤c→(n*b≤140737488351232→n≤c)→n≤c:=fun c h1 h2 h3=>by
  rcases hM with e|e
  ·refine h3 (QFy (h1.2 e) ?_);rw[e];exact QFx _
  ·exact QFy h1.1 (QFy e h2)
 have y1:Tryz.prog.bytesOf 69=128:=by decide +kernel
 have y2:Tryz.prog.bytesOf 193=256:=by decide +kernel
 have y3:Tryz.prog.bytesOf 152=136:=by decide +kernel
 have y4:Tryz.prog.bytesOf 155=40:=by decide +kernel
 obtain⟨k3,l3,b3,rfl,w3,hl3⟩:=sl (QFx _) Tryz.underlying64 h3;obtain⟨k4,l4,b4,rfl,w4,hl4⟩:=sl (QFx _) Tryz.underlying65 h4;obtain⟨k5,l5,b5,rfl,w5,hl5⟩:=sl (QFx _) Tryz.underlying66 h5;obtain⟨k6,l6,b6,rfl,w6,hl6⟩:=sl (QFx _) Tryz.underlying67 h6;obtain⟨vs,rfl,hvs⟩:=Xh (f:=V.cells) (ok:=V.ok M) fun c hc=>ih k3 (by omega) (hl3 c hc)
 obtain⟨ps,rfl,hps⟩:=Xh (l:=l4) (f:=fun p:V×V=>p.1.cells++p.2.cells) (ok:=fun p=>p.1.ok M∧p.2.ok M) fun c hc=>by
  have h:=hl4 c hc;cases k4 with
  |zero=>cases h
  |succ k4=>
  simp only[QS,Tryz.underlying193,QS.HasL]at h;obtain⟨a,_,rfl,h0,b,_,rfl,h1,rfl⟩:=h;obtain⟨x,hx,rfl⟩:=ih k4 (by omega) h0;obtain⟨y,hy,rfl⟩:=ih k4 (by omega) h1;exact⟨(x,y),⟨hx,hy⟩,by simp⟩
 obtain⟨ss,rfl,hss⟩:=Xh (l:=l5) (f:=fun s:Int×V=>.int .i64 s.1 :: s.2.cells) (ok:=fun s=>(Lit.int .i64 s.1).wf=true∧s.2.ok M) fun c hc=>by
  have h:=hl5 c hc;cases k5 with
  |zero=>cases h
  |succ k5=>
  simp only[QS,Tryz.underlying152,QS.HasL]at h;obtain⟨_,_,rfl,h0,b,_,rfl,h1,rfl⟩:=h;obtain⟨a0,rfl,w0⟩:=XJ Tryz.underlying3 h0;obtain⟨y,hy,rfl⟩:=ih k5 (by omega) h1;exact⟨(a0,y),⟨w0,hy⟩,by simp⟩
 obtain⟨rs,rfl,hrs⟩:=Xh (l:=l6) (f:=fun r:R=>r.av.cells) (ok:=R.ok M) fun c hc=>by
  obtain⟨f,⟨g1,g2,g3,g4⟩,e⟩:=Tg (hl6 c hc);refine⟨f,⟨g1,g2,g3,g4⟩,?_⟩;rw[←e];rfl
 refine⟨.mk a0 b a2 vs ps ss rs,.mk w0 w1 w2 (by rw[QGK,y1]at w3;exact nb _ w3 (by decide) (by omega)) (by rw[QGK,y2]at w4;exact nb _ w4 (by decide) (by omega)) (by rw[QGK,y3]at w5;exact nb _ w5 (by decide) (by omega)) (by rw[QGK,y4]at w6;exact nb _ w6 (by decide) (by omega)) hvs (fun x hx=>(hps x hx).1) (fun x hx=>(hps x hx).2) (fun x hx=>(hss x hx).1) (fun x hx=>(hss x hx).2) hrs,?_⟩;rw[V.eta];have e3:(vs.map V.cells).map XB=vs.map V.av:=by
  rw[QGY];exact QGW fun c _=>KU (by rw[V.cells_length];omega)
 have e4:(ps.map (fun p=>p.1.cells++p.2.cells)).map XB=ps.map V.pav:=by
  rw[QGY];exact QGW fun p _=>KU (by rw[QF7,V.cells_length];omega)
 have e5:(ss.map (fun s=>AV.int .i64 s.1 :: s.2.cells)).map XB=ss.map V.sav:=by
  rw[QGY];exact QGW fun p _=>KU (by rw[QFM,V.cells_length];omega)
 have e6:(rs.map (fun r=>r.av.cells)).map XB=rs.map R.av:=by
  rw[QGY];exact QGW fun r _=>rfl
 rw[e3,e4,e5,e6];rfl

end Go.Proofs.YtaiflhahcglpgaaGreatDoor.Br

namespace Go.Proofs.YtaiflhahcglpgaaGreatDoor.Br
open Go Am

structure SN where
 name:List UInt8
 val:V
def SN.cells (x:SN):List AV:=.str x.name :: x.val.cells
structure SN.ok (M:Nat)(x:SN):Prop where
 name:x.name.length≤M
 val:x.val.ok M

structure SF where
 num:Int
 name:List UInt8
 card:Int
 key:Int
 kind:Int
 tname:List UInt8
 union:List UInt8
 hasd:Bool
 dflt:V
 notes:List SN
def SF.cells (x:SF):List AV:=[.int .i64 x.num,.str x.name,.int .i64 x.card,.int .i64 x.key,.int .i64 x.kind,.str x.tname,.str x.union,.bool x.hasd]++(x.dflt.cells++[.list (x.notes.map fun n=>.agg n.cells)])
structure SF.ok (M:Nat)(x:SF):Prop where
 num:(Lit.int .i64 x.num).wf=true
 name:x.name.length≤M
 card:(Lit.int .i64 x.card).wf=true
 key:(Lit.int .i64 x.key).wf=true
 kind:(Lit.int .i64 x.kind).wf=true
 tname:x.tname.length≤M
 union:x.union.length≤M
 dflt:x.dflt.ok M
 len:x.notes.length≤M
 notes:∀n∈x.notes,n.ok M

structure SM where
 name:List UInt8
 fields:List SF
 free:List PS
 gone:List (List UInt8)
 notes:List SN
def SM.cells (x:SM):List AV:=[.str x.name,.list (x.fields.map fun n=>.agg n.cells),.list (x.free.map fun n=>.agg n.cells),.list (x.gone.map AV.str),.list (x.notes.map fun n=>.agg n.cells)]
structure SM.ok (M:Nat)(x:SM):Prop where
 name:x.name.length≤M
 len1:x.fields.length≤M
 fields:∀n∈x.fields,n.ok M
 len2:x.free.length≤M
 free:∀n∈x.free,n.ok
 len3:x.gone.length≤M
 gone:∀n∈x.gone,n.length≤M
 len4:x.notes.length≤M
 notes:∀n∈x.notes,n.ok M

structure SI where
 name:List UInt8
 num:Int
 notes:List SN
def SI.cells (x:SI):List AV:=[.str x.name,.int .i64 x.num,.list (x.notes.map fun n=>.agg n.cells)]
structure SI.ok (M:Nat)(x:SI):Prop where
 name:x.name.length≤M
 num:(Lit.int .i64 x.num).wf=true
 len:x.notes.length≤M
 notes:∀n∈x.notes,n.ok M

structure SE where
 name:List UInt8
 opn:Bool
 items:List SI
 free:List PS
 notes:List SN
def SE.cells (x:SE):List AV:=[.str x.name,.bool x.opn,.list (x.items.map fun n=>.agg n.cells),.list (x.free.map fun n=>.agg n.cells),.list (x.notes.map fun n=>.agg n.cells)]
structure SE.ok (M:Nat)(x:SE):Prop where
 name:x.name.length≤M
 len1:x.items.length≤M
 items:∀n∈x.items,n.ok M
 len2:x.free.length≤M
 free:∀n∈x.free,n.ok
 len3:x.notes.length≤M
 notes:∀n∈x.notes,n.ok M

structure SO where
 name:List UInt8
 inn:List UInt8
 out:List UInt8
 shape:Int
 notes:List SN
def SO.cells (x:SO):List AV:=[.str x.name,.str x.inn,.str x.out,.int .i64 x.shape,.list (x.notes.map fun n=>.agg n.cells)]
structure SO.ok (M:Nat)(x:SO):Prop where
 name:x.name.length≤M
 inn:x.inn.length≤M
 out:x.out.length≤M
 shape:(Lit.int .i64 x.shape).wf=true
 len:x.notes.length≤M
 notes:∀n∈x.notes,n.ok M

structure SQ where
 name:List UInt8
 meths:List SO
 notes:List SN
def SQ.cells (x:SQ):List AV:=[.str x.name,.list (x.meths.map fun n=>.agg n.cells),.list (x.notes.map fun n=>.agg n.cells)]
structure SQ.ok (M:Nat)(x:SQ):Prop where
 name:x.name.length≤M
 len1:x.meths.length≤M
 meths:∀n∈x.meths,n.ok M
 len2:x.notes.length≤M
 notes:∀n∈x.notes,n.ok M

structure SC where
 msgs:List SM
 enums:List SE
 servs:List SQ
def SC.av (x:SC):AV:=.agg [.list (x.msgs.map fun n=>.agg n.cells),.list (x.enums.map fun n=>.agg n.cells),.list (x.servs.map fun n=>.agg n.cells)]
structure SC.ok (M:Nat)(x:SC):Prop where
 len1:x.msgs.length≤M
 msgs:∀n∈x.msgs,n.ok M
 len2:x.enums.length≤M
 enums:∀n∈x.enums,n.ok M
 len3:x.servs.length≤M
 servs:∀n∈x.servs,n.ok M

end Go.Proofs.YtaiflhahcglpgaaGreatDoor.Br

namespace Go.Proofs.YtaiflhahcglpgaaGreatDoor.Am
open Go

variable {P:Program}{f:Fr}{m:Ql}{ds:List DF}{Qd:List Item}{d:Nat}

def HV:List Nat→RC→RC
 | [],a=>a
 |s :: l,a=>.gho (.drop s) (HV l a)
def MZ:List Nat→AV→AV
 | [],x=>x
 |s :: l,x=>MZ l (x.scrub s)
def HW:List Nat→Ob→Ob
 | [],x=>x
 |s :: l,x=>HW l (x.scrub s)

theorem BU (l:List Nat):HW l .none=.none:=by
 induction l with
 |nil=>rfl
 |cons s l ih=>exact ih

theorem QD {Q:Exit→St→Prop}{a:RC}(l:List Nat):∀ {f:Fr} {fr:Nat→Ob},(∀s∈l,(fr s).isRow=false)→
  (∀f' fr',(∀i,f' i=MZ l (f i))→(∀i,i∉l→fr' i=HW l (fr i))→(∀i∈l,fr' i=.none)→QJ P a ⟨f',fr' :: m,[]⟩ Q)→QJ P (HV l a) ⟨f,fr :: m,[]⟩ Q:=by
 induction l with
 |nil=>intro f fr _ h;exact h f fr (fun _=>rfl) (fun _ _=>rfl) (fun _ h=>by cases h)
 |cons s l ih=>
  intro f fr hr h;show QJ P (.gho (.drop s) (HV l a)) _ _;rw[NC];refine⟨hr s (by simp),?_⟩;show QJ P (HV l a) ⟨_,_ :: m,[]⟩ Q;refine ih ?_ ?_
  ·intro t ht;by_cases e:t=s
   ·subst e;rw[QT];rfl
   ·rw[QX _ _ e,Ym];exact hr t (by simp[ht])
  ·intro f' fr' h1 h2 h3;refine h f' fr' h1 ?_ ?_
   ·intro i hi;rw[h2 i (fun h=>hi (QFN _ h)),QX _ _ (fun e=>hi (by rw[e];exact QFP))];rfl
   ·intro i hi;by_cases hl:i∈l
    ·exact h3 i hl
    ·have e:i=s:=by
      rcases QGF.1 hi with e|e
      ·exact e
      ·exact absurd e hl
     rw[h2 i hl,e,QT,BU]

def Iu:Ob→Nat
 |.vec g _ _=>g+1
 |_=>1

theorem BW {K:St→Prop}{neg:Bool}{r:RA}{ys:List AV}(hr:r.ev f=.list ys)(h0:Qp P Qd ⟨Qx f d (.bool neg),m,ds⟩ K)(h1:ys=[]∨QK ys=[]→Qp P Qd ⟨Qx f d (.bool (!neg)),m,ds⟩ K):Qp P (⟨some d,.isnil neg r,none⟩ :: Qd) ⟨f,m,ds⟩ K:=by
 refine⟨ys,?_,fun _=>h0,fun e=>h1 ?_⟩
 ·show XN m (r.ev f)=some ys;rw[hr];rfl
 ·rcases e with e|e
  ·have e:r.ev f=.nils:=e;rw[hr]at e;cases e
  ·exact .inr e

theorem NR {K:St→Prop}{site sz:Nat}{fr:Nat→Ob}(hs:QO (fr site)=true)
  (h:Qp P Qd ⟨Qx f d (.vec 0 site (Iu (fr site)) 0 0 false),Qx fr site (.vec (Iu (fr site)) sz []) :: m,ds⟩ K):Qp P (⟨some d,.bsl0 site sz,none⟩ :: Qd) ⟨f,fr :: m,ds⟩ K :=
 ⟨hs,h⟩

theorem Xb {K:St→Prop}{k:Nat}{r:RA}{args:List RA}{fa fb ys:List AV}{v:AV}{m':Ql}(hr:r.ev f=.fn (.func k) fa fb)(hk:Qf P k ys m fun x m1=>x=v∧m1=m')(hy:fa++args.map (RA.ev f)++fb=ys)(h:Qp P Qd ⟨Qx f d v,m',ds⟩ K) :
  Qp P (⟨some d,.callF r args,none⟩ :: Qd) ⟨f,m,ds⟩ K:=by
 refine⟨k,fa,fb,v,m',hr,?_,h⟩;show Qf P k (fa++args.map (RA.ev f)++fb) m fun x m1=>x=v∧m1=m'
 rw[hy];exact hk

theorem Zi {K:St→Prop}{k:Nat}{r:RA}{args:List RA}{fa fb ys:List AV}{v:AV}(hr:r.ev f=.fn (.func k) fa fb)(hk:Qr P k ys v)(hy:AV.stillL false m (fa++args.map (RA.ev f)++fb)=some ys)(h1:AV.rfL ys=true)(h2:v.rf=true)
  (h3:AV.rfL (fa++args.map (RA.ev f)++fb)=true∨v.nl=true) (h:Qp P Qd ⟨Qx f d v,m,ds⟩ K):Qp P (⟨some d,.call r args,none⟩ :: Qd) ⟨f,m,ds⟩ K :=
 ⟨k,fa,fb,ys,v,hr,hy,h1,hk,h2,h3,h⟩

end Go.Proofs.YtaiflhahcglpgaaGreatDoor.Am

namespace Go.Proofs.YtaiflhahcglpgaaGreatDoor.Am
open Go

abbrev Hz:=FuncId→Option (RC×List RR×Nat)

def W5 (P:Program)(T:Hz):Prop :=
 ∀k c rs N, T k=some (c, rs, N)→∃fn body, P.funcs[k]? = some fn∧fn.body=some body∧(fn.name == "runtime.NumGoroutine")=false∧fn.ntmps=N∧XY P N c body=true∧Jf P fn.results.toList rs=true

abbrev Kq:=FuncId→List AV→Ql→Option (AV×Ql)

def Uc:Ob→Ob→Bool
 |.cells [.vec l s g o n q],.cells [.vec l' s' g' o' n' q']=>Nat.beq l l'&&Nat.beq s s'&&Nat.beq g g'&&Nat.beq o o'&&Nat.beq n n'&&q==q'
 |_,_=>false
theorem NS:∀ {a b:Ob},Uc a b=true→a=b:=by
 intro a b h;unfold Uc at h;split at h
 ·simp only[QFU,QFV]at h;obtain⟨⟨⟨⟨⟨h1,h2⟩,h3⟩,h4⟩,h5⟩,h6⟩:=h;rw[QFv h1,QFv h2,QFv h3,QFv h4,QFv h5,h6]
 ·cases h

def Za (call:Kq)(d:Option Nat)(op:RO)(st:St):Option St :=
 match op with
 |.val vo=>match QC st.f st.m vo with
  |some x=>some { st with f:=Qk st.f d x }
  |none=>none
 |.allocN s z=>bif XC st.m s then some { st with m:=Am.put st.m 0 s (.cells z),f:=Qk st.f d (.ptr 0 s 0) } else none
 |.boxN s r=>bif XC st.m s&&(r.ev st.f).cells.all AV.leaf then some { st with m:=Am.put st.m 0 s (.cells (r.ev st.f).cells),f:=Qk st.f d (.ptr 0 s 0) } else none
 |.store n p r=>bif Nat.beq (r.ev st.f).cells.length n&&(r.ev st.f).cells.all AV.leaf then match Q5 st.m (p.ev st.f) (r.ev st.f).cells with
   |some m'=>some { st with m:=m',f:=Qk st.f d (.tup []) }
   |none=>none
  else none
 |.storev l s n p r=>match p.ev st.f with
  |.ptr l' s' _=>bif Nat.beq l' l&&Nat.beq s' s&&Nat.beq (r.ev st.f).cells.length n&&(r.ev st.f).cells.all AV.leaf then match Q5 st.m (p.ev st.f) (r.ev st.f).cells with
    |some m'=>some { st with m:=m',f:=Qk st.f d (.tup []) }
    |none=>none
   else none
  |_=>none
 |.app sz bytes el s r=>match s.ev st.f with
  |.vec l site g 0 n false=>match Qh st.m l site with
   |.vec g' sz' xs=>match XN st.m (r.ev st.f)with
    |some ys=>bif Nat.beq g' g&&Nat.beq sz' sz&&X8 site el&&Nat.ble n xs.length&&ys.all (fun e=>e.cells.length==sz)&&Nat.ble (n+ys.length) maxLen&&Nat.ble ((n+ys.length)*bytes) 140737488355328 then
      some { st with m:=Am.put st.m l site (.vec (g+1) sz (xs.take n++ys)),f:=Qk st.f d (.vec l site (g+1) 0 (n+ys.length) false) }
     else none
    |none=>none
   |_=>none
  |_=>none
 |.call f args=>match f.ev st.f with
  |.fn (.func k) fa fb=>match AV.stillL false st.m (fa++args.map (RA.ev st.f)++fb)with
   |some ys=>bif AV.rfL ys then match call k ys []with
     |some (v,_)=>bif v.rf&&(AV.rfL (fa++args.map (RA.ev st.f)++fb)||v.nl)then some { st with f:=Qk st.f d v } else none
     |none=>none
    else none
   |none=>none
  |_=>none
 |.callF f args=>match f.ev st.f with
  |.fn (.func k) fa fb=>match call k (fa++args.map (RA.ev st.f)++fb) st.m with
   |some (v,m')=>some { st with m:=m',f:=Qk st.f d v }
   |none=>none
  |_=>none
 |.bsl sz len z ps=>match fill st.f ps (ZX z sz len)with
  |some y=>bif AV.rfL y&&y.all AV.leaf then some { st with f:=Qk st.f d (.list (ZW sz len (y.map nn0))) } else none
  |none=>none
 |.lit0 _=>some { st with f:=Qk st.f d (.lcap []) }
 |.appe sz bytes _ s r=>match s.ev st.f,r.ev st.f with
  |.lcap xs,.list ys=>bif xs.all (fun e=>e.cells.length==sz)&&ys.all (fun e=>e.cells.length==sz)&&Nat.ble (xs.length+ys.length) maxLen&&Nat.ble ((xs.length+ys.length)*bytes) 140737488355328 then some { st with f:=Qk st.f d (.list (xs++ys)) } else none
  |_,_=>none
 |.bsl0 site sz=>bif QO (Qh st.m 0 site)then some { st with m:=Am.put st.m 0 site (.vec (Q9 st.m 0 site) sz []),f:=Qk st.f d (.vec 0 site (Q9 st.m 0 site) 0 0 false) } else none
 |.isnil neg r=>match r.ev st.f with
  |.nils=>some { st with f:=Qk st.f d (.bool (!neg)) }
  |.list l=>match QK l with
   |_ :: _=>some { st with f:=Qk st.f d (.bool neg) }
   | []=>none
  |_=>none
 |.callK l s f args=>match f.ev st.f with
  |.fn (.func k) fa fb=>match call k (fa++args.map (RA.ev st.f)++fb) st.m with
   |some (v,m')=>bif Uc (Qh m' l s) (Qh st.m l s)then some { st with m:=m',f:=Qk st.f d v } else none
   |none=>none
  |_=>none
 |.xb cnt _ s c=>match s.ev st.f,c.ev st.f with
  |.str t,.int .u8 b=>some { st with f:=Qk st.f d (.int .i64 (Y1 cnt t b)) }
  |_,_=>none
 |.rngs s r=>match r.ev st.f with
  |.str t=>bif XC st.m s then some { st with m:=Am.put st.m 0 s (.iter (.str t) 0),f:=Qk st.f d (.ptr 0 s 0) } else none
  |_=>none
 |.nxts r=>match r.ev st.f with
  |.ptr l s 0=>match Qh st.m l s with
   |.iter (.str t) p=>bif Nat.blt p t.length then some { st with m:=Am.put st.m l s (.iter (.str t) (p+(Xl t p).2)),f:=Qk st.f d (.tup [.bool true,.int .i64 (p:Nat),.int .i32 ((Xl t p).1:Nat)]) } else some { st with f:=Qk st.f d (.tup [.bool false]) }
   |_=>none
  |_=>none
 |.mkm s=>bif XC st.m s then some { st with m:=Am.put st.m 0 s (.iter (.mp [] []) 0),f:=Qk st.f d (.mptr 0 s) } else none
 |.mput x i v=>match x.ev st.f with
  |.mptr l s=>match Qh st.m l s with
   |.iter (.mp ks vs) p=>match i.ev st.f with
    |.str k=>bif (v.ev st.f).gr&&AV.grL vs&&Nat.beq ks.length vs.length then some { st with m:=Am.put st.m l s (.iter (.mp (XH k (v.ev st.f) ks vs).1 (XH k (v.ev st.f) ks vs).2) p),f:=Qk st.f d (.tup []) } else none
    |_=>none
   |_=>none
  |_=>none
 |.mk site _ sz bytes z l c=>match l.ev st.f,c.ev st.f with
  |.int _ (.ofNat n),.int _ (.ofNat k)=>bif Nat.ble n k&&Nat.ble k 9223372036854775807&&Nat.ble (bytes*k) 281474976710656&&QO (Qh st.m 0 site)then
    some { st with m:=Am.put st.m 0 site (.vec (Q9 st.m 0 site) sz (List.replicate n (Jq sz z))),f:=Qk st.f d (.vec 0 site (Q9 st.m 0 site) 0 n false) }
   else none
  |_,_=>none
where
  isBytes:List AV→List UInt8→Bool
  | [],[]=>true
  |.int .u8 (.ofNat n) :: l,b :: t=>Nat.beq n b.toNat&&isBytes l t
  |_,_=>false

def GE (call:Kq)(it:Item)(st:St):Option St :=
 match it.g with
 |none=>Za call it.dst it.op st
 |some (j,want)=>match st.f j with
  |.bool b=>bif b==want then Za call it.dst it.op st else some { st with f:=Qk st.f it.dst (.tup []) }
  |.tup []=>some { st with f:=Qk st.f it.dst (.tup []) }
  |_=>none

def Ud (call:Kq):List Item→St→Option St
 | [],st=>some st
 |it :: Qd,st=>match GE call it st with
  |some st'=>Ud call Qd st'
  |none=>none

def Ue (rs:List RR)(n:Nat)(r:Option (Exit×St)):Option (AV×Ql) :=
 match r with
 |some (.normal,st)=>fin st
 |some (.ret,st)=>fin st
 |_=>none
where
 fin (st:St):Option (AV×Ql):=match st.ds with
  | []=>match Kp st rs with
   |some x=>match Kz st.m x with
    |some y=>match st.m with
     |_ :: m=>bif Nat.beq m.length n then some (y,m)else none
     | []=>none
    |none=>none
   |none=>none
  |_=>none

def JI (XF:Kq)(T:Hz)(body:RC→St→Option (Exit×St)):Kq:=fun k args m=>
 match XF k args m with
 |some r=>some r
 |none=>match T k with
  |some (c,rs,N)=>bif Nat.ble args.length N then Ue rs m.length (body c (St.enter args m))else none
  |none=>none

def ZA (XF:Kq)(T:Hz):Nat→RC→St→Option (Exit×St)
 |0,_,_=>none
 |n+1,c,st=>match c with
  |.skip=>some (.normal,st)
  |.reg Qd=>match Ud (JI XF T (ZA XF T n)) Qd st with
   |some st'=>some (.normal,st')
   |none=>none
  |.draw Qd=>match Ud (JI XF T (ZA XF T n)) Qd st with
   |some st'=>some (.normal,st')
   |none=>none
  |.seq a b=>match ZA XF T n a st with
   |some (.normal,st')=>ZA XF T n b st'
   |r=>r
  |.cond c a b=>match c.ev st.f with
   |.bool t=>bif t then ZA XF T n a st else ZA XF T n b st
   |_=>none
  |.block id a=>match ZA XF T n a st with
   |some (.exit i,st')=>if i=id then some (.normal,st')else some (.exit i,st')
   |r=>r
  |.loop a=>match ZA XF T n a st with
   |some (.normal,st')=>ZA XF T n (.loop a) st'
   |r=>r
  |.exit id=>some (.exit id,st)
  |.scope a=>match ZA XF T n a st with
   |some (.goto _,_)=>none
   |r=>r
  |.lab=>some (.normal,st)
  |.ret=>some (.ret,st)
  |.gho g a=>match JH g st with
   |some st'=>ZA XF T n a st'
   |none=>none
  |.no=>none

section
variable {P:Program}{T:Hz}

def KB (P:Program)(call:Kq):Prop:=∀k args m v m',call k args m=some (v,m')→Qf P k args m fun x m1=>x=v∧m1=m'

theorem Fp {call:Kq}(hc:KB P call){d:Option Nat}{op:RO}{st st':St}(h:Za call d op st=some st'){K:St→Prop}(hK:K st'):Wr P d op st K:=by
 cases op with
 |val vo=>
  simp only[Za]at h;split at h
  ·rename_i x hx;cases h;exact⟨x,hx,hK⟩
  ·cases h
 |allocN s z=>
  simp only[Za]at h;cases h1:XC st.m s<;>rw[h1]at h<;>simp only[cond_true,cond_false,reduceCtorEq,QFY]at h;subst h;exact⟨h1,hK⟩
 |boxN s r=>
  simp only[Za]at h;cases h1:(XC st.m s&&(r.ev st.f).cells.all AV.leaf)<;>rw[h1]at h<;>simp only[cond_true,cond_false,reduceCtorEq,QFY]at h;rw[QFU]at h1;subst h;exact⟨h1.1,h1.2,hK⟩
 |store n p r=>
  simp only[Za]at h;cases h1:(Nat.beq (r.ev st.f).cells.length n&&(r.ev st.f).cells.all AV.leaf)<;>rw[h1]at h<;>simp only[cond_true,cond_false,reduceCtorEq]at h;rw[QFU]at h1;split at h
  ·rename_i m' hm;cases h;exact⟨QFv h1.1,h1.2,m',hm,hK⟩
  ·cases h
 |storev l s n p r=>
  simp only[Za]at h;split at h
  ·rename_i l' s' o hp;cases h1:(Nat.beq l' l&&Nat.beq s' s&&Nat.beq (r.ev st.f).cells.length n&&(r.ev st.f).cells.all AV.leaf)<;>rw[h1]at h<;>simp only[cond_true,cond_false,reduceCtorEq]at h;simp only[QFU]at h1;obtain⟨⟨⟨a1,a2⟩,a3⟩,a4⟩:=h1;have e1:=QFv a1;have e2:=QFv a2;subst e1 e2;split at h
   ·rename_i m' hm;cases h;exact⟨⟨o,hp⟩,QFv a3,a4,m',hm,hK⟩
   ·cases h
  ·cases h
 |app sz bytes el s r=>
  simp only[Za]at h;split at h
  ·rename_i l site g n hs;split at h
   ·rename_i g' sz' xs hl;split at h
    ·rename_i ys hy;cases h1:(Nat.beq g' g&&Nat.beq sz' sz&&X8 site el&&Nat.ble n xs.length&&ys.all (fun e=>e.cells.length==sz)&&Nat.ble (n+ys.length) maxLen&&Nat.ble ((n+ys.length)*bytes) 140737488355328)<;>rw[h1]at h<;>simp only[cond_true,cond_false,reduceCtorEq,QFY]at h;simp only[QFU]at h1;obtain⟨⟨⟨⟨⟨⟨a1,a2⟩,a3⟩,a4⟩,a5⟩,a6⟩,a7⟩:=h1;have e1:=QFv a1;have e2:=QFv a2;subst e1 e2 h;exact⟨l,site,_,n,xs,ys,hs,hl,a3,QGO a4,hy,a5,QGO a6,QGO a7,hK⟩
    ·cases h
   ·cases h
  ·cases h
 |call f args=>
  simp only[Za]at h;split at h
  ·rename_i k fa fb hf;split at h
   ·rename_i ys hy;cases h1:AV.rfL ys<;>rw[h1]at h<;>simp only[cond_true,cond_false,reduceCtorEq]at h;split at h
    ·rename_i v m' hv;cases h2:(v.rf&&(AV.rfL (fa++args.map (RA.ev st.f)++fb)||v.nl))<;>rw[h2]at h<;>simp only[cond_true,cond_false,reduceCtorEq,QFY]at h;rw[QFU,QGm]at h2;subst h;exact⟨k,fa,fb,ys,v,hf,hy,h1,(hc _ _ _ _ _ hv).mono (fun _ _ e=>e.1),h2.1,h2.2,hK⟩
    ·cases h
   ·cases h
  ·cases h
 |callF f args=>
  simp only[Za]at h;split at h
  ·rename_i k fa fb hf;split at h
   ·rename_i v m' hv;cases h;exact⟨k,fa,fb,v,m',hf,hc _ _ _ _ _ hv,hK⟩
   ·cases h
  ·cases h
 |bsl sz len z ps=>
  simp only[Za]at h;split at h
  ·rename_i y hy;cases h1:(AV.rfL y&&y.all AV.leaf)<;>rw[h1]at h<;>simp only[cond_true,cond_false,reduceCtorEq,QFY]at h;rw[QFU]at h1;subst h;exact⟨y,hy,h1.1,h1.2,hK⟩
  ·cases h
 |lit0 sz=>
  simp only[Za,QFY]at h;subst h;exact hK
 |appe sz bytes el s r=>
  simp only[Za]at h;split at h
  ·rename_i xs ys hs hy;cases h1:(xs.all (fun e=>e.cells.length==sz)&&ys.all (fun e=>e.cells.length==sz)&&Nat.ble (xs.length+ys.length) maxLen&&Nat.ble ((xs.length+ys.length)*bytes) 140737488355328)<;>rw[h1]at h<;>simp only[cond_true,cond_false,reduceCtorEq,QFY]at h;simp only[QFU]at h1;obtain⟨⟨⟨a1,a2⟩,a3⟩,a4⟩:=h1;subst h;exact⟨xs,ys,hs,hy,a1,a2,QGO a3,QGO a4,hK⟩
  ·cases h
 |bsl0 site sz=>
  simp only[Za]at h;cases h1:QO (Qh st.m 0 site)<;>rw[h1]at h<;>simp only[cond_true,cond_false,reduceCtorEq,QFY]at h;subst h;exact⟨h1,hK⟩
 |isnil neg r=>
  simp only[Za]at h;split at h
  ·rename_i hr;cases h;exact⟨[],by rw[hr];rfl,fun e=>absurd hr e,fun _=>hK⟩
  ·rename_i l hr;split at h
   ·rename_i z zs hf;cases h;exact⟨l,by rw[hr];rfl,fun _=>hK,fun e=>by
     rcases e with e|e
     ·rw[hr]at e;cases e
     ·rw[hf]at e;cases e⟩
   ·cases h
  ·cases h
 |callK l s f args=>
  simp only[Za]at h;split at h
  ·rename_i k fa fb hf;split at h
   ·rename_i v m' hv;cases he:Uc (Qh m' l s) (Qh st.m l s)<;>rw[he]at h<;>simp only[cond_true,cond_false,reduceCtorEq,QFY]at h;subst h;exact⟨k,fa,fb,v,m',hf,hc _ _ _ _ _ hv,NS he,hK⟩
   ·cases h
  ·cases h
 |xb cnt k s c=>
  simp only[Za]at h;split at h
  ·rename_i t b hs hb;cases h;exact⟨t,b,hs,hb,hK⟩
  ·cases h
 |rngs s r=>
  simp only[Za]at h;split at h
  ·rename_i t ht;cases h1:XC st.m s<;>rw[h1]at h<;>simp only[cond_true,cond_false,reduceCtorEq,QFY]at h;subst h;exact⟨t,ht,h1,hK⟩
  ·cases h
 |mkm s=>
  simp only[Za]at h;cases h1:XC st.m s<;>rw[h1]at h<;>simp only[cond_true,cond_false,reduceCtorEq,QFY]at h;subst h;exact⟨h1,hK⟩
 |mput x i v=>
  simp only[Za]at h;split at h
  ·rename_i l s hx;split at h
   ·rename_i ks vs p hl;split at h
    ·rename_i k hi;cases h1:((v.ev st.f).gr&&AV.grL vs&&Nat.beq ks.length vs.length)<;>rw[h1]at h<;>simp only[cond_true,cond_false,reduceCtorEq,QFY]at h;subst h;simp only[QFU]at h1;exact⟨l,s,ks,vs,p,k,hx,hl,hi,h1.1.1,h1.1.2,QFv h1.2,hK⟩
    ·cases h
   ·cases h
  ·cases h
 |nxts r=>
  simp only[Za]at h;split at h
  ·rename_i l s hr;split at h
   ·rename_i t p hl;refine⟨l,s,t,p,hr,hl,fun e=>?_,fun e=>?_⟩
    ·have hb:Nat.blt p t.length=true:=by simp[Nat.blt_eq,e]
     rw[hb]at h;cases h;exact hK
    ·have hb:Nat.blt p t.length=false:=by
      cases hb:Nat.blt p t.length with
      |false=>rfl
      |true=>rw[Nat.blt_eq]at hb;omega
     rw[hb]at h;cases h;exact hK
   ·cases h
  ·cases h
 |mk site el sz bytes z l c=>
  simp only[Za]at h;split at h
  ·rename_i kl n kc k hl hcc;cases h1:(Nat.ble n k&&Nat.ble k 9223372036854775807&&Nat.ble (bytes*k) 281474976710656&&QO (Qh st.m 0 site))<;>rw[h1]at h<;>simp only[cond_true,cond_false,reduceCtorEq,QFY]at h;simp only[QFU]at h1;obtain⟨⟨⟨a1,a2⟩,a3⟩,a4⟩:=h1;subst h;exact⟨kl,kc,n,k,hl,hcc,QGO a1,QGO a2,QGO a3,a4,hK⟩
  ·cases h

theorem NT {call:Kq}(hc:KB P call){it:Item}{st st':St}(h:GE call it st=some st'){K:St→Prop}(hK:K st'):XT P it st K:=by
 obtain⟨d,op,g⟩:=it;cases g with
 |none=>exact Fp (d:=d) hc h hK
 |some p=>
  obtain⟨j,want⟩:=p;simp only[GE]at h;simp only[XT];split at h
  ·rename_i b hj;simp only[hj];cases hb:(b==want)with
   |true=>
    rw[hb]at h;have e:b=want:=by simpa using hb
    exact⟨fun _=>Fp hc h hK,fun e'=>by rw[e]at e';cases want<;>cases e'⟩
   |false=>
    rw[hb]at h;simp only[cond_false,QFY]at h;subst h;exact⟨fun e=>by rw[e]at hb;simp at hb,fun _=>hK⟩
  ·rename_i hj;cases h;simp only[hj];exact⟨trivial,hK⟩
  ·cases h

theorem YD {call:Kq}(hc:KB P call):∀ {Qd:List Item} {st st':St},Ud call Qd st=some st'→∀ {K:St→Prop},K st'→Qp P Qd st K
 | [],_,_,h,_,hK=>by cases h;exact hK
 |it :: Qd,st,st',h,K,hK=>by
  simp only[Ud]at h;split at h
  ·rename_i st1 h1;exact NT hc h1 (YD hc h hK)
  ·cases h

theorem M0 {rs:List RR}{n:Nat}{r:Option (Exit×St)}{v:AV}{m':Ql}(h:Ue rs n r=some (v,m')):∃e st,r=some (e,st)∧Zu rs n (fun x m1=>x=v∧m1=m') e st:=by
 have fin:∀ {e:Exit} {st:St},(e=.normal∨e=.ret)→Ue.fin rs n st=some (v,m')→Zu rs n (fun x m1=>x=v∧m1=m') e st:=by
  intro e st he h;unfold Ue.fin at h;split at h
  ·rename_i hds;split at h
   ·rename_i x hx;split at h
    ·rename_i y hy;split at h
     ·rename_i fr m hm;cases hb:Nat.beq m.length n with
      |false=>rw[hb]at h;cases h
      |true=>
       rw[hb]at h;simp only[cond_true,QFY,Prod.mk.injEq]at h;exact⟨he,hds,x,y,fr,m,hx,hy,hm,QFv hb,h.1,h.2⟩
     ·cases h
    ·cases h
   ·cases h
  ·cases h
 unfold Ue at h;split at h
 ·exact⟨_,_,rfl,fin (.inl rfl) h⟩
 ·exact⟨_,_,rfl,fin (.inr rfl) h⟩
 ·cases h

theorem Z1 {XF:Kq}(hN:KB P XF)(hT:W5 P T){body:RC→St→Option (Exit×St)}(hb:∀c st e st',body c st=some (e,st')→∀Q:Exit→St→Prop,Q e st'→QJ P c st Q):KB P (JI XF T body):=by
 intro k args m v m' h;unfold JI at h;split at h
 ·rename_i r hr;cases h;exact hN _ _ _ _ _ hr
 split at h
 ·rename_i c rs N hk;cases hN:Nat.ble args.length N with
  |false=>rw[hN]at h;cases h
  |true=>
   rw[hN]at h;simp only[cond_true]at h;obtain⟨e,st,h1,h2⟩:=M0 h;obtain⟨fn,cd,a1,a2,a3,a4,a5,a6⟩:=hT k c rs N hk;exact Ws a1 a2 a3 a4 a5 a6 (QGO hN) (hb _ _ _ _ h1 _ h2)
 ·cases h

theorem WK {XF:Kq}(hN:KB P XF)(hT:W5 P T):∀(n:Nat) (c:RC) (st:St) (e:Exit) (st':St),ZA XF T n c st=some (e,st')→∀Q:Exit→St→Prop,Q e st'→QJ P c st Q:=by
 intro n
 induction n using Nat.strongRecOn with
 |_ n ihs=>
 cases n with
 |zero=>intro c st e st' h;cases h
 |succ n=>
  intro c st e st' h Q hQ;have ih:=ihs n (Nat.lt_succ_self n);cases c with
  |skip=>cases h;exact hQ
  |reg Qd=>
   simp only[ZA]at h;split at h
   ·rename_i st1 h1;cases h;exact YD (Z1 hN hT ih) h1 hQ
   ·cases h
  |draw Qd=>
   simp only[ZA]at h;split at h
   ·rename_i st1 h1;cases h;exact YD (Z1 hN hT ih) h1 hQ
   ·cases h
  |seq a b=>
   simp only[ZA]at h;split at h
   ·rename_i st1 h1;exact ih _ _ _ _ h1 _ (ih _ _ _ _ h Q hQ)
   ·rename_i h1;refine ih _ _ _ _ h _ ?_;cases e with
    |normal=>exact absurd h (h1 st')
    |_=>exact hQ
  |cond c a b=>
   simp only[ZA]at h;split at h
   ·rename_i t ht;cases t with
    |true=>exact⟨true,ht,fun _=>ih _ _ _ _ h Q hQ,(fun e=>by cases e)⟩
    |false=>exact⟨false,ht,(fun e=>by cases e),fun _=>ih _ _ _ _ h Q hQ⟩
   ·cases h
  |block id a=>
   simp only[ZA]at h;split at h
   ·rename_i i st1 h1;refine ih _ _ _ _ h1 _ ?_;show if i=id then Q .normal st1 else Q (.exit i) st1
    split at h
    ·rename_i hi;cases h;rw[QFF hi];exact hQ
    ·rename_i hi;cases h;rw[QFE hi];exact hQ
   ·rename_i h1;refine ih _ _ _ _ h _ ?_;cases e with
    |exit i=>exact absurd h (h1 i st')
    |_=>exact hQ
  |loop a=>
   refine⟨fun k s=>k≤n∧ZA XF T (k+1) (.loop a) s=some (e,st'),n,⟨QFx _,h⟩,fun k s hh=>?_⟩;obtain⟨hk,hs⟩:=hh;simp only[ZA]at hs;split at hs
   ·rename_i st1 h1;refine ihs k (by omega) _ _ _ _ h1 _ ?_;show ∃j,j<k∧j≤n∧ZA XF T (j+1) (.loop a) st1=some (e,st');cases k with
    |zero=>cases h1
    |succ j=>exact⟨j,Nat.lt_succ_self j,by omega,hs⟩
   ·rename_i h1;refine ihs k (by omega) _ _ _ _ hs _ ?_;cases e with
    |normal=>exact absurd hs (h1 st')
    |_=>exact hQ
  |exit id=>cases h;exact hQ
  |scope a=>
   simp only[ZA]at h;split at h
   ·cases h
   ·rename_i h1;refine ih _ _ _ _ h _ ?_;cases e with
    |goto i=>exact absurd h (h1 i st')
    |_=>exact hQ
  |lab=>cases h;exact hQ
  |ret=>cases h;exact hQ
  |gho g a=>
   simp only[ZA]at h;split at h
   ·rename_i st1 h1;exact⟨st1,h1,ih _ _ _ _ h Q hQ⟩
   ·cases h
  |no=>cases h

def Iv (XF:Kq)(T:Hz)(n:Nat)(k:FuncId)(args:List AV):Bool :=
 match JI XF T (ZA XF T n) k args []with
 |some (.bool true,_)=>true
 |_=>false

theorem BX {XF:Kq}(hN:KB P XF)(hT:W5 P T){n:Nat}{k:FuncId}{args:List AV}(h:Iv XF T n k args=true):Qr P k args (.bool true):=by
 unfold Iv at h;split at h
 ·rename_i m' h1;exact(Z1 hN hT (WK hN hT n) _ _ _ _ _ h1).mono fun _ _ e=>e.1
 ·cases h

end

set_option linter.defProp false in
def Qa:=(QGZ (QGZ (QGZ (QGZ (QGZ (QGZ (QGZ (QGZ @Am.QmO @Am.QmN) (QGZ @Am.E4 @Am.QmQ)) (QGZ (QGZ @Am.E7 @Am.E8) (QGZ @Am.E9 (QGZ @Am.Tc @Am.Td)))) (QGZ (QGZ (QGZ @Am.E2 @Am.QmL) (QGZ @Am.QmM @Am.E3)) (QGZ (QGZ @Am.Ia @Am.Ib) (QGZ @Am.Ic (QGZ @Am.Ie @Am.Ig))))) (QGZ (QGZ (QGZ (QGZ @Am.Ih @Am.Ii) (QGZ @Am.Ij @Am.Ik)) (QGZ (QGZ @Am.E6 @Am.E5) (QGZ @Am.QmP (QGZ @Am.e_c @Am.e_t)))) (QGZ (QGZ (QGZ @Am.e_f @Am.QmS) (QGZ @Am.Gy @Am.QmR)) (QGZ (QGZ @Am.QmU @Am.e_g) (QGZ @Am.MQ (QGZ @Am.MS @Am.NM)))))) (QGZ (QGZ (QGZ (QGZ (QGZ @Am.NN @Am.MT) (QGZ @Am.BQ @Am.BR)) (QGZ (QGZ @Am.NO @Am.ML) (QGZ @Am.MM (QGZ @Am.MU @Am.MV)))) (QGZ (QGZ (QGZ @Am.Ip @Am.QC.eq_1) (QGZ @Am.QC.eq_2 @Am.QC.eq_3)) (QGZ (QGZ @Am.QC.eq_4 @Am.QC.eq_5) (QGZ @Am.QC.eq_6 (QGZ @Am.QC.eq_7 @Am.QC.eq_8))))) (QGZ (QGZ (QGZ (QGZ @Am.QC.eq_9 @Am.QC.eq_10) (QGZ @Am.QC.eq_11 @Am.QC.eq_12)) (QGZ (QGZ @Am.QC.eq_13 @Am.QC.eq_14) (QGZ @Am.QC.eq_15 (QGZ @Am.QC.eq_16 @Am.QC.eq_17)))) (QGZ (QGZ (QGZ @Am.QC.eq_18 @Am.QC.eq_19) (QGZ @Am.QC.eq_20 @Am.QC.eq_21)) (QGZ (QGZ @Am.QC.eq_22 @Am.QC.eq_23) (QGZ @Am.QC.eq_24 (QGZ @Am.QC.eq_25 @Am.QC.eq_26))))))) (QGZ (QGZ (QGZ (QGZ (QGZ (QGZ @Am.QC.eq_27 @Am.QC.eq_1) (QGZ @Am.QC.eq_1 @Am.QC.eq_1)) (QGZ (QGZ @Am.QC.eq_1 @Am.QC.eq_1) (QGZ @Am.QC.eq_1 (QGZ @Am.QC.eq_1 @Am.QC.eq_1)))) (QGZ (QGZ (QGZ @Am.QC.eq_1 @Am.XG.eq_1) (QGZ @Am.XG.eq_2 @Am.XG.eq_3)) (QGZ (QGZ @Am.XG.eq_4 @Am.XG.eq_5) (QGZ @Am.XG.eq_6 (QGZ @Am.XG.eq_7 @Am.XG.eq_8))))) (QGZ (QGZ (QGZ (QGZ @Am.XG.eq_9 @Am.XG.eq_10) (QGZ @Am.XG.eq_11 @Am.XG.eq_12)) (QGZ (QGZ @Am.XG.eq_13 @Am.XG.eq_14) (QGZ @Am.XG.eq_15 (QGZ @Am.XG.eq_16 @Am.XG.eq_17)))) (QGZ (QGZ (QGZ @Am.X9.eq_1 @Am.X9.eq_2) (QGZ @Am.X9.eq_3 @Am.X9.eq_4)) (QGZ (QGZ @Am.X9.eq_5 @Am.X9.eq_6) (QGZ @Am.X9.eq_7 (QGZ @Am.X9.eq_8 @Am.X9.eq_9)))))) (QGZ (QGZ (QGZ (QGZ (QGZ @Am.X9.eq_10 @Am.X9.eq_11) (QGZ @Am.X9.eq_12 @Am.X9.eq_13)) (QGZ (QGZ @Am.X9.eq_14 @Am.X9.eq_15) (QGZ @Am.X9.eq_16 (QGZ @Am.H9.eq_1 @Am.H9.eq_2)))) (QGZ (QGZ (QGZ @Am.H9.eq_3 @Am.H9.eq_4) (QGZ @cond_true.{0} @cond_true.{1})) (QGZ (QGZ @cond_false.{0} @cond_false.{1}) (QGZ @true_and (QGZ @and_true @QGp.{0}))))) (QGZ (QGZ (QGZ (QGZ @QGu.{0} @List.getElem?_nil.{0}) (QGZ @QGx.{0} @QGR.{0})) (QGZ (QGZ @Am.St.enter.eq_1 @Am.Bv.eq_1) (QGZ @Am.AV.shL.eq_1 (QGZ @Am.AV.shL.eq_2 @Am.AV.sh.eq_1)))) (QGZ (QGZ (QGZ @Am.AV.sh.eq_2 @Am.AV.sh.eq_3) (QGZ @Am.AV.sh.eq_4 @Am.AV.sh.eq_5)) (QGZ (QGZ @Am.AV.sh.eq_6 @Am.AV.sh.eq_7) (QGZ @Am.AV.sh.eq_8 (QGZ @Am.AV.sh.eq_9 @Am.Kp.eq_1)))))))) (QGZ (QGZ (QGZ (QGZ (QGZ (QGZ (QGZ @Am.Kp.eq_2 @Am.RR.ev.eq_1) (QGZ @Am.RR.ev.eq_2 @Am.RR.evL.eq_1)) (QGZ (QGZ @Am.RR.evL.eq_2 @Am.Kz.eq_1) (QGZ @Am.AV.still.eq_1 (QGZ @Am.AV.still.eq_2 @Am.AV.still.eq_3)))) (QGZ (QGZ (QGZ @Am.AV.still.eq_4 @Am.AV.still.eq_5) (QGZ @Am.AV.still.eq_6 @Am.AV.still.eq_7)) (QGZ (QGZ @Am.AV.still.eq_8 @Am.AV.stillL.eq_1) (QGZ @Am.AV.stillL.eq_2 (QGZ @Am.AV.un.eq_1 @Am.AV.un.eq_2))))) (QGZ (QGZ (QGZ (QGZ @Am.AV.un.eq_3 @Am.AV.un.eq_4) (QGZ @Am.AV.un.eq_5 @Am.AV.un.eq_6)) (QGZ (QGZ @Am.AV.un.eq_7 @Am.AV.un.eq_8) (QGZ @Am.AV.un.eq_9 (QGZ @Am.AV.un.eq_10 @Am.AV.un.eq_11)))) (QGZ (QGZ (QGZ @Am.AV.un.eq_12 @Am.AV.un.eq_13) (QGZ @Am.AV.unL.eq_1 @Am.AV.unL.eq_2)) (QGZ (QGZ @QGw.{0,0} @QFX.{0,0}) (QGZ @if_true.{0} (QGZ @if_true.{1} @if_false.{0})))))) (QGZ (QGZ (QGZ (QGZ (QGZ @if_false.{1} @QFQ) (QGZ @Go.IntKind.bits.eq_1 @Go.IntKind.bits.eq_2)) (QGZ (QGZ @Go.IntKind.bits.eq_3 @Go.IntKind.bits.eq_4) (QGZ @Go.IntKind.bits.eq_5 (QGZ @Go.IntKind.bits.eq_6 @Go.IntKind.bits.eq_7)))) (QGZ (QGZ (QGZ @Go.IntKind.bits.eq_8 @QGy.{0}) (QGZ @QFM.{0} @QG0)) (QGZ (QGZ @QGA @forall_const.{1}) (QGZ @not_true_eq_false (QGZ @not_false_eq_true @Am.Jv))))) (QGZ (QGZ (QGZ (QGZ @QG1 @QGv) (QGZ @Am.K9.eq_1 @ne_eq.{1})) (QGZ (QGZ @Nat.one_ne_zero @decide_true) (QGZ @decide_false (QGZ @Am.Te @Am.MO)))) (QGZ (QGZ (QGZ @Am.Im @Am.MP) (QGZ @Am.Io @Am.Il)) (QGZ (QGZ @Am.QmT @Am.XC.eq_1) (QGZ @Am.AV.unNL.eq_1 (QGZ @Am.AV.unNL.eq_2 @Am.AV.unNL_zero))))))) (QGZ (QGZ (QGZ (QGZ (QGZ (QGZ @Am.AV.shNL.eq_1 @Am.AV.shNL.eq_2) (QGZ @Am.AV.shN.eq_1 @Am.AV.shN.eq_2)) (QGZ (QGZ @Am.splice.eq_1 @Am.part.eq_1) (QGZ @Am.part.eq_2 (QGZ @Am.fill.eq_1 @Am.fill.eq_2)))) (QGZ (QGZ (QGZ @Am.AV.leaf.eq_1 @Am.AV.leaf.eq_2) (QGZ @Am.AV.leaf.eq_3 @Am.AV.leaf.eq_4)) (QGZ (QGZ @QGz.{0} @List.all_nil.{0}) (QGZ @List.take_succ_cons.{0} (QGZ @List.take_zero.{0} @List.take_nil.{0}))))) (QGZ (QGZ (QGZ (QGZ @List.drop_succ_cons.{0} @QGb.{0}) (QGZ @List.drop_nil.{0} @QFT.{0})) (QGZ (QGZ @QFS.{0} @QGq.{0}) (QGZ @Am.Qc.eq_1 (QGZ @QGr @Am.ZN.eq_1)))) (QGZ (QGZ (QGZ @Am.ZN.eq_2 @Am.ZN.eq_3) (QGZ @Am.ZN.eq_4 @Am.ZN.eq_5)) (QGZ (QGZ @Am.ZN.eq_6 @Am.JR.eq_1) (QGZ @Am.JR.eq_2 (QGZ @Am.Xo.eq_1 @Am.Xo.eq_2)))))) (QGZ (QGZ (QGZ (QGZ (QGZ @Am.Xo.eq_3 @Am.Xo.eq_4) (QGZ @Am.Xo.eq_5 @Am.Xo.eq_6)) (QGZ (QGZ @Am.Xo.eq_7 @Am.Yg.eq_1) (QGZ @Am.Yg.eq_2 (QGZ @Am.Yg.eq_3 @Am.YQ.eq_1)))) (QGZ (QGZ (QGZ @Am.YQ.eq_2 @Am.YQ.eq_3) (QGZ @Am.YQ.eq_4 @Am.QtY)) (QGZ (QGZ @Am.NC @Am.ND) (QGZ @Am.NE (QGZ @Am.BG @Am.NF))))) (QGZ (QGZ (QGZ (QGZ @Am.BH @Am.BI) (QGZ @Am.BJ @Am.BK)) (QGZ (QGZ @Am.BL @Am.NG) (QGZ @Am.NH (QGZ @Am.NI @Am.NJ)))) (QGZ (QGZ (QGZ @Am.BM @Am.NK) (QGZ @Am.BN (QGZ @Am.D7 @Am.NL))) (QGZ (QGZ @Am.BO @Am.Ym) (QGZ @Am.D8 (QGZ @Am.BP @QGo.{0,0})))))))))

set_option linter.defProp false in
def Fq:=(QGZ (QGZ (QGZ @Am.Q5.eq_1 (QGZ @Am.Q5.eq_2 @Am.Q5.eq_3)) (QGZ (QGZ @Am.Xw.eq_1 @Am.Xw.eq_2) (QGZ @Am.Xw.eq_3 @Am.Xw.eq_4))) (QGZ (QGZ (QGZ @Am.Qh.eq_1 @Am.Qh.eq_2) (QGZ @Am.Qh.eq_3 @Am.put.eq_1)) (QGZ (QGZ @Am.put.eq_2 @Am.put.eq_3) (QGZ @Am.AV.cells.eq_1 @Am.AV.cells.eq_2))))

set_option linter.defProp false in
def eE := QGZ Qa Fq

end Go.Proofs.YtaiflhahcglpgaaGreatDoor.Am

namespace Go.Proofs.YtaiflhahcglpgaaGreatDoor.Rc
open Go Am
abbrev ja (a b:Nat):Am.Item:=⟨some a,.val (.mov (.t b)),none⟩
abbrev jb (a b c:Nat):Am.Item:=⟨some a,.val (.faddr b (.t c)),none⟩
abbrev jc (a b:Nat):Am.Item:=⟨some a,.val (.load none (.t b)),none⟩
abbrev jd (a:Nat)(b:Int):Am.Item:=⟨some a,.val (.mov (.c (.int .i64 b))),none⟩
abbrev je (a:Nat):Am.Item:=⟨some a,.val (.mov (.c (.bool false))),none⟩
abbrev jf (a b c d:Nat):Am.Item:=⟨some a,.val (.faddr b (.t c)),some (d,true)⟩
abbrev jg (a b c:Nat):Am.Item:=⟨some a,.boxN b (.t c),none⟩
abbrev jh (a b c:Nat):Am.Item:=⟨some a,.val (.mov (.t b)),some (c,true)⟩
abbrev ji (a b c:Nat):Am.Item:=⟨some a,.val (.pick (.t b) (.t c) (.c (.bool false))),none⟩
abbrev jj (a b c:Nat):Am.Item:=⟨some a,.val (.load (some b) (.t c)),none⟩
abbrev jk (a b c:Nat):Am.Item:=⟨some a,.val (.len b (.t c)),none⟩
abbrev jl (a b c d:Nat):Am.Item:=⟨some a,.val (.iaddr b none (.t c) (.t d)),none⟩
abbrev jm (a b c d:Nat):Am.Item:=⟨some a,.val (.faddr b (.t c)),some (d,false)⟩
abbrev jn (a b:Nat)(c:Int):Am.Item:=⟨some a,.val (.bin .num .add (.t b) (.c (.int .i64 c))),none⟩
abbrev jo (a b c:Nat):Am.Item:=⟨none,.store a (.t b) (.t c),none⟩
abbrev jp (a b c:Nat):Am.Item:=⟨some a,.val (.load none (.t b)),some (c,true)⟩
abbrev jq (a b c:Nat):Am.Item:=⟨some a,.val (.pick (.t b) (.c (.bool true)) (.t c)),none⟩
abbrev jr (a b c:Nat):Am.Item:=⟨some a,.val (.bin .num .lss (.t b) (.t c)),none⟩
abbrev js (a b c:Nat):Am.Item:=⟨some a,.call (.f b) [(.t c)],none⟩
abbrev jt (a b c d:Nat):Am.Item:=⟨some a,.val (.loadv b c none (.t d)),none⟩
abbrev ju (a b:Nat)(c:Int):Am.Item:=⟨some a,.val (.bin .num .eql (.t b) (.c (.int .i64 c))),none⟩
abbrev jv (a b c:Nat):Am.Item:=⟨some a,.val (.load none (.t b)),some (c,false)⟩
abbrev jw (a b c:Nat):Am.Item:=⟨some a,.val (.mov (.t b)),some (c,false)⟩
abbrev jx (a b c d:Nat):Am.Item:=⟨some a,.call (.f b) [(.t c),(.t d)],none⟩
abbrev jy (a b:Nat):Am.Item:=⟨some a,.val (.un .not (.t b)),none⟩
abbrev jz (a b c:Nat):Am.Item:=⟨some a,.val (.ext (.t b) c),none⟩
abbrev ya (a b c d:Nat):Am.Item:=⟨some a,.val (.len b (.t c)),some (d,true)⟩
abbrev yb (a:Nat):Am.Item:=⟨some a,.val (.mov (.c (.bool true))),none⟩
abbrev yc (a b c d:Nat)(e:Int):Am.Item:=⟨some a,.callF (.f b) [(.t c),(.t d),(.c (.int .i64 e))],none⟩
abbrev yd (a b:Nat)(c:Int):Am.Item:=⟨some a,.val (.bin .num .geq (.t b) (.c (.int .i64 c))),none⟩
abbrev ye (a b c d:Nat):Am.Item:=⟨some a,.callF (.f b) [(.t c),(.t d)],none⟩
abbrev yf (a b c:Nat):Am.Item:=⟨some a,.val (.bin .str .eql (.t b) (.t c)),none⟩
abbrev yg (a b c d e f:Nat):Am.Item:=⟨some a,.app b c d (.t e) (.t f),none⟩
abbrev yh (a b c d e:Nat):Am.Item:=⟨some a,.val (.loadv b c none (.t d)),some (e,true)⟩
abbrev yi (a b c d e:Nat):Am.Item:=⟨some a,.val (.iaddr b none (.t c) (.t d)),some (e,true)⟩
abbrev yj (a b c d e:Nat):Am.Item:=⟨some a,.val (.loadv b c (some d) (.t e)),none⟩
abbrev yk (a b:Nat):Am.Item:=⟨some a,.val (.loadr none (.t b)),none⟩
abbrev yl (a b:Nat)(c:Int):Am.Item:=⟨some a,.val (.bin .num .lss (.t b) (.c (.int .i64 c))),none⟩
abbrev ym (a b c:Nat):Am.Item:=⟨some a,.val (.loadr (some b) (.t c)),none⟩
abbrev yn (a b:Nat)(c:Int)(d:Nat):Am.Item:=⟨some a,.val (.bin .num .leq (.t b) (.c (.int .i64 c))),some (d,true)⟩
abbrev yo (a b:Nat)(c:Int):Am.Item:=⟨some a,.val (.bin .num .neq (.t b) (.c (.int .i64 c))),none⟩
abbrev yp (a:Nat):Am.Item:=⟨some a,.val (.mov (.c (.nils))),none⟩
abbrev yq (a b:Nat):Am.Item:=⟨some a,.val (.nilck (.t b)),none⟩
abbrev yr (a b:Nat)(c:Int):Am.Item:=⟨some a,.val (.bin .num .gtr (.t b) (.c (.int .i64 c))),none⟩
abbrev ys (a b c d e:Nat):Am.Item:=⟨some a,.val (.loadv b c none (.t d)),some (e,false)⟩
abbrev yt (a b c d:Nat)(e f:Int):Am.Item:=⟨some a,.callF (.f b) [(.t c),(.t d),(.c (.int .i64 e)),(.c (.int .i64 f))],none⟩
abbrev yu (a b c:Nat):Am.Item:=⟨some a,.val (.loadr none (.t b)),some (c,true)⟩
abbrev yv (a b c d e:Nat)(f:Int):Am.Item:=⟨some a,.callF (.f b) [(.t c),(.t d),(.t e),(.c (.int .i64 f))],none⟩
abbrev yw (a b c d:Nat):Am.Item:=⟨some a,.val (.len b (.t c)),some (d,false)⟩
abbrev yx (a b c:Nat):Am.Item:=⟨some a,.val (.un .not (.t b)),some (c,true)⟩
abbrev yy (a b:Nat)(c:Int)(d:Nat):Am.Item:=⟨some a,.val (.bin .num .gtr (.t b) (.c (.int .i64 c))),some (d,false)⟩
abbrev yz (a b c d e:Nat):Am.Item:=⟨none,.storev a b c (.t d) (.t e),none⟩
abbrev za (a b:Nat)(c:Int)(d:Nat):Am.Item:=⟨some a,.val (.bin .num .eql (.t b) (.c (.int .i64 c))),some (d,true)⟩
abbrev zb (a b c d e:Nat):Am.Item:=⟨some a,.val (.iaddr b none (.t c) (.t d)),some (e,false)⟩
abbrev zd (a b c:Nat):Am.Item:=⟨some a,.val (.loadr none (.t b)),some (c,false)⟩
abbrev ze (a b:Nat):Am.Item:=⟨some a,.allocN b [.str [],.nils,.nils,.nils,.nils],none⟩
abbrev zf (a b c:Nat):Am.Item:=⟨some a,.val (.un .not (.t b)),some (c,false)⟩
abbrev zg (a b c d:Nat):Am.Item:=⟨some a,.call (.f b) [(.t c)],some (d,false)⟩
abbrev zh (a b c d e:Nat):Am.Item:=⟨some a,.callF (.f b) [(.t c),(.f d)],some (e,false)⟩
abbrev zi (a b c d:Nat):Am.Item:=⟨some a,.val (.bin .num .add (.t b) (.t c)),some (d,true)⟩
abbrev zj (a b c d:Nat):Am.Item:=⟨some a,.val (.bin .num .neq (.t b) (.t c)),some (d,false)⟩
abbrev zk (a b c d:Nat):Am.Item:=⟨some a,.val (.bin .num .lss (.t b) (.t c)),some (d,true)⟩
abbrev zl (a b:Nat)(c:Int)(d:Nat):Am.Item:=⟨some a,.val (.bin .num .eql (.t b) (.c (.int .i64 c))),some (d,false)⟩
abbrev zm (a b:Nat):Am.Item:=⟨some a,.allocN b [.str [],.bool false,.nils,.nils,.nils],none⟩
abbrev zn (a:Nat):Am.Item:=⟨some a,.val (.mov (.c (.str []))),none⟩
abbrev zo (a b c d:Nat):Am.Item:=⟨some a,.val (.pick (.t b) (.t c) (.c (.bool false))),some (d,false)⟩
abbrev zp (a b c:Nat):Am.Item:=⟨some a,.val (.bin .num .add (.t b) (.t c)),none⟩
abbrev zq (a b c:Nat):Am.Item:=⟨some a,.val (.bin .num .eql (.t b) (.t c)),none⟩
abbrev zs (a b:Nat)(c:Int)(d:Nat):Am.Item:=⟨some a,.val (.bin .num .add (.t b) (.c (.int .i64 c))),some (d,true)⟩
abbrev zt (a b:Nat):Am.Item:=⟨some a,.allocN b [.int .i64 0,.str [],.int .i64 0,.int .i64 0,.int .i64 0,.str [],.str [],.bool false,.int .i64 0,.int .u64 0,.str [],.nils,.nils,.nils,.nils,.nils],none⟩
abbrev zu (a b c:Nat):Am.Item:=⟨some a,.val (.mkfn (.func b) [] [(.t c)]),none⟩
abbrev zv (a b c:Nat):Am.Item:=⟨some a,.callF (.t b) [(.t c)],none⟩
abbrev zw (a b:Nat)(c:Int)(d:Nat):Am.Item:=⟨some a,.val (.bin .num .neq (.t b) (.c (.int .i64 c))),some (d,true)⟩
abbrev zx (a b c d e:Nat):Am.Item:=⟨some a,.call (.f b) [(.t c),(.t d)],some (e,false)⟩
abbrev zy (a b c d e f:Nat):Am.Item:=⟨some a,.bsl b c [.str []] [(d,e,(.t f))],none⟩
abbrev zz (a b c d:Nat):Am.Item:=⟨some a,.val (.load (some b) (.t c)),some (d,false)⟩
abbrev Uf (a b:Nat)(c:Int):Am.Item:=⟨some a,.val (.bin .num .sub (.t b) (.c (.int .i64 c))),none⟩
abbrev Fs (a b c d e:Nat):Am.Item:=⟨some a,.call (.f b) [(.t c),(.t d)],some (e,true)⟩
abbrev Ug (a b c d:Nat):Am.Item:=⟨some a,.val (.bin .num .leq (.t b) (.t c)),some (d,true)⟩
abbrev HA (a b:Nat):Am.Item:=⟨some a,.allocN b [.nils,.nils],none⟩
abbrev HB (a b c d:Nat):Am.Item:=⟨some a,.call (.f b) [(.t c)],some (d,true)⟩
abbrev Ft (a b:Nat):Am.Item:=⟨some a,.allocN b [.int .i64 0,.int .u64 0,.str [],.nils,.nils,.nils,.nils],none⟩
abbrev HC (a b c d:Nat):Am.Item:=⟨some a,.val (.bin .str .eql (.t b) (.t c)),some (d,true)⟩
abbrev HD (a b c:Nat):Am.Item:=⟨some a,.call (.t b) [(.t c)],none⟩
abbrev HE (a b:Nat)(c:Int):Am.Item:=⟨some a,.val (.bin .num .eql (.t b) (.c (.int .u64 c))),none⟩
abbrev NU (a b:Nat):Am.Item:=⟨some a,.allocN b [.int .i64 0,.str [],.str [],.int .i64 0,.int .i64 0,.int .i64 0,.int .i64 0,.int .i64 0],none⟩
abbrev GF (a b c d e:Nat):Am.Item:=⟨some a,.call (.f b) [(.t c),(.t d),(.t e)],none⟩
abbrev P5 (a b c d:Nat):Am.Item:=⟨some a,.val (.bin .num .eql (.t b) (.t c)),some (d,true)⟩
abbrev GG (a b c d:Nat):Am.Item:=⟨some a,.callF (.f b) [(.t c),(.f d)],none⟩
abbrev GH (a b:Nat)(c:Int)(d:Nat):Am.Item:=⟨some a,.val (.bin .num .sub (.t b) (.c (.int .i64 c))),some (d,true)⟩
abbrev GI (a b c d:Nat)(e:Int)(f:Nat):Am.Item:=⟨some a,.call (.f b) [(.t c),(.t d),(.c (.int .i64 e))],some (f,true)⟩
abbrev Fu (a b c d:Nat):Am.Item:=⟨some a,.val (.pick (.t b) (.c (.bool true)) (.t c)),some (d,true)⟩
abbrev Fv (a b c d:Nat):Am.Item:=⟨some a,.val (.load (some b) (.t c)),some (d,true)⟩
abbrev Fw (a b:Nat)(c:Int):Am.Item:=⟨some a,.val (.bin .num .leq (.t b) (.c (.int .i64 c))),none⟩
abbrev Fx (a b c d:Nat)(e:Int):Am.Item:=⟨some a,.val (.iaddr b (some c) (.t d) (.c (.int .i64 e))),none⟩
abbrev Fy (a b:Nat)(c:Int)(d:Nat):Am.Item:=⟨some a,.val (.bin .num .sub (.t b) (.c (.int .i64 c))),some (d,false)⟩
abbrev Fz (a b c d:Nat):Am.Item:=⟨some a,.val (.slc (some b) (.t c) none (some (.t d)) none),none⟩
abbrev FA (a b:Nat):Am.Item:=⟨some a,.allocN b [.str [],.int .i64 0,.nils],none⟩
abbrev FB (a b c:Nat):Am.Item:=⟨some a,.val (.idx (.t b) (.t c)),none⟩
abbrev NV (a b:Nat):Am.Item:=⟨some a,.allocN b [.str [],.nils,.int .i64 0],none⟩
abbrev NW (a b:Nat)(c:Int)(d:Nat):Am.Item:=⟨some a,.val (.bin .num .neq (.t b) (.c (.int .i64 c))),some (d,false)⟩
abbrev NX (a b:Nat):Am.Item:=⟨some a,.val (.loado none (.t b)),none⟩
abbrev NY (a b c d:Nat):Am.Item:=⟨some a,.val (.mkfn (.func b) [] [(.t c),(.t d)]),none⟩
abbrev NZ (a b c d:Nat):Am.Item:=⟨some a,.val (.bin .num .gtr (.t b) (.t c)),some (d,false)⟩
abbrev N0 (a b:Nat):Am.Item:=⟨some a,.val (.bin .str .eql (.t b) (.c (.str []))),none⟩
abbrev N1 (a b c d e f:Nat):Am.Item:=⟨some a,.val (.loadv b c (some d) (.t e)),some (f,false)⟩
abbrev N2 (a b c:Nat):Am.Item:=⟨some a,.val (.slc none (.t b) (some (.t c)) none none),none⟩
abbrev N3 (a b:Nat)(c:Int):Am.Item:=⟨some a,.val (.bin .num .eql (.t b) (.c (.int .u8 c))),none⟩
abbrev N4 (a b c d:Nat):Am.Item:=⟨some a,.val (.idx (.t b) (.t c)),some (d,true)⟩
abbrev N5 (a b:Nat)(c:Int):Am.Item:=⟨some a,.val (.bin .num .geq (.t b) (.c (.int .u8 c))),none⟩
abbrev N6 (a b:Nat)(c:Int)(d:Nat):Am.Item:=⟨some a,.val (.bin .num .leq (.t b) (.c (.int .u8 c))),some (d,true)⟩
abbrev jQ (g:List Am.Item)(c:RC):RC:=.seq (.reg g) c
abbrev jD (g:List Am.Item)(c:RC):RC:=.seq (.draw g) c
abbrev jX (a b:Nat):RC:=.cond (.t a) .skip (.exit b)
abbrev IL:=List Am.Item
abbrev CT (k n:Nat)(r:RC)(o:List RR):Prop:=CK Tryz.prog k n r o
abbrev QmV:IL:=[jg 1 1 0,jd 2 0]
abbrev QmW:IL:=[jb 4 3 1,jc 5 4,ju 6 5 5,ja 3 6]
abbrev QmX:IL:=[jd 2 6]
abbrev QmY:IL:=[jj 8 8 1,js 9 45 8,ja 7 9]
abbrev QmZ:IL:=[jd 2 5]
abbrev Qm0:IL:=[jb 10 5 1,jc 11 10]
abbrev Qm1:IL:=[ju 13 11 1,ja 12 13]
abbrev Qm2:IL:=[ju 14 11 4,ja 12 14]
abbrev Qm3:IL:=[ju 15 11 5,ja 12 15]
abbrev Qm4:IL:=[ju 16 11 9,ja 12 16]
abbrev Iw:IL:=[jd 2 0]
abbrev Ix:IL:=[ju 18 11 2,ja 17 18]
abbrev Iy:IL:=[ju 19 11 3,ja 17 19]
abbrev Iz:IL:=[jd 2 1]
abbrev IA:IL:=[ju 21 11 6,ja 20 21]
abbrev IB:IL:=[jd 2 2]
abbrev IC:IL:=[ju 23 11 7,ja 22 23]
abbrev ID:IL:=[ju 24 11 8,ja 22 24]
abbrev IE:IL:=[jd 2 3]
abbrev IF:IL:=[ju 26 11 10,ja 25 26]
abbrev IG:IL:=[jd 2 4]
abbrev IH:IL:=[jd 2 (-1)]
abbrev r22:RC:=jQ QmV (.seq (.block 0 (jQ QmW (.cond (.t 3) (jQ QmX (.ret)) (jQ QmY (.cond (.t 7) (jQ QmZ (.ret)) (.skip)))))) (.seq (jQ Qm0 (.block 1 (.seq (jQ Qm1 (.cond (.t 12) (.skip) (jQ Qm2 (.cond (.t 12) (.skip) (jQ Qm3 (.cond (.t 12) (.skip) (.reg Qm4))))))) (.cond (.t 12) (jQ Iw (.ret)) (.seq (jQ Ix (.cond (.t 17) (.skip) (.reg Iy))) (.cond (.t 17) (jQ Iz (.ret)) (jQ IA (.cond (.t 20) (jQ IB (.ret)) (.seq (jQ IC (.cond (.t 22) (.skip) (.reg ID))) (.cond (.t 22) (jQ IE (.ret)) (jQ IF (.cond (.t 25) (jQ IG (.ret)) (.skip))))))))))))) (jQ IH (.ret))))
abbrev o22:List RR:=[.tmp 2]
theorem k22:CT 22 27 r22 o22:=ck Tryz.func22 Tryz.ntmps22 (by decide +kernel)
abbrev Qm5:IL:=[jg 1 1 0,je 2]
abbrev Qm6:IL:=[jb 3 3 1,jc 4 3,ju 5 4 4,ja 6 5,jf 7 5 1 6,jp 8 7 6,⟨some 9,.val (.bin .num .geq (.t 8) (.c (.int .i64 1))),(some (6,true))⟩,jh 10 9 6,jf 11 5 1 10,jp 12 11 10,yn 13 12 6 10,⟨some 14,.val (.pick (.t 10) (.t 13) (.c (.bool false))),(some (6,true))⟩,jh 15 14 6,jm 16 5 1 15,jv 17 16 15,zl 18 17 9 15,Fu 19 15 18 6,ji 20 6 19,ja 2 20]
abbrev r45:RC:=jQ Qm5 (jQ Qm6 (.ret))
abbrev o45:List RR:=[.tmp 2]
theorem k45:CT 45 21 r45 o45:=ck Tryz.func45 Tryz.ntmps45 (by decide +kernel)
abbrev Qt0:IL:=[je 0]
abbrev Qt1:IL:=[⟨some 4,.val (.build [.int .i64 0,.str []] [(0,1,(.c (.int .i64 2)))]),none⟩,⟨some 5,.val (.build [.int .i64 0,.str [],.int .i64 0,.int .i64 0,.int .i64 0,.str [],.str [],.bool false,.int .i64 0,.int .u64 0,.str [],.nils,.nils,.nils,.nils,.nils] [(0,1,(.c (.int .i64 3))),(1,1,(.c (.str [97]))),(2,1,(.c (.int .i64 1))),(4,2,(.t 4))]),none⟩,zt 1 1,jo 16 1 5]
abbrev Qt2:IL:=[jj 7 16 1,⟨some 8,.bsl 16 1 [.int .i64 0,.str [],.int .i64 0,.int .i64 0,.int .i64 0,.str [],.str [],.bool false,.int .i64 0,.int .u64 0,.str [],.nils,.nils,.nils,.nils,.nils] [(0,16,(.t 7))],none⟩,⟨some 9,.val (.build [.str [],.nils,.nils,.nils,.nils] [(0,1,(.c (.str [77]))),(1,1,(.t 8))]),none⟩,⟨some 10,.bsl 5 1 [.str [],.nils,.nils,.nils,.nils] [(0,5,(.t 9))],none⟩,⟨some 11,.val (.build [.nils,.nils,.nils] [(0,1,(.t 10))]),none⟩,js 12 6 11,ja 6 12,jz 13 6 0,jz 14 6 1,HA 2 2,jo 2 2 13,ja 3 14]
abbrev Qt3:IL:=[ja 15 3,ju 16 15 0,ja 17 16,jf 18 0 2 17,jp 19 18 17,ya 20 1 19 17,za 21 20 1 17,ji 22 17 21,ja 23 22,Fv 24 2 2 23,⟨some 25,.val (.build [.int .i64 0,.int .u64 0,.str [],.nils,.nils,.nils,.nils] [(0,1,(.c (.int .i64 10)))]),(some (23,true))⟩,⟨some 26,.call (.f 21) [(.t 24),(.c (.int .i64 0)),(.t 25)],(some (23,true))⟩,za 27 26 14 23,ji 28 23 27,ja 29 28,jf 30 0 2 29,jp 31 30 29,⟨some 32,.val (.iaddr 3 none (.t 31) (.c (.int .i64 0))),(some (29,true))⟩,jf 33 1 32 29,jp 34 33 29,⟨some 35,.val (.iaddr 8 none (.t 34) (.c (.int .i64 0))),(some (29,true))⟩,Fv 36 8 35 29,HB 37 22 36 29,za 38 37 1 29,ji 39 29 38,ja 0 39]
abbrev r9:RC:=jQ Qt0 (jQ Qt1 (jQ Qt2 (jQ Qt3 (.ret))))
abbrev o9:List RR:=[.tmp 0]
theorem k9:CT 9 40 r9 o9:=ck Tryz.func9 Tryz.ntmps9 (by decide +kernel)
def II:IL:=[jg 1 1 0,HA 2 2,jd 3 0]
def IJ:IL:=[jj 9 3 1,js 10 13 9,jy 11 10]
def IK:IL:=[⟨some 12,.val (.build [.nils,.nils] []),none⟩,jo 2 2 12,jd 3 1]
def IM:IL:=[HA 4 4]
def IN:IL:=[jb 13 0 1,jc 14 13,jk 15 1 14,jd 16 0]
def IP:IL:=[jr 17 16 15]
def IQ:IL:=[jl 18 5 14 16,jj 19 5 18,ze 6 6,jo 5 6 19]
def IR:IL:=[jb 20 0 4,jt 21 0 4 20,yj 22 0 1 3 1,yj 23 0 6 5 6,jx 24 14 22 23,⟨some 25,.bsl 3 1 [.str [],.nils,.int .i64 0] [(0,3,(.t 24))],none⟩,yg 26 3 48 45 21 25,jb 27 0 4,yz 0 4 1 27 26]
def IS:IL:=[jn 28 16 1,ja 16 28]
def IU:RC:=.gho (.drop 6) (jQ IP (.seq (jX 17 0) (.seq (.block 1 (jQ IQ (.draw IR))) (.reg IS))))
def IV:IL:=[jb 29 1 1,jc 30 29,jk 31 1 30,jd 32 0]
def P6:IL:=[jr 33 32 31]
def P7:IL:=[jl 34 5 30 32,jj 35 5 34,zm 8 8,jo 5 8 35]
def P8:IL:=[jb 36 1 4,jt 37 0 4 36,yj 38 0 8 5 8,js 39 15 38,⟨some 40,.bsl 5 1 [.str [],.bool false,.nils,.nils,.nils] [(0,5,(.t 39))],none⟩,yg 41 5 96 50 37 40,jb 42 1 4,yz 0 4 1 42 41]
def P9:IL:=[jn 43 32 1,ja 32 43]
def IW:RC:=.gho (.drop 8) (jQ P6 (.seq (jX 33 2) (.seq (.block 3 (jQ P7 (.draw P8))) (.reg P9))))
def Ra:IL:=[jj 44 2 4,jo 2 2 44,jd 3 0]
def r6:RC:=jQ II (.seq (jQ IJ (.cond (.t 11) (jQ IK (.ret)) (.skip))) (jQ IM (.gho (.vecc 4 0 1100 3) (.gho (.vecc 4 1 1101 5) (.seq (jQ IN (.block 0 (.loop IU))) (.seq (jQ IV (.block 2 (.loop IW))) (jQ Ra (.ret))))))))
def o6:List RR:=[.cell 2 (some 2),.tmp 3]
theorem k6:CT 6 45 r6 o6:=ck Tryz.func6 Tryz.ntmps6 (by decide +kernel)
abbrev Qm7:IL:=[jg 3 3 0,jg 5 5 2,jd 6 0]
abbrev Qm8:IL:=[ja 8 1,yl 9 8 0,ja 10 9,jw 11 1 10,jm 12 0 3 10,jv 13 12 10,yw 14 1 13 10,⟨some 15,.val (.bin .num .geq (.t 11) (.t 14)),(some (10,false))⟩,jq 16 10 15]
abbrev Qm9:IL:=[jd 6 10]
abbrev Qna:IL:=[yj 17 0 3 2 3,⟨some 18,.val (.build [.nils,.nils] [(0,2,(.t 17))]),none⟩,jb 19 0 3,jt 20 0 3 19,ja 21 1,jl 22 3 20 21,ym 23 3 22,yj 24 0 5 7 5,⟨some 25,.call (.f 43) [(.t 18),(.t 23),(.t 24),(.c (.int .i64 1))],none⟩,ja 7 25]
abbrev Qnb:IL:=[ja 26 7,yo 27 26 0]
abbrev Qnc:IL:=[ja 28 7,ja 6 28]
abbrev Qnd:IL:=[jj 29 7 5,js 30 44 29,yr 31 30 4096]
abbrev Qne:IL:=[jd 6 3]
abbrev Qnf:IL:=[jd 6 0]
abbrev r21:RC:=jQ Qm7 (.seq (jQ Qm8 (.cond (.t 16) (jQ Qm9 (.ret)) (.skip))) (.seq (jD Qna (jQ Qnb (.cond (.t 27) (jQ Qnc (.ret)) (.skip)))) (.seq (jQ Qnd (.cond (.t 31) (jQ Qne (.ret)) (.skip))) (jQ Qnf (.ret)))))
abbrev o21:List RR:=[.tmp 6]
theorem k21:CT 21 32 r21 o21:=ck Tryz.func21 Tryz.ntmps21 (by decide +kernel)
abbrev Qng:IL:=[jg 1 1 0,je 2]
abbrev Qnh:IL:=[jj 3 3 1,js 4 33 3,jk 5 1 4,ju 6 5 0,ja 2 6]
abbrev r13:RC:=jQ Qng (jQ Qnh (.ret))
abbrev o13:List RR:=[.tmp 2]
theorem k13:CT 13 7 r13 o13:=ck Tryz.func13 Tryz.ntmps13 (by decide +kernel)
def Rb:IL:=[jg 2 2 0,jg 3 3 1,NV 4 4]
def Rd:IL:=[jb 10 0 3,jc 11 10,⟨some 12,.val (.build [.str [],.nils,.int .i64 0] [(0,1,(.t 11))]),none⟩,NV 5 5,jo 3 5 12]
def Re:IL:=[yp 6]
def Rf:IL:=[jb 13 1 3,jc 14 13,jk 15 1 14,jd 16 0]
def Rg:IL:=[jr 17 16 15]
def Rh:IL:=[jl 18 16 14 16,jj 19 16 18,zt 8 8,jo 16 8 19]
def Ri:IL:=[jb 20 0 8,jt 21 0 8 20,jb 22 1 8,jt 23 0 8 22,jb 24 15 8,jt 25 0 8 24,js 26 34 25,jb 27 2 8,jt 28 0 8 27,jb 29 3 8,jt 30 0 8 29,jb 31 4 8,jb 32 0 31,jt 33 0 8 32,yj 34 0 2 3 2,jb 35 4 8,yj 36 0 8 2 35,jx 37 35 34 36,⟨some 38,.val (.build [.int .i64 0,.str [],.str [],.int .i64 0,.int .i64 0,.int .i64 0,.int .i64 0,.int .i64 0] [(0,1,(.t 21)),(1,1,(.t 23)),(2,1,(.t 26)),(3,1,(.t 28)),(4,1,(.t 30)),(5,1,(.t 33)),(6,1,(.t 37)),(7,1,(.c (.int .i64 (-1))))]),none⟩,NU 9 9,yz 0 9 8 9 38]
def Rj:IL:=[jb 39 6 8,jc 40 39,⟨some 41,.val (.bin .str .neq (.t 40) (.c (.str []))),none⟩]
def Rk:IL:=[ja 42 6,jb 43 6 8,jc 44 43,jx 45 36 42 44,jy 46 45]
def Rl:IL:=[ja 47 6,jb 48 6 8,jc 49 48,zy 50 1 1 0 1 49,yg 51 1 16 9 47 50,ja 6 51]
def GJ:IL:=[ja 52 6,jb 53 6 8,jc 54 53,jx 55 37 52 54,jb 56 7 9,jo 1 56 55]
def Uh:IL:=[jb 57 1 5,jc 58 57,jj 59 8 9,⟨some 60,.bsl 8 1 [.int .i64 0,.str [],.str [],.int .i64 0,.int .i64 0,.int .i64 0,.int .i64 0,.int .i64 0] [(0,8,(.t 59))],none⟩,yg 61 8 80 54 58 60,jb 62 1 5,jo 1 62 61]
def Ui:IL:=[jn 63 16 1,ja 16 63]
def Qni:RC:=.gho (.drop 9) (.gho (.drop 8) (jQ Rg (.seq (jX 17 0) (.seq (.block 1 (jQ Rh (jD Ri (.seq (jQ Rj (.cond (.t 41) (.seq (jQ Rk (.cond (.t 46) (.reg Rl) (.skip))) (.reg GJ)) (.skip))) (.reg Uh))))) (.reg Ui)))))
def N7:IL:=[ja 64 6,jk 65 1 64,jb 66 2 5,jo 1 66 65]
def N8:IL:=[jj 67 3 5,jo 3 4 67]
def IX:RC:=jQ Rb (jQ Rd (.gho (.vecc 5 1 1100 8) (jQ Re (.gho (.vec 6 6 1) (.seq (jQ Rf (.block 0 (.loop Qni))) (jQ N7 (jQ N8 (.ret))))))))
def IY:List RR:=[.cell 4 (some 3)]
theorem k14:CT 14 68 IX IY:=ck Tryz.func14 Tryz.ntmps14 (by decide +kernel)
abbrev Qnj:IL:=[jg 4 4 0,jg 5 5 1,jg 6 6 2,jd 8 0]
abbrev Qnk:IL:=[jb 17 0 6,jc 18 17,yo 19 18 10,ja 20 19,zz 21 7 6 20,zg 22 111 21 20,jq 23 20 22,ja 16 23]
abbrev Qnl:IL:=[jd 8 12]
abbrev Qnm:IL:=[ja 25 3,yr 26 25 16,ja 24 26]
abbrev Qnn:IL:=[jd 8 17]
abbrev Qno:IL:=[jb 27 5 6,jc 28 27,jk 29 1 28,jd 30 0]
abbrev Qnp:IL:=[jr 31 30 29]
abbrev Qnq:IL:=[ja 32 30,ja 9 32]
abbrev Qnr:IL:=[jj 33 2 4,jj 34 3 5,jb 35 5 6,jc 36 35,ja 37 9,ja 38 3,⟨some 39,.call (.f 112) [(.t 33),(.t 34),(.t 36),(.t 37),(.t 38)],none⟩,ja 10 39]
abbrev Qns:IL:=[ja 40 10,yo 41 40 0]
abbrev IZ:IL:=[ja 42 10,ja 8 42]
abbrev I0:IL:=[jn 43 30 1,ja 30 43]
abbrev Qnt:RC:=jQ Qnp (.seq (jX 31 1) (.seq (.block 2 (jQ Qnq (jQ Qnr (jQ Qns (.cond (.t 41) (jQ IZ (.ret)) (.skip)))))) (.reg I0)))
abbrev I1:IL:=[jb 44 1 5,jc 45 44,jk 46 1 45,jd 47 0]
abbrev I2:IL:=[jr 48 47 46]
abbrev I3:IL:=[jl 49 8 45 47,jj 50 8 49,NU 12 12,jo 8 12 50]
abbrev I4:IL:=[jb 51 3 12,jc 52 51,ju 53 52 1,ja 54 53,jf 55 5 6 54,jp 56 55 54,⟨some 57,.val (.mkfn (.func 114) [] [(.t 12)]),(some (54,true))⟩,⟨some 58,.callF (.f 113) [(.t 56),(.t 57)],(some (54,true))⟩,yx 59 58 54,ji 60 54 59]
abbrev I5:IL:=[jd 8 14]
abbrev I6:IL:=[jn 61 47 1,ja 47 61]
abbrev Qnu:RC:=.gho (.drop 12) (jQ I2 (.seq (jX 48 3) (.seq (.block 4 (jQ I3 (jQ I4 (.cond (.t 60) (jQ I5 (.ret)) (.skip))))) (.reg I6))))
abbrev I7:IL:=[jb 62 6 6,jc 63 62,jk 64 1 63,jd 65 0]
abbrev I8:IL:=[jr 66 65 64]
abbrev I9:IL:=[jl 67 4 63 65,jj 68 4 67,⟨some 14,.allocN 14 [.int .i64 0,.int .i64 0,.int .u64 0,.str []],none⟩,jo 4 14 68]
abbrev La:IL:=[jj 69 2 4,jj 70 3 5,jj 71 4 14,GF 72 115 69 70 71,ja 15 72]
abbrev Lb:IL:=[ja 73 15,yo 74 73 0]
abbrev Lc:IL:=[ja 75 15,ja 8 75]
abbrev Ld:IL:=[jn 76 65 1,ja 65 76]
abbrev Qnv:RC:=.gho (.drop 14) (jQ I8 (.seq (jX 66 5) (.seq (.block 6 (jQ I9 (jQ La (jQ Lb (.cond (.t 74) (jQ Lc (.ret)) (.skip)))))) (.reg Ld))))
abbrev Le:IL:=[jd 8 0]
abbrev r43:RC:=jQ Qnj (.seq (.block 0 (jQ Qnk (.cond (.t 16) (jQ Qnl (.ret)) (jQ Qnm (.cond (.t 24) (jQ Qnn (.ret)) (.skip)))))) (.seq (jQ Qno (.block 1 (.loop Qnt))) (.seq (jQ I1 (.block 3 (.loop Qnu))) (.seq (jQ I7 (.block 5 (.loop Qnv))) (jQ Le (.ret))))))
abbrev o43:List RR:=[.tmp 8]
theorem k43:CT 43 77 r43 o43:=ck Tryz.func43 Tryz.ntmps43 (by decide +kernel)
def Rm:IL:=[jg 1 1 0,yp 2]
def Rn:IL:=[⟨some 14,.val (.build [.str [],.int .i64 0,.nils] [(1,1,(.c (.int .i64 (-1))))]),none⟩,jg 15 15 14,ja 3 15]
def Ro:IL:=[jj 16 3 1,js 17 97 16,⟨some 4,.allocN 4 [.nils,.nils,.nils],none⟩,jo 3 4 17]
def Rp:IL:=[jj 18 3 4,jd 19 0]
def Rq:IL:=[yl 20 19 3]
def HX:IL:=[⟨some 21,.val (.aidx 3 1 none (.t 18) (.t 19)),none⟩,ja 6 21]
def BY:IL:=[ja 22 3,ja 23 6,jk 24 1 23,Fw 25 24 64,yc 26 98 22 25 3]
def BZ:IL:=[ja 27 3,ja 28 6,js 29 99 28,yc 30 98 27 29 11]
def B0:IL:=[jn 31 19 1,ja 19 31]
def B1:RC:=jQ Rq (.seq (jX 20 0) (.seq (.block 1 (jQ HX (jQ BY (.reg BZ)))) (.reg B0)))
def Rr:IL:=[ja 32 3,jj 33 3 4,js 34 100 33,yc 35 98 32 34 9]
def N9:IL:=[jj 36 3 1,js 37 101 36,ja 7 37]
def Vb:IL:=[jb 38 0 1,jc 39 38,jk 40 1 39,jd 41 0]
def Vc:IL:=[jr 42 41 40]
def Vd:IL:=[jl 43 5 39 41,jj 44 5 43,ze 9 9,jo 5 9 44]
def Ve:IL:=[ja 45 3,ja 46 3,yq 47 46,jb 48 2 47,jc 49 48,yj 50 0 1 3 1,yj 51 0 9 5 9,ja 52 7,GF 53 102 50 51 52,yg 54 3 32 160 49 53,yq 55 45,jb 56 2 55,jo 1 56 54]
def Vf:IL:=[jn 57 41 1,ja 41 57]
def Rs:RC:=.gho (.drop 9) (jQ Vc (.seq (jX 42 2) (.seq (.block 3 (jQ Vd (.draw Ve))) (.reg Vf))))
def Vg:IL:=[jb 58 1 1,jc 59 58,jk 60 1 59,jd 61 0]
def Vh:IL:=[jr 62 61 60]
def Vi:IL:=[jl 63 5 59 61,jj 64 5 63,zm 11 11,jo 5 11 64]
def Vj:IL:=[ja 65 3,ja 66 3,yq 67 66,jb 68 2 67,jc 69 68,yj 70 0 11 5 11,js 71 103 70,yg 72 3 32 160 69 71,yq 73 65,jb 74 2 73,jo 1 74 72]
def Vk:IL:=[jn 75 61 1,ja 61 75]
def Rt:RC:=.gho (.drop 11) (jQ Vh (.seq (jX 62 4) (.seq (.block 5 (jQ Vi (.draw Vj))) (.reg Vk))))
def Vl:IL:=[jb 76 2 1,jc 77 76,jk 78 1 77,jd 79 0]
def Vm:IL:=[jr 80 79 78]
def Vn:IL:=[jl 81 3 77 79,jj 82 3 81,⟨some 13,.allocN 13 [.str [],.nils,.nils],none⟩,jo 3 13 82]
def Vo:IL:=[ja 83 3,ja 84 3,yq 85 84,jb 86 2 85,jc 87 86,yj 88 0 1 3 1,yj 89 0 13 3 13,jx 90 104 88 89,yg 91 3 32 160 87 90,yq 92 83,jb 93 2 92,jo 1 93 91]
def Vq:IL:=[jn 94 79 1,ja 79 94]
def Ru:RC:=.gho (.drop 13) (jQ Vm (.seq (jX 80 6) (.seq (.block 7 (jQ Vn (.draw Vo))) (.reg Vq))))
def Vr:IL:=[ja 95 3,yq 96 95,jb 97 2 96,jc 98 97,ja 2 98]
def Lf:RC:=jQ Rm (jQ Rn (.gho (.vecc 15 2 1100 3) (jQ Ro (.seq (jQ Rp (.block 0 (.loop B1))) (jQ Rr (jQ N9 (.seq (jQ Vb (.block 2 (.loop Rs))) (.seq (jQ Vg (.block 4 (.loop Rt))) (.seq (jQ Vl (.block 6 (.loop Ru))) (jQ Vr (.ret)))))))))))
def Lg:List RR:=[.tmp 2]
theorem k33:CT 33 99 Lf Lg:=ck Tryz.func33 Tryz.ntmps33 (by decide +kernel)
abbrev Qnw:IL:=[zn 2]
abbrev Qnx:IL:=[ja 6 0,⟨some 7,.call (.f 39) [(.t 6),(.c (.str [97,108,105,97,115]))],none⟩,ja 5 7,jz 8 5 0,jz 9 5 1,Ft 3 3,jo 7 3 8,ja 4 9]
abbrev Qny:IL:=[jb 10 2 3,jc 11 10,ja 2 11]
abbrev r34:RC:=jQ Qnw (jQ Qnx (jQ Qny (.ret)))
abbrev o34:List RR:=[.tmp 2]
theorem k34:CT 34 12 r34 o34:=ck Tryz.func34 Tryz.ntmps34 (by decide +kernel)
abbrev Qnz:IL:=[jg 2 2 0,jg 3 3 1,jd 4 0]
abbrev QnA:IL:=[jb 5 0 3,jc 6 5]
abbrev QnB:IL:=[ju 8 6 10,ja 7 8]
abbrev QnC:IL:=[jb 9 0 2,jc 10 9,zu 11 106 3,ye 12 105 10 11,ja 4 12]
abbrev QnD:IL:=[ju 14 6 9,ja 13 14]
abbrev QnE:IL:=[jb 15 1 2,jc 16 15,zu 17 108 3,ye 18 107 16 17,ja 4 18]
abbrev QnF:IL:=[jd 4 (-1)]
abbrev r35:RC:=jQ Qnz (.seq (jQ QnA (.block 0 (jQ QnB (.cond (.t 7) (jQ QnC (.ret)) (jQ QnD (.cond (.t 13) (jQ QnE (.ret)) (.skip))))))) (jQ QnF (.ret)))
abbrev o35:List RR:=[.tmp 4]
theorem k35:CT 35 19 r35 o35:=ck Tryz.func35 Tryz.ntmps35 (by decide +kernel)
abbrev QnG:IL:=[je 4]
abbrev QnH:IL:=[ja 5 0,ja 6 1,jx 7 37 5 6,yd 8 7 0,ja 4 8]
abbrev r36:RC:=jQ QnG (jQ QnH (.ret))
abbrev o36:List RR:=[.tmp 4]
theorem k36:CT 36 9 r36 o36:=ck Tryz.func36 Tryz.ntmps36 (by decide +kernel)
abbrev QnI:IL:=[jd 4 0]
abbrev QnJ:IL:=[ja 6 0,jk 7 1 6,jd 8 0]
abbrev QnK:IL:=[jr 9 8 7]
abbrev QnL:IL:=[ja 10 8,ja 5 10]
abbrev QnM:IL:=[ja 11 1,ja 12 0,ja 13 5,jl 14 1 12 13,jc 15 14,yf 16 11 15]
abbrev QnN:IL:=[ja 17 5,ja 4 17]
abbrev QnO:IL:=[jn 18 8 1,ja 8 18]
abbrev QnP:RC:=jQ QnK (.seq (jX 9 0) (.seq (.block 1 (jQ QnL (jQ QnM (.cond (.t 16) (jQ QnN (.ret)) (.skip))))) (.reg QnO)))
abbrev QnQ:IL:=[jd 4 (-1)]
abbrev r37:RC:=jQ QnI (.seq (jQ QnJ (.block 0 (.loop QnP))) (jQ QnQ (.ret)))
abbrev o37:List RR:=[.tmp 4]
theorem k37:CT 37 19 r37 o37:=ck Tryz.func37 Tryz.ntmps37 (by decide +kernel)
abbrev QnR:IL:=[Ft 4 4,je 5]
abbrev QnS:IL:=[ja 7 0,ja 8 1,jx 9 109 7 8,ja 6 9]
abbrev QnT:IL:=[ja 10 6,yl 11 10 0]
abbrev QnU:IL:=[⟨some 12,.val (.build [.int .i64 0,.int .u64 0,.str [],.nils,.nils,.nils,.nils] []),none⟩,jo 7 4 12,je 5]
abbrev QnV:IL:=[ja 13 0,ja 14 6,jl 15 8 13 14,jb 16 1 15,jj 17 7 16,jo 7 4 17,yb 5]
abbrev r39:RC:=jQ QnR (jQ QnS (.seq (jQ QnT (.cond (.t 11) (jQ QnU (.ret)) (.skip))) (jQ QnV (.ret))))
abbrev o39:List RR:=[.cell 4 (some 7),.tmp 5]
theorem k39:CT 39 18 r39 o39:=ck Tryz.func39 Tryz.ntmps39 (by decide +kernel)
abbrev Lh:IL:=[jg 1 1 0,je 2]
abbrev Li:IL:=[jb 4 0 1,jc 5 4,ju 6 5 7,ja 7 6,jm 8 0 1 7,jv 9 8 7,zl 10 9 8 7,jq 11 7 10,ja 3 11]
abbrev Lj:IL:=[jb 12 0 1,jc 13 12,yo 14 13 11,ja 15 14,jf 16 3 1 15,jp 17 16 15,ya 18 1 17 15,⟨some 19,.val (.bin .num .gtr (.t 18) (.c (.int .i64 0))),(some (15,true))⟩,ji 20 15 19,ja 21 20,jm 22 0 1 21,jv 23 22 21,NW 24 23 12 21,jw 25 24 21,jf 26 4 1 25,jp 27 26 25,ya 28 1 27 25,⟨some 29,.val (.bin .num .gtr (.t 28) (.c (.int .i64 0))),(some (25,true))⟩,zo 30 25 29 21,jq 31 21 30,ja 32 31,jm 33 0 1 32,jv 34 33 32,NW 35 34 10 32,jw 36 35 32,jf 37 5 1 36,jp 38 37 36,ya 39 1 38 36,jf 40 6 1 36,jp 41 40 36,ya 42 1 41 36,zi 43 39 42 36,⟨some 44,.val (.bin .num .gtr (.t 43) (.c (.int .i64 0))),(some (36,true))⟩,zo 45 36 44 32,jq 46 32 45,ja 47 46,jm 48 1 1 47,jv 49 48 47,⟨some 50,.val (.bin .num .neq (.t 49) (.c (.int .u64 0))),(some (47,false))⟩,jw 51 50 47,jh 52 3 51,jh 53 52 51,jm 54 0 1 53,jv 55 54 53,⟨some 56,.val (.bin .num .geq (.t 55) (.c (.int .i64 10))),(some (53,false))⟩,jw 57 56 53,jf 58 0 1 57,jp 59 58 57,yn 60 59 12 57,zo 61 57 60 53,Fu 62 53 61 51,zo 63 51 62 47,jq 64 47 63,ja 65 64,jm 66 2 1 65,jv 67 66 65,⟨some 68,.val (.bin .str .neq (.t 67) (.c (.str []))),(some (65,false))⟩,jw 69 68 65,jh 70 3 69,yx 71 70 69,zo 72 69 71 65,jq 73 65 72,ja 2 73]
abbrev Lk:RC:=jQ Lh (jQ Li (jQ Lj (.ret)))
abbrev Ll:List RR:=[.tmp 2]
theorem Qt4:CT 111 74 Lk Ll:=ck Tryz.func111 Tryz.ntmps111 (by decide +kernel)
abbrev Lm:IL:=[je 4]
abbrev Ln:IL:=[ja 5 0,ja 6 1,ye 7 164 5 6,yd 8 7 0,ja 4 8]
abbrev Lo:RC:=jQ Lm (jQ Ln (.ret))
abbrev Lp:List RR:=[.tmp 4]
theorem Qt5:CT 113 9 Lo Lp:=ck Tryz.func113 Tryz.ntmps113 (by decide +kernel)
abbrev QnW:IL:=[jg 1 1 0,⟨some 2,.allocN 2 [.nils,.nils,.nils],none⟩]
abbrev QnX:IL:=[⟨some 3,.allocN 3 [.nils,.nils,.nils],none⟩]
abbrev QnY:IL:=[jb 10 0 1,jc 11 10,jk 12 1 11,jd 13 0]
abbrev QnZ:IL:=[jr 14 13 12]
abbrev Qn0:IL:=[jl 15 5 11 13,jj 16 5 15,ze 5 5,jo 5 5 16]
abbrev Qn1:IL:=[Fx 17 1 3 3 0,jc 18 17,jb 19 0 5,jc 20 19,zy 21 1 1 0 1 20,yg 22 1 16 9 18 21,Fx 23 1 3 3 0,jo 1 23 22]
abbrev Qn2:IL:=[jn 24 13 1,ja 13 24]
abbrev Rv:RC:=.gho (.drop 5) (jQ QnZ (.seq (jX 14 0) (.seq (.block 1 (jQ Qn0 (.reg Qn1))) (.reg Qn2))))
abbrev Qn3:IL:=[jb 25 1 1,jc 26 25,jk 27 1 26,jd 28 0]
abbrev Qn4:IL:=[jr 29 28 27]
abbrev Qn5:IL:=[jl 30 5 26 28,jj 31 5 30,zm 7 7,jo 5 7 31]
abbrev Lq:IL:=[Fx 32 1 3 3 1,jc 33 32,jb 34 0 7,jc 35 34,zy 36 1 1 0 1 35,yg 37 1 16 9 33 36,Fx 38 1 3 3 1,jo 1 38 37]
abbrev Lr:IL:=[jn 39 28 1,ja 28 39]
abbrev Rw:RC:=.gho (.drop 7) (jQ Qn4 (.seq (jX 29 2) (.seq (.block 3 (jQ Qn5 (.reg Lq))) (.reg Lr))))
abbrev Lt:IL:=[jb 40 2 1,jc 41 40,jk 42 1 41,jd 43 0]
abbrev Lu:IL:=[jr 44 43 42]
abbrev Lv:IL:=[jl 45 3 41 43,jj 46 3 45,⟨some 9,.allocN 9 [.str [],.nils,.nils],none⟩,jo 3 9 46]
abbrev Lw:IL:=[Fx 47 1 3 3 2,jc 48 47,jb 49 0 9,jc 50 49,zy 51 1 1 0 1 50,yg 52 1 16 9 48 51,Fx 53 1 3 3 2,jo 1 53 52]
abbrev Lx:IL:=[jn 54 43 1,ja 43 54]
abbrev Rx:RC:=.gho (.drop 9) (jQ Lu (.seq (jX 44 4) (.seq (.block 5 (jQ Lv (.reg Lw))) (.reg Lx))))
abbrev Ly:IL:=[jj 55 3 3,jo 3 2 55]
abbrev r97:RC:=jQ QnW (jQ QnX (.gho (.vecc 3 0 1100 1) (.gho (.vecc 3 1 1101 1) (.gho (.vecc 3 2 1102 1) (.seq (jQ QnY (.block 0 (.loop Rv))) (.seq (jQ Qn3 (.block 2 (.loop Rw))) (.seq (jQ Lt (.block 4 (.loop Rx))) (jQ Ly (.ret)))))))))
abbrev o97:List RR:=[.cell 2 (some 3)]
theorem k97:CT 97 56 r97 o97:=ck Tryz.func97 Tryz.ntmps97 (by decide +kernel)
abbrev Qn6:IL:=[ja 6 1,jy 7 6]
abbrev Qn7:IL:=[ja 8 0,ja 9 0,yq 10 9,jb 11 2 10,NX 12 11,ja 13 0,yq 14 13,jb 15 0 14,NX 16 15,ja 17 0,yq 18 17,jb 19 1 18,NX 20 19,ja 21 2,⟨some 22,.val (.build [.str [],.int .i64 0,.int .i64 0] [(0,1,(.t 16)),(1,1,(.t 20)),(2,1,(.t 21))]),none⟩,⟨some 23,.bsl 3 1 [.str [],.int .i64 0,.int .i64 0] [(0,3,(.t 22))],none⟩,yg 24 3 32 160 12 23,yq 25 8,jb 26 2 25,jo 1 26 24]
abbrev r98:RC:=jQ Qn6 (.cond (.t 7) (.draw Qn7) (.skip))
abbrev o98:List RR:=[]
theorem GK:CT 98 27 r98 o98:=ck Tryz.func98 Tryz.ntmps98 (by decide +kernel)
abbrev Qn8:IL:=[je 2]
abbrev Qn9:IL:=[jd 3 1]
abbrev Qoa:IL:=[ja 4 3,ja 5 0,jk 6 1 5,jr 7 4 6]
abbrev Qob:IL:=[ja 10 0,ja 11 3,jl 12 1 10 11,yk 13 12,ja 14 0,ja 15 3,Uf 16 15 1,jl 17 1 14 16,yk 18 17,⟨some 19,.val (.bin .str .leq (.t 13) (.t 18)),none⟩]
abbrev Qoc:IL:=[je 2]
abbrev Qod:IL:=[ja 8 3,jn 9 8 1,ja 3 9]
abbrev Qoe:RC:=.seq (jQ Qoa (jX 7 0)) (.seq (.block 1 (jD Qob (.cond (.t 19) (jQ Qoc (.ret)) (.skip)))) (.reg Qod))
abbrev Qof:IL:=[yb 2]
abbrev r99:RC:=jQ Qn8 (.seq (jQ Qn9 (.block 0 (.loop Qoe))) (jQ Qof (.ret)))
abbrev o99:List RR:=[.tmp 2]
theorem k99:CT 99 20 r99 o99:=ck Tryz.func99 Tryz.ntmps99 (by decide +kernel)
abbrev Lz:IL:=[jg 1 1 0,je 2]
abbrev LA:IL:=[jd 5 0]
abbrev LB:IL:=[yl 6 5 3]
abbrev LC:IL:=[ja 7 5,ja 3 7]
abbrev LD:IL:=[ja 8 3,jd 9 0]
abbrev LF:IL:=[jr 10 9 8]
abbrev LG:IL:=[ja 11 9,⟨some 4,.allocN 4 [.int .i64 0],none⟩,jo 1 4 11]
abbrev LH:IL:=[ja 12 3,⟨some 13,.val (.iaddr 1 (some 3) (.t 1) (.t 12)),none⟩,jc 14 13,NY 15 147 1 4,ye 16 133 14 15]
abbrev LI:IL:=[je 2]
abbrev LJ:IL:=[jn 17 9 1,ja 9 17]
abbrev Vs:RC:=.gho (.drop 4) (jQ LF (.seq (jX 10 2) (.seq (.block 3 (jQ LG (jQ LH (.cond (.t 16) (jQ LI (.ret)) (.skip))))) (.reg LJ))))
abbrev Th:IL:=[jn 18 5 1,ja 5 18]
abbrev LK:RC:=.gho (.drop 4) (jQ LB (.seq (jX 6 0) (.seq (.block 1 (jQ LC (jQ LD (.block 2 (.loop Vs))))) (.reg Th))))
abbrev Ti:IL:=[yb 2]
abbrev LL:RC:=jQ Lz (.seq (jQ LA (.block 0 (.loop LK))) (jQ Ti (.ret)))
abbrev LM:List RR:=[.tmp 2]
theorem LN:CT 100 19 LL LM:=ck Tryz.func100 Tryz.ntmps100 (by decide +kernel)
abbrev LO:IL:=[jg 1 1 0,⟨some 2,.val (.mov (.c (.nilm))),none⟩]
abbrev LP:IL:=[⟨some 9,.mkm 9,none⟩,⟨some 3,.allocN 3 [.nilm],none⟩,jo 1 3 9]
abbrev LQ:IL:=[jb 10 0 1,jc 11 10,jk 12 1 11,jn 13 12 1,jd 14 0]
abbrev LR:IL:=[jr 15 14 13]
abbrev LS:IL:=[jb 16 0 1,jc 17 16,jk 18 1 17,jd 19 0]
abbrev LU:IL:=[jr 20 19 18]
abbrev LV:IL:=[jl 21 5 17 19,jj 22 5 21,ze 5 5,jo 5 5 22]
abbrev LW:IL:=[jj 24 3 1,jb 25 0 5,jc 26 25,jx 27 148 24 26,ja 23 27,jz 28 23 0,jz 29 23 1,ze 6 6,jo 5 6 28,ja 7 29]
abbrev LX:IL:=[jj 30 5 6,js 31 149 30,NY 32 150 1 3,ye 33 133 31 32,ja 8 33]
abbrev LY:IL:=[ja 34 8,jy 35 34]
abbrev Tj:IL:=[jc 36 3,jb 37 0 5,jc 38 37,⟨none,.mput (.t 36) (.t 38) (.c (.bool true)),none⟩]
abbrev Tk:IL:=[jn 39 19 1,ja 19 39]
abbrev Vt:RC:=.gho (.drop 6) (.gho (.drop 5) (jQ LU (.seq (jX 20 2) (.seq (.block 3 (jQ LV (jQ LW (jQ LX (jQ LY (.cond (.t 35) (.reg Tj) (.skip))))))) (.reg Tk)))))
abbrev Tl:IL:=[jn 40 14 1,ja 14 40]
abbrev LZ:RC:=.gho (.drop 6) (.gho (.drop 5) (jQ LR (.seq (jX 15 0) (.seq (.block 1 (jQ LS (.block 2 (.loop Vt)))) (.reg Tl)))))
abbrev Tm:IL:=[jc 41 3,ja 2 41]
abbrev L0:RC:=jQ LO (jQ LP (.seq (jQ LQ (.block 0 (.loop LZ))) (jQ Tm (.ret))))
abbrev L5:List RR:=[.tmp 2]
theorem L6:CT 101 42 L0 L5:=ck Tryz.func101 Tryz.ntmps101 (by decide +kernel)
def Vu:IL:=[jg 3 3 0,jg 4 4 1,yp 6]
def Vv:IL:=[jb 11 0 4,jc 12 11,⟨some 13,.val (.build [.str [],.int .i64 0,.nils] [(0,1,(.t 12)),(1,1,(.c (.int .i64 (-1))))]),none⟩,jg 14 14 13,ja 7 14]
def Vw:IL:=[ja 15 7,jb 16 0 4,jc 17 16,js 18 151 17,yc 19 98 15 18 8]
def GL:IL:=[ja 20 7,jb 21 1 4,jc 22 21,jk 23 1 22,Fw 24 23 64,ja 25 24,jf 26 2 4 25,jp 27 26 25,ya 28 1 27 25,jf 29 3 4 25,jp 30 29 25,ya 31 1 30 25,⟨some 32,.val (.mnx true (.t 28) (.t 31)),(some (25,true))⟩,yn 33 32 16 25,ji 34 25 33,yc 35 98 20 34 3]
def Vx:IL:=[jb 36 1 4,jc 37 36,jk 38 1 37,jd 39 0]
def Vy:IL:=[jr 40 39 38]
def Vz:IL:=[ja 41 39,ja 8 41]
def VA:IL:=[ja 42 7,jj 43 3 3,jj 44 5 4,ja 45 8,⟨some 46,.callF (.f 152) [(.t 42),(.t 43),(.t 44),(.t 45)],none⟩]
def VB:IL:=[jn 47 39 1,ja 39 47]
def GM:RC:=jQ Vy (.seq (jX 40 0) (.seq (.block 1 (jQ Vz (.reg VA))) (.reg VB)))
def VC:IL:=[ja 48 7,jb 49 2 4,jc 50 49,yt 51 153 48 50 1 65535]
def FC:IL:=[jb 52 3 4,jc 53 52,jk 54 1 53,jd 55 0]
def FD:IL:=[jr 56 55 54]
def FE:IL:=[jl 57 1 53 55,jc 58 57,ja 10 58]
def FG:IL:=[ja 59 7,ja 60 10,js 61 89 60,yc 62 98 59 61 7]
def FH:IL:=[jn 63 55 1,ja 55 63]
def GN:RC:=jQ FD (.seq (jX 56 2) (.seq (.block 3 (jQ FE (.reg FG))) (.reg FH)))
def FI:IL:=[ja 64 7,jb 65 4 4,jc 66 65,yc 67 154 64 66 1]
def FJ:IL:=[ja 68 7,jj 69 3 3,jj 70 5 4,ja 71 2,GF 72 155 69 70 71,jy 73 72,yc 74 98 68 73 19]
def FK:IL:=[ja 75 7,yq 76 75,jb 77 2 76,jc 78 77,ja 6 78]
def M1:RC:=jQ Vu (jQ Vv (.gho (.vecc 14 2 1100 3) (jQ Vw (jQ GL (.seq (jQ Vx (.block 0 (.loop GM))) (jQ VC (.seq (jQ FC (.block 2 (.loop GN))) (jQ FI (jQ FJ (jQ FK (.ret)))))))))))
def M2:List RR:=[.tmp 6]
theorem L7:CT 102 79 M1 M2:=ck Tryz.func102 Tryz.ntmps102 (by decide +kernel)
abbrev L8:IL:=[jd 4 0]
abbrev L9:IL:=[ja 6 0,jk 7 1 6,jd 8 0]
abbrev Qaa:IL:=[jr 9 8 7]
abbrev Qab:IL:=[ja 10 8,ja 5 10]
abbrev Qac:IL:=[ja 11 1,ja 12 0,ja 13 5,jl 14 5 12 13,jj 15 5 14,zv 16 11 15]
abbrev Qad:IL:=[ja 17 5,ja 4 17]
abbrev Qae:IL:=[jn 18 8 1,ja 8 18]
abbrev Qaf:RC:=jQ Qaa (.seq (jX 9 0) (.seq (.block 1 (jQ Qab (jQ Qac (.cond (.t 16) (jQ Qad (.ret)) (.skip))))) (.reg Qae)))
abbrev Qag:IL:=[jd 4 (-1)]
abbrev Qah:RC:=jQ L8 (.seq (jQ L9 (.block 0 (.loop Qaf))) (jQ Qag (.ret)))
abbrev Qai:List RR:=[.tmp 4]
theorem Qaj:CT 105 19 Qah Qai:=ck Tryz.func105 Tryz.ntmps105 (by decide +kernel)
abbrev Qak:IL:=[jg 3 3 1,jd 4 0]
abbrev Qal:IL:=[ja 5 0,zu 6 160 3,ye 7 159 5 6,ja 4 7]
abbrev Qam:RC:=jQ Qak (jQ Qal (.ret))
abbrev Qan:List RR:=[.tmp 4]
theorem Qao:CT 109 8 Qam Qan:=ck Tryz.func109 Tryz.ntmps109 (by decide +kernel)
abbrev Qap:IL:=[jd 4 0]
abbrev Qaq:IL:=[ja 6 0,jk 7 1 6,jd 8 0]
abbrev Qar:IL:=[jr 9 8 7]
abbrev Qas:IL:=[ja 10 8,ja 5 10]
abbrev Qat:IL:=[ja 11 1,ja 12 0,ja 13 5,jl 14 8 12 13,jj 15 8 14,zv 16 11 15]
abbrev Qau:IL:=[ja 17 5,ja 4 17]
abbrev Qav:IL:=[jn 18 8 1,ja 8 18]
abbrev Qaw:RC:=jQ Qar (.seq (jX 9 0) (.seq (.block 1 (jQ Qas (jQ Qat (.cond (.t 16) (jQ Qau (.ret)) (.skip))))) (.reg Qav)))
abbrev Qax:IL:=[jd 4 (-1)]
abbrev Qay:RC:=jQ Qap (.seq (jQ Qaq (.block 0 (.loop Qaw))) (jQ Qax (.ret)))
abbrev Qaz:List RR:=[.tmp 4]
theorem Qt6:CT 164 19 Qay Qaz:=ck Tryz.func164 Tryz.ntmps164 (by decide +kernel)
abbrev QaA:IL:=[je 4]
abbrev QaB:IL:=[ja 5 0,ja 6 1,ye 7 178 5 6,yd 8 7 0,ja 4 8]
abbrev QaC:RC:=jQ QaA (jQ QaB (.ret))
abbrev QaD:List RR:=[.tmp 4]
theorem QaE:CT 133 9 QaC QaD:=ck Tryz.func133 Tryz.ntmps133 (by decide +kernel)
abbrev QaF:IL:=[jg 2 2 0,jg 3 3 1,ze 4 4,je 5]
abbrev QaG:IL:=[jb 7 0 2,jc 8 7,zu 9 188 3,ye 10 105 8 9,ja 6 10]
abbrev QaH:IL:=[ja 11 6,yl 12 11 0]
abbrev QaI:IL:=[⟨some 13,.val (.build [.str [],.nils,.nils,.nils,.nils] []),none⟩,jo 5 4 13,je 5]
abbrev QaJ:IL:=[jb 14 0 2,jc 15 14,ja 16 6,jl 17 5 15 16,jj 18 5 17,jo 5 4 18,yb 5]
abbrev QaK:RC:=jQ QaF (jQ QaG (.seq (jQ QaH (.cond (.t 12) (jQ QaI (.ret)) (.skip))) (jQ QaJ (.ret))))
abbrev QaL:List RR:=[.cell 4 (some 5),.tmp 5]
theorem QaM:CT 148 19 QaK QaL:=ck Tryz.func148 Tryz.ntmps148 (by decide +kernel)
abbrev QaN:IL:=[jg 1 1 0,yp 2]
abbrev QaO:IL:=[yp 3]
abbrev QaP:IL:=[jb 6 1 1,jc 7 6,jk 8 1 7,jd 9 0]
abbrev QaQ:IL:=[jr 10 9 8]
abbrev QaR:IL:=[jl 11 16 7 9,jj 12 16 11,zt 5 5,jo 16 5 12]
abbrev QaS:IL:=[jb 13 2 5,jc 14 13,ju 15 14 1,ja 16 15,jf 17 4 5 16,jf 18 0 17 16,jp 19 18 16,za 20 19 10 16,ji 21 16 20]
abbrev QaT:IL:=[ja 22 3,jb 23 4 5,jb 24 1 23,jc 25 24,zy 26 1 1 0 1 25,yg 27 1 16 9 22 26,ja 3 27]
abbrev QaU:IL:=[jn 28 9 1,ja 9 28]
abbrev QaV:RC:=.gho (.drop 5) (jQ QaQ (.seq (jX 10 0) (.seq (.block 1 (jQ QaR (jQ QaS (.cond (.t 21) (.reg QaT) (.skip))))) (.reg QaU))))
abbrev QaW:IL:=[ja 29 3,ja 2 29]
abbrev QaX:RC:=jQ QaN (jQ QaO (.gho (.vec 3 3 1) (.seq (jQ QaP (.block 0 (.loop QaV))) (jQ QaW (.ret)))))
abbrev QaY:List RR:=[.tmp 2]
theorem QaZ:CT 149 30 QaX QaY:=ck Tryz.func149 Tryz.ntmps149 (by decide +kernel)
abbrev Qa0:IL:=[je 2]
abbrev Qa1:IL:=[ja 3 0,js 4 132 3,ja 5 4,jh 6 0 5,⟨some 7,.call (.f 134) [(.t 6),(.c (.str [46]))],(some (5,true))⟩,⟨some 8,.callF (.f 133) [(.t 7),(.f 135)],(some (5,true))⟩,yx 9 8 5,ji 10 5 9,ja 2 10]
abbrev Qa2:RC:=jQ Qa0 (jQ Qa1 (.ret))
abbrev Qa3:List RR:=[.tmp 2]
theorem Qa4:CT 151 11 Qa2 Qa3:=ck Tryz.func151 Tryz.ntmps151 (by decide +kernel)
def VD:IL:=[jg 5 5 1,jg 6 6 2]
def VE:IL:=[jb 9 1 6,jc 10 9,ja 11 3,jl 12 16 10 11,jj 13 16 12,zt 8 8,jo 16 8 13]
def VF:IL:=[ja 14 0,jb 15 0 8,jc 16 15,yq 17 14,jb 18 1 17,jo 1 18 16]
def GP:IL:=[ja 19 0,jb 20 0 8,jc 21 20,yd 22 21 1,ja 23 22,jf 24 0 8 23,jp 25 24 23,yn 26 25 65535 23,ji 27 23 26,yc 28 98 19 27 6]
def Uj:IL:=[ja 29 0,ja 30 3,ju 31 30 0,ja 32 31,jm 33 0 8 32,ys 34 0 8 33 32,jm 35 1 6 32,ys 36 0 6 35 32,jw 37 3 32,Fy 38 37 1 32,zb 39 16 36 38 32,jm 40 0 39 32,zd 41 40 32,NZ 42 34 41 32,jq 43 32 42,yc 44 98 29 43 11]
def GQ:IL:=[ja 45 0,jb 46 1 8,jc 47 46,js 48 156 47,yc 49 98 45 48 8]
def GR:IL:=[ja 50 0,jb 51 1 6,jc 52 51,ja 53 3,⟨some 54,.callF (.f 189) [(.t 52),(.t 53),(.f 190)],none⟩,jy 55 54,yc 56 98 50 55 9]
def GS:IL:=[ja 57 0,jb 58 2 6,jc 59 58,jb 60 0 8,jc 61 60,jx 62 142 59 61,jy 63 62,ja 64 63,jf 65 3 6 64,jp 66 65 64,jf 67 1 8 64,jp 68 67 64,Fs 69 36 66 68 64,yx 70 69 64,ji 71 64 70,yc 72 98 57 71 21]
def GT:IL:=[ja 73 0,jb 74 2 8,jc 75 74,yd 76 75 1,ja 77 76,jf 78 2 8 77,jp 79 78 77,yn 80 79 5 77,ji 81 77 80,ja 82 81,jf 83 2 8 82,jp 84 83 82,jf 85 3 8 82,jp 86 85 82,Fs 87 191 84 86 82,ji 88 82 87,yc 89 98 73 88 1]
def GU:IL:=[ja 90 0,jj 91 3 5,jj 92 16 8,jx 93 192 91 92,yc 94 98 90 93 12]
def UP:IL:=[ja 95 0,jj 96 5 6,ja 97 3,jx 98 193 96 97,yc 99 98 95 98 15]
def UQ:IL:=[ja 100 0,jj 101 3 5,jj 102 16 8,jx 103 194 101 102,yc 104 98 100 103 1]
def UR:IL:=[ja 105 0,jb 106 15 8,jc 107 106,yc 108 154 105 107 2]
def FL:IL:=[ja 109 0,yq 110 109,jb 111 1 110,⟨none,.store 1 (.t 111) (.c (.int .i64 (-1))),none⟩]
def M3:RC:=jQ VD (jQ VE (jQ VF (jQ GP (jD Uj (jQ GQ (jQ GR (jQ GS (jQ GT (jQ GU (jQ UP (jQ UQ (jQ UR (.reg FL)))))))))))))
def M4:List RR:=[]
theorem Qa5:CT 152 112 M3 M4:=ck Tryz.func152 Tryz.ntmps152 (by decide +kernel)
def VG:IL:=[ja 10 1,jk 11 1 10,jd 12 0]
def VH:IL:=[jr 13 12 11]
def VI:IL:=[ja 14 12,jl 15 2 10 12,jj 16 2 15,⟨some 9,.allocN 9 [.int .i64 0,.int .i64 0],none⟩,ja 8 14,jo 2 9 16]
def GV:IL:=[ja 17 0,jb 18 0 9,jc 19 18,ja 20 2,⟨some 21,.val (.bin .num .geq (.t 19) (.t 20)),none⟩,ja 22 21,jf 23 1 9 22,jp 24 23 22,jh 25 3 22,Ug 26 24 25 22,ji 27 22 26,ja 28 27,jf 29 0 9 28,jp 30 29 28,jf 31 1 9 28,jp 32 31 28,Ug 33 30 32 28,ji 34 28 33,yc 35 98 17 34 6]
def Uk:IL:=[ja 36 0,ja 37 8,ju 38 37 0,ja 39 38,jm 40 0 9 39,ys 41 0 9 40 39,jw 42 1 39,jw 43 8 39,Fy 44 43 1 39,zb 45 2 42 44 39,jm 46 1 45 39,zd 47 46 39,NZ 48 41 47 39,jq 49 39 48,yc 50 98 36 49 11]
def VJ:IL:=[jn 51 12 1,ja 12 51]
def Qa6:RC:=.gho (.drop 9) (jQ VH (.seq (jX 13 0) (.seq (.block 1 (jQ VI (jQ GV (.draw Uk)))) (.reg VJ))))
def M5:RC:=jQ VG (.block 0 (.loop Qa6))
def M6:List RR:=[]
theorem Qa7:CT 153 52 M5 M6:=ck Tryz.func153 Tryz.ntmps153 (by decide +kernel)
abbrev Qa8:IL:=[ja 7 1,ja 8 2,jx 9 94 7 8,ja 6 9]
abbrev Qa9:IL:=[ja 10 0,ja 11 6,ju 12 11 0,ja 13 6,⟨some 14,.callF (.f 98) [(.t 10),(.t 12),(.t 13)],none⟩]
abbrev Qba:RC:=jQ Qa8 (.reg Qa9)
abbrev Qbb:List RR:=[]
theorem M7:CT 154 15 Qba Qbb:=ck Tryz.func154 Tryz.ntmps154 (by decide +kernel)
abbrev Qbc:IL:=[jg 3 3 0,jg 4 4 1,jg 5 5 2,je 6]
abbrev Qbd:IL:=[jj 7 5 4,js 8 149 7,NY 9 195 3 5,ye 10 133 8 9,ja 6 10]
abbrev Qbe:RC:=jQ Qbc (jQ Qbd (.ret))
abbrev Qbf:List RR:=[.tmp 6]
theorem Qbg:CT 155 11 Qbe Qbf:=ck Tryz.func155 Tryz.ntmps155 (by decide +kernel)
abbrev Qbh:IL:=[je 2]
abbrev Qbi:IL:=[ja 3 0,js 4 137 3,ja 5 4,jh 6 0 5,HB 7 135 6 5,yx 8 7 5,ji 9 5 8,ja 2 9]
abbrev Qbj:RC:=jQ Qbh (jQ Qbi (.ret))
abbrev Qbk:List RR:=[.tmp 2]
theorem Qbl:CT 156 10 Qbj Qbk:=ck Tryz.func156 Tryz.ntmps156 (by decide +kernel)
abbrev Qbm:IL:=[jg 3 3 1,je 4]
abbrev Qbn:IL:=[ja 5 0,zu 6 184 3,ye 7 183 5 6,ja 4 7]
abbrev Qbo:RC:=jQ Qbm (jQ Qbn (.ret))
abbrev Qbp:List RR:=[.tmp 4]
theorem Qbq:CT 142 8 Qbo Qbp:=ck Tryz.func142 Tryz.ntmps142 (by decide +kernel)
abbrev Qbr:IL:=[jd 4 0]
abbrev Qbs:IL:=[ja 6 0,jk 7 1 6,jd 8 0]
abbrev Qbt:IL:=[jr 9 8 7]
abbrev Qbu:IL:=[ja 10 8,ja 5 10]
abbrev Qbv:IL:=[ja 11 1,ja 12 0,ja 13 5,jl 14 8 12 13,jj 15 8 14,zv 16 11 15]
abbrev Qbw:IL:=[ja 17 5,ja 4 17]
abbrev Qbx:IL:=[jn 18 8 1,ja 8 18]
abbrev Qby:RC:=jQ Qbt (.seq (jX 9 0) (.seq (.block 1 (jQ Qbu (jQ Qbv (.cond (.t 16) (jQ Qbw (.ret)) (.skip))))) (.reg Qbx)))
abbrev Qbz:IL:=[jd 4 (-1)]
abbrev QbA:RC:=jQ Qbr (.seq (jQ Qbs (.block 0 (.loop Qby))) (jQ Qbz (.ret)))
abbrev QbB:List RR:=[.tmp 4]
theorem QbC:CT 159 19 QbA QbB:=ck Tryz.func159 Tryz.ntmps159 (by decide +kernel)
abbrev QbD:IL:=[jd 4 0]
abbrev QbE:IL:=[ja 6 0,jk 7 1 6,jd 8 0]
abbrev QbF:IL:=[jr 9 8 7]
abbrev QbG:IL:=[ja 10 8,ja 5 10]
abbrev QbH:IL:=[ja 11 1,ja 12 0,ja 13 5,jl 14 1 12 13,jc 15 14,zv 16 11 15]
abbrev QbI:IL:=[ja 17 5,ja 4 17]
abbrev QbJ:IL:=[jn 18 8 1,ja 8 18]
abbrev QbK:RC:=jQ QbF (.seq (jX 9 0) (.seq (.block 1 (jQ QbG (jQ QbH (.cond (.t 16) (jQ QbI (.ret)) (.skip))))) (.reg QbJ)))
abbrev QbL:IL:=[jd 4 (-1)]
abbrev QbM:RC:=jQ QbD (.seq (jQ QbE (.block 0 (.loop QbK))) (jQ QbL (.ret)))
abbrev QbN:List RR:=[.tmp 4]
theorem QbO:CT 178 19 QbM QbN:=ck Tryz.func178 Tryz.ntmps178 (by decide +kernel)
abbrev QbP:IL:=[jg 2 2 0,je 3]
abbrev QbQ:IL:=[jb 4 0 2,jc 5 4,jc 6 1,yf 7 5 6,ja 3 7]
abbrev QbR:RC:=jQ QbP (jQ QbQ (.ret))
abbrev QbS:List RR:=[.tmp 3]
theorem QbT:CT 188 8 QbR QbS:=ck Tryz.func188 Tryz.ntmps188 (by decide +kernel)
abbrev QbU:IL:=[je 2]
abbrev QbV:IL:=[ja 5 0,⟨some 6,.call (.f 134) [(.t 5),(.c (.str [46]))],none⟩,jk 7 1 6,jd 8 0]
abbrev QbW:IL:=[jr 9 8 7]
abbrev QbX:IL:=[jl 10 1 6 8,jc 11 10,ja 4 11]
abbrev QbY:IL:=[ja 12 4,js 13 137 12,jy 14 13]
abbrev QbZ:IL:=[je 2]
abbrev Qb0:IL:=[jn 15 8 1,ja 8 15]
abbrev Qb1:RC:=jQ QbW (.seq (jX 9 0) (.seq (.block 1 (jQ QbX (jQ QbY (.cond (.t 14) (jQ QbZ (.ret)) (.skip))))) (.reg Qb0)))
abbrev Qb2:IL:=[ja 16 0,jk 17 0 16,Fw 18 17 120,ja 2 18]
abbrev Qb3:RC:=jQ QbU (.seq (jQ QbV (.block 0 (.loop Qb1))) (jQ Qb2 (.ret)))
abbrev Qb4:List RR:=[.tmp 2]
theorem Qb5:CT 132 19 Qb3 Qb4:=ck Tryz.func132 Tryz.ntmps132 (by decide +kernel)
abbrev Qb6:IL:=[yp 4]
abbrev Qb7:IL:=[ja 5 0,ja 6 1,⟨some 7,.call (.f 179) [(.t 5),(.t 6),(.c (.int .i64 0)),(.c (.int .i64 (-1)))],none⟩,ja 4 7]
abbrev Qb8:RC:=jQ Qb6 (jQ Qb7 (.ret))
abbrev Qb9:List RR:=[.tmp 4]
theorem Qca:CT 134 8 Qb8 Qb9:=ck Tryz.func134 Tryz.ntmps134 (by decide +kernel)
abbrev Qcb:IL:=[je 2]
abbrev Qcc:IL:=[ja 3 0]
abbrev Qcd:IL:=[⟨some 5,.val (.bin .str .eql (.t 3) (.c (.str [109,101,115,115,97,103,101]))),none⟩,ja 4 5]
abbrev Qce:IL:=[⟨some 6,.val (.bin .str .eql (.t 3) (.c (.str [101,110,117,109]))),none⟩,ja 4 6]
abbrev Qcf:IL:=[⟨some 7,.val (.bin .str .eql (.t 3) (.c (.str [115,101,114,118,105,99,101]))),none⟩,ja 4 7]
abbrev Qcg:IL:=[⟨some 8,.val (.bin .str .eql (.t 3) (.c (.str [117,110,105,111,110]))),none⟩,ja 4 8]
abbrev Qch:IL:=[⟨some 9,.val (.bin .str .eql (.t 3) (.c (.str [109,97,112]))),none⟩,ja 4 9]
abbrev Qci:IL:=[⟨some 10,.val (.bin .str .eql (.t 3) (.c (.str [108,105,115,116]))),none⟩,ja 4 10]
abbrev Qcj:IL:=[⟨some 11,.val (.bin .str .eql (.t 3) (.c (.str [114,101,113,117,105,114,101,100]))),none⟩,ja 4 11]
abbrev Qck:IL:=[⟨some 12,.val (.bin .str .eql (.t 3) (.c (.str [111,112,116,105,111,110,97,108]))),none⟩,ja 4 12]
abbrev Tn:IL:=[⟨some 13,.val (.bin .str .eql (.t 3) (.c (.str [112,108,97,105,110]))),none⟩,ja 4 13]
abbrev To:IL:=[⟨some 14,.val (.bin .str .eql (.t 3) (.c (.str [100,101,102,97,117,108,116]))),none⟩,ja 4 14]
abbrev Tp:IL:=[⟨some 15,.val (.bin .str .eql (.t 3) (.c (.str [114,101,115,101,114,118,101,100]))),none⟩,ja 4 15]
abbrev Tq:IL:=[yb 2]
abbrev Tr:IL:=[⟨some 17,.val (.bin .str .eql (.t 3) (.c (.str [105,109,112,111,114,116]))),none⟩,ja 16 17]
abbrev Ts:IL:=[⟨some 18,.val (.bin .str .eql (.t 3) (.c (.str [115,112,97,99,101]))),none⟩,ja 16 18]
abbrev Tt:IL:=[⟨some 19,.val (.bin .str .eql (.t 3) (.c (.str [114,112,99]))),none⟩,ja 16 19]
abbrev Tu:IL:=[⟨some 20,.val (.bin .str .eql (.t 3) (.c (.str [115,116,114,101,97,109]))),none⟩,ja 16 20]
abbrev Tv:IL:=[⟨some 21,.val (.bin .str .eql (.t 3) (.c (.str [114,101,116,117,114,110,115]))),none⟩,ja 16 21]
abbrev Tw:IL:=[⟨some 22,.val (.bin .str .eql (.t 3) (.c (.str [111,112,101,110]))),none⟩,ja 16 22]
abbrev Tx:IL:=[⟨some 23,.val (.bin .str .eql (.t 3) (.c (.str [116,114,117,101]))),none⟩,ja 16 23]
abbrev Tz:IL:=[⟨some 24,.val (.bin .str .eql (.t 3) (.c (.str [102,97,108,115,101]))),none⟩,ja 16 24]
abbrev TA:IL:=[⟨some 25,.val (.bin .str .eql (.t 3) (.c (.str [110,97,110]))),none⟩,ja 16 25]
abbrev TB:IL:=[⟨some 26,.val (.bin .str .eql (.t 3) (.c (.str [105,110,102]))),none⟩,ja 16 26]
abbrev TC:IL:=[yb 2]
abbrev TD:IL:=[je 2]
abbrev Qcl:RC:=jQ Qcb (.seq (jQ Qcc (.block 0 (.seq (jQ Qcd (.cond (.t 4) (.skip) (jQ Qce (.cond (.t 4) (.skip) (jQ Qcf (.cond (.t 4) (.skip) (jQ Qcg (.cond (.t 4) (.skip) (jQ Qch (.cond (.t 4) (.skip) (jQ Qci (.cond (.t 4) (.skip) (jQ Qcj (.cond (.t 4) (.skip) (jQ Qck (.cond (.t 4) (.skip) (jQ Tn (.cond (.t 4) (.skip) (jQ To (.cond (.t 4) (.skip) (.reg Tp))))))))))))))))))))) (.cond (.t 4) (jQ Tq (.ret)) (.seq (jQ Tr (.cond (.t 16) (.skip) (jQ Ts (.cond (.t 16) (.skip) (jQ Tt (.cond (.t 16) (.skip) (jQ Tu (.cond (.t 16) (.skip) (jQ Tv (.cond (.t 16) (.skip) (jQ Tw (.cond (.t 16) (.skip) (jQ Tx (.cond (.t 16) (.skip) (jQ Tz (.cond (.t 16) (.skip) (jQ TA (.cond (.t 16) (.skip) (.reg TB))))))))))))))))))) (.cond (.t 16) (jQ TC (.ret)) (.skip))))))) (jQ TD (.ret)))
abbrev Qcm:List RR:=[.tmp 2]
theorem M8:CT 135 27 Qcl Qcm:=ck Tryz.func135 Tryz.ntmps135 (by decide +kernel)
abbrev Qcn:IL:=[jg 3 3 0,jg 4 4 1,jg 5 5 2,je 6]
abbrev Qco:IL:=[jc 7 3,jc 8 4,Fz 9 16 7 8,⟨some 10,.val (.mkfn (.func 220) [] [(.t 5),(.t 3),(.t 4)]),none⟩,ye 11 219 9 10,ja 6 11]
abbrev Qcp:RC:=jQ Qcn (jQ Qco (.ret))
abbrev Qcq:List RR:=[.tmp 6]
theorem Qcr:CT 189 12 Qcp Qcq:=ck Tryz.func189 Tryz.ntmps189 (by decide +kernel)
abbrev Qcs:IL:=[je 4]
abbrev Qct:IL:=[ja 5 0,yo 6 5 5]
abbrev Qcu:IL:=[ja 7 1,ju 8 7 0,ja 4 8]
abbrev Qcv:IL:=[ja 9 1,yd 10 9 1,ja 11 10,jh 12 1 11,yn 13 12 7 11,ji 14 11 13,ja 15 14,jh 16 1 15,zw 17 16 6 15,ji 18 15 17,ja 4 18]
abbrev Qcw:RC:=jQ Qcs (.seq (jQ Qct (.cond (.t 6) (jQ Qcu (.ret)) (.skip))) (jQ Qcv (.ret)))
abbrev Qcx:List RR:=[.tmp 4]
theorem Qcy:CT 191 19 Qcw Qcx:=ck Tryz.func191 Tryz.ntmps191 (by decide +kernel)
abbrev Qcz:IL:=[jg 2 2 0,jg 3 3 1,je 4]
abbrev QcA:IL:=[jb 10 4 3,jb 11 0 10,jc 12 11,yd 13 12 1,ja 14 13,jf 15 4 3 14,jf 16 0 15 14,jp 17 16 14,yn 18 17 8 14,ji 19 14 18,ja 9 19]
abbrev QcB:IL:=[jb 20 4 3,jb 21 1 20,jc 22 21,N0 23 22,ja 4 23]
abbrev QcC:IL:=[jb 25 4 3,jb 26 0 25,jc 27 26,ju 28 27 9,ja 24 28]
abbrev QcD:IL:=[jj 30 3 2,jb 31 4 3,jb 32 1 31,jc 33 32,jx 34 221 30 33,ja 29 34,jz 35 29 0,jz 36 29 1,zm 5 5,jo 5 5 35,ja 6 36]
abbrev QcE:IL:=[ja 37 6,ja 4 37]
abbrev QcF:IL:=[jb 39 4 3,jb 40 0 39,jc 41 40,ju 42 41 10,ja 38 42]
abbrev QcG:IL:=[jj 44 3 2,jb 45 4 3,jb 46 1 45,jc 47 46,jx 48 148 44 47,ja 43 48,jz 49 43 0,jz 50 43 1,ze 7 7,jo 5 7 49,ja 8 50]
abbrev QcH:IL:=[ja 51 8,ja 52 51,jf 53 2 3 52,jp 54 53 52,zw 55 54 3 52,ji 56 52 55,ja 4 56]
abbrev QcI:IL:=[je 4]
abbrev QcJ:RC:=jQ Qcz (.seq (.block 0 (jQ QcA (.cond (.t 9) (jQ QcB (.ret)) (jQ QcC (.cond (.t 24) (jQ QcD (jQ QcE (.ret))) (jQ QcF (.cond (.t 38) (jQ QcG (jQ QcH (.ret))) (.skip)))))))) (jQ QcI (.ret)))
abbrev QcK:List RR:=[.tmp 4]
theorem QcL:CT 192 57 QcJ QcK:=ck Tryz.func192 Tryz.ntmps192 (by decide +kernel)
abbrev QcM:IL:=[jg 2 2 0,je 4]
abbrev QcN:IL:=[jb 7 1 2,jc 8 7,ja 9 1,jl 10 16 8 9,jj 11 16 10,zt 5 5,jo 16 5 11]
abbrev QcO:IL:=[jb 12 6 5,jc 13 12,N0 14 13]
abbrev QcP:IL:=[yb 4]
abbrev QcQ:IL:=[jb 15 2 5,jc 16 15,yo 17 16 2,ja 18 17,jm 19 6 5 18,jv 20 19 18,zg 21 156 20 18,zf 22 21 18,jq 23 18 22,ja 24 23,jm 25 1 2 24,jv 26 25 24,⟨some 27,.val (.mkfn (.func 222) [] [(.t 5)]),(some (24,false))⟩,⟨some 28,.callF (.f 219) [(.t 26),(.t 27)],(some (24,false))⟩,jq 29 24 28]
abbrev QcR:IL:=[je 4]
abbrev QcS:IL:=[jb 30 1 2,jc 31 30,ja 32 1,Fz 33 16 31 32,zu 34 223 5,ye 35 219 33 34,ja 6 35]
abbrev QcT:IL:=[ja 36 6,jy 37 36,ja 38 37,jm 39 1 2 38,ys 40 0 2 39 38,jw 41 1 38,Fy 42 41 1 38,zb 43 16 40 42 38,jm 44 6 43 38,zd 45 44 38,jm 46 6 5 38,ys 47 0 5 46 38,⟨some 48,.val (.bin .str .eql (.t 45) (.t 47)),(some (38,false))⟩,jq 49 38 48,ja 4 49]
abbrev QcU:RC:=jQ QcM (jQ QcN (.seq (jQ QcO (.cond (.t 14) (jQ QcP (.ret)) (.skip))) (.seq (jQ QcQ (.cond (.t 29) (jQ QcR (.ret)) (.skip))) (jQ QcS (jD QcT (.ret))))))
abbrev QcV:List RR:=[.tmp 4]
theorem QcW:CT 193 50 QcU QcV:=ck Tryz.func193 Tryz.ntmps193 (by decide +kernel)
abbrev QcX:IL:=[jg 2 2 0,jg 3 3 1,je 4]
abbrev QcY:IL:=[jb 7 7 3,jc 8 7,jy 9 8]
abbrev QcZ:IL:=[jb 10 8 3,jj 11 7 10,js 12 224 11,ja 4 12]
abbrev Qc0:IL:=[jb 13 2 3,jt 14 0 3 13,yo 15 14 2,ja 16 15,jm 17 6 3 16,ys 18 0 3 17 16,⟨some 19,.val (.bin .str .neq (.t 18) (.c (.str []))),(some (16,false))⟩,jq 20 16 19,ja 21 20,jm 22 4 3 21,jm 23 0 22 21,ys 24 0 3 23 21,jm 25 8 3 21,N1 26 0 3 7 25 21,zx 27 218 24 26 21,zf 28 27 21,jq 29 21 28,ja 30 29,jm 31 8 3 30,N1 32 0 3 7 31 30,zg 33 225 32 30,⟨some 34,.val (.fld 1 none (.t 33)),(some (30,false))⟩,jm 35 8 3 30,jm 36 1 35 30,ys 37 0 3 36 30,zj 38 34 37 30,jq 39 30 38]
abbrev Qc1:IL:=[je 4]
abbrev Qc2:IL:=[jb 40 4 3,jb 41 0 40,jc 42 41,yo 43 42 9]
abbrev Qc3:IL:=[yb 4]
abbrev Qc4:IL:=[jj 45 3 2,jb 46 4 3,jb 47 1 46,jc 48 47,jx 49 221 45 48,ja 44 49,jz 50 44 0,jz 51 44 1,zm 5 5,jo 5 5 50,ja 6 51]
abbrev Qc5:IL:=[ja 52 6,ja 53 52,jf 54 2 5 53,jp 55 54 53,⟨some 56,.val (.mkfn (.func 226) [] [(.t 3)]),(some (53,true))⟩,⟨some 57,.callF (.f 138) [(.t 55),(.t 56)],(some (53,true))⟩,ji 58 53 57,ja 4 58]
abbrev Qc6:RC:=jQ QcX (.seq (jQ QcY (.cond (.t 9) (jQ QcZ (.ret)) (.skip))) (.seq (jD Qc0 (.cond (.t 39) (jQ Qc1 (.ret)) (.skip))) (.seq (jQ Qc2 (.cond (.t 43) (jQ Qc3 (.ret)) (.skip))) (jQ Qc4 (jQ Qc5 (.ret))))))
abbrev Qc7:List RR:=[.tmp 4]
theorem Qc8:CT 194 59 Qc6 Qc7:=ck Tryz.func194 Tryz.ntmps194 (by decide +kernel)
abbrev Qog:IL:=[jd 4 0]
abbrev Qoh:IL:=[ja 9 0,jk 10 1 9,yr 11 10 8]
abbrev Qoi:IL:=[jd 4 3]
abbrev Qoj:IL:=[zn 5]
abbrev Qok:IL:=[ja 12 0,jk 13 1 12,jd 14 0]
abbrev Qol:IL:=[jr 15 14 13]
abbrev Qom:IL:=[ja 16 14,jl 17 8 12 14,jj 18 8 17,⟨some 7,.allocN 7 [.str [],.int .i64 0,.int .u64 0,.str [],.nils,.nils,.nils,.nils],none⟩,ja 6 16,jo 8 7 18]
abbrev Qon:IL:=[jj 19 8 7,ja 20 1,ja 21 5,ja 22 6,yr 23 22 0,⟨some 24,.call (.f 145) [(.t 19),(.t 20),(.t 21),(.t 23)],none⟩,ja 8 24]
abbrev Qoo:IL:=[ja 25 8,yo 26 25 0]
abbrev Qop:IL:=[ja 27 8,ja 4 27]
abbrev Qc9:IL:=[jb 28 0 7,jc 29 28,ja 5 29]
abbrev Qda:IL:=[jn 30 14 1,ja 14 30]
abbrev Qoq:RC:=.gho (.drop 7) (jQ Qol (.seq (jX 15 0) (.seq (.block 1 (jQ Qom (.seq (jQ Qon (jQ Qoo (.cond (.t 26) (jQ Qop (.ret)) (.skip)))) (.reg Qc9)))) (.reg Qda))))
abbrev Qdb:IL:=[jd 4 0]
abbrev r94:RC:=jQ Qog (.seq (jQ Qoh (.cond (.t 11) (jQ Qoi (.ret)) (.skip))) (jQ Qoj (.seq (jQ Qok (.block 0 (.loop Qoq))) (jQ Qdb (.ret)))))
abbrev o94:List RR:=[.tmp 4]
theorem k94:CT 94 31 r94 o94:=ck Tryz.func94 Tryz.ntmps94 (by decide +kernel)
abbrev Qdd:IL:=[je 2]
abbrev Qde:IL:=[ja 6 0,⟨some 7,.rngs 7 (.t 6),none⟩]
abbrev Qdf:IL:=[⟨some 8,.nxts (.t 7),none⟩,jz 9 8 0]
abbrev Qdg:IL:=[jz 10 8 1,jz 11 8 2,ja 3 10,ja 4 11]
abbrev Qdh:IL:=[ja 12 4,js 13 181 12,ja 5 13]
abbrev Qdi:IL:=[ja 14 5,ju 15 14 0,ja 16 15,jw 17 3 16,zl 18 17 0 16,jw 19 18 16,jh 20 5 19,zw 21 20 1 19,zo 22 19 21 16,jw 23 22 16,jh 24 5 23,zw 25 24 2 23,zo 26 23 25 16,jq 27 16 26]
abbrev Qdj:IL:=[je 2]
abbrev Qdk:RC:=jQ Qdf (.seq (jX 9 0) (.block 1 (jQ Qdg (jQ Qdh (jQ Qdi (.cond (.t 27) (jQ Qdj (.ret)) (.skip)))))))
abbrev Qdl:IL:=[ja 28 0,jk 29 0 28,yd 30 29 1,ja 31 30,jh 32 0 31,ya 33 0 32 31,yn 34 33 40 31,ji 35 31 34,ja 2 35]
abbrev Qdm:RC:=jQ Qdd (.seq (jQ Qde (.block 0 (.loop Qdk))) (jQ Qdl (.ret)))
abbrev Qdn:List RR:=[.tmp 2]
theorem Qdo:CT 137 36 Qdm Qdn:=ck Tryz.func137 Tryz.ntmps137 (by decide +kernel)
abbrev Qdp:IL:=[je 4]
abbrev Qdq:IL:=[ja 5 0,ja 6 1,ye 7 215 5 6,yd 8 7 0,ja 4 8]
abbrev Qdr:RC:=jQ Qdp (jQ Qdq (.ret))
abbrev Qds:List RR:=[.tmp 4]
theorem Qdt:CT 183 9 Qdr Qds:=ck Tryz.func183 Tryz.ntmps183 (by decide +kernel)
abbrev Qdu:IL:=[yp 8]
abbrev Qdv:IL:=[ja 12 3,ju 13 12 0]
abbrev Qdw:IL:=[yp 8]
abbrev Qdx:IL:=[ja 14 1,N0 15 14]
abbrev Qdy:IL:=[ja 16 0,ja 17 3,jx 18 212 16 17,ja 8 18]
abbrev Qdz:IL:=[ja 19 3,yl 20 19 0]
abbrev QdA:IL:=[ja 21 0,ja 22 1,jx 23 213 21 22,jn 24 23 1,ja 3 24]
abbrev QdB:IL:=[ja 25 3,ja 26 0,jk 27 0 26,jn 28 27 1,⟨some 29,.val (.mnx false (.t 25) (.t 28)),none⟩,ja 3 29]
abbrev QdC:IL:=[ja 30 3,⟨some 31,.mk 31 9 1 16 [.str []] (.t 30) (.t 30),none⟩,ja 9 31]
abbrev QdD:IL:=[ja 32 3,Uf 33 32 1,ja 3 33]
abbrev TE:IL:=[jd 10 0]
abbrev TF:IL:=[ja 34 10,ja 35 3,jr 36 34 35]
abbrev TG:IL:=[ja 37 0,ja 38 1,jx 39 214 37 38,ja 11 39]
abbrev TH:IL:=[ja 40 11,yl 41 40 0]
abbrev TI:IL:=[ja 42 9,ja 43 10,ja 44 0,ja 45 11,ja 46 2,zp 47 45 46,⟨some 48,.val (.slc none (.t 44) none (some (.t 47)) none),none⟩,jl 49 1 42 43,jo 1 49 48]
abbrev TJ:IL:=[ja 50 0,ja 51 11,ja 52 1,jk 53 0 52,zp 54 51 53,N2 55 50 54,ja 0 55]
abbrev TK:IL:=[ja 56 10,jn 57 56 1,ja 10 57]
abbrev QdE:RC:=.seq (jQ TF (jX 36 0)) (.block 1 (jQ TG (.seq (jQ TH (.cond (.t 41) (.exit 0) (.skip))) (jQ TI (jQ TJ (.reg TK))))))
abbrev TL:IL:=[ja 58 9,ja 59 10,ja 60 0,jl 61 1 58 59,jo 1 61 60]
abbrev TM:IL:=[ja 62 9,ja 63 10,jn 64 63 1,Fz 65 1 62 64,ja 8 65]
abbrev QdF:RC:=jQ Qdu (.seq (jQ Qdv (.cond (.t 13) (jQ Qdw (.ret)) (.skip))) (.seq (jQ Qdx (.cond (.t 15) (jQ Qdy (.ret)) (.skip))) (.seq (jQ Qdz (.cond (.t 20) (.reg QdA) (.skip))) (jQ QdB (jQ QdC (jQ QdD (jQ TE (.seq (.block 0 (.loop QdE)) (jQ TL (jQ TM (.ret)))))))))))
abbrev QdG:List RR:=[.tmp 8]
theorem QdH:CT 179 66 QdF QdG:=ck Tryz.func179 Tryz.ntmps179 (by decide +kernel)
abbrev QdI:IL:=[je 4]
abbrev QdJ:IL:=[ja 5 0,ja 6 1,ye 7 240 5 6,yd 8 7 0,ja 4 8]
abbrev QdK:RC:=jQ QdI (jQ QdJ (.ret))
abbrev QdL:List RR:=[.tmp 4]
theorem QdM:CT 219 9 QdK QdL:=ck Tryz.func219 Tryz.ntmps219 (by decide +kernel)
abbrev QdN:IL:=[jg 1 1 0,je 2]
abbrev QdO:IL:=[jb 3 0 1,jc 4 3,ju 5 4 0,ja 6 5,jf 7 1 1 6,jp 8 7 6,⟨some 9,.val (.bin .num .eql (.t 8) (.c (.int .u64 0))),(some (6,true))⟩,ji 10 6 9,ja 11 10,jf 12 2 1 11,jp 13 12 11,⟨some 14,.val (.bin .str .eql (.t 13) (.c (.str []))),(some (11,true))⟩,ji 15 11 14,ja 16 15,jf 17 3 1 16,jp 18 17 16,ya 19 1 18 16,jf 20 4 1 16,jp 21 20 16,ya 22 1 21 16,zi 23 19 22 16,jf 24 5 1 16,jp 25 24 16,ya 26 1 25 16,zi 27 23 26 16,jf 28 6 1 16,jp 29 28 16,ya 30 1 29 16,zi 31 27 30 16,za 32 31 0 16,ji 33 16 32,ja 2 33]
abbrev QdP:RC:=jQ QdN (jQ QdO (.ret))
abbrev QdQ:List RR:=[.tmp 2]
theorem QdR:CT 224 34 QdP QdQ:=ck Tryz.func224 Tryz.ntmps224 (by decide +kernel)
abbrev QdS:IL:=[jd 2 0]
abbrev QdT:IL:=[ja 4 0,⟨some 5,.val (.bin .num .geq (.t 4) (.c (.int .i32 97))),none⟩,ja 6 5,jh 7 0 6,⟨some 8,.val (.bin .num .leq (.t 7) (.c (.int .i32 122))),(some (6,true))⟩,ji 9 6 8,ja 3 9]
abbrev QdU:IL:=[jd 2 1]
abbrev QdV:IL:=[ja 11 0,⟨some 12,.val (.bin .num .geq (.t 11) (.c (.int .i32 65))),none⟩,ja 13 12,jh 14 0 13,⟨some 15,.val (.bin .num .leq (.t 14) (.c (.int .i32 90))),(some (13,true))⟩,ji 16 13 15,ja 10 16]
abbrev QdW:IL:=[jd 2 2]
abbrev QdX:IL:=[ja 18 0,⟨some 19,.val (.bin .num .geq (.t 18) (.c (.int .i32 48))),none⟩,ja 20 19,jh 21 0 20,⟨some 22,.val (.bin .num .leq (.t 21) (.c (.int .i32 57))),(some (20,true))⟩,ji 23 20 22,ja 17 23]
abbrev QdY:IL:=[jd 2 3]
abbrev QdZ:IL:=[ja 25 0,⟨some 26,.val (.bin .num .eql (.t 25) (.c (.int .i32 95))),none⟩,ja 24 26]
abbrev Qd0:IL:=[jd 2 4]
abbrev Qd1:IL:=[jd 2 0]
abbrev Qd2:RC:=jQ QdS (.seq (.block 0 (jQ QdT (.cond (.t 3) (jQ QdU (.ret)) (jQ QdV (.cond (.t 10) (jQ QdW (.ret)) (jQ QdX (.cond (.t 17) (jQ QdY (.ret)) (jQ QdZ (.cond (.t 24) (jQ Qd0 (.ret)) (.skip)))))))))) (jQ Qd1 (.ret)))
abbrev Qd3:List RR:=[.tmp 2]
theorem Qd4:CT 181 27 Qd2 Qd3:=ck Tryz.func181 Tryz.ntmps181 (by decide +kernel)
abbrev Qd5:IL:=[jd 4 0]
abbrev Qd6:IL:=[ja 6 0,jk 7 1 6,jd 8 0]
abbrev Qd7:IL:=[jr 9 8 7]
abbrev Qd8:IL:=[ja 10 8,ja 5 10]
abbrev Qd9:IL:=[ja 11 1,ja 12 0,ja 13 5,jl 14 2 12 13,jj 15 2 14,zv 16 11 15]
abbrev Qea:IL:=[ja 17 5,ja 4 17]
abbrev Qeb:IL:=[jn 18 8 1,ja 8 18]
abbrev Qec:RC:=jQ Qd7 (.seq (jX 9 0) (.seq (.block 1 (jQ Qd8 (jQ Qd9 (.cond (.t 16) (jQ Qea (.ret)) (.skip))))) (.reg Qeb)))
abbrev Qed:IL:=[jd 4 (-1)]
abbrev Qee:RC:=jQ Qd5 (.seq (jQ Qd6 (.block 0 (.loop Qec))) (jQ Qed (.ret)))
abbrev Qef:List RR:=[.tmp 4]
theorem Qeg:CT 215 19 Qee Qef:=ck Tryz.func215 Tryz.ntmps215 (by decide +kernel)
abbrev Qeh:IL:=[jd 4 0]
abbrev Qei:IL:=[ja 7 1,jk 8 0 7,ju 9 8 0]
abbrev Qej:IL:=[ja 10 0,js 11 233 10,jn 12 11 1,ja 4 12]
abbrev Qek:IL:=[ja 13 1,jk 14 0 13,ju 15 14 1]
abbrev Qel:IL:=[ja 16 0,ja 17 1,⟨some 18,.val (.idx (.t 17) (.c (.int .i64 0))),none⟩,⟨some 19,.xb true 235 (.t 16) (.t 18),none⟩,ja 4 19]
abbrev Qem:IL:=[jd 5 0]
abbrev Qen:IL:=[ja 20 0,ja 21 1,jx 22 214 20 21,ja 6 22]
abbrev Qeo:IL:=[ja 23 6,ju 24 23 (-1)]
abbrev Qep:IL:=[ja 25 5,ja 4 25]
abbrev Qeq:IL:=[ja 26 5,jn 27 26 1,ja 5 27]
abbrev TN:IL:=[ja 28 0,ja 29 6,ja 30 1,jk 31 0 30,zp 32 29 31,N2 33 28 32,ja 0 33]
abbrev Qer:RC:=.block 1 (jQ Qen (.seq (jQ Qeo (.cond (.t 24) (jQ Qep (.ret)) (.skip))) (jQ Qeq (.reg TN))))
abbrev Qes:RC:=jQ Qeh (.seq (jQ Qei (.cond (.t 9) (jQ Qej (.ret)) (.skip))) (.seq (jQ Qek (.cond (.t 15) (jQ Qel (.ret)) (.skip))) (jQ Qem (.block 0 (.loop Qer)))))
abbrev Qet:List RR:=[.tmp 4]
theorem Qeu:CT 213 34 Qes Qet:=ck Tryz.func213 Tryz.ntmps213 (by decide +kernel)
abbrev Qev:IL:=[jd 4 0]
abbrev Qew:IL:=[ja 6 0,jk 7 1 6,jd 8 0]
abbrev Qex:IL:=[jr 9 8 7]
abbrev Qey:IL:=[ja 10 8,ja 5 10]
abbrev Qez:IL:=[ja 11 1,ja 12 0,ja 13 5,jl 14 16 12 13,jj 15 16 14,zv 16 11 15]
abbrev QeA:IL:=[ja 17 5,ja 4 17]
abbrev QeB:IL:=[jn 18 8 1,ja 8 18]
abbrev QeC:RC:=jQ Qex (.seq (jX 9 0) (.seq (.block 1 (jQ Qey (jQ Qez (.cond (.t 16) (jQ QeA (.ret)) (.skip))))) (.reg QeB)))
abbrev QeD:IL:=[jd 4 (-1)]
abbrev QeE:RC:=jQ Qev (.seq (jQ Qew (.block 0 (.loop QeC))) (jQ QeD (.ret)))
abbrev QeF:List RR:=[.tmp 4]
theorem QeG:CT 240 19 QeE QeF:=ck Tryz.func240 Tryz.ntmps240 (by decide +kernel)
def Qt7:IL:=[jg 1 1 0,HA 2 2,jd 3 0]
def Qt8:IL:=[jj 13 3 1,js 14 10 13,jy 15 14]
def Qt9:IL:=[⟨some 16,.val (.build [.nils,.nils] []),none⟩,jo 2 2 16,jd 3 1]
def Qua:IL:=[HA 4 4]
def Qub:IL:=[jd 5 0]
def Quc:IL:=[ja 17 5,jb 18 0 1,jc 19 18,jk 20 1 19,jr 21 17 20]
def Qud:IL:=[jb 24 0 1,jc 25 24,ja 26 5,jl 27 5 25 26,jb 28 1 27,jc 29 28,ja 6 29]
def Que:IL:=[jb 30 0 1,jt 31 0 1 30,ja 32 5,jl 33 5 31 32,jb 34 0 33,yk 35 34,ja 36 6,js 37 16 36,jk 38 1 37,⟨some 39,.val (.build [.str [],.nils,.int .i64 0] [(0,1,(.t 35)),(2,1,(.t 38))]),none⟩,NV 7 7,yz 0 7 3 7 39]
def Quf:IL:=[jd 8 0]
def Qor:IL:=[ja 40 8,ja 41 6,jk 42 1 41,jr 43 40 42]
def Qos:IL:=[jb 46 1 7,jt 47 0 7 46,yj 48 0 1 3 1,ja 49 6,ja 50 8,GF 51 17 48 49 50,⟨some 52,.bsl 8 1 [.int .i64 0,.str [],.str [],.int .i64 0,.int .i64 0,.int .i64 0,.int .i64 0,.int .i64 0] [(0,8,(.t 51))],none⟩,yg 53 8 80 54 47 52,jb 54 1 7,yz 0 7 1 54 53]
def Qot:IL:=[ja 44 8,jn 45 44 1,ja 8 45]
def Qug:RC:=.seq (jQ Qor (jX 43 2)) (.seq (.block 3 (.draw Qos)) (.reg Qot))
def Qou:IL:=[jb 55 0 4,jc 56 55,jj 57 3 7,⟨some 58,.bsl 3 1 [.str [],.nils,.int .i64 0] [(0,3,(.t 57))],none⟩,yg 59 3 48 45 56 58,jb 60 0 4,jo 1 60 59]
def Quh:IL:=[ja 22 5,jn 23 22 1,ja 5 23]
def Qui:RC:=.gho (.drop 7) (.seq (jQ Quc (jX 21 0)) (.seq (.block 1 (jQ Qud (jD Que (.gho (.vecc 7 1 1100 8) (.seq (jQ Quf (.block 2 (.loop Qug))) (.gho (.pubc 7 1 1100) (.reg Qou))))))) (.reg Quh)))
def Qov:IL:=[jd 9 0]
def Qow:IL:=[ja 61 9,jb 62 1 1,jc 63 62,jk 64 1 63,jr 65 61 64]
def Qox:IL:=[jb 68 1 1,jt 69 0 1 68,ja 70 9,jl 71 5 69 70,jb 72 0 71,yk 73 72,jb 74 1 1,jt 75 0 1 74,ja 76 9,jl 77 5 75 76,jb 78 1 77,yk 79 78,⟨some 80,.lit0 2,none⟩,jb 81 1 1,jt 82 0 1 81,ja 83 9,jl 84 5 82 83,jb 85 3 84,yk 86 85,⟨some 87,.appe 2 16 87 (.t 80) (.t 86),none⟩,⟨some 88,.val (.build [.str [],.bool false,.nils,.nils,.nils] [(0,1,(.t 73)),(1,1,(.t 79)),(3,1,(.t 87))]),none⟩,zm 10 10,yz 0 10 5 10 88]
def Qoy:IL:=[jd 11 0]
def Qoz:IL:=[ja 89 11,jb 90 1 1,jc 91 90,ja 92 9,jl 93 5 91 92,jb 94 2 93,jc 95 94,jk 96 1 95,jr 97 89 96]
def QoA:IL:=[jb 100 1 1,jc 101 100,ja 102 9,jl 103 5 101 102,jb 104 2 103,jc 105 104,ja 106 11,jl 107 3 105 106,jj 108 3 107,FA 12 12,jo 3 12 108]
def QoB:IL:=[jb 109 2 10,jt 110 0 10 109,jb 111 0 12,jt 112 0 12 111,jb 113 1 12,jt 114 0 12 113,jb 115 2 12,jt 116 0 12 115,js 117 18 116,⟨some 118,.val (.build [.str [],.int .i64 0,.nils] [(0,1,(.t 112)),(1,1,(.t 114)),(2,1,(.t 117))]),none⟩,⟨some 119,.bsl 3 1 [.str [],.int .i64 0,.nils] [(0,3,(.t 118))],none⟩,yg 120 3 48 57 110 119,jb 121 2 10,yz 0 10 1 121 120]
def QoC:IL:=[ja 98 11,jn 99 98 1,ja 11 99]
def Quj:RC:=.gho (.drop 12) (.seq (jQ Qoz (jX 97 6)) (.seq (.block 7 (jQ QoA (.draw QoB))) (.reg QoC)))
def QoD:IL:=[jb 122 1 4,jc 123 122,jj 124 5 10,⟨some 125,.bsl 5 1 [.str [],.bool false,.nils,.nils,.nils] [(0,5,(.t 124))],none⟩,yg 126 5 96 50 123 125,jb 127 1 4,jo 1 127 126]
def QoE:IL:=[ja 66 9,jn 67 66 1,ja 9 67]
def Quk:RC:=.gho (.drop 12) (.gho (.drop 10) (.seq (jQ Qow (jX 65 4)) (.seq (.block 5 (jD Qox (.gho (.vecc 10 2 1102 3) (.seq (jQ Qoy (.block 6 (.loop Quj))) (.gho (.pubc 10 2 1102) (.reg QoD)))))) (.reg QoE))))
def QoF:IL:=[jj 128 2 4,jo 2 2 128,jd 3 0]
def r7:RC:=jQ Qt7 (.seq (jQ Qt8 (.cond (.t 15) (jQ Qt9 (.ret)) (.skip))) (jQ Qua (.gho (.vecc 4 0 1101 3) (.gho (.vecc 4 1 1103 5) (.seq (jQ Qub (.block 0 (.loop Qui))) (.seq (jQ Qov (.block 4 (.loop Quk))) (jQ QoF (.ret))))))))
def o7:List RR:=[.cell 2 (some 2),.tmp 3]
theorem k7:CT 7 129 r7 o7:=ck Tryz.func7 Tryz.ntmps7 (by decide +kernel)
abbrev Qul:IL:=[jg 2 2 0,jg 3 3 1,je 4]
abbrev Qum:IL:=[jb 8 0 2,jc 9 8,jk 10 1 9,jb 11 0 3,jc 12 11,jk 13 1 12,zq 14 10 13,ja 15 14,jf 16 1 2 15,jp 17 16 15,ya 18 1 17 15,jf 19 1 3 15,jp 20 19 15,ya 21 1 20 15,P5 22 18 21 15,ji 23 15 22,ja 5 23]
abbrev Qun:IL:=[jd 6 0]
abbrev Quo:IL:=[ja 24 5,ja 25 24,jh 26 6 25,jf 27 0 2 25,jp 28 27 25,ya 29 1 28 25,zk 30 26 29 25,ji 31 25 30]
abbrev Qup:IL:=[jb 34 0 2,jt 35 0 2 34,ja 36 6,jl 37 3 35 36,jb 38 0 37,yk 39 38,jb 40 0 3,jt 41 0 3 40,ja 42 6,jl 43 3 41 42,jb 44 0 43,yk 45 44,yf 46 39 45,ja 47 46,jf 48 0 2 47,yh 49 0 2 48 47,jh 50 6 47,yi 51 3 49 50 47,jf 52 2 51 47,yu 53 52 47,jf 54 0 3 47,yh 55 0 3 54 47,jh 56 6 47,yi 57 3 55 56 47,jf 58 2 57 47,yu 59 58 47,P5 60 53 59 47,ji 61 47 60,ja 62 61,jf 63 0 2 62,yh 64 0 2 63 62,jh 65 6 62,yi 66 3 64 65 62,jf 67 1 66 62,yu 68 67 62,jf 69 0 3 62,yh 70 0 3 69 62,jh 71 6 62,yi 72 3 70 71 62,jf 73 1 72 62,yu 74 73 62,Fs 75 19 68 74 62,ji 76 62 75,ja 5 76]
abbrev Quq:IL:=[ja 32 6,jn 33 32 1,ja 6 33]
abbrev Qur:RC:=.seq (jQ Quo (jX 31 0)) (.seq (.block 1 (.draw Qup)) (.reg Quq))
abbrev Qus:IL:=[jd 7 0]
abbrev Qut:IL:=[ja 77 5,ja 78 77,jh 79 7 78,jf 80 1 2 78,jp 81 80 78,ya 82 1 81 78,zk 83 79 82 78,ji 84 78 83]
abbrev Quu:IL:=[jb 87 1 2,jt 88 0 2 87,ja 89 7,jl 90 5 88 89,ym 91 5 90,jb 92 1 3,jt 93 0 3 92,ja 94 7,jl 95 5 93 94,ym 96 5 95,jx 97 20 91 96,ja 5 97]
abbrev Quv:IL:=[ja 85 7,jn 86 85 1,ja 7 86]
abbrev Quw:RC:=.seq (jQ Qut (jX 84 2)) (.seq (.block 3 (.draw Quu)) (.reg Quv))
abbrev QoG:IL:=[ja 98 5,ja 4 98]
abbrev r8:RC:=jQ Qul (jQ Qum (.seq (jQ Qun (.block 0 (.loop Qur))) (.seq (jQ Qus (.block 2 (.loop Quw))) (jQ QoG (.ret)))))
abbrev o8:List RR:=[.tmp 4]
theorem k8:CT 8 99 r8 o8:=ck Tryz.func8 Tryz.ntmps8 (by decide +kernel)
abbrev QoH:IL:=[jg 1 1 0,je 2]
abbrev QoI:IL:=[jj 3 3 1,js 4 23 3,jk 5 1 4,ju 6 5 0,ja 2 6]
abbrev r10:RC:=jQ QoH (jQ QoI (.ret))
abbrev XE:List RR:=[.tmp 2]
theorem GW:CT 10 7 r10 XE:=ck Tryz.func10 Tryz.ntmps10 (by decide +kernel)
abbrev QoJ:IL:=[jg 1 1 0,jd 2 0]
abbrev QoK:IL:=[jj 4 2 1,js 5 24 4,ja 3 5]
abbrev QoL:IL:=[jd 2 3]
abbrev QoM:IL:=[jj 7 2 1,js 8 25 7,ja 6 8]
abbrev QoN:IL:=[jd 2 8]
abbrev QoO:IL:=[jj 10 2 1,js 11 26 10,ja 9 11]
abbrev QoP:IL:=[jd 2 11]
abbrev QoQ:IL:=[jj 13 2 1,js 14 27 13,ja 12 14]
abbrev QoR:IL:=[jd 2 9]
abbrev QoS:IL:=[jj 16 2 1,js 17 28 16,ja 15 17]
abbrev QeI:IL:=[jd 2 6]
abbrev QeJ:IL:=[jj 19 2 1,js 20 29 19,ja 18 20]
abbrev QeK:IL:=[jd 2 1]
abbrev QeL:IL:=[jj 22 2 1,js 23 30 22,ja 21 23]
abbrev QeM:IL:=[jd 2 19]
abbrev QeN:IL:=[jd 2 0]
abbrev r11:RC:=jQ QoJ (.seq (.block 0 (jQ QoK (.cond (.t 3) (jQ QoL (.ret)) (jQ QoM (.cond (.t 6) (jQ QoN (.ret)) (jQ QoO (.cond (.t 9) (jQ QoP (.ret)) (jQ QoQ (.cond (.t 12) (jQ QoR (.ret)) (jQ QoS (.cond (.t 15) (jQ QeI (.ret)) (jQ QeJ (.cond (.t 18) (jQ QeK (.ret)) (jQ QeL (.cond (.t 21) (jQ QeM (.ret)) (.skip)))))))))))))))) (jQ QeN (.ret)))
abbrev Ul:List RR:=[.tmp 2]
theorem k11:CT 11 24 r11 Ul:=ck Tryz.func11 Tryz.ntmps11 (by decide +kernel)
def Ry:IL:=[jg 1 1 0,zm 2 2]
def Rz:IL:=[jb 9 0 1,jt 10 0 1 9,jb 11 1 1,jt 12 0 1 11,jb 13 3 1,jt 14 0 1 13,js 15 38 14,⟨some 16,.val (.build [.str [],.bool false,.nils,.nils,.nils] [(0,1,(.t 10)),(1,1,(.t 12)),(3,1,(.t 15))]),none⟩,zm 3 3,yz 0 3 5 3 16]
def RD:IL:=[jb 17 2 1,jc 18 17,jk 19 1 18,jd 20 0]
def RE:IL:=[jr 21 20 19]
def RF:IL:=[jl 22 3 18 20,jj 23 3 22,FA 5 5,jo 3 5 23]
def RG:IL:=[jb 24 0 5,jc 25 24,jb 26 1 5,jc 27 26,⟨some 28,.val (.build [.str [],.int .i64 0,.nils] [(0,1,(.t 25)),(1,1,(.t 27))]),none⟩,FA 6 6,jo 3 6 28]
def RH:IL:=[jb 30 2 5,jc 31 30,⟨some 32,.call (.f 39) [(.t 31),(.c (.str [97,108,105,97,115]))],none⟩,ja 29 32,jz 33 29 0,jz 34 29 1,Ft 7 7,jo 7 7 33,ja 8 34]
def B2:IL:=[ja 35 8]
def RI:IL:=[jj 36 7 7,⟨some 37,.val (.build [.str [],.int .i64 0,.int .u64 0,.str [],.nils,.nils,.nils,.nils] [(0,1,(.c (.str [97,108,105,97,115]))),(1,7,(.t 36))]),none⟩,⟨some 38,.bsl 8 1 [.str [],.int .i64 0,.int .u64 0,.str [],.nils,.nils,.nils,.nils] [(0,8,(.t 37))],none⟩,jb 39 2 6,jo 1 39 38]
def B3:IL:=[jb 40 2 3,jc 41 40,jj 42 3 6,⟨some 43,.bsl 3 1 [.str [],.int .i64 0,.nils] [(0,3,(.t 42))],none⟩,yg 44 3 48 57 41 43,jb 45 2 3,jo 1 45 44]
def GX:IL:=[jn 46 20 1,ja 20 46]
def QoT:RC:=.gho (.drop 7) (.gho (.drop 6) (.gho (.drop 5) (jQ RE (.seq (jX 21 0) (.seq (.block 1 (jQ RF (jQ RG (.seq (jQ RH (jQ B2 (.cond (.t 35) (.reg RI) (.skip)))) (.reg B3))))) (.reg GX))))))
def VK:IL:=[jj 47 5 3,jo 5 2 47]
def r15:RC:=jQ Ry (jD Rz (.gho (.vecc 3 2 1100 3) (.seq (jQ RD (.block 0 (.loop QoT))) (jQ VK (.ret)))))
def o15:List RR:=[.cell 2 (some 5)]
theorem k15:CT 15 48 r15 o15:=ck Tryz.func15 Tryz.ntmps15 (by decide +kernel)
abbrev JS:List RR:=[.tmp 4]
def RJ:IL:=[jg 1 1 0,yp 2]
def RK:IL:=[⟨some 13,.val (.build [.str [],.nils] []),none⟩,⟨some 3,.allocN 3 [.str [],.nils],none⟩,jo 2 3 13]
def RL:IL:=[jd 4 1]
def RM:IL:=[ja 14 4,Fw 15 14 3]
def RN:IL:=[jj 18 3 1,ja 19 4,jx 20 46 18 19,ja 5 20]
def RP:IL:=[ja 21 5,jk 22 1 21,yr 23 22 64,yt 24 47 3 23 (-1) 3]
def RQ:IL:=[ja 25 5,js 26 48 25,jy 27 26,yt 28 47 3 27 (-1) 11]
def RS:IL:=[ja 16 4,jn 17 16 1,ja 4 17]
def B4:RC:=.seq (jQ RM (jX 15 0)) (.seq (.block 1 (jQ RN (jQ RP (.reg RQ)))) (.reg RS))
def RT:IL:=[jj 29 3 1,⟨some 30,.call (.f 46) [(.t 29),(.c (.int .i64 1))],none⟩,ja 6 30]
def RU:IL:=[jj 31 3 1,⟨some 32,.call (.f 46) [(.t 31),(.c (.int .i64 2))],none⟩,ja 7 32]
def VL:IL:=[jj 33 3 1,⟨some 34,.call (.f 46) [(.t 33),(.c (.int .i64 3))],none⟩,ja 8 34]
def VM:IL:=[ja 35 6,ja 36 7,jx 37 49 35 36,ja 38 37,jw 39 6 38,jw 40 8 38,zx 41 49 39 40 38,jq 42 38 41,ja 43 42,jw 44 7 43,jw 45 8 43,zx 46 49 44 45 43,jq 47 43 46,yt 48 47 3 47 (-1) 9]
def GY:IL:=[jj 49 3 1,js 50 50 49,ja 9 50]
def GZ:IL:=[jd 10 0]
def VN:IL:=[ja 51 10,jb 52 0 1,jc 53 52,jk 54 1 53,jr 55 51 54]
def VP:IL:=[jb 58 1 3,jt 59 0 3 58,yj 60 0 1 3 1,jb 61 0 1,jt 62 0 1 61,ja 63 10,jl 64 5 62 63,ym 65 5 64,ja 66 9,GF 67 51 60 65 66,yg 68 3 32 160 59 67,jb 69 1 3,yz 0 3 1 69 68]
def VQ:IL:=[ja 56 10,jn 57 56 1,ja 10 57]
def HY:RC:=.seq (jQ VN (jX 55 2)) (.seq (.block 3 (.draw VP)) (.reg VQ))
def G0:IL:=[jd 11 0]
def VR:IL:=[ja 70 11,jb 71 1 1,jc 72 71,jk 73 1 72,jr 74 70 73]
def VS:IL:=[jb 77 1 3,jt 78 0 3 77,jb 79 1 1,jt 80 0 1 79,ja 81 11,jl 82 5 80 81,ym 83 5 82,js 84 52 83,yg 85 3 32 160 78 84,jb 86 1 3,yz 0 3 1 86 85]
def VT:IL:=[ja 75 11,jn 76 75 1,ja 11 76]
def HZ:RC:=.seq (jQ VR (jX 74 4)) (.seq (.block 5 (.draw VS)) (.reg VT))
def G3:IL:=[jd 12 0]
def VU:IL:=[ja 87 12,jb 88 2 1,jc 89 88,jk 90 1 89,jr 91 87 90]
def VV:IL:=[jb 94 1 3,jt 95 0 3 94,yj 96 0 1 3 1,jb 97 2 1,jt 98 0 1 97,ja 99 12,jl 100 3 98 99,ym 101 3 100,jx 102 53 96 101,yg 103 3 32 160 95 102,jb 104 1 3,yz 0 3 1 104 103]
def VW:IL:=[ja 92 12,jn 93 92 1,ja 12 93]
def H1:RC:=.seq (jQ VU (jX 91 6)) (.seq (.block 7 (.draw VV)) (.reg VW))
def G4:IL:=[jb 105 1 3,jc 106 105,ja 2 106]
def r23:RC:=jQ RJ (jQ RK (.gho (.vecc 3 1 1100 3) (.seq (jQ RL (.block 0 (.loop B4))) (jQ RT (jQ RU (jQ VL (jQ VM (jQ GY (.seq (jQ GZ (.block 2 (.loop HY))) (.seq (jQ G0 (.block 4 (.loop HZ))) (.seq (jQ G3 (.block 6 (.loop H1))) (jQ G4 (.ret)))))))))))))
def o23:List RR:=[.tmp 2]
theorem k23:CT 23 107 r23 o23:=ck Tryz.func23 Tryz.ntmps23 (by decide +kernel)
abbrev QoU:IL:=[jg 1 1 0,je 2]
abbrev QoV:IL:=[jb 3 0 1,jc 4 3,jk 5 1 4,jb 6 1 1,jc 7 6,jk 8 1 7,⟨some 9,.val (.mnx true (.t 5) (.t 8)),none⟩,yr 10 9 64,ja 11 10,jm 12 0 1 11,jv 13 12 11,zh 14 54 13 55 11,jq 15 11 14,ja 16 15,jm 17 1 1 16,jv 18 17 16,zh 19 56 18 57 16,jq 20 16 19,ja 2 20]
abbrev r24:RC:=jQ QoU (jQ QoV (.ret))
abbrev o24:List RR:=[.tmp 2]
theorem k24:CT 24 21 r24 o24:=ck Tryz.func24 Tryz.ntmps24 (by decide +kernel)
abbrev QoW:IL:=[jg 1 1 0,je 2]
abbrev QoX:IL:=[jb 3 0 1,jc 4 3,GG 5 54 4 58,ja 6 5,jm 7 1 1 6,jv 8 7 6,zh 9 56 8 63 6,jq 10 6 9,ja 2 10]
abbrev r25:RC:=jQ QoW (jQ QoX (.ret))
abbrev o25:List RR:=[.tmp 2]
theorem k25:CT 25 11 r25 o25:=ck Tryz.func25 Tryz.ntmps25 (by decide +kernel)
abbrev QoY:IL:=[jg 1 1 0,je 2]
abbrev QoZ:IL:=[jb 3 0 1,jc 4 3,GG 5 66 4 67,jy 6 5,ja 7 6,jm 8 1 1 7,jv 9 8 7,zh 10 68 9 69 7,zf 11 10 7,jq 12 7 11,ja 13 12,jm 14 0 1 13,jv 15 14 13,zh 16 54 15 70 13,jq 17 13 16,ja 18 17,jm 19 1 1 18,jv 20 19 18,zh 21 56 20 73 18,jq 22 18 21,ja 2 22]
abbrev r26:RC:=jQ QoY (jQ QoZ (.ret))
abbrev o26:List RR:=[.tmp 2]
theorem k26:CT 26 23 r26 o26:=ck Tryz.func26 Tryz.ntmps26 (by decide +kernel)
abbrev Qo0:IL:=[jg 1 1 0,je 2]
abbrev Qo1:IL:=[jb 3 0 1,jc 4 3,zu 5 76 1,ye 6 54 4 5,ja 7 6,jm 8 1 1 7,jv 9 8 7,zh 10 56 9 80 7,jq 11 7 10,ja 2 11]
abbrev r27:RC:=jQ Qo0 (jQ Qo1 (.ret))
abbrev o27:List RR:=[.tmp 2]
theorem k27:CT 27 12 r27 o27:=ck Tryz.func27 Tryz.ntmps27 (by decide +kernel)
abbrev Qo2:IL:=[jg 1 1 0,je 2]
abbrev Qo3:IL:=[jb 3 0 1,jc 4 3,GG 5 54 4 83,ja 6 5,jm 7 1 1 6,jv 8 7 6,zh 9 56 8 85 6,jq 10 6 9,ja 2 10]
abbrev r28:RC:=jQ Qo2 (jQ Qo3 (.ret))
abbrev o28:List RR:=[.tmp 2]
theorem k28:CT 28 11 r28 o28:=ck Tryz.func28 Tryz.ntmps28 (by decide +kernel)
abbrev Qo4:IL:=[jg 1 1 0,je 2]
abbrev Qo5:IL:=[jb 3 0 1,jc 4 3,zu 5 86 1,ye 6 54 4 5,ja 7 6,jm 8 1 1 7,jv 9 8 7,zh 10 56 9 92 7,jq 11 7 10,ja 2 11]
abbrev r29:RC:=jQ Qo4 (jQ Qo5 (.ret))
abbrev o29:List RR:=[.tmp 2]
theorem k29:CT 29 12 r29 o29:=ck Tryz.func29 Tryz.ntmps29 (by decide +kernel)
abbrev Qo6:IL:=[jg 1 1 0,je 2]
abbrev Qo7:IL:=[jb 6 0 1,jc 7 6,jk 8 1 7,⟨some 9,.mk 9 4 1 1 [.bool false] (.t 8) (.t 8),none⟩,⟨some 3,.allocN 3 [.nils],none⟩,jo 1 3 9]
abbrev Qo8:IL:=[jb 10 0 1,jc 11 10,jk 12 1 11,jd 13 0]
abbrev Qo9:IL:=[jr 14 13 12]
abbrev Qpa:IL:=[jb 15 0 1,jc 16 15,jk 17 1 16,jd 18 0]
abbrev Qpb:IL:=[jr 19 18 17]
abbrev Qpc:IL:=[ja 20 18,jl 21 3 16 18,jj 22 3 21,NV 5 5,ja 4 20,jo 3 5 22]
abbrev Qpd:IL:=[jt 23 0 3 3,ja 24 4,jt 25 0 3 3,ja 26 4,jl 27 1 25 26,yk 28 27,ja 29 28,jm 30 1 5 29,ys 31 0 5 30 29,⟨some 32,.val (.mkfn (.func 95) [] [(.t 3)]),(some (29,false))⟩,⟨some 33,.callK 0 3 (.f 60) [(.t 31),(.t 32)],(some (29,false))⟩,zf 34 33 29,jq 35 29 34,jl 36 1 23 24,jo 1 36 35]
abbrev Qpe:IL:=[jn 37 18 1,ja 18 37]
abbrev Qpf:RC:=.gho (.drop 5) (jQ Qpb (.seq (jX 19 2) (.seq (.block 3 (jQ Qpc (.draw Qpd))) (.reg Qpe))))
abbrev Qpg:IL:=[jn 38 13 1,ja 13 38]
abbrev Qph:RC:=.gho (.drop 5) (jQ Qo9 (.seq (jX 14 0) (.seq (.block 1 (jQ Qpa (.block 2 (.loop Qpf)))) (.reg Qpg))))
abbrev QeO:IL:=[jc 39 3,⟨some 40,.call (.f 96) [(.t 39),(.c (.bool false))],none⟩,ja 2 40]
abbrev r30:RC:=jQ Qo6 (jQ Qo7 (.seq (jQ Qo8 (.block 0 (.loop Qph))) (jQ QeO (.ret))))
abbrev JJ:List RR:=[.tmp 2]
theorem k30:CT 30 41 r30 JJ:=ck Tryz.func30 Tryz.ntmps30 (by decide +kernel)
abbrev Qpi:IL:=[jg 2 2 0,ze 4 4,jd 5 0]
abbrev Qpj:IL:=[jd 6 0]
abbrev Qpk:IL:=[ja 7 6,jb 8 0 2,jc 9 8,jk 10 1 9,jr 11 7 10]
abbrev Qpl:IL:=[jb 14 0 2,jc 15 14,ja 16 6,jl 17 5 15 16,jb 18 0 17,jc 19 18,ja 20 1,yf 21 19 20]
abbrev Qpm:IL:=[jb 22 0 2,jc 23 22,ja 24 6,jl 25 5 23 24,jj 26 5 25,ja 27 6,jo 5 4 26,ja 5 27]
abbrev Qpn:IL:=[ja 12 6,jn 13 12 1,ja 6 13]
abbrev Qpo:RC:=.seq (jQ Qpk (jX 11 0)) (.seq (.block 1 (jQ Qpl (.cond (.t 21) (jQ Qpm (.ret)) (.skip)))) (.reg Qpn))
abbrev Qpp:IL:=[⟨some 28,.val (.build [.str [],.nils,.nils,.nils,.nils] []),none⟩,jo 5 4 28,jd 5 (-1)]
abbrev r31:RC:=jQ Qpi (.seq (jQ Qpj (.block 0 (.loop Qpo))) (jQ Qpp (.ret)))
abbrev o31:List RR:=[.cell 4 (some 5),.tmp 5]
theorem k31:CT 31 29 r31 o31:=ck Tryz.func31 Tryz.ntmps31 (by decide +kernel)
abbrev Qpq:IL:=[jg 2 2 0,zm 4 4,jd 5 0]
abbrev Qpr:IL:=[jd 6 0]
abbrev Qps:IL:=[ja 7 6,jb 8 1 2,jc 9 8,jk 10 1 9,jr 11 7 10]
abbrev Qpt:IL:=[jb 14 1 2,jc 15 14,ja 16 6,jl 17 5 15 16,jb 18 0 17,jc 19 18,ja 20 1,yf 21 19 20]
abbrev Qpu:IL:=[jb 22 1 2,jc 23 22,ja 24 6,jl 25 5 23 24,jj 26 5 25,ja 27 6,jo 5 4 26,ja 5 27]
abbrev Qpv:IL:=[ja 12 6,jn 13 12 1,ja 6 13]
abbrev Qpw:RC:=.seq (jQ Qps (jX 11 0)) (.seq (.block 1 (jQ Qpt (.cond (.t 21) (jQ Qpu (.ret)) (.skip)))) (.reg Qpv))
abbrev Qpx:IL:=[⟨some 28,.val (.build [.str [],.bool false,.nils,.nils,.nils] []),none⟩,jo 5 4 28,jd 5 (-1)]
abbrev r32:RC:=jQ Qpq (.seq (jQ Qpr (.block 0 (.loop Qpw))) (jQ Qpx (.ret)))
abbrev o32:List RR:=[.cell 4 (some 5),.tmp 5]
theorem k32:CT 32 29 r32 o32:=ck Tryz.func32 Tryz.ntmps32 (by decide +kernel)
abbrev Qpy:IL:=[yp 2]
abbrev Qpz:IL:=[ja 3 0,⟨some 4,.isnil false (.t 3),none⟩]
abbrev QpA:IL:=[yp 2]
abbrev QpB:IL:=[⟨some 5,.bsl0 5 2,none⟩,ja 6 0,yg 7 2 16 87 5 6,ja 2 7]
abbrev r38:RC:=jQ Qpy (.seq (jQ Qpz (.cond (.t 4) (jQ QpA (.gho (.vec 2 2 2) (.ret))) (.skip))) (jQ QpB (.ret)))
abbrev o38:List RR:=[.tmp 2]
theorem k38:CT 38 8 r38 o38:=ck Tryz.func38 Tryz.ntmps38 (by decide +kernel)
abbrev Kr:List RR:=[.tmp 4]
abbrev QpC:IL:=[jg 2 2 0,yp 4]
abbrev QpD:IL:=[yp 5]
abbrev QpE:IL:=[jd 6 0]
abbrev QpF:IL:=[ja 9 1,ju 10 9 1,ja 11 10,jh 12 6 11,jf 13 0 2 11,jp 14 13 11,ya 15 1 14 11,zk 16 12 15 11,ji 17 11 16]
abbrev QpG:IL:=[ja 20 5,jb 21 0 2,jc 22 21,ja 23 6,jl 24 5 22 23,jb 25 0 24,jc 26 25,zy 27 1 1 0 1 26,yg 28 1 16 9 20 27,ja 5 28]
abbrev QpH:IL:=[ja 18 6,jn 19 18 1,ja 6 19]
abbrev RV:RC:=.seq (jQ QpF (jX 17 0)) (.seq (.block 1 (.reg QpG)) (.reg QpH))
abbrev QpI:IL:=[jd 7 0]
abbrev QpJ:IL:=[ja 29 1,ju 30 29 2,ja 31 30,jh 32 7 31,jf 33 1 2 31,jp 34 33 31,ya 35 1 34 31,zk 36 32 35 31,ji 37 31 36]
abbrev QpK:IL:=[ja 40 5,jb 41 1 2,jc 42 41,ja 43 7,jl 44 5 42 43,jb 45 0 44,jc 46 45,zy 47 1 1 0 1 46,yg 48 1 16 9 40 47,ja 5 48]
abbrev QpL:IL:=[ja 38 7,jn 39 38 1,ja 7 39]
abbrev RW:RC:=.seq (jQ QpJ (jX 37 2)) (.seq (.block 3 (.reg QpK)) (.reg QpL))
abbrev QeP:IL:=[jd 8 0]
abbrev QeQ:IL:=[ja 49 1,ju 50 49 3,ja 51 50,jh 52 8 51,jf 53 2 2 51,jp 54 53 51,ya 55 1 54 51,zk 56 52 55 51,ji 57 51 56]
abbrev QeR:IL:=[ja 60 5,jb 61 2 2,jc 62 61,ja 63 8,jl 64 3 62 63,jb 65 0 64,jc 66 65,zy 67 1 1 0 1 66,yg 68 1 16 9 60 67,ja 5 68]
abbrev QeS:IL:=[ja 58 8,jn 59 58 1,ja 8 59]
abbrev RX:RC:=.seq (jQ QeQ (jX 57 4)) (.seq (.block 5 (.reg QeR)) (.reg QeS))
abbrev QeT:IL:=[ja 69 5,ja 4 69]
abbrev r46:RC:=jQ QpC (jQ QpD (.gho (.vec 5 5 1) (.seq (jQ QpE (.block 0 (.loop RV))) (.seq (jQ QpI (.block 2 (.loop RW))) (.seq (jQ QeP (.block 4 (.loop RX))) (jQ QeT (.ret)))))))
abbrev o46:List RR:=[.tmp 4]
theorem k46:CT 46 70 r46 o46:=ck Tryz.func46 Tryz.ntmps46 (by decide +kernel)
abbrev QpM:IL:=[ja 8 1]
abbrev QpN:IL:=[ja 9 0,ja 10 0,yq 11 10,jb 12 1 11,NX 13 12,ja 14 0,yq 15 14,jb 16 0 15,NX 17 16,ja 18 2,ja 19 3,⟨some 20,.val (.build [.str [],.int .i64 0,.int .i64 0] [(0,1,(.t 17)),(1,1,(.t 18)),(2,1,(.t 19))]),none⟩,⟨some 21,.bsl 3 1 [.str [],.int .i64 0,.int .i64 0] [(0,3,(.t 20))],none⟩,yg 22 3 32 160 13 21,yq 23 9,jb 24 1 23,jo 1 24 22]
abbrev r47:RC:=jQ QpM (.cond (.t 8) (.draw QpN) (.skip))
abbrev o47:List RR:=[]
theorem RY:CT 47 25 r47 o47:=ck Tryz.func47 Tryz.ntmps47 (by decide +kernel)
abbrev QpO:IL:=[je 2]
abbrev QpP:IL:=[jd 3 1]
abbrev QpQ:IL:=[ja 4 3,ja 5 0,jk 6 1 5,jr 7 4 6]
abbrev QpR:IL:=[ja 10 0,ja 11 3,jl 12 1 10 11,yk 13 12,ja 14 0,ja 15 3,Uf 16 15 1,jl 17 1 14 16,yk 18 17,⟨some 19,.val (.bin .str .leq (.t 13) (.t 18)),none⟩]
abbrev QpS:IL:=[je 2]
abbrev QpT:IL:=[ja 8 3,jn 9 8 1,ja 3 9]
abbrev QpU:RC:=.seq (jQ QpQ (jX 7 0)) (.seq (.block 1 (jD QpR (.cond (.t 19) (jQ QpS (.ret)) (.skip)))) (.reg QpT))
abbrev QpV:IL:=[yb 2]
abbrev r48:RC:=jQ QpO (.seq (jQ QpP (.block 0 (.loop QpU))) (jQ QpV (.ret)))
abbrev o48:List RR:=[.tmp 2]
theorem k48:CT 48 20 r48 o48:=ck Tryz.func48 Tryz.ntmps48 (by decide +kernel)
abbrev QpW:IL:=[je 4]
abbrev QpX:IL:=[jd 5 0]
abbrev QpY:IL:=[ja 6 5,ja 7 0,jk 8 1 7,jr 9 6 8]
abbrev QpZ:IL:=[ja 12 1,ja 13 0,ja 14 5,jl 15 1 13 14,jc 16 15,jx 17 117 12 16]
abbrev Qp0:IL:=[yb 4]
abbrev Qp1:IL:=[ja 10 5,jn 11 10 1,ja 5 11]
abbrev Qp2:RC:=.seq (jQ QpY (jX 9 0)) (.seq (.block 1 (jQ QpZ (.cond (.t 17) (jQ Qp0 (.ret)) (.skip)))) (.reg Qp1))
abbrev Qp3:IL:=[je 4]
abbrev r49:RC:=jQ QpW (.seq (jQ QpX (.block 0 (.loop Qp2))) (jQ Qp3 (.ret)))
abbrev o49:List RR:=[.tmp 4]
theorem k49:CT 49 18 r49 o49:=ck Tryz.func49 Tryz.ntmps49 (by decide +kernel)
abbrev Qp4:IL:=[jg 1 1 0,yp 2]
abbrev Qp5:IL:=[jb 7 0 1,jc 8 7,jk 9 1 8,⟨some 10,.mk 10 4 1 1 [.bool false] (.t 9) (.t 9),none⟩,ja 3 10]
abbrev Qp6:IL:=[yb 4]
abbrev Qp7:IL:=[jd 5 0]
abbrev Qp8:IL:=[ja 11 5,jb 12 0 1,jc 13 12,jk 14 1 13,jr 15 11 14,ja 16 15,jh 17 4 16,ji 18 16 17]
abbrev Qp9:IL:=[je 4]
abbrev Qqa:IL:=[jd 6 0]
abbrev Qqb:IL:=[ja 21 6,jb 22 0 1,jc 23 22,jk 24 1 23,jr 25 21 24]
abbrev QeU:IL:=[ja 28 3,ja 29 6,jl 30 1 28 29,yk 31 30,jy 32 31,ja 33 32,⟨some 34,.val (.loadv 0 1 (some 3) (.t 1)),(some (33,true))⟩,jf 35 0 1 33,yh 36 0 1 35 33,jh 37 6 33,yi 38 5 36 37 33,⟨some 39,.val (.loadr (some 5) (.t 38)),(some (33,true))⟩,jh 40 3 33,⟨some 41,.call (.f 118) [(.t 34),(.t 39),(.t 40)],(some (33,true))⟩,yx 42 41 33,ji 43 33 42]
abbrev QeV:IL:=[ja 44 3,ja 45 6,jl 46 1 44 45,⟨none,.store 1 (.t 46) (.c (.bool true)),none⟩]
abbrev QeW:IL:=[yb 4]
abbrev Qqc:IL:=[ja 26 6,jn 27 26 1,ja 6 27]
abbrev RZ:RC:=.seq (jQ Qqb (jX 25 2)) (.seq (.block 3 (jD QeU (.cond (.t 43) (jQ QeV (.reg QeW)) (.skip)))) (.reg Qqc))
abbrev Qqd:IL:=[ja 19 5,jn 20 19 1,ja 5 20]
abbrev Qqe:RC:=.seq (jQ Qp8 (jX 18 0)) (.seq (.block 1 (jQ Qp9 (jQ Qqa (.block 2 (.loop RZ))))) (.reg Qqd))
abbrev QeX:IL:=[ja 47 3,ja 2 47]
abbrev r50:RC:=jQ Qp4 (jQ Qp5 (jQ Qp6 (.seq (jQ Qp7 (.block 0 (.loop Qqe))) (jQ QeX (.ret)))))
abbrev R0:List RR:=[.tmp 2]
theorem k50:CT 50 48 r50 R0:=ck Tryz.func50 Tryz.ntmps50 (by decide +kernel)
def R1:IL:=[jg 3 3 0,jg 4 4 1,yp 6]
def R2:IL:=[jb 13 0 4,jc 14 13,⟨some 15,.val (.build [.str [],.nils] [(0,1,(.t 14))]),none⟩,⟨some 7,.allocN 7 [.str [],.nils],none⟩,jo 2 7 15]
def R3:IL:=[jb 16 0 4,jc 17 16,js 18 119 17,jy 19 18,yt 20 47 7 19 (-1) 8]
def R4:IL:=[jb 21 1 4,jc 22 21,jk 23 1 22,yr 24 23 64,ja 25 24,jm 26 2 4 25,jv 27 26 25,yw 28 1 27 25,yy 29 28 16 25,jq 30 25 29,ja 31 30,jm 32 3 4 31,jv 33 32 31,yw 34 1 33 31,yy 35 34 16 31,jq 36 31 35,yt 37 47 7 36 (-1) 3]
def B5:IL:=[jd 8 0]
def R5:IL:=[ja 38 8,jb 39 1 4,jc 40 39,jk 41 1 40,jr 42 38 41]
def R6:IL:=[jb 45 1 4,jc 46 45,ja 47 8,jl 48 16 46 47,jj 49 16 48,zt 9 9,jo 16 9 49]
def R7:IL:=[je 10]
def R8:IL:=[jd 11 0]
def VX:IL:=[ja 50 11,ja 51 8,jr 52 50 51]
def VY:IL:=[jb 55 1 4,jt 56 0 4 55,ja 57 11,jl 58 16 56 57,jb 59 1 58,yk 60 59,jb 61 1 9,jt 62 0 9 61,yf 63 60 62]
def VZ:IL:=[yb 10]
def G5:IL:=[ja 53 11,jn 54 53 1,ja 11 54]
def B6:RC:=.seq (jQ VX (jX 52 2)) (.seq (.block 3 (jD VY (.cond (.t 63) (.reg VZ) (.skip)))) (.reg G5))
def G6:IL:=[jb 64 0 9,jc 65 64,yl 66 65 1,ja 67 66,jm 68 0 9 67,jv 69 68 67,yy 70 69 65535 67,jq 71 67 70,jb 72 0 9,jc 73 72,yv 74 47 7 71 73 6]
def Um:IL:=[ja 75 8,yr 76 75 0,ja 77 76,jf 78 0 9 77,yh 79 0 9 78 77,jf 80 1 4 77,yh 81 0 4 80 77,jh 82 8 77,GH 83 82 1 77,yi 84 16 81 83 77,jf 85 0 84 77,yu 86 85 77,Ug 87 79 86 77,ji 88 77 87,jb 89 0 9,jt 90 0 9 89,yv 91 47 7 88 90 11]
def G7:IL:=[jb 92 1 9,jt 93 0 9 92,js 94 120 93,jy 95 94,jb 96 0 9,jt 97 0 9 96,yv 98 47 7 95 97 8]
def G8:IL:=[ja 99 10,jb 100 0 9,jc 101 100,yv 102 47 7 99 101 9]
def G9:IL:=[jb 103 2 4,jt 104 0 4 103,jb 105 0 9,jt 106 0 9 105,jx 107 121 104 106,ja 108 107,jm 109 3 4 108,ys 110 0 4 109 108,jm 111 1 9 108,ys 112 0 9 111 108,zx 113 117 110 112 108,jq 114 108 113,jb 115 0 9,jt 116 0 9 115,yv 117 47 7 114 116 21]
def Da:IL:=[yj 118 0 9 16 9,js 119 122 118,jy 120 119,jb 121 0 9,jt 122 0 9 121,yv 123 47 7 120 122 1]
def Db:IL:=[yj 124 0 3 3 3,yj 125 0 9 16 9,jx 126 123 124 125,jy 127 126,jb 128 0 9,jt 129 0 9 128,yv 130 47 7 127 129 12]
def Dc:IL:=[yj 131 0 4 5 4,ja 132 8,jx 133 124 131 132,jy 134 133,jb 135 0 9,jt 136 0 9 135,yv 137 47 7 134 136 15]
def Dd:IL:=[yj 138 0 3 3 3,yj 139 0 9 16 9,jx 140 125 138 139,jy 141 140,jb 142 0 9,jt 143 0 9 142,yv 144 47 7 141 143 1]
def De:IL:=[jb 145 15 9,jc 146 145,jb 147 0 9,jc 148 147,⟨some 149,.callF (.f 126) [(.t 7),(.t 146),(.c (.int .i64 2)),(.t 148)],none⟩]
def R9:IL:=[ja 43 8,jn 44 43 1,ja 8 44]
def B7:RC:=.gho (.drop 9) (.seq (jQ R5 (jX 42 0)) (.seq (.block 1 (jQ R6 (jQ R7 (.seq (jQ R8 (.block 2 (.loop B6))) (jQ G6 (jD Um (jD G7 (jQ G8 (jD G9 (jD Da (jD Db (jD Dc (jD Dd (.reg De)))))))))))))) (.reg R9)))
def Df:IL:=[jb 150 2 4,jc 151 150,yt 152 127 7 151 1 65535]
def Dg:IL:=[jd 12 0]
def V1:IL:=[ja 153 12,jb 154 3 4,jc 155 154,jk 156 1 155,jr 157 153 156]
def V2:IL:=[jb 160 3 4,jc 161 160,ja 162 12,jl 163 1 161 162,jc 164 163,js 165 128 164,jy 166 165,yt 167 47 7 166 (-1) 7]
def V3:IL:=[ja 158 12,jn 159 158 1,ja 12 159]
def H2:RC:=.seq (jQ V1 (jX 157 4)) (.seq (.block 5 (.reg V2)) (.reg V3))
def Dh:IL:=[jb 168 4 4,jc 169 168,yt 170 126 7 169 1 (-1)]
def Di:IL:=[jj 171 3 3,jj 172 5 4,ja 173 2,GF 174 118 171 172 173,yt 175 47 7 174 (-1) 19]
def Dj:IL:=[jb 176 1 7,jc 177 176,ja 6 177]
def r51:RC:=jQ R1 (jQ R2 (.gho (.vecc 7 1 1100 3) (jQ R3 (jQ R4 (.seq (jQ B5 (.block 0 (.loop B7))) (jQ Df (.seq (jQ Dg (.block 4 (.loop H2))) (jQ Dh (jQ Di (jQ Dj (.ret)))))))))))
def V4:List RR:=[.tmp 6]
theorem k51:CT 51 178 r51 V4:=ck Tryz.func51 Tryz.ntmps51 (by decide +kernel)
def Sa:IL:=[jg 1 1 0,yp 2]
def Sb:IL:=[jb 8 0 1,jc 9 8,⟨some 10,.val (.build [.str [],.nils] [(0,1,(.t 9))]),none⟩,⟨some 3,.allocN 3 [.str [],.nils],none⟩,jo 2 3 10]
def Sc:IL:=[jb 11 0 1,jc 12 11,js 13 119 12,jy 14 13,yt 15 47 3 14 (-1) 8]
def Sd:IL:=[jb 16 2 1,jc 17 16,jk 18 1 17,yl 19 18 1,ja 20 19,jm 21 2 1 20,jv 22 21 20,yw 23 1 22 20,yy 24 23 64 20,jq 25 20 24,ja 26 25,jm 27 3 1 26,jv 28 27 26,yw 29 1 28 26,yy 30 29 16 26,jq 31 26 30,yt 32 47 3 31 (-1) 3]
def H3:IL:=[jb 33 2 1,jc 34 33,jk 35 1 34,yr 36 35 0,ja 37 36,jf 38 2 1 37,jp 39 38 37,⟨some 40,.val (.iaddr 3 none (.t 39) (.c (.int .i64 0))),(some (37,true))⟩,jf 41 1 40 37,jp 42 41 37,zw 43 42 0 37,ji 44 37 43,yt 45 47 3 44 (-1) 14]
def H4:IL:=[jd 4 0]
def Se:IL:=[ja 46 4,jb 47 2 1,jc 48 47,jk 49 1 48,jr 50 46 49]
def Sf:IL:=[jb 53 2 1,jc 54 53,ja 55 4,jl 56 3 54 55,jj 57 3 56,FA 5 5,jo 3 5 57]
def Sg:IL:=[je 6]
def V5:IL:=[jd 7 0]
def V6:IL:=[ja 58 7,ja 59 4,jr 60 58 59]
def V7:IL:=[jb 63 2 1,jt 64 0 1 63,ja 65 7,jl 66 3 64 65,jb 67 0 66,yk 68 67,jb 69 0 5,jt 70 0 5 69,yf 71 68 70]
def V8:IL:=[yb 6]
def Dk:IL:=[ja 61 7,jn 62 61 1,ja 7 62]
def B8:RC:=.seq (jQ V6 (jX 60 2)) (.seq (.block 3 (jD V7 (.cond (.t 71) (.reg V8) (.skip)))) (.reg Dk))
def Dl:IL:=[jb 72 1 5,jc 73 72,yl 74 73 0,ja 75 74,jm 76 1 5 75,jv 77 76 75,yy 78 77 2147483647 75,jq 79 75 78,jb 80 1 5,jc 81 80,yv 82 47 3 79 81 6]
def Un:IL:=[ja 83 4,yr 84 83 0,ja 85 84,jf 86 1 5 85,yh 87 0 5 86 85,jf 88 2 1 85,yh 89 0 1 88 85,jh 90 4 85,GH 91 90 1 85,yi 92 3 89 91 85,jf 93 1 92 85,yu 94 93 85,Ug 95 87 94 85,ji 96 85 95,jb 97 1 5,jt 98 0 5 97,yv 99 47 3 96 98 11]
def Dm:IL:=[jb 100 0 5,jt 101 0 5 100,js 102 120 101,jy 103 102,jb 104 1 5,jt 105 0 5 104,yv 106 47 3 103 105 8]
def Dn:IL:=[ja 107 6,jb 108 1 5,jc 109 108,yv 110 47 3 107 109 9]
def Dp:IL:=[jb 111 3 1,jt 112 0 1 111,jb 113 1 5,jt 114 0 5 113,jx 115 121 112 114,jb 116 1 5,jt 117 0 5 116,yv 118 47 3 115 117 21]
def Dq:IL:=[jb 119 2 5,jc 120 119,jb 121 1 5,jc 122 121,⟨some 123,.callF (.f 126) [(.t 3),(.t 120),(.c (.int .i64 4)),(.t 122)],none⟩]
def Sh:IL:=[ja 51 4,jn 52 51 1,ja 4 52]
def H5:RC:=.gho (.drop 5) (.seq (jQ Se (jX 50 0)) (.seq (.block 1 (jQ Sf (jQ Sg (.seq (jQ V5 (.block 2 (.loop B8))) (jQ Dl (jD Un (jD Dm (jQ Dn (jD Dp (.reg Dq)))))))))) (.reg Sh)))
def Uo:IL:=[jb 124 3 1,jc 125 124,yt 126 127 3 125 0 2147483647]
def Uq:IL:=[jb 127 4 1,jc 128 127,yt 129 126 3 128 3 (-1)]
def Ur:IL:=[jb 130 1 3,jc 131 130,ja 2 131]
def r52:RC:=jQ Sa (jQ Sb (.gho (.vecc 3 1 1100 3) (jQ Sc (jQ Sd (jQ H3 (.seq (jQ H4 (.block 0 (.loop H5))) (jQ Uo (jQ Uq (jQ Ur (.ret))))))))))
def o52:List RR:=[.tmp 2]
theorem k52:CT 52 132 r52 o52:=ck Tryz.func52 Tryz.ntmps52 (by decide +kernel)
def Si:IL:=[jg 2 2 0,jg 3 3 1,yp 4]
def Sj:IL:=[jb 8 0 3,jc 9 8,⟨some 10,.val (.build [.str [],.nils] [(0,1,(.t 9))]),none⟩,⟨some 5,.allocN 5 [.str [],.nils],none⟩,jo 2 5 10]
def Sk:IL:=[jb 11 0 3,jc 12 11,js 13 119 12,jy 14 13,yt 15 47 5 14 (-1) 8]
def Sl:IL:=[jb 16 1 3,jc 17 16,jk 18 1 17,yr 19 18 64,yt 20 47 5 19 (-1) 3]
def Sm:IL:=[jd 6 0]
def Sn:IL:=[ja 21 6,jb 22 1 3,jc 23 22,jk 24 1 23,jr 25 21 24]
def Sp:IL:=[jb 28 1 3,jc 29 28,ja 30 6,jl 31 5 29 30,jj 32 5 31,⟨some 7,.allocN 7 [.str [],.str [],.str [],.int .i64 0,.nils],none⟩,jo 5 7 32]
def B9:IL:=[jb 33 0 7,jc 34 33,js 35 120 34,jy 36 35,ja 37 6,yv 38 47 5 36 37 8]
def H6:IL:=[ja 39 6,yr 40 39 0,ja 41 40,jf 42 0 7 41,yh 43 0 7 42 41,jf 44 1 3 41,yh 45 0 3 44 41,jh 46 6 41,GH 47 46 1 41,yi 48 5 45 47 41,jf 49 0 48 41,yu 50 49 41,⟨some 51,.val (.bin .str .leq (.t 43) (.t 50)),(some (41,true))⟩,ji 52 41 51,ja 53 6,yv 54 47 5 52 53 11]
def Dr:IL:=[jj 55 3 2,jb 56 1 7,jc 57 56,jx 58 129 55 57,yl 59 58 0,ja 60 59,zz 61 3 2 60,jm 62 2 7 60,jv 63 62 60,zx 64 129 61 63 60,⟨some 65,.val (.bin .num .lss (.t 64) (.c (.int .i64 0))),(some (60,false))⟩,jq 66 60 65,ja 67 6,yv 68 47 5 66 67 12]
def Ds:IL:=[jb 69 3 7,jc 70 69,yl 71 70 1,ja 72 71,jm 73 3 7 72,jv 74 73 72,yy 75 74 4 72,jq 76 72 75,ja 77 6,yv 78 47 5 76 77 1]
def Dt:IL:=[jb 79 4 7,jc 80 79,ja 81 6,⟨some 82,.callF (.f 126) [(.t 5),(.t 80),(.c (.int .i64 6)),(.t 81)],none⟩]
def Sq:IL:=[ja 26 6,jn 27 26 1,ja 6 27]
def Sr:RC:=.gho (.drop 7) (.seq (jQ Sn (jX 25 0)) (.seq (.block 1 (jQ Sp (jQ B9 (jD H6 (jQ Dr (jQ Ds (.reg Dt))))))) (.reg Sq)))
def V9:IL:=[jb 83 2 3,jc 84 83,yt 85 126 5 84 5 (-1)]
def Ca:IL:=[jb 86 1 5,jc 87 86,ja 4 87]
def r53:RC:=jQ Si (jQ Sj (.gho (.vecc 5 1 1100 3) (jQ Sk (jQ Sl (.seq (jQ Sm (.block 0 (.loop Sr))) (jQ V9 (jQ Ca (.ret))))))))
def o53:List RR:=[.tmp 4]
theorem k53:CT 53 88 r53 o53:=ck Tryz.func53 Tryz.ntmps53 (by decide +kernel)
abbrev Qqf:IL:=[je 4]
abbrev Qqg:IL:=[ja 5 0,ja 6 1,ye 7 130 5 6,ja 4 7]
abbrev r54:RC:=jQ Qqf (jQ Qqg (.ret))
abbrev o54:List RR:=[.tmp 4]
theorem k54:CT 54 8 r54 o54:=ck Tryz.func54 Tryz.ntmps54 (by decide +kernel)
abbrev Qqh:IL:=[jg 1 1 0,je 2]
abbrev Qqi:IL:=[jb 3 1 1,jc 4 3,jk 5 1 4,yr 6 5 64,ja 2 6]
abbrev r55:RC:=jQ Qqh (jQ Qqi (.ret))
abbrev o55:List RR:=[.tmp 2]
theorem k55:CT 55 7 r55 o55:=ck Tryz.func55 Tryz.ntmps55 (by decide +kernel)
abbrev Qqj:IL:=[je 4]
abbrev Qqk:IL:=[ja 5 0,ja 6 1,ye 7 131 5 6,ja 4 7]
abbrev Wt:RC:=jQ Qqj (jQ Qqk (.ret))
abbrev o56:List RR:=[.tmp 4]
theorem k56:CT 56 8 Wt o56:=ck Tryz.func56 Tryz.ntmps56 (by decide +kernel)
abbrev Qql:IL:=[jg 1 1 0,je 2]
abbrev Qqm:IL:=[jb 3 2 1,jc 4 3,jk 5 1 4,yl 6 5 1,ja 7 6,jm 8 2 1 7,jv 9 8 7,yw 10 1 9 7,yy 11 10 64 7,jq 12 7 11,ja 13 12,jm 14 3 1 13,jv 15 14 13,yw 16 1 15 13,yy 17 16 16 13,jq 18 13 17,ja 2 18]
abbrev r57:RC:=jQ Qql (jQ Qqm (.ret))
abbrev o57:List RR:=[.tmp 2]
theorem k57:CT 57 19 r57 o57:=ck Tryz.func57 Tryz.ntmps57 (by decide +kernel)
abbrev Qqn:IL:=[jg 1 1 0,je 2]
abbrev Qqo:IL:=[jb 3 0 1,jc 4 3,js 5 59 4,jy 6 5,ja 7 6,jm 8 1 1 7,jv 9 8 7,zh 10 60 9 61 7,jq 11 7 10,ja 2 11]
abbrev r58:RC:=jQ Qqn (jQ Qqo (.ret))
abbrev o58:List RR:=[.tmp 2]
theorem k58:CT 58 12 r58 o58:=ck Tryz.func58 Tryz.ntmps58 (by decide +kernel)
abbrev Qqp:IL:=[je 2]
abbrev Qqq:IL:=[ja 3 0,js 4 132 3,ja 5 4,jh 6 0 5,⟨some 7,.call (.f 134) [(.t 6),(.c (.str [46]))],(some (5,true))⟩,⟨some 8,.callF (.f 133) [(.t 7),(.f 135)],(some (5,true))⟩,yx 9 8 5,ji 10 5 9,ja 2 10]
abbrev r59:RC:=jQ Qqp (jQ Qqq (.ret))
abbrev o59:List RR:=[.tmp 2]
theorem k59:CT 59 11 r59 o59:=ck Tryz.func59 Tryz.ntmps59 (by decide +kernel)
abbrev Qqr:IL:=[je 4]
abbrev Qqs:IL:=[ja 5 0,ja 6 1,ye 7 136 5 6,ja 4 7]
abbrev r60:RC:=jQ Qqr (jQ Qqs (.ret))
abbrev Ss:List RR:=[.tmp 4]
theorem k60:CT 60 8 r60 Ss:=ck Tryz.func60 Tryz.ntmps60 (by decide +kernel)
abbrev Qqt:IL:=[jg 1 1 0,je 2]
abbrev Qqu:IL:=[jb 3 1 1,jc 4 3,js 5 62 4,jy 6 5,ja 2 6]
abbrev r61:RC:=jQ Qqt (jQ Qqu (.ret))
abbrev o61:List RR:=[.tmp 2]
theorem k61:CT 61 7 r61 o61:=ck Tryz.func61 Tryz.ntmps61 (by decide +kernel)
abbrev Qqv:IL:=[je 2]
abbrev Qqw:IL:=[ja 3 0,js 4 137 3,ja 5 4,jh 6 0 5,HB 7 135 6 5,yx 8 7 5,ji 9 5 8,ja 2 9]
abbrev r62:RC:=jQ Qqv (jQ Qqw (.ret))
abbrev o62:List RR:=[.tmp 2]
theorem k62:CT 62 10 r62 o62:=ck Tryz.func62 Tryz.ntmps62 (by decide +kernel)
abbrev Qqx:IL:=[jg 1 1 0,je 2]
abbrev Qqy:IL:=[jb 3 0 1,jc 4 3,js 5 59 4,jy 6 5,ja 7 6,jm 8 2 1 7,jv 9 8 7,zh 10 64 9 65 7,jq 11 7 10,ja 2 11]
abbrev r63:RC:=jQ Qqx (jQ Qqy (.ret))
abbrev o63:List RR:=[.tmp 2]
theorem k63:CT 63 12 r63 o63:=ck Tryz.func63 Tryz.ntmps63 (by decide +kernel)
abbrev Qqz:IL:=[je 4]
abbrev QqA:IL:=[ja 5 0,ja 6 1,ye 7 138 5 6,ja 4 7]
abbrev r64:RC:=jQ Qqz (jQ QqA (.ret))
abbrev o64:List RR:=[.tmp 4]
theorem k64:CT 64 8 r64 o64:=ck Tryz.func64 Tryz.ntmps64 (by decide +kernel)
abbrev QqB:IL:=[jg 1 1 0,je 2]
abbrev QqC:IL:=[jb 3 0 1,jc 4 3,js 5 62 4,jy 6 5,ja 2 6]
abbrev r65:RC:=jQ QqB (jQ QqC (.ret))
abbrev o65:List RR:=[.tmp 2]
theorem k65:CT 65 7 r65 o65:=ck Tryz.func65 Tryz.ntmps65 (by decide +kernel)
abbrev QqD:IL:=[je 4]
abbrev QqE:IL:=[jd 5 1]
abbrev QqF:IL:=[ja 6 5,ja 7 0,jk 8 1 7,jr 9 6 8]
abbrev QqG:IL:=[ja 12 1,ja 13 0,ja 14 5,Uf 15 14 1,jl 16 3 13 15,ym 17 3 16,ja 18 0,ja 19 5,jl 20 3 18 19,ym 21 3 20,⟨some 22,.callF (.t 12) [(.t 17),(.t 21)],none⟩,jy 23 22]
abbrev QqH:IL:=[je 4]
abbrev QqI:IL:=[ja 10 5,jn 11 10 1,ja 5 11]
abbrev QqJ:RC:=.seq (jQ QqF (jX 9 0)) (.seq (.block 1 (jD QqG (.cond (.t 23) (jQ QqH (.ret)) (.skip)))) (.reg QqI))
abbrev QqK:IL:=[yb 4]
abbrev r66:RC:=jQ QqD (.seq (jQ QqE (.block 0 (.loop QqJ))) (jQ QqK (.ret)))
abbrev o66:List RR:=[.tmp 4]
theorem k66:CT 66 24 r66 o66:=ck Tryz.func66 Tryz.ntmps66 (by decide +kernel)
abbrev QqL:IL:=[jg 2 2 0,jg 3 3 1,je 4]
abbrev QqM:IL:=[jb 5 0 2,jc 6 5,jb 7 0 3,jc 8 7,⟨some 9,.val (.bin .str .lss (.t 6) (.t 8)),none⟩,ja 4 9]
abbrev r67:RC:=jQ QqL (jQ QqM (.ret))
abbrev o67:List RR:=[.tmp 4]
theorem k67:CT 67 10 r67 o67:=ck Tryz.func67 Tryz.ntmps67 (by decide +kernel)
abbrev QqN:IL:=[je 4]
abbrev QqO:IL:=[jd 5 1]
abbrev QqP:IL:=[ja 6 5,ja 7 0,jk 8 1 7,jr 9 6 8]
abbrev QqQ:IL:=[ja 12 1,ja 13 0,ja 14 5,Uf 15 14 1,jl 16 5 13 15,ym 17 5 16,ja 18 0,ja 19 5,jl 20 5 18 19,ym 21 5 20,⟨some 22,.callF (.t 12) [(.t 17),(.t 21)],none⟩,jy 23 22]
abbrev QqR:IL:=[je 4]
abbrev QqS:IL:=[ja 10 5,jn 11 10 1,ja 5 11]
abbrev QqT:RC:=.seq (jQ QqP (jX 9 0)) (.seq (.block 1 (jD QqQ (.cond (.t 23) (jQ QqR (.ret)) (.skip)))) (.reg QqS))
abbrev QqU:IL:=[yb 4]
abbrev r68:RC:=jQ QqN (.seq (jQ QqO (.block 0 (.loop QqT))) (jQ QqU (.ret)))
abbrev o68:List RR:=[.tmp 4]
theorem k68:CT 68 24 r68 o68:=ck Tryz.func68 Tryz.ntmps68 (by decide +kernel)
abbrev QqV:IL:=[jg 2 2 0,jg 3 3 1,je 4]
abbrev QqW:IL:=[jb 5 0 2,jc 6 5,jb 7 0 3,jc 8 7,⟨some 9,.val (.bin .str .lss (.t 6) (.t 8)),none⟩,ja 4 9]
abbrev r69:RC:=jQ QqV (jQ QqW (.ret))
abbrev o69:List RR:=[.tmp 4]
theorem k69:CT 69 10 r69 o69:=ck Tryz.func69 Tryz.ntmps69 (by decide +kernel)
abbrev QqX:IL:=[jg 1 1 0,je 2]
abbrev QqY:IL:=[jb 3 1 1,jc 4 3,GG 5 71 4 72,jy 6 5,ja 2 6]
abbrev r70:RC:=jQ QqX (jQ QqY (.ret))
abbrev o70:List RR:=[.tmp 2]
theorem k70:CT 70 7 r70 o70:=ck Tryz.func70 Tryz.ntmps70 (by decide +kernel)
abbrev QqZ:IL:=[je 4]
abbrev Qq0:IL:=[jd 5 1]
abbrev Qq1:IL:=[ja 6 5,ja 7 0,jk 8 1 7,jr 9 6 8]
abbrev Qq2:IL:=[ja 12 1,ja 13 0,ja 14 5,Uf 15 14 1,jl 16 8 13 15,ym 17 8 16,ja 18 0,ja 19 5,jl 20 8 18 19,ym 21 8 20,⟨some 22,.callF (.t 12) [(.t 17),(.t 21)],none⟩,jy 23 22]
abbrev Qq3:IL:=[je 4]
abbrev Qq4:IL:=[ja 10 5,jn 11 10 1,ja 5 11]
abbrev Qq5:RC:=.seq (jQ Qq1 (jX 9 0)) (.seq (.block 1 (jD Qq2 (.cond (.t 23) (jQ Qq3 (.ret)) (.skip)))) (.reg Qq4))
abbrev Qq6:IL:=[yb 4]
abbrev r71:RC:=jQ QqZ (.seq (jQ Qq0 (.block 0 (.loop Qq5))) (jQ Qq6 (.ret)))
abbrev o71:List RR:=[.tmp 4]
theorem k71:CT 71 24 r71 o71:=ck Tryz.func71 Tryz.ntmps71 (by decide +kernel)
abbrev Qq7:IL:=[jg 2 2 0,jg 3 3 1,je 4]
abbrev Qq8:IL:=[jb 5 0 2,jc 6 5,jb 7 0 3,jc 8 7,jr 9 6 8,ja 4 9]
abbrev r72:RC:=jQ Qq7 (jQ Qq8 (.ret))
abbrev o72:List RR:=[.tmp 4]
theorem k72:CT 72 10 r72 o72:=ck Tryz.func72 Tryz.ntmps72 (by decide +kernel)
abbrev Qq9:IL:=[jg 1 1 0,je 2]
abbrev Qra:IL:=[jb 3 2 1,jc 4 3,GG 5 74 4 75,jy 6 5,ja 2 6]
abbrev r73:RC:=jQ Qq9 (jQ Qra (.ret))
abbrev o73:List RR:=[.tmp 2]
theorem k73:CT 73 7 r73 o73:=ck Tryz.func73 Tryz.ntmps73 (by decide +kernel)
abbrev Qrb:IL:=[je 4]
abbrev Qrc:IL:=[jd 5 1]
abbrev Qrd:IL:=[ja 6 5,ja 7 0,jk 8 1 7,jr 9 6 8]
abbrev Qre:IL:=[ja 12 1,ja 13 0,ja 14 5,Uf 15 14 1,jl 16 3 13 15,ym 17 3 16,ja 18 0,ja 19 5,jl 20 3 18 19,ym 21 3 20,⟨some 22,.callF (.t 12) [(.t 17),(.t 21)],none⟩,jy 23 22]
abbrev Qrf:IL:=[je 4]
abbrev Qrg:IL:=[ja 10 5,jn 11 10 1,ja 5 11]
abbrev Qrh:RC:=.seq (jQ Qrd (jX 9 0)) (.seq (.block 1 (jD Qre (.cond (.t 23) (jQ Qrf (.ret)) (.skip)))) (.reg Qrg))
abbrev Qri:IL:=[yb 4]
abbrev r74:RC:=jQ Qrb (.seq (jQ Qrc (.block 0 (.loop Qrh))) (jQ Qri (.ret)))
abbrev o74:List RR:=[.tmp 4]
theorem k74:CT 74 24 r74 o74:=ck Tryz.func74 Tryz.ntmps74 (by decide +kernel)
abbrev Qrj:IL:=[jg 2 2 0,jg 3 3 1,je 4]
abbrev Qrk:IL:=[jb 5 1 2,jc 6 5,jb 7 1 3,jc 8 7,jr 9 6 8,ja 4 9]
abbrev r75:RC:=jQ Qrj (jQ Qrk (.ret))
abbrev o75:List RR:=[.tmp 4]
theorem k75:CT 75 10 r75 o75:=ck Tryz.func75 Tryz.ntmps75 (by decide +kernel)
abbrev Qrl:IL:=[jg 2 2 0,je 3]
abbrev Qrm:IL:=[jb 4 1 1,jc 5 4,zu 6 77 2,ye 7 56 5 6,ja 8 7,jm 9 1 2 8,jv 10 9 8,zh 11 78 10 79 8,jq 12 8 11,ja 3 12]
abbrev r76:RC:=jQ Qrl (jQ Qrm (.ret))
abbrev o76:List RR:=[.tmp 3]
theorem k76:CT 76 13 r76 o76:=ck Tryz.func76 Tryz.ntmps76 (by decide +kernel)
abbrev Qrn:IL:=[jg 2 2 0,je 3]
abbrev Qro:IL:=[jb 4 0 2,jc 5 4,jb 6 0 1,jc 7 6,yf 8 5 7,ja 3 8]
abbrev r77:RC:=jQ Qrn (jQ Qro (.ret))
abbrev o77:List RR:=[.tmp 3]
theorem k77:CT 77 9 r77 o77:=ck Tryz.func77 Tryz.ntmps77 (by decide +kernel)
abbrev Qrp:IL:=[jg 3 3 1,je 4]
abbrev Qrq:IL:=[ja 7 0,jk 8 1 7,jd 9 0]
abbrev Qrr:IL:=[jr 10 9 8]
abbrev Qrs:IL:=[ja 11 9,jl 12 8 7 9,jj 13 8 12,NU 6 6,ja 5 11,jo 8 6 13]
abbrev Qrt:IL:=[ja 14 0,ja 15 5,Fz 16 8 14 15,NY 17 139 3 6,ye 18 60 16 17]
abbrev Qru:IL:=[yb 4]
abbrev Qrv:IL:=[jn 19 9 1,ja 9 19]
abbrev Qrw:RC:=.gho (.drop 6) (jQ Qrr (.seq (jX 10 0) (.seq (.block 1 (jQ Qrs (jQ Qrt (.cond (.t 18) (jQ Qru (.ret)) (.skip))))) (.reg Qrv))))
abbrev Qrx:IL:=[je 4]
abbrev r78:RC:=jQ Qrp (.seq (jQ Qrq (.block 0 (.loop Qrw))) (jQ Qrx (.ret)))
abbrev o78:List RR:=[.tmp 4]
theorem k78:CT 78 20 r78 o78:=ck Tryz.func78 Tryz.ntmps78 (by decide +kernel)
abbrev Qry:IL:=[jg 1 1 0,zn 2]
abbrev Qrz:IL:=[jb 3 1 1,jc 4 3,ja 2 4]
abbrev r79:RC:=jQ Qry (jQ Qrz (.ret))
abbrev o79:List RR:=[.tmp 2]
theorem k79:CT 79 5 r79 o79:=ck Tryz.func79 Tryz.ntmps79 (by decide +kernel)
abbrev QrA:IL:=[jg 1 1 0,je 2]
abbrev QrB:IL:=[jb 3 2 1,jc 4 3,GG 5 81 4 82,ja 2 5]
abbrev r80:RC:=jQ QrA (jQ QrB (.ret))
abbrev o80:List RR:=[.tmp 2]
theorem k80:CT 80 6 r80 o80:=ck Tryz.func80 Tryz.ntmps80 (by decide +kernel)
abbrev QrC:IL:=[jg 3 3 1,je 4]
abbrev QrD:IL:=[ja 7 0,jk 8 1 7,jd 9 0]
abbrev QrE:IL:=[jr 10 9 8]
abbrev QrF:IL:=[ja 11 9,jl 12 3 7 9,jj 13 3 12,FA 6 6,ja 5 11,jo 3 6 13]
abbrev QrG:IL:=[ja 14 0,ja 15 5,Fz 16 3 14 15,NY 17 140 3 6,ye 18 64 16 17]
abbrev QrH:IL:=[yb 4]
abbrev QrI:IL:=[jn 19 9 1,ja 9 19]
abbrev QrJ:RC:=.gho (.drop 6) (jQ QrE (.seq (jX 10 0) (.seq (.block 1 (jQ QrF (jQ QrG (.cond (.t 18) (jQ QrH (.ret)) (.skip))))) (.reg QrI))))
abbrev QrK:IL:=[je 4]
abbrev r81:RC:=jQ QrC (.seq (jQ QrD (.block 0 (.loop QrJ))) (jQ QrK (.ret)))
abbrev o81:List RR:=[.tmp 4]
theorem k81:CT 81 20 r81 o81:=ck Tryz.func81 Tryz.ntmps81 (by decide +kernel)
abbrev QrL:IL:=[jg 1 1 0,zn 2]
abbrev QrM:IL:=[jb 3 0 1,jc 4 3,ja 2 4]
abbrev r82:RC:=jQ QrL (jQ QrM (.ret))
abbrev o82:List RR:=[.tmp 2]
theorem k82:CT 82 5 r82 o82:=ck Tryz.func82 Tryz.ntmps82 (by decide +kernel)
abbrev QrN:IL:=[jg 1 1 0,je 2]
abbrev QrO:IL:=[jb 3 1 1,jc 4 3,GG 5 60 4 84,ja 2 5]
abbrev r83:RC:=jQ QrN (jQ QrO (.ret))
abbrev o83:List RR:=[.tmp 2]
theorem k83:CT 83 6 r83 o83:=ck Tryz.func83 Tryz.ntmps83 (by decide +kernel)
abbrev QrP:IL:=[jg 1 1 0,je 2]
abbrev QrQ:IL:=[jb 3 0 1,jc 4 3,yl 5 4 1,ja 6 5,jm 7 0 1 6,jv 8 7 6,yy 9 8 65535 6,jq 10 6 9,ja 2 10]
abbrev r84:RC:=jQ QrP (jQ QrQ (.ret))
abbrev o84:List RR:=[.tmp 2]
theorem k84:CT 84 11 r84 o84:=ck Tryz.func84 Tryz.ntmps84 (by decide +kernel)
abbrev QrR:IL:=[jg 1 1 0,je 2]
abbrev QrS:IL:=[jb 5 3 1,jc 6 5,jk 7 1 6,jd 8 0]
abbrev QrT:IL:=[jr 9 8 7]
abbrev QrU:IL:=[ja 10 8,jl 11 2 6 8,jj 12 2 11,⟨some 4,.allocN 4 [.int .i64 0,.int .i64 0],none⟩,ja 3 10,jo 2 4 12]
abbrev QrV:IL:=[jb 13 0 4,jt 14 0 4 13,yl 15 14 0,ja 16 15,jm 17 1 4 16,ys 18 0 4 17 16,yy 19 18 2147483647 16,jq 20 16 19,ja 21 20,jm 22 1 4 21,ys 23 0 4 22 21,jm 24 0 4 21,ys 25 0 4 24 21,⟨some 26,.val (.bin .num .lss (.t 23) (.t 25)),(some (21,false))⟩,jq 27 21 26,ja 28 27,jw 29 3 28,yy 30 29 0 28,jw 31 30 28,jf 32 0 4 31,yh 33 0 4 32 31,jf 34 3 1 31,yh 35 0 1 34 31,jh 36 3 31,GH 37 36 1 31,yi 38 2 35 37 31,jf 39 1 38 31,yu 40 39 31,Ug 41 33 40 31,zo 42 31 41 28,jq 43 28 42]
abbrev QrW:IL:=[yb 2]
abbrev QrX:IL:=[jn 44 8 1,ja 8 44]
abbrev QrY:RC:=.gho (.drop 4) (jQ QrT (.seq (jX 9 0) (.seq (.block 1 (jQ QrU (jD QrV (.cond (.t 43) (jQ QrW (.ret)) (.skip))))) (.reg QrX))))
abbrev QrZ:IL:=[jb 45 2 1,jc 46 45,⟨some 47,.val (.iaddr 3 none (.t 46) (.c (.int .i64 0))),none⟩,jb 48 1 47,jc 49 48,yo 50 49 0,ja 51 50,jm 52 2 1 51,jv 53 52 51,⟨some 54,.val (.mkfn (.func 141) [] [(.t 1)]),(some (51,false))⟩,⟨some 55,.callF (.f 64) [(.t 53),(.t 54)],(some (51,false))⟩,jq 56 51 55,ja 2 56]
abbrev r85:RC:=jQ QrR (.seq (jQ QrS (.block 0 (.loop QrY))) (jQ QrZ (.ret)))
abbrev o85:List RR:=[.tmp 2]
theorem k85:CT 85 57 r85 o85:=ck Tryz.func85 Tryz.ntmps85 (by decide +kernel)
abbrev Qr0:IL:=[jg 2 2 0,je 3]
abbrev Qr1:IL:=[jj 4 3 2,js 5 87 4,jy 6 5,ja 7 6,jm 8 1 2 7,jv 9 8 7,⟨some 10,.val (.mkfn (.func 88) [] [(.t 1)]),(some (7,false))⟩,⟨some 11,.callF (.f 60) [(.t 9),(.t 10)],(some (7,false))⟩,jq 12 7 11,ja 3 12]
abbrev r86:RC:=jQ Qr0 (jQ Qr1 (.ret))
abbrev o86:List RR:=[.tmp 3]
theorem k86:CT 86 13 r86 o86:=ck Tryz.func86 Tryz.ntmps86 (by decide +kernel)
abbrev Qr2:IL:=[jg 1 1 0,je 2]
abbrev Qr3:IL:=[jd 3 (-1),jd 4 (-1)]
abbrev Qr4:IL:=[jb 7 1 1,jc 8 7,jk 9 1 8,jd 10 0]
abbrev Qr5:IL:=[jr 11 10 9]
abbrev Qr6:IL:=[jl 12 8 8 10,jj 13 8 12,NU 6 6,jo 8 6 13]
abbrev Qr7:IL:=[jb 14 7 6,jc 15 14,yo 16 15 (-1),ja 17 16,jf 18 3 6 17,jp 19 18 17,zw 20 19 2 17,jh 21 20 17,jm 22 7 6 21,jv 23 22 21,jw 24 3 21,⟨some 25,.val (.bin .num .add (.t 24) (.c (.int .i64 1))),(some (21,false))⟩,zj 26 23 25 21,jw 27 26 21,jf 28 7 6 27,jp 29 28 27,jh 30 4 27,⟨some 31,.val (.bin .num .neq (.t 29) (.t 30)),(some (27,true))⟩,zo 32 27 31 21,Fu 33 21 32 17,ji 34 17 33]
abbrev Qr8:IL:=[je 2]
abbrev Qr9:IL:=[ja 35 3,jb 36 7 6,jt 37 0 6 36,⟨some 38,.val (.mnx true (.t 35) (.t 37)),none⟩,jb 39 7 6,jt 40 0 6 39,ja 3 38,ja 4 40]
abbrev Qsa:IL:=[jn 41 10 1,ja 10 41]
abbrev Qsb:RC:=.gho (.drop 6) (jQ Qr5 (.seq (jX 11 0) (.seq (.block 1 (jQ Qr6 (.seq (jQ Qr7 (.cond (.t 34) (jQ Qr8 (.ret)) (.skip))) (.draw Qr9)))) (.reg Qsa))))
abbrev Qsc:IL:=[jb 42 2 1,jc 43 42,ja 44 3,jn 45 44 1,zq 46 43 45,ja 2 46]
abbrev r87:RC:=jQ Qr2 (jQ Qr3 (.seq (jQ Qr4 (.block 0 (.loop Qsb))) (jQ Qsc (.ret))))
abbrev o87:List RR:=[.tmp 2]
theorem k87:CT 87 47 r87 o87:=ck Tryz.func87 Tryz.ntmps87 (by decide +kernel)
abbrev Qsd:IL:=[jg 2 2 0,je 3]
abbrev Qse:IL:=[jb 4 2 2,jc 5 4,js 6 89 5,jy 7 6,ja 8 7,jm 9 2 2 8,jv 10 9 8,yw 11 0 10 8,yy 12 11 4096 8,jq 13 8 12,ja 14 13,jm 15 3 2 14,jv 16 15 14,⟨some 17,.val (.bin .num .lss (.t 16) (.c (.int .i64 1))),(some (14,false))⟩,jq 18 14 17,ja 19 18,jm 20 3 2 19,jv 21 20 19,yy 22 21 5 19,jq 23 19 22,ja 24 23,zz 25 8 2 24,zg 26 90 25 24,zf 27 26 24,jq 28 24 27,ja 29 28,zz 30 2 1 29,zz 31 8 2 29,zx 32 91 30 31 29,zf 33 32 29,jq 34 29 33,ja 3 34]
abbrev r88:RC:=jQ Qsd (jQ Qse (.ret))
abbrev o88:List RR:=[.tmp 3]
theorem k88:CT 88 35 r88 o88:=ck Tryz.func88 Tryz.ntmps88 (by decide +kernel)
abbrev Qsf:IL:=[je 2]
abbrev Qsg:IL:=[ja 3 0,js 4 143 3,yl 5 4 0,ja 2 5]
abbrev r89:RC:=jQ Qsf (jQ Qsg (.ret))
abbrev o89:List RR:=[.tmp 2]
theorem k89:CT 89 6 r89 o89:=ck Tryz.func89 Tryz.ntmps89 (by decide +kernel)
abbrev Qsh:IL:=[jg 1 1 0,je 2]
abbrev Qsi:IL:=[jb 3 3 1,jc 4 3,yo 5 4 5]
abbrev Qsj:IL:=[jb 6 4 1,jc 7 6,ju 8 7 0,ja 2 8]
abbrev Qsk:IL:=[jb 9 4 1,jc 10 9,yd 11 10 1,ja 12 11,jf 13 4 1 12,jp 14 13 12,yn 15 14 7 12,ji 16 12 15,ja 17 16,jf 18 4 1 17,jp 19 18 17,zw 20 19 6 17,ji 21 17 20,ja 2 21]
abbrev r90:RC:=jQ Qsh (.seq (jQ Qsi (.cond (.t 5) (jQ Qsj (.ret)) (.skip))) (jQ Qsk (.ret)))
abbrev o90:List RR:=[.tmp 2]
theorem k90:CT 90 22 r90 o90:=ck Tryz.func90 Tryz.ntmps90 (by decide +kernel)
abbrev Qsl:IL:=[jg 2 2 0,jg 3 3 1,je 4]
abbrev Qsm:IL:=[jb 5 5 3,jc 6 5]
abbrev Qsn:IL:=[ju 8 6 10,ja 7 8]
abbrev Qso:IL:=[jb 9 6 3,jc 10 9,yd 11 10 0,ja 12 11,jf 13 6 3 12,jp 14 13 12,jf 15 0 2 12,jp 16 15 12,ya 17 1 16 12,zk 18 14 17 12,ji 19 12 18,ja 20 19,jf 21 3 3 20,jp 22 21 20,zw 23 22 3 20,ji 24 20 23,ja 4 24]
abbrev Qsp:IL:=[ju 26 6 9,ja 25 26]
abbrev Qsq:IL:=[jb 27 6 3,jc 28 27,yd 29 28 0,ja 30 29,jf 31 6 3 30,jp 32 31 30,jf 33 1 2 30,jp 34 33 30,ya 35 1 34 30,zk 36 32 35 30,ji 37 30 36,ja 4 37]
abbrev Qsr:IL:=[jb 38 5 3,jc 39 38,js 40 144 39,ja 41 40,jf 42 6 3 41,jp 43 42 41,za 44 43 (-1) 41,ji 45 41 44,ja 4 45]
abbrev r91:RC:=jQ Qsl (.seq (jQ Qsm (.block 0 (jQ Qsn (.cond (.t 7) (jQ Qso (.ret)) (jQ Qsp (.cond (.t 25) (jQ Qsq (.ret)) (.skip))))))) (jQ Qsr (.ret)))
abbrev o91:List RR:=[.tmp 4]
theorem k91:CT 91 46 r91 o91:=ck Tryz.func91 Tryz.ntmps91 (by decide +kernel)
abbrev Qss:IL:=[jg 1 1 0,je 2]
abbrev Qst:IL:=[jb 3 4 1,jc 4 3,jk 5 1 4,yr 6 5 0,ja 7 6,jm 8 2 1 7,jv 9 8 7,zh 10 64 9 93 7,jq 11 7 10,ja 2 11]
abbrev r92:RC:=jQ Qss (jQ Qst (.ret))
abbrev o92:List RR:=[.tmp 2]
theorem k92:CT 92 12 r92 o92:=ck Tryz.func92 Tryz.ntmps92 (by decide +kernel)
abbrev Qsu:IL:=[jg 1 1 0,je 2]
abbrev Qsv:IL:=[jb 3 2 1,jc 4 3,jk 5 1 4,yr 6 5 1,ja 7 6,jm 8 2 1 7,jv 9 8 7,yw 10 1 9 7,zl 11 10 1 7,jw 12 11 7,jf 13 2 1 12,jp 14 13 12,⟨some 15,.val (.iaddr 8 none (.t 14) (.c (.int .i64 0))),(some (12,true))⟩,jf 16 0 15 12,jp 17 16 12,⟨some 18,.val (.bin .str .neq (.t 17) (.c (.str [97,108,105,97,115]))),(some (12,true))⟩,jh 19 18 12,jm 20 2 1 19,jv 21 20 19,⟨some 22,.call (.f 94) [(.t 21),(.c (.int .i64 4))],(some (19,false))⟩,NW 23 22 0 19,Fu 24 19 23 12,zo 25 12 24 7,jq 26 7 25,ja 2 26]
abbrev r93:RC:=jQ Qsu (jQ Qsv (.ret))
abbrev o93:List RR:=[.tmp 2]
theorem k93:CT 93 27 r93 o93:=ck Tryz.func93 Tryz.ntmps93 (by decide +kernel)
abbrev Qsw:IL:=[jg 2 2 0,je 3]
abbrev Qsx:IL:=[jb 4 3 2,jc 5 4,ju 6 5 1,ja 7 6,jf 8 5 2 7,jp 9 8 7,za 10 9 10 7,ji 11 7 10,ja 12 11,jp 13 1 12,jf 14 6 2 12,jp 15 14 12,yi 16 1 13 15 12,jp 17 16 12,yx 18 17 12,ji 19 12 18,ja 3 19]
abbrev r95:RC:=jQ Qsw (jQ Qsx (.ret))
abbrev o95:List RR:=[.tmp 3]
theorem k95:CT 95 20 r95 o95:=ck Tryz.func95 Tryz.ntmps95 (by decide +kernel)
abbrev Qsy:IL:=[je 4]
abbrev Qsz:IL:=[ja 5 0,ja 6 1,jx 7 146 5 6,yd 8 7 0,ja 4 8]
abbrev r96:RC:=jQ Qsy (jQ Qsz (.ret))
abbrev o96:List RR:=[.tmp 4]
theorem k96:CT 96 9 r96 o96:=ck Tryz.func96 Tryz.ntmps96 (by decide +kernel)
def Cb:IL:=[jg 1 1 0,yp 2]
def Cc:IL:=[jb 6 0 1,jc 7 6,⟨some 8,.val (.build [.str [],.int .i64 0,.nils] [(0,1,(.t 7)),(1,1,(.c (.int .i64 (-1))))]),none⟩,jg 9 9 8,ja 3 9]
def Cd:IL:=[ja 10 3,jb 11 0 1,jc 12 11,js 13 151 12,yc 14 98 10 13 8]
def Du:IL:=[ja 15 3,jb 16 2 1,jc 17 16,jk 18 1 17,yd 19 18 1,ja 20 19,jf 21 2 1 20,jp 22 21 20,ya 23 1 22 20,yn 24 23 64 20,ji 25 20 24,ja 26 25,jf 27 3 1 26,jp 28 27 26,ya 29 1 28 26,yn 30 29 16 26,ji 31 26 30,yc 32 98 15 31 3]
def Dv:IL:=[ja 33 3,jb 34 2 1,jc 35 34,jk 36 1 35,ju 37 36 0,ja 38 37,jm 39 2 1 38,jv 40 39 38,⟨some 41,.val (.iaddr 3 none (.t 40) (.c (.int .i64 0))),(some (38,false))⟩,jm 42 1 41 38,jv 43 42 38,zl 44 43 0 38,jq 45 38 44,yc 46 98 33 45 14]
def Ce:IL:=[jb 47 2 1,jc 48 47,jk 49 1 48,jd 50 0]
def Cf:IL:=[jr 51 50 49]
def Cg:IL:=[ja 52 50,jl 53 3 48 50,jj 54 3 53,FA 5 5,ja 4 52,jo 3 5 54]
def Ch:IL:=[ja 55 3,jb 56 1 5,jc 57 56,yq 58 55,jb 59 1 58,jo 1 59 57]
def Dw:IL:=[ja 60 3,jb 61 1 5,jc 62 61,yd 63 62 0,ja 64 63,jf 65 1 5 64,jp 66 65 64,yn 67 66 2147483647 64,ji 68 64 67,yc 69 98 60 68 6]
def W6:IL:=[ja 70 3,ja 71 4,ju 72 71 0,ja 73 72,jm 74 1 5 73,ys 75 0 5 74 73,jm 76 2 1 73,ys 77 0 1 76 73,jw 78 4 73,Fy 79 78 1 73,zb 80 3 77 79 73,jm 81 1 80 73,zd 82 81 73,NZ 83 75 82 73,jq 84 73 83,yc 85 98 70 84 11]
def US:IL:=[ja 86 3,jb 87 0 5,jc 88 87,js 89 156 88,yc 90 98 86 89 8]
def UT:IL:=[ja 91 3,jb 92 2 1,jc 93 92,ja 94 4,⟨some 95,.callF (.f 157) [(.t 93),(.t 94),(.f 158)],none⟩,jy 96 95,yc 97 98 91 96 9]
def UU:IL:=[ja 98 3,jb 99 3 1,jc 100 99,jb 101 1 5,jc 102 101,jx 103 142 100 102,jy 104 103,yc 105 98 98 104 21]
def UV:IL:=[ja 106 3,jb 107 2 5,jc 108 107,yc 109 154 106 108 4]
def FM:IL:=[jn 110 50 1,ja 50 110]
def Ci:RC:=.gho (.drop 5) (jQ Cf (.seq (jX 51 0) (.seq (.block 1 (jQ Cg (jQ Ch (jQ Dw (jD W6 (jQ US (jQ UT (jQ UU (.reg UV))))))))) (.reg FM))))
def FN:IL:=[ja 111 3,yq 112 111,jb 113 1 112,⟨none,.store 1 (.t 113) (.c (.int .i64 (-1))),none⟩]
def FO:IL:=[ja 114 3,jb 115 3 1,jc 116 115,yt 117 153 114 116 0 2147483647]
def FP:IL:=[ja 118 3,jb 119 4 1,jc 120 119,yc 121 154 118 120 3]
def FQ:IL:=[ja 122 3,yq 123 122,jb 124 2 123,jc 125 124,ja 2 125]
def QeY:RC:=jQ Cb (jQ Cc (.gho (.vecc 9 2 1100 3) (jQ Cd (jQ Du (jQ Dv (.seq (jQ Ce (.block 0 (.loop Ci))) (jQ FN (jQ FO (jQ FP (jQ FQ (.ret)))))))))))
def QeZ:List RR:=[.tmp 2]
theorem Qux:CT 103 126 QeY QeZ:=ck Tryz.func103 Tryz.ntmps103 (by decide +kernel)
def Cj:IL:=[jg 2 2 0,jg 3 3 1,yp 4]
def Ck:IL:=[jb 12 0 3,jc 13 12,⟨some 14,.val (.build [.str [],.int .i64 0,.nils] [(0,1,(.t 13)),(1,1,(.c (.int .i64 (-1))))]),none⟩,jg 15 15 14,ja 5 15]
def Cl:IL:=[ja 16 5,jb 17 0 3,jc 18 17,js 19 151 18,yc 20 98 16 19 8]
def Cm:IL:=[ja 21 5,jb 22 1 3,jc 23 22,jk 24 1 23,Fw 25 24 64,yc 26 98 21 25 3]
def Cn:IL:=[jb 27 1 3,jc 28 27,jk 29 1 28,jd 30 0]
def Co:IL:=[jr 31 30 29]
def Cq:IL:=[ja 32 30,jl 33 5 28 30,jj 34 5 33,⟨some 7,.allocN 7 [.str [],.str [],.str [],.int .i64 0,.nils],none⟩,ja 6 32,jo 5 7 34]
def Cr:IL:=[ja 35 5,ja 36 6,yq 37 35,jb 38 1 37,jo 1 38 36]
def Dx:IL:=[ja 39 5,jb 40 0 7,jc 41 40,js 42 156 41,yc 43 98 39 42 8]
def Us:IL:=[ja 44 5,ja 45 6,ju 46 45 0,ja 47 46,jm 48 0 7 47,ys 49 0 7 48 47,jm 50 1 3 47,ys 51 0 3 50 47,jw 52 6 47,Fy 53 52 1 47,zb 54 5 51 53 47,jm 55 0 54 47,zd 56 55 47,⟨some 57,.val (.bin .str .gtr (.t 49) (.t 56)),(some (47,false))⟩,jq 58 47 57,yc 59 98 44 58 11]
def FR:IL:=[jj 61 3 2,jb 62 1 7,jc 63 62,jx 64 148 61 63,ja 60 64,jz 65 60 0,jz 66 60 1,ze 8 8,jo 5 8 65,ja 9 66]
def FS:IL:=[jj 68 3 2,jb 69 2 7,jc 70 69,jx 71 148 68 70,ja 67 71,jz 72 67 0,jz 73 67 1,ze 10 10,jo 5 10 72,ja 11 73]
def UW:IL:=[ja 74 5,ja 75 9,ja 76 75,jh 77 11 76,ji 78 76 77,yc 79 98 74 78 12]
def UX:IL:=[ja 80 5,jb 81 3 7,jc 82 81,yd 83 82 1,ja 84 83,jf 85 3 7 84,jp 86 85 84,yn 87 86 4 84,ji 88 84 87,yc 89 98 80 88 1]
def UY:IL:=[ja 90 5,jb 91 4 7,jc 92 91,yc 93 154 90 92 6]
def FT:IL:=[jn 94 30 1,ja 30 94]
def Cs:RC:=.gho (.drop 10) (.gho (.drop 8) (.gho (.drop 7) (jQ Co (.seq (jX 31 0) (.seq (.block 1 (jQ Cq (jQ Cr (jQ Dx (jD Us (jQ FR (jQ FS (jQ UW (jQ UX (.reg UY)))))))))) (.reg FT))))))
def FU:IL:=[ja 95 5,yq 96 95,jb 97 1 96,⟨none,.store 1 (.t 97) (.c (.int .i64 (-1))),none⟩]
def FV:IL:=[ja 98 5,jb 99 2 3,jc 100 99,yc 101 154 98 100 5]
def FW:IL:=[ja 102 5,yq 103 102,jb 104 2 103,jc 105 104,ja 4 105]
def Qe0:RC:=jQ Cj (jQ Ck (.gho (.vecc 15 2 1100 3) (jQ Cl (jQ Cm (.seq (jQ Cn (.block 0 (.loop Cs))) (jQ FU (jQ FV (jQ FW (.ret)))))))))
def Qe1:List RR:=[.tmp 4]
theorem Quy:CT 104 106 Qe0 Qe1:=ck Tryz.func104 Tryz.ntmps104 (by decide +kernel)
abbrev Qe2:IL:=[jg 2 2 0,je 3]
abbrev Qe3:IL:=[jb 4 0 2,jc 5 4,jb 6 1 1,jc 7 6,yf 8 5 7,ja 3 8]
abbrev Quz:RC:=jQ Qe2 (jQ Qe3 (.ret))
abbrev QuA:List RR:=[.tmp 3]
theorem QuB:CT 106 9 Quz QuA:=ck Tryz.func106 Tryz.ntmps106 (by decide +kernel)
abbrev Qe4:IL:=[jd 4 0]
abbrev Qe5:IL:=[ja 6 0,jk 7 1 6,jd 8 0]
abbrev Qe6:IL:=[jr 9 8 7]
abbrev Qe7:IL:=[ja 10 8,ja 5 10]
abbrev Qe8:IL:=[ja 11 1,ja 12 0,ja 13 5,jl 14 5 12 13,jj 15 5 14,zv 16 11 15]
abbrev Qe9:IL:=[ja 17 5,ja 4 17]
abbrev Qfa:IL:=[jn 18 8 1,ja 8 18]
abbrev Qfb:RC:=jQ Qe6 (.seq (jX 9 0) (.seq (.block 1 (jQ Qe7 (jQ Qe8 (.cond (.t 16) (jQ Qe9 (.ret)) (.skip))))) (.reg Qfa)))
abbrev Qfc:IL:=[jd 4 (-1)]
abbrev QuC:RC:=jQ Qe4 (.seq (jQ Qe5 (.block 0 (.loop Qfb))) (jQ Qfc (.ret)))
abbrev QuD:List RR:=[.tmp 4]
theorem Qfd:CT 107 19 QuC QuD:=ck Tryz.func107 Tryz.ntmps107 (by decide +kernel)
abbrev Qfe:IL:=[jg 2 2 0,je 3]
abbrev Qff:IL:=[jb 4 0 2,jc 5 4,jb 6 1 1,jc 7 6,yf 8 5 7,ja 3 8]
abbrev QuE:RC:=jQ Qfe (jQ Qff (.ret))
abbrev QuF:List RR:=[.tmp 3]
theorem QuG:CT 108 9 QuE QuF:=ck Tryz.func108 Tryz.ntmps108 (by decide +kernel)
abbrev Qfg:IL:=[je 4]
abbrev Qfh:IL:=[jd 5 0]
abbrev Qfi:IL:=[ja 6 5,ja 7 0,jk 8 1 7,jr 9 6 8]
abbrev Qfj:IL:=[ja 12 0,ja 13 5,jl 14 1 12 13,jc 15 14,ja 16 1,yf 17 15 16]
abbrev Qfk:IL:=[yb 4]
abbrev Qfl:IL:=[ja 10 5,jn 11 10 1,ja 5 11]
abbrev Qfm:RC:=.seq (jQ Qfi (jX 9 0)) (.seq (.block 1 (jQ Qfj (.cond (.t 17) (jQ Qfk (.ret)) (.skip)))) (.reg Qfl))
abbrev Qfn:IL:=[je 4]
abbrev QuH:RC:=jQ Qfg (.seq (jQ Qfh (.block 0 (.loop Qfm))) (jQ Qfn (.ret)))
abbrev QuI:List RR:=[.tmp 4]
theorem QuJ:CT 117 18 QuH QuI:=ck Tryz.func117 Tryz.ntmps117 (by decide +kernel)
abbrev Qfo:IL:=[jg 3 3 0,jg 4 4 1,je 6]
abbrev Qfp:IL:=[jd 7 0]
abbrev Qfq:IL:=[ja 10 7,jb 11 1 4,jc 12 11,jk 13 1 12,jr 14 10 13]
abbrev Qfr:IL:=[jb 17 1 4,jc 18 17,ja 19 7,jl 20 16 18 19,jj 21 16 20,zt 8 8,jo 16 8 21]
abbrev Qfs:IL:=[jb 22 2 8,jc 23 22,yo 24 23 1,ja 25 24,jm 26 4 8 25,jm 27 0 26 25,jv 28 27 25,NW 29 28 10 25,jq 30 25 29]
abbrev Qft:IL:=[jj 31 3 3,jb 32 4 8,jb 33 1 32,jc 34 33,jx 35 129 31 34,ja 9 35]
abbrev Qfu:IL:=[ja 36 9,yd 37 36 0,ja 38 37,jh 39 2 38,jh 40 9 38,yi 41 1 39 40 38,jp 42 41 38,yx 43 42 38,ji 44 38 43]
abbrev Qfv:IL:=[yb 6]
abbrev Qfw:IL:=[ja 15 7,jn 16 15 1,ja 7 16]
abbrev Qfx:RC:=.gho (.drop 8) (.seq (jQ Qfq (jX 14 0)) (.seq (.block 1 (jQ Qfr (.seq (jQ Qfs (.cond (.t 30) (.exit 1) (.skip))) (jQ Qft (jQ Qfu (.cond (.t 44) (jQ Qfv (.ret)) (.skip))))))) (.reg Qfw)))
abbrev Qfy:IL:=[je 6]
abbrev QuK:RC:=jQ Qfo (.seq (jQ Qfp (.block 0 (.loop Qfx))) (jQ Qfy (.ret)))
abbrev QuL:List RR:=[.tmp 6]
theorem QuM:CT 118 45 QuK QuL:=ck Tryz.func118 Tryz.ntmps118 (by decide +kernel)
abbrev Qfz:IL:=[je 2]
abbrev QfA:IL:=[ja 6 0,js 7 167 6,jy 8 7]
abbrev QfB:IL:=[je 2]
abbrev QfC:IL:=[jd 3 0]
abbrev QfD:IL:=[ja 9 3,yl 10 9 120,ja 11 10,jh 12 0 11,⟨some 13,.val (.bin .str .neq (.t 12) (.c (.str []))),(some (11,true))⟩,ji 14 11 13]
abbrev QfE:IL:=[ja 18 0,js 19 168 18,ja 17 19,jz 20 17 0,jz 21 17 1,ja 4 20,ja 5 21]
abbrev QfF:IL:=[ja 22 5,js 23 169 22]
abbrev QfG:IL:=[je 2]
abbrev QfH:IL:=[ja 24 4,ja 0 24]
abbrev QfI:IL:=[ja 15 3,jn 16 15 1,ja 3 16]
abbrev QfJ:RC:=.seq (jQ QfD (jX 14 0)) (.seq (.block 1 (jQ QfE (.seq (jQ QfF (.cond (.t 23) (jQ QfG (.ret)) (.skip))) (.reg QfH)))) (.reg QfI))
abbrev TO:IL:=[yb 2]
abbrev QuN:RC:=jQ Qfz (.seq (jQ QfA (.cond (.t 8) (jQ QfB (.ret)) (.skip))) (.seq (jQ QfC (.block 0 (.loop QfJ))) (jQ TO (.ret))))
abbrev QuO:List RR:=[.tmp 2]
theorem QuP:CT 119 25 QuN QuO:=ck Tryz.func119 Tryz.ntmps119 (by decide +kernel)
abbrev QfK:IL:=[je 2]
abbrev QfL:IL:=[ja 3 0,js 4 170 3,ja 5 4,jh 6 0 5,HB 7 169 6 5,yx 8 7 5,ji 9 5 8,ja 2 9]
abbrev QuQ:RC:=jQ QfK (jQ QfL (.ret))
abbrev QuR:List RR:=[.tmp 2]
theorem QuS:CT 120 10 QuQ QuR:=ck Tryz.func120 Tryz.ntmps120 (by decide +kernel)
abbrev QfM:IL:=[je 4]
abbrev QfN:IL:=[jd 5 0]
abbrev QfO:IL:=[ja 6 5,ja 7 0,jk 8 1 7,jr 9 6 8]
abbrev QfP:IL:=[ja 12 0,ja 13 5,jl 14 2 12 13,jb 15 0 14,jc 16 15,ja 17 1,⟨some 18,.val (.bin .num .leq (.t 16) (.t 17)),none⟩,ja 19 18,jh 20 1 19,jh 21 0 19,jh 22 5 19,yi 23 2 21 22 19,jf 24 1 23 19,jp 25 24 19,Ug 26 20 25 19,ji 27 19 26]
abbrev QfQ:IL:=[yb 4]
abbrev QfR:IL:=[ja 10 5,jn 11 10 1,ja 5 11]
abbrev QfS:RC:=.seq (jQ QfO (jX 9 0)) (.seq (.block 1 (jQ QfP (.cond (.t 27) (jQ QfQ (.ret)) (.skip)))) (.reg QfR))
abbrev QfT:IL:=[je 4]
abbrev QuT:RC:=jQ QfM (.seq (jQ QfN (.block 0 (.loop QfS))) (jQ QfT (.ret)))
abbrev QuU:List RR:=[.tmp 4]
theorem QuV:CT 121 28 QuT QuU:=ck Tryz.func121 Tryz.ntmps121 (by decide +kernel)
abbrev QfU:IL:=[jg 1 1 0,je 2]
abbrev QfV:IL:=[jb 3 2 1,jc 4 3,yo 5 4 5]
abbrev QfW:IL:=[jb 6 2 1,jc 7 6,yd 8 7 1,ja 9 8,jf 10 2 1 9,jp 11 10 9,yn 12 11 4 9,ji 13 9 12,ja 14 13,jf 15 3 1 14,jp 16 15 14,za 17 16 0 14,ji 18 14 17,ja 2 18]
abbrev QfX:IL:=[jb 19 3 1,jc 20 19]
abbrev QfY:IL:=[ju 22 20 1,ja 21 22]
abbrev QfZ:IL:=[ju 23 20 2,ja 21 23]
abbrev Qf0:IL:=[ju 24 20 3,ja 21 24]
abbrev Qf1:IL:=[ju 25 20 4,ja 21 25]
abbrev Qf2:IL:=[ju 26 20 5,ja 21 26]
abbrev Qf3:IL:=[ju 27 20 7,ja 21 27]
abbrev TP:IL:=[yb 2]
abbrev TQ:IL:=[je 2]
abbrev QuW:RC:=jQ QfU (.seq (jQ QfV (.cond (.t 5) (jQ QfW (.ret)) (.skip))) (.seq (jQ QfX (.block 0 (.seq (jQ QfY (.cond (.t 21) (.skip) (jQ QfZ (.cond (.t 21) (.skip) (jQ Qf0 (.cond (.t 21) (.skip) (jQ Qf1 (.cond (.t 21) (.skip) (jQ Qf2 (.cond (.t 21) (.skip) (.reg Qf3))))))))))) (.cond (.t 21) (jQ TP (.ret)) (.skip))))) (jQ TQ (.ret))))
abbrev QuX:List RR:=[.tmp 2]
theorem QuY:CT 122 28 QuW QuX:=ck Tryz.func122 Tryz.ntmps122 (by decide +kernel)
abbrev Qf4:IL:=[jg 2 2 0,jg 3 3 1,je 4]
abbrev Qf5:IL:=[jb 5 4 3,jb 6 0 5,jc 7 6]
abbrev Qf6:IL:=[ju 9 7 9,ja 8 9]
abbrev Qf7:IL:=[jj 10 3 2,jb 11 4 3,jb 12 1 11,jc 13 12,jx 14 171 10 13,yd 15 14 0,ja 4 15]
abbrev Qf8:IL:=[ju 17 7 10,ja 16 17]
abbrev Qf9:IL:=[jj 18 3 2,jb 19 4 3,jb 20 1 19,jc 21 20,jx 22 129 18 21,yd 23 22 0,ja 24 23,jf 25 2 3 24,jp 26 25 24,zw 27 26 3 24,ji 28 24 27,ja 4 28]
abbrev Qga:IL:=[jb 29 4 3,jb 30 0 29,jc 31 30,yd 32 31 1,ja 33 32,jf 34 4 3 33,jf 35 0 34 33,jp 36 35 33,yn 37 36 8 33,ji 38 33 37,ja 39 38,jf 40 4 3 39,jf 41 1 40 39,jp 42 41 39,⟨some 43,.val (.bin .str .eql (.t 42) (.c (.str []))),(some (39,true))⟩,ji 44 39 43,ja 4 44]
abbrev QuZ:RC:=jQ Qf4 (.seq (jQ Qf5 (.block 0 (jQ Qf6 (.cond (.t 8) (jQ Qf7 (.ret)) (jQ Qf8 (.cond (.t 16) (jQ Qf9 (.ret)) (.skip))))))) (jQ Qga (.ret)))
abbrev Qu0:List RR:=[.tmp 4]
theorem Qu1:CT 123 45 QuZ Qu0:=ck Tryz.func123 Tryz.ntmps123 (by decide +kernel)
abbrev Qgb:IL:=[jg 2 2 0,je 4]
abbrev Qgc:IL:=[jb 8 1 2,jc 9 8,ja 10 1,jl 11 16 9 10,jj 12 16 11,zt 5 5,jo 16 5 12]
abbrev Qgd:IL:=[jb 13 6 5,jc 14 13,N0 15 14]
abbrev Qge:IL:=[yb 4]
abbrev Qgf:IL:=[jb 16 2 5,jc 17 16,yo 18 17 2,ja 19 18,jm 20 6 5 19,jv 21 20 19,zg 22 120 21 19,zf 23 22 19,jq 24 19 23]
abbrev Qgg:IL:=[je 4]
abbrev Qgh:IL:=[je 6]
abbrev Qgi:IL:=[jd 7 0]
abbrev Qgj:IL:=[ja 25 7,jb 26 1 2,jc 27 26,jk 28 1 27,jr 29 25 28]
abbrev TR:IL:=[jb 32 1 2,jt 33 0 2 32,ja 34 7,jl 35 16 33 34,jb 36 1 35,yk 37 36,jb 38 6 5,jt 39 0 5 38,yf 40 37 39]
abbrev TS:IL:=[je 4]
abbrev TT:IL:=[ja 41 7,ja 42 1,jr 43 41 42,ja 44 43,jf 45 1 2 44,yh 46 0 2 45 44,jh 47 7 44,yi 48 16 46 47 44,jf 49 6 48 44,yu 50 49 44,jf 51 6 5 44,yh 52 0 5 51 44,HC 53 50 52 44,ji 54 44 53]
abbrev TU:IL:=[yb 6]
abbrev Qgk:IL:=[ja 30 7,jn 31 30 1,ja 7 31]
abbrev Qgl:RC:=.seq (jQ Qgj (jX 29 0)) (.seq (.block 1 (.seq (jD TR (.cond (.t 40) (jQ TS (.ret)) (.skip))) (jD TT (.cond (.t 54) (.reg TU) (.skip))))) (.reg Qgk))
abbrev TV:IL:=[ja 55 6,jy 56 55,ja 57 56,jm 58 1 2 57,ys 59 0 2 58 57,jw 60 1 57,Fy 61 60 1 57,zb 62 16 59 61 57,jm 63 6 62 57,zd 64 63 57,jm 65 6 5 57,ys 66 0 5 65 57,⟨some 67,.val (.bin .str .eql (.t 64) (.t 66)),(some (57,false))⟩,jq 68 57 67,ja 4 68]
abbrev Qu2:RC:=jQ Qgb (jQ Qgc (.seq (jQ Qgd (.cond (.t 15) (jQ Qge (.ret)) (.skip))) (.seq (jQ Qgf (.cond (.t 24) (jQ Qgg (.ret)) (.skip))) (jQ Qgh (.seq (jQ Qgi (.block 0 (.loop Qgl))) (jD TV (.ret)))))))
abbrev Qu3:List RR:=[.tmp 4]
theorem Qu4:CT 124 69 Qu2 Qu3:=ck Tryz.func124 Tryz.ntmps124 (by decide +kernel)
abbrev Qgm:IL:=[jg 2 2 0,jg 3 3 1,je 4]
abbrev Qgn:IL:=[jb 8 8 3,jj 9 7 8,Ft 5 5,jo 7 5 9]
abbrev Qgo:IL:=[jb 10 7 3,jc 11 10,jy 12 11]
abbrev Qgp:IL:=[jj 13 7 5,⟨some 14,.val (.build [.int .i64 0,.int .u64 0,.str [],.nils,.nils,.nils,.nils] []),none⟩,jx 15 172 13 14,ja 4 15]
abbrev Qgq:IL:=[jb 16 2 3,jt 17 0 3 16,yo 18 17 2,ja 19 18,jm 20 6 3 19,ys 21 0 3 20 19,⟨some 22,.val (.bin .str .neq (.t 21) (.c (.str []))),(some (19,false))⟩,jq 23 19 22,ja 24 23,jm 25 4 3 24,jm 26 0 25 24,ys 27 0 3 26 24,N1 28 0 5 7 5 24,zx 29 173 27 28 24,zf 30 29 24,jq 31 24 30,ja 32 31,N1 33 0 5 7 5 32,N1 34 0 5 7 5 32,zg 35 174 34 32,zx 36 172 33 35 32,zf 37 36 32,jq 38 32 37]
abbrev Qgr:IL:=[je 4]
abbrev Qgs:IL:=[jj 39 3 2,jb 40 4 3,jb 41 1 40,jc 42 41,jx 43 171 39 42,ja 6 43]
abbrev Qgt:IL:=[jb 44 4 3,jb 45 0 44,jc 46 45,yo 47 46 9]
abbrev Qgu:IL:=[yb 4]
abbrev Qgv:IL:=[ja 48 6,yl 49 48 0]
abbrev TW:IL:=[je 4]
abbrev TX:IL:=[jd 7 0]
abbrev TY:IL:=[ja 50 7,jb 51 1 2,jc 52 51,ja 53 6,jl 54 5 52 53,jb 55 2 54,jc 56 55,jk 57 1 56,jr 58 50 57]
abbrev TZ:IL:=[jb 61 1 2,jt 62 0 2 61,ja 63 6,jl 64 5 62 63,jb 65 2 64,yk 66 65,ja 67 7,jl 68 3 66 67,jb 69 1 68,yk 70 69,⟨some 71,.val (.cvi .u64 (.t 70)),none⟩,jb 72 1 5,jt 73 0 5 72,zq 74 71 73]
abbrev T0:IL:=[yb 4]
abbrev T1:IL:=[ja 59 7,jn 60 59 1,ja 7 60]
abbrev Qgw:RC:=.seq (jQ TY (jX 58 0)) (.seq (.block 1 (jD TZ (.cond (.t 74) (jQ T0 (.ret)) (.skip)))) (.reg T1))
abbrev T2:IL:=[je 4]
abbrev Qu5:RC:=jQ Qgm (jQ Qgn (.seq (jQ Qgo (.cond (.t 12) (jQ Qgp (.ret)) (.skip))) (.seq (jD Qgq (.cond (.t 38) (jQ Qgr (.ret)) (.skip))) (jQ Qgs (.seq (jQ Qgt (.cond (.t 47) (jQ Qgu (.ret)) (.skip))) (.seq (jQ Qgv (.cond (.t 49) (jQ TW (.ret)) (.skip))) (.seq (jQ TX (.block 0 (.loop Qgw))) (jQ T2 (.ret)))))))))
abbrev Qu6:List RR:=[.tmp 4]
theorem Qu7:CT 125 75 Qu5 Qu6:=ck Tryz.func125 Tryz.ntmps125 (by decide +kernel)
abbrev Qgx:IL:=[ja 9 1,ja 10 2,jx 11 175 9 10,ja 8 11]
abbrev Qgy:IL:=[ja 12 0,ja 13 8,yo 14 13 0,ja 15 3,ja 16 8,⟨some 17,.callF (.f 47) [(.t 12),(.t 14),(.t 15),(.t 16)],none⟩]
abbrev Qu8:RC:=jQ Qgx (.reg Qgy)
abbrev Qu9:List RR:=[]
theorem Qva:CT 126 18 Qu8 Qu9:=ck Tryz.func126 Tryz.ntmps126 (by decide +kernel)
def Ct:IL:=[jd 8 0]
def Cu:IL:=[ja 9 8,ja 10 1,jk 11 1 10,jr 12 9 11]
def Dy:IL:=[ja 15 0,ja 16 1,ja 17 8,jl 18 2 16 17,jb 19 0 18,yk 20 19,ja 21 2,jr 22 20 21,ja 23 22,jw 24 1 23,jw 25 8 23,zb 26 2 24 25 23,jm 27 1 26 23,zd 28 27 23,jw 29 3 23,NZ 30 28 29 23,jq 31 23 30,ja 32 31,jw 33 1 32,jw 34 8 32,zb 35 2 33 34 32,jm 36 0 35 32,zd 37 36 32,jw 38 1 32,jw 39 8 32,zb 40 2 38 39 32,jm 41 1 40 32,zd 42 41 32,NZ 43 37 42 32,jq 44 32 43,yt 45 47 15 44 (-1) 6]
def Ut:IL:=[ja 46 0,ja 47 8,yr 48 47 0,ja 49 48,jh 50 1 49,jh 51 8 49,yi 52 2 50 51 49,jf 53 0 52 49,yu 54 53 49,jh 55 1 49,jh 56 8 49,GH 57 56 1 49,yi 58 2 55 57 49,jf 59 1 58 49,yu 60 59 49,Ug 61 54 60 49,ji 62 49 61,yt 63 47 46 62 (-1) 11]
def Cv:IL:=[ja 13 8,jn 14 13 1,ja 8 14]
def Cw:RC:=.seq (jQ Cu (jX 12 0)) (.seq (.block 1 (jD Dy (.draw Ut))) (.reg Cv))
def Qgz:RC:=jQ Ct (.block 0 (.loop Cw))
def QgA:List RR:=[]
theorem Qvb:CT 127 64 Qgz QgA:=ck Tryz.func127 Tryz.ntmps127 (by decide +kernel)
abbrev QgB:IL:=[je 2]
abbrev QgC:IL:=[ja 3 0,js 4 176 3,yl 5 4 0,ja 2 5]
abbrev Qvc:RC:=jQ QgB (jQ QgC (.ret))
abbrev Qvd:List RR:=[.tmp 2]
theorem Qve:CT 128 6 Qvc Qvd:=ck Tryz.func128 Tryz.ntmps128 (by decide +kernel)
abbrev QgD:IL:=[jg 2 2 0,jd 4 0]
abbrev QgE:IL:=[jd 5 0]
abbrev QgF:IL:=[ja 6 5,jb 7 0 2,jc 8 7,jk 9 1 8,jr 10 6 9]
abbrev QgG:IL:=[jb 13 0 2,jc 14 13,ja 15 5,jl 16 5 14 15,jb 17 0 16,jc 18 17,ja 19 1,yf 20 18 19]
abbrev QgH:IL:=[ja 21 5,ja 4 21]
abbrev QgI:IL:=[ja 11 5,jn 12 11 1,ja 5 12]
abbrev QgJ:RC:=.seq (jQ QgF (jX 10 0)) (.seq (.block 1 (jQ QgG (.cond (.t 20) (jQ QgH (.ret)) (.skip)))) (.reg QgI))
abbrev QgK:IL:=[jd 4 (-1)]
abbrev Qvf:RC:=jQ QgD (.seq (jQ QgE (.block 0 (.loop QgJ))) (jQ QgK (.ret)))
abbrev Qvg:List RR:=[.tmp 4]
theorem Qvh:CT 129 22 Qvf Qvg:=ck Tryz.func129 Tryz.ntmps129 (by decide +kernel)
abbrev QgL:IL:=[je 4]
abbrev QgM:IL:=[ja 5 0,ja 6 1,ye 7 177 5 6,yd 8 7 0,ja 4 8]
abbrev Qvi:RC:=jQ QgL (jQ QgM (.ret))
abbrev Qvj:List RR:=[.tmp 4]
theorem Qvk:CT 130 9 Qvi Qvj:=ck Tryz.func130 Tryz.ntmps130 (by decide +kernel)
abbrev QgN:IL:=[je 4]
abbrev QgO:IL:=[ja 5 0,ja 6 1,ye 7 107 5 6,yd 8 7 0,ja 4 8]
abbrev Qvl:RC:=jQ QgN (jQ QgO (.ret))
abbrev Qvm:List RR:=[.tmp 4]
theorem Qvn:CT 131 9 Qvl Qvm:=ck Tryz.func131 Tryz.ntmps131 (by decide +kernel)
abbrev QgP:IL:=[je 4]
abbrev QgQ:IL:=[ja 5 0,ja 6 1,ye 7 180 5 6,yd 8 7 0,ja 4 8]
abbrev Qvo:RC:=jQ QgP (jQ QgQ (.ret))
abbrev Qvp:List RR:=[.tmp 4]
theorem Qvq:CT 136 9 Qvo Qvp:=ck Tryz.func136 Tryz.ntmps136 (by decide +kernel)
abbrev QgR:IL:=[je 4]
abbrev QgS:IL:=[ja 5 0,ja 6 1,ye 7 182 5 6,yd 8 7 0,ja 4 8]
abbrev Qvr:RC:=jQ QgR (jQ QgS (.ret))
abbrev Qvs:List RR:=[.tmp 4]
theorem QgT:CT 138 9 Qvr Qvs:=ck Tryz.func138 Tryz.ntmps138 (by decide +kernel)
abbrev QgU:IL:=[jg 3 3 0,je 4]
abbrev QgV:IL:=[jc 5 1,yj 6 0 3 8 3,HD 7 5 6,jc 8 1,jj 9 8 2,HD 10 8 9,yf 11 7 10,ja 4 11]
abbrev Qvt:RC:=jQ QgU (jD QgV (.ret))
abbrev Qvu:List RR:=[.tmp 4]
theorem Qvv:CT 139 12 Qvt Qvu:=ck Tryz.func139 Tryz.ntmps139 (by decide +kernel)
abbrev QgW:IL:=[jg 3 3 0,je 4]
abbrev QgX:IL:=[jc 5 1,yj 6 0 3 3 3,HD 7 5 6,jc 8 1,jj 9 3 2,HD 10 8 9,yf 11 7 10,ja 4 11]
abbrev Qvw:RC:=jQ QgW (jD QgX (.ret))
abbrev Qvx:List RR:=[.tmp 4]
theorem Qvy:CT 140 12 Qvw Qvx:=ck Tryz.func140 Tryz.ntmps140 (by decide +kernel)
abbrev QgY:IL:=[jg 2 2 0,je 3]
abbrev QgZ:IL:=[jb 4 1 2,jc 5 4,yr 6 5 2147483647,ja 7 6,jm 8 3 1 7,jv 9 8 7,jm 10 1 2 7,jv 11 10 7,zx 12 142 9 11 7,jq 13 7 12,ja 3 13]
abbrev Qvz:RC:=jQ QgY (jQ QgZ (.ret))
abbrev QvA:List RR:=[.tmp 3]
theorem QvB:CT 141 14 Qvz QvA:=ck Tryz.func141 Tryz.ntmps141 (by decide +kernel)
abbrev Qg0:IL:=[jd 2 0]
abbrev Qg1:IL:=[ja 5 0,⟨some 6,.rngs 6 (.t 5),none⟩]
abbrev Qg2:IL:=[⟨some 7,.nxts (.t 6),none⟩,jz 8 7 0]
abbrev Qg3:IL:=[jz 9 7 1,jz 10 7 2,ja 3 9,ja 4 10]
abbrev Qg4:IL:=[ja 11 0,ja 12 3,ja 13 4,GF 14 185 11 12 13]
abbrev Qg5:IL:=[ja 15 3,ja 2 15]
abbrev Qg6:RC:=jQ Qg2 (.seq (jX 8 0) (.block 1 (jQ Qg3 (jQ Qg4 (.cond (.t 14) (jQ Qg5 (.ret)) (.skip))))))
abbrev Qg7:IL:=[jd 2 (-1)]
abbrev QvC:RC:=jQ Qg0 (.seq (jQ Qg1 (.block 0 (.loop Qg6))) (jQ Qg7 (.ret)))
abbrev QvD:List RR:=[.tmp 2]
theorem QvE:CT 143 16 QvC QvD:=ck Tryz.func143 Tryz.ntmps143 (by decide +kernel)
abbrev Qg8:IL:=[je 2]
abbrev Qg9:IL:=[ja 3 0,yd 4 3 1,ja 5 4,jh 6 0 5,yn 7 6 9 5,ji 8 5 7,ja 2 8]
abbrev QvF:RC:=jQ Qg8 (jQ Qg9 (.ret))
abbrev QvG:List RR:=[.tmp 2]
theorem QvH:CT 144 9 QvF QvG:=ck Tryz.func144 Tryz.ntmps144 (by decide +kernel)
abbrev Qha:IL:=[jg 4 4 0,jd 8 0]
abbrev Qhb:IL:=[⟨some 12,.call (.f 186) [],none⟩,jb 13 0 4,jt 14 0 4 13,⟨some 15,.val (.mgetp true (.agg [.int .i64 0,.int .i64 0]) (.t 12) (.t 14)),none⟩,ja 11 15,jz 16 11 0,jz 17 11 1,⟨some 9,.allocN 9 [.int .i64 0,.int .i64 0],none⟩,yz 0 9 2 9 16,ja 10 17]
abbrev Qhc:IL:=[ja 19 10,jy 20 19,ja 18 20]
abbrev Qhd:IL:=[jd 8 8]
abbrev Qhe:IL:=[ja 22 1,yl 23 22 1,ja 24 23,jw 25 1 24,yy 26 25 6 24,jq 27 24 26,ja 28 27,jm 29 1 9 28,jv 30 29 28,jw 31 1 28,⟨some 32,.val (.bin .num .shr (.t 30) (.t 31)),(some (28,false))⟩,⟨some 33,.val (.bin .num .and (.t 32) (.c (.int .i64 1))),(some (28,false))⟩,zl 34 33 0 28,jq 35 28 34,ja 21 35]
abbrev Qhf:IL:=[jd 8 1]
abbrev Qhg:IL:=[jj 37 8 4,js 38 187 37,jy 39 38,ja 36 39]
abbrev Qhh:IL:=[jd 8 12]
abbrev Qhi:IL:=[ja 41 3,ja 42 41,jf 43 0 4 42,jp 44 43 42,jh 45 2 42,⟨some 46,.val (.bin .str .lss (.t 44) (.t 45)),(some (42,true))⟩,ji 47 42 46,ja 40 47]
abbrev Qhj:IL:=[jd 8 11]
abbrev T3:IL:=[ja 49 3,ja 50 49,jf 51 0 4 50,jp 52 51 50,jh 53 2 50,HC 54 52 53 50,ji 55 50 54,ja 48 55]
abbrev T4:IL:=[jd 8 9]
abbrev T5:IL:=[jd 8 0]
abbrev QvI:RC:=jQ Qha (jD Qhb (.seq (.block 0 (jQ Qhc (.cond (.t 18) (jQ Qhd (.ret)) (jQ Qhe (.cond (.t 21) (jQ Qhf (.ret)) (jQ Qhg (.cond (.t 36) (jQ Qhh (.ret)) (jQ Qhi (.cond (.t 40) (jQ Qhj (.ret)) (jQ T3 (.cond (.t 48) (jQ T4 (.ret)) (.skip)))))))))))) (jQ T5 (.ret))))
abbrev QvJ:List RR:=[.tmp 8]
theorem Qhk:CT 145 56 QvI QvJ:=ck Tryz.func145 Tryz.ntmps145 (by decide +kernel)
abbrev Qhl:IL:=[jd 4 0]
abbrev Qhm:IL:=[ja 6 0,jk 7 1 6,jd 8 0]
abbrev Qhn:IL:=[jr 9 8 7]
abbrev Qho:IL:=[ja 10 8,ja 5 10]
abbrev Qhp:IL:=[ja 11 1,ja 12 0,ja 13 5,jl 14 1 12 13,jc 15 14,⟨some 16,.val (.bin .bool .eql (.t 11) (.t 15)),none⟩]
abbrev Qhq:IL:=[ja 17 5,ja 4 17]
abbrev Qhr:IL:=[jn 18 8 1,ja 8 18]
abbrev Qhs:RC:=jQ Qhn (.seq (jX 9 0) (.seq (.block 1 (jQ Qho (jQ Qhp (.cond (.t 16) (jQ Qhq (.ret)) (.skip))))) (.reg Qhr)))
abbrev Qht:IL:=[jd 4 (-1)]
abbrev QvK:RC:=jQ Qhl (.seq (jQ Qhm (.block 0 (.loop Qhs))) (jQ Qht (.ret)))
abbrev QvL:List RR:=[.tmp 4]
theorem QvM:CT 146 19 QvK QvL:=ck Tryz.func146 Tryz.ntmps146 (by decide +kernel)
abbrev Qhu:IL:=[je 4]
abbrev Qhv:IL:=[jc 5 2,⟨some 6,.val (.iaddr 1 (some 3) (.t 1) (.t 5)),none⟩,jc 7 6,ja 8 0,jx 9 36 7 8,ja 4 9]
abbrev QvN:RC:=jQ Qhu (jQ Qhv (.ret))
abbrev QvO:List RR:=[.tmp 4]
theorem QvP:CT 147 10 QvN QvO:=ck Tryz.func147 Tryz.ntmps147 (by decide +kernel)
abbrev Qhw:IL:=[je 4]
abbrev Qhx:IL:=[jj 8 3 1,ja 9 0,jx 10 148 8 9,ja 7 10,jz 11 7 0,jz 12 7 1,ze 5 5,jo 5 5 11,ja 6 12]
abbrev Qhy:IL:=[ja 13 6,ja 14 13,jp 15 2 14,jh 16 0 14,⟨some 17,.val (.mget false (.bool false) (.t 15) (.t 16)),(some (14,true))⟩,yx 18 17 14,ji 19 14 18,ja 4 19]
abbrev QvQ:RC:=jQ Qhw (jQ Qhx (jQ Qhy (.ret)))
abbrev QvR:List RR:=[.tmp 4]
theorem QvS:CT 150 20 QvQ QvR:=ck Tryz.func150 Tryz.ntmps150 (by decide +kernel)
abbrev Qhz:IL:=[jg 3 3 0,jg 4 4 1,jg 5 5 2,je 6]
abbrev QhA:IL:=[jc 7 3,jc 8 4,Fz 9 3 7 8,⟨some 10,.val (.mkfn (.func 196) [] [(.t 5),(.t 3),(.t 4)]),none⟩,ye 11 138 9 10,ja 6 11]
abbrev QvT:RC:=jQ Qhz (jQ QhA (.ret))
abbrev QvU:List RR:=[.tmp 6]
theorem QvV:CT 157 12 QvT QvU:=ck Tryz.func157 Tryz.ntmps157 (by decide +kernel)
abbrev QhB:IL:=[jg 1 1 0,zn 2]
abbrev QhC:IL:=[jb 3 0 1,jc 4 3,ja 2 4]
abbrev QvW:RC:=jQ QhB (jQ QhC (.ret))
abbrev QvX:List RR:=[.tmp 2]
theorem QvY:CT 158 5 QvW QvX:=ck Tryz.func158 Tryz.ntmps158 (by decide +kernel)
abbrev QhD:IL:=[jg 2 2 0,je 3]
abbrev QhE:IL:=[jb 4 0 2,jc 5 4,jc 6 1,yf 7 5 6,ja 3 7]
abbrev QvZ:RC:=jQ QhD (jQ QhE (.ret))
abbrev Qv0:List RR:=[.tmp 3]
theorem Qv1:CT 160 8 QvZ Qv0:=ck Tryz.func160 Tryz.ntmps160 (by decide +kernel)
end Go.Proofs.YtaiflhahcglpgaaGreatDoor.Rc

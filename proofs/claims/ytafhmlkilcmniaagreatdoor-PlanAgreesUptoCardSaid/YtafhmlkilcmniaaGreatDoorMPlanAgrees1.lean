/- Parts of the proof, in order. -/
import Derived.Orders
import Derived.Defers
import Derived.Below
import Derived.ChangeSame
import Derived.ProofKit
import Derived.OpenShut
import Derived.ChangeArms
import Derived.Lib.SmallJoins
import Derived.Deep.Slices
import Derived.DataShut
import Derived.Test.YtafhmlkilcmniaaGreatDoorRows
import Derived.Test.YtafhmlkilcmniaaGreatDoorProg
import Derived.WalkKit
import Derived.Test.YtafhmlkilcmniaaGreatDoorMPlanAgrees0

set_option linter.defProp false
namespace Go.Proofs.YtafhmlkilcmniaaGreatDoor.Am
open Go

def RA.sl:RA→List Nat
 |.t n=>[n]
 |_=>[]
def IQ:Option RA→List Nat
 |some r=>r.sl
 |none=>[]
def VO.sl:VO→List Nat
 |.mov x=>x.sl
 |.pick c a b=>c.sl++(a.sl++b.sl)
 |.build _ ps=>ps.flatMap fun p=>p.2.2.sl
 |.load _ x=>x.sl
 |.loadv _ _ _ x=>x.sl
 |.loado _ x=>x.sl
 |.loadr _ x=>x.sl
 |.nilck x=>x.sl
 |.un _ x=>x.sl
 |.cvi _ x=>x.sl
 |.faddr _ x=>x.sl
 |.fld _ _ x=>x.sl
 |.ext x _=>x.sl
 |.len _ x=>x.sl
 |.bin _ _ x y=>x.sl++y.sl
 |.eqs _ _ x y=>x.sl++y.sl
 |.iaddr _ _ x y=>x.sl++y.sl
 |.idx x y=>x.sl++y.sl
 |.mnx _ x y=>x.sl++y.sl
 |.slc _ x lo hi mx=>x.sl++(IQ lo++(IQ hi++IQ mx))
 |.mkfn _ a b=>a.flatMap RA.sl++b.flatMap RA.sl
 |.same x=>x.sl
 |.mget _ _ x y=>x.sl++y.sl
 |.mgetp _ _ x y=>x.sl++y.sl
 |.aidx _ _ _ x y=>x.sl++y.sl
 |.mki _ x=>x.sl
 |.tas _ _ _ x=>x.sl
def RO.sl:RO→List Nat
 |.val v=>v.sl
 |.allocN _ _=>[]
 |.boxN _ r=>r.sl
 |.store _ p r=>p.sl++r.sl
 |.storev _ _ _ p r=>p.sl++r.sl
 |.app _ _ _ s r=>s.sl++r.sl
 |.mk _ _ _ _ _ l c=>l.sl++c.sl
 |.bsl _ _ _ ps=>ps.flatMap fun p=>p.2.2.sl
 |.call f rs=>f.sl++rs.flatMap RA.sl
 |.callF f rs=>f.sl++rs.flatMap RA.sl
 |.bsl0 _ _=>[]
 |.clr _ _ r=>r.sl
 |.isnil _ x=>x.sl
 |.xb _ _ s c=>s.sl++c.sl
 |.rngs _ r=>r.sl
 |.nxts r=>r.sl
 |.mkm _=>[]
 |.mput x y z=>x.sl++(y.sl++z.sl)
def Item.sl (it:Item):List Nat:=it.op.sl++(match it.g with|some (j,_)=>[j]|none=>[])

def ZR (l:List Nat)(f f':Fr):Prop:=∀t,t∈l→f t=f' t
theorem ZR.left {a b:List Nat}{f f':Fr}(h:ZR (a++b) f f'):ZR a f f':=fun t ht=>h t (List.mem_append_left _ ht)
theorem ZR.right {a b:List Nat}{f f':Fr}(h:ZR (a++b) f f'):ZR b f f':=fun t ht=>h t (List.mem_append_right _ ht)

theorem RA.ev_same {r:RA}{f f':Fr}(h:ZR r.sl f f'):r.ev f=r.ev f':=by
 cases r with
 |t n=>exact h n (by simp[RA.sl])
 |c x=>rfl
 |f k=>rfl
 |g k l=>rfl

theorem WG:∀ {rs:List RA} {f f':Fr},ZR (rs.flatMap RA.sl) f f'→rs.map (RA.ev f)=rs.map (RA.ev f')
 | [],_,_,_=>rfl
 |r :: rs,f,f',h=>by
  rw[Q0b]at h;rw[QZh,QZh,RA.ev_same h.left,WG h.right]

theorem Ux {f f':Fr}:∀ {ps:List (Nat×Nat×RA)} {z:List AV},ZR (ps.flatMap fun p=>p.2.2.sl) f f'→fill f ps z=fill f' ps z
 | [],_,_=>rfl
 |(o,n,r) :: ps,z,h=>by
  rw[Q0b]at h;simp only[fill,RA.ev_same h.left,Ux h.right]

theorem HQ {f f':Fr}{d:Nat}{r:Option RA}(h:ZR (IQ r) f f'):Jx f d r=Jx f' d r:=by
 cases r with
 |none=>rfl
 |some r=>simp only[Jx,RA.ev_same (r:=r) h]

theorem A6 {f f':Fr}{m:Qk}{vo:VO}(h:ZR vo.sl f f'):QG f m vo=QG f' m vo:=by
 cases vo with
 |mov x=>simp only[QG,RA.ev_same (r:=x) h]
 |pick c a b=>simp only[QG,RA.ev_same (r:=c) h.left,RA.ev_same (r:=a) h.right.left,RA.ev_same (r:=b) h.right.right]
 |build z ps=>simp only[QG,Ux (ps:=ps) h]
 |load k x=>simp only[QG,RA.ev_same (r:=x) h]
 |loadv l s k x=>simp only[QG,RA.ev_same (r:=x) h]
 |loado k x=>simp only[QG,RA.ev_same (r:=x) h]
 |loadr k x=>simp only[QG,RA.ev_same (r:=x) h]
 |nilck x=>simp only[QG,RA.ev_same (r:=x) h]
 |un o x=>simp only[QG,RA.ev_same (r:=x) h]
 |cvi k x=>simp only[QG,RA.ev_same (r:=x) h]
 |faddr o x=>simp only[QG,RA.ev_same (r:=x) h]
 |fld o k x=>simp only[QG,RA.ev_same (r:=x) h]
 |ext x i=>simp only[QG,RA.ev_same (r:=x) h]
 |same x=>simp only[QG,RA.ev_same (r:=x) h]
 |len k x=>simp only[QG,RA.ev_same (r:=x) h]
 |bin t o x y=>simp only[QG,RA.ev_same (r:=x) h.left,RA.ev_same (r:=y) h.right]
 |eqs n ks x y=>simp only[QG,RA.ev_same (r:=x) h.left,RA.ev_same (r:=y) h.right]
 |iaddr sz len x y=>simp only[QG,RA.ev_same (r:=x) h.left,RA.ev_same (r:=y) h.right]
 |idx x y=>simp only[QG,RA.ev_same (r:=x) h.left,RA.ev_same (r:=y) h.right]
 |mget ok z x y=>simp only[QG,RA.ev_same (r:=x) h.left,RA.ev_same (r:=y) h.right]
 |mgetp ok z x y=>simp only[QG,RA.ev_same (r:=x) h.left,RA.ev_same (r:=y) h.right]
 |aidx n sz k x y=>simp only[QG,RA.ev_same (r:=x) h.left,RA.ev_same (r:=y) h.right]
 |mki t x=>simp only[QG,RA.ev_same (r:=x) h]
 |tas t ok z x=>simp only[QG,RA.ev_same (r:=x) h]
 |mnx b x y=>simp only[QG,RA.ev_same (r:=x) h.left,RA.ev_same (r:=y) h.right]
 |slc sz x lo hi mx=>
  have h1:=h.right.left;have h2:=h.right.right.left;have h3:=h.right.right.right;simp only[QG,RA.ev_same (r:=x) h.left,HQ (r:=lo) h1,HQ (r:=hi) h2];cases mx with
  |none=>rfl
  |some r=>simp only[HQ (r:=some r) h3]
 |mkfn fn a b=>simp only[QG,WG (rs:=a) h.left,WG (rs:=b) h.right]

inductive MC where
 |no
 |shape
 |rows
 |cell (l s:Nat)
 |outer
 |all
 deriving DecidableEq

def VO.mc:VO→MC
 |.load _ _=>.all
 |.loadv l s _ _=>.cell l s
 |.loado _ _=>.outer
 |.loadr _ _=>.rows
 |.nilck _=>.shape
 |.faddr _ _=>.shape
 |.len _ _=>.shape
 |.slc .. => .shape
 |.iaddr .. => .shape
 |.mget .. => .all
 |_=>.no

def Ob.sh:Ob→Option (Nat×Nat)
 |.vec g z _=>some (g,z)
 |_=>Option.none
def Ob.row:Ob→Option (Nat×Nat×List AV)
 |.vec g z xs=>some (g,z,xs)
 |_=>Option.none

def XK:MC→Qk→Qk→Prop
 |.no,_,_=>True
 |.shape,m,m'=>∀l s,(Qh m l s).sh=(Qh m' l s).sh
 |.rows,m,m'=>∀l s,(Qh m l s).row=(Qh m' l s).row
 |.cell l s,m,m'=>Qh m l s=Qh m' l s∨((Qh m l s).isRow=true∧(Qh m' l s).isRow=true)
 |.outer,m,m'=>∀l s,Qh m (l+1) s=Qh m' (l+1) s
 |.all,m,m'=>m=m'

theorem XK.refl (c:MC)(m:Qk):XK c m m:=by
 cases c<;>simp[XK]

theorem Uy {m m':Qk}{l s:Nat}(h:(Qh m l s).sh=(Qh m' l s).sh):WB m l s=WB m' l s:=by
 unfold WB;cases h1:Qh m l s<;>cases h2:Qh m' l s<;>rw[h1,h2]at h<;>simp_all[Ob.sh]

theorem BJ {m m':Qk}(h:XK .shape m m')(sz:Option Nat)(x:AV)(lo hi:Nat)(mx:Option Nat):Xg m sz x lo hi mx=Xg m' sz x lo hi mx:=by
 cases sz with
 |none=>rfl
 |some z=>
  cases x with
  |vec l s g o n q=>
   have h:=h l s;simp only[Xg];cases h1:Qh m l s<;>cases h2:Qh m' l s<;>rw[h1,h2]at h<;>simp_all[Ob.sh]
  |_=>rfl

theorem BK {m m':Qk}(h:XK .shape m m')(sz:Nat)(len:Option Nat)(x:AV)(i:Int):Qd m sz len x i=Qd m' sz len x i:=by
 unfold Qd;cases len with
 |none=>
  cases x with
  |vec l s g o n q=>
   have h:=h l s;simp only;cases h1:Qh m l s<;>cases h2:Qh m' l s<;>rw[h1,h2]at h<;>simp_all[Ob.sh]
  |_=>rfl
 |some k=>rfl

def A7 (F:Nat→List AV→Option AV):Ob→Option AV
 |.vec g _ xs=>F g xs
 |_=>none

theorem Rb {o o':Ob}(h:o.row=o'.row)(F:Nat→List AV→Option AV):A7 F o=A7 F o':=by
  cases o<;>cases o'<;>simp only[Ob.row,QZb,Prod.mk.injEq,reduceCtorEq]at h<;>first
    |rfl
    | (obtain⟨rfl,_,rfl⟩:=h
       rfl)

theorem Gy (m:Qk)(k:Option Nat)(l s g i o:Nat):Q5 m k (.vptr l s g i o)=A7 (fun g' xs=>if g=g' then match xs[i]? with
  |some e=>part e.cells o k
  |none=>none
 else none) (Qh m l s):=by
 simp only[Q5];cases Qh m l s<;>rfl

theorem QbO {f:Fr}{m m':Qk}{vo:VO}(h:XK vo.mc m m'):QG f m vo=QG f m' vo:=by
 cases vo<;>simp only[VO.mc]at h<;>try rfl
 case load k x=>have h:m=m':=h;subst h;rfl
 case mget ok z x i=>have h:m=m':=h;subst h;rfl
 case loado k x=>
  have h:∀l s,Qh m (l+1) s=Qh m' (l+1) s:=h;simp only[QG];split
  ·simp only[Q5,h]
  ·rfl
 case loadv l s k x=>
  have h:Qh m l s=Qh m' l s∨((Qh m l s).isRow=true∧(Qh m' l s).isRow=true):=h;simp only[QG];split
  ·split
   ·rename_i hh;obtain⟨rfl,rfl⟩:=hh;rcases h with h|⟨h1,h2⟩
    ·simp only[Q5,h]
    ·simp only[Q5];cases e1:Qh m _ _<;>cases e2:Qh m' _ _<;>rw[e1]at h1<;>rw[e2]at h2<;>first|rfl|(simp[Ob.isRow]at h1;done)|(simp[Ob.isRow]at h2;done)
   ·rfl
  ·rfl
 case loadr k x=>
  simp only[QG];split
  ·rfl
  ·rename_i l s g i o e;have h4:(Qh m l s).row=(Qh m' l s).row:=h l s;rw[Gy,Gy,Rb h4]
  ·rfl
 case nilck x=>simp only[QG,fun l s=>Uy (h l s)]
 case faddr o x=>simp only[QG,fun l s=>Uy (h l s)]
 case len k x=>simp only[QG,fun l s=>Uy (h l s)]
 case slc sz x lo hi mx=>simp only[QG,BJ h]
 case iaddr sz len x i=>simp only[QG,BK h]

mutual
theorem Gz {m m':Qk}(h:XK .rows m m'):∀x:AV,x.still false m=x.still false m'
 |.vec l s g o n q=>by
   have h:=h l s;simp only[AV.still];cases h1:Qh m l s<;>cases h2:Qh m' l s<;>rw[h1,h2]at h<;>simp_all[Ob.row]
 |.agg l=>by simp only[AV.still,KX h l]
 |.tup l=>by simp only[AV.still,KX h l]
 |.iface t x=>by simp only[AV.still,Gz h x]
 |.top|.int .. | .bool _|.str _|.nils|.nilp|.nilf|.nili|.nilm|.anyp|.list _|.lcap _|.fn .. | .ptr .. | .vptr .. | .rptr _|.mp .. => rfl
 |.mptr l s=>by simp only[AV.still,Q0c,QY3,if_false]
theorem KX {m m':Qk}(h:XK .rows m m'):∀l:List AV,AV.stillL false m l=AV.stillL false m' l
 | []=>rfl
 |x :: l=>by simp only[AV.stillL,Gz h x,KX h l]
end

def RO.pure:RO→Bool
 |.val _=>true
 |.bsl .. => true
 |.call _ _=>true
 |_=>false

def RO.mc:RO→MC
 |.val v=>v.mc
 |.call _ _=>.rows
 |.bsl .. => .no
 |_=>.all

section
variable {P:Program}

def MH (P:Program)(op:RO)(st:St)(x:AV):Prop :=
 match op with
 |.val vo=>QG st.f st.m vo=some x
 |.call f args=>∃k fa fb ys,f.ev st.f=.fn (.func k) fa fb∧AV.stillL false st.m (fa++args.map (RA.ev st.f)++fb)=some ys∧AV.rfL ys=true∧Qi P k ys x∧x.rf=true∧(AV.rfL (fa++args.map (RA.ev st.f)++fb)=true∨x.nl=true)
 |_=>False

def ZJ (P:Program)(op:RO)(st:St)(x:AV)(m:Qk):Prop :=
 match op with
 |.val vo=>QG st.f st.m vo=some x∧m=st.m
 |.call f args=>MH P (.call f args) st x∧m=st.m
 |.allocN s z=>XP st.m s=true∧x=.ptr 0 s 0∧m=Am.put st.m 0 s (.cells z)
 |.boxN s r=>XP st.m s=true∧(r.ev st.f).cells.all AV.leaf=true∧x=.ptr 0 s 0∧m=Am.put st.m 0 s (.cells (r.ev st.f).cells)
 |.store n p r=>(r.ev st.f).cells.length=n∧(r.ev st.f).cells.all AV.leaf=true∧Q8 st.m (p.ev st.f) (r.ev st.f).cells=some m∧x=.tup []
 |.storev l s n p r=>(∃o,p.ev st.f=.ptr l s o)∧(r.ev st.f).cells.length=n∧(r.ev st.f).cells.all AV.leaf=true∧Q8 st.m (p.ev st.f) (r.ev st.f).cells=some m∧x=.tup []
 |.app sz bytes el s r=>∃l site g n xs ys,s.ev st.f=.vec l site g 0 n false∧Qh st.m l site=.vec g sz xs∧Zr site el=true∧n≤xs.length∧Zd st.m (r.ev st.f)=some ys∧ys.all (fun e=>e.cells.length==sz)=true∧n+ys.length≤maxLen∧(n+ys.length)*bytes≤140737488355328∧
   x=.vec l site (g+1) 0 (n+ys.length) false∧m=Am.put st.m l site (.vec (g+1) sz (xs.take n++ys))
 |.bsl sz len z ps=>(∃y,fill st.f ps (Jd z sz len)=some y∧AV.rfL y=true∧y.all AV.leaf=true∧x=.list (Jc sz len (y.map nn0)))∧m=st.m
 |.bsl0 site sz=>QI (Qh st.m 0 site)=true∧x=.vec 0 site (QK st.m 0 site) 0 0 false∧m=Am.put st.m 0 site (.vec (QK st.m 0 site) sz [])
 |.callF f args=>∃k fa fb,f.ev st.f=.fn (.func k) fa fb∧Qf P k (fa++args.map (RA.ev st.f)++fb) st.m (fun y m'=>y=x∧m'=m)
 |_=>False

def RO.keeps:RO→Bool
 |.mk .. => false
 |.isnil .. => false
 |.xb .. => false
 |.rngs .. => false
 |.nxts .. => false
 |.mkm .. => false
 |.mput .. => false
 |.clr .. => false
 |_=>true

theorem BL {d:Option Nat}{op:RO}{st:St}{K:St→Prop}(hk:op.keeps=true):Ul P d op st K↔∃x m,ZJ P op st x m∧K { st with m:=m,f:=Qn st.f d x }:=by
 cases op<;>simp only[RO.keeps,QY3]at hk<;>simp only[Ul,ZJ,MH]
 case val=>exact⟨fun⟨x,h,k⟩=>⟨x,_,⟨h,rfl⟩,k⟩,fun⟨x,m,⟨h,e⟩,k⟩=>by subst e;exact⟨x,h,k⟩⟩
 case allocN=>exact⟨fun⟨h,k⟩=>⟨_,_,⟨h,rfl,rfl⟩,k⟩,fun⟨x,m,⟨h,e,e'⟩,k⟩=>by subst e e';exact⟨h,k⟩⟩
 case boxN=>exact⟨fun⟨h,h',k⟩=>⟨_,_,⟨h,h',rfl,rfl⟩,k⟩,fun⟨x,m,⟨h,h',e,e'⟩,k⟩=>by subst e e';exact⟨h,h',k⟩⟩
 case store=>exact⟨fun⟨h1,h2,m',h3,k⟩=>⟨_,m',⟨h1,h2,h3,rfl⟩,k⟩,fun⟨x,m,⟨h1,h2,h3,e⟩,k⟩=>by subst e;exact⟨h1,h2,m,h3,k⟩⟩
 case storev=>exact⟨fun⟨h0,h1,h2,m',h3,k⟩=>⟨_,m',⟨h0,h1,h2,h3,rfl⟩,k⟩,fun⟨x,m,⟨h0,h1,h2,h3,e⟩,k⟩=>by subst e;exact⟨h0,h1,h2,m,h3,k⟩⟩
 case app=>exact⟨fun⟨l,site,g,n,xs,ys,h1,h2,ht,h3,h4,h5,h6,h7,k⟩=>⟨_,_,⟨l,site,g,n,xs,ys,h1,h2,ht,h3,h4,h5,h6,h7,rfl,rfl⟩,k⟩,fun⟨x,m,⟨l,site,g,n,xs,ys,h1,h2,ht,h3,h4,h5,h6,h7,e,e'⟩,k⟩=>by subst e e';exact⟨l,site,g,n,xs,ys,h1,h2,ht,h3,h4,h5,h6,h7,k⟩⟩
 case call=>exact⟨fun⟨k,fa,fb,ys,v,h1,h2,h3,h4,h5,h6,kk⟩=>⟨v,_,⟨⟨k,fa,fb,ys,h1,h2,h3,h4,h5,h6⟩,rfl⟩,kk⟩,fun⟨x,m,⟨⟨k,fa,fb,ys,h1,h2,h3,h4,h5,h6⟩,e⟩,kk⟩=>by subst e;exact⟨k,fa,fb,ys,x,h1,h2,h3,h4,h5,h6,kk⟩⟩
 case bsl=>exact⟨fun⟨y,h1,h2,h3,k⟩=>⟨_,_,⟨⟨y,h1,h2,h3,rfl⟩,rfl⟩,k⟩,fun⟨x,m,⟨⟨y,h1,h2,h3,e⟩,e'⟩,k⟩=>by subst e e';exact⟨y,h1,h2,h3,k⟩⟩
 case bsl0=>exact⟨fun⟨h1,k⟩=>⟨_,_,⟨h1,rfl,rfl⟩,k⟩,fun⟨x,m,⟨h1,e,e'⟩,k⟩=>by subst e e';exact⟨h1,k⟩⟩
 case callF=>exact⟨fun⟨k,fa,fb,v,m',h1,h2,kk⟩=>⟨v,m',⟨k,fa,fb,h1,h2⟩,kk⟩,fun⟨x,m,⟨k,fa,fb,h1,h2⟩,kk⟩=>⟨k,fa,fb,x,m,h1,h2,kk⟩⟩

def ZK (P:Program)(it:Item)(st:St)(x:AV)(m:Qk):Prop :=
 match it.g with
 |none=>ZJ P it.op st x m
 |some (j,want)=>match st.f j with
  |.bool b=>(b=want∧ZJ P it.op st x m)∨(b=(!want)∧x=.tup []∧m=st.m)
  |.tup l=>l=[]∧x=.tup []∧m=st.m
  |_=>False

theorem JX {it:Item}{st:St}{K:St→Prop}(hk:it.op.keeps=true):X9 P it st K↔∃x m,ZK P it st x m∧K { st with m:=m,f:=Qn st.f it.dst x }:=by
 obtain⟨d,op,g⟩:=it;cases g with
 |none=>exact BL hk
 |some p=>
  obtain⟨j,want⟩:=p;simp only[X9,ZK];cases hj:st.f j with
  |bool b=>
   simp only;rw[BL hk]
   constructor
   ·intro⟨h1,h2⟩;by_cases hb:b=want
    ·obtain⟨x,m,h,k⟩:=h1 hb;exact⟨x,m,.inl ⟨hb,h⟩,k⟩
    ·have hb':b=!want:=by cases b<;>cases want<;>first|rfl|exact absurd rfl hb
     exact⟨_,_,.inr ⟨hb',rfl,rfl⟩,h2 hb'⟩
   ·rintro⟨x,m,⟨hb,h⟩|⟨hb,rfl,rfl⟩,k⟩
    ·exact⟨fun _=>⟨x,m,h,k⟩,fun e=>by rw[hb]at e;cases want<;>cases e⟩
    ·exact⟨fun e=>(by rw[hb]at e;cases want<;>cases e),fun _=>k⟩
  |tup l=>
   constructor
   ·rintro⟨h,k⟩;exact⟨_,_,⟨h,rfl,rfl⟩,k⟩
   ·rintro⟨x,m,⟨h,rfl,rfl⟩,k⟩;exact⟨h,k⟩
  |_=>exact⟨fun h=>h.elim,fun⟨_,_,h,_⟩=>h.elim⟩

theorem GA {op:RO}{f f':Fr}{m m':Qk}{ds ds':List DF}{x:AV}(h:ZR op.sl f f')(k:ZJ P op ⟨f,m,ds⟩ x m'):ZJ P op ⟨f',m,ds'⟩ x m':=by
 cases op with
 |val vo=>simp only[ZJ,A6 (vo:=vo) h]at k ⊢;exact k
 |call g args=>simp only[ZJ,MH,RA.ev_same (r:=g) h.left,WG (rs:=args) h.right]at k ⊢;exact k
 |callF g args=>simp only[ZJ,RA.ev_same (r:=g) h.left,WG (rs:=args) h.right]at k ⊢;exact k
 |allocN s z=>exact k
 |boxN s r=>simp only[ZJ,RA.ev_same (r:=r) h]at k ⊢;exact k
 |store n p r=>simp only[ZJ,RA.ev_same (r:=p) h.left,RA.ev_same (r:=r) h.right]at k ⊢;exact k
 |storev l s n p r=>simp only[ZJ,RA.ev_same (r:=p) h.left,RA.ev_same (r:=r) h.right]at k ⊢;exact k
 |app sz bytes el s r=>simp only[ZJ,RA.ev_same (r:=s) h.left,RA.ev_same (r:=r) h.right]at k ⊢;exact k
 |bsl sz len z ps=>simp only[ZJ,Ux (ps:=ps) h]at k ⊢;exact k
 |bsl0 site sz=>exact k
 |_=>exact k.elim

theorem Ws {it:Item}{f f':Fr}{m m':Qk}{ds ds':List DF}{x:AV}(h:ZR it.sl f f')(k:ZK P it ⟨f,m,ds⟩ x m'):ZK P it ⟨f',m,ds'⟩ x m':=by
 obtain⟨d,op,g⟩:=it;cases g with
 |none=>exact GA (ZR.left h) k
 |some p=>
  obtain⟨j,want⟩:=p;have hj:f j=f' j:=(ZR.right h) j (by simp);simp only[ZK]at k ⊢;rw[←hj];cases he:f j with
  |bool b=>rw[he]at k;exact k.imp (fun h1=>⟨h1.1,GA (ZR.left h) h1.2⟩) id
  |tup l=>rw[he]at k;exact k
  |_=>rw[he]at k;exact k

theorem BM {op:RO}(hp:op.pure=true){f:Fr}{m m' m1:Qk}{ds ds':List DF}{x:AV}(h:XK op.mc m m')(k:ZJ P op ⟨f,m,ds⟩ x m1):m1=m∧ZJ P op ⟨f,m',ds'⟩ x m':=by
 cases op with
 |bsl sz len z ps=>obtain⟨k,e⟩:=k;exact⟨e,k,rfl⟩
 |val vo=>obtain⟨k,e⟩:=k;exact⟨e,by rw[←QbO (f:=f) h];exact k,rfl⟩
 |call g args=>
  obtain⟨⟨k,fa,fb,ys,h1,h2,h3,h4,h5,h6⟩,e⟩:=k;refine⟨e,⟨k,fa,fb,ys,h1,?_,h3,h4,h5,h6⟩,rfl⟩;rw[←KX h];exact h2
 |_=>cases hp

theorem Uz {it:Item}(hp:it.op.pure=true){f:Fr}{m m' m1:Qk}{ds ds':List DF}{x:AV}(h:XK it.op.mc m m')(k:ZK P it ⟨f,m,ds⟩ x m1):m1=m∧ZK P it ⟨f,m',ds'⟩ x m':=by
 obtain⟨d,op,g⟩:=it;cases g with
 |none=>exact BM hp h k
 |some p=>
  obtain⟨j,want⟩:=p;simp only[ZK]at k ⊢;cases he:f j with
  |bool b=>
   rw[he]at k;rcases k with⟨h1,k⟩|⟨h1,h2,h3⟩
   ·obtain⟨a,b⟩:=BM hp h k;exact⟨a,.inl ⟨h1,b⟩⟩
   ·exact⟨h3,.inr ⟨h1,h2,trivial⟩⟩
  |tup l=>rw[he]at k;exact⟨k.2.2,k.1,k.2.1,trivial⟩
  |_=>rw[he]at k;exact k.elim

def RO.lets (op:RO)(c:MC):Bool :=
 match op with
 |.val _=>true
 |.call _ _=>true
 |.store .. => c == .no||c == .shape
 |.storev l s _ _ _=>match c with
  |.cell l' s'=>l' != l||s' != s
  |.outer=>l==0
  |.all=>false
  |_=>true
 |.allocN s _=>match c with
  |.cell l' s'=>l' != 0||s' != s
  |.all=>false
  |_=>true
 |.boxN s _=>match c with
  |.cell l' s'=>l' != 0||s' != s
  |.all=>false
  |_=>true
 |.app .. => match c with
  |.no=>true
  |.cell _ _=>true
  |_=>false
 |.bsl .. => true
 |.bsl0 s _=>match c with
  |.no=>true
  |.cell l' s'=>l' != 0||s' != s
  |.outer=>true
  |_=>false
 |.callF .. => c == .no
 |_=>false

theorem Yl {m:Qk}{l s:Nat}{o o':Ob}(hl:Qh m l s=o)(ho:o.row=none)(ho':o'.row=none)(hlt:l<m.length){c:MC}(hc:match c with
  |.cell l' s'=>(l' != l||s' != s)=true
  |.outer=>(l==0)=true
  |.all=>False
  |_=>True):XK c m (Am.put m l s o'):=by
 have key:∀l' s',(l'=l∧s'=s)∨Qh (Am.put m l s o') l' s'=Qh m l' s':=by
  intro l' s';by_cases hh:l'=l∧s'=s
  ·exact .inl hh
  ·exact .inr (QA (by omega))
 have hsh:∀ {x:Ob},x.row=none→x.sh=none:=by intro x;cases x<;>simp[Ob.row,Ob.sh]
 cases c with
 |no=>trivial
 |shape=>
  intro l' s';rcases key l' s' with⟨rfl,rfl⟩|e
  ·rw[Qv hlt,hl,hsh ho,hsh ho']
  ·rw[e]
 |rows=>
  intro l' s';rcases key l' s' with⟨rfl,rfl⟩|e
  ·rw[Qv hlt,hl,ho,ho']
  ·rw[e]
 |cell l' s'=>
  show Qh m l' s'=Qh _ l' s'∨_;rcases key l' s' with⟨rfl,rfl⟩|e
  ·simp at hc
  ·exact .inl e.symm
 |outer=>
  intro l' s';have hc:l=0:=by simpa using hc
  exact(QA (by omega)).symm
 |all=>exact hc.elim

theorem Rd {m:Qk}{s:Nat}(h:XP m s=true):Qh m 0 s=.none:=by
 unfold XP at h;split at h
 ·assumption
 ·cases h

end

theorem XK.symm {c:MC}{m m':Qk}(h:XK c m m'):XK c m' m:=by
 cases c with
 |no=>trivial
 |shape=>exact fun l s=>(h l s).symm
 |rows=>exact fun l s=>(h l s).symm
 |cell l s=>exact Or.imp Eq.symm And.symm h
 |outer=>exact fun l s=>(h l s).symm
 |all=>exact Eq.symm h

theorem BN {m m':Qk}{p:AV}{ys:List AV}(h:Q8 m p ys=some m'):XK .shape m m':=by
 cases p with
 |ptr l s o=>
  simp only[Q8]at h;split at h
  ·rename_i xs hlk;split at h
   ·split at h
    ·cases h;exact Yl (c:=.shape) hlk rfl rfl (Xb (by rw[hlk];simp)) trivial
    ·cases h
   ·cases h
  ·cases h
 |vptr l s g i o=>
  simp only[Q8]at h;split at h
  ·rename_i g' sz xs hlk;split at h
   ·rename_i hg;subst hg;split at h
    ·split at h
     ·cases h;intro l' s';by_cases hh:l'=l∧s'=s
      ·obtain⟨rfl,rfl⟩:=hh;rw[Qv (Xb (by rw[hlk];simp)),hlk];rfl
      ·rw[QA (by omega)]
     ·cases h
    ·cases h
   ·cases h
  ·cases h
 |_=>simp[Q8]at h

section
variable {P:Program}{N:Nat}

theorem BO {m:Qk}{s:Nat}{xs:List AV}(h:XP m s=true){c:MC}(hc:match c with
  |.cell l' s'=>(l' != 0||s' != s)=true
  |.all=>False
  |_=>True):XK c m (Am.put m 0 s (.cells xs)):=by
 cases m with
 |nil=>exact XK.refl c _
 |cons fr m=>exact Yl (Rd h) rfl rfl (by simp) (by cases c<;>first|exact hc|rfl)

theorem GB {op:RO}{c:MC}(hc:op.lets c=true){st:St}{x:AV}{m:Qk}(h:ZJ P op st x m):XK c st.m m:=by
 cases op with
 |val vo=>rw[h.2];exact XK.refl c _
 |call f args=>rw[h.2];exact XK.refl c _
 |store n p r=>
  simp only[RO.lets,QZE,QY8]at hc;rcases hc with rfl|rfl
  ·trivial
  ·exact BN h.2.2.1
 |storev l s n p r=>
  obtain⟨⟨o,ho⟩,h1,h2,h3,h4⟩:=h;rw[ho]at h3;simp only[Q8]at h3;split at h3
  ·rename_i xs hlk;split at h3
   ·split at h3
    ·cases h3;refine Yl hlk rfl rfl (Xb (by rw[hlk];simp)) ?_;cases c<;>first|trivial|exact hc|cases hc
    ·cases h3
   ·cases h3
  ·cases h3
 |allocN s z=>
  rw[h.2.2];refine BO h.1 ?_;cases c<;>first|trivial|exact hc|cases hc
 |boxN s r=>
  rw[h.2.2.2];refine BO h.1 ?_;cases c<;>first|trivial|exact hc|cases hc
 |app sz bytes el s r=>
  obtain⟨l,site,g,n,xs,ys,_,hlk,_,_,_,_,_,_,_,rfl⟩:=h;cases c with
  |no=>trivial
  |cell l' s'=>
   show Qh st.m l' s'=Qh _ l' s'∨_;by_cases hh:l'=l∧s'=site
   ·obtain⟨rfl,rfl⟩:=hh;refine .inr ⟨by rw[hlk];rfl,?_⟩;rw[Qv (Xb (by rw[hlk];simp))];rfl
   ·exact .inl (QA (by omega)).symm
  |_=>simp[RO.lets]at hc
 |bsl sz len z ps=>rw[h.2];exact XK.refl c _
 |bsl0 site sz=>
  obtain⟨_,_,rfl⟩:=h;cases c with
  |no=>trivial
  |cell l' s'=>
   simp only[RO.lets,QZE,QZc]at hc;exact .inl (QA (by omega)).symm
  |outer=>exact fun l' s'=>(QA (.inl (Nat.succ_ne_zero l'))).symm
  |_=>simp[RO.lets]at hc
 |callF f args=>
  simp only[RO.lets,QY8]at hc;subst hc;trivial
 |_=>exact h.elim

theorem GC {it:Item}{c:MC}(hc:it.op.lets c=true){st:St}{x:AV}{m:Qk}(h:ZK P it st x m):XK c st.m m:=by
 obtain⟨d,op,g⟩:=it;cases g with
 |none=>exact GB hc h
 |some p=>
  obtain⟨j,want⟩:=p;simp only[ZK]at h;cases he:st.f j with
  |bool b=>
   rw[he]at h;rcases h with⟨_,h⟩|⟨_,_,h⟩
   ·exact GB hc h
   ·rw[h];exact XK.refl c _
  |tup l=>rw[he]at h;rw[h.2.2];exact XK.refl c _
  |_=>rw[he]at h;exact h.elim

def UX (a b:Item):Bool :=
  (match a.dst with
   |some d=>!(b.sl.contains d)&&b.dst != some d
   |none=>true) &&
  (match b.dst with
   |some d=>!(a.sl.contains d)
   |none=>true)

def BP (a b:Item):Bool :=
 match a.op,b.op,a.g,b.g with
 |.allocN s _,.allocN t _,none,none=>s != t
 |_,_,_,_=>false

def UY (a b:Item):Bool :=
 a.op.keeps&&b.op.keeps&&UX a b&&((a.op.pure&&b.op.lets a.op.mc)||(b.op.pure&&a.op.lets b.op.mc)||BP a b)

theorem BQ {m:Qk}{s t:Nat}{o:Ob}(h:s≠t):XP (Am.put m 0 s o) t=XP m t:=by
 unfold XP;rw[QA (.inr (Ne.symm h))]
theorem A8 {m:Qk}{s t:Nat}{o q:Ob}(h:s≠t):Am.put (Am.put m 0 s o) 0 t q=Am.put (Am.put m 0 t q) 0 s o:=by
 cases m with
 |nil=>rfl
 |cons fr m=>
  simp only[Am.put];congr 1
  funext i;by_cases h1:i=t
  ·subst h1;rw[QY,Q2 _ _ (Ne.symm h),QY]
  ·rw[Q2 _ _ h1];by_cases h2:i=s
   ·subst h2;rw[QY,QY]
   ·rw[Q2 _ _ h2,Q2 _ _ h2,Q2 _ _ h1]
theorem VS {a b:Item}(h:BP a b=true){st:St}{f:Fr}{x y:AV}{m m2:Qk}(ga:ZK P a st x m)(gb:ZK P b { st with m:=m,f:=f } y m2) :
  ∃m1,ZK P b st y m1∧∀f',ZK P a { st with m:=m1,f:=f' } x m2:=by
 obtain⟨da,oa,ga'⟩:=a;obtain⟨db,ob,gb'⟩:=b;unfold BP at h;dsimp only at h;split at h
 ·rename_i s z t w;have hne:s≠t:=by simpa using h
  obtain⟨h1,rfl,rfl⟩:=ga;obtain⟨h2,rfl,rfl⟩:=gb;dsimp only at h2;rw[BQ hne]at h2;refine⟨_,⟨h2,rfl,rfl⟩,fun f'=>⟨?_,rfl,?_⟩⟩
  ·dsimp only;rw[BQ (Ne.symm hne)];exact h1
  ·exact A8 hne
 ·cases h

theorem FC {l:List Nat}{f:Fr}{d:Option Nat}{x:AV}(h:∀k,d=some k→k∉l):ZR l f (Qn f d x):=by
 intro t ht;cases d with
 |none=>rfl
 |some k=>
  have:t≠k:=fun e=>h k rfl (e▸ht)
  show f t=Qt f k x t;rw[Q2 _ _ this]

theorem Re {f:Fr}{d e:Option Nat}{x y:AV}(h:∀k,d=some k→e≠some k):Qn (Qn f d x) e y=Qn (Qn f e y) d x:=by
 cases d with
 |none=>rfl
 |some d=>
  cases e with
  |none=>rfl
  |some e=>
   have hne:d≠e:=fun hh=>h d rfl (hh▸rfl)
   funext i;show Qt (Qt f d x) e y i=Qt (Qt f e y) d x i;by_cases h1:i=e
   ·subst h1;rw[QY,Q2 _ _ (Ne.symm hne),QY]
   ·rw[Q2 _ _ h1];by_cases h2:i=d
    ·subst h2;rw[QY,QY]
    ·rw[Q2 _ _ h2,Q2 _ _ h2,Q2 _ _ h1]

theorem MI {a b:Item}(h:UX a b=true):(∀k,a.dst=some k→k∉b.sl)∧(∀k,a.dst=some k→b.dst≠some k)∧(∀k,b.dst=some k→k∉a.sl):=by
 unfold UX at h;simp only[QY7]at h;refine⟨fun k e=>?_,fun k e=>?_,fun k e=>?_⟩
 ·have:=h.1;rw[e]at this;simp at this;exact this.1
 ·have:=h.1;rw[e]at this;simp at this;exact this.2
 ·have:=h.2;rw[e]at this;simpa using this

theorem MJ {a b:Item}(h:UY a b=true){st:St}{K:St→Prop}(k:X9 P a st fun s=>X9 P b s K):X9 P b st fun s=>X9 P a s K:=by
 unfold UY at h;simp only[QY7,QZE]at h;obtain⟨⟨⟨ka,kb⟩,hap⟩,hor⟩:=h;obtain⟨h1,h2,h3⟩:=MI hap;rw[JX ka]at k;obtain⟨x,m,ga,k⟩:=k;rw[JX kb]at k;obtain⟨y,m2,gb,k⟩:=k;rw[JX kb];have hs1:∀f:Fr,ZR b.sl f (Qn f a.dst x):=fun f=>FC h1
 have hs3:∀f:Fr,ZR a.sl f (Qn f b.dst y):=fun f=>FC h3
 have hsym:∀ {l f f'},ZR l f f'→ZR l f' f:=fun h t ht=>(h t ht).symm
 have hK:K { st with m:=m2,f:=Qn (Qn st.f b.dst y) a.dst x }:=by
  rw[←Re h2];exact k
 rcases hor with(⟨pa,lb⟩|⟨pb,la⟩)|hf
 ·have e:m=st.m:=(Uz (m':=st.m) (ds':=st.ds) pa (XK.refl _ _) ga).1;subst e;have gb':ZK P b st y m2:=Ws (hsym (hs1 st.f)) gb;refine⟨y,m2,gb',?_⟩;rw[JX ka];have ga':ZK P a { st with m:=m2 } x m2:=(Uz pa (GC lb gb') ga).2;exact⟨x,m2,Ws (hs3 st.f) ga',hK⟩
 ·have hag:=GC la ga;obtain⟨e,gb1⟩:=Uz (m':=st.m) (ds':=st.ds) pb hag.symm gb;have e:m2=m:=e;subst e;have gb':ZK P b st y st.m:=Ws (hsym (hs1 st.f)) gb1;refine⟨y,st.m,gb',?_⟩;rw[JX ka];exact⟨x,m2,Ws (hs3 st.f) ga,hK⟩
 ·obtain⟨m1,gb',ga'⟩:=VS hf ga gb;refine⟨y,m1,gb',?_⟩;rw[JX ka];exact⟨x,m2,ga' _,hK⟩

theorem Rf {ops:Array Oper}{o:Oper}{i:Nat}(hi:ops[i]? = some o){it:Item}(hc:Uw P N ops o it=true){st:St}{K:St→Prop}(h:X9 P it st K){G:Gh}{B:Nat}{a:Act}{w:World}(hr:Rel G B N st a w){KK:Act→World→Prop}{QQ:Exit→Act→World→Prop}
  (hk:∀G' st' a' w',K st'→Rel G' B N st' a' w'→Ext 1 G w G' w'→KK a' w'):wpOp P ops QQ i KK a w:=by
 have h1:QB P N [it] st K:=BH (YV (fun _ hs=>QB.nil hs) h);have h2:=h1 ops [o] (by simp[Zg,hc]) G B a w hr (fun e a w=>match e with
  |.normal=>KK a w
  |e=>QQ e a w) (fun G' st' a' w' h1 h2 h3=>hk G' st' a' w' h1 h2 h3)
 unfold wpOp;simp only[hi];unfold wpList at h2;split
 ·rename_i hw;rw[QYS hw]at h2;rcases h2 with h2|h2
  ·left
   unfold Oper.wp at h2 ⊢;generalize (execOp a.eval o).run P w=r at h2 ⊢;cases r with
   |ok n w'=>
    cases n<;>simp only[Oper.upon]at h2 ⊢<;>first
     |exact h2
     |exact Calls.mono h2 (fun e w'' he=>by cases e<;>exact he)
   |halt x w'=>cases x<;>simp only[Oper.upon]at h2 ⊢<;>exact h2
  ·exact .inr h2
 ·rename_i hw;rw[QYR hw]at h2;exact h2

def dflt:Item:=⟨none,.val (.mov (.c .top)),none⟩
def YW (Qg:List Item)(l:List Nat):List Item:=l.map fun i=>Qg.getD i dflt

theorem Rg {Qg:List Item}{i:Nat}{post:List Nat}{Q:St→Prop}:∀ {pre:List Nat} {st:St},(∀p,p∈pre→UY (Qg.getD p dflt) (Qg.getD i dflt)=true)→
  Qq P (YW Qg (pre++i :: post)) st Q→X9 P (Qg.getD i dflt) st fun s=>Qq P (YW Qg (pre++post)) s Q
 | [],_,_,h=>h
 |p :: pre,st,hp,h=>by
  have h':X9 P (Qg.getD p dflt) st fun s=>Qq P (YW Qg (pre++i :: post)) s Q:=h
  have h2:=YV (fun s hs=>Rg (fun q hq=>hp q (QY0 _ hq)) hs) h';exact MJ (hp p (QY2 ..)) h2

inductive Bef (ops:Array Oper):Nat→Nat→Prop
 |one {i:Nat} {o:Oper} {e:Edge} (ho:ops[i]? = some o) (he:e∈o.after) (hb:Region.binds .any e=true):Bef ops e.on i
 |more {i p:Nat} {o:Oper} {e:Edge} (ho:ops[i]? = some o) (he:e∈o.after) (hb:Region.binds .any e=true) (h:Bef ops p e.on):Bef ops p i

def MK (acc:List Nat)(m:Nat)(e:Edge):Nat:=if Region.binds .any e then(m ||| 2 ^ e.on) ||| acc.getD e.on 0 else m
def Rh (acc:List Nat)(o:Oper):Nat:=o.after.toList.foldl (MK acc) 0
def ML:List Oper→List Nat→List Nat
 | [],acc=>acc
 |o :: os,acc=>ML os (acc++[Rh acc o])

theorem GD {acc:List Nat}{p:Nat}:∀(l:List Edge) (m:Nat),(l.foldl (MK acc) m).testBit p=true→m.testBit p=true∨∃e∈l,Region.binds .any e=true∧(p=e.on∨(acc.getD e.on 0).testBit p=true)
 | [],m,h=>.inl h
 |e :: l,m,h=>by
  rw[List.foldl_cons]at h;rcases GD l _ h with h1|⟨e',h1,h2,h3⟩
  ·unfold MK at h1;split at h1
   ·rename_i hb;rw[Nat.testBit_or,Nat.testBit_or,QZE,QZE]at h1;rcases h1 with(h1|h1)|h1
    ·exact .inl h1
    ·rw[Nat.testBit_two_pow]at h1;exact .inr ⟨e,QY2 ..,hb,.inl (of_decide_eq_true h1).symm⟩
    ·exact .inr ⟨e,QY2 ..,hb,.inr h1⟩
   ·exact .inl h1
  ·exact .inr ⟨e',QY0 _ h1,h2,h3⟩

theorem BR {ops:Array Oper}:∀(l:List Oper) (acc:List Nat),ops.toList=ops.toList.take acc.length++l→acc.length+l.length=ops.size→(∀i p,(acc.getD i 0).testBit p=true→Bef ops p i)→∀i p,((ML l acc).getD i 0).testBit p=true→Bef ops p i
 | [],acc,_,_,h=>h
 |o :: l,acc,e,hn,h=>by
  have hlen:acc.length<ops.toList.length:=by simp at hn ⊢;omega
  have hat:ops[acc.length]? = some o:=by
   rw[←QZd,e,QZ7 (by simp;omega)];simp;have:acc.length-min acc.length ops.size=0:=by simp at hlen;omega
   rw[this];rfl
  refine BR l (acc++[Rh acc o]) ?_ (by simp at hn ⊢;omega) fun i p hb=>?_
  ·rw[QZn,Q0d,List.take_succ_eq_append_getElem hlen,QY4];have:ops.toList[acc.length]=o:=by
    have:=QYN hlen;rw[QZd,hat]at this;cases this;rfl
   rw[this];exact e
  ·rw[List.getD_eq_getElem?_getD]at hb;by_cases hi:i<acc.length
   ·rw[QZ6 hi,←List.getD_eq_getElem?_getD]at hb;exact h i p hb
   ·by_cases hi2:i=acc.length
    ·subst hi2;rw[QZ7 (QYK _)]at hb;simp only[Nat.sub_self,QZH,QZQ]at hb;rcases GD _ _ hb with h1|⟨e',h1,h2,h3⟩
     ·simp at h1
     ·rcases h3 with rfl|h3
      ·exact .one hat (by simpa using h1) h2
      ·exact .more hat (by simpa using h1) h2 (h _ _ h3)
    ·rw[QZ4 (by simp;omega)]at hb;simp at hb

def DK (ops:Array Oper)(Qg:List Item):Bool :=
 (List.range ops.size).all fun i=>match ops[i]? with
  |some o=>o.after.all (fun e=>!Region.binds .any e||decide (e.on<i))&&(List.range i).all fun p=>((ML ops.toList []).getD i 0).testBit p||UY (Qg.getD p dflt) (Qg.getD i dflt)
  |none=>true

theorem Bef.listed {ops:Array Oper}{L:Nat→Prop}(hcl:∀q,L q→∀o e,ops[q]? = some o→e∈o.after→Region.binds .any e=true→L e.on){p i:Nat}(h:Bef ops p i)(hi:∀o e,ops[i]? = some o→e∈o.after→Region.binds .any e=true→L e.on):L p:=by
 induction h with
 |one ho he hb=>exact hi _ _ ho he hb
 |more ho he hb _ ih=>exact ih (hcl _ (hi _ _ ho he hb))

def unl (n:Nat)(listed:Array Bool):List Nat:=(List.range n).filter fun i=>!listed.getD i true

theorem HR {ops:Array Oper}:∀ {l:List Oper} {Qg:List Item},Zg P N ops l Qg=true→l.length=Qg.length∧∀(i:Nat) (o:Oper),l[i]? = some o→Uw P N ops o (Qg.getD i dflt)=true
 | [],Qg,h=>by
  cases Qg with
  |nil=>exact⟨rfl,by simp⟩
  |cons it Qg=>simp[Zg]at h
 |o :: l,Qg,h=>by
  cases Qg with
  |nil=>simp[Zg]at h
  |cons it Qg=>
   simp only[Zg,QY7]at h;obtain⟨e,h2⟩:=HR h.2;refine⟨by simp[e],fun i o' ho=>?_⟩;cases i with
   |zero=>simp at ho;subst ho;exact h.1
   |succ i=>simpa using h2 i o' (by simpa using ho)

theorem A9 {ops:Array Oper}{Qg:List Item}(hc:Zg P N ops ops.toList Qg=true)(hd:DK ops Qg=true){B:Nat}{Q:St→Prop}{QQ:Exit→Act→World→Prop} :
  ∀(fuel:Nat) (listed:Array Bool),listed.size=ops.size→(∀q,listed.getD q false=true→∀o e,ops[q]? = some o→e∈o.after→Region.binds .any e=true→listed.getD e.on false=true)→(unl ops.size listed).length≤fuel→∀(st:St) (G:Gh) (a:Act) (w:World),Qq P (YW Qg (unl ops.size listed)) st Q→Rel G B N st a w→
   (∀G' st' a' w',Q st'→Rel G' B N st' a' w'→Ext 1 G w G' w'→QQ .normal a' w')→wpAny P .any ops QQ fuel listed a w:=by
 obtain⟨hlen,hcs⟩:=HR hc;have hready:∀(listed:Array Bool) i,i∈Region.ready .any ops listed→i∈unl ops.size listed:=by
  intro listed i hi;obtain⟨h0,o,ho,_⟩:=mem_ready.1 hi;exact List.mem_filter.2 ⟨Q0e.2 (QYQ.1 ho).1,by simp[h0]⟩
 have hat:∀i,i<ops.size→∃o,ops[i]? = some o∧(∀e∈o.after,Region.binds .any e=true→e.on<i)∧∀p,p<i→Bef ops p i∨UY (Qg.getD p dflt) (Qg.getD i dflt)=true:=by
  intro i hi;refine⟨ops[i],QY1 hi,?_⟩;have h1:=QYX.1 hd i (Q0e.2 hi);rw[QY1 hi]at h1;simp only[QY7]at h1;refine⟨fun e he hb=>?_,fun p hp=>?_⟩
  ·have h2:=Array.all_eq_true_iff_forall_mem.1 h1.1 e he
   simpa [hb]using h2
  ·have h2:=QYX.1 h1.2 p (Q0e.2 hp);rw[QZE]at h2;rcases h2 with h2|h2
   ·exact .inl (BR ops.toList [] (by simp) (by simp) (fun i p hb=>by simp at hb) i p h2)
   ·exact .inr h2
 -- the first that is left is ready
 have hfirst:∀(listed:Array Bool),listed.size=ops.size→Region.ready .any ops listed=[]→unl ops.size listed=[]:=by
  intro listed hsz hr;cases hu:unl ops.size listed with
  |nil=>rfl
  |cons i rest=>
   exfalso;have hpw:(unl ops.size listed).Pairwise (· < ·):=List.Pairwise.filter _ List.pairwise_lt_range;have hi:i∈unl ops.size listed:=by rw[hu];exact QY2 ..
   obtain⟨hi1,hi2⟩:=List.mem_filter.1 hi;obtain⟨o,ho,h1,_⟩:=hat i (Q0e.1 hi1);have:i∈Region.ready .any ops listed:=by
    refine mem_ready.2 ⟨by simpa using hi2,o,ho,fun e he hb=>?_⟩;have hlt:=h1 e he hb;cases hg:listed.getD e.on false with
    |true=>rfl
    |false=>
     have hin:e.on∈unl ops.size listed:=by
      refine List.mem_filter.2 ⟨Q0e.2 (Nat.lt_trans hlt (Q0e.1 hi1)),?_⟩;have hlt':e.on<listed.size:=by rw[hsz];exact Nat.lt_trans hlt (Q0e.1 hi1)
      simp[QY1 hlt']at hg ⊢;exact hg
     rw[hu]at hin hpw;rcases QZ0.1 hin with e'|e'
     ·omega
     ·have:=(Q0f.1 hpw).1 _ e';omega
   rw[hr]at this;cases this
 intro fuel
 induction fuel with
 |zero=>
  intro listed hsz hcl hl st G a w h hr hq;have hu:unl ops.size listed=[]:=QZK (by omega);refine⟨?_,?_⟩
  ·cases hx:Region.ready .any ops listed with
   |nil=>rfl
   |cons i r=>
    have:=hready listed i (by rw[hx];exact QY2 ..);rw[hu]at this;cases this
  ·rw[hu]at h;exact hq G st a w h hr (Ext.refl 1 G w)
 |succ fuel ih=>
  intro listed hsz hcl hl st G a w h hr hq;refine⟨fun hx=>?_,fun i hi=>?_⟩
  ·rw[hfirst listed hsz hx]at h;exact hq G st a w h hr (Ext.refl 1 G w)
  ·have hiu:=hready listed i hi;obtain⟨pre,post,hsplit⟩:=List.append_of_mem hiu;have hpw:(unl ops.size listed).Pairwise (· < ·):=List.Pairwise.filter _ List.pairwise_lt_range;rw[hsplit]at h hpw;obtain⟨_,hp2,hp3⟩:=List.pairwise_append.1 hpw;obtain⟨hi1,hi2⟩:=List.mem_filter.1 hiu;obtain⟨o,ho,h1,h2⟩:=hat i (Q0e.1 hi1);obtain⟨_,o',ho',h3⟩:=mem_ready.1 hi;rw[ho]at ho';cases ho';have hind:∀p,p∈pre→UY (Qg.getD p dflt) (Qg.getD i dflt)=true:=by
    intro p hp;rcases h2 p (hp3 p hp i (QY2 ..))with hbef|h
    ·exfalso;have hl1:=hbef.listed (L:=fun q=>listed.getD q false=true) hcl (fun o2 e ho2 he hb=>by rw[ho]at ho2;cases ho2;exact h3 e he hb);have hpu:p∈unl ops.size listed:=by rw[hsplit];exact List.mem_append_left _ hp
     obtain⟨hr1,hr2⟩:=List.mem_filter.1 hpu;have hlt':p<listed.size:=by rw[hsz];exact Q0e.1 hr1
     simp[QY1 hlt']at hl1 hr2;rw[hl1]at hr2;cases hr2
    ·exact h
   have hb:=Rg (P:=P) hind h;have hnext:unl ops.size (listed.setIfInBounds i true)=pre++post:=by
    have e1:unl ops.size (listed.setIfInBounds i true)=(unl ops.size listed).filter fun j=>j != i:=by
     unfold unl;rw[List.filter_filter];refine List.filter_congr fun j hj=>?_
     by_cases hji:j=i
     ·subst hji;have hlt':j<listed.size:=by rw[hsz];exact Q0e.1 hj
      simp[hlt']
     ·rw[getD_set_ne true (fun e=>hji e.symm)];simp[hji]
    rw[e1,hsplit,List.filter_append,List.filter_cons];have e2:pre.filter (fun j=>j != i)=pre:=List.filter_eq_self.2 fun j hj=>by
     have:=hp3 j hj i (QY2 ..);simp;omega
    have e3:post.filter (fun j=>j != i)=post:=List.filter_eq_self.2 fun j hj=>by
     have:=(Q0f.1 hp2).1 j hj;simp;omega
    rw[e2,e3];simp
   have hset:∀q,listed.getD q false=true→(listed.setIfInBounds i true).getD q false=true:=fun q hq'=>by
    by_cases hqi:q=i
    ·subst hqi;have hlt':q<listed.size:=by rw[hsz];exact Q0e.1 hi1
     simp[hlt']
    ·rw[getD_set_ne false (fun e=>hqi e.symm)];exact hq'
   have hcl':∀q,(listed.setIfInBounds i true).getD q false=true→∀o e,ops[q]? = some o→e∈o.after→Region.binds .any e=true→(listed.setIfInBounds i true).getD e.on false=true:=fun q hq' o2 e ho2 he2 hb2=>by
    by_cases hqi:q=i
    ·subst hqi;rw[ho]at ho2;cases ho2;exact hset _ (h3 e he2 hb2)
    ·rw[getD_set_ne false (fun e=>hqi e.symm)]at hq';exact hset _ (hcl q hq' o2 e ho2 he2 hb2)
   refine Rf ho (hcs i o (by simpa using ho)) hb hr fun G' st' a' w' hk hr' he=>?_
   refine ih (listed.setIfInBounds i true) (by simpa using hsz) hcl' ?_ st' G' a' w' (by rw[hnext];exact hk) hr' fun G2 st2 a2 w2 hq2 hr2 he2=>hq G2 st2 a2 w2 hq2 hr2 (he.trans he2)
   rw[hnext];rw[hsplit]at hl;simp only[QZn,QYZ]at hl ⊢;omega

theorem Ri {Qg:List Item}:YW Qg (List.range Qg.length)=Qg:=by
 apply List.ext_getElem
 ·simp[YW]
 ·intro i h1 h2;simp[YW,h2]

theorem QbP {ops:Array Oper}{Qg:List Item}(hm:P.follows .mixedOrders=true)(hc:Zg P N ops ops.toList Qg=true)(hd:DK ops Qg=true){st:St}{Q:St→Prop}(h:Qq P Qg st Q){G:Gh}{B:Nat}{a:Act}{w:World}(hr:Rel G B N st a w){QQ:Exit→Act→World→Prop}{id:Nat}
  (hq:∀G' st' a' w',Q st'→Rel G' B N st' a' w'→Ext 1 G w G' w'→QQ .normal a' w'):(Code.region id ops true).wp P QQ a w:=by
 refine wp_region_any hm ?_;have hlen:=(HR hc).1;simp only[QZf]at hlen;have hu:unl ops.size (Array.replicate ops.size false)=List.range Qg.length:=by
  unfold unl;rw[hlen];refine List.filter_eq_self.2 fun i hi=>?_
  simp[Q0e.1 hi]
 refine A9 hc hd ops.size (Array.replicate ops.size false) (by simp) (fun q hq'=>by rw[QYU]at hq';simp[Array.getElem?_replicate]at hq';split at hq'<;>cases hq') (by rw[hu];simp[hlen]) st G a _ (by rw[hu,Ri];exact h) hr.drew fun G' st' a' w' h1 h2 h3=>hq G' st' a' w' h1 h2 ((Ext.drew G w).trans h3)

end

def Zn (P:Program)(N:Nat):RC→Code→Bool
 |.gho _ r,c=>Zn P N r c
 |.no,_=>true
 |.skip,c=>match c with
  |.skip=>true
  |_=>false
 |.reg Qg,c=>match c with
  |.region _ ops false=>Zg P N ops ops.toList Qg
  |_=>false
 |.draw Qg,c=>match c with
  |.region _ ops true=>P.follows .mixedOrders&&Zg P N ops ops.toList Qg&&DK ops Qg
  |_=>false
 |.seq a b,c=>match c with
  |.seq x y=>Zn P N a x&&Zn P N b y
  |_=>false
 |.cond r a b,c=>match c with
  |.cond o x y=>QR o r&&Zn P N a x&&Zn P N b y
  |_=>false
 |.block i a,c=>match c with
  |.block j x=>i==j&&Zn P N a x
  |_=>false
 |.loop a,c=>match c with
  |.loop x=>Zn P N a x
  |_=>false
 |.exit i,c=>match c with
  |.exit j=>i==j
  |_=>false
 |.scope a,c=>match c with
  |.scope x=>Zn P N a x
  |_=>false
 |.lab,c=>match c with
  |.label _=>true
  |_=>false
 |.ret,c=>match c with
  |.ret=>true
  |_=>false

section
variable {P:Program}{N B:Nat}

theorem Rj:∀ {rc:RC} {c:Code} {st:St} {Q:Exit→St→Prop},QN P rc st Q→Zn P N rc c=true→∀ {G:Gh} {a:Act} {w:World},Rel G B N st a w→∀ {QQ:Exit→Act→World→Prop},
  (∀e G' st' a' w',Q e st'→Rel G' B N st' a' w'→Ext 1 G w G' w'→QQ e a' w')→c.wp P QQ a w:=by
 intro rc
 induction rc with
 |skip=>
  intro c st Q h hc G a w hr QQ hq;cases c<;>simp only[Zn,QY3]at hc;exact wp_skip (hq _ _ _ _ _ h hr (Ext.refl 1 G w))
 |reg Qg=>
  intro c st Q h hc G a w hr QQ hq;cases c<;>simp only[Zn,QY3]at hc;rename_i id ops d;cases d<;>simp only[QY3]at hc;refine wp_region_list ?_;exact V5 (N:=N) h ops ops.toList hc G B a w hr QQ fun G' st' a' w' h1 h2 h3=>hq _ _ _ _ _ h1 h2 h3
 |draw Qg=>
  intro c st Q h hc G a w hr QQ hq;cases c<;>simp only[Zn,QY3]at hc;rename_i id ops d;cases d<;>simp only[QY3,QY7]at hc;exact QbP hc.1.1 hc.1.2 hc.2 h hr fun G' st' a' w' h1 h2 h3=>hq _ _ _ _ _ h1 h2 h3
 |seq x y ihx ihy=>
  intro c st Q h hc G a w hr QQ hq;cases c<;>simp only[Zn,QY3,QY7]at hc;refine wp_seq (ihx h hc.1 hr fun e G' st' a' w' h1 h2 h3=>?_);cases e with
  |normal=>exact ihy h1 hc.2 h2 fun e G2 st2 a2 w2 k1 k2 k3=>hq _ _ _ _ _ k1 k2 (h3.trans k3)
  |_=>exact hq _ _ _ _ _ h1 h2 h3
 |cond r x y ihx ihy=>
  intro c st Q h hc G a w hr QQ hq;cases c<;>simp only[Zn,QY3,QY7]at hc;rename_i o cx cy;obtain⟨t,ht,h1,h2⟩:=h;have hv:=Qu hr hc.1.1;rw[ht]at hv;have hv':a.eval o=.bool t:=by
   generalize a.eval o=v at hv;cases hv;rfl
  refine wp_cond_split hv' (fun e=>?_) (fun e=>?_)
  ·exact ihx (h1 e) hc.1.2 hr hq
  ·exact ihy (h2 e) hc.2 hr hq
 |block i x ih=>
  intro c st Q h hc G a w hr QQ hq;cases c<;>simp only[Zn,QY3,QY7,QY8]at hc;obtain⟨rfl,hc⟩:=hc;refine wp_block (ih h hc hr fun e G' st' a' w' h1 h2 h3=>?_);cases e with
  |exit j=>
   simp only[Exit.inBlock];simp only[Kb]at h1;split
   ·rename_i hh;rw[QYS hh]at h1;exact hq _ _ _ _ _ h1 h2 h3
   ·rename_i hh;rw[QYR hh]at h1;exact hq _ _ _ _ _ h1 h2 h3
  |_=>exact hq _ _ _ _ _ h1 h2 h3
 |loop x ih=>
  intro c st Q h hc G a w hr QQ hq;cases c<;>simp only[Zn,QY3]at hc;obtain⟨I,n,h0,hI⟩:=h;refine wp_loop_ghost (fun k a' w'=>∃G' st',I k st'∧Rel G' B N st' a' w'∧Ext 1 G w G' w') n ⟨G,st,h0,hr,Ext.refl 1 G w⟩ ?_;rintro k a' w' ⟨G',st',i1,i2,i3⟩;refine ih (hI k st' i1) hc i2 fun e G2 st2 a2 w2 h1 h2 h3=>?_
  cases e with
  |normal=>
   obtain⟨k',hk,hi⟩:=h1;exact⟨k',hk,G2,st2,hi,h2,i3.trans h3⟩
  |_=>exact hq _ _ _ _ _ h1 h2 (i3.trans h3)
 |exit i=>
  intro c st Q h hc G a w hr QQ hq;cases c<;>simp only[Zn,QY3,QY8]at hc;subst hc;exact wp_exit (hq _ _ _ _ _ h hr (Ext.refl 1 G w))
 |scope x ih=>
  intro c st Q h hc G a w hr QQ hq;cases c<;>simp only[Zn,QY3]at hc;refine wp_scope_straight (ih h hc hr fun e G' st' a' w' h1 h2 h3=>?_);cases e with
  |goto l=>exact h1.elim
  |_=>exact hq _ _ _ _ _ h1 h2 h3
 |lab=>
  intro c st Q h hc G a w hr QQ hq;cases c<;>simp only[Zn,QY3]at hc;exact wp_label (hq _ _ _ _ _ h hr (Ext.refl 1 G w))
 |ret=>
  intro c st Q h hc G a w hr QQ hq;cases c<;>simp only[Zn,QY3]at hc;exact wp_ret (hq _ _ _ _ _ h hr (Ext.refl 1 G w))
 |gho g x ih=>
  intro c st Q h hc G a w hr QQ hq;obtain⟨st',hg,h⟩:=h;obtain⟨G',h1,h2⟩:=A5 hr hg;exact ih h hc h1 fun e G2 st2 a2 w2 k1 k2 k3=>hq _ _ _ _ _ k1 k2 (h2.trans k3)
 |no=>
  intro c st Q h;exact h.elim

theorem MR.out {G:Gh}{fr:Nat→Ob}{m:Qk}{w:World}(h:MR G (fr :: m) w){S:Nat→Prop}(hS:∀b,S b→(∃s,G.vm 0 s=some b)∨∃s,G.nm 0 s=some b):MR ((G.pub w S).dn 1) m w:=by
 have hnS:∀l s b,G.nm (l+1) s=some b→¬S b:=fun l s b e hs=>by
  rcases hS b hs with⟨s',e'⟩|⟨s',e'⟩
  ·exact h.inj3 _ _ _ _ _ e e'
  ·have:=(h.inj1 _ _ _ _ _ e e').1;omega
 have hvS:∀l s b,G.vm (l+1) s=some b→¬S b:=fun l s b e hs=>by
  rcases hS b hs with⟨s',e'⟩|⟨s',e'⟩
  ·have:=(h.inj2 _ _ _ _ _ e e').1;omega
  ·exact h.inj3 _ _ _ _ _ e' e
 have hgle:Gle G (G.pub w S):=Gh.pub_gle h.stab;refine⟨fun b o v e=>?_,fun l s xs e=>?_,fun l s b e=>?_,fun l s g sz xs e=>?_,fun l s b e=>?_,fun l s e=>?_,fun l s l' s' b e e'=>?_,fun l s l' s' b e e'=>?_,fun l s l' s' b e e'=>?_,fun l s t p e=>h.iter (l+1) s t p e⟩
 ·have e:(G.pub w S).stab b o=some v:=e;by_cases hs:S b∧∀o,Jb b o=none
  ·rw[Gh.pub_c hs]at e;exact Bc e
  ·rw[Gh.pub_n hs]at e;exact h.stab b o v e
 ·obtain⟨b,cs,e',hc,hr⟩:=h.cells (l+1) s xs e;refine⟨b,cs,e',hc,?_⟩;rw[Gh.dn_dn];exact hr.mono (hgle.dn (l+1))
 ·obtain⟨h1,h2⟩:=h.nm (l+1) s b e;refine⟨h1,fun o=>?_⟩;show(G.pub w S).stab b o=none;rw[Gh.pub_out (hnS _ _ _ e)];exact h2 o
 ·obtain⟨a1,a2,a3,a4⟩:=h.vec (l+1) s g sz xs e;exact⟨a1,a2,a3,a4.imp id fun⟨b,e',r⟩=>⟨b,e',r.of rfl fun vs hv=>RepL.rfd (G:=G) (G':=(G.pub w S).dn 1) hgle.stab a3.rf hv⟩⟩
 ·obtain⟨h1,h2⟩:=h.vm (l+1) s b e;refine⟨h1,fun o=>?_⟩;show(G.pub w S).stab b o=none;rw[Gh.pub_out (hvS _ _ _ e)];exact h2 o
 ·exact h.gone (l+1) s e
 ·obtain⟨h1,h2⟩:=h.inj1 _ _ _ _ _ e e';exact⟨by omega,h2⟩
 ·obtain⟨h1,h2⟩:=h.inj2 _ _ _ _ _ e e';exact⟨by omega,h2⟩
 ·exact h.inj3 _ _ _ _ _ e e'

def Za (rs:List RR)(n:Nat)(R:AV→Qk→Prop):Exit→St→Prop:=fun e st=>
 (e=.normal∨e=.ret)∧st.ds=[]∧∃x y fr m,WF st rs=some x∧W4 st.m x=some y∧st.m=fr :: m∧m.length=n∧R y m

theorem VT {G:Gh}{args:List AV}{vs:List Value}(h:RepL G args vs){N:Nat}(i:Nat):Rep G.up (MA (AV.shL args) i) (((vs.toArray++Array.replicate (N-vs.toArray.size) undef):Array Value).getD i undef):=by
 have h':RepL G.up (AV.shL args) vs:=RepL.sh (G:=G.up) (by rw[Gh.up_dn];exact h);have hl:=h'.length;unfold MA;by_cases hi:i<vs.length
 ·obtain⟨x,e,hx⟩:=h'.back (QYN hi);rw[e];simp only[QZQ,QYU];rw[Array.getElem?_append_left (by simpa using hi)]
  simpa [hi]using hx
 ·rw[QZ4 (by omega)];simp only[Q0g,QYU];rw[Array.getElem?_append_right (by simpa using hi)];cases hx:(Array.replicate (N-vs.toArray.size) undef)[i-vs.toArray.size]? with
  |none=>exact .tup .nil
  |some v=>
   have:=QYQ.1 hx;obtain⟨_,h2⟩:=this;simp at h2;subst h2;exact .tup .nil

theorem FD {fn:Func}{args:List AV}{m:Qk}{G:Gh}{w:World}{vs:List Value}(hvs:RepL G args vs)(hm:MR G m w)(hN:fn.ntmps=N)(ha:args.length≤N) :
  Rel G.up w.heap.size N (St.enter args m) { tmps:=vs.toArray++Array.replicate (fn.ntmps-vs.toArray.size) undef,defers:=[] } w:=by
 have hlen:=hvs.length;refine⟨hm.up,?_,fun i=>VT hvs i,.nil,fun s b e=>?_,QYK _,by simp[St.enter]⟩
 ·simp;omega
 ·rcases e with e|e<;>cases e

theorem V6 {fn:Func}{rs:List RR}{G G':Gh}{m m':Qk}{w w':World}{st':St}{a':Act}{fr:Nat→Ob}{x y:AV}{R:AV→Qk→Prop}(hr:J1 P fn.results.toList rs=true)(hr':Rel G' w.heap.size N st' a' w')(he:Ext 1 G.up w G' w')
  (hx:WF st' rs=some x) (hy:W4 st'.m x=some y) (hst:st'.m=fr :: m') (hml:m'.length=m.length) (hR:R y m') :
  ∃v,(results fn a'.tmps).run P w'=.ok v w'∧(∃G'' x v' m'',(Ending.returned v)=.returned v'∧R x m''∧Rep G'' x v'∧MR G'' m'' w'∧Ext 0 G w G'' w'∧m''.length=m.length):=by
 obtain⟨v,hrun,hv⟩:=QbK (P:=P) hr' hr hx
 let S:Nat→Prop:=fun b=>(∃s,G'.vm 0 s=some b)∨∃s,G'.nm 0 s=some b
 have hmr:=hr'.mr;have hSt:∀l s b,(true&&l != 0)=false→G'.vm l s=some b→S b:=by
  intro l s b hl e;have:l=0:=by simpa using hl
  subst this;exact .inl ⟨s,e⟩
 unfold W4 at hy;rw[Option.bind_eq_some_iff]at hy;obtain⟨z,hz,hy⟩:=hy;have hv2:=Rep.un (HP hmr (own:=true) (S:=S) hSt (fun _ s b _ _ _ e _=>.inr ⟨s,e⟩) hv z hz) y hy;rw[hst]at hmr;have hout:=hmr.out (S:=S) (fun b hs=>hs);have hmine:∀b,((G'.pub w' S).dn 1).mine b→G'.mine b:=by
  rintro b (⟨l,s,e⟩|⟨l,s,e⟩)
  ·exact .inl ⟨l+1,s,e⟩
  ·exact .inr ⟨l+1,s,e⟩
 have hext:Ext 0 G w ((G'.pub w' S).dn 1) w':=by
  refine⟨he.os,he.tape,he.output,he.size,fun b o v e=>?_,fun l s _=>he.nm (l+1) s (by omega),fun l s=>he.vg (l+1) s,fun l s e=>he.vs (l+1) s e,fun b hb hnm=>?_,fun b hb=>?_,fun l s b e=>?_⟩
  ·exact(Gh.pub_gle (S:=S) hr'.mr.stab).stab b o v (he.stab b o v e)
  ·obtain⟨h1,h2⟩:=he.old b hb (fun hx=>hnm (Gh.up_mine.1 hx));refine⟨h1,fun o=>?_⟩;have hnS:¬S b:=by
    rintro(⟨s,e⟩|⟨s,e⟩)
    ·have:=hr'.base s b (.inr e);omega
    ·have:=hr'.base s b (.inl e);omega
   show(G'.pub w' S).stab b o=G.stab b o;rw[Gh.pub_out hnS];exact h2 o
  ·rcases he.mine b (hmine b hb)with h1|h1
   ·exact .inl (Gh.up_mine.1 h1)
   ·exact .inr h1
  ·rcases he.mv (l+1) s b e with⟨i,t,hi,h1⟩|h1
   ·cases i with
    |zero=>cases h1
    |succ i=>exact .inl ⟨i,t,by omega,h1⟩
   ·exact .inr h1
 exact⟨v,hrun,_,y,v,m',rfl,hR,hv2,hout,hext,hml⟩

theorem Um {k:FuncId} {fn:Func} {c:Code} {rc:RC} {rs:List RR} {args:List AV} {m:Qk} {R:AV→Qk→Prop} (hf:P.funcs[k]? = some fn) (hb:fn.body=some c) (hn:(fn.name == "runtime.NumGoroutine")=false) (hN:fn.ntmps=N) (hc:Zn P N rc c=true) (hr:J1 P fn.results.toList rs=true)
  (ha:args.length≤N) (h:QN P rc (St.enter args m) (Za rs m.length R)):Qf P k args m R:=by
 refine⟨⟨fn,hf,hn,by rw[hb];rfl⟩,fun G w vs hvs hm=>?_⟩;refine calls_of_wp hf hb ?_;refine Rj h hc (FD hvs hm hN ha) fun e G' st' a' w' hq hr' he=>?_
 obtain⟨hex,hds,x,y,fr,m',hx,hy,hst,hml,hR⟩:=hq;have hdef:a'.defers=[]:=by
  have:=hr'.ds;rw[hds]at this;cases hd:a'.defers with
  |nil=>rfl
  |cons d l=>rw[hd]at this;cases this
 have hfin:=V6 (R:=R) hr hr' he hx hy hst hml hR;rcases hex with rfl|rfl
 ·exact⟨hdef,hfin⟩
 ·exact⟨hdef,hfin⟩

def Yq (P:Program)(k:FuncId)(args:List AV)(m:Qk)(R:AV→Qk→Prop):Prop :=
 YT P k∧∀(G:Gh) (w:World) (vs:List Value),RepL G args vs→MR G m w→∀u,CallsD P k ⟨vs⟩ u w fun e u' w'=>u'=u∧∃G' x v m',e=.returned v∧R x m'∧Rep G' x v∧MR G' m' w'∧Ext 0 G w G' w'∧m'.length=m.length

theorem DL {k:FuncId} {fn:Func} {c:Code} {rc:RC} {rs:List RR} {args:List AV} {m:Qk} {R:AV→Qk→Prop} (hf:P.funcs[k]? = some fn) (hb:fn.body=some c) (hn:(fn.name == "runtime.NumGoroutine")=false) (hN:fn.ntmps=N) (hc:Zn P N rc c=true) (hr:J1 P fn.results.toList rs=true)
  (ha:args.length≤N) (h:QN P rc (St.enter args m) (Za rs m.length R)):Yq P k args m R:=by
 refine⟨⟨fn,hf,hn,by rw[hb];rfl⟩,fun G w vs hvs hm u=>?_⟩;refine callsD_of_wp (R:=fun e w'=>∃G' x v m',e=.returned v∧R x m'∧Rep G' x v∧MR G' m' w'∧Ext 0 G w G' w'∧m'.length=m.length) hf hb ?_;refine Rj h hc (FD hvs hm hN ha) fun e G' st' a' w' hq hr' he=>?_
 obtain⟨hex,hds,x,y,fr,m',hx,hy,hst,hml,hR⟩:=hq;have hdef:a'.defers=[]:=by
  have:=hr'.ds;rw[hds]at this;cases hd:a'.defers with
  |nil=>rfl
  |cons d l=>rw[hd]at this;cases this
 have hfin:=V6 (R:=R) hr hr' he hx hy hst hml hR;rcases hex with rfl|rfl
 ·exact⟨hdef,hfin⟩
 ·exact⟨hdef,hfin⟩

end

def CK (P:Program)(k N:Nat)(rc:RC)(rs:List RR):Prop :=
 ∃fn c, P.funcs[k]? = some fn∧fn.body=some c∧(fn.name == "runtime.NumGoroutine")=false∧fn.ntmps=N∧Zn P N rc c=true∧J1 P fn.results.toList rs=true
theorem CK.go {P:Program}{k N:Nat}{rc:RC}{rs:List RR}{args:List AV}{m:Qk}{R:AV→Qk→Prop}(h:CK P k N rc rs)(ha:args.length≤N)(w:QN P rc (St.enter args m) (Za rs m.length R)):Qf P k args m R:=by
 obtain⟨fn,c,h1,h2,h3,h4,h5,h6⟩:=h;exact Um h1 h2 h3 h4 h5 h6 ha w
theorem ck {P:Program} {k N:Nat} {fn:Func} {rc:RC} {rs:List RR} (hf:P.funcs[k]? = some fn) (hN:fn.ntmps=N) (h:(fn.body.isSome && !(fn.name == "runtime.NumGoroutine")&&Zn P N rc (fn.body.getD .skip)&&J1 P fn.results.toList rs)=true):CK P k N rc rs := by
 simp only[QY7,QZD,Option.isSome_iff_exists]at h;obtain⟨⟨⟨⟨c,hc⟩,h1⟩,h2⟩,h3⟩:=h;rw[hc]at h2;exact⟨fn,c,hf,hc,h1,hN,h2,h3⟩
theorem CK.dd {P:Program}{k N:Nat}{rc:RC}{rs:List RR}{args:List AV}{m:Qk}{R:AV→Qk→Prop}(h:CK P k N rc rs)(ha:args.length≤N)(w:QN P rc (St.enter args m) (Za rs m.length R)):Yq P k args m R:=by
 obtain⟨fn,c,h1,h2,h3,h4,h5,h6⟩:=h;exact DL h1 h2 h3 h4 h5 h6 ha w
theorem CK.rl {P:Program}{k N:Nat}{rc:RC}{rs:List RR}{args:List AV}{R:AV→Prop}(h:CK P k N rc rs)(ha:args.length≤N)(w:QN P rc (St.enter args []) (Za rs 0 fun x _=>R x)):Fn? P k args R:=h.go ha w
theorem CK.fn {P:Program}{k N:Nat}{rc:RC}{rs:List RR}{args:List AV}{v:AV}(h:CK P k N rc rs)(ha:args.length≤N)(w:QN P rc (St.enter args []) (Za rs 0 fun x _=>x=v)):Qi P k args v:=h.go ha w

section
variable {P:Program}{f:Fr}{m:Qk}{ds:List DF}{K:St→Prop}{Q:Exit→St→Prop}{Qg:List Item}{d:Nat}

def Kc (P:Program)(b:RC)(Q:Exit→St→Prop):Exit→St→Prop:=Ks (fun st'=>QN P b st' Q) Q
def Kl (I:Nat→St→Prop)(n:Nat)(Q:Exit→St→Prop):Exit→St→Prop:=Ks (fun s=>∃k,k<n∧I k s) Q

theorem UA {st:St}:QN P .skip st Q=Q .normal st:=id rfl
theorem QOD {st:St}:QN P .no st Q=False:=id rfl
theorem QD7 {st:St}:QN P .lab st Q=Q .normal st:=id rfl
theorem QD8 {st:St}:QN P .ret st Q=Q .ret st:=id rfl
theorem Qgl {st:St}{i:Nat}:QN P (.exit i) st Q=Q (.exit i) st:=id rfl
theorem UZ {st:St}:QN P (.reg Qg) st Q=Qq P Qg st (Q .normal):=id rfl
theorem Qgm {st:St}:QN P (.draw Qg) st Q=Qq P Qg st (Q .normal):=id rfl
theorem U0 {st:St}{a b:RC}:QN P (.seq a b) st Q=QN P a st (Kc P b Q):=id rfl
theorem QbQ {st:St}{i:Nat}{a:RC}:QN P (.block i a) st Q=QN P a st (Kb i Q):=id rfl
theorem QbR {st:St}{a:RC}:QN P (.scope a) st Q=QN P a st (Kg Q):=id rfl
def DM:AV→Bool
 |.bool b=>b
 |_=>false
def Rk:AV→Prop
 |.bool _=>True
 |_=>False
theorem Qgn (b:Bool):DM (.bool b)=b:=id rfl
theorem QD9 (b:Bool):Rk (.bool b)=True:=id rfl
def HS (P:Program)(v:AV)(a b:RC)(st:St)(Q:Exit→St→Prop):Prop:=Rk v∧(DM v=true→QN P a st Q)∧(DM v=false→QN P b st Q)
theorem HT {a b:RC}{st:St}:HS P (.bool true) a b st Q=QN P a st Q:=by simp[HS,Rk,DM]
theorem WH {a b:RC}{st:St}:HS P (.bool false) a b st Q=QN P b st Q:=by simp[HS,Rk,DM]
theorem XZ {t:Bool}{a b:RC}{st:St}(h1:t=true→QN P a st Q)(h2:t=false→QN P b st Q):HS P (.bool t) a b st Q:=⟨trivial,h1,h2⟩
theorem WI {c:RA}{a b:RC}:QN P (.cond c a b) ⟨f,m,ds⟩ Q=HS P (c.ev f) a b ⟨f,m,ds⟩ Q:=by
 simp only[QN,HS];generalize c.ev f=v;cases v<;>simp[DM,Rk]

theorem Jj {b:RC}{st:St}:Kc P b Q .normal st=QN P b st Q:=id rfl
theorem Qgo {b:RC}{st:St}{i:Nat}:Kc P b Q (.exit i) st=Q (.exit i) st:=id rfl
theorem Qgp {b:RC}{st:St}:Kc P b Q .ret st=Q .ret st:=id rfl
theorem Qgq {st:St}{i:Nat}:Kb i Q .normal st=Q .normal st:=id rfl
theorem BS {st:St}{i j:Nat}:Kb i Q (.exit j) st=if j=i then Q .normal st else Q (.exit j) st:=id rfl
theorem Qgr {st:St}{i:Nat}:Kb i Q .ret st=Q .ret st:=id rfl
theorem Qgs {st:St}:Kg Q .normal st=Q .normal st:=id rfl
theorem Qgt {st:St}{j:Nat}:Kg Q (.exit j) st=Q (.exit j) st:=id rfl
theorem Qgu {st:St}:Kg Q .ret st=Q .ret st:=id rfl
theorem Qgv {I:Nat→St→Prop}{n:Nat}{st:St}:Kl I n Q .normal st = ∃k,k<n∧I k st:=id rfl
theorem Qgw {I:Nat→St→Prop}{n:Nat}{st:St}{j:Nat}:Kl I n Q (.exit j) st=Q (.exit j) st:=id rfl
theorem Qgx {I:Nat→St→Prop}{n:Nat}{st:St}:Kl I n Q .ret st=Q .ret st:=id rfl

theorem Qe {a:RC}{st:St}(I:Nat→St→Prop)(n:Nat)(h0:I n st)(h:∀n st',I n st'→QN P a st' (Kl I n Q)):QN P (.loop a) st Q:=⟨I,n,h0,h⟩

theorem KY {st:St}:Qq P [] st K=K st:=id rfl
def Zs (x:Option AV):AV:=x.getD .top
def Jz (x:Option AV):Prop:=x.isSome=true
theorem Jk (x:AV):Zs (some x)=x:=id rfl
theorem KZ (x:AV):Jz (some x)=True:=by simp[Jz]
theorem K0 {vo:VO}:Qq P (⟨some d,.val vo,none⟩ :: Qg) ⟨f,m,ds⟩ K=(Jz (QG f m vo)∧Qq P Qg ⟨Qt f d (Zs (QG f m vo)),m,ds⟩ K):=by
 simp only[Qq,X9,Ul,Qn];generalize QG f m vo=v;cases v<;>simp[Zs,Jz]

def mget (x:Option Qk):Qk:=x.getD []
def V7 (x:Option Qk):Prop:=x.isSome=true
theorem Qgy (x:Qk):mget (some x)=x:=id rfl
theorem QEa (x:Qk):V7 (some x)=True:=by simp[V7]
theorem QbS {n:Nat}{p r:RA}:Qq P (⟨none,.store n p r,none⟩ :: Qg) ⟨f,m,ds⟩ K=((r.ev f).cells.length=n∧(r.ev f).cells.all AV.leaf=true∧V7 (Q8 m (p.ev f) (r.ev f).cells)∧Qq P Qg ⟨f,mget (Q8 m (p.ev f) (r.ev f).cells),ds⟩ K):=by
 simp only[Qq,X9,Ul,Qn];generalize Q8 m (p.ev f) (r.ev f).cells=v;cases v<;>simp[mget,V7]
def Ea (l s:Nat)(v:AV):Prop:=∃o,v=.ptr l s o
theorem Qgz (l s o:Nat):Ea l s (.ptr l s o)=True:=eq_true ⟨o,rfl⟩
theorem Eb {l s n:Nat}{p r:RA}:Qq P (⟨none,.storev l s n p r,none⟩ :: Qg) ⟨f,m,ds⟩ K=(Ea l s (p.ev f)∧(r.ev f).cells.length=n∧(r.ev f).cells.all AV.leaf=true∧V7 (Q8 m (p.ev f) (r.ev f).cells)∧Qq P Qg ⟨f,mget (Q8 m (p.ev f) (r.ev f).cells),ds⟩ K):=by
 simp only[Qq,X9,Ul,Qn,Ea];generalize Q8 m (p.ev f) (r.ev f).cells=v;cases v<;>simp[mget,V7]
theorem Ec {s:Nat}{z:List AV}:Qq P (⟨some d,.allocN s z,none⟩ :: Qg) ⟨f,m,ds⟩ K=(XP m s=true∧Qq P Qg ⟨Qt f d (.ptr 0 s 0),Am.put m 0 s (.cells z),ds⟩ K):=id rfl
theorem QgA {s:Nat}{r:RA}:Qq P (⟨some d,.boxN s r,none⟩ :: Qg) ⟨f,m,ds⟩ K=(XP m s=true∧(r.ev f).cells.all AV.leaf=true∧Qq P Qg ⟨Qt f d (.ptr 0 s 0),Am.put m 0 s (.cells (r.ev f).cells),ds⟩ K):=id rfl

theorem IR {sz len:Nat}{z:List AV}{ps:List (Nat×Nat×RA)}{y:List AV}(hy:fill f ps (Jd z sz len)=some y)(h1:AV.rfL y=true)(h2:y.all AV.leaf=true):Qq P (⟨some d,.bsl sz len z ps,none⟩ :: Qg) ⟨f,m,ds⟩ K=Qq P Qg ⟨Qt f d (.list (Jc sz len (y.map nn0))),m,ds⟩ K:=by
 apply propext
 constructor
 ·rintro⟨y',h,_,_,k⟩;have h:fill f ps (Jd z sz len)=some y':=h;rw[hy]at h;cases h;exact k
 ·intro k;exact⟨y,hy,h1,h2,k⟩
theorem Zu {sz:Nat}{z l:List AV}{r:RA}(hr:r.ev f=.agg l)(hl:l.length=sz)(h1:sz≠1)(hf:AV.rfL l=true)(hlf:l.all AV.leaf=true)(h:Qq P Qg ⟨Qt f d (.list [.agg (l.map nn0)]),m,ds⟩ K) :
  Qq P (⟨some d,.bsl sz 1 z [(0,sz,r)],none⟩ :: Qg) ⟨f,m,ds⟩ K:=by
 have hz:(Jd z sz 1).length=sz:=by simp[Jd]
 have hy:fill f [(0,sz,r)] (Jd z sz 1)=some l:=by
  simp only[fill,hr,AV.cells,hl,hlf,QY9,hz,QYK,QZJ,if_true,splice,QZO,QY6];rw[QZm (by omega),QZI]
 rw[IR hy hf hlf];have hc:Jc sz 1 (l.map nn0)=[.agg (l.map nn0)]:=by
  simp only[Jc,QYR h1];rw[QZj (by rw[QZ5];omega)]
 rw[hc];exact h

theorem Yq.mono {k:FuncId}{args:List AV}{m:Qk}{R R':AV→Qk→Prop}(h:Yq P k args m R)(hr:∀x m',R x m'→R' x m'):Yq P k args m R' :=
 ⟨h.1,fun G w vs h1 h2 u c cs hu=>by
  obtain⟨e,u',w',fr,⟨h3,G',x,v,m',h4,h5,h6⟩,h7⟩:=h.2 G w vs h1 h2 u c cs hu;exact⟨e,u',w',fr,⟨h3,G',x,v,m',h4,hr _ _ h5,h6⟩,h7⟩⟩

theorem ZZ {slot site sz:Nat}{a:RC}{fr:Nat→Ob}(h1:f slot=.nils)(h2:fr site=.none)(h:QN P a ⟨Qt f slot (.vec 0 site 1 0 0 false),Qt fr site (.vec 1 sz []) :: m,ds⟩ Q):QN P (.gho (.vec slot site sz) a) ⟨f,fr :: m,ds⟩ Q:=by
 refine⟨_,?_,h⟩;have e:Qh (fr :: m) 0 site=.none:=h2;simp[JW,h1,e,QI,QK,Am.put]

theorem QJ {sz bytes el:Nat}{s r:RA}{site g n:Nat}{fr:Nat→Ob}{xs ys:List AV}(hs:s.ev f=.vec 0 site g 0 n false)(hl:fr site=.vec g sz xs)(ht:Zr site el=true)(hn:n=xs.length)(hr:r.ev f=.list ys)(hz:ys.all (fun e=>e.cells.length==sz)=true)(hm:n+ys.length≤maxLen)(hb:(n+ys.length)*bytes≤140737488355328)
  (h:Qq P Qg ⟨Qt f d (.vec 0 site (g+1) 0 (n+ys.length) false),Qt fr site (.vec (g+1) sz (xs++ys)) :: m,ds⟩ K):Qq P (⟨some d,.app sz bytes el s r,none⟩ :: Qg) ⟨f,fr :: m,ds⟩ K:=by
 refine⟨0,site,g,n,xs,ys,hs,hl,ht,by omega,?_,hz,hm,hb,?_⟩
 ·show Zd (fr :: m) (r.ev f)=some ys;rw[hr];rfl
 ·subst hn;rw[Q0h];exact h

theorem Xu {k:Nat}{args:List RA}{ys:List AV}{v:AV}(hk:Qi P k ys v)(hy:AV.stillL false m (args.map (RA.ev f))=some ys)(h1:AV.rfL ys=true)(h2:v.rf=true)(h3:AV.rfL (args.map (RA.ev f))=true∨v.nl=true)(h:Qq P Qg ⟨Qt f d v,m,ds⟩ K) :
  Qq P (⟨some d,.call (.f k) args,none⟩ :: Qg) ⟨f,m,ds⟩ K:=by
 refine⟨k,[],[],ys,v,rfl,?_,h1,hk,h2,?_,h⟩
 ·simpa using hy
 ·simpa using h3

theorem aC {k:Nat}{args:List RA}{ys:List AV}{v:AV}(hk:Qi P k ys v)(h:Qq P Qg ⟨Qt f d v,m,ds⟩ K)(hy:AV.stillL false m (args.map (RA.ev f))=some ys:=by rfl)(h1:AV.rfL ys=true:=by rfl)(h2:v.rf=true:=by rfl)(h3:AV.rfL (args.map (RA.ev f))=true∨v.nl=true:=by exact .inl rfl) :
  Qq P (⟨some d,.call (.f k) args,none⟩ :: Qg) ⟨f,m,ds⟩ K:=Xu hk hy h1 h2 h3 h

theorem V8 {cnt:Bool}{k:Nat}{s c:RA}{t:List UInt8}{b:Int}(hs:s.ev f=.str t)(hb:c.ev f=.int .u8 b)(h:Qq P Qg ⟨Qt f d (.int .i64 (Gx cnt t b)),m,ds⟩ K):Qq P (⟨some d,.xb cnt k s c,none⟩ :: Qg) ⟨f,m,ds⟩ K :=
 ⟨t,b,hs,hb,h⟩

theorem FE {s:Nat}{r:RA}{fr:Nat→Ob}{t:List UInt8}(ht:r.ev f=.str t)(hn:fr s=.none)(h:Qq P Qg ⟨Qt f d (.ptr 0 s 0),Qt fr s (.iter (.str t) 0) :: m,ds⟩ K) :
  Qq P (⟨some d,.rngs s r,none⟩ :: Qg) ⟨f,fr :: m,ds⟩ K:=by
 refine⟨t,ht,?_,h⟩;show(match fr s with|.none=>true|_=>false)=true;rw[hn]

theorem FG {s p:Nat}{r:RA}{fr:Nat→Ob}{t:List UInt8}(hr:r.ev f=.ptr 0 s 0)(hl:fr s=.iter (.str t) p)
  (h1:p<t.length→Qq P Qg ⟨Qt f d (.tup [.bool true,.int .i64 (p:Nat),.int .i32 ((XA t p).1:Nat)]),Qt fr s (.iter (.str t) (p+(XA t p).2)) :: m,ds⟩ K)
  (h2:t.length≤p→Qq P Qg ⟨Qt f d (.tup [.bool false]),fr :: m,ds⟩ K) :
  Qq P (⟨some d,.nxts r,none⟩ :: Qg) ⟨f,fr :: m,ds⟩ K :=
 ⟨0,s,t,p,hr,hl,h1,h2⟩

theorem Qb {k:Nat}{args:List RA}{ys:List AV}{v:AV}{m':Qk}(hk:Qf P k ys m fun x m1=>x=v∧m1=m')(hy:args.map (RA.ev f)=ys)(h:Qq P Qg ⟨Qt f d v,m',ds⟩ K) :
  Qq P (⟨some d,.callF (.f k) args,none⟩ :: Qg) ⟨f,m,ds⟩ K:=by
 refine⟨k,[],[],v,m',rfl,?_,h⟩;show Qf P k (args.map (RA.ev f)++[]) m fun x m1=>x=v∧m1=m'
 rw[QZI,hy];exact hk

theorem V9 {site el sz bytes:Nat}{z:List AV}{l c:RA}{kl kc:IntKind}{n k:Nat}{fr:Nat→Ob}(hl:l.ev f=.int kl (n:Int))(hc:c.ev f=.int kc (k:Int))(hnk:n≤k)(hk:k≤9223372036854775807)(hb:bytes*k≤281474976710656)(hs:fr site=.none)
  (h:Qq P Qg ⟨Qt f d (.vec 0 site 1 0 n false),Qt fr site (.vec 1 sz (List.replicate n (X6 sz z))) :: m,ds⟩ K):Qq P (⟨some d,.mk site el sz bytes z l c,none⟩ :: Qg) ⟨f,fr :: m,ds⟩ K:=by
 have e:Qh (fr :: m) 0 site=.none:=hs;refine⟨kl,kc,n,k,hl,hc,hnk,hk,hb,?_,?_⟩
 ·show QI (Qh (fr :: m) 0 site)=true;rw[e];rfl
 ·have hg:QK (fr :: m) 0 site=1:=by unfold QK;rw[e]
  simp only[hg];exact h

theorem Rl {s:Nat}{a:RC}{fr:Nat→Ob}:QN P (.gho (.drop s) a) ⟨f,fr :: m,ds⟩ Q=((fr s).isRow=false∧QN P a ⟨fun i=>(f i).scrub s,Qt (fun i=>(fr i).scrub s) s .none :: m,ds.map (DF.scrub s)⟩ Q):=by
 apply propext
 have hn:YQ (fr :: m) s=!(fr s).isRow:=by
  unfold YQ;show(match fr s with|.vec .. => false|_=>true)=_;cases fr s<;>rfl
 constructor
 ·rintro⟨st',h1,h2⟩;simp only[JW,hn]at h1;cases hr:(fr s).isRow with
  |true=>rw[hr]at h1;cases h1
  |false=>rw[hr]at h1;cases h1;exact⟨rfl,h2⟩
 ·rintro⟨h1,h2⟩;refine⟨_,?_,h2⟩;simp only[JW,hn,h1];rfl
theorem Rm (s:Nat):AV.top.scrub s=.top:=id rfl
theorem Rn (s:Nat)(k:IntKind)(n:Int):(AV.int k n).scrub s=.int k n:=id rfl
theorem MM (s:Nat)(b:Bool):(AV.bool b).scrub s=.bool b:=id rfl
theorem Ro (s:Nat)(b:List UInt8):(AV.str b).scrub s=.str b:=id rfl
theorem MN (s:Nat):AV.nils.scrub s=.nils:=id rfl
theorem MO (s:Nat):AV.nilp.scrub s=.nilp:=id rfl
theorem MP (s:Nat):AV.nili.scrub s=.nili:=id rfl
theorem MQ (s:Nat):AV.nilf.scrub s=.nilf:=id rfl
theorem MS (s:Nat)(l:List AV):(AV.list l).scrub s=.list l:=id rfl
theorem Rp (s l t g o n:Nat)(q:Bool):(AV.vec l t g o n q).scrub s=.vec l t g o n q:=id rfl
theorem Rq (s:Nat)(l:List AV):(AV.agg l).scrub s=.agg (AV.scrubL s l):=id rfl
theorem Rr (s:Nat)(l:List AV):(AV.tup l).scrub s=.tup (AV.scrubL s l):=id rfl
theorem Rs (s t o:Nat):(AV.ptr 0 t o).scrub s=bif Nat.beq t s then .top else .ptr 0 t o:=id rfl
theorem MT (s l t o:Nat):(AV.ptr (l+1) t o).scrub s=.ptr (l+1) t o:=id rfl
theorem Rt (s:Nat):AV.scrubL s []=[]:=id rfl
theorem MU (s:Nat)(x:AV)(l:List AV):AV.scrubL s (x :: l)=x.scrub s :: AV.scrubL s l:=id rfl
theorem VU (s:Nat)(l:List AV):(Ob.cells l).scrub s=.cells (AV.scrubL s l):=id rfl
theorem Ru (s g z:Nat)(l:List AV):(Ob.vec g z l).scrub s=.vec g z l:=id rfl
theorem MX (s:Nat):Ob.none.scrub s=.none:=id rfl
theorem Hu (s:Nat)(o:Ob):(o.scrub s).isRow=o.isRow:=by cases o<;>rfl
theorem VW (l:List AV):(Ob.cells l).isRow=false:=id rfl
theorem MY:Ob.none.isRow=false:=id rfl

def Z0 (P:Program)(v:AV)(w:Bool)(d:Option Nat)(ro:RO)(Qg:List Item)(st:St)(K:St→Prop):Prop :=
 match v with
 |.bool b=>(b=w→Qq P (⟨d,ro,none⟩ :: Qg) st K)∧(b=(!w)→Qq P Qg { st with f:=Qn st.f d (.tup []) } K)
 |.tup l=>l=[]∧Qq P Qg { st with f:=Qn st.f d (.tup []) } K
 |_=>False
theorem Zz {b:Bool}{d:Option Nat}{ro:RO}{st:St}(h1:b=true→Qq P (⟨d,ro,none⟩ :: Qg) st K)(h2:b=false→Qq P Qg { st with f:=Qn st.f d (.tup []) } K):Z0 P (.bool b) true d ro Qg st K:=⟨h1,h2⟩
theorem ZA {b:Bool}{d:Option Nat}{ro:RO}{st:St}(h1:b=false→Qq P (⟨d,ro,none⟩ :: Qg) st K)(h2:b=true→Qq P Qg { st with f:=Qn st.f d (.tup []) } K):Z0 P (.bool b) false d ro Qg st K:=⟨h1,h2⟩
theorem WJ {d:Option Nat}{ro:RO}{st:St}:Z0 P (.bool true) true d ro Qg st K=Qq P (⟨d,ro,none⟩ :: Qg) st K:=by simp[Z0]
theorem Ed {d:Option Nat}{ro:RO}{st:St}:Z0 P (.bool false) false d ro Qg st K=Qq P (⟨d,ro,none⟩ :: Qg) st K:=by simp[Z0]
theorem Rv {ro:RO}:Z0 P (.bool true) false (some d) ro Qg ⟨f,m,ds⟩ K=Qq P Qg ⟨Qt f d (.tup []),m,ds⟩ K:=by simp[Z0,Qn]
theorem UB {ro:RO}:Z0 P (.bool false) true (some d) ro Qg ⟨f,m,ds⟩ K=Qq P Qg ⟨Qt f d (.tup []),m,ds⟩ K:=by simp[Z0,Qn]
theorem Ee {ro:RO}{w:Bool}:Z0 P (.tup []) w (some d) ro Qg ⟨f,m,ds⟩ K=Qq P Qg ⟨Qt f d (.tup []),m,ds⟩ K:=by simp[Z0,Qn]
theorem MZ {ro:RO}{st:St}:Z0 P (.bool true) false none ro Qg st K=Qq P Qg st K:=by simp[Z0,Qn]
theorem M0 {ro:RO}{st:St}:Z0 P (.bool false) true none ro Qg st K=Qq P Qg st K:=by simp[Z0,Qn]
theorem Rw {ro:RO}{w:Bool}{st:St}:Z0 P (.tup []) w none ro Qg st K=Qq P Qg st K:=by simp[Z0,Qn]
theorem GE {ro:RO}{j:Nat}{w:Bool}{d:Option Nat}:Qq P (⟨d,ro,some (j,w)⟩ :: Qg) ⟨f,m,ds⟩ K=Z0 P (f j) w d ro Qg ⟨f,m,ds⟩ K:=by
 simp only[Qq,X9,Z0]
 all_goals(generalize f j=v;cases v<;>rfl)

theorem Ef {rs:List RR}{n:Nat}{R:AV→Qk→Prop}{fr:Nat→Ob}:Za rs n R .ret ⟨f,fr :: m,ds⟩=(ds=[]∧Jz (WF ⟨f,fr :: m,ds⟩ rs)∧Jz (W4 (fr :: m) (Zs (WF ⟨f,fr :: m,ds⟩ rs)))∧m.length=n∧R (Zs (W4 (fr :: m) (Zs (WF ⟨f,fr :: m,ds⟩ rs)))) m):=by
 apply propext
 constructor
 ·rintro⟨_,h1,x,y,fr',m',h2,h3,h4,h5,h6⟩;cases h4;have h1:ds=[]:=h1;rw[h2,Jk,h3];exact⟨h1,rfl,rfl,h5,h6⟩
 ·rintro⟨h1,h2,h3,h4,h5⟩;generalize hv:WF ⟨f,fr :: m,ds⟩ rs=v at h2 h3 h5;cases v with
  |none=>cases h2
  |some x=>
   rw[Jk]at h3 h5;cases hl:W4 (fr :: m) x with
   |none=>rw[hl]at h3;cases h3
   |some y=>
    rw[hl]at h5;exact⟨.inr rfl,h1,x,y,fr,m,hv,hl,rfl,h4,h5⟩
theorem Eg {rs:List RR}{n:Nat}{R:AV→Qk→Prop}{st:St}:Za rs n R .normal st=Za rs n R .ret st:=by
 simp[Za]

theorem K1 {α:Type}(f:Nat→α)(d:Nat)(x:α)(i:Nat):Qt f d x i=bif Nat.beq i d then x else f i:=id rfl
theorem J6 (a b:Nat):Nat.beq a b=(a==b):=by
 cases h:Nat.beq a b with
 |true=>rw[QYI h];simp
 |false=>have:=Nat.ne_of_beq_eq_false h;simp[this]
theorem Xf {s idx site sz:Nat}{a:RC}{fr:Nat→Ob}{xs:List AV}(h1:fr s=.cells xs)(h2:xs[idx]? = some .nils)(h3:fr site=.none)(hne:Nat.beq site s=false)(h:QN P a ⟨f,Qt (Qt fr site (.vec 1 sz [])) s (.cells (xs.set idx (.vec 0 site 1 0 0 false))) :: m,ds⟩ Q):QN P (.gho (.vecc s idx site sz) a) ⟨f,fr :: m,ds⟩ Q:=by
 refine⟨_,?_,h⟩;have e1:Qh (fr :: m) 0 s=.cells xs:=h1;have e:Qh (fr :: m) 0 site=.none:=h3;simp[JW,e1,h2,e,QI,QK,Am.put,hne]
theorem Kj {α:Type}(f:Nat→α)(d:Nat)(x y:α):Qt (Qt f d x) d y=Qt f d y:=by
 funext i;by_cases h:i=d
 ·subst h;rw[QY,QY]
 ·rw[Q2 _ _ h,Q2 _ _ h,Q2 _ _ h]
theorem JH {α:Type}(f:Nat→α)(d e:Nat)(x y:α)(hde:d≠e):Qt (Qt f d x) e y=Qt (Qt f e y) d x:=by
 funext i;by_cases h:i=d
 ·subst h;rw[QY,Q2 _ _ hde,QY]
 ·by_cases h2:i=e
  ·subst h2;rw[QY,Q2 _ _ h,QY]
  ·rw[Q2 _ _ h2,Q2 _ _ h,Q2 _ _ h,Q2 _ _ h2]
theorem U1 {α:Type}(f:Nat→α)(d:Nat)(x:α)(h:f d=x):Qt f d x=f:=by
 funext i;by_cases hi:i=d
 ·subst hi;rw[QY,h]
 ·rw[Q2 _ _ hi]
theorem Hv (n:Nat):(RA.t n).ev f=f n:=id rfl
theorem BT (x:AV):(RA.c x).ev f=x:=id rfl
theorem e_f (k:Nat):(RA.f k).ev f=.fn (.func k) [] []:=id rfl

end

end Go.Proofs.YtafhmlkilcmniaaGreatDoor.Am

namespace Go.Proofs.YtafhmlkilcmniaaGreatDoor.Br
open Go Am Go.RowKit Go.WideShapes Go.ChangeShapes Go.ChangeAt

theorem BU {P:Program}{k:FuncId}{args:List AV}{v:Bool}(h:Qi P k args (.bool v)){stab:Nat→Nat→Option SV}(ht:∀b o v,Jb b o=some v→stab b o=some v){w:World}(hs:∀b o u,stab b o=some u→rd w b o u){vs:List Value}(hr:RepL (Gh.bare stab ht) args vs) :
  Calls P k ⟨vs⟩ w fun e w'=>e=.returned (.bool v)∧Below w.heap.size w w' :=
 (h.2 (Gh.bare stab ht) w vs hr (MR.bare hs)).mono fun e w' ⟨G',x,u,m',he,hx,hu,_,hex,_⟩=>by
  subst hx;cases hu;exact⟨he,hex.os,hex.tape,hex.output,hex.size,fun b hb=>(hex.old b hb Gh.bare_mine).1⟩

theorem QbT {G:Gh}(s:ByteArray):Rep G (.str s.data.toList) (.string s):=by
 obtain⟨⟨l⟩⟩:=s;exact .str l

theorem Rx {n:Int}(h:(Lit.int .u64 n).wf=true):0≤n:=by
 simp[Lit.wf,IntKind.min,IntKind.max,IntKind.bits,IntKind.signed]at h;omega
theorem Ry {n:Int}(h:(Lit.int .u64 n).wf=true):n<18446744073709551616:=by
 simp[Lit.wf,IntKind.min,IntKind.max,IntKind.bits,IntKind.signed]at h;omega

section
variable {H:Type}{enc:TypeId×Value→H}{P:Program}
theorem Ba {f:Func}{s:ChangeSpec}{UX fresh handsOn again:Bool}{W W':World}{args:Array Value}{v:Value}{ds gs:List (DataW H)}{before pa pv:List MemPlace}
  (hW:DataW.Whole enc P f.params.toList s.vars UX W args.toList ds gs before)
  (hres:∀(b:Nat) (sp:Nat→Bool) (hd:Bool),DataW.TrodAll enc P W' b sp hd f.resultTypes.toList (v.resultList f.resultTypes.size) (s.fn H (ds++gs)).results [])
  (hargs:∀sp:Nat→Bool,(∀p∈before,sp p.block=true)→DataW.TrodAll enc P W' 0 sp true f.params.toList args.toList (s.fn H (ds++gs)).args pa)
  (hvars:∀sp:Nat→Bool,(∀p∈before,sp p.block=true)→DataW.TrodVars enc P W' sp s.vars (s.fn H (ds++gs)).vars pv)
  (hps:before=pa++pv) (hb:Below W.heap.size W W')
  (hok:∀(j:Nat) (t:TypeId) (r:Value),f.resultTypes[j]? = some t→(v.resultList f.resultTypes.size)[j]? = some r→Value.okWide P W' .any 0 t r) :
  s.post enc P f UX fresh handsOn again W args v W':=by
 have hlt:∀p∈before,p.block<W.heap.size:=fun p hp=>hW.lt p hp
 have hold:∀p∈before,(fun b=>decide (b<W.heap.size)) p.block=true:=fun p hp=>by simpa using hlt p hp
 refine⟨ds,gs,before,[],pa,pv,hW,hres _ _ _,hargs _ hold,hvars _ hold,World.keptBut_mono (fun p hp=>⟨hp,?_⟩) (hb.frame (·∈before)),fun _=>?_⟩
 ·rw[hps,QZX]at hp;exact Or.inr hp
 ·obtain⟨_,_,_,_,_,hz,hn⟩:=hW;refine⟨hok,_,_,([]++pa)++pv,⟨[]++pa,pv,trodAll_append (hargs _ (fun _ _=>rfl)) (hres _ _ _),hvars _ (fun _ _=>rfl),rfl,?_,?_⟩,?_⟩
  ·intro b off hp;have hin:MemPlace.cell b off∈before:=by rw[hps];simpa using hp
   rw[hb.frozen (hlt _ hin)];exact hz b off hin
  ·intro ha;have:=hn ha;rw[hps]at this
   simpa using this
  ·intro p hp _;rw[hps]
   simpa using hp
end

section
variable {H:Type}{enc:TypeId×Value→H}{P:Program}{w:World}{base:Nat}{sp:Nat→Bool}{held:Bool}

end

open Go.Joins Go.Deep Go.WideElems Go.Maps

section
variable {H:Type}{enc:TypeId×Value→H}{P:Program}{W:World}{base:Nat}{sp:Nat→Bool}{held:Bool}

end

theorem Hw {X α:Type}{f:X→List α}{sz:Nat}(hsz:0<sz)(hf:∀x,(f x).length=sz):∀(xs:List X) (j:Nat),(xs.flatMap f)[j]? = (xs[j / sz]?).bind fun x=>(f x)[j % sz]?
 | [],j=>by simp
 |x :: xs,j=>by
  rw[Q0b];by_cases hj:j<sz
  ·rw[QZ6 (by rw[hf];exact hj),Nat.div_eq_of_lt hj,Nat.mod_eq_of_lt hj];rfl
  ·obtain⟨i,rfl⟩:∃i,j=sz+i:=⟨j-sz,by omega⟩;rw[QZ7 (by rw[hf];omega),hf,Hw hsz hf xs,show sz+i-sz=i by omega,show(sz+i) / sz=i / sz+1 by rw[Nat.add_div_left _ hsz],Nat.add_mod_left];rfl

section
variable {H:Type}{enc:TypeId×Value→H}{P:Program}{W:World}

structure El (enc:TypeId×Value→H)(P:Program)(e:TypeId)(sz:Nat)(X:Type) where
 av:X→AV
 vals:X→List Value
 dat:X→DataW H
 ok:X→Prop
 pos:0<sz
 len:∀x,(vals x).length=sz
 cells:∀x,(av x).cells.length=sz
 rfl':∀x,AV.rfL (av x).cells=true
 leaf:∀x,(av x).cells.all AV.leaf=true
 rep:∀(G:Gh) x,RepL G (av x).cells (vals x)
 opened:∀ {W:World} {n:Nat} {cs:List Value} {d:DataW H} {pl:List MemPlace},cs.length=sz→DataW.trod enc P W 0 (fun _=>true) true n e cs=some (d,pl)→∃x,ok x∧cs=vals x∧d=dat x∧pl=[]
 shut:∀(W:World) (sp:Nat→Bool) x,ok x→∃n,DataW.trod enc P W 0 sp true n e (vals x)=some (dat x,[])

end

def XU:List AV→AV
 | [x]=>x
 |l=>.agg l

def GF (P:Program):Nat→List Field→Nat→Bool
 |o,[],n=>Nat.beq o n
 |o,f :: fs,n=>Nat.beq f.offset o&&GF P (o+P.cellsOf f.type) fs n

def Rz (P:Program)(ts:List TypeId)(t:TypeId):Bool :=
 match P.underlying t with
 |some (.int _)|some .bool|some .string=>P.cellsOf t==1
 |some (.struct fs)=>GF P 0 fs.toList (P.cellsOf t)&&fs.toList.all fun f=>ts.contains f.type
 |some (.slice e)=>P.cellsOf t==1&&(decide (0<P.cellsOf e)&&decide (0<P.bytesOf e))&&ts.contains e
 |_=>false
def BW (P:Program)(ts:List TypeId):Bool:=ts.all (Rz P ts)

def Q3 (P:Program)(M:Nat):Nat→TypeId→List AV→Prop
 |0,_,_=>False
 |k+1,t,cs=>match P.underlying t with
  |some (.int ik)=>∃n,cs=[.int ik n]∧(Lit.int ik n).wf=true
  |some .bool=>∃b,cs=[.bool b]
  |some .string=>∃s,cs=[.str s]∧s.length≤M
  |some (.struct fs)=>HasL (Q3 P M k) fs.toList cs
  |some (.slice e)=>∃l:List (List AV),cs=[.list (l.map XU)]∧(l.length≤maxLen∧(M=reachBytes→l.length*P.bytesOf e≤M))∧(∀c∈l,Q3 P M k e c)∧l.length≤M
  |_=>False
where
 HasL (h:TypeId→List AV→Prop):List Field→List AV→Prop
  | [],cs=>cs=[]
  |f :: fs,cs=>∃a b,cs=a++b∧h f.type a∧HasL h fs b

theorem Hx {l:List AV}(h:l.all AV.leaf=true):(XU l).cells=l:=by
 match l,h with
 | [],_=>rfl
 | [x],h=>cases x<;>first|rfl|simp[AV.leaf]at h
 |_ :: _ :: _,_=>rfl

mutual
def wt:AV→Nat
 |.list l=>1+Zv l
 |.agg l=>Zv l
 |_=>1
def Zv:List AV→Nat
 | []=>0
 |x :: l=>wt x+Zv l
end
theorem DN (a b:List AV):Zv (a++b)=Zv a+Zv b:=by
 induction a with
 |nil=>simp[Zv]
 |cons x a ih=>simp only[QY5,Zv,ih];omega
theorem Eh:∀l:List AV,wt (XU l)=Zv l
 | []=>by simp[XU,wt]
 | [x]=>by simp[XU,Zv]
 |_ :: _ :: _=>by simp[XU,wt]

theorem UC {G:Gh}:∀ {ls:List (List AV)} {cs:List (List Value)},ls.length=cs.length→(∀i (h1:i<ls.length) (h2:i<cs.length),RepL G ls[i] cs[i])→RepL G ls.flatten cs.flatten
 | [],[],_,_=>.nil
 |l :: ls,c :: cs,hn,h=>by
  rw[List.flatten_cons,List.flatten_cons];exact RepL.append (h 0 (by simp) (by simp)) (UC (by simpa using hn) fun i h1 h2=>h (i+1) (by simpa using h1) (by simpa using h2))
 | [],_ :: _,hn,_=>by simp at hn
 |_ :: _,[],hn,_=>by simp at hn

section
variable {H:Type}{enc:TypeId×Value→H}{P:Program}{W:World}{M:Nat}

theorem HU {d:DataW H}:∀ {l:List (DataW H)},d∈l→Rows.uptoBulk d≤Rows.uptoBulkAll l
 | [],h=>by cases h
 |x :: l,h=>by
  rw[Rows.uptoBulkAll];rcases QZ0.1 h with rfl|h
  ·omega
  ·have:=HU h;omega

theorem Ei (d:DataW H):1≤Rows.uptoBulk d:=by unfold Rows.uptoBulk;split<;>omega
theorem GG {x:AV}(h:wt x=1)(d:DataW H):Zv [x]≤Rows.uptoBulk d:=by
 have:=Ei d;rw[Zv,Zv,h];exact this
theorem Ej (a b:List (DataW H)):Rows.uptoBulkAll (a++b)=Rows.uptoBulkAll a+Rows.uptoBulkAll b:=by
 induction a with
 |nil=>simp[Rows.uptoBulkAll]
 |cons x a ih=>simp only[QY5,Rows.uptoBulkAll,ih];omega
theorem BX (F:Nat→List AV)(xs:List (DataW H))(h:∀i d,xs[i]? = some d→Zv (F i)≤Rows.uptoBulk d):∀n,n≤xs.length→Zv (((List.range n).map F).map XU)≤Rows.uptoBulkAll (xs.take n)
 |0,_=>QYT _
 |n+1,hn=>by
  have hx:xs[n]? = some xs[n]:=QYN (by omega);have:=BX F xs h n (by omega);have h1:=h n _ hx;rw[List.range_succ,Q0i,Q0i,DN,Q0j,hx,Ej];simp only[QZh,QZG,Zv,Eh,Q0k,Rows.uptoBulkAll];omega

def RD (P:Program)(M:Nat)(t:TypeId)(d:DataW H):Prop:=M=maxLen∨(M≠reachBytes∧Rows.uptoBulk d≤M)∨(d.weights P t).all (·≤M)=true

theorem GH {t:TypeId}{d:DataW H}:∀ {ts:List TypeId} {ds:List (DataW H)} (i:Nat),(DataW.weightsEach P ts ds).all (·≤M)=true→ts[i]? = some t→ds[i]? = some d→(d.weights P t).all (·≤M)=true
 | [],_,_,_,h,_=>by simp at h
 |_ :: _,[],_,_,_,h=>by simp at h
 |t' :: ts,d' :: ds,0,h,h1,h2=>by
  rw[DataW.weightsEach,QZW,QY7]at h;cases h1;cases h2;exact h.1
 |t' :: ts,d' :: ds,i+1,h,h1,h2=>by
  rw[DataW.weightsEach,QZW,QY7]at h;exact GH i h.2 (by simpa using h1) (by simpa using h2)

theorem Yr {e:TypeId}{d:DataW H}:∀ {ds:List (DataW H)},(DataW.weightsAll P e ds).all (·≤M)=true→d∈ds→(d.weights P e).all (·≤M)=true
 | [],_,h=>by cases h
 |d' :: ds,h,hd=>by
  rw[DataW.weightsAll,QZW,QY7]at h;rcases QZ0.1 hd with rfl|hd
  ·exact h.1
  ·exact Yr h.2 hd

def Opn (W:World)(hL:HM W)(h:List AV→Prop)(B n:Nat)(cs:List Value):Prop :=
 ∃avs,h avs∧RepL (Gh.world W hL) avs cs∧avs.length=n∧AV.rfL avs=true∧avs.all AV.leaf=true∧Zv avs≤B

theorem Hy (hL:HM W){h:TypeId→List AV→Prop}{cs:List Value}:∀(fs:List Field) (ds:List (DataW H)) (o:Nat),GF P o fs cs.length=true→fs.length=ds.length→(∀(i:Nat) (f:Field) (d:DataW H),fs[i]? = some f→ds[i]? = some d→Opn W hL (h f.type) (Rows.uptoBulk d) (P.cellsOf f.type) ((cs.drop f.offset).take (P.cellsOf f.type)))→
  Opn W hL (Q3.HasL h fs) (Rows.uptoBulkAll ds) (cs.length-o) (cs.drop o)
 | [],_,o,hc,_,_=>by
  have e:o=cs.length:=QYI hc;refine⟨[],rfl,?_,by simp[e],rfl,rfl,QYT _⟩;rw[e,List.drop_length];exact .nil
 |_ :: _,[],_,_,hl,_=>by simp at hl
 |f :: fs,d :: ds,o,hc,hl,hf=>by
  simp only[GF,QY7]at hc;have eo:f.offset=o:=QYI hc.1;obtain⟨a,a1,a2,a3,a4,a5,a6⟩:=hf 0 f d rfl rfl;obtain⟨b,b1,b2,b3,b4,b5,b6⟩:=Hy hL fs ds _ hc.2 (by simpa using hl) fun i g d hg hd=>hf (i+1) g d (by simpa using hg) (by simpa using hd)
  rw[eo]at a2;refine⟨a++b,⟨a,b,rfl,a1,b1⟩,?_,?_,by rw[KA,a4,b4]<;>rfl,by rw[QZW,a5,b5]<;>rfl,by rw[DN,Rows.uptoBulkAll];omega⟩
  ·have:=RepL.append a2 b2
   rwa [←QZe,QZV]at this
  ·have hlen:a.length=((cs.drop o).take (P.cellsOf f.type)).length:=(RepL.length a2).symm;rw[QZn,a3,b3];rw[a3,QZC,QZr]at hlen;omega

theorem W6 (hL:HM W){ts:List TypeId}(hP:BW P ts=true):∀(k:Nat) (t:TypeId) (cs:List Value) (d:DataW H) (pl:List MemPlace),ts.contains t=true→DataW.trod enc P W 0 (fun _=>true) true k t cs=some (d,pl)→RD P M t d→
  Opn W hL (Q3 P M k t) (Rows.uptoBulk d) (P.cellsOf t) cs
 |0,_,_,_,_,_,h,_=>by simp[DataW.trod]at h
 |k+1,t,cs,d,pl,ht,h,hb=>by
  have hp:=QYX.1 hP t (by simpa using ht);unfold Rz at hp;split at hp
  ·rename_i ik hu;obtain⟨v,rfl,_,hw⟩:=DataW.trod_int hu h;refine⟨[.int ik v],?_,.cons (.int ik v) .nil,by rw[QY8]at hp;simp[hp],rfl,rfl,GG rfl _⟩;simp only[Q3,hu];exact⟨v,rfl,hw⟩
  ·rename_i hu;obtain⟨b,rfl,_⟩:=DataW.trod_bool hu h;refine⟨[.bool b],?_,.cons (.bool b) .nil,by rw[QY8]at hp;simp[hp],rfl,rfl,GG rfl _⟩;simp only[Q3,hu];exact⟨b,rfl⟩
  ·rename_i hu;obtain⟨⟨⟨s⟩⟩,rfl,e,hw⟩:=DataW.trod_string hu h;have hw:s.length≤M:=by
    cases e;rcases hb with rfl|hb|hb
    ·exact hw
    ·replace hb:=hb.2;rw[Rows.uptoBulk]at hb;exact QYL (Nat.le_succ _) hb
    ·rw[DataW.weights]at hb
     simpa using hb
   refine⟨[.str s],?_,.cons (.str s) .nil,by rw[QY8]at hp;simp[hp],rfl,rfl,GG rfl _⟩;simp only[Q3,hu];exact⟨s,rfl,hw⟩
  ·rename_i fs hu;simp only[QY7,QYX]at hp;obtain⟨xs,n',hk,e,hlen,hxl,hx⟩:=DataW.trod_struct hu h;obtain rfl:k=n':=by omega
   have hbx:∀(i:Nat) x (f:Field),xs[i]? = some x→fs[i]? = some f→RD P M f.type x.1:=fun i x f hx hf=>by
    cases e;refine hb.imp id fun hb=>hb.imp (fun hb=>⟨hb.1,?_⟩) fun hb=>?_
    ·replace hb:=hb.2;rw[Rows.uptoBulk]at hb;have:=HU (l:=xs.map (·.1)) (QZ1.2 ⟨x,QYY hx,rfl⟩);omega
    ·rw[DataW.weights,hu]at hb;exact GH i hb (by simp[hf]) (by simp[hx])
   have:=Hy hL (W:=W) (h:=Q3 P M k) (cs:=cs) fs.toList (xs.map (·.1)) 0 (by rw[hlen];exact hp.1) (by simp[hxl]) (fun i f d hi hd=>by
    have hi':fs[i]? = some f:=by simpa using hi
    have hf:f∈fs.toList:=QYY hi;obtain⟨x,hxi,rfl⟩:∃x,xs[i]? = some x∧x.1=d:=by
     rw[QZ3]at hd;obtain⟨x,h1,h2⟩:=QYP.1 hd;exact⟨x,h1,h2⟩
    have h2:=hx i f hi';rw[hxi]at h2;exact W6 hL hP k f.type _ _ _ (hp.2 f hf) h2 (hbx i _ f hxi hi'))
   rw[QZs,QZY,hlen]at this;obtain⟨avs,h1,h2,h3,h4,h5,h6⟩:=this;refine⟨avs,?_,h2,h3,h4,h5,by cases e;rw[Rows.uptoBulk];omega⟩;simp only[Q3,hu];exact h1
  ·rename_i e hu;simp only[QY7,QZ2,QY8]at hp;obtain⟨⟨h1,h0,hby⟩,hpe⟩:=hp;rcases DataW.trod_slice hu h with⟨rfl,_⟩|⟨a,len,cap,elems,rest,n',hk,rfl,e0,_,hl,hm,hln0,hel,_⟩
   ·refine⟨[.list []],?_,.cons (.list (cs:=[]) (sz:=0) .nil (by simp) rfl rfl (by simp) rfl (QYT _) (QYT _)) .nil,by simp[h1],rfl,rfl,GG rfl _⟩;simp only[Q3,hu];exact⟨[],rfl,⟨QYT _,fun _=>by simp⟩,by simp,QYT _⟩
   ·obtain rfl:k=n':=by omega
    have hbx:∀x∈elems,RD P M e x.1:=fun x hx=>by
     cases e0;refine hb.imp id fun hb=>hb.imp (fun hb=>⟨hb.1,?_⟩) fun hb=>?_
     ·replace hb:=hb.2;rw[Rows.uptoBulk]at hb;have:=HU (l:=elems.map (·.1)) (QZ1.2 ⟨x,hx,rfl⟩);omega
     ·rw[DataW.weights,hu,QZS,QZW,QY7,QY7]at hb;exact Yr hb.2.1 (QZ1.2 ⟨x,hx,rfl⟩)
    have hlenM:len≤M:=by
     cases e0;rcases hb with rfl|hb|hb
     ·omega
     ·have key:∀l:List (DataW H),l.length≤Rows.uptoBulkAll l:=by
       intro l
       induction l with
       |nil=>simp
       |cons x l ih=>
        have:1≤Rows.uptoBulk x:=by unfold Rows.uptoBulk;split<;>omega
        rw[Rows.uptoBulkAll,QYZ];omega
      replace hb:=hb.2;rw[Rows.uptoBulk]at hb;have:=key (elems.map (·.1));rw[QZ5]at this;omega
     ·rw[DataW.weights,hu,QZS,QY7]at hb;have h5:=hb.1;simp only[QZ2,QZ5]at h5;have h6:elems.length*1≤(elems.length+rest.length)*P.bytesOf e:=Nat.mul_le_mul (Nat.le_add_right _ _) hby;omega
    have hlenB:M=reachBytes→len*P.bytesOf e≤M:=fun hM=>by
     cases e0;rcases hb with rfl|hb|hb
     ·exact absurd hM (by unfold maxLen reachBytes;omega)
     ·exact absurd hM hb.1
     ·rw[DataW.weights,hu,QZS,QY7]at hb;have h5:=hb.1;simp only[QZ2,QZ5]at h5;have h6:elems.length*P.bytesOf e≤(elems.length+rest.length)*P.bytesOf e:=Nat.mul_le_mul (Nat.le_add_right _ _) (QYK _);have h7:len*P.bytesOf e=elems.length*P.bytesOf e:=by rw[show len=elems.length by omega]
      omega
    haveI:Inhabited ({c:List Value // c.length=P.cellsOf e}×List AV):=⟨(⟨List.replicate (P.cellsOf e) (.bool false),by simp⟩,[])⟩
    obtain⟨F,hF⟩:=choose_lt (α:={c:List Value // c.length=P.cellsOf e}×List AV) (n:=len) (p:=fun i x=>W.cells? 0 (a.add (i*P.cellsOf e)) (P.cellsOf e)=some x.1.1∧Q3 P M k e x.2∧RepL (Gh.world W hL) x.2 x.1.1∧x.2.length=P.cellsOf e∧AV.rfL x.2=true∧x.2.all AV.leaf=true∧∀d,elems[i]? = some d→Zv x.2≤Rows.uptoBulk d.1) (fun i hi=>by
     have hb:=hel i hi;rw[QYN (by omega)]at hb;obtain⟨cs',c1,c2⟩:=Option.bind_eq_some_iff.1 hb;obtain⟨_,hln,_⟩:=World.cells?_some c1;obtain⟨avs,o1,o2,o3,o4,o5,o6⟩:=W6 hL hP k e cs' _ _ hpe c2 (hbx _ (QZz _));exact⟨(⟨cs',hln⟩,avs),c1,o1,o2,o3,o4,o5,fun d hd=>by
      rw[QYN (by omega)]at hd;cases hd;exact o6⟩)
    have cellAt:∀i j,i<len→j<P.cellsOf e→W.cell? (a.add (i*P.cellsOf e+j))=(F i).1.1[j]?:=by
     intro i j hi hj;obtain⟨_,_,h3⟩:=World.cells?_some (hF i hi).1;rw[←h3 j hj,add_add]
    have hspot:0<len→a.spot=none:=by
     intro hc;have:=cellAt 0 0 hc h0;rw[Nat.zero_mul,show a.add (0+0)=a from rfl,QYN (by rw[(F 0).1.2];exact h0)]at this;unfold World.cell? at this;split at this
     ·split at this
      ·cases this
      ·rename_i h;simpa using h
     ·cases this
    have hel':∀c∈(List.range len).map (fun i=>(F i).2),∃i,i<len∧c=(F i).2:=by
     intro c hc;obtain⟨i,hi,rfl⟩:=QZ1.1 hc;exact⟨i,Q0e.1 hi,rfl⟩
    have hflat:∀L:List (List AV),(∀c∈L,c.all AV.leaf=true)→QP (L.map XU)=L.flatten:=by
     intro L
     induction L with
     |nil=>intro _;rfl
     |cons c L ih=>
      intro hh;show(XU c).cells++QP (L.map XU)=c++L.flatten;rw[Hx (hh c (by simp)),ih fun x hx=>hh x (by simp[hx])]
    have hrf:∀L:List (List AV),(∀c∈L,AV.rfL c=true)→AV.rfL L.flatten=true:=by
     intro L
     induction L with
     |nil=>intro _;rfl
     |cons c L ih=>
      intro hh;rw[List.flatten_cons,KA,hh c (by simp),ih fun x hx=>hh x (by simp[hx])]<;>rfl
    have hlf:∀L:List (List AV),(∀c∈L,c.all AV.leaf=true)→L.flatten.all AV.leaf=true:=by
     intro L
     induction L with
     |nil=>intro _;rfl
     |cons c L ih=>
      intro hh;rw[List.flatten_cons,QZW,hh c (by simp),ih fun x hx=>hh x (by simp[hx])]<;>rfl
    have hl1:∀c∈(List.range len).map (fun i=>(F i).2),c.all AV.leaf=true:=fun c hc=>by
     obtain⟨i,hi,rfl⟩:=hel' c hc;exact(hF i hi).2.2.2.2.2.1
    have hl2:∀c∈(List.range len).map (fun i=>(F i).2),AV.rfL c=true:=fun c hc=>by
     obtain⟨i,hi,rfl⟩:=hel' c hc;exact(hF i hi).2.2.2.2.1
    have hwt:Zv [.list (((List.range len).map fun i=>(F i).2).map XU)]≤Rows.uptoBulk d:=by
     cases e0;have hw:=fun n hn=>BX (fun i=>if i<len then(F i).2 else []) (elems.map (·.1)) (fun i d hd=>by
      rw[QZ3]at hd;obtain⟨x,h1,rfl⟩:=QYP.1 hd;by_cases hi:i<len
      ·rw[QYS hi];exact(hF i hi).2.2.2.2.2.2 x h1
      ·rw[QYR hi];exact QYT _) n hn
     have h1:=hw len (by rw[QZ5];omega);rw[QZj (by rw[QZ5];omega)]at h1;have h2:(List.range len).map (fun i=>if i<len then(F i).2 else [])=(List.range len).map fun i=>(F i).2:=by
      refine Q0l fun i hi=>?_
      rw[QYS (Q0e.1 hi)]
     rw[h2]at h1;rw[Zv,Zv,wt,Rows.uptoBulk];omega
    refine⟨[.list (((List.range len).map fun i=>(F i).2).map XU)],?_,.cons (.list (cs:=((List.range len).map fun i=>(F i).1.1).flatten) (sz:=P.cellsOf e) ?_ ?_ ?_ ?_ ?_ (by simp) hl (by omega)) .nil,by simp[h1],rfl,rfl,hwt⟩
    ·simp only[Q3,hu];refine⟨_,rfl,⟨by simp;omega,fun hM=>by simpa using hlenB hM⟩,?_,by simpa using hlenM⟩;intro c hc;obtain⟨i,hi,rfl⟩:=hel' c hc;exact(hF i hi).2.1
    ·rw[hflat _ hl1];refine UC (by simp) fun i g1 g2=>?_
     simp only[QZ5,List.length_range]at g1;simp only[List.getElem_map,List.getElem_range];exact(hF i (by omega)).2.2.1
    ·intro x hx;obtain⟨c,hc,rfl⟩:=QZ1.1 hx;rw[Hx (hl1 c hc)];obtain⟨i,hi,rfl⟩:=hel' c hc;exact(hF i hi).2.2.2.1
    ·rw[hflat _ hl1];exact hrf _ hl2
    ·rw[hflat _ hl1];exact hlf _ hl1
    ·intro j u hj;rw[←List.flatMap_def,Hw h0 (fun i=>(F i).1.2)]at hj;by_cases hi:j / P.cellsOf e<len
     ·rw[List.getElem?_range hi]at hj;have hj:(F (j / P.cellsOf e)).1.1[j % P.cellsOf e]? = some u:=hj;have hk:=cellAt (j / P.cellsOf e) (j % P.cellsOf e) (by omega) (Nat.mod_lt _ h0);rw[hj,Nat.div_add_mod']at hk;have hs:=hspot (Nat.lt_of_le_of_lt (QYT _) hi);obtain⟨b,o,s⟩:=a;subst hs;refine⟨b,o,rfl,?_⟩;refine UW ?_;show W.cell? ⟨b,o+j,none⟩=some u;rw[←hk];unfold Addr.add;split
      ·rename_i h;rw[h];rfl
      ·rfl
     ·rw[QZ4 (by simp;omega)]at hj;cases hj
  ·cases hp

theorem GI {t:TypeId}{v:Value}{d:DataW H}{p:List MemPlace}(hl:laidOutB P=true)(hr:P.readableRec t=true)(hrow:t<P.types.size)(h:DataW.Trod enc P W 0 (fun _=>true) true t v d p) :
  ∀(W':World) (sp:Nat→Bool),Below W.heap.size W W'→(∀q∈p,sp q.block=true)→DataW.Trod enc P W' 0 sp true t v d p:=by
 intro W' sp hb hs;obtain⟨n,hn⟩:=h;exact Trod_stays hl hr hrow ⟨n,hn⟩ (fun x hx=>hb.same (DataW.trod_lt n _ _ _ hn x hx)) hs

theorem VX (hL:HM W){t:TypeId}{fs:Array Field}{ts:List TypeId}{r:Reach}{b0:Nat}{v:Value}{d:DataW H}{p:List MemPlace}(hP:BW P ts=true)(ht:ts.contains t=true)(hs:P.underlying t=some (.struct fs))(hv:Value.okWide P W r b0 t v)
  (h:DataW.Trod enc P W 0 (fun _=>true) true t v d p) (hb:RD P M t d):∃k avs,Q3 P M k t avs∧Rep (Gh.world W hL) (.agg avs) v:=by
 obtain⟨⟨cs⟩,rfl,_⟩:=okWide_struct hs hv;obtain⟨n,hn⟩:=h;obtain⟨avs,h1,h2,_⟩:=W6 hL hP n t _ _ _ ht hn hb;exact⟨n,avs,h1,.agg h2⟩
theorem Bb (hL:HM W){t:TypeId}{fs:Array Field}{ts:List TypeId}{r:Reach}{b0:Nat}{v:Value}{d:DataW H}{p:List MemPlace}(hP:BW P ts=true)(ht:ts.contains t=true)(hs:P.underlying t=some (.struct fs))(hv:Value.okWide P W r b0 t v)
  (h:DataW.Trod enc P W 0 (fun _=>true) true t v d p) (hb:RD P M t d):∃k avs,Q3 P M k t avs∧Rep (Gh.world W hL) (.agg avs) v∧Zv avs≤Rows.uptoBulk d:=by
 obtain⟨⟨cs⟩,rfl,_⟩:=okWide_struct hs hv;obtain⟨n,hn⟩:=h;obtain⟨avs,h1,h2,_,_,_,h6⟩:=W6 hL hP n t _ _ _ ht hn hb;exact⟨n,avs,h1,.agg h2,h6⟩

theorem Xs {X:Type}{f:X→List AV}{ok:X→Prop}:∀ {l:List (List AV)},(∀c∈l,∃x,ok x∧c=f x)→∃xs:List X,l=xs.map f∧∀x∈xs,ok x
 | [],_=>⟨[],rfl,by simp⟩
 |c :: l,h=>by
  obtain⟨x,hx,rfl⟩:=h c (by simp);obtain⟨xs,rfl,hxs⟩:=Xs (l:=l) fun c hc=>h c (by simp[hc])
  exact⟨x :: xs,rfl,by simpa using ⟨hx,hxs⟩⟩

end

end Go.Proofs.YtafhmlkilcmniaaGreatDoor.Br

namespace Go.Proofs.YtafhmlkilcmniaaGreatDoor.Br
open Go Am

section
variable {P:Program}{M k:Nat}{t:TypeId}{cs:List AV}

theorem Zh {ik:IntKind}(hu:P.underlying t=some (.int ik))(h:Q3 P M k t cs):∃n,cs=[.int ik n]∧(Lit.int ik n).wf=true:=by
 cases k with
 |zero=>cases h
 |succ k=>simpa only [Q3,hu]using h

theorem BY (hu:P.underlying t=some .bool)(h:Q3 P M k t cs):∃b,cs=[.bool b]:=by
 cases k with
 |zero=>cases h
 |succ k=>simpa only [Q3,hu]using h

theorem Zi (hu:P.underlying t=some .string)(h:Q3 P M k t cs):∃s,cs=[.str s]∧s.length≤M:=by
 cases k with
 |zero=>cases h
 |succ k=>simpa only [Q3,hu]using h

theorem Xk {e:TypeId}(hu:P.underlying t=some (.slice e))(h:Q3 P M k t cs):∃(k':Nat) (l:List (List AV)),cs=[.list (l.map XU)]∧l.length≤M∧∀c∈l,Q3 P M k' e c:=by
 cases k with
 |zero=>cases h
 |succ k=>
  simp only[Q3,hu]at h;obtain⟨l,h1,_,h3,h4⟩:=h;exact⟨k,l,h1,h4,h3⟩

theorem XV {fs:Array Field}(hu:P.underlying t=some (.struct fs))(h:Q3 P M k t cs):∃k',Q3.HasL (Q3 P M k') fs.toList cs:=by
 cases k with
 |zero=>cases h
 |succ k=>
  simp only[Q3,hu]at h;exact⟨k,h⟩

end

structure PO where
 num:Int
 name:List UInt8
 alias:List UInt8
 card:Int
 key:Int
 kind:Int
 target:Int
 union:Int

def PO.cells (o:PO):List AV:=[.int .i64 o.num,.str o.name,.str o.alias,.int .i64 o.card,.int .i64 o.key,.int .i64 o.kind,.int .i64 o.target,.int .i64 o.union]

structure PO.ok (M:Nat)(o:PO):Prop where
 num:(Lit.int .i64 o.num).wf=true
 name:o.name.length≤M
 alias:o.alias.length≤M
 card:(Lit.int .i64 o.card).wf=true
 key:(Lit.int .i64 o.key).wf=true
 kind:(Lit.int .i64 o.kind).wf=true
 target:(Lit.int .i64 o.target).wf=true
 union:(Lit.int .i64 o.union).wf=true

structure PG where
 name:List UInt8
 ops:List PO
 unions:Int

def PG.cells (g:PG):List AV:=[.str g.name,.list (g.ops.map fun o=>.agg o.cells),.int .i64 g.unions]

structure PG.ok (M:Nat)(g:PG):Prop where
 name:g.name.length≤M
 len:g.ops.length≤maxLen
 ops:∀o∈g.ops,o.ok M
 unions:(Lit.int .i64 g.unions).wf=true

structure PS where
 lo:Int
 hi:Int

def PS.cells (x:PS):List AV:=[.int .i64 x.lo,.int .i64 x.hi]
def PS.ok (x:PS):Prop:=(Lit.int .i64 x.lo).wf=true∧(Lit.int .i64 x.hi).wf=true

theorem BZ {M k:Nat}{cs:List AV}(h:Q3 Tryz.prog M k 121 cs):∃x:PS,x.ok∧cs=x.cells:=by
 obtain⟨k,h⟩:=XV Tryz.underlying121 h;simp only[Q3.HasL]at h;obtain⟨_,_,rfl,h0,_,_,rfl,h1,rfl⟩:=h;obtain⟨a0,rfl,w0⟩:=Zh Tryz.underlying3 h0;obtain⟨a1,rfl,w1⟩:=Zh Tryz.underlying3 h1;exact⟨⟨a0,a1⟩,⟨w0,w1⟩,rfl⟩

structure PN where
 name:List UInt8
 val:List AV

def PN.cells (x:PN):List AV:=.str x.name :: x.val
def PN.ok (P:Program)(M:Nat)(t:TypeId)(x:PN):Prop:=x.name.length≤M∧∃k,Q3 P M k t x.val

structure PI where
 name:List UInt8
 num:Int
 notes:List PN

def PI.cells (x:PI):List AV:=[.str x.name,.int .i64 x.num,.list (x.notes.map fun n=>XU n.cells)]

structure PI.ok (M:Nat)(x:PI):Prop where
 name:x.name.length≤M
 num:(Lit.int .i64 x.num).wf=true
 len:x.notes.length≤maxLen
 notes:∀n∈x.notes,n.ok Tryz.prog M 33

structure PE where
 name:List UInt8
 opn:Bool
 items:List PI
 free:List PS
 notes:List PN

def PE.cells (x:PE):List AV:=[.str x.name,.bool x.opn,.list (x.items.map fun n=>.agg n.cells),.list (x.free.map fun n=>.agg n.cells),.list (x.notes.map fun n=>XU n.cells)]

structure PE.ok (M:Nat)(x:PE):Prop where
 name:x.name.length≤M
 len1:x.items.length≤maxLen
 items:∀n∈x.items,n.ok M
 len2:x.free.length≤maxLen
 free:∀n∈x.free,n.ok
 len3:x.notes.length≤maxLen
 notes:∀n∈x.notes,n.ok Tryz.prog M 33

structure PL where
 progs:List PG
 enums:List PE

def PL.av (p:PL):AV:=.agg [.list (p.progs.map fun n=>.agg n.cells),.list (p.enums.map fun n=>.agg n.cells)]

structure PL.ok (M:Nat)(x:PL):Prop where
 len1:x.progs.length≤maxLen
 progs:∀n∈x.progs,n.ok M
 len2:x.enums.length≤maxLen
 enums:∀n∈x.enums,n.ok M

end Go.Proofs.YtafhmlkilcmniaaGreatDoor.Br

namespace Go.Proofs.YtafhmlkilcmniaaGreatDoor.Vp

def DO:Nat→Nat→List UInt8
 |0,u=>[UInt8.ofNat u]
 |k+1,u=>if u<128 then [UInt8.ofNat u]else UInt8.ofNat (u % 128+128) :: DO k (u / 128)

def put (u:Nat):List UInt8:=DO 9 u

def GJ:Nat→Nat→List UInt8→Nat×Nat×Nat
 |_,_,[]=>(0,0,4)
 |i,acc,c :: t=>
  if i=9∧1<c.toNat then(0,0,6)
  else if c.toNat<128 then(acc+c.toNat*128 ^ i,i+1,0)
  else GJ (i+1) (acc+(c.toNat-128)*128 ^ i) t

def take (s:List UInt8):Nat×Nat×Nat:=GJ 0 0 s

theorem Hz (n:Nat)(h:n<256):(UInt8.ofNat n).toNat=n:=by
 simp[UInt8.toNat_ofNat'];omega

theorem Ek (k u:Nat):1≤(DO k u).length∧(DO k u).length≤k+1:=by
 induction k generalizing u with
 |zero=>simp[DO]
 |succ k ih=>
  unfold DO;split
  ·simp
  ·have:=ih (u / 128);simp;omega

theorem put_len (u:Nat):1≤(put u).length∧(put u).length≤10:=Ek 9 u

theorem M1 (i acc:Nat)(s t:List UInt8)(h:(GJ i acc s).2.2≠4):GJ i acc (s++t)=GJ i acc s:=by
 induction s generalizing i acc with
 |nil=>simp[GJ]at h
 |cons c r ih=>
  simp only[QY5];unfold GJ at h ⊢;split
  ·rfl
  ·rename_i h1;rw[QYR h1]at h;split
   ·rfl
   ·rename_i h2;rw[QYR h2]at h;exact ih _ _ h

theorem QbU (i acc:Nat)(s:List UInt8)(hi:i≤9)(hl:10≤i+s.length):(GJ i acc s).2.2≠4:=by
 induction s generalizing i acc with
 |nil=>simp at hl;omega
 |cons c r ih=>
  unfold GJ;split
  ·simp
  ·rename_i h1;split
   ·simp
   ·rename_i h2;exact ih _ _ (by omega) (by simp at hl;omega)

theorem take_take (s:List UInt8):take (s.take 10)=take s:=by
 rcases Nat.lt_or_ge s.length 10 with h|h
 ·rw[QZj (by omega)]
 ·have:=M1 0 0 (s.take 10) (s.drop 10) (QbU 0 0 _ (by omega) (by simp;omega));rw[QZV]at this;exact this.symm

end Go.Proofs.YtafhmlkilcmniaaGreatDoor.Vp

namespace Go.Proofs.YtafhmlkilcmniaaGreatDoor.Bt
open Go

theorem QgC (n:Int):IntKind.u64.wrap n=n % 18446744073709551616:=by simp[IntKind.wrap,IntKind.bits,IntKind.signed]
theorem QU (n:Int):IntKind.i64.wrap n=(n+9223372036854775808) % 18446744073709551616-9223372036854775808:=IntKind.wrap_i64 n

theorem FH {n:Nat}(h:n<18446744073709551616):(BitVec.ofInt 64 (n:Int)).toNat=n:=by
 simp;omega

theorem U2 (a b:Nat)(ha:a<18446744073709551616)(hb:b<18446744073709551616):bits .and .u64 (a:Int) (b:Int)=((a &&& b:Nat):Int):=by
 have hx:a &&& b<2 ^ 64:=Nat.and_lt_two_pow _ (by omega);show IntKind.u64.wrap ((BitVec.ofInt 64 (a:Int) &&& BitVec.ofInt 64 (b:Int)).toNat:Int)=_;rw[BitVec.toNat_and,FH ha,FH hb,QgC];omega
end Go.Proofs.YtafhmlkilcmniaaGreatDoor.Bt

namespace Go.Proofs.YtafhmlkilcmniaaGreatDoor.Cp
open Go Am Bt Vp

structure C where
 d:List UInt8
 a:Int
 e:Int
 dp:Int
 nd:Int
 tx:Int

def C.av (c:C):AV:=.agg [.str c.d,.int .i64 c.a,.int .i64 c.e,.int .i64 c.dp,.int .i64 c.nd,.int .i64 c.tx]
def zc:C:=⟨[],0,0,0,0,0⟩

structure L where
 b:Int
 dp:Int
 nd:Int
 tx:Int
def L.av (l:L):AV:=.agg [.int .i64 l.b,.int .i64 l.dp,.int .i64 l.nd,.int .i64 l.tx]

def C.sound (c:C):Bool:=decide (0≤c.a)&&decide (c.a≤c.e)&&decide (c.e≤(c.d.length:Int))
def C.rest (c:C):List UInt8:=bif c.sound then(c.d.drop c.a.toNat).take (c.e.toNat-c.a.toNat)else []
def C.left (c:C):Int:=(c.rest.length:Int)
def C.ahead (c:C)(n:Int):C:={ c with a:=IntKind.i64.wrap (c.a+n) }

def opn (s:List UInt8)(l:L):C×Nat :=
 if l.b<0∨l.dp<0∨l.nd<0∨l.tx<0 then(zc,1)else if l.b<(s.length:Int)then(zc,3)else(⟨s,0,s.length,l.dp,l.nd,l.tx⟩,0)

def C.varint (c:C):Nat×C×Nat :=
 let r:=Vp.take c.rest
 if r.2.2=0 then(r.1,c.ahead r.2.1,0)else(0,c,r.2.2)

end Go.Proofs.YtafhmlkilcmniaaGreatDoor.Cp

namespace Go.Proofs.YtafhmlkilcmniaaGreatDoor.Up
open Go Am Bt Vp Cp

structure R where
 num:Int
 wire:Int
 bits:Nat
 data:List UInt8
 deriving DecidableEq

def R.av (f:R):AV:=.agg [.int .i64 f.num,.int .i64 f.wire,.int .u64 (f.bits:Nat),.str f.data]
def dat (c:C)(wire:Int):List UInt8×C×Nat :=
 let r:=c.varint
 if r.2.2=0 then
  if r.2.1.left<(r.1:Int)then([],c,4)
  else if (if wire=3 then c.tx else 65536)<(r.1:Int)then([],c,3)
  else((r.2.1.d.drop r.2.1.a.toNat).take r.1,r.2.1.ahead r.1,0)
 else([],c,r.2.2)
end Go.Proofs.YtafhmlkilcmniaaGreatDoor.Up

namespace Go.Proofs.YtafhmlkilcmniaaGreatDoor.Br
open Go Am Up

theorem QbV {M k:Nat}{cs:List AV}(h:Q3 Tryz.prog M k 85 cs):∃f:R,((Lit.int .i64 f.num).wf=true∧(Lit.int .i64 f.wire).wf=true∧(Lit.int .u64 (f.bits:Int)).wf=true∧f.data.length≤M)∧.agg cs=f.av:=by
 obtain⟨k,h⟩:=XV Tryz.underlying85 h;simp only[Q3.HasL]at h;obtain⟨_,_,rfl,h0,_,_,rfl,h1,_,_,rfl,h2,_,_,rfl,h3,rfl⟩:=h;obtain⟨a0,rfl,w0⟩:=Zh Tryz.underlying3 h0;obtain⟨a1,rfl,w1⟩:=Zh Tryz.underlying3 h1;obtain⟨a2,rfl,w2⟩:=Zh Tryz.underlying27 h2;obtain⟨a3,rfl,w3⟩:=Zi Tryz.underlying9 h3;have hn:0≤a2:=Rx w2;obtain⟨n,rfl⟩:=Q0m hn;exact⟨⟨a0,a1,n,a3⟩,⟨w0,w1,w2,w3⟩,rfl⟩

end Go.Proofs.YtafhmlkilcmniaaGreatDoor.Br

set_option linter.unusedSimpArgs false
namespace Go.Proofs.YtafhmlkilcmniaaGreatDoor.Br
open Go Am Up

inductive V where
 |mk (k:Int) (b:Nat) (t:List UInt8) (l:List V) (p:List (V×V)) (s:List (Int×V)) (r:List R)
 deriving Inhabited

mutual
def V.cells:V→List AV
 |.mk k b t l p s r=>[.int .i64 k,.int .u64 (b:Nat),.str t,.list (V.cl l),.list (V.cp p),.list (V.cs s),.list (r.map R.av)]
def V.cl:List V→List AV
 | []=>[]
 |x :: l=>.agg x.cells :: V.cl l
def V.cp:List (V×V)→List AV
 | []=>[]
 |(a,b) :: l=>.agg (a.cells++b.cells) :: V.cp l
def V.cs:List (Int×V)→List AV
 | []=>[]
 |(n,a) :: l=>.agg (.int .i64 n :: a.cells) :: V.cs l
end

def V.kd:V→Int|.mk k _ _ _ _ _ _=>k
def V.bits:V→Nat|.mk _ b _ _ _ _ _=>b
def V.text:V→List UInt8|.mk _ _ t _ _ _ _=>t
def V.list:V→List V|.mk _ _ _ l _ _ _=>l
def V.pairs:V→List (V×V)|.mk _ _ _ _ p _ _=>p
def V.slots:V→List (Int×V)|.mk _ _ _ _ _ s _=>s
def V.raws:V→List R|.mk _ _ _ _ _ _ r=>r

def V.av (v:V):AV:=.agg v.cells
def V.pav (p:V×V):AV:=.agg (p.1.cells++p.2.cells)
def V.sav (s:Int×V):AV:=.agg (.int .i64 s.1 :: s.2.cells)

theorem V.cl_eq:∀l:List V,V.cl l=l.map V.av
 | []=>rfl
 |x :: l=>by rw[V.cl,V.cl_eq l];rfl
theorem V.cp_eq:∀l:List (V×V),V.cp l=l.map V.pav
 | []=>rfl
 |(a,b) :: l=>by rw[V.cp,V.cp_eq l];rfl
theorem V.cs_eq:∀l:List (Int×V),V.cs l=l.map V.sav
 | []=>rfl
 |(n,a) :: l=>by rw[V.cs,V.cs_eq l];rfl

theorem V.eta:∀v:V,v.cells=[.int .i64 v.kd,.int .u64 (v.bits:Nat),.str v.text,.list (v.list.map V.av),.list (v.pairs.map V.pav),.list (v.slots.map V.sav),.list (v.raws.map R.av)]
 |.mk k b t l p s r=>by rw[V.cells,V.cl_eq,V.cp_eq,V.cs_eq];rfl

theorem V.ind {P:V→Prop}(h:∀v:V,(∀x∈v.list,P x)→(∀x∈v.pairs,P x.1∧P x.2)→(∀x∈v.slots,P x.2)→P v)(v:V):P v :=
 V.rec (motive_1:=P) (motive_2:=fun l=>∀x∈l,P x) (motive_3:=fun p=>∀x∈p,P x.1∧P x.2) (motive_4:=fun s=>∀x∈s,P x.2) (motive_5:=fun q=>P q.1∧P q.2) (motive_6:=fun q=>P q.2)
  (fun k b t l p s r hl hp hs=>h (.mk k b t l p s r) hl hp hs)
  (by simp) (fun a l ha hl=>by simpa using ⟨ha,hl⟩)
  (by simp) (fun a l ha hl=>by simp only[QZ0,forall_eq_or_imp];exact⟨ha,hl⟩)
  (by simp) (fun a l ha hl=>by simp only[QZ0,forall_eq_or_imp];exact⟨ha,hl⟩)
  (fun a b ha hb=>⟨ha,hb⟩) (fun n a ha=>ha) v

structure _root_.Go.Proofs.YtafhmlkilcmniaaGreatDoor.Up.R.ok (M:Nat)(f:R):Prop where
 num:(Lit.int .i64 f.num).wf=true
 wire:(Lit.int .i64 f.wire).wf=true
 bits:(Lit.int .u64 (f.bits:Int)).wf=true
 data:f.data.length≤M

inductive V.ok (M:Nat):V→Prop
 |mk {v:V} (kd:(Lit.int .i64 v.kd).wf=true) (bits:(Lit.int .u64 (v.bits:Int)).wf=true) (text:v.text.length≤M) (nl:v.list.length≤1099511627776) (np:v.pairs.length≤549755813888) (ns:v.slots.length≤1099511627776) (nr:v.raws.length≤70368744177664)
   (list:∀x∈v.list,V.ok M x) (keys:∀x∈v.pairs,V.ok M x.1) (vals:∀x∈v.pairs,V.ok M x.2) (nums:∀x∈v.slots,(Lit.int .i64 x.1).wf=true) (slots:∀x∈v.slots,V.ok M x.2) (raws:∀x∈v.raws,x.ok M):V.ok M v

section
variable {M:Nat}{v:V}(h:v.ok M)
include h
theorem V.ok.kd:(Lit.int .i64 v.kd).wf=true:=by cases h;assumption
theorem V.ok.bits:(Lit.int .u64 (v.bits:Int)).wf=true:=by cases h;assumption
theorem V.ok.text:v.text.length≤M:=by cases h;assumption
theorem V.ok.nl:v.list.length≤1099511627776:=by cases h;assumption
theorem V.ok.np:v.pairs.length≤549755813888:=by cases h;assumption
theorem V.ok.ns:v.slots.length≤1099511627776:=by cases h;assumption
theorem V.ok.nr:v.raws.length≤70368744177664:=by cases h;assumption
theorem V.ok.list:∀x∈v.list,x.ok M:=by cases h;assumption
theorem V.ok.keys:∀x∈v.pairs,x.1.ok M:=by cases h;assumption
theorem V.ok.vals:∀x∈v.pairs,x.2.ok M:=by cases h;assumption
theorem V.ok.nums:∀x∈v.slots,(Lit.int .i64 x.1).wf=true:=by cases h;assumption
theorem V.ok.slots:∀x∈v.slots,x.2.ok M:=by cases h;assumption
theorem V.ok.raws:∀x∈v.raws,x.ok M:=by cases h;assumption
end

theorem V.cells_length (v:V):v.cells.length=7:=by rw[V.eta];rfl

theorem Ys {c:List AV}(h:2≤c.length):XU c=.agg c:=by
 match c,h with
 |_ :: _ :: _,_=>rfl

theorem M2 {M:Nat}(hM:M=reachBytes∨M≤1048576):∀ {k:Nat} {cs:List AV},Q3 Tryz.prog M k 33 cs→∃v:V,v.ok M∧cs=v.cells:=by
 intro k
 induction k using Nat.strongRecOn with
 |ind k ih=>
 intro cs h;cases k with
 |zero=>cases h
 |succ k=>
 simp only[Q3,Tryz.underlying33,Q3.HasL]at h;obtain⟨_,_,rfl,h0,_,_,rfl,h1,_,_,rfl,h2,_,_,rfl,h3,_,_,rfl,h4,_,_,rfl,h5,_,_,rfl,h6,rfl⟩:=h;obtain⟨a0,rfl,w0⟩:=Zh Tryz.underlying3 h0;obtain⟨a1,rfl,w1⟩:=Zh Tryz.underlying27 h1;obtain⟨a2,rfl,w2⟩:=Zi Tryz.underlying9 h2;have hb:0≤a1:=Rx w1;obtain⟨b,rfl⟩:=Q0m hb;have sl:∀ {k0:Nat} {t e:TypeId} {cs:List AV},k0≤k→Tryz.prog.underlying t=some (.slice e)→Q3 Tryz.prog M k0 t cs→∃(k':Nat) (l:List (List AV)),k'<k∧cs=[.list (l.map XU)]∧(l.length≤M∧(M=reachBytes→l.length*Tryz.prog.bytesOf e≤M))∧∀c∈l,Q3 Tryz.prog M k' e c:=by
  intro k0 t e cs hk hu h;cases k0 with
  |zero=>cases h
  |succ k0=>
   simp only[Q3,hu]at h;obtain⟨l,h1,h4,h3,h2⟩:=h;exact⟨k0,l,by omega,h1,⟨h2,h4.2⟩,h3⟩
 have nb:∀ {n b:Nat} (c:Nat),(n≤M∧(M=reachBytes→n*b≤M))→1048576≤c→(n*b≤140737488351232→n≤c)→n≤c:=fun c h1 h2 h3=>by
  rcases hM with e|e
  ·refine h3 (QYL (h1.2 e) ?_);rw[e];exact QYK _
  ·exact QYL h1.1 (QYL e h2)
 have y1:Tryz.prog.bytesOf 33=128:=by decide +kernel
 have y2:Tryz.prog.bytesOf 100=256:=by decide +kernel
 have y3:Tryz.prog.bytesOf 88=136:=by decide +kernel
 have y4:Tryz.prog.bytesOf 85=40:=by decide +kernel
 obtain⟨k3,l3,b3,rfl,w3,hl3⟩:=sl (QYK _) Tryz.underlying28 h3;obtain⟨k4,l4,b4,rfl,w4,hl4⟩:=sl (QYK _) Tryz.underlying29 h4;obtain⟨k5,l5,b5,rfl,w5,hl5⟩:=sl (QYK _) Tryz.underlying30 h5;obtain⟨k6,l6,b6,rfl,w6,hl6⟩:=sl (QYK _) Tryz.underlying31 h6;obtain⟨vs,rfl,hvs⟩:=Xs (f:=V.cells) (ok:=V.ok M) fun c hc=>ih k3 (by omega) (hl3 c hc)
 obtain⟨ps,rfl,hps⟩:=Xs (l:=l4) (f:=fun p:V×V=>p.1.cells++p.2.cells) (ok:=fun p=>p.1.ok M∧p.2.ok M) fun c hc=>by
  have h:=hl4 c hc;cases k4 with
  |zero=>cases h
  |succ k4=>
  simp only[Q3,Tryz.underlying100,Q3.HasL]at h;obtain⟨a,_,rfl,h0,b,_,rfl,h1,rfl⟩:=h;obtain⟨x,hx,rfl⟩:=ih k4 (by omega) h0;obtain⟨y,hy,rfl⟩:=ih k4 (by omega) h1;exact⟨(x,y),⟨hx,hy⟩,by simp⟩
 obtain⟨ss,rfl,hss⟩:=Xs (l:=l5) (f:=fun s:Int×V=>.int .i64 s.1 :: s.2.cells) (ok:=fun s=>(Lit.int .i64 s.1).wf=true∧s.2.ok M) fun c hc=>by
  have h:=hl5 c hc;cases k5 with
  |zero=>cases h
  |succ k5=>
  simp only[Q3,Tryz.underlying88,Q3.HasL]at h;obtain⟨_,_,rfl,h0,b,_,rfl,h1,rfl⟩:=h;obtain⟨a0,rfl,w0⟩:=Zh Tryz.underlying3 h0;obtain⟨y,hy,rfl⟩:=ih k5 (by omega) h1;exact⟨(a0,y),⟨w0,hy⟩,by simp⟩
 obtain⟨rs,rfl,hrs⟩:=Xs (l:=l6) (f:=fun r:R=>r.av.cells) (ok:=R.ok M) fun c hc=>by
  obtain⟨f,⟨g1,g2,g3,g4⟩,e⟩:=QbV (hl6 c hc);refine⟨f,⟨g1,g2,g3,g4⟩,?_⟩;rw[←e];rfl
 refine⟨.mk a0 b a2 vs ps ss rs,.mk w0 w1 w2 (by rw[QZ5,y1]at w3;exact nb _ w3 (by decide) (by omega)) (by rw[QZ5,y2]at w4;exact nb _ w4 (by decide) (by omega)) (by rw[QZ5,y3]at w5;exact nb _ w5 (by decide) (by omega)) (by rw[QZ5,y4]at w6;exact nb _ w6 (by decide) (by omega)) hvs (fun x hx=>(hps x hx).1) (fun x hx=>(hps x hx).2) (fun x hx=>(hss x hx).1) (fun x hx=>(hss x hx).2) hrs,?_⟩;rw[V.eta];have e3:(vs.map V.cells).map XU=vs.map V.av:=by
  rw[Q0n];exact Q0l fun c _=>Ys (by rw[V.cells_length];omega)
 have e4:(ps.map (fun p=>p.1.cells++p.2.cells)).map XU=ps.map V.pav:=by
  rw[Q0n];exact Q0l fun p _=>Ys (by rw[QZn,V.cells_length];omega)
 have e5:(ss.map (fun s=>AV.int .i64 s.1 :: s.2.cells)).map XU=ss.map V.sav:=by
  rw[Q0n];exact Q0l fun p _=>Ys (by rw[QYZ,V.cells_length];omega)
 have e6:(rs.map (fun r=>r.av.cells)).map XU=rs.map R.av:=by
  rw[Q0n];exact Q0l fun r _=>rfl
 rw[e3,e4,e5,e6];rfl

end Go.Proofs.YtafhmlkilcmniaaGreatDoor.Br

namespace Go.Proofs.YtafhmlkilcmniaaGreatDoor.Br
open Go Am

structure SN where
 name:List UInt8
 val:V
def SN.cells (x:SN):List AV:=.str x.name :: x.val.cells
structure SN.ok (M:Nat)(x:SN):Prop where
 name:x.name.length≤M
 val:x.val.ok M

structure SF where
 num:Int
 name:List UInt8
 card:Int
 key:Int
 kind:Int
 tname:List UInt8
 union:List UInt8
 hasd:Bool
 dflt:V
 notes:List SN
def SF.cells (x:SF):List AV:=[.int .i64 x.num,.str x.name,.int .i64 x.card,.int .i64 x.key,.int .i64 x.kind,.str x.tname,.str x.union,.bool x.hasd]++(x.dflt.cells++[.list (x.notes.map fun n=>.agg n.cells)])
structure SF.ok (M:Nat)(x:SF):Prop where
 num:(Lit.int .i64 x.num).wf=true
 name:x.name.length≤M
 card:(Lit.int .i64 x.card).wf=true
 key:(Lit.int .i64 x.key).wf=true
 kind:(Lit.int .i64 x.kind).wf=true
 tname:x.tname.length≤M
 union:x.union.length≤M
 dflt:x.dflt.ok M
 len:x.notes.length≤M
 notes:∀n∈x.notes,n.ok M

structure SM where
 name:List UInt8
 fields:List SF
 free:List PS
 gone:List (List UInt8)
 notes:List SN
def SM.cells (x:SM):List AV:=[.str x.name,.list (x.fields.map fun n=>.agg n.cells),.list (x.free.map fun n=>.agg n.cells),.list (x.gone.map AV.str),.list (x.notes.map fun n=>.agg n.cells)]
structure SM.ok (M:Nat)(x:SM):Prop where
 name:x.name.length≤M
 len1:x.fields.length≤M
 fields:∀n∈x.fields,n.ok M
 len2:x.free.length≤M
 free:∀n∈x.free,n.ok
 len3:x.gone.length≤M
 gone:∀n∈x.gone,n.length≤M
 len4:x.notes.length≤M
 notes:∀n∈x.notes,n.ok M

structure SI where
 name:List UInt8
 num:Int
 notes:List SN
def SI.cells (x:SI):List AV:=[.str x.name,.int .i64 x.num,.list (x.notes.map fun n=>.agg n.cells)]
structure SI.ok (M:Nat)(x:SI):Prop where
 name:x.name.length≤M
 num:(Lit.int .i64 x.num).wf=true
 len:x.notes.length≤M
 notes:∀n∈x.notes,n.ok M

structure SE where
 name:List UInt8
 opn:Bool
 items:List SI
 free:List PS
 notes:List SN
def SE.cells (x:SE):List AV:=[.str x.name,.bool x.opn,.list (x.items.map fun n=>.agg n.cells),.list (x.free.map fun n=>.agg n.cells),.list (x.notes.map fun n=>.agg n.cells)]
structure SE.ok (M:Nat)(x:SE):Prop where
 name:x.name.length≤M
 len1:x.items.length≤M
 items:∀n∈x.items,n.ok M
 len2:x.free.length≤M
 free:∀n∈x.free,n.ok
 len3:x.notes.length≤M
 notes:∀n∈x.notes,n.ok M

structure SO where
 name:List UInt8
 inn:List UInt8
 out:List UInt8
 shape:Int
 notes:List SN
def SO.cells (x:SO):List AV:=[.str x.name,.str x.inn,.str x.out,.int .i64 x.shape,.list (x.notes.map fun n=>.agg n.cells)]
structure SO.ok (M:Nat)(x:SO):Prop where
 name:x.name.length≤M
 inn:x.inn.length≤M
 out:x.out.length≤M
 shape:(Lit.int .i64 x.shape).wf=true
 len:x.notes.length≤M
 notes:∀n∈x.notes,n.ok M

structure SQ where
 name:List UInt8
 meths:List SO
 notes:List SN
def SQ.cells (x:SQ):List AV:=[.str x.name,.list (x.meths.map fun n=>.agg n.cells),.list (x.notes.map fun n=>.agg n.cells)]
structure SQ.ok (M:Nat)(x:SQ):Prop where
 name:x.name.length≤M
 len1:x.meths.length≤M
 meths:∀n∈x.meths,n.ok M
 len2:x.notes.length≤M
 notes:∀n∈x.notes,n.ok M

structure SC where
 msgs:List SM
 enums:List SE
 servs:List SQ
def SC.av (x:SC):AV:=.agg [.list (x.msgs.map fun n=>.agg n.cells),.list (x.enums.map fun n=>.agg n.cells),.list (x.servs.map fun n=>.agg n.cells)]
structure SC.ok (M:Nat)(x:SC):Prop where
 len1:x.msgs.length≤M
 msgs:∀n∈x.msgs,n.ok M
 len2:x.enums.length≤M
 enums:∀n∈x.enums,n.ok M
 len3:x.servs.length≤M
 servs:∀n∈x.servs,n.ok M

end Go.Proofs.YtafhmlkilcmniaaGreatDoor.Br

namespace Go.Proofs.YtafhmlkilcmniaaGreatDoor.Am
open Go

variable {P:Program}{f:Fr}{m:Qk}{ds:List DF}{Qg:List Item}{d:Nat}

def GK:List Nat→RC→RC
 | [],a=>a
 |s :: l,a=>.gho (.drop s) (GK l a)
def M3:List Nat→AV→AV
 | [],x=>x
 |s :: l,x=>M3 l (x.scrub s)
def GL:List Nat→Ob→Ob
 | [],x=>x
 |s :: l,x=>GL l (x.scrub s)

theorem M4 (l:List Nat):GL l .none=.none:=by
 induction l with
 |nil=>rfl
 |cons s l ih=>exact ih

theorem QH {Q:Exit→St→Prop}{a:RC}(l:List Nat):∀ {f:Fr} {fr:Nat→Ob},(∀s∈l,(fr s).isRow=false)→
  (∀f' fr',(∀i,f' i=M3 l (f i))→(∀i,i∉l→fr' i=GL l (fr i))→(∀i∈l,fr' i=.none)→QN P a ⟨f',fr' :: m,[]⟩ Q)→QN P (GK l a) ⟨f,fr :: m,[]⟩ Q:=by
 induction l with
 |nil=>intro f fr _ h;exact h f fr (fun _=>rfl) (fun _ _=>rfl) (fun _ h=>by cases h)
 |cons s l ih=>
  intro f fr hr h;show QN P (.gho (.drop s) (GK l a)) _ _;rw[Rl];refine⟨hr s (by simp),?_⟩;show QN P (GK l a) ⟨_,_ :: m,[]⟩ Q;refine ih ?_ ?_
  ·intro t ht;by_cases e:t=s
   ·subst e;rw[QY];rfl
   ·rw[Q2 _ _ e,Hu];exact hr t (by simp[ht])
  ·intro f' fr' h1 h2 h3;refine h f' fr' h1 ?_ ?_
   ·intro i hi;rw[h2 i (fun h=>hi (QY0 _ h)),Q2 _ _ (fun e=>hi (by rw[e];exact QY2))];rfl
   ·intro i hi;by_cases hl:i∈l
    ·exact h3 i hl
    ·have e:i=s:=by
      rcases QZ0.1 hi with e|e
      ·exact e
      ·exact absurd e hl
     rw[h2 i hl,e,QY,M4]

def Je:Ob→Nat
 |.vec g _ _=>g+1
 |_=>1

theorem K6 {fr:Nat→Ob}{s:Nat}:QK (fr :: m) 0 s=Je (fr s):=by
 unfold QK Je;rfl

theorem JY {K:St→Prop}{neg:Bool}{r:RA}{ys:List AV}(hr:r.ev f=.list ys)(h0:Qq P Qg ⟨Qt f d (.bool neg),m,ds⟩ K)(h1:ys=[]∨QP ys=[]→Qq P Qg ⟨Qt f d (.bool (!neg)),m,ds⟩ K):Qq P (⟨some d,.isnil neg r,none⟩ :: Qg) ⟨f,m,ds⟩ K:=by
 refine⟨ys,?_,fun _=>h0,fun e=>h1 ?_⟩
 ·show Zd m (r.ev f)=some ys;rw[hr];rfl
 ·rcases e with e|e
  ·have e:r.ev f=.nils:=e;rw[hr]at e;cases e
  ·exact .inr e

theorem Em {K:St→Prop}{d:Option Nat}{sz l s g o n:Nat}{z:List AV}{r:RA}{q:Bool}{xs:List AV}(h1:r.ev f=.vec l s g o n q)(h2:Qh m l s=.vec g sz xs)(h3:o+n≤xs.length)(h4:0<n)
  (h:Qq P Qg ⟨Qn f d (.tup []),Am.put m l s (.vec g sz (xs.take o++List.replicate n (X6 sz z)++xs.drop (o+n))),ds⟩ K):Qq P (⟨d,.clr sz z r,none⟩ :: Qg) ⟨f,m,ds⟩ K:=⟨l,s,g,o,n,q,xs,h1,h2,h3,h4,h⟩
theorem Kk {K:St→Prop}{site sz:Nat}{fr:Nat→Ob}(hs:QI (fr site)=true)
  (h:Qq P Qg ⟨Qt f d (.vec 0 site (Je (fr site)) 0 0 false),Qt fr site (.vec (Je (fr site)) sz []) :: m,ds⟩ K):Qq P (⟨some d,.bsl0 site sz,none⟩ :: Qg) ⟨f,fr :: m,ds⟩ K :=
 ⟨hs,h⟩

theorem ZS {Q:Exit→St→Prop}{a:RC}{slot site l S g sz o n:Nat}{q:Bool}{fr:Nat→Ob}{xs:List AV}(h1:f slot=.vec 0 site g o n q)(h2:fr site=.vec g sz xs)(hl:l<m.length)(hS:S<2000)(hr:QI (Qh m l S)=true)
  (h:QN P a ⟨Qt f slot (.vec (l+1) S (QK m l S) o n q),Qt fr site (.vec (g+1) sz []) :: Am.put m l S (.vec (QK m l S) sz xs),ds⟩ Q):QN P (.gho (.give slot site (l+1) S) a) ⟨f,fr :: m,ds⟩ Q:=by
 refine⟨_,?_,h⟩;have e:Qh (fr :: m) 0 site=.vec g sz xs:=h2;have e1:QI (Qh (fr :: m) (l+1) S)=true:=hr;have e2:QK (fr :: m) (l+1) S=QK m l S:=rfl;simp only[JW,h1,e,e1,e2];rw[show Nat.beq site site=true from Nat.beq_refl site,show Nat.beq g g=true from Nat.beq_refl g,show Nat.blt (l+1) (fr :: m).length=true from Nat.ble_eq_true_of_le (by simp;omega),show Nat.blt S 2000=true from Nat.ble_eq_true_of_le hS];rfl

theorem Xa {K:St→Prop}{k:Nat}{r:RA}{args:List RA}{fa fb ys:List AV}{v:AV}{m':Qk}(hr:r.ev f=.fn (.func k) fa fb)(hk:Qf P k ys m fun x m1=>x=v∧m1=m')(hy:fa++args.map (RA.ev f)++fb=ys)(h:Qq P Qg ⟨Qt f d v,m',ds⟩ K) :
  Qq P (⟨some d,.callF r args,none⟩ :: Qg) ⟨f,m,ds⟩ K:=by
 refine⟨k,fa,fb,v,m',hr,?_,h⟩;show Qf P k (fa++args.map (RA.ev f)++fb) m fun x m1=>x=v∧m1=m'
 rw[hy];exact hk

theorem Wt {K:St→Prop}{k:Nat}{r:RA}{args:List RA}{fa fb ys:List AV}{v:AV}(hr:r.ev f=.fn (.func k) fa fb)(hk:Qi P k ys v)(hy:AV.stillL false m (fa++args.map (RA.ev f)++fb)=some ys)(h1:AV.rfL ys=true)(h2:v.rf=true)
  (h3:AV.rfL (fa++args.map (RA.ev f)++fb)=true∨v.nl=true) (h:Qq P Qg ⟨Qt f d v,m,ds⟩ K):Qq P (⟨some d,.call r args,none⟩ :: Qg) ⟨f,m,ds⟩ K :=
 ⟨k,fa,fb,ys,v,hr,hy,h1,hk,h2,h3,h⟩

end Go.Proofs.YtafhmlkilcmniaaGreatDoor.Am

namespace Go.Proofs.YtafhmlkilcmniaaGreatDoor.Am
open Go

abbrev B0:=FuncId→Option (RC×List RR×Nat)

def GM (P:Program)(T:B0):Prop :=
 ∀k c rs N, T k=some (c, rs, N)→∃fn body, P.funcs[k]? = some fn∧fn.body=some body∧(fn.name == "runtime.NumGoroutine")=false∧fn.ntmps=N∧Zn P N c body=true∧J1 P fn.results.toList rs=true

abbrev WK:=FuncId→List AV→Qk→Option (AV×Qk)

def ZT (call:WK)(d:Option Nat)(op:RO)(st:St):Option St :=
 match op with
 |.val vo=>match QG st.f st.m vo with
  |some x=>some { st with f:=Qn st.f d x }
  |none=>none
 |.allocN s z=>bif XP st.m s then some { st with m:=Am.put st.m 0 s (.cells z),f:=Qn st.f d (.ptr 0 s 0) } else none
 |.boxN s r=>bif XP st.m s&&(r.ev st.f).cells.all AV.leaf then some { st with m:=Am.put st.m 0 s (.cells (r.ev st.f).cells),f:=Qn st.f d (.ptr 0 s 0) } else none
 |.store n p r=>bif Nat.beq (r.ev st.f).cells.length n&&(r.ev st.f).cells.all AV.leaf then match Q8 st.m (p.ev st.f) (r.ev st.f).cells with
   |some m'=>some { st with m:=m',f:=Qn st.f d (.tup []) }
   |none=>none
  else none
 |.storev l s n p r=>match p.ev st.f with
  |.ptr l' s' _=>bif Nat.beq l' l&&Nat.beq s' s&&Nat.beq (r.ev st.f).cells.length n&&(r.ev st.f).cells.all AV.leaf then match Q8 st.m (p.ev st.f) (r.ev st.f).cells with
    |some m'=>some { st with m:=m',f:=Qn st.f d (.tup []) }
    |none=>none
   else none
  |_=>none
 |.app sz bytes el s r=>match s.ev st.f with
  |.vec l site g 0 n false=>match Qh st.m l site with
   |.vec g' sz' xs=>match Zd st.m (r.ev st.f)with
    |some ys=>bif Nat.beq g' g&&Nat.beq sz' sz&&Zr site el&&Nat.ble n xs.length&&ys.all (fun e=>e.cells.length==sz)&&Nat.ble (n+ys.length) maxLen&&Nat.ble ((n+ys.length)*bytes) 140737488355328 then
      some { st with m:=Am.put st.m l site (.vec (g+1) sz (xs.take n++ys)),f:=Qn st.f d (.vec l site (g+1) 0 (n+ys.length) false) }
     else none
    |none=>none
   |_=>none
  |_=>none
 |.call f args=>match f.ev st.f with
  |.fn (.func k) fa fb=>match AV.stillL false st.m (fa++args.map (RA.ev st.f)++fb)with
   |some ys=>bif AV.rfL ys then match call k ys []with
     |some (v,_)=>bif v.rf&&(AV.rfL (fa++args.map (RA.ev st.f)++fb)||v.nl)then some { st with f:=Qn st.f d v } else none
     |none=>none
    else none
   |none=>none
  |_=>none
 |.callF f args=>match f.ev st.f with
  |.fn (.func k) fa fb=>match call k (fa++args.map (RA.ev st.f)++fb) st.m with
   |some (v,m')=>some { st with m:=m',f:=Qn st.f d v }
   |none=>none
  |_=>none
 |.bsl sz len z ps=>match fill st.f ps (Jd z sz len)with
  |some y=>bif AV.rfL y&&y.all AV.leaf then some { st with f:=Qn st.f d (.list (Jc sz len (y.map nn0))) } else none
  |none=>none
 |.clr .. => none
 |.bsl0 site sz=>bif QI (Qh st.m 0 site)then some { st with m:=Am.put st.m 0 site (.vec (QK st.m 0 site) sz []),f:=Qn st.f d (.vec 0 site (QK st.m 0 site) 0 0 false) } else none
 |.isnil neg r=>match r.ev st.f with
  |.nils=>some { st with f:=Qn st.f d (.bool (!neg)) }
  |.list l=>match QP l with
   |_ :: _=>some { st with f:=Qn st.f d (.bool neg) }
   | []=>none
  |_=>none
 |.xb cnt _ s c=>match s.ev st.f,c.ev st.f with
  |.str t,.int .u8 b=>some { st with f:=Qn st.f d (.int .i64 (Gx cnt t b)) }
  |_,_=>none
 |.rngs s r=>match r.ev st.f with
  |.str t=>bif XP st.m s then some { st with m:=Am.put st.m 0 s (.iter (.str t) 0),f:=Qn st.f d (.ptr 0 s 0) } else none
  |_=>none
 |.nxts r=>match r.ev st.f with
  |.ptr l s 0=>match Qh st.m l s with
   |.iter (.str t) p=>bif Nat.blt p t.length then some { st with m:=Am.put st.m l s (.iter (.str t) (p+(XA t p).2)),f:=Qn st.f d (.tup [.bool true,.int .i64 (p:Nat),.int .i32 ((XA t p).1:Nat)]) } else some { st with f:=Qn st.f d (.tup [.bool false]) }
   |_=>none
  |_=>none
 |.mkm s=>bif XP st.m s then some { st with m:=Am.put st.m 0 s (.iter (.mp [] []) 0),f:=Qn st.f d (.mptr 0 s) } else none
 |.mput x i v=>match x.ev st.f with
  |.mptr l s=>match Qh st.m l s with
   |.iter (.mp ks vs) p=>match i.ev st.f with
    |.str k=>bif (v.ev st.f).gr&&AV.grL vs&&Nat.beq ks.length vs.length then some { st with m:=Am.put st.m l s (.iter (.mp (XS k (v.ev st.f) ks vs).1 (XS k (v.ev st.f) ks vs).2) p),f:=Qn st.f d (.tup []) } else none
    |_=>none
   |_=>none
  |_=>none
 |.mk site _ sz bytes z l c=>match l.ev st.f,c.ev st.f with
  |.int _ (.ofNat n),.int _ (.ofNat k)=>bif Nat.ble n k&&Nat.ble k 9223372036854775807&&Nat.ble (bytes*k) 281474976710656&&QI (Qh st.m 0 site)then
    some { st with m:=Am.put st.m 0 site (.vec (QK st.m 0 site) sz (List.replicate n (X6 sz z))),f:=Qn st.f d (.vec 0 site (QK st.m 0 site) 0 n false) }
   else none
  |_,_=>none
where
  isBytes:List AV→List UInt8→Bool
  | [],[]=>true
  |.int .u8 (.ofNat n) :: l,b :: t=>Nat.beq n b.toNat&&isBytes l t
  |_,_=>false

def B1 (call:WK)(it:Item)(st:St):Option St :=
 match it.g with
 |none=>ZT call it.dst it.op st
 |some (j,want)=>match st.f j with
  |.bool b=>bif b==want then ZT call it.dst it.op st else some { st with f:=Qn st.f it.dst (.tup []) }
  |.tup []=>some { st with f:=Qn st.f it.dst (.tup []) }
  |_=>none

def GN (call:WK):List Item→St→Option St
 | [],st=>some st
 |it :: Qg,st=>match B1 call it st with
  |some st'=>GN call Qg st'
  |none=>none

def GP (rs:List RR)(n:Nat)(r:Option (Exit×St)):Option (AV×Qk) :=
 match r with
 |some (.normal,st)=>fin st
 |some (.ret,st)=>fin st
 |_=>none
where
 fin (st:St):Option (AV×Qk):=match st.ds with
  | []=>match WF st rs with
   |some x=>match W4 st.m x with
    |some y=>match st.m with
     |_ :: m=>bif Nat.beq m.length n then some (y,m)else none
     | []=>none
    |none=>none
   |none=>none
  |_=>none

def K7 (X3:WK)(T:B0)(body:RC→St→Option (Exit×St)):WK:=fun k args m=>
 match X3 k args m with
 |some r=>some r
 |none=>match T k with
  |some (c,rs,N)=>bif Nat.ble args.length N then GP rs m.length (body c (St.enter args m))else none
  |none=>none

def Z6 (X3:WK)(T:B0):Nat→RC→St→Option (Exit×St)
 |0,_,_=>none
 |n+1,c,st=>match c with
  |.skip=>some (.normal,st)
  |.reg Qg=>match GN (K7 X3 T (Z6 X3 T n)) Qg st with
   |some st'=>some (.normal,st')
   |none=>none
  |.draw Qg=>match GN (K7 X3 T (Z6 X3 T n)) Qg st with
   |some st'=>some (.normal,st')
   |none=>none
  |.seq a b=>match Z6 X3 T n a st with
   |some (.normal,st')=>Z6 X3 T n b st'
   |r=>r
  |.cond c a b=>match c.ev st.f with
   |.bool t=>bif t then Z6 X3 T n a st else Z6 X3 T n b st
   |_=>none
  |.block id a=>match Z6 X3 T n a st with
   |some (.exit i,st')=>if i=id then some (.normal,st')else some (.exit i,st')
   |r=>r
  |.loop a=>match Z6 X3 T n a st with
   |some (.normal,st')=>Z6 X3 T n (.loop a) st'
   |r=>r
  |.exit id=>some (.exit id,st)
  |.scope a=>match Z6 X3 T n a st with
   |some (.goto _,_)=>none
   |r=>r
  |.lab=>some (.normal,st)
  |.ret=>some (.ret,st)
  |.gho g a=>match JW g st with
   |some st'=>Z6 X3 T n a st'
   |none=>none
  |.no=>none

section
variable {P:Program}{T:B0}

def W7 (P:Program)(call:WK):Prop:=∀k args m v m',call k args m=some (v,m')→Qf P k args m fun x m1=>x=v∧m1=m'

theorem Ca {call:WK}(hc:W7 P call){d:Option Nat}{op:RO}{st st':St}(h:ZT call d op st=some st'){K:St→Prop}(hK:K st'):Ul P d op st K:=by
 cases op with
 |val vo=>
  simp only[ZT]at h;split at h
  ·rename_i x hx;cases h;exact⟨x,hx,hK⟩
  ·cases h
 |allocN s z=>
  simp only[ZT]at h;cases h1:XP st.m s<;>rw[h1]at h<;>simp only[cond_true,cond_false,reduceCtorEq,QZb]at h;subst h;exact⟨h1,hK⟩
 |boxN s r=>
  simp only[ZT]at h;cases h1:(XP st.m s&&(r.ev st.f).cells.all AV.leaf)<;>rw[h1]at h<;>simp only[cond_true,cond_false,reduceCtorEq,QZb]at h;rw[QY7]at h1;subst h;exact⟨h1.1,h1.2,hK⟩
 |store n p r=>
  simp only[ZT]at h;cases h1:(Nat.beq (r.ev st.f).cells.length n&&(r.ev st.f).cells.all AV.leaf)<;>rw[h1]at h<;>simp only[cond_true,cond_false,reduceCtorEq]at h;rw[QY7]at h1;split at h
  ·rename_i m' hm;cases h;exact⟨QYI h1.1,h1.2,m',hm,hK⟩
  ·cases h
 |storev l s n p r=>
  simp only[ZT]at h;split at h
  ·rename_i l' s' o hp;cases h1:(Nat.beq l' l&&Nat.beq s' s&&Nat.beq (r.ev st.f).cells.length n&&(r.ev st.f).cells.all AV.leaf)<;>rw[h1]at h<;>simp only[cond_true,cond_false,reduceCtorEq]at h;simp only[QY7]at h1;obtain⟨⟨⟨a1,a2⟩,a3⟩,a4⟩:=h1;have e1:=QYI a1;have e2:=QYI a2;subst e1 e2;split at h
   ·rename_i m' hm;cases h;exact⟨⟨o,hp⟩,QYI a3,a4,m',hm,hK⟩
   ·cases h
  ·cases h
 |app sz bytes el s r=>
  simp only[ZT]at h;split at h
  ·rename_i l site g n hs;split at h
   ·rename_i g' sz' xs hl;split at h
    ·rename_i ys hy;cases h1:(Nat.beq g' g&&Nat.beq sz' sz&&Zr site el&&Nat.ble n xs.length&&ys.all (fun e=>e.cells.length==sz)&&Nat.ble (n+ys.length) maxLen&&Nat.ble ((n+ys.length)*bytes) 140737488355328)<;>rw[h1]at h<;>simp only[cond_true,cond_false,reduceCtorEq,QZb]at h;simp only[QY7]at h1;obtain⟨⟨⟨⟨⟨⟨a1,a2⟩,a3⟩,a4⟩,a5⟩,a6⟩,a7⟩:=h1;have e1:=QYI a1;have e2:=QYI a2;subst e1 e2 h;exact⟨l,site,_,n,xs,ys,hs,hl,a3,Q0a a4,hy,a5,Q0a a6,Q0a a7,hK⟩
    ·cases h
   ·cases h
  ·cases h
 |call f args=>
  simp only[ZT]at h;split at h
  ·rename_i k fa fb hf;split at h
   ·rename_i ys hy;cases h1:AV.rfL ys<;>rw[h1]at h<;>simp only[cond_true,cond_false,reduceCtorEq]at h;split at h
    ·rename_i v m' hv;cases h2:(v.rf&&(AV.rfL (fa++args.map (RA.ev st.f)++fb)||v.nl))<;>rw[h2]at h<;>simp only[cond_true,cond_false,reduceCtorEq,QZb]at h;rw[QY7,QZE]at h2;subst h;exact⟨k,fa,fb,ys,v,hf,hy,h1,(hc _ _ _ _ _ hv).mono (fun _ _ e=>e.1),h2.1,h2.2,hK⟩
    ·cases h
   ·cases h
  ·cases h
 |callF f args=>
  simp only[ZT]at h;split at h
  ·rename_i k fa fb hf;split at h
   ·rename_i v m' hv;cases h;exact⟨k,fa,fb,v,m',hf,hc _ _ _ _ _ hv,hK⟩
   ·cases h
  ·cases h
 |bsl sz len z ps=>
  simp only[ZT]at h;split at h
  ·rename_i y hy;cases h1:(AV.rfL y&&y.all AV.leaf)<;>rw[h1]at h<;>simp only[cond_true,cond_false,reduceCtorEq,QZb]at h;rw[QY7]at h1;subst h;exact⟨y,hy,h1.1,h1.2,hK⟩
  ·cases h
 |clr sz z r=>simp only[ZT]at h;cases h
 |bsl0 site sz=>
  simp only[ZT]at h;cases h1:QI (Qh st.m 0 site)<;>rw[h1]at h<;>simp only[cond_true,cond_false,reduceCtorEq,QZb]at h;subst h;exact⟨h1,hK⟩
 |isnil neg r=>
  simp only[ZT]at h;split at h
  ·rename_i hr;cases h;exact⟨[],by rw[hr];rfl,fun e=>absurd hr e,fun _=>hK⟩
  ·rename_i l hr;split at h
   ·rename_i z zs hf;cases h;exact⟨l,by rw[hr];rfl,fun _=>hK,fun e=>by
     rcases e with e|e
     ·rw[hr]at e;cases e
     ·rw[hf]at e;cases e⟩
   ·cases h
  ·cases h
 |xb cnt k s c=>
  simp only[ZT]at h;split at h
  ·rename_i t b hs hb;cases h;exact⟨t,b,hs,hb,hK⟩
  ·cases h
 |rngs s r=>
  simp only[ZT]at h;split at h
  ·rename_i t ht;cases h1:XP st.m s<;>rw[h1]at h<;>simp only[cond_true,cond_false,reduceCtorEq,QZb]at h;subst h;exact⟨t,ht,h1,hK⟩
  ·cases h
 |mkm s=>
  simp only[ZT]at h;cases h1:XP st.m s<;>rw[h1]at h<;>simp only[cond_true,cond_false,reduceCtorEq,QZb]at h;subst h;exact⟨h1,hK⟩
 |mput x i v=>
  simp only[ZT]at h;split at h
  ·rename_i l s hx;split at h
   ·rename_i ks vs p hl;split at h
    ·rename_i k hi;cases h1:((v.ev st.f).gr&&AV.grL vs&&Nat.beq ks.length vs.length)<;>rw[h1]at h<;>simp only[cond_true,cond_false,reduceCtorEq,QZb]at h;subst h;simp only[QY7]at h1;exact⟨l,s,ks,vs,p,k,hx,hl,hi,h1.1.1,h1.1.2,QYI h1.2,hK⟩
    ·cases h
   ·cases h
  ·cases h
 |nxts r=>
  simp only[ZT]at h;split at h
  ·rename_i l s hr;split at h
   ·rename_i t p hl;refine⟨l,s,t,p,hr,hl,fun e=>?_,fun e=>?_⟩
    ·have hb:Nat.blt p t.length=true:=by simp[Nat.blt_eq,e]
     rw[hb]at h;cases h;exact hK
    ·have hb:Nat.blt p t.length=false:=by
      cases hb:Nat.blt p t.length with
      |false=>rfl
      |true=>rw[Nat.blt_eq]at hb;omega
     rw[hb]at h;cases h;exact hK
   ·cases h
  ·cases h
 |mk site el sz bytes z l c=>
  simp only[ZT]at h;split at h
  ·rename_i kl n kc k hl hcc;cases h1:(Nat.ble n k&&Nat.ble k 9223372036854775807&&Nat.ble (bytes*k) 281474976710656&&QI (Qh st.m 0 site))<;>rw[h1]at h<;>simp only[cond_true,cond_false,reduceCtorEq,QZb]at h;simp only[QY7]at h1;obtain⟨⟨⟨a1,a2⟩,a3⟩,a4⟩:=h1;subst h;exact⟨kl,kc,n,k,hl,hcc,Q0a a1,Q0a a2,Q0a a3,a4,hK⟩
  ·cases h

theorem RE {call:WK}(hc:W7 P call){it:Item}{st st':St}(h:B1 call it st=some st'){K:St→Prop}(hK:K st'):X9 P it st K:=by
 obtain⟨d,op,g⟩:=it;cases g with
 |none=>exact Ca (d:=d) hc h hK
 |some p=>
  obtain⟨j,want⟩:=p;simp only[B1]at h;simp only[X9];split at h
  ·rename_i b hj;simp only[hj];cases hb:(b==want)with
   |true=>
    rw[hb]at h;have e:b=want:=by simpa using hb
    exact⟨fun _=>Ca hc h hK,fun e'=>by rw[e]at e';cases want<;>cases e'⟩
   |false=>
    rw[hb]at h;simp only[cond_false,QZb]at h;subst h;exact⟨fun e=>by rw[e]at hb;simp at hb,fun _=>hK⟩
  ·rename_i hj;cases h;simp only[hj];exact⟨trivial,hK⟩
  ·cases h

theorem HV {call:WK}(hc:W7 P call):∀ {Qg:List Item} {st st':St},GN call Qg st=some st'→∀ {K:St→Prop},K st'→Qq P Qg st K
 | [],_,_,h,_,hK=>by cases h;exact hK
 |it :: Qg,st,st',h,K,hK=>by
  simp only[GN]at h;split at h
  ·rename_i st1 h1;exact RE hc h1 (HV hc h hK)
  ·cases h

theorem Eo {rs:List RR}{n:Nat}{r:Option (Exit×St)}{v:AV}{m':Qk}(h:GP rs n r=some (v,m')):∃e st,r=some (e,st)∧Za rs n (fun x m1=>x=v∧m1=m') e st:=by
 have fin:∀ {e:Exit} {st:St},(e=.normal∨e=.ret)→GP.fin rs n st=some (v,m')→Za rs n (fun x m1=>x=v∧m1=m') e st:=by
  intro e st he h;unfold GP.fin at h;split at h
  ·rename_i hds;split at h
   ·rename_i x hx;split at h
    ·rename_i y hy;split at h
     ·rename_i fr m hm;cases hb:Nat.beq m.length n with
      |false=>rw[hb]at h;cases h
      |true=>
       rw[hb]at h;simp only[cond_true,QZb,Prod.mk.injEq]at h;exact⟨he,hds,x,y,fr,m,hx,hy,hm,QYI hb,h.1,h.2⟩
     ·cases h
    ·cases h
   ·cases h
  ·cases h
 unfold GP at h;split at h
 ·exact⟨_,_,rfl,fin (.inl rfl) h⟩
 ·exact⟨_,_,rfl,fin (.inr rfl) h⟩
 ·cases h

theorem Km {X3:WK}(hN:W7 P X3)(hT:GM P T){body:RC→St→Option (Exit×St)}(hb:∀c st e st',body c st=some (e,st')→∀Q:Exit→St→Prop,Q e st'→QN P c st Q):W7 P (K7 X3 T body):=by
 intro k args m v m' h;unfold K7 at h;split at h
 ·rename_i r hr;cases h;exact hN _ _ _ _ _ hr
 split at h
 ·rename_i c rs N hk;cases hN:Nat.ble args.length N with
  |false=>rw[hN]at h;cases h
  |true=>
   rw[hN]at h;simp only[cond_true]at h;obtain⟨e,st,h1,h2⟩:=Eo h;obtain⟨fn,cd,a1,a2,a3,a4,a5,a6⟩:=hT k c rs N hk;exact Um a1 a2 a3 a4 a5 a6 (Q0a hN) (hb _ _ _ _ h1 _ h2)
 ·cases h

theorem GQ {X3:WK}(hN:W7 P X3)(hT:GM P T):∀(n:Nat) (c:RC) (st:St) (e:Exit) (st':St),Z6 X3 T n c st=some (e,st')→∀Q:Exit→St→Prop,Q e st'→QN P c st Q:=by
 intro n
 induction n using Nat.strongRecOn with
 |_ n ihs=>
 cases n with
 |zero=>intro c st e st' h;cases h
 |succ n=>
  intro c st e st' h Q hQ;have ih:=ihs n (Nat.lt_succ_self n);cases c with
  |skip=>cases h;exact hQ
  |reg Qg=>
   simp only[Z6]at h;split at h
   ·rename_i st1 h1;cases h;exact HV (Km hN hT ih) h1 hQ
   ·cases h
  |draw Qg=>
   simp only[Z6]at h;split at h
   ·rename_i st1 h1;cases h;exact HV (Km hN hT ih) h1 hQ
   ·cases h
  |seq a b=>
   simp only[Z6]at h;split at h
   ·rename_i st1 h1;exact ih _ _ _ _ h1 _ (ih _ _ _ _ h Q hQ)
   ·rename_i h1;refine ih _ _ _ _ h _ ?_;cases e with
    |normal=>exact absurd h (h1 st')
    |_=>exact hQ
  |cond c a b=>
   simp only[Z6]at h;split at h
   ·rename_i t ht;cases t with
    |true=>exact⟨true,ht,fun _=>ih _ _ _ _ h Q hQ,(fun e=>by cases e)⟩
    |false=>exact⟨false,ht,(fun e=>by cases e),fun _=>ih _ _ _ _ h Q hQ⟩
   ·cases h
  |block id a=>
   simp only[Z6]at h;split at h
   ·rename_i i st1 h1;refine ih _ _ _ _ h1 _ ?_;show if i=id then Q .normal st1 else Q (.exit i) st1
    split at h
    ·rename_i hi;cases h;rw[QYS hi];exact hQ
    ·rename_i hi;cases h;rw[QYR hi];exact hQ
   ·rename_i h1;refine ih _ _ _ _ h _ ?_;cases e with
    |exit i=>exact absurd h (h1 i st')
    |_=>exact hQ
  |loop a=>
   refine⟨fun k s=>k≤n∧Z6 X3 T (k+1) (.loop a) s=some (e,st'),n,⟨QYK _,h⟩,fun k s hh=>?_⟩;obtain⟨hk,hs⟩:=hh;simp only[Z6]at hs;split at hs
   ·rename_i st1 h1;refine ihs k (by omega) _ _ _ _ h1 _ ?_;show ∃j,j<k∧j≤n∧Z6 X3 T (j+1) (.loop a) st1=some (e,st');cases k with
    |zero=>cases h1
    |succ j=>exact⟨j,Nat.lt_succ_self j,by omega,hs⟩
   ·rename_i h1;refine ihs k (by omega) _ _ _ _ hs _ ?_;cases e with
    |normal=>exact absurd hs (h1 st')
    |_=>exact hQ
  |exit id=>cases h;exact hQ
  |scope a=>
   simp only[Z6]at h;split at h
   ·cases h
   ·rename_i h1;refine ih _ _ _ _ h _ ?_;cases e with
    |goto i=>exact absurd h (h1 i st')
    |_=>exact hQ
  |lab=>cases h;exact hQ
  |ret=>cases h;exact hQ
  |gho g a=>
   simp only[Z6]at h;split at h
   ·rename_i st1 h1;exact⟨st1,h1,ih _ _ _ _ h Q hQ⟩
   ·cases h
  |no=>cases h

def evT (X3:WK)(T:B0)(n:Nat)(k:FuncId)(args:List AV):Bool :=
 match K7 X3 T (Z6 X3 T n) k args []with
 |some (.bool true,_)=>true
 |_=>false

theorem M5 {X3:WK}(hN:W7 P X3)(hT:GM P T){n:Nat}{k:FuncId}{args:List AV}(h:evT X3 T n k args=true):Qi P k args (.bool true):=by
 unfold evT at h;split at h
 ·rename_i m' h1;exact(Km hN hT (GQ hN hT n) _ _ _ _ _ h1).mono fun _ _ e=>e.1
 ·cases h

end

def Qa:=(Q0o (Q0o (Q0o (Q0o (Q0o (Q0o (Q0o (Q0o @Am.U0 @Am.UZ) (Q0o @Am.Qgm @Am.KY)) (Q0o (Q0o @Am.Jj @Am.Qgo) (Q0o @Am.Qgp (Q0o @Am.QbQ @Am.QbR)))) (Q0o (Q0o (Q0o @Am.UA @Am.QD7) (Q0o @Am.QD8 @Am.Qgl)) (Q0o (Q0o @Am.Qgq @Am.BS) (Q0o @Am.Qgr (Q0o @Am.Qgs @Am.Qgt))))) (Q0o (Q0o (Q0o (Q0o @Am.Qgu @Am.Qgv) (Q0o @Am.Qgw @Am.Qgx)) (Q0o (Q0o @Am.WI @Am.Qgn) (Q0o @Am.QD9 (Q0o @Am.BT @Am.Hv)))) (Q0o (Q0o (Q0o @Am.e_f @Am.K0) (Q0o @Am.Jk @Am.KZ)) (Q0o (Q0o @Am.K1 @Am.GE) (Q0o @Am.WJ (Q0o @Am.Ed @Am.Rv)))))) (Q0o (Q0o (Q0o (Q0o (Q0o @Am.UB @Am.Ee) (Q0o @Am.MZ @Am.M0)) (Q0o (Q0o @Am.Rw @Am.HT) (Q0o @Am.WH (Q0o @Am.Ef @Am.Eg)))) (Q0o (Q0o (Q0o @Am.J6 @Am.QG.eq_1) (Q0o @Am.QG.eq_2 @Am.QG.eq_3)) (Q0o (Q0o @Am.QG.eq_4 @Am.QG.eq_5) (Q0o @Am.QG.eq_6 (Q0o @Am.QG.eq_7 @Am.QG.eq_8))))) (Q0o (Q0o (Q0o (Q0o @Am.QG.eq_9 @Am.QG.eq_10) (Q0o @Am.QG.eq_11 @Am.QG.eq_12)) (Q0o (Q0o @Am.QG.eq_13 @Am.QG.eq_14) (Q0o @Am.QG.eq_15 (Q0o @Am.QG.eq_16 @Am.QG.eq_17)))) (Q0o (Q0o (Q0o @Am.QG.eq_18 @Am.QG.eq_19) (Q0o @Am.QG.eq_20 @Am.QG.eq_21)) (Q0o (Q0o @Am.QG.eq_22 @Am.QG.eq_23) (Q0o @Am.QG.eq_24 (Q0o @Am.QG.eq_25 @Am.QG.eq_26))))))) (Q0o (Q0o (Q0o (Q0o (Q0o (Q0o @Am.QG.eq_27 @Am.QG.eq_28) (Q0o @Am.QG.eq_29 @Am.QG.eq_1)) (Q0o (Q0o @Am.QG.eq_1 @Am.QG.eq_1) (Q0o @Am.QG.eq_1 (Q0o @Am.QG.eq_1 @Am.QG.eq_1)))) (Q0o (Q0o (Q0o @Am.QG.eq_1 @Am.Xp.eq_1) (Q0o @Am.Xp.eq_2 @Am.Xp.eq_3)) (Q0o (Q0o @Am.Xp.eq_4 @Am.Xp.eq_5) (Q0o @Am.Xp.eq_6 (Q0o @Am.Xp.eq_7 @Am.Xp.eq_8))))) (Q0o (Q0o (Q0o (Q0o @Am.Xp.eq_9 @Am.Xp.eq_10) (Q0o @Am.Xp.eq_11 @Am.Xp.eq_12)) (Q0o (Q0o @Am.Xp.eq_13 @Am.Xp.eq_14) (Q0o @Am.Xp.eq_15 (Q0o @Am.Xp.eq_16 @Am.Xp.eq_17)))) (Q0o (Q0o (Q0o @Am.XO.eq_1 @Am.XO.eq_2) (Q0o @Am.XO.eq_3 @Am.XO.eq_4)) (Q0o (Q0o @Am.XO.eq_5 @Am.XO.eq_6) (Q0o @Am.XO.eq_7 (Q0o @Am.XO.eq_8 @Am.XO.eq_9)))))) (Q0o (Q0o (Q0o (Q0o (Q0o @Am.XO.eq_10 @Am.XO.eq_11) (Q0o @Am.XO.eq_12 @Am.XO.eq_13)) (Q0o (Q0o @Am.XO.eq_14 @Am.XO.eq_15) (Q0o @Am.XO.eq_16 (Q0o @Am.Bv.eq_1 @Am.Bv.eq_2)))) (Q0o (Q0o (Q0o @Am.Bv.eq_3 @Am.Bv.eq_4) (Q0o @cond_true.{0} @cond_true.{1})) (Q0o (Q0o @cond_false.{0} @cond_false.{1}) (Q0o @true_and (Q0o @and_true @QZH.{0}))))) (Q0o (Q0o (Q0o (Q0o @QZM.{0} @List.getElem?_nil.{0}) (Q0o @QZQ.{0} @Q0g.{0})) (Q0o (Q0o @Am.St.enter.eq_1 @Am.MA.eq_1) (Q0o @Am.AV.shL.eq_1 (Q0o @Am.AV.shL.eq_2 @Am.AV.sh.eq_1)))) (Q0o (Q0o (Q0o @Am.AV.sh.eq_2 @Am.AV.sh.eq_3) (Q0o @Am.AV.sh.eq_4 @Am.AV.sh.eq_5)) (Q0o (Q0o @Am.AV.sh.eq_6 @Am.AV.sh.eq_7) (Q0o @Am.AV.sh.eq_8 (Q0o @Am.AV.sh.eq_9 @Am.WF.eq_1)))))))) (Q0o (Q0o (Q0o (Q0o (Q0o (Q0o (Q0o @Am.WF.eq_2 @Am.RR.ev.eq_1) (Q0o @Am.RR.ev.eq_2 @Am.RR.evL.eq_1)) (Q0o (Q0o @Am.RR.evL.eq_2 @Am.W4.eq_1) (Q0o @Am.AV.still.eq_1 (Q0o @Am.AV.still.eq_2 @Am.AV.still.eq_3)))) (Q0o (Q0o (Q0o @Am.AV.still.eq_4 @Am.AV.still.eq_5) (Q0o @Am.AV.still.eq_6 @Am.AV.still.eq_7)) (Q0o (Q0o @Am.AV.still.eq_8 @Am.AV.stillL.eq_1) (Q0o @Am.AV.stillL.eq_2 (Q0o @Am.AV.un.eq_1 @Am.AV.un.eq_2))))) (Q0o (Q0o (Q0o (Q0o @Am.AV.un.eq_3 @Am.AV.un.eq_4) (Q0o @Am.AV.un.eq_5 @Am.AV.un.eq_6)) (Q0o (Q0o @Am.AV.un.eq_7 @Am.AV.un.eq_8) (Q0o @Am.AV.un.eq_9 (Q0o @Am.AV.un.eq_10 @Am.AV.un.eq_11)))) (Q0o (Q0o (Q0o @Am.AV.un.eq_12 @Am.AV.un.eq_13) (Q0o @Am.AV.unL.eq_1 @Am.AV.unL.eq_2)) (Q0o (Q0o @QZP.{0,0} @QZa.{0,0}) (Q0o @if_true.{0} (Q0o @if_true.{1} @if_false.{0})))))) (Q0o (Q0o (Q0o (Q0o (Q0o @if_false.{1} @QY3) (Q0o @Go.IntKind.bits.eq_1 @Go.IntKind.bits.eq_2)) (Q0o (Q0o @Go.IntKind.bits.eq_3 @Go.IntKind.bits.eq_4) (Q0o @Go.IntKind.bits.eq_5 (Q0o @Go.IntKind.bits.eq_6 @Go.IntKind.bits.eq_7)))) (Q0o (Q0o (Q0o @Go.IntKind.bits.eq_8 @QZR.{0}) (Q0o @QYZ.{0} @Q0p)) (Q0o (Q0o @QZT @forall_const.{1}) (Q0o @not_true_eq_false (Q0o @not_false_eq_true @Am.Kj))))) (Q0o (Q0o (Q0o (Q0o @Q0q @QZN) (Q0o @Am.WB.eq_1 @ne_eq.{1})) (Q0o (Q0o @Nat.one_ne_zero @decide_true) (Q0o @decide_false (Q0o @Am.QbS @Am.Eb)))) (Q0o (Q0o (Q0o @Am.Qgz @Am.Ec) (Q0o @Am.QgA @Am.Qgy)) (Q0o (Q0o @Am.QEa @Am.XP.eq_1) (Q0o @Am.AV.unNL.eq_1 (Q0o @Am.AV.unNL.eq_2 @Am.AV.unNL_zero))))))) (Q0o (Q0o (Q0o (Q0o (Q0o (Q0o @Am.AV.shNL.eq_1 @Am.AV.shNL.eq_2) (Q0o @Am.AV.shN.eq_1 @Am.AV.shN.eq_2)) (Q0o (Q0o @Am.splice.eq_1 @Am.part.eq_1) (Q0o @Am.part.eq_2 (Q0o @Am.fill.eq_1 @Am.fill.eq_2)))) (Q0o (Q0o (Q0o @Am.AV.leaf.eq_1 @Am.AV.leaf.eq_2) (Q0o @Am.AV.leaf.eq_3 @Am.AV.leaf.eq_4)) (Q0o (Q0o @QZS.{0} @List.all_nil.{0}) (Q0o @QZi.{0} (Q0o @QZO.{0} @List.take_nil.{0}))))) (Q0o (Q0o (Q0o (Q0o @QZl.{0} @QZs.{0}) (Q0o @QZU.{0} @QY6.{0})) (Q0o (Q0o @QY5.{0} @QZI.{0}) (Q0o @Am.Qc.eq_1 (Q0o @QZJ @Am.Zm.eq_1)))) (Q0o (Q0o (Q0o @Am.Zm.eq_2 @Am.Zm.eq_3) (Q0o @Am.Zm.eq_4 @Am.Zm.eq_5)) (Q0o (Q0o @Am.Zm.eq_6 @Am.Jx.eq_1) (Q0o @Am.Jx.eq_2 (Q0o @Am.Xg.eq_1 @Am.Xg.eq_2)))))) (Q0o (Q0o (Q0o (Q0o (Q0o @Am.Xg.eq_3 @Am.Xg.eq_4) (Q0o @Am.Xg.eq_5 @Am.Xg.eq_6)) (Q0o (Q0o @Am.Xg.eq_7 @Am.Hm.eq_1) (Q0o @Am.Hm.eq_2 (Q0o @Am.Hm.eq_3 @Am.Gl.eq_1)))) (Q0o (Q0o (Q0o @Am.Gl.eq_2 @Am.Gl.eq_3) (Q0o @Am.Gl.eq_4 @Am.QOD)) (Q0o (Q0o @Am.Rl @Am.Rm) (Q0o @Am.Rn (Q0o @Am.MM @Am.Ro))))) (Q0o (Q0o (Q0o (Q0o @Am.MN @Am.MO) (Q0o @Am.MP @Am.MQ)) (Q0o (Q0o @Am.MS @Am.Rp) (Q0o @Am.Rq (Q0o @Am.Rr @Am.Rs)))) (Q0o (Q0o (Q0o @Am.MT @Am.Rt) (Q0o @Am.MU (Q0o @Am.VU @Am.Ru))) (Q0o (Q0o @Am.MX @Am.Hu) (Q0o @Am.VW (Q0o @Am.MY @QZG.{0,0})))))))))

def B2:=(Q0o (Q0o (Q0o @Am.Q8.eq_1 (Q0o @Am.Q8.eq_2 @Am.Q8.eq_3)) (Q0o (Q0o @Am.Q5.eq_1 @Am.Q5.eq_2) (Q0o @Am.Q5.eq_3 @Am.Q5.eq_4))) (Q0o (Q0o (Q0o @Am.Qh.eq_1 @Am.Qh.eq_2) (Q0o @Am.Qh.eq_3 @Am.put.eq_1)) (Q0o (Q0o @Am.put.eq_2 @Am.put.eq_3) (Q0o @Am.AV.cells.eq_1 @Am.AV.cells.eq_2))))

def eE := Q0o Qa B2

end Go.Proofs.YtafhmlkilcmniaaGreatDoor.Am

namespace Go.Proofs.YtafhmlkilcmniaaGreatDoor.Rc
open Go Am
abbrev ja (a b:Nat):Am.Item:=⟨some a,.val (.mov (.t b)),none⟩
abbrev jb (a b c:Nat):Am.Item:=⟨some a,.val (.faddr b (.t c)),none⟩
abbrev jc (a b:Nat):Am.Item:=⟨some a,.val (.load none (.t b)),none⟩
abbrev jd (a:Nat)(b:Int):Am.Item:=⟨some a,.val (.mov (.c (.int .i64 b))),none⟩
abbrev je (a b c:Nat):Am.Item:=⟨some a,.val (.load (some b) (.t c)),none⟩
abbrev jf (a b c:Nat):Am.Item:=⟨some a,.boxN b (.t c),none⟩
abbrev jg (a:Nat):Am.Item:=⟨some a,.val (.mov (.c (.bool false))),none⟩
abbrev jh (a b c:Nat):Am.Item:=⟨some a,.val (.len b (.t c)),none⟩
abbrev ji (a b c:Nat):Am.Item:=⟨none,.store a (.t b) (.t c),none⟩
abbrev jj (a b c:Nat):Am.Item:=⟨some a,.val (.pick (.t b) (.t c) (.c (.bool false))),none⟩
abbrev jk (a b c:Nat):Am.Item:=⟨some a,.val (.mov (.t b)),some (c,true)⟩
abbrev jl (a b c d:Nat):Am.Item:=⟨some a,.val (.faddr b (.t c)),some (d,true)⟩
abbrev jm (a b c d:Nat):Am.Item:=⟨some a,.val (.iaddr b none (.t c) (.t d)),none⟩
abbrev jn (a b:Nat)(c:Int):Am.Item:=⟨some a,.val (.bin .num .add (.t b) (.c (.int .i64 c))),none⟩
abbrev jo (a b c:Nat):Am.Item:=⟨some a,.val (.bin .num .lss (.t b) (.t c)),none⟩
abbrev jp (a b c:Nat):Am.Item:=⟨some a,.val (.load none (.t b)),some (c,true)⟩
abbrev jq (a b c d:Nat):Am.Item:=⟨some a,.call (.f b) [(.t c),(.t d)],none⟩
abbrev jr (a b c:Nat):Am.Item:=⟨some a,.call (.f b) [(.t c)],none⟩
abbrev js (a b:Nat)(c:Int):Am.Item:=⟨some a,.val (.bin .num .eql (.t b) (.c (.int .i64 c))),none⟩
abbrev jt (a b c:Nat):Am.Item:=⟨some a,.val (.pick (.t b) (.c (.bool true)) (.t c)),none⟩
abbrev ju (a b c d:Nat):Am.Item:=⟨some a,.val (.faddr b (.t c)),some (d,false)⟩
abbrev jv (a b c:Nat):Am.Item:=⟨some a,.val (.ext (.t b) c),none⟩
abbrev jw (a b c:Nat):Am.Item:=⟨some a,.val (.mov (.t b)),some (c,false)⟩
abbrev jx (a b c d:Nat):Am.Item:=⟨some a,.val (.loadv b c none (.t d)),none⟩
abbrev jy (a b c d e:Nat):Am.Item:=⟨some a,.val (.loadv b c (some d) (.t e)),none⟩
abbrev jz (a b c:Nat):Am.Item:=⟨some a,.val (.load none (.t b)),some (c,false)⟩
abbrev ya (a b:Nat)(c:Int):Am.Item:=⟨some a,.val (.bin .num .neq (.t b) (.c (.int .i64 c))),none⟩
abbrev yb (a b:Nat):Am.Item:=⟨some a,.val (.un .not (.t b)),none⟩
abbrev yc (a b c d:Nat):Am.Item:=⟨some a,.val (.len b (.t c)),some (d,true)⟩
abbrev yd (a:Nat):Am.Item:=⟨some a,.val (.mov (.c (.nils))),none⟩
abbrev ye (a b c d:Nat)(e:Int):Am.Item:=⟨some a,.callF (.f b) [(.t c),(.t d),(.c (.int .i64 e))],none⟩
abbrev yf (a b c d e f:Nat):Am.Item:=⟨some a,.app b c d (.t e) (.t f),none⟩
abbrev yg (a:Nat):Am.Item:=⟨some a,.val (.mov (.c (.bool true))),none⟩
abbrev yh (a b c d:Nat):Am.Item:=⟨some a,.callF (.f b) [(.t c),(.t d)],none⟩
abbrev yi (a b:Nat):Am.Item:=⟨some a,.allocN b [.int .i64 0,.int .u64 0,.str [],.nils,.nils,.nils,.nils],none⟩
abbrev yj (a b:Nat)(c:Int):Am.Item:=⟨some a,.val (.bin .num .geq (.t b) (.c (.int .i64 c))),none⟩
abbrev yk (a b:Nat)(c:Int):Am.Item:=⟨some a,.val (.bin .num .lss (.t b) (.c (.int .i64 c))),none⟩
abbrev yl (a b:Nat)(c:Int):Am.Item:=⟨some a,.val (.bin .num .gtr (.t b) (.c (.int .i64 c))),none⟩
abbrev ym (a b:Nat)(c:Int)(d:Nat):Am.Item:=⟨some a,.val (.bin .num .leq (.t b) (.c (.int .i64 c))),some (d,true)⟩
abbrev yn (a b c:Nat):Am.Item:=⟨some a,.val (.un .not (.t b)),some (c,true)⟩
abbrev yo (a b:Nat):Am.Item:=⟨some a,.val (.nilck (.t b)),none⟩
abbrev yp (a b c:Nat):Am.Item:=⟨some a,.val (.loadr (some b) (.t c)),none⟩
abbrev yq (a b c d:Nat):Am.Item:=⟨some a,.call (.f b) [(.t c)],some (d,false)⟩
abbrev yr (a b c d e:Nat):Am.Item:=⟨some a,.call (.f b) [(.t c),(.t d),(.t e)],none⟩
abbrev ys (a b c d:Nat)(e f:Int):Am.Item:=⟨some a,.callF (.f b) [(.t c),(.t d),(.c (.int .i64 e)),(.c (.int .i64 f))],none⟩
abbrev yt (a b:Nat)(c:Int)(d:Nat):Am.Item:=⟨some a,.val (.bin .num .eql (.t b) (.c (.int .i64 c))),some (d,true)⟩
abbrev yu (a b c:Nat):Am.Item:=⟨some a,.val (.bin .num .add (.t b) (.t c)),none⟩
abbrev yv (a b c:Nat):Am.Item:=⟨some a,.val (.bin .str .eql (.t b) (.t c)),none⟩
abbrev yw (a b c d e:Nat):Am.Item:=⟨some a,.val (.loadv b c none (.t d)),some (e,false)⟩
abbrev yx (a b:Nat):Am.Item:=⟨some a,.allocN b [.int .i64 0,.str [],.int .i64 0,.int .i64 0,.int .i64 0,.str [],.str [],.bool false,.int .i64 0,.int .u64 0,.str [],.nils,.nils,.nils,.nils,.nils],none⟩
abbrev yy (a b c d:Nat):Am.Item:=⟨some a,.val (.pick (.t b) (.t c) (.c (.bool false))),some (d,false)⟩
abbrev yz (a b c:Nat):Am.Item:=⟨some a,.val (.mkfn (.func b) [] [(.t c)]),none⟩
abbrev za (a b c d e:Nat):Am.Item:=⟨none,.storev a b c (.t d) (.t e),none⟩
abbrev zb (a b:Nat):Am.Item:=⟨some a,.allocN b [.str [],.nils,.nils,.nils,.nils],none⟩
abbrev zd (a b c d e:Nat)(f:Int):Am.Item:=⟨some a,.callF (.f b) [(.t c),(.t d),(.t e),(.c (.int .i64 f))],none⟩
abbrev ze (a b c:Nat):Am.Item:=⟨some a,.val (.bin .num .eql (.t b) (.t c)),none⟩
abbrev zf (a b:Nat)(c:Int)(d:Nat):Am.Item:=⟨some a,.val (.bin .num .eql (.t b) (.c (.int .i64 c))),some (d,false)⟩
abbrev zg (a b:Nat)(c:Int)(d:Nat):Am.Item:=⟨some a,.val (.bin .num .gtr (.t b) (.c (.int .i64 c))),some (d,false)⟩
abbrev zh (a b c:Nat):Am.Item:=⟨some a,.val (.un .not (.t b)),some (c,false)⟩
abbrev zi (a b c:Nat):Am.Item:=⟨some a,.callF (.t b) [(.t c)],none⟩
abbrev zj (a b c d:Nat):Am.Item:=⟨some a,.val (.load (some b) (.t c)),some (d,false)⟩
abbrev zk (a b:Nat):Am.Item:=⟨some a,.allocN b [.str [],.bool false,.nils,.nils,.nils],none⟩
abbrev zl (a b:Nat):Am.Item:=⟨some a,.val (.loadr none (.t b)),none⟩
abbrev zm (a b c d:Nat):Am.Item:=⟨some a,.val (.load (some b) (.t c)),some (d,true)⟩
abbrev zn (a b c d e f:Nat):Am.Item:=⟨some a,.call (.f b) [(.t c),(.t d),(.t e),(.t f)],none⟩
abbrev zo (a b c:Nat):Am.Item:=⟨some a,.val (.bin .num .neq (.t b) (.t c)),none⟩
abbrev zp (a b c d:Nat):Am.Item:=⟨some a,.val (.bin .num .add (.t b) (.t c)),some (d,true)⟩
abbrev zq (a b c d e:Nat):Am.Item:=⟨some a,.val (.iaddr b none (.t c) (.t d)),some (e,true)⟩
abbrev zs (a b:Nat):Am.Item:=⟨some a,.val (.cvi .i32 (.t b)),none⟩
abbrev zt (a b c d:Nat):Am.Item:=⟨some a,.val (.len b (.t c)),some (d,false)⟩
abbrev zu (a b:Nat)(c:Int):Am.Item:=⟨some a,.val (.bin .num .leq (.t b) (.c (.int .i64 c))),none⟩
abbrev zv (a b c d e:Nat):Am.Item:=⟨some a,.val (.iaddr b none (.t c) (.t d)),some (e,false)⟩
abbrev zw (a b c d e f:Nat):Am.Item:=⟨some a,.val (.loadv b c (some d) (.t e)),some (f,false)⟩
abbrev zx (a b:Nat)(c:Int)(d:Nat):Am.Item:=⟨some a,.val (.bin .num .add (.t b) (.c (.int .i64 c))),some (d,true)⟩
abbrev zy (a b c d:Nat):Am.Item:=⟨some a,.call (.f b) [(.t c)],some (d,true)⟩
abbrev zz (a b c d:Nat):Am.Item:=⟨some a,.val (.slc (some b) (.t c) none (some (.t d)) none),none⟩
abbrev HA (a b c d e:Nat):Am.Item:=⟨some a,.call (.f b) [(.t c),(.t d)],some (e,false)⟩
abbrev HB (a b c:Nat):Am.Item:=⟨some a,.val (.loadr none (.t b)),some (c,false)⟩
abbrev HC (a b:Nat)(c:Int):Am.Item:=⟨some a,.val (.idx (.t b) (.c (.int .i64 c))),none⟩
abbrev HD (a b c:Nat):Am.Item:=⟨some a,.val (.idx (.t b) (.t c)),none⟩
abbrev HE (a b:Nat)(c:Int):Am.Item:=⟨some a,.val (.bin .num .and (.t b) (.c (.int .u8 c))),none⟩
abbrev HF (a b c:Nat):Am.Item:=⟨some a,.val (.loadr none (.t b)),some (c,true)⟩
abbrev GR (a:Nat):Am.Item:=⟨some a,.val (.mov (.c (.str []))),none⟩
abbrev GS (a b c d e:Nat):Am.Item:=⟨some a,.val (.loadv b c none (.t d)),some (e,true)⟩
abbrev FI (a b:Nat):Am.Item:=⟨some a,.allocN b [.int .i64 0,.int .u64 0,.str [],.nils,.nils,.nils,.nils,.int .i64 0,.int .u64 0,.str [],.nils,.nils,.nils,.nils],none⟩
abbrev FJ (a b:Nat):Am.Item:=⟨some a,.allocN b [.int .i64 0,.str [],.str [],.int .i64 0,.int .i64 0,.int .i64 0,.int .i64 0,.int .i64 0],none⟩
abbrev FK (a b:Nat)(c:Int)(d:Nat):Am.Item:=⟨some a,.val (.bin .num .neq (.t b) (.c (.int .i64 c))),some (d,true)⟩
abbrev FL (a b:Nat)(c:Int)(d:Nat):Am.Item:=⟨some a,.val (.bin .num .gtr (.t b) (.c (.int .i64 c))),some (d,true)⟩
abbrev FM (a b c d:Nat):Am.Item:=⟨some a,.val (.bin .str .eql (.t b) (.t c)),some (d,true)⟩
abbrev FN (a b:Nat)(c:Int):Am.Item:=⟨some a,.val (.bin .num .eql (.t b) (.c (.int .u64 c))),none⟩
abbrev FP (a b c d e f:Nat):Am.Item:=⟨some a,.bsl b c [.str []] [(d,e,(.t f))],none⟩
abbrev FQ (a b c d:Nat):Am.Item:=⟨some a,.val (.bin .num .leq (.t b) (.t c)),some (d,true)⟩
abbrev B3 (a b:Nat):Am.Item:=⟨some a,.allocN b [.int .i64 0,.int .i64 0,.int .u64 0,.str [],.nils,.nils,.nils,.nils],none⟩
abbrev B4 (a b c:Nat):Am.Item:=⟨some a,.val (.bin .num .geq (.t b) (.t c)),none⟩
abbrev B5 (a b:Nat)(c:Int):Am.Item:=⟨some a,.val (.bin .num .sub (.t b) (.c (.int .i64 c))),none⟩
abbrev B6 (a:Nat)(b:Int):Am.Item:=⟨some a,.val (.mov (.c (.int .i32 b))),none⟩
abbrev B7 (a b:Nat)(c:Int):Am.Item:=⟨some a,.val (.bin .num .shl (.t b) (.c (.int .u64 c))),none⟩
abbrev B8 (a b c:Nat):Am.Item:=⟨some a,.val (.bin .num .or (.t b) (.t c)),none⟩
abbrev B9 (a b c d:Nat):Am.Item:=⟨some a,.val (.bin .num .lss (.t b) (.t c)),some (d,true)⟩
abbrev Na (a b c d:Nat)(e:Int)(f:Nat):Am.Item:=⟨some a,.call (.f b) [(.t c),(.t d),(.c (.int .i64 e))],some (f,true)⟩
abbrev Cb (a b:Nat):Am.Item:=⟨some a,.allocN b [.nils,.nils],none⟩
abbrev Cc (a b c:Nat):Am.Item:=⟨some a,.callF (.f b) [(.t c)],none⟩
abbrev Cd (a b:Nat):Am.Item:=⟨some a,.isnil false (.t b),none⟩
abbrev Ce (a:Nat)(b:Int):Am.Item:=⟨some a,.val (.mov (.c (.int .u64 b))),none⟩
abbrev Cf (a b:Nat):Am.Item:=⟨some a,.val (.bin .str .eql (.t b) (.c (.str []))),none⟩
abbrev Cg (a b c:Nat):Am.Item:=⟨some a,.val (.bin .num .gtr (.t b) (.t c)),none⟩
abbrev Ch (a b:Nat)(c:Int)(d:Nat):Am.Item:=⟨some a,.val (.bin .num .sub (.t b) (.c (.int .i64 c))),some (d,false)⟩
abbrev Ci (a b c d e:Nat):Am.Item:=⟨some a,.call (.f b) [(.t c),(.t d)],some (e,true)⟩
abbrev Cj (a b c:Nat):Am.Item:=⟨some a,.val (.slc none (.t b) (some (.t c)) none none),none⟩
abbrev Ck (a:Nat)(b:Int):Am.Item:=⟨some a,.val (.mov (.c (.int .u32 b))),none⟩
abbrev Cl (a b c d:Nat):Am.Item:=⟨some a,.val (.bin .num .gtr (.t b) (.t c)),some (d,false)⟩
abbrev Cm (a b:Nat)(c:Int):Am.Item:=⟨some a,.val (.bin .num .geq (.t b) (.c (.int .u8 c))),none⟩
abbrev Cn (a b c d:Nat)(e:Int):Am.Item:=⟨some a,.val (.iaddr b (some c) (.t d) (.c (.int .i64 e))),none⟩
abbrev Co (a b:Nat)(c:Int)(d:Nat):Am.Item:=⟨some a,.val (.bin .num .sub (.t b) (.c (.int .i64 c))),some (d,true)⟩
abbrev RG (a b c d:Nat):Am.Item:=⟨some a,.val (.pick (.t b) (.c (.bool true)) (.t c)),some (d,true)⟩
abbrev RH (a b c d e f:Nat):Am.Item:=⟨some a,.call (.f b) [(.t c),(.t d),(.t e)],some (f,true)⟩
abbrev RI (a b:Nat):Am.Item:=⟨some a,.val (.cvi .i64 (.t b)),none⟩
abbrev RJ (a b:Nat)(c:Int)(d:Nat):Am.Item:=⟨some a,.val (.bin .num .neq (.t b) (.c (.int .i64 c))),some (d,false)⟩
abbrev RK (a b:Nat):Am.Item:=⟨some a,.val (.loado none (.t b)),none⟩
abbrev RL (a b:Nat)(c:Int)(d:Nat):Am.Item:=⟨some a,.val (.bin .num .leq (.t b) (.c (.int .u8 c))),some (d,true)⟩
abbrev RM (a b:Nat)(c:Int):Am.Item:=⟨some a,.val (.bin .num .eql (.t b) (.c (.int .u8 c))),none⟩
abbrev RN (a b c d:Nat):Am.Item:=⟨some a,.val (.idx (.t b) (.t c)),some (d,true)⟩
abbrev jQ (g:List Am.Item)(c:RC):RC:=.seq (.reg g) c
abbrev jD (g:List Am.Item)(c:RC):RC:=.seq (.draw g) c
abbrev jX (a b:Nat):RC:=.cond (.t a) .skip (.exit b)
abbrev IL:=List Am.Item
abbrev CT (k n:Nat)(r:RC)(o:List RR):Prop:=CK Tryz.prog k n r o
abbrev QEb:IL:=[jg 0]
abbrev QEc:IL:=[⟨some 4,.val (.build [.int .i64 0,.str []] [(0,1,(.c (.int .i64 2)))]),none⟩,⟨some 5,.val (.build [.int .i64 0,.str [],.int .i64 0,.int .i64 0,.int .i64 0,.str [],.str [],.bool false,.int .i64 0,.int .u64 0,.str [],.nils,.nils,.nils,.nils,.nils] [(0,1,(.c (.int .i64 3))),(1,1,(.c (.str [97]))),(2,1,(.c (.int .i64 1))),(4,2,(.t 4))]),none⟩,yx 1 1,ji 16 1 5]
abbrev QEd:IL:=[je 7 16 1,⟨some 8,.bsl 16 1 [.int .i64 0,.str [],.int .i64 0,.int .i64 0,.int .i64 0,.str [],.str [],.bool false,.int .i64 0,.int .u64 0,.str [],.nils,.nils,.nils,.nils,.nils] [(0,16,(.t 7))],none⟩,⟨some 9,.val (.build [.str [],.nils,.nils,.nils,.nils] [(0,1,(.c (.str [77]))),(1,1,(.t 8))]),none⟩,⟨some 10,.bsl 5 1 [.str [],.nils,.nils,.nils,.nils] [(0,5,(.t 9))],none⟩,⟨some 11,.val (.build [.nils,.nils,.nils] [(0,1,(.t 10))]),none⟩,jr 12 7 11,ja 6 12,jv 13 6 0,jv 14 6 1,Cb 2 2,ji 2 2 13,ja 3 14]
abbrev QEe:IL:=[ja 15 3,js 16 15 0,ja 17 16,jl 18 0 2 17,jp 19 18 17,yc 20 1 19 17,yt 21 20 1 17,jj 22 17 21,ja 23 22,zm 24 2 2 23,⟨some 25,.val (.build [.int .i64 0,.int .u64 0,.str [],.nils,.nils,.nils,.nils] [(0,1,(.c (.int .i64 10)))]),(some (23,true))⟩,⟨some 26,.call (.f 10) [(.t 24),(.c (.int .i64 0)),(.t 25)],(some (23,true))⟩,yt 27 26 14 23,jj 28 23 27,ja 29 28,jl 30 0 2 29,jp 31 30 29,⟨some 32,.val (.iaddr 3 none (.t 31) (.c (.int .i64 0))),(some (29,true))⟩,jl 33 1 32 29,jp 34 33 29,⟨some 35,.val (.iaddr 8 none (.t 34) (.c (.int .i64 0))),(some (29,true))⟩,zm 36 8 35 29,zy 37 26 36 29,yt 38 37 1 29,jj 39 29 38,ja 0 39]
abbrev r11:RC:=jQ QEb (jQ QEc (jQ QEd (jQ QEe (.ret))))
abbrev o11:List RR:=[.tmp 0]
theorem k11:CT 11 40 r11 o11:=ck Tryz.func11 Tryz.ntmps11 (by decide +kernel)
abbrev QEf:IL:=[jf 1 1 0,jd 2 0]
abbrev QEg:IL:=[jb 4 3 1,jc 5 4,js 6 5 5,ja 3 6]
abbrev QEh:IL:=[jd 2 6]
abbrev QEi:IL:=[je 8 8 1,jr 9 67 8,ja 7 9]
abbrev QEj:IL:=[jd 2 5]
abbrev QEk:IL:=[jb 10 5 1,jc 11 10]
abbrev QEl:IL:=[js 13 11 1,ja 12 13]
abbrev QEm:IL:=[js 14 11 4,ja 12 14]
abbrev QEn:IL:=[js 15 11 5,ja 12 15]
abbrev QEo:IL:=[js 16 11 9,ja 12 16]
abbrev QgF:IL:=[jd 2 0]
abbrev QgG:IL:=[js 18 11 2,ja 17 18]
abbrev QgH:IL:=[js 19 11 3,ja 17 19]
abbrev QgI:IL:=[jd 2 1]
abbrev QgJ:IL:=[js 21 11 6,ja 20 21]
abbrev QgK:IL:=[jd 2 2]
abbrev QgL:IL:=[js 23 11 7,ja 22 23]
abbrev QgM:IL:=[js 24 11 8,ja 22 24]
abbrev QgN:IL:=[jd 2 3]
abbrev QgO:IL:=[js 26 11 10,ja 25 26]
abbrev QgP:IL:=[jd 2 4]
abbrev QgQ:IL:=[jd 2 (-1)]
abbrev r26:RC:=jQ QEf (.seq (.block 0 (jQ QEg (.cond (.t 3) (jQ QEh (.ret)) (jQ QEi (.cond (.t 7) (jQ QEj (.ret)) (.skip)))))) (.seq (jQ QEk (.block 1 (.seq (jQ QEl (.cond (.t 12) (.skip) (jQ QEm (.cond (.t 12) (.skip) (jQ QEn (.cond (.t 12) (.skip) (.reg QEo))))))) (.cond (.t 12) (jQ QgF (.ret)) (.seq (jQ QgG (.cond (.t 17) (.skip) (.reg QgH))) (.cond (.t 17) (jQ QgI (.ret)) (jQ QgJ (.cond (.t 20) (jQ QgK (.ret)) (.seq (jQ QgL (.cond (.t 22) (.skip) (.reg QgM))) (.cond (.t 22) (jQ QgN (.ret)) (jQ QgO (.cond (.t 25) (jQ QgP (.ret)) (.skip))))))))))))) (jQ QgQ (.ret))))
abbrev o26:List RR:=[.tmp 2]
theorem k26:CT 26 27 r26 o26:=ck Tryz.func26 Tryz.ntmps26 (by decide +kernel)
abbrev QEp:IL:=[jf 1 1 0,jg 2]
abbrev QEq:IL:=[jb 3 3 1,jc 4 3,js 5 4 4,ja 6 5,jl 7 5 1 6,jp 8 7 6,⟨some 9,.val (.bin .num .geq (.t 8) (.c (.int .i64 1))),(some (6,true))⟩,jk 10 9 6,jl 11 5 1 10,jp 12 11 10,ym 13 12 6 10,⟨some 14,.val (.pick (.t 10) (.t 13) (.c (.bool false))),(some (6,true))⟩,jk 15 14 6,ju 16 5 1 15,jz 17 16 15,zf 18 17 9 15,RG 19 15 18 6,jj 20 6 19,ja 2 20]
abbrev r67:RC:=jQ QEp (jQ QEq (.ret))
abbrev o67:List RR:=[.tmp 2]
theorem k67:CT 67 21 r67 o67:=ck Tryz.func67 Tryz.ntmps67 (by decide +kernel)
abbrev QEr:IL:=[jf 3 3 0,jf 5 5 2,jd 6 0]
abbrev QEs:IL:=[ja 8 1,yk 9 8 0,ja 10 9,jw 11 1 10,ju 12 0 3 10,jz 13 12 10,zt 14 1 13 10,⟨some 15,.val (.bin .num .geq (.t 11) (.t 14)),(some (10,false))⟩,jt 16 10 15]
abbrev QEt:IL:=[jd 6 10]
abbrev QEu:IL:=[jy 17 0 3 2 3,⟨some 18,.val (.build [.nils,.nils] [(0,2,(.t 17))]),none⟩,jb 19 0 3,jx 20 0 3 19,ja 21 1,jm 22 3 20 21,yp 23 3 22,jy 24 0 5 7 5,⟨some 25,.call (.f 25) [(.t 18),(.t 23),(.t 24),(.c (.int .i64 1))],none⟩,ja 7 25]
abbrev QEv:IL:=[ja 26 7,ya 27 26 0]
abbrev QEw:IL:=[ja 28 7,ja 6 28]
abbrev QEx:IL:=[je 29 7 5,jr 30 24 29,yl 31 30 4096]
abbrev QEy:IL:=[jd 6 3]
abbrev QEz:IL:=[jd 6 0]
abbrev HG:RC:=jQ QEr (.seq (jQ QEs (.cond (.t 16) (jQ QEt (.ret)) (.skip))) (.seq (jD QEu (jQ QEv (.cond (.t 27) (jQ QEw (.ret)) (.skip)))) (.seq (jQ QEx (.cond (.t 31) (jQ QEy (.ret)) (.skip))) (jQ QEz (.ret)))))
abbrev X0:List RR:=[.tmp 6]
theorem FR:CT 10 32 HG X0:=ck Tryz.func10 Tryz.ntmps10 (by decide +kernel)
abbrev QEA:IL:=[jf 1 1 0,jd 2 0]
abbrev QEB:IL:=[jb 6 6 1,jc 7 6,jh 8 1 7,⟨some 9,.val (.bin .num .add (.c (.int .i64 1)) (.t 8)),none⟩,ja 3 9]
abbrev QEC:IL:=[je 10 7 1,jr 11 61 10,jh 12 1 11,jd 13 0]
abbrev QED:IL:=[jo 14 13 12]
abbrev QEE:IL:=[jm 15 7 11 13,je 16 7 15,yi 5 5,ji 7 5 16]
abbrev QEF:IL:=[ja 17 3,je 18 7 5,jr 19 24 18,yu 20 17 19,ja 3 20]
abbrev QEG:IL:=[jn 21 13 1,ja 13 21]
abbrev QEH:RC:=.gho (.drop 5) (jQ QED (.seq (jX 14 0) (.seq (.block 1 (jQ QEE (.reg QEF))) (.reg QEG))))
abbrev QEI:IL:=[ja 22 3,ja 2 22]
abbrev r24:RC:=jQ QEA (jQ QEB (.seq (jQ QEC (.block 0 (.loop QEH))) (jQ QEI (.ret))))
abbrev o24:List RR:=[.tmp 2]
theorem k24:CT 24 23 r24 o24:=ck Tryz.func24 Tryz.ntmps24 (by decide +kernel)
abbrev QEJ:IL:=[jf 1 1 0,yd 2]
abbrev QEK:IL:=[jb 8 3 1,jc 9 8,Cc 10 115 9,ja 3 10]
abbrev QEL:IL:=[jb 11 4 1,jc 12 11,jh 13 1 12,jd 14 0]
abbrev QEM:IL:=[jo 15 14 13]
abbrev QEN:IL:=[jm 16 14 12 14,je 17 14 16,FI 5 5,ji 14 5 17]
abbrev QEO:IL:=[ja 18 3,jb 19 0 5,je 20 7 19,jb 21 7 5,je 22 7 21,⟨some 23,.bsl 7 2 [.int .i64 0,.int .u64 0,.str [],.nils,.nils,.nils,.nils] [(0,7,(.t 20)),(7,7,(.t 22))],none⟩,yf 24 7 128 33 18 23,ja 3 24]
abbrev QEP:IL:=[jn 25 14 1,ja 14 25]
abbrev QEQ:RC:=.gho (.drop 5) (jQ QEM (.seq (jX 15 0) (.seq (.block 1 (jQ QEN (.reg QEO))) (.reg QEP))))
abbrev QER:IL:=[jb 26 5 1,jc 27 26,jh 28 1 27,jd 29 0]
abbrev QES:IL:=[jo 30 29 28]
abbrev QET:IL:=[jm 31 8 27 29,je 32 8 31,B3 7 7,ji 8 7 32]
abbrev QgR:IL:=[ja 33 3,jb 34 1 7,je 35 7 34,⟨some 36,.bsl 7 1 [.int .i64 0,.int .u64 0,.str [],.nils,.nils,.nils,.nils] [(0,7,(.t 35))],none⟩,yf 37 7 128 33 33 36,ja 3 37]
abbrev QgS:IL:=[jn 38 29 1,ja 29 38]
abbrev QEU:RC:=.gho (.drop 7) (jQ QES (.seq (jX 30 2) (.seq (.block 3 (jQ QET (.reg QgR))) (.reg QgS))))
abbrev QgT:IL:=[ja 39 3,ja 2 39]
abbrev r61:RC:=jQ QEJ (jQ QEK (.seq (jQ QEL (.block 0 (.loop QEQ))) (.seq (jQ QER (.block 2 (.loop QEU))) (jQ QgT (.ret)))))
abbrev o61:List RR:=[.tmp 2]
theorem k61:CT 61 40 r61 o61:=ck Tryz.func61 Tryz.ntmps61 (by decide +kernel)
def RP:IL:=[yd 2]
def RQ:IL:=[ja 3 0,Cd 4 3]
def RS:IL:=[yd 2]
def RT:IL:=[⟨some 5,.bsl0 5 7,none⟩,ja 6 0,yf 7 7 128 33 5 6,ja 2 7]
def Ep:RC:=jQ RP (.seq (jQ RQ (.cond (.t 4) (jQ RS (.gho (.vec 2 2 7) (.gho (.give 2 2 1 1000) (.ret)))) (.skip))) (jQ RT (.gho (.give 2 5 1 1000) (.ret))))
def M6:List RR:=[.tmp 2]
theorem QgU:CT 115 8 Ep M6:=ck Tryz.func115 Tryz.ntmps115 (by decide +kernel)
abbrev QEV:IL:=[jf 4 4 0,jf 5 5 1,jf 6 6 2,jd 8 0]
abbrev QEW:IL:=[jb 17 0 6,jc 18 17,ya 19 18 10,ja 20 19,zj 21 7 6 20,yq 22 62 21 20,jt 23 20 22,ja 16 23]
abbrev QEX:IL:=[jd 8 12]
abbrev QEY:IL:=[ja 25 3,yl 26 25 16,ja 24 26]
abbrev QEZ:IL:=[jd 8 17]
abbrev QE0:IL:=[jb 27 5 6,jc 28 27,jh 29 1 28,jd 30 0]
abbrev QE1:IL:=[jo 31 30 29]
abbrev QE2:IL:=[ja 32 30,ja 9 32]
abbrev QE3:IL:=[je 33 2 4,je 34 3 5,jb 35 5 6,jc 36 35,ja 37 9,ja 38 3,⟨some 39,.call (.f 63) [(.t 33),(.t 34),(.t 36),(.t 37),(.t 38)],none⟩,ja 10 39]
abbrev QE4:IL:=[ja 40 10,ya 41 40 0]
abbrev QgV:IL:=[ja 42 10,ja 8 42]
abbrev QgW:IL:=[jn 43 30 1,ja 30 43]
abbrev IS:RC:=jQ QE1 (.seq (jX 31 1) (.seq (.block 2 (jQ QE2 (jQ QE3 (jQ QE4 (.cond (.t 41) (jQ QgV (.ret)) (.skip)))))) (.reg QgW)))
abbrev QgX:IL:=[jb 44 1 5,jc 45 44,jh 46 1 45,jd 47 0]
abbrev QgY:IL:=[jo 48 47 46]
abbrev QgZ:IL:=[jm 49 8 45 47,je 50 8 49,FJ 12 12,ji 8 12 50]
abbrev Qg0:IL:=[jb 51 3 12,jc 52 51,js 53 52 1,ja 54 53,jl 55 5 6 54,jp 56 55 54,⟨some 57,.val (.mkfn (.func 65) [] [(.t 12)]),(some (54,true))⟩,⟨some 58,.callF (.f 64) [(.t 56),(.t 57)],(some (54,true))⟩,yn 59 58 54,jj 60 54 59]
abbrev Qg1:IL:=[jd 8 14]
abbrev Qg2:IL:=[jn 61 47 1,ja 47 61]
abbrev IU:RC:=.gho (.drop 12) (jQ QgY (.seq (jX 48 3) (.seq (.block 4 (jQ QgZ (jQ Qg0 (.cond (.t 60) (jQ Qg1 (.ret)) (.skip))))) (.reg Qg2))))
abbrev Qg3:IL:=[jb 62 6 6,jc 63 62,jh 64 1 63,jd 65 0]
abbrev Qg4:IL:=[jo 66 65 64]
abbrev Qg5:IL:=[jm 67 4 63 65,je 68 4 67,⟨some 14,.allocN 14 [.int .i64 0,.int .i64 0,.int .u64 0,.str []],none⟩,ji 4 14 68]
abbrev Qg6:IL:=[je 69 2 4,je 70 3 5,je 71 4 14,yr 72 66 69 70 71,ja 15 72]
abbrev Qg7:IL:=[ja 73 15,ya 74 73 0]
abbrev Qg8:IL:=[ja 75 15,ja 8 75]
abbrev Qg9:IL:=[jn 76 65 1,ja 65 76]
abbrev IV:RC:=.gho (.drop 14) (jQ Qg4 (.seq (jX 66 5) (.seq (.block 6 (jQ Qg5 (jQ Qg6 (jQ Qg7 (.cond (.t 74) (jQ Qg8 (.ret)) (.skip)))))) (.reg Qg9))))
abbrev Qha:IL:=[jd 8 0]
abbrev r25:RC:=jQ QEV (.seq (.block 0 (jQ QEW (.cond (.t 16) (jQ QEX (.ret)) (jQ QEY (.cond (.t 24) (jQ QEZ (.ret)) (.skip)))))) (.seq (jQ QE0 (.block 1 (.loop IS))) (.seq (jQ QgX (.block 3 (.loop IU))) (.seq (jQ Qg3 (.block 5 (.loop IV))) (jQ Qha (.ret))))))
abbrev o25:List RR:=[.tmp 8]
theorem k25:CT 25 77 r25 o25:=ck Tryz.func25 Tryz.ntmps25 (by decide +kernel)
def IW:IL:=[jf 3 3 0,jf 4 4 1,jf 5 5 2,jd 6 0]
def IX:IL:=[jb 11 1 5,jc 12 11,zu 13 12 2,ja 7 13]
def IY:IL:=[je 15 3 4,jb 16 0 5,jc 17 16,jq 18 30 15 17,ja 14 18,jv 19 14 0,jv 20 14 1,FJ 8 8,ji 8 8 19,ja 9 20]
def YX:IL:=[jb 21 5 8,jc 22 21,js 23 22 9,ja 24 23,jl 25 3 8 24,jp 26 25 24,FK 27 26 5 24,jj 28 24 27,ja 29 28,jl 30 1 5 29,jp 31 30 29,yt 32 31 0 29,jj 33 29 32,ja 34 33,jl 35 2 5 34,jp 36 35 34,⟨some 37,.val (.bin .num .leq (.t 36) (.c (.int .u64 2147483647))),(some (34,true))⟩,jj 38 34 37,ja 39 38,jl 40 0 3 39,zm 41 2 40 39,jl 42 6 8 39,jp 43 42 39,jl 44 2 5 39,jp 45 44 39,RH 46 119 41 43 45 39,yn 47 46 39,jj 48 39 47,ja 10 48]
def IZ:IL:=[jb 50 0 5,jc 51 50,yk 52 51 1,ja 53 52,ju 54 0 5 53,jz 55 54 53,zg 56 55 65535 53,jt 57 53 56,ja 58 57,ju 59 1 5 58,jz 60 59 58,⟨some 61,.val (.bin .num .lss (.t 60) (.c (.int .i64 0))),(some (58,false))⟩,jt 62 58 61,ja 63 62,ju 64 1 5 63,jz 65 64 63,zg 66 65 6 63,jt 67 63 66,ja 49 67]
def GT:IL:=[jd 6 1]
def I0:IL:=[ja 69 7,ja 70 69,jl 71 3 5 70,jp 72 71 70,⟨some 73,.val (.bin .str .neq (.t 72) (.c (.str []))),(some (70,true))⟩,jj 74 70 73,ja 75 74,jw 76 7 75,zh 77 76 75,jw 78 77 75,jl 79 2 5 78,jp 80 79 78,⟨some 81,.val (.bin .num .neq (.t 80) (.c (.int .u64 0))),(some (78,true))⟩,yy 82 78 81 75,jt 83 75 82,ja 84 83,jw 85 9 84,jw 86 85 84,jk 87 10 86,yn 88 87 86,yy 89 86 88 84,jt 90 84 89,ja 68 90]
def GU:IL:=[jd 6 1]
def M7:IL:=[jb 92 1 5,jc 93 92,js 94 93 3,ja 95 94,jl 96 3 5 95,jp 97 96 95,yc 98 0 97 95,FL 99 98 4096 95,jj 100 95 99,ja 101 100,ju 102 3 5 101,jz 103 102 101,zt 104 0 103 101,zg 105 104 65536 101,jt 106 101 105,ja 91 106]
def M8:IL:=[jd 6 3]
def Nb:IL:=[jd 6 0]
def r66:RC:=jQ IW (jQ IX (jQ IY (jQ YX (.seq (.block 0 (jQ IZ (.cond (.t 49) (jQ GT (.ret)) (jQ I0 (.cond (.t 68) (jQ GU (.ret)) (jQ M7 (.cond (.t 91) (jQ M8 (.ret)) (.skip)))))))) (jQ Nb (.ret))))))
def o66:List RR:=[.tmp 6]
theorem k66:CT 66 107 r66 o66:=ck Tryz.func66 Tryz.ntmps66 (by decide +kernel)
abbrev Qhe:IL:=[jf 3 3 0,jf 5 5 2,jg 6]
abbrev Qhf:IL:=[ja 8 1,yk 9 8 0,ja 10 9,jw 11 1 10,ju 12 1 3 10,jz 13 12 10,zt 14 1 13 10,⟨some 15,.val (.bin .num .geq (.t 11) (.t 14)),(some (10,false))⟩,jt 16 10 15,ja 17 16,jz 18 5 17,⟨some 19,.val (.bin .num .gtr (.t 18) (.c (.int .u64 2147483647))),(some (17,false))⟩,jt 20 17 19]
abbrev Qhg:IL:=[jg 6]
abbrev Qhh:IL:=[jb 21 1 3,jc 22 21,ja 23 1,jm 24 5 22 23,je 25 5 24,zk 7 7,ji 5 7 25]
abbrev Qhi:IL:=[jb 26 1 7,jc 27 26,ja 28 27,ju 29 2 7 28,jz 30 29 28,⟨some 31,.val (.mkfn (.func 175) [] [(.t 5)]),(some (28,false))⟩,⟨some 32,.callF (.f 174) [(.t 30),(.t 31)],(some (28,false))⟩,jt 33 28 32,ja 6 33]
abbrev Qhj:RC:=jQ Qhe (.seq (jQ Qhf (.cond (.t 20) (jQ Qhg (.ret)) (.skip))) (jQ Qhh (jQ Qhi (.ret))))
abbrev Qhk:List RR:=[.tmp 6]
theorem Qhl:CT 119 34 Qhj Qhk:=ck Tryz.func119 Tryz.ntmps119 (by decide +kernel)
abbrev Qhm:IL:=[jg 4]
abbrev Qhn:IL:=[ja 5 0,ja 6 1,yh 7 230 5 6,yj 8 7 0,ja 4 8]
abbrev Qho:RC:=jQ Qhm (jQ Qhn (.ret))
abbrev Qhp:List RR:=[.tmp 4]
theorem Er:CT 174 9 Qho Qhp:=ck Tryz.func174 Tryz.ntmps174 (by decide +kernel)
abbrev Qhq:IL:=[jd 4 0]
abbrev Qhr:IL:=[ja 6 0,jh 7 1 6,jd 8 0]
abbrev Qhs:IL:=[jo 9 8 7]
abbrev Qht:IL:=[ja 10 8,ja 5 10]
abbrev Qhu:IL:=[ja 11 1,ja 12 0,ja 13 5,jm 14 3 12 13,je 15 3 14,zi 16 11 15]
abbrev Qhv:IL:=[ja 17 5,ja 4 17]
abbrev Qhw:IL:=[jn 18 8 1,ja 8 18]
abbrev Qhx:RC:=jQ Qhs (.seq (jX 9 0) (.seq (.block 1 (jQ Qht (jQ Qhu (.cond (.t 16) (jQ Qhv (.ret)) (.skip))))) (.reg Qhw)))
abbrev Qhy:IL:=[jd 4 (-1)]
abbrev Qhz:RC:=jQ Qhq (.seq (jQ Qhr (.block 0 (.loop Qhx))) (jQ Qhy (.ret)))
abbrev QhA:List RR:=[.tmp 4]
theorem Es:CT 230 19 Qhz QhA:=ck Tryz.func230 Tryz.ntmps230 (by decide +kernel)
abbrev QhB:IL:=[jf 2 2 0,jg 3]
abbrev QhC:IL:=[jb 4 1 2,jc 5 4,⟨some 6,.val (.cvi .u64 (.t 5)),none⟩,jc 7 1,ze 8 6 7,ja 3 8]
abbrev QhD:RC:=jQ QhB (jQ QhC (.ret))
abbrev QhE:List RR:=[.tmp 3]
theorem QhF:CT 175 9 QhD QhE:=ck Tryz.func175 Tryz.ntmps175 (by decide +kernel)
abbrev QE5:IL:=[jf 2 2 0,jf 3 3 1,FJ 4 4,jg 5]
abbrev QE6:IL:=[yz 6 72 3,⟨some 7,.val (.build [.nilf] [(0,1,(.t 6))]),none⟩,je 8 3 2,yh 9 73 7 8,jv 10 9 0,jv 11 9 1,ji 8 4 10,ja 5 11]
abbrev r30:RC:=jQ QE5 (jQ QE6 (.ret))
abbrev K8:List RR:=[.cell 4 (some 8),.tmp 5]
theorem k30:CT 30 12 r30 K8:=ck Tryz.func30 Tryz.ntmps30 (by decide +kernel)
abbrev QE7:IL:=[jf 2 2 0,jf 3 3 1,FJ 4 4,jg 5]
abbrev QE8:IL:=[jb 7 1 3,jc 8 7,jb 9 0 2,jc 10 9,yh 11 127 8 10,ja 6 11]
abbrev QE9:IL:=[ja 12 6,yk 13 12 0]
abbrev QFa:IL:=[⟨some 14,.val (.build [.int .i64 0,.str [],.str [],.int .i64 0,.int .i64 0,.int .i64 0,.int .i64 0,.int .i64 0] []),none⟩,ji 8 4 14,jg 5]
abbrev QFb:IL:=[jb 15 1 3,jc 16 15,ja 17 6,jm 18 8 16 17,je 19 8 18,ji 8 4 19,yg 5]
abbrev r73:RC:=jQ QE7 (jQ QE8 (.seq (jQ QE9 (.cond (.t 13) (jQ QFa (.ret)) (.skip))) (jQ QFb (.ret))))
abbrev o73:List RR:=[.cell 4 (some 8),.tmp 5]
theorem k73:CT 73 20 r73 o73:=ck Tryz.func73 Tryz.ntmps73 (by decide +kernel)
abbrev QhG:IL:=[jd 4 0]
abbrev QhH:IL:=[ja 6 0,jh 7 1 6,jd 8 0]
abbrev QhI:IL:=[jo 9 8 7]
abbrev QhJ:IL:=[ja 10 8,ja 5 10]
abbrev QhK:IL:=[ja 11 1,ja 12 0,ja 13 5,jm 14 8 12 13,je 15 8 14,zi 16 11 15]
abbrev QhL:IL:=[ja 17 5,ja 4 17]
abbrev QhM:IL:=[jn 18 8 1,ja 8 18]
abbrev QhN:RC:=jQ QhI (.seq (jX 9 0) (.seq (.block 1 (jQ QhJ (jQ QhK (.cond (.t 16) (jQ QhL (.ret)) (.skip))))) (.reg QhM)))
abbrev QhO:IL:=[jd 4 (-1)]
abbrev QhP:RC:=jQ QhG (.seq (jQ QhH (.block 0 (.loop QhN))) (jQ QhO (.ret)))
abbrev QhQ:List RR:=[.tmp 4]
theorem QhR:CT 127 19 QhP QhQ:=ck Tryz.func127 Tryz.ntmps127 (by decide +kernel)
abbrev QFc:IL:=[jf 2 2 0,jg 3]
abbrev QFd:IL:=[jb 4 0 2,jc 5 4,jc 6 1,ze 7 5 6,ja 3 7]
abbrev r72:RC:=jQ QFc (jQ QFd (.ret))
abbrev o72:List RR:=[.tmp 3]
theorem k72:CT 72 8 r72 o72:=ck Tryz.func72 Tryz.ntmps72 (by decide +kernel)
abbrev QFe:IL:=[jg 4]
abbrev QFf:IL:=[ja 5 0,ja 6 1,yh 7 118 5 6,yj 8 7 0,ja 4 8]
abbrev r64:RC:=jQ QFe (jQ QFf (.ret))
abbrev o64:List RR:=[.tmp 4]
theorem k64:CT 64 9 r64 o64:=ck Tryz.func64 Tryz.ntmps64 (by decide +kernel)
abbrev QhS:IL:=[jd 4 0]
abbrev QhT:IL:=[ja 6 0,jh 7 1 6,jd 8 0]
abbrev QhU:IL:=[jo 9 8 7]
abbrev QhV:IL:=[ja 10 8,ja 5 10]
abbrev QhW:IL:=[ja 11 1,ja 12 0,ja 13 5,jm 14 8 12 13,je 15 8 14,zi 16 11 15]
abbrev QhX:IL:=[ja 17 5,ja 4 17]
abbrev QhY:IL:=[jn 18 8 1,ja 8 18]
abbrev QhZ:RC:=jQ QhU (.seq (jX 9 0) (.seq (.block 1 (jQ QhV (jQ QhW (.cond (.t 16) (jQ QhX (.ret)) (.skip))))) (.reg QhY)))
abbrev Qh0:IL:=[jd 4 (-1)]
abbrev Qh1:RC:=jQ QhS (.seq (jQ QhT (.block 0 (.loop QhZ))) (jQ Qh0 (.ret)))
abbrev Qh2:List RR:=[.tmp 4]
theorem Qh3:CT 118 19 Qh1 Qh2:=ck Tryz.func118 Tryz.ntmps118 (by decide +kernel)
abbrev QFg:IL:=[jf 2 2 0,jg 3]
abbrev QFh:IL:=[jb 4 0 2,jc 5 4,jb 6 0 1,jc 7 6,ze 8 5 7,ja 3 8]
abbrev r65:RC:=jQ QFg (jQ QFh (.ret))
abbrev o65:List RR:=[.tmp 3]
theorem k65:CT 65 9 r65 o65:=ck Tryz.func65 Tryz.ntmps65 (by decide +kernel)
abbrev QFi:IL:=[jf 5 5 0,jf 6 6 1,jd 10 0]
abbrev QFj:IL:=[jy 18 0 6 3 6,ja 19 2,ja 20 3,jm 21 8 19 20,jb 22 0 21,zl 23 22,jq 24 30 18 23,ja 17 24,jv 25 17 0,jv 26 17 1,FJ 11 11,za 0 11 8 11 25,ja 12 26]
abbrev QFk:IL:=[ja 27 12,yb 28 27]
abbrev QFl:IL:=[jd 10 8]
abbrev QFm:IL:=[ja 29 2,ja 30 3,zz 31 8 29 30,yz 32 116 11,yh 33 64 31 32]
abbrev QFn:IL:=[jd 10 9]
abbrev QFo:IL:=[ja 34 2,ja 35 3,zz 36 8 34 35,jh 37 1 36,jd 38 0]
abbrev QFp:IL:=[jo 39 38 37]
abbrev QFq:IL:=[jm 40 8 36 38,je 41 8 40,B3 14 14,ji 8 14 41]
abbrev QFr:IL:=[je 43 3 6,jb 44 0 14,jc 45 44,jq 46 30 43 45,ja 42 46,jv 47 42 0,jv 48 42 1,FJ 15 15,ji 8 15 47,ja 16 48]
abbrev Qh4:IL:=[jb 49 7 11,jc 50 49,ya 51 50 (-1),ja 52 51,jl 53 7 15 52,jp 54 53 52,jl 55 7 11 52,jp 56 55 52,⟨some 57,.val (.bin .num .eql (.t 54) (.t 56)),(some (52,true))⟩,jj 58 52 57]
abbrev Qh5:IL:=[jd 10 15]
abbrev Qh6:IL:=[jn 59 38 1,ja 38 59]
abbrev QFs:RC:=.gho (.drop 15) (.gho (.drop 14) (jQ QFp (.seq (jX 39 0) (.seq (.block 1 (jQ QFq (jQ QFr (jQ Qh4 (.cond (.t 58) (jQ Qh5 (.ret)) (.skip)))))) (.reg Qh6)))))
abbrev Qh7:IL:=[jy 60 0 5 2 5,jy 61 0 11 8 11,ja 62 2,ja 63 3,jm 64 8 62 63,jb 65 1 64,yp 66 7 65,ja 67 4,zn 68 117 60 61 66 67,ja 10 68]
abbrev r63:RC:=jQ QFi (jD QFj (.seq (jQ QFk (.cond (.t 28) (jQ QFl (.ret)) (.skip))) (.seq (jQ QFm (.cond (.t 33) (jQ QFn (.ret)) (.skip))) (.seq (jQ QFo (.block 0 (.loop QFs))) (jD Qh7 (.ret))))))
abbrev o63:List RR:=[.tmp 10]
theorem k63:CT 63 69 r63 o63:=ck Tryz.func63 Tryz.ntmps63 (by decide +kernel)
abbrev Qh8:IL:=[jf 4 4 0,jf 5 5 1,jf 6 6 2,jd 8 0]
abbrev Qh9:IL:=[jb 12 3 5,jc 13 12]
abbrev Qia:IL:=[js 15 13 4,ja 14 15]
abbrev Qib:IL:=[jb 16 0 6,jc 17 16,ya 18 17 11,ja 19 18,zj 20 7 6 19,yq 21 62 20 19,jt 22 19 21]
abbrev Qic:IL:=[jd 8 12]
abbrev Qid:IL:=[jb 23 3 6,jc 24 23,jh 25 1 24,jd 26 0]
abbrev Qie:IL:=[jo 27 26 25]
abbrev Qif:IL:=[jm 28 7 24 26,je 29 7 28,yi 10 10,ji 7 10 29]
abbrev Qig:IL:=[je 30 2 4,je 31 8 5,je 32 7 10,ja 33 3,zn 34 172 30 31 32 33,ja 11 34]
abbrev Qih:IL:=[ja 35 11,ya 36 35 0]
abbrev QbW:IL:=[ja 37 11,ja 8 37]
abbrev QbX:IL:=[jn 38 26 1,ja 26 38]
abbrev Qii:RC:=.gho (.drop 10) (jQ Qie (.seq (jX 27 1) (.seq (.block 2 (jQ Qif (jQ Qig (jQ Qih (.cond (.t 36) (jQ QbW (.ret)) (.skip)))))) (.reg QbX))))
abbrev QbY:IL:=[jd 8 0]
abbrev QbZ:IL:=[js 40 13 5,ja 39 40]
abbrev Qb0:IL:=[jb 41 0 6,jc 42 41,ya 43 42 12,ja 44 43,zj 45 7 6 44,yq 46 62 45 44,jt 47 44 46]
abbrev Qb1:IL:=[jd 8 12]
abbrev Qb2:IL:=[je 48 2 4,je 49 8 5,jb 50 4 6,jc 51 50,ja 52 3,zn 53 173 48 49 51 52,ja 8 53]
abbrev Qb3:IL:=[je 54 2 4,je 55 8 5,je 56 7 6,ja 57 3,zn 58 172 54 55 56 57,ja 8 58]
abbrev Qij:RC:=jQ Qh8 (.seq (jQ Qh9 (.block 0 (jQ Qia (.cond (.t 14) (.seq (jQ Qib (.cond (.t 22) (jQ Qic (.ret)) (.skip))) (.seq (jQ Qid (.block 1 (.loop Qii))) (jQ QbY (.ret)))) (jQ QbZ (.cond (.t 39) (.seq (jQ Qb0 (.cond (.t 47) (jQ Qb1 (.ret)) (.skip))) (jQ Qb2 (.ret))) (.skip))))))) (jQ Qb3 (.ret)))
abbrev Qik:List RR:=[.tmp 8]
theorem Qil:CT 117 59 Qij Qik:=ck Tryz.func117 Tryz.ntmps117 (by decide +kernel)
abbrev Qim:IL:=[jf 4 4 0,jf 5 5 1,jf 6 6 2,jd 8 0]
abbrev Qin:IL:=[jb 9 5 5,jc 10 9,js 11 10 10]
abbrev Qio:IL:=[jy 12 0 4 2 4,jb 13 0 4,jb 14 0 13,jx 15 0 4 14,jb 16 6 5,jx 17 0 5 16,jm 18 3 15 17,yp 19 3 18,jy 20 0 6 7 6,ja 21 3,jn 22 21 1,zn 23 25 12 19 20 22,ja 8 23]
abbrev Qip:IL:=[je 24 2 4,jb 25 5 5,jc 26 25,jb 27 6 5,jc 28 27,je 29 7 6,zn 30 228 24 26 28 29,ja 8 30]
abbrev Qiq:RC:=jQ Qim (.seq (jQ Qin (.cond (.t 11) (jD Qio (.ret)) (.skip))) (jQ Qip (.ret)))
abbrev Qir:List RR:=[.tmp 8]
theorem Qis:CT 172 31 Qiq Qir:=ck Tryz.func172 Tryz.ntmps172 (by decide +kernel)
abbrev Qit:IL:=[jf 4 4 0,jf 7 7 3,jd 8 0]
abbrev Qiu:IL:=[jb 10 0 7,jc 11 10,ja 12 1,zo 13 11 12,ja 14 13,zj 15 7 7 14,yq 16 62 15 14,jt 17 14 16,ja 9 17]
abbrev Qiv:IL:=[jd 8 12]
abbrev Qiw:IL:=[jb 19 2 7,jc 20 19,jh 21 0 20,yl 22 21 4096,ja 18 22]
abbrev Qix:IL:=[jd 8 3]
abbrev Qiy:IL:=[ja 24 1,js 25 24 7,ja 26 25,jl 27 2 7 26,jp 28 27 26,zy 29 156 28 26,yn 30 29 26,jj 31 26 30,ja 23 31]
abbrev Qiz:IL:=[jd 8 7]
abbrev QiA:IL:=[ja 33 1,je 34 7 7,jq 35 248 33 34,yb 36 35,ja 32 36]
abbrev QiB:IL:=[jd 8 12]
abbrev QiC:IL:=[ja 38 1,js 39 38 9,ja 40 39,jl 41 0 4 40,zm 42 2 41 40,jk 43 2 40,jl 44 1 7 40,jp 45 44 40,RH 46 119 42 43 45 40,yn 47 46 40,jj 48 40 47,ja 37 48]
abbrev Qb4:IL:=[jd 8 16]
abbrev Qb5:IL:=[jd 8 0]
abbrev QiD:RC:=jQ Qit (.seq (.block 0 (jQ Qiu (.cond (.t 9) (jQ Qiv (.ret)) (jQ Qiw (.cond (.t 18) (jQ Qix (.ret)) (jQ Qiy (.cond (.t 23) (jQ Qiz (.ret)) (jQ QiA (.cond (.t 32) (jQ QiB (.ret)) (jQ QiC (.cond (.t 37) (jQ Qb4 (.ret)) (.skip)))))))))))) (jQ Qb5 (.ret)))
abbrev QiE:List RR:=[.tmp 8]
theorem QiF:CT 228 49 QiD QiE:=ck Tryz.func228 Tryz.ntmps228 (by decide +kernel)
abbrev QiG:IL:=[jf 3 3 1,jg 4]
abbrev QiH:IL:=[ja 5 0,jr 6 134 5,yb 7 6,ja 8 7,ju 9 0 3 8,jz 10 9 8,jw 11 0 8,⟨some 12,.val (.bin .num .neq (.t 10) (.t 11)),(some (8,false))⟩,jt 13 8 12,ja 14 13,zj 15 7 3 14,yq 16 135 15 14,zh 17 16 14,jt 18 14 17,ja 19 18,jw 20 0 19,ju 21 1 3 19,jz 22 21 19,HA 23 263 20 22 19,zh 24 23 19,jt 25 19 24,ja 26 25,ju 27 2 3 26,jz 28 27 26,zt 29 0 28 26,zg 30 29 4096 26,jt 31 26 30]
abbrev QiI:IL:=[jg 4]
abbrev QiJ:IL:=[ja 32 0,ya 33 32 7,ja 34 33,ju 35 2 3 34,jz 36 35 34,yq 37 156 36 34,jt 38 34 37,ja 4 38]
abbrev QiK:RC:=jQ QiG (.seq (jQ QiH (.cond (.t 31) (jQ QiI (.ret)) (.skip))) (jQ QiJ (.ret)))
abbrev QiL:List RR:=[.tmp 4]
theorem QiM:CT 248 39 QiK QiL:=ck Tryz.func248 Tryz.ntmps248 (by decide +kernel)
abbrev QiN:IL:=[jg 2]
abbrev QiO:IL:=[ja 3 0,jr 4 214 3,yk 5 4 0,ja 2 5]
abbrev QiP:RC:=jQ QiN (jQ QiO (.ret))
abbrev QiQ:List RR:=[.tmp 2]
theorem QiR:CT 156 6 QiP QiQ:=ck Tryz.func156 Tryz.ntmps156 (by decide +kernel)
abbrev QiS:IL:=[jd 2 0]
abbrev QiT:IL:=[ja 5 0,⟨some 6,.rngs 6 (.t 5),none⟩]
abbrev QiU:IL:=[⟨some 7,.nxts (.t 6),none⟩,jv 8 7 0]
abbrev QiV:IL:=[jv 9 7 1,jv 10 7 2,ja 3 9,ja 4 10]
abbrev QiW:IL:=[ja 11 0,ja 12 3,ja 13 4,yr 14 250 11 12 13]
abbrev QiX:IL:=[ja 15 3,ja 2 15]
abbrev QiY:RC:=jQ QiU (.seq (jX 8 0) (.block 1 (jQ QiV (jQ QiW (.cond (.t 14) (jQ QiX (.ret)) (.skip))))))
abbrev QiZ:IL:=[jd 2 (-1)]
abbrev Qi0:RC:=jQ QiS (.seq (jQ QiT (.block 0 (.loop QiY))) (jQ QiZ (.ret)))
abbrev Qi1:List RR:=[.tmp 2]
theorem Qi2:CT 214 16 Qi0 Qi1:=ck Tryz.func214 Tryz.ntmps214 (by decide +kernel)
abbrev Qi3:IL:=[jg 6]
abbrev Qi4:IL:=[ja 7 2,⟨some 8,.val (.bin .num .eql (.t 7) (.c (.int .i32 65533))),none⟩,ja 9 8,jk 10 0 9,jk 11 1 9,⟨some 12,.val (.slc none (.t 10) (some (.t 11)) none none),(some (9,true))⟩,⟨some 13,.call (.f 264) [(.t 12),(.c (.str [239,191,189]))],(some (9,true))⟩,yn 14 13 9,jj 15 9 14,ja 6 15]
abbrev Qi5:RC:=jQ Qi3 (jQ Qi4 (.ret))
abbrev Qi6:List RR:=[.tmp 6]
theorem Qi7:CT 250 16 Qi5 Qi6:=ck Tryz.func250 Tryz.ntmps250 (by decide +kernel)
abbrev Qi8:IL:=[jg 4]
abbrev Qi9:IL:=[ja 5 0,ja 6 1,jq 7 272 5 6,ja 4 7]
abbrev Qja:RC:=jQ Qi8 (jQ Qi9 (.ret))
abbrev Qjb:List RR:=[.tmp 4]
theorem Qjc:CT 264 8 Qja Qjb:=ck Tryz.func264 Tryz.ntmps264 (by decide +kernel)
abbrev Qjd:IL:=[jg 4]
abbrev Qje:IL:=[ja 5 0,jh 6 0 5,ja 7 1,jh 8 0 7,B4 9 6 8,ja 10 9,jk 11 0 10,jk 12 1 10,yc 13 0 12 10,⟨some 14,.val (.slc none (.t 11) none (some (.t 13)) none),(some (10,true))⟩,jk 15 1 10,FM 16 14 15 10,jj 17 10 16,ja 4 17]
abbrev Qjf:RC:=jQ Qjd (jQ Qje (.ret))
abbrev Qjg:List RR:=[.tmp 4]
theorem Qjh:CT 272 18 Qjf Qjg:=ck Tryz.func272 Tryz.ntmps272 (by decide +kernel)
abbrev Qji:IL:=[jg 4]
abbrev Qjj:IL:=[Ce 5 4294967295]
abbrev Qjk:IL:=[ja 6 0]
abbrev Qjl:IL:=[js 8 6 1,ja 7 8]
abbrev Qjm:IL:=[js 10 6 2,ja 9 10]
abbrev Qjn:IL:=[js 12 6 9,ja 11 12]
abbrev Qjo:IL:=[js 14 6 4,ja 13 14]
abbrev Qjp:IL:=[ja 15 1,⟨some 16,.val (.bin .num .leq (.t 15) (.c (.int .u64 1))),none⟩,ja 4 16]
abbrev Qjq:IL:=[ja 17 1,RI 18 17,yj 19 18 (-2147483648),ja 20 19,jk 21 1 20,⟨some 22,.val (.cvi .i64 (.t 21)),(some (20,true))⟩,ym 23 22 2147483647 20,jj 24 20 23,ja 4 24]
abbrev Qjr:IL:=[Ce 5 2147483647]
abbrev Qb6:IL:=[ja 25 1,ja 26 5,⟨some 27,.val (.bin .num .leq (.t 25) (.t 26)),none⟩,ja 4 27]
abbrev Qb7:IL:=[yg 4]
abbrev Qjs:RC:=jQ Qji (jQ Qjj (.seq (jQ Qjk (.block 0 (.seq (.block 4 (.seq (.block 3 (.seq (.block 2 (.seq (.block 1 (.seq (.seq (jQ Qjl (.cond (.t 7) (.exit 1) (.skip))) (.seq (jQ Qjm (.cond (.t 9) (.exit 2) (.skip))) (.seq (jQ Qjn (.cond (.t 11) (.exit 3) (.skip))) (jQ Qjo (.cond (.t 13) (.exit 4) (.skip)))))) (.exit 0))) (.seq (jQ Qjp (.ret)) (.exit 0)))) (.seq (jQ Qjq (.ret)) (.exit 0)))) (.reg Qjr))) (.seq (jQ Qb6 (.ret)) (.exit 0))))) (jQ Qb7 (.ret))))
abbrev Qjt:List RR:=[.tmp 4]
theorem Qju:CT 263 28 Qjs Qjt:=ck Tryz.func263 Tryz.ntmps263 (by decide +kernel)
abbrev Qjv:IL:=[jf 1 1 0,jg 2]
abbrev Qjw:IL:=[jb 3 3 1,jc 4 3,jh 5 1 4,jb 6 4 1,jc 7 6,jh 8 1 7,yu 9 5 8,jb 10 5 1,jc 11 10,jh 12 1 11,yu 13 9 12,jb 14 6 1,jc 15 14,jh 16 1 15,yu 17 13 16,yl 18 17 0]
abbrev Qjx:IL:=[jg 2]
abbrev Qjy:IL:=[jb 19 0 1,jc 20 19,jr 21 193 20]
abbrev Qjz:IL:=[jb 22 1 1,jc 23 22,FN 24 23 0,ja 2 24]
abbrev QjA:IL:=[jb 25 2 1,jc 26 25,Cf 27 26,ja 2 27]
abbrev QjB:RC:=jQ Qjv (.seq (jQ Qjw (.cond (.t 18) (jQ Qjx (.ret)) (.skip))) (.seq (jQ Qjy (.cond (.t 21) (jQ Qjz (.ret)) (.skip))) (jQ QjA (.ret))))
abbrev QjC:List RR:=[.tmp 2]
theorem QjD:CT 135 28 QjB QjC:=ck Tryz.func135 Tryz.ntmps135 (by decide +kernel)
abbrev QjE:IL:=[jg 2]
abbrev QjF:IL:=[ja 3 0,js 4 3 7,ja 5 4,jw 6 0 5,zf 7 6 8 5,jt 8 5 7,ja 2 8]
abbrev QjG:RC:=jQ QjE (jQ QjF (.ret))
abbrev QjH:List RR:=[.tmp 2]
theorem QjI:CT 193 9 QjG QjH:=ck Tryz.func193 Tryz.ntmps193 (by decide +kernel)
abbrev QjJ:IL:=[jg 2]
abbrev QjK:IL:=[ja 3 0,yj 4 3 1,ja 5 4,jk 6 0 5,ym 7 6 9 5,jj 8 5 7,ja 2 8]
abbrev QjL:RC:=jQ QjJ (jQ QjK (.ret))
abbrev QjM:List RR:=[.tmp 2]
theorem QjN:CT 134 9 QjL QjM:=ck Tryz.func134 Tryz.ntmps134 (by decide +kernel)
abbrev QFt:IL:=[jf 1 1 0,jg 2]
abbrev QFu:IL:=[jb 4 0 1,jc 5 4,js 6 5 7,ja 7 6,ju 8 0 1 7,jz 9 8 7,zf 10 9 8 7,jt 11 7 10,ja 3 11]
abbrev QFv:IL:=[jb 12 0 1,jc 13 12,ya 14 13 11,ja 15 14,jl 16 3 1 15,jp 17 16 15,yc 18 1 17 15,FL 19 18 0 15,jj 20 15 19,ja 21 20,ju 22 0 1 21,jz 23 22 21,RJ 24 23 12 21,jw 25 24 21,jl 26 4 1 25,jp 27 26 25,yc 28 1 27 25,FL 29 28 0 25,yy 30 25 29 21,jt 31 21 30,ja 32 31,ju 33 0 1 32,jz 34 33 32,RJ 35 34 10 32,jw 36 35 32,jl 37 5 1 36,jp 38 37 36,yc 39 1 38 36,jl 40 6 1 36,jp 41 40 36,yc 42 1 41 36,zp 43 39 42 36,FL 44 43 0 36,yy 45 36 44 32,jt 46 32 45,ja 47 46,ju 48 1 1 47,jz 49 48 47,⟨some 50,.val (.bin .num .neq (.t 49) (.c (.int .u64 0))),(some (47,false))⟩,jw 51 50 47,jk 52 3 51,jk 53 52 51,ju 54 0 1 53,jz 55 54 53,⟨some 56,.val (.bin .num .geq (.t 55) (.c (.int .i64 10))),(some (53,false))⟩,jw 57 56 53,jl 58 0 1 57,jp 59 58 57,ym 60 59 12 57,yy 61 57 60 53,RG 62 53 61 51,yy 63 51 62 47,jt 64 47 63,ja 65 64,ju 66 2 1 65,jz 67 66 65,⟨some 68,.val (.bin .str .neq (.t 67) (.c (.str []))),(some (65,false))⟩,jw 69 68 65,jk 70 3 69,yn 71 70 69,yy 72 69 71 65,jt 73 65 72,ja 2 73]
abbrev r62:RC:=jQ QFt (jQ QFu (jQ QFv (.ret)))
abbrev o62:List RR:=[.tmp 2]
theorem k62:CT 62 74 r62 o62:=ck Tryz.func62 Tryz.ntmps62 (by decide +kernel)
abbrev QjO:IL:=[jf 4 4 0,jf 5 5 1,jd 8 0]
abbrev QjP:IL:=[ja 13 2,jh 14 1 13,jd 15 0]
abbrev QjQ:IL:=[jo 16 15 14]
abbrev QjR:IL:=[ja 17 15,jm 18 14 13 15,je 19 14 18,FI 10 10,ja 9 17,ji 14 10 19]
abbrev QjS:IL:=[je 20 2 4,jb 21 4 5,jc 22 21,jb 23 0 10,je 24 7 23,⟨some 25,.call (.f 228) [(.t 20),(.t 22),(.c (.int .i64 (-1))),(.t 24)],none⟩,ja 11 25]
abbrev QjT:IL:=[ja 26 11,ya 27 26 0]
abbrev QjU:IL:=[ja 28 11,ja 8 28]
abbrev QjV:IL:=[ja 29 2,ja 30 9,zz 31 14 29 30,yz 32 229 10,yh 33 223 31 32]
abbrev QjW:IL:=[jd 8 9]
abbrev QjX:IL:=[je 34 2 4,je 35 8 5,jb 36 7 10,je 37 7 36,ja 38 3,zn 39 172 34 35 37 38,ja 12 39]
abbrev Qb8:IL:=[ja 40 12,ya 41 40 0]
abbrev Qb9:IL:=[ja 42 12,ja 8 42]
abbrev Qca:IL:=[jn 43 15 1,ja 15 43]
abbrev QjY:RC:=.gho (.drop 10) (jQ QjQ (.seq (jX 16 0) (.seq (.block 1 (jQ QjR (.seq (jQ QjS (jQ QjT (.cond (.t 27) (jQ QjU (.ret)) (.skip)))) (.seq (jQ QjV (.cond (.t 33) (jQ QjW (.ret)) (.skip))) (jQ QjX (jQ Qb8 (.cond (.t 41) (jQ Qb9 (.ret)) (.skip)))))))) (.reg Qca))))
abbrev Qcb:IL:=[jd 8 0]
abbrev QjZ:RC:=jQ QjO (.seq (jQ QjP (.block 0 (.loop QjY))) (jQ Qcb (.ret)))
abbrev Qj0:List RR:=[.tmp 8]
theorem Qj1:CT 173 44 QjZ Qj0:=ck Tryz.func173 Tryz.ntmps173 (by decide +kernel)
abbrev Qj2:IL:=[jg 4]
abbrev Qj3:IL:=[ja 5 0,ja 6 1,yh 7 254 5 6,yj 8 7 0,ja 4 8]
abbrev Qj4:RC:=jQ Qj2 (jQ Qj3 (.ret))
abbrev Qj5:List RR:=[.tmp 4]
theorem Qj6:CT 223 9 Qj4 Qj5:=ck Tryz.func223 Tryz.ntmps223 (by decide +kernel)
abbrev Qj7:IL:=[jd 4 0]
abbrev Qj8:IL:=[ja 6 0,jh 7 1 6,jd 8 0]
abbrev Qj9:IL:=[jo 9 8 7]
abbrev Qka:IL:=[ja 10 8,ja 5 10]
abbrev Qkb:IL:=[ja 11 1,ja 12 0,ja 13 5,jm 14 14 12 13,je 15 14 14,zi 16 11 15]
abbrev Qkc:IL:=[ja 17 5,ja 4 17]
abbrev Qkd:IL:=[jn 18 8 1,ja 8 18]
abbrev Qke:RC:=jQ Qj9 (.seq (jX 9 0) (.seq (.block 1 (jQ Qka (jQ Qkb (.cond (.t 16) (jQ Qkc (.ret)) (.skip))))) (.reg Qkd)))
abbrev Qkf:IL:=[jd 4 (-1)]
abbrev Qkg:RC:=jQ Qj7 (.seq (jQ Qj8 (.block 0 (.loop Qke))) (jQ Qkf (.ret)))
abbrev Qkh:List RR:=[.tmp 4]
theorem Qki:CT 254 19 Qkg Qkh:=ck Tryz.func254 Tryz.ntmps254 (by decide +kernel)
abbrev Qkj:IL:=[jf 2 2 0,jg 3]
abbrev Qkk:IL:=[jb 4 0 2,je 5 7 4,jb 6 0 1,je 7 7 6,jq 8 132 5 7,ja 3 8]
abbrev Qkl:RC:=jQ Qkj (jQ Qkk (.ret))
abbrev Qkm:List RR:=[.tmp 3]
theorem Qkn:CT 229 9 Qkl Qkm:=ck Tryz.func229 Tryz.ntmps229 (by decide +kernel)
abbrev Qko:IL:=[jf 2 2 0,jf 3 3 1,jg 4]
abbrev Qkp:IL:=[je 5 7 2,je 6 7 3,jq 7 131 5 6,js 8 7 0,ja 4 8]
abbrev Qkq:RC:=jQ Qko (jQ Qkp (.ret))
abbrev Qkr:List RR:=[.tmp 4]
theorem Qks:CT 132 9 Qkq Qkr:=ck Tryz.func132 Tryz.ntmps132 (by decide +kernel)
abbrev Qkt:IL:=[jf 2 2 0,jf 3 3 1,jd 4 0]
abbrev Qku:IL:=[jb 11 0 2,jc 12 11,jb 13 0 3,jc 14 13,zo 15 12 14]
abbrev Qkv:IL:=[jb 16 0 2,jc 17 16,jb 18 0 3,jc 19 18,jq 20 35 17 19,ja 4 20]
abbrev Qkw:IL:=[je 21 7 3,jr 22 183 21,ja 5 22]
abbrev Qkx:IL:=[je 23 7 2,jr 24 183 23]
abbrev Qky:IL:=[⟨some 25,.val (.tas 225 true (.agg [.int .i64 0,.int .u64 0,.str [],.nils,.nils,.nils,.nils]) (.t 24)),none⟩,jv 26 25 1,jv 27 25 0]
abbrev Qkz:IL:=[yi 6 6,ji 7 6 27]
abbrev QkA:IL:=[je 28 7 6,je 29 7 3,jq 30 184 28 29,ja 4 30]
abbrev QkB:IL:=[⟨some 31,.val (.tas 226 true (.nils) (.t 24)),none⟩,jv 32 31 1,jv 33 31 0]
abbrev QkC:IL:=[ja 7 33]
abbrev Qcc:IL:=[ja 34 7,ja 35 5,⟨some 36,.val (.tas 226 false (.nils) (.t 35)),none⟩,⟨some 37,.callF (.f 185) [(.t 34),(.t 36),(.f 131)],none⟩,ja 4 37]
abbrev Qcd:IL:=[⟨some 38,.val (.tas 228 true (.nils) (.t 24)),none⟩,jv 39 38 1,jv 40 38 0]
abbrev Qce:IL:=[ja 8 40]
abbrev Qcf:IL:=[ja 41 8,ja 42 5,⟨some 43,.val (.tas 228 false (.nils) (.t 42)),none⟩,⟨some 44,.callF (.f 186) [(.t 41),(.t 43),(.f 187)],none⟩,ja 4 44]
abbrev Qcg:IL:=[⟨some 45,.val (.tas 231 true (.agg [.nils,.nils]) (.t 24)),none⟩,jv 46 45 1,jv 47 45 0]
abbrev Qch:IL:=[Cb 9 9,ji 2 9 47]
abbrev Qci:IL:=[ja 48 5,⟨some 49,.val (.tas 231 false (.agg [.nils,.nils]) (.t 48)),none⟩,Cb 10 10,ji 2 10 49]
abbrev Qcj:IL:=[jd 4 0]
abbrev QkD:RC:=jQ Qkt (.seq (jQ Qku (.cond (.t 15) (jQ Qkv (.ret)) (.skip))) (jQ Qkw (.seq (jQ Qkx (.block 0 (jQ Qky (.cond (.t 26) (jQ Qkz (jQ QkA (.ret))) (jQ QkB (.cond (.t 32) (jQ QkC (jQ Qcc (.ret))) (jQ Qcd (.cond (.t 39) (jQ Qce (jQ Qcf (.ret))) (jQ Qcg (.cond (.t 46) (jQ Qch (jQ Qci (.seq (.no) (.ret)))) (.skip))))))))))) (jQ Qcj (.ret)))))
abbrev QkE:List RR:=[.tmp 4]
theorem QkF:CT 131 62 QkD QkE:=ck Tryz.func131 Tryz.ntmps131 (by decide +kernel)
abbrev QkG:IL:=[jd 2 0]
abbrev QkH:IL:=[jd 3 0]
abbrev QkI:IL:=[ja 6 0,jh 7 1 6,jd 8 0]
abbrev QkJ:IL:=[jo 9 8 7]
abbrev QkK:IL:=[jm 10 1 6 8,jc 11 10,ja 5 11]
abbrev QkL:IL:=[ja 12 5,ja 13 3,zo 14 12 13]
abbrev QkM:IL:=[ja 15 5,ja 2 15]
abbrev QkN:IL:=[jn 16 8 1,ja 8 16]
abbrev QkO:RC:=jQ QkJ (.seq (jX 9 0) (.seq (.block 1 (jQ QkK (jQ QkL (.cond (.t 14) (jQ QkM (.ret)) (.skip))))) (.reg QkN)))
abbrev QkP:IL:=[ja 17 3,ja 2 17]
abbrev QkQ:RC:=jQ QkG (jQ QkH (.seq (jQ QkI (.block 0 (.loop QkO))) (jQ QkP (.ret))))
abbrev QkR:List RR:=[.tmp 2]
theorem QOE:CT 188 18 QkQ QkR:=ck Tryz.func188 Tryz.ntmps188 (by decide +kernel)
abbrev QkS:IL:=[jf 2 2 0,jf 3 3 1,jd 4 0]
abbrev QkT:IL:=[jb 5 0 2,jx 6 0 2 5,jb 7 0 3,jx 8 0 3 7,jq 9 35 6 8,jb 10 1 2,jx 11 0 2 10,jb 12 1 3,jx 13 0 3 12,jq 14 35 11 13,jb 15 2 2,jx 16 0 2 15,jb 17 2 3,jx 18 0 3 17,jq 19 236 16 18,jb 20 3 2,jx 21 0 2 20,jb 22 3 3,jx 23 0 3 22,jq 24 235 21 23,⟨some 25,.bsl 1 4 [.int .i64 0] [(0,1,(.t 9)),(1,1,(.t 14)),(2,1,(.t 19)),(3,1,(.t 24))],none⟩,jr 26 188 25,ja 4 26]
abbrev QkU:RC:=jQ QkS (jD QkT (.ret))
abbrev QkV:List RR:=[.tmp 4]
theorem QOF:CT 192 27 QkU QkV:=ck Tryz.func192 Tryz.ntmps192 (by decide +kernel)
abbrev QkW:IL:=[jd 4 0]
abbrev QkX:IL:=[ja 7 0,jr 8 257 7,ja 5 8]
abbrev QkY:IL:=[ja 9 1,jr 10 257 9,ja 6 10]
abbrev QkZ:IL:=[ja 11 5]
abbrev Qk0:IL:=[ja 12 6]
abbrev Qk1:IL:=[jd 4 0]
abbrev Qk2:IL:=[jd 4 (-1)]
abbrev Qk3:IL:=[ja 13 6]
abbrev Qk4:IL:=[jd 4 1]
abbrev Qk5:IL:=[ja 14 0,ja 15 1,⟨some 16,.val (.bin .str .lss (.t 14) (.t 15)),none⟩]
abbrev Qck:IL:=[jd 4 (-1)]
abbrev Qcl:IL:=[ja 17 0,ja 18 1,⟨some 19,.val (.bin .str .gtr (.t 17) (.t 18)),none⟩]
abbrev Qcm:IL:=[jd 4 1]
abbrev Qcn:IL:=[jd 4 0]
abbrev Qk6:RC:=jQ QkW (jQ QkX (jQ QkY (.seq (jQ QkZ (.cond (.t 11) (.seq (jQ Qk0 (.cond (.t 12) (jQ Qk1 (.ret)) (.skip))) (jQ Qk2 (.ret))) (.skip))) (.seq (jQ Qk3 (.cond (.t 13) (jQ Qk4 (.ret)) (.skip))) (.seq (jQ Qk5 (.cond (.t 16) (jQ Qck (.ret)) (.skip))) (.seq (jQ Qcl (.cond (.t 19) (jQ Qcm (.ret)) (.skip))) (jQ Qcn (.ret))))))))
abbrev Qk7:List RR:=[.tmp 4]
theorem Qk8:CT 235 20 Qk6 Qk7:=ck Tryz.func235 Tryz.ntmps235 (by decide +kernel)
abbrev Qk9:IL:=[jg 2]
abbrev Qla:IL:=[ja 3 0,ja 4 0,⟨some 5,.val (.bin .str .neq (.t 3) (.t 4)),none⟩,ja 2 5]
abbrev Qlb:RC:=jQ Qk9 (jQ Qla (.ret))
abbrev Qlc:List RR:=[.tmp 2]
theorem Qld:CT 257 6 Qlb Qlc:=ck Tryz.func257 Tryz.ntmps257 (by decide +kernel)
abbrev Qle:IL:=[jd 4 0]
abbrev Qlf:IL:=[ja 7 0,jr 8 258 7,ja 5 8]
abbrev Qlg:IL:=[ja 9 1,jr 10 258 9,ja 6 10]
abbrev Qlh:IL:=[ja 11 5]
abbrev Qli:IL:=[ja 12 6]
abbrev Qlj:IL:=[jd 4 0]
abbrev Qlk:IL:=[jd 4 (-1)]
abbrev Qll:IL:=[ja 13 6]
abbrev Qlm:IL:=[jd 4 1]
abbrev Qln:IL:=[ja 14 0,ja 15 1,jo 16 14 15]
abbrev Qco:IL:=[jd 4 (-1)]
abbrev Qcp:IL:=[ja 17 0,ja 18 1,Cg 19 17 18]
abbrev Qcq:IL:=[jd 4 1]
abbrev Qcr:IL:=[jd 4 0]
abbrev Qlo:RC:=jQ Qle (jQ Qlf (jQ Qlg (.seq (jQ Qlh (.cond (.t 11) (.seq (jQ Qli (.cond (.t 12) (jQ Qlj (.ret)) (.skip))) (jQ Qlk (.ret))) (.skip))) (.seq (jQ Qll (.cond (.t 13) (jQ Qlm (.ret)) (.skip))) (.seq (jQ Qln (.cond (.t 16) (jQ Qco (.ret)) (.skip))) (.seq (jQ Qcp (.cond (.t 19) (jQ Qcq (.ret)) (.skip))) (jQ Qcr (.ret))))))))
abbrev Qlp:List RR:=[.tmp 4]
theorem Qlq:CT 236 20 Qlo Qlp:=ck Tryz.func236 Tryz.ntmps236 (by decide +kernel)
abbrev Qlr:IL:=[jg 2]
abbrev Qls:IL:=[ja 3 0,ja 4 0,zo 5 3 4,ja 2 5]
abbrev Qlt:RC:=jQ Qlr (jQ Qls (.ret))
abbrev Qlu:List RR:=[.tmp 2]
theorem Qlv:CT 258 6 Qlt Qlu:=ck Tryz.func258 Tryz.ntmps258 (by decide +kernel)
abbrev QFw:IL:=[jd 4 0]
abbrev QFx:IL:=[ja 7 0,jr 8 79 7,ja 5 8]
abbrev QFy:IL:=[ja 9 1,jr 10 79 9,ja 6 10]
abbrev QFz:IL:=[ja 11 5]
abbrev QFA:IL:=[ja 12 6]
abbrev QFB:IL:=[jd 4 0]
abbrev QFC:IL:=[jd 4 (-1)]
abbrev QFD:IL:=[ja 13 6]
abbrev QFE:IL:=[jd 4 1]
abbrev QFF:IL:=[ja 14 0,ja 15 1,jo 16 14 15]
abbrev Qlw:IL:=[jd 4 (-1)]
abbrev Qlx:IL:=[ja 17 0,ja 18 1,Cg 19 17 18]
abbrev Qly:IL:=[jd 4 1]
abbrev Qlz:IL:=[jd 4 0]
abbrev r35:RC:=jQ QFw (jQ QFx (jQ QFy (.seq (jQ QFz (.cond (.t 11) (.seq (jQ QFA (.cond (.t 12) (jQ QFB (.ret)) (.skip))) (jQ QFC (.ret))) (.skip))) (.seq (jQ QFD (.cond (.t 13) (jQ QFE (.ret)) (.skip))) (.seq (jQ QFF (.cond (.t 16) (jQ Qlw (.ret)) (.skip))) (.seq (jQ Qlx (.cond (.t 19) (jQ Qly (.ret)) (.skip))) (jQ Qlz (.ret))))))))
abbrev o35:List RR:=[.tmp 4]
theorem k35:CT 35 20 r35 o35:=ck Tryz.func35 Tryz.ntmps35 (by decide +kernel)
abbrev QFG:IL:=[jg 2]
abbrev QFH:IL:=[ja 3 0,ja 4 0,zo 5 3 4,ja 2 5]
abbrev r79:RC:=jQ QFG (jQ QFH (.ret))
abbrev o79:List RR:=[.tmp 2]
theorem k79:CT 79 6 r79 o79:=ck Tryz.func79 Tryz.ntmps79 (by decide +kernel)
abbrev QlA:IL:=[jd 6 0]
abbrev QlB:IL:=[ja 11 0,jh 12 1 11,jd 13 0]
abbrev QlC:IL:=[jo 14 13 12]
abbrev QlD:IL:=[ja 15 13,jm 16 4 11 13,je 17 4 16,⟨some 8,.allocN 8 [.int .i64 0,.int .i64 0,.int .u64 0,.str []],none⟩,ja 7 15,ji 4 8 17]
abbrev QlE:IL:=[ja 18 7,ja 19 1,jh 20 1 19,B4 21 18 20]
abbrev QlF:IL:=[jd 6 1]
abbrev QlG:IL:=[ja 22 1,ja 23 7,jm 24 4 22 23,je 25 4 24,⟨some 9,.allocN 9 [.int .i64 0,.int .i64 0,.int .u64 0,.str []],none⟩,ji 4 9 25]
abbrev QlH:IL:=[ja 26 2,je 27 4 8,je 28 4 9,⟨some 29,.callF (.t 26) [(.t 27),(.t 28)],none⟩,ja 10 29]
abbrev QlI:IL:=[ja 30 10,ya 31 30 0]
abbrev QlJ:IL:=[ja 32 10,ja 6 32]
abbrev Qcs:IL:=[jn 33 13 1,ja 13 33]
abbrev QlK:RC:=.gho (.drop 9) (.gho (.drop 8) (jQ QlC (.seq (jX 14 0) (.seq (.block 1 (jQ QlD (.seq (jQ QlE (.cond (.t 21) (jQ QlF (.ret)) (.skip))) (jQ QlG (jQ QlH (jQ QlI (.cond (.t 31) (jQ QlJ (.ret)) (.skip)))))))) (.reg Qcs)))))
abbrev Qct:IL:=[ja 34 0,jh 35 1 34,ja 36 1,jh 37 1 36,jo 38 35 37]
abbrev Qcu:IL:=[jd 6 (-1)]
abbrev Qcv:IL:=[jd 6 0]
abbrev QlL:RC:=jQ QlA (.seq (jQ QlB (.block 0 (.loop QlK))) (.seq (jQ Qct (.cond (.t 38) (jQ Qcu (.ret)) (.skip))) (jQ Qcv (.ret))))
abbrev QlM:List RR:=[.tmp 6]
theorem QOG:CT 191 39 QlL QlM:=ck Tryz.func191 Tryz.ntmps191 (by decide +kernel)
abbrev QlN:IL:=[jf 2 2 0,jf 3 3 1,jd 4 0]
abbrev QlO:IL:=[jb 5 0 2,jx 6 0 2 5,jb 7 0 3,jx 8 0 3 7,jq 9 35 6 8,jb 10 1 2,jy 11 0 2 7 10,jb 12 1 3,jy 13 0 3 7 12,jq 14 131 11 13,⟨some 15,.bsl 1 2 [.int .i64 0] [(0,1,(.t 9)),(1,1,(.t 14))],none⟩,jr 16 188 15,ja 4 16]
abbrev QlP:RC:=jQ QlN (jD QlO (.ret))
abbrev QlQ:List RR:=[.tmp 4]
theorem QOH:CT 190 17 QlP QlQ:=ck Tryz.func190 Tryz.ntmps190 (by decide +kernel)
abbrev QlR:IL:=[jd 6 0]
abbrev QlS:IL:=[ja 11 0,jh 12 1 11,jd 13 0]
abbrev QlT:IL:=[jo 14 13 12]
abbrev QlU:IL:=[ja 15 13,jm 16 8 11 13,je 17 8 16,B3 8 8,ja 7 15,ji 8 8 17]
abbrev QlV:IL:=[ja 18 7,ja 19 1,jh 20 1 19,B4 21 18 20]
abbrev QlW:IL:=[jd 6 1]
abbrev QlX:IL:=[ja 22 1,ja 23 7,jm 24 8 22 23,je 25 8 24,B3 9 9,ji 8 9 25]
abbrev QlY:IL:=[ja 26 2,je 27 8 8,je 28 8 9,⟨some 29,.callF (.t 26) [(.t 27),(.t 28)],none⟩,ja 10 29]
abbrev QlZ:IL:=[ja 30 10,ya 31 30 0]
abbrev Ql0:IL:=[ja 32 10,ja 6 32]
abbrev Qcw:IL:=[jn 33 13 1,ja 13 33]
abbrev Ql1:RC:=.gho (.drop 9) (.gho (.drop 8) (jQ QlT (.seq (jX 14 0) (.seq (.block 1 (jQ QlU (.seq (jQ QlV (.cond (.t 21) (jQ QlW (.ret)) (.skip))) (jQ QlX (jQ QlY (jQ QlZ (.cond (.t 31) (jQ Ql0 (.ret)) (.skip)))))))) (.reg Qcw)))))
abbrev Qcx:IL:=[ja 34 0,jh 35 1 34,ja 36 1,jh 37 1 36,jo 38 35 37]
abbrev Qcy:IL:=[jd 6 (-1)]
abbrev Qcz:IL:=[jd 6 0]
abbrev Ql2:RC:=jQ QlR (.seq (jQ QlS (.block 0 (.loop Ql1))) (.seq (jQ Qcx (.cond (.t 38) (jQ Qcy (.ret)) (.skip))) (jQ Qcz (.ret))))
abbrev Ql3:List RR:=[.tmp 6]
theorem QOI:CT 189 39 Ql2 Ql3:=ck Tryz.func189 Tryz.ntmps189 (by decide +kernel)
abbrev Ql4:IL:=[jf 2 2 0,jf 3 3 1,jd 4 0]
abbrev Ql5:IL:=[jb 5 0 2,jy 6 0 2 7 5,jb 7 0 3,jy 8 0 3 7 7,jq 9 131 6 8,jb 10 7 2,jy 11 0 2 7 10,jb 12 7 3,jy 13 0 3 7 12,jq 14 131 11 13,⟨some 15,.bsl 1 2 [.int .i64 0] [(0,1,(.t 9)),(1,1,(.t 14))],none⟩,jr 16 188 15,ja 4 16]
abbrev Ql6:RC:=jQ Ql4 (jD Ql5 (.ret))
abbrev Ql7:List RR:=[.tmp 4]
theorem QOJ:CT 187 17 Ql6 Ql7:=ck Tryz.func187 Tryz.ntmps187 (by decide +kernel)
abbrev Ql8:IL:=[jd 6 0]
abbrev Ql9:IL:=[ja 11 0,jh 12 1 11,jd 13 0]
abbrev Qma:IL:=[jo 14 13 12]
abbrev Qmb:IL:=[ja 15 13,jm 16 14 11 13,je 17 14 16,FI 8 8,ja 7 15,ji 14 8 17]
abbrev Qmc:IL:=[ja 18 7,ja 19 1,jh 20 1 19,B4 21 18 20]
abbrev Qmd:IL:=[jd 6 1]
abbrev Qme:IL:=[ja 22 1,ja 23 7,jm 24 14 22 23,je 25 14 24,FI 9 9,ji 14 9 25]
abbrev Qmf:IL:=[ja 26 2,je 27 14 8,je 28 14 9,⟨some 29,.callF (.t 26) [(.t 27),(.t 28)],none⟩,ja 10 29]
abbrev Qmg:IL:=[ja 30 10,ya 31 30 0]
abbrev Qmh:IL:=[ja 32 10,ja 6 32]
abbrev QcA:IL:=[jn 33 13 1,ja 13 33]
abbrev Qmi:RC:=.gho (.drop 9) (.gho (.drop 8) (jQ Qma (.seq (jX 14 0) (.seq (.block 1 (jQ Qmb (.seq (jQ Qmc (.cond (.t 21) (jQ Qmd (.ret)) (.skip))) (jQ Qme (jQ Qmf (jQ Qmg (.cond (.t 31) (jQ Qmh (.ret)) (.skip)))))))) (.reg QcA)))))
abbrev QcB:IL:=[ja 34 0,jh 35 1 34,ja 36 1,jh 37 1 36,jo 38 35 37]
abbrev QcC:IL:=[jd 6 (-1)]
abbrev QcD:IL:=[jd 6 0]
abbrev Qmj:RC:=jQ Ql8 (.seq (jQ Ql9 (.block 0 (.loop Qmi))) (.seq (jQ QcB (.cond (.t 38) (jQ QcC (.ret)) (.skip))) (jQ QcD (.ret))))
abbrev Qmk:List RR:=[.tmp 6]
theorem QOK:CT 186 39 Qmj Qmk:=ck Tryz.func186 Tryz.ntmps186 (by decide +kernel)
abbrev Qml:IL:=[jd 6 0]
abbrev Qmm:IL:=[ja 11 0,jh 12 1 11,jd 13 0]
abbrev Qmn:IL:=[jo 14 13 12]
abbrev Qmo:IL:=[ja 15 13,jm 16 7 11 13,je 17 7 16,yi 8 8,ja 7 15,ji 7 8 17]
abbrev Qmp:IL:=[ja 18 7,ja 19 1,jh 20 1 19,B4 21 18 20]
abbrev Qmq:IL:=[jd 6 1]
abbrev Qmr:IL:=[ja 22 1,ja 23 7,jm 24 7 22 23,je 25 7 24,yi 9 9,ji 7 9 25]
abbrev Qms:IL:=[ja 26 2,je 27 7 8,je 28 7 9,⟨some 29,.callF (.t 26) [(.t 27),(.t 28)],none⟩,ja 10 29]
abbrev Qmt:IL:=[ja 30 10,ya 31 30 0]
abbrev Qmu:IL:=[ja 32 10,ja 6 32]
abbrev QcE:IL:=[jn 33 13 1,ja 13 33]
abbrev Qmv:RC:=.gho (.drop 9) (.gho (.drop 8) (jQ Qmn (.seq (jX 14 0) (.seq (.block 1 (jQ Qmo (.seq (jQ Qmp (.cond (.t 21) (jQ Qmq (.ret)) (.skip))) (jQ Qmr (jQ Qms (jQ Qmt (.cond (.t 31) (jQ Qmu (.ret)) (.skip)))))))) (.reg QcE)))))
abbrev QcF:IL:=[ja 34 0,jh 35 1 34,ja 36 1,jh 37 1 36,jo 38 35 37]
abbrev QcG:IL:=[jd 6 (-1)]
abbrev QcH:IL:=[jd 6 0]
abbrev Qmw:RC:=jQ Qml (.seq (jQ Qmm (.block 0 (.loop Qmv))) (.seq (jQ QcF (.cond (.t 38) (jQ QcG (.ret)) (.skip))) (jQ QcH (.ret))))
abbrev Qmx:List RR:=[.tmp 6]
theorem QOL:CT 185 39 Qmw Qmx:=ck Tryz.func185 Tryz.ntmps185 (by decide +kernel)
abbrev Qmy:IL:=[jf 2 2 0,jf 3 3 1,jd 4 0]
abbrev Qmz:IL:=[jb 6 0 2,jc 7 6,jb 8 0 3,jc 9 8,zo 10 7 9,ja 5 10]
abbrev QmA:IL:=[jb 11 0 2,jc 12 11,jb 13 0 3,jc 14 13,jq 15 35 12 14,ja 4 15]
abbrev QmB:IL:=[jb 17 0 2,jc 18 17,jr 19 134 18,yb 20 19,ja 16 20]
abbrev QmC:IL:=[jd 4 0]
abbrev QmD:IL:=[jb 22 0 2,jc 23 22,jr 24 193 23,ja 21 24]
abbrev QmE:IL:=[jb 25 2 2,jc 26 25,jb 27 2 3,jc 28 27,jq 29 235 26 28,ja 4 29]
abbrev QmF:IL:=[jb 31 0 2,jc 32 31,js 33 32 2,ja 34 33,ju 35 0 2 34,jz 36 35 34,zf 37 36 3 34,jt 38 34 37,ja 30 38]
abbrev QmG:IL:=[jb 39 1 2,jc 40 39,RI 41 40,jb 42 1 3,jc 43 42,RI 44 43,jq 45 35 41 44,ja 4 45]
abbrev QmH:IL:=[jb 47 0 2,jc 48 47,js 49 48 6,ja 46 49]
abbrev QcI:IL:=[jb 50 1 2,jx 51 0 2 50,jr 52 237 51,jb 53 1 3,jx 54 0 3 53,jr 55 237 54,jq 56 236 52 55,ja 4 56]
abbrev QcJ:IL:=[jb 57 1 2,jc 58 57,jb 59 1 3,jc 60 59,jq 61 236 58 60,ja 4 61]
abbrev QmI:RC:=jQ Qmy (.seq (.block 0 (jQ Qmz (.cond (.t 5) (jQ QmA (.ret)) (jQ QmB (.cond (.t 16) (jQ QmC (.ret)) (jQ QmD (.cond (.t 21) (jQ QmE (.ret)) (jQ QmF (.cond (.t 30) (jQ QmG (.ret)) (jQ QmH (.cond (.t 46) (jD QcI (.ret)) (.skip)))))))))))) (jQ QcJ (.ret)))
abbrev QmJ:List RR:=[.tmp 4]
theorem QmK:CT 184 62 QmI QmJ:=ck Tryz.func184 Tryz.ntmps184 (by decide +kernel)
abbrev QmL:IL:=[Ce 2 0]
abbrev QmM:IL:=[ja 4 0,jr 5 133 4,js 6 5 0,ja 3 6]
abbrev QmN:IL:=[Ce 2 18446744073709551615]
abbrev QmO:IL:=[ja 8 0,⟨some 9,.val (.bin .num .and (.t 8) (.c (.int .u64 9223372036854775808))),none⟩,⟨some 10,.val (.bin .num .neq (.t 9) (.c (.int .u64 0))),none⟩,ja 7 10]
abbrev QmP:IL:=[ja 11 0,⟨some 12,.val (.un .xor (.t 11)),none⟩,ja 2 12]
abbrev QmQ:IL:=[ja 13 0,⟨some 14,.val (.bin .num .or (.t 13) (.c (.int .u64 9223372036854775808))),none⟩,ja 2 14]
abbrev QmR:RC:=jQ QmL (.seq (.block 0 (jQ QmM (.cond (.t 3) (jQ QmN (.ret)) (jQ QmO (.cond (.t 7) (jQ QmP (.ret)) (.skip)))))) (jQ QmQ (.ret)))
abbrev QmS:List RR:=[.tmp 2]
theorem QOM:CT 237 15 QmR QmS:=ck Tryz.func237 Tryz.ntmps237 (by decide +kernel)
abbrev QmT:IL:=[jd 2 0]
abbrev QmU:IL:=[ja 5 0,⟨some 6,.val (.bin .num .and (.t 5) (.c (.int .u64 9218868437227405312))),none⟩,ja 7 0,⟨some 8,.val (.bin .num .and (.t 7) (.c (.int .u64 4503599627370495))),none⟩,ja 3 6,ja 4 8]
abbrev QmV:IL:=[ja 10 3,FN 11 10 9218868437227405312,ja 12 11,jk 13 4 12,⟨some 14,.val (.bin .num .neq (.t 13) (.c (.int .u64 0))),(some (12,true))⟩,jj 15 12 14,ja 9 15]
abbrev QmW:IL:=[jd 2 0]
abbrev QmX:IL:=[ja 17 3,FN 18 17 9218868437227405312,ja 16 18]
abbrev QmY:IL:=[jd 2 1]
abbrev QmZ:IL:=[ja 20 3,FN 21 20 0,ja 22 21,jk 23 4 22,⟨some 24,.val (.bin .num .eql (.t 23) (.c (.int .u64 0))),(some (22,true))⟩,jj 25 22 24,ja 19 25]
abbrev Qm0:IL:=[jd 2 2]
abbrev Qm1:IL:=[ja 27 3,FN 28 27 0,ja 26 28]
abbrev Qm2:IL:=[jd 2 3]
abbrev QcK:IL:=[jd 2 4]
abbrev Qm3:RC:=jQ QmT (.seq (jQ QmU (.block 0 (jQ QmV (.cond (.t 9) (jQ QmW (.ret)) (jQ QmX (.cond (.t 16) (jQ QmY (.ret)) (jQ QmZ (.cond (.t 19) (jQ Qm0 (.ret)) (jQ Qm1 (.cond (.t 26) (jQ Qm2 (.ret)) (.skip))))))))))) (jQ QcK (.ret)))
abbrev Qm4:List RR:=[.tmp 2]
theorem Et:CT 133 29 Qm3 Qm4:=ck Tryz.func133 Tryz.ntmps133 (by decide +kernel)
abbrev Qm5:IL:=[jf 1 1 0,⟨some 2,.val (.mov (.c (.nili))),none⟩]
abbrev Qm6:IL:=[jb 4 0 1,jc 5 4,jr 6 134 5,ja 3 6]
abbrev Qm7:IL:=[je 7 7 1,⟨some 8,.val (.mki 225 (.t 7)),none⟩,ja 2 8]
abbrev Qm8:IL:=[jb 10 0 1,jc 11 10,js 12 11 11,ja 9 12]
abbrev Qm9:IL:=[jb 13 3 1,jc 14 13,⟨some 15,.val (.mki 226 (.t 14)),none⟩,ja 2 15]
abbrev Qna:IL:=[jb 17 0 1,jc 18 17,js 19 18 12,ja 16 19]
abbrev Qnb:IL:=[jb 20 4 1,jc 21 20,⟨some 22,.val (.mki 228 (.t 21)),none⟩,ja 2 22]
abbrev Qnc:IL:=[jb 24 0 1,jc 25 24,js 26 25 10,ja 23 26]
abbrev Qnd:IL:=[jb 27 5 1,jc 28 27,jb 29 6 1,jc 30 29,⟨some 31,.val (.build [.nils,.nils] [(0,1,(.t 28)),(1,1,(.t 30))]),none⟩,⟨some 32,.val (.mki 231 (.t 31)),none⟩,ja 2 32]
abbrev Qne:IL:=[⟨some 2,.val (.mov (.c (.nili))),none⟩]
abbrev Qnf:RC:=jQ Qm5 (.seq (.block 0 (jQ Qm6 (.cond (.t 3) (jQ Qm7 (.ret)) (jQ Qm8 (.cond (.t 9) (jQ Qm9 (.ret)) (jQ Qna (.cond (.t 16) (jQ Qnb (.ret)) (jQ Qnc (.cond (.t 23) (jQ Qnd (.ret)) (.skip)))))))))) (jQ Qne (.ret)))
abbrev Qng:List RR:=[.tmp 2]
theorem Qnh:CT 183 33 Qnf Qng:=ck Tryz.func183 Tryz.ntmps183 (by decide +kernel)
abbrev Qni:IL:=[jf 2 2 0,jg 3]
abbrev Qnj:IL:=[jb 4 0 2,jc 5 4,jb 6 0 1,jc 7 6,ze 8 5 7,ja 3 8]
abbrev Qnk:RC:=jQ Qni (jQ Qnj (.ret))
abbrev Qnl:List RR:=[.tmp 3]
theorem Qnm:CT 116 9 Qnk Qnl:=ck Tryz.func116 Tryz.ntmps116 (by decide +kernel)
def Qnn:IL:=[jf 1 1 0,Cb 2 2,jd 3 0]
def Qno:IL:=[je 9 3 1,jr 10 17 9,yb 11 10]
def Qnp:IL:=[⟨some 12,.val (.build [.nils,.nils] []),none⟩,ji 2 2 12,jd 3 1]
def Qnq:IL:=[Cb 4 4]
def Qnr:IL:=[jb 13 0 1,jc 14 13,jh 15 1 14,jd 16 0]
def Qns:IL:=[jo 17 16 15]
def Qnt:IL:=[jm 18 5 14 16,je 19 5 18,zb 6 6,ji 5 6 19]
def Qnu:IL:=[jb 20 0 4,jx 21 0 4 20,jy 22 0 1 3 1,jy 23 0 6 5 6,jq 24 18 22 23,⟨some 25,.bsl 3 1 [.str [],.nils,.int .i64 0] [(0,3,(.t 24))],none⟩,yf 26 3 48 62 21 25,jb 27 0 4,za 0 4 1 27 26]
def Qnv:IL:=[jn 28 16 1,ja 16 28]
def Qnw:RC:=.gho (.drop 6) (jQ Qns (.seq (jX 17 0) (.seq (.block 1 (jQ Qnt (.draw Qnu))) (.reg Qnv))))
def Qnx:IL:=[jb 29 1 1,jc 30 29,jh 31 1 30,jd 32 0]
def I3:IL:=[jo 33 32 31]
def I4:IL:=[jm 34 5 30 32,je 35 5 34,zk 8 8,ji 5 8 35]
def I5:IL:=[jb 36 1 4,jx 37 0 4 36,jy 38 0 8 5 8,jr 39 19 38,⟨some 40,.bsl 5 1 [.str [],.bool false,.nils,.nils,.nils] [(0,5,(.t 39))],none⟩,yf 41 5 96 66 37 40,jb 42 1 4,za 0 4 1 42 41]
def I6:IL:=[jn 43 32 1,ja 32 43]
def Qny:RC:=.gho (.drop 8) (jQ I3 (.seq (jX 33 2) (.seq (.block 3 (jQ I4 (.draw I5))) (.reg I6))))
def I7:IL:=[je 44 2 4,ji 2 2 44,jd 3 0]
def r7:RC:=jQ Qnn (.seq (jQ Qno (.cond (.t 11) (jQ Qnp (.ret)) (.skip))) (jQ Qnq (.gho (.vecc 4 0 1100 3) (.gho (.vecc 4 1 1101 5) (.seq (jQ Qnr (.block 0 (.loop Qnw))) (.seq (jQ Qnx (.block 2 (.loop Qny))) (jQ I7 (.ret))))))))
def o7:List RR:=[.cell 2 (some 2),.tmp 3]
theorem k7:CT 7 45 r7 o7:=ck Tryz.func7 Tryz.ntmps7 (by decide +kernel)
def I8:IL:=[jf 1 1 0,zk 2 2]
def I9:IL:=[jb 9 0 1,jx 10 0 1 9,jb 11 1 1,jx 12 0 1 11,jb 13 3 1,jx 14 0 1 13,jr 15 52 14,⟨some 16,.val (.build [.str [],.bool false,.nils,.nils,.nils] [(0,1,(.t 10)),(1,1,(.t 12)),(3,1,(.t 15))]),none⟩,zk 3 3,za 0 3 5 3 16]
def La:IL:=[jb 17 2 1,jc 18 17,jh 19 1 18,jd 20 0]
def Lb:IL:=[jo 21 20 19]
def Lc:IL:=[jm 22 3 18 20,je 23 3 22,⟨some 5,.allocN 5 [.str [],.int .i64 0,.nils],none⟩,ji 3 5 23]
def Ld:IL:=[jb 24 0 5,jc 25 24,jb 26 1 5,jc 27 26,⟨some 28,.val (.build [.str [],.int .i64 0,.nils] [(0,1,(.t 25)),(1,1,(.t 27))]),none⟩,⟨some 6,.allocN 6 [.str [],.int .i64 0,.nils],none⟩,ji 3 6 28]
def Le:IL:=[jb 30 2 5,jc 31 30,⟨some 32,.call (.f 53) [(.t 31),(.c (.str [97,108,105,97,115]))],none⟩,ja 29 32,jv 33 29 0,jv 34 29 1,yi 7 7,ji 7 7 33,ja 8 34]
def M9:IL:=[ja 35 8]
def Lf:IL:=[je 36 7 7,⟨some 37,.val (.build [.str [],.int .i64 0,.int .u64 0,.str [],.nils,.nils,.nils,.nils] [(0,1,(.c (.str [97,108,105,97,115]))),(1,7,(.t 36))]),none⟩,⟨some 38,.bsl 8 1 [.str [],.int .i64 0,.int .u64 0,.str [],.nils,.nils,.nils,.nils] [(0,8,(.t 37))],none⟩,jb 39 2 6,ji 1 39 38]
def Pa:IL:=[jb 40 2 3,jc 41 40,je 42 3 6,⟨some 43,.bsl 3 1 [.str [],.int .i64 0,.nils] [(0,3,(.t 42))],none⟩,yf 44 3 48 123 41 43,jb 45 2 3,ji 1 45 44]
def Nc:IL:=[jn 46 20 1,ja 20 46]
def QFI:RC:=.gho (.drop 7) (.gho (.drop 6) (.gho (.drop 5) (jQ Lb (.seq (jX 21 0) (.seq (.block 1 (jQ Lc (jQ Ld (.seq (jQ Le (jQ M9 (.cond (.t 35) (.reg Lf) (.skip)))) (.reg Pa))))) (.reg Nc))))))
def RU:IL:=[je 47 5 3,ji 5 2 47]
def r19:RC:=jQ I8 (jD I9 (.gho (.vecc 3 2 1100 3) (.seq (jQ La (.block 0 (.loop QFI))) (jQ RU (.ret)))))
def o19:List RR:=[.cell 2 (some 5)]
theorem k19:CT 19 48 r19 o19:=ck Tryz.func19 Tryz.ntmps19 (by decide +kernel)
abbrev QFJ:IL:=[yi 4 4,jg 5]
abbrev QFK:IL:=[ja 7 0,ja 8 1,jq 9 108 7 8,ja 6 9]
abbrev QFL:IL:=[ja 10 6,yk 11 10 0]
abbrev QFM:IL:=[⟨some 12,.val (.build [.int .i64 0,.int .u64 0,.str [],.nils,.nils,.nils,.nils] []),none⟩,ji 7 4 12,jg 5]
abbrev QFN:IL:=[ja 13 0,ja 14 6,jm 15 8 13 14,jb 16 1 15,je 17 7 16,ji 7 4 17,yg 5]
abbrev r53:RC:=jQ QFJ (jQ QFK (.seq (jQ QFL (.cond (.t 11) (jQ QFM (.ret)) (.skip))) (jQ QFN (.ret))))
abbrev o53:List RR:=[.cell 4 (some 7),.tmp 5]
theorem k53:CT 53 18 r53 o53:=ck Tryz.func53 Tryz.ntmps53 (by decide +kernel)
abbrev QnB:IL:=[jf 3 3 1,jd 4 0]
abbrev QnC:IL:=[ja 5 0,yz 6 164 3,yh 7 163 5 6,ja 4 7]
abbrev QnD:RC:=jQ QnB (jQ QnC (.ret))
abbrev QnE:List RR:=[.tmp 4]
theorem QnF:CT 108 8 QnD QnE:=ck Tryz.func108 Tryz.ntmps108 (by decide +kernel)
abbrev QnG:IL:=[jd 4 0]
abbrev QnH:IL:=[ja 6 0,jh 7 1 6,jd 8 0]
abbrev QnI:IL:=[jo 9 8 7]
abbrev QnJ:IL:=[ja 10 8,ja 5 10]
abbrev QnK:IL:=[ja 11 1,ja 12 0,ja 13 5,jm 14 8 12 13,je 15 8 14,zi 16 11 15]
abbrev QnL:IL:=[ja 17 5,ja 4 17]
abbrev QnM:IL:=[jn 18 8 1,ja 8 18]
abbrev QnN:RC:=jQ QnI (.seq (jX 9 0) (.seq (.block 1 (jQ QnJ (jQ QnK (.cond (.t 16) (jQ QnL (.ret)) (.skip))))) (.reg QnM)))
abbrev QnO:IL:=[jd 4 (-1)]
abbrev QnP:RC:=jQ QnG (.seq (jQ QnH (.block 0 (.loop QnN))) (jQ QnO (.ret)))
abbrev QnQ:List RR:=[.tmp 4]
theorem QnR:CT 163 19 QnP QnQ:=ck Tryz.func163 Tryz.ntmps163 (by decide +kernel)
abbrev QnS:IL:=[jf 2 2 0,jg 3]
abbrev QnT:IL:=[jb 4 0 2,jc 5 4,jc 6 1,yv 7 5 6,ja 3 7]
abbrev QnU:RC:=jQ QnS (jQ QnT (.ret))
abbrev QnV:List RR:=[.tmp 3]
theorem QnW:CT 164 8 QnU QnV:=ck Tryz.func164 Tryz.ntmps164 (by decide +kernel)
abbrev QFO:IL:=[yd 2]
abbrev QFP:IL:=[ja 3 0,Cd 4 3]
abbrev QFQ:IL:=[yd 2]
abbrev QFR:IL:=[⟨some 5,.bsl0 5 2,none⟩,ja 6 0,yf 7 2 16 121 5 6,ja 2 7]
abbrev r52:RC:=jQ QFO (.seq (jQ QFP (.cond (.t 4) (jQ QFQ (.gho (.vec 2 2 2) (.ret))) (.skip))) (jQ QFR (.ret)))
abbrev o52:List RR:=[.tmp 2]
theorem k52:CT 52 8 r52 o52:=ck Tryz.func52 Tryz.ntmps52 (by decide +kernel)
def Lg:IL:=[jf 2 2 0,jf 3 3 1,⟨some 4,.allocN 4 [.str [],.nils,.int .i64 0],none⟩]
def Lh:IL:=[jb 10 0 3,jc 11 10,⟨some 12,.val (.build [.str [],.nils,.int .i64 0] [(0,1,(.t 11))]),none⟩,⟨some 5,.allocN 5 [.str [],.nils,.int .i64 0],none⟩,ji 3 5 12]
def Li:IL:=[yd 6]
def Lj:IL:=[jb 13 1 3,jc 14 13,jh 15 1 14,jd 16 0]
def Lk:IL:=[jo 17 16 15]
def Ll:IL:=[jm 18 16 14 16,je 19 16 18,yx 8 8,ji 16 8 19]
def Lm:IL:=[jb 20 0 8,jx 21 0 8 20,jb 22 1 8,jx 23 0 8 22,jb 24 15 8,jx 25 0 8 24,jr 26 48 25,jb 27 2 8,jx 28 0 8 27,jb 29 3 8,jx 30 0 8 29,jb 31 4 8,jb 32 0 31,jx 33 0 8 32,jy 34 0 2 3 2,jb 35 4 8,jy 36 0 8 2 35,jq 37 49 34 36,⟨some 38,.val (.build [.int .i64 0,.str [],.str [],.int .i64 0,.int .i64 0,.int .i64 0,.int .i64 0,.int .i64 0] [(0,1,(.t 21)),(1,1,(.t 23)),(2,1,(.t 26)),(3,1,(.t 28)),(4,1,(.t 30)),(5,1,(.t 33)),(6,1,(.t 37)),(7,1,(.c (.int .i64 (-1))))]),none⟩,FJ 9 9,za 0 9 8 9 38]
def Ln:IL:=[jb 39 6 8,jc 40 39,⟨some 41,.val (.bin .str .neq (.t 40) (.c (.str []))),none⟩]
def Lo:IL:=[ja 42 6,jb 43 6 8,jc 44 43,jq 45 50 42 44,yb 46 45]
def Lp:IL:=[ja 47 6,jb 48 6 8,jc 49 48,FP 50 1 1 0 1 49,yf 51 1 16 9 47 50,ja 6 51]
def Nd:IL:=[ja 52 6,jb 53 6 8,jc 54 53,jq 55 51 52 54,jb 56 7 9,ji 1 56 55]
def GV:IL:=[jb 57 1 5,jc 58 57,je 59 8 9,⟨some 60,.bsl 8 1 [.int .i64 0,.str [],.str [],.int .i64 0,.int .i64 0,.int .i64 0,.int .i64 0,.int .i64 0] [(0,8,(.t 59))],none⟩,yf 61 8 80 82 58 60,jb 62 1 5,ji 1 62 61]
def GW:IL:=[jn 63 16 1,ja 16 63]
def QFS:RC:=.gho (.drop 9) (.gho (.drop 8) (jQ Lk (.seq (jX 17 0) (.seq (.block 1 (jQ Ll (jD Lm (.seq (jQ Ln (.cond (.t 41) (.seq (jQ Lo (.cond (.t 46) (.reg Lp) (.skip))) (.reg Nd)) (.skip))) (.reg GV))))) (.reg GW)))))
def RV:IL:=[ja 64 6,jh 65 1 64,jb 66 2 5,ji 1 66 65]
def RX:IL:=[je 67 3 5,ji 3 4 67]
def r18:RC:=jQ Lg (jQ Lh (.gho (.vecc 5 1 1100 8) (jQ Li (.gho (.vec 6 6 1) (.seq (jQ Lj (.block 0 (.loop QFS))) (jQ RV (jQ RX (.ret))))))))
def o18:List RR:=[.cell 4 (some 3)]
theorem k18:CT 18 68 r18 o18:=ck Tryz.func18 Tryz.ntmps18 (by decide +kernel)
abbrev QFT:IL:=[jd 4 0]
abbrev QFU:IL:=[ja 6 0,jh 7 1 6,jd 8 0]
abbrev QFV:IL:=[jo 9 8 7]
abbrev QFW:IL:=[ja 10 8,ja 5 10]
abbrev QFX:IL:=[ja 11 1,ja 12 0,ja 13 5,jm 14 1 12 13,jc 15 14,yv 16 11 15]
abbrev QFY:IL:=[ja 17 5,ja 4 17]
abbrev QFZ:IL:=[jn 18 8 1,ja 8 18]
abbrev QF0:RC:=jQ QFV (.seq (jX 9 0) (.seq (.block 1 (jQ QFW (jQ QFX (.cond (.t 16) (jQ QFY (.ret)) (.skip))))) (.reg QFZ)))
abbrev QF1:IL:=[jd 4 (-1)]
abbrev r51:RC:=jQ QFT (.seq (jQ QFU (.block 0 (.loop QF0))) (jQ QF1 (.ret)))
abbrev o51:List RR:=[.tmp 4]
theorem k51:CT 51 19 r51 o51:=ck Tryz.func51 Tryz.ntmps51 (by decide +kernel)
abbrev QF2:IL:=[jg 4]
abbrev QF3:IL:=[ja 5 0,ja 6 1,jq 7 51 5 6,yj 8 7 0,ja 4 8]
abbrev r50:RC:=jQ QF2 (jQ QF3 (.ret))
abbrev RY:List RR:=[.tmp 4]
theorem k50:CT 50 9 r50 RY:=ck Tryz.func50 Tryz.ntmps50 (by decide +kernel)
abbrev QF4:IL:=[jf 2 2 0,jf 3 3 1,jd 4 0]
abbrev QF5:IL:=[jb 5 0 3,jc 6 5]
abbrev QF6:IL:=[js 8 6 10,ja 7 8]
abbrev QF7:IL:=[jb 9 0 2,jc 10 9,yz 11 105 3,yh 12 104 10 11,ja 4 12]
abbrev QF8:IL:=[js 14 6 9,ja 13 14]
abbrev QF9:IL:=[jb 15 1 2,jc 16 15,yz 17 107 3,yh 18 106 16 17,ja 4 18]
abbrev QGa:IL:=[jd 4 (-1)]
abbrev r49:RC:=jQ QF4 (.seq (jQ QF5 (.block 0 (jQ QF6 (.cond (.t 7) (jQ QF7 (.ret)) (jQ QF8 (.cond (.t 13) (jQ QF9 (.ret)) (.skip))))))) (jQ QGa (.ret)))
abbrev o49:List RR:=[.tmp 4]
theorem k49:CT 49 19 r49 o49:=ck Tryz.func49 Tryz.ntmps49 (by decide +kernel)
abbrev QnZ:IL:=[jd 4 0]
abbrev Qn0:IL:=[ja 6 0,jh 7 1 6,jd 8 0]
abbrev Qn1:IL:=[jo 9 8 7]
abbrev Qn2:IL:=[ja 10 8,ja 5 10]
abbrev Qn3:IL:=[ja 11 1,ja 12 0,ja 13 5,jm 14 5 12 13,je 15 5 14,zi 16 11 15]
abbrev Qn4:IL:=[ja 17 5,ja 4 17]
abbrev Qn5:IL:=[jn 18 8 1,ja 8 18]
abbrev Qn6:RC:=jQ Qn1 (.seq (jX 9 0) (.seq (.block 1 (jQ Qn2 (jQ Qn3 (.cond (.t 16) (jQ Qn4 (.ret)) (.skip))))) (.reg Qn5)))
abbrev Qn7:IL:=[jd 4 (-1)]
abbrev Qn8:RC:=jQ QnZ (.seq (jQ Qn0 (.block 0 (.loop Qn6))) (jQ Qn7 (.ret)))
abbrev Qn9:List RR:=[.tmp 4]
theorem Qoa:CT 106 19 Qn8 Qn9:=ck Tryz.func106 Tryz.ntmps106 (by decide +kernel)
abbrev Qob:IL:=[jf 2 2 0,jg 3]
abbrev Qoc:IL:=[jb 4 0 2,jc 5 4,jb 6 1 1,jc 7 6,yv 8 5 7,ja 3 8]
abbrev Qod:RC:=jQ Qob (jQ Qoc (.ret))
abbrev Qoe:List RR:=[.tmp 3]
theorem Qof:CT 107 9 Qod Qoe:=ck Tryz.func107 Tryz.ntmps107 (by decide +kernel)
abbrev Qog:IL:=[jd 4 0]
abbrev Qoh:IL:=[ja 6 0,jh 7 1 6,jd 8 0]
abbrev Qoi:IL:=[jo 9 8 7]
abbrev Qoj:IL:=[ja 10 8,ja 5 10]
abbrev Qok:IL:=[ja 11 1,ja 12 0,ja 13 5,jm 14 5 12 13,je 15 5 14,zi 16 11 15]
abbrev Qol:IL:=[ja 17 5,ja 4 17]
abbrev Qom:IL:=[jn 18 8 1,ja 8 18]
abbrev Qon:RC:=jQ Qoi (.seq (jX 9 0) (.seq (.block 1 (jQ Qoj (jQ Qok (.cond (.t 16) (jQ Qol (.ret)) (.skip))))) (.reg Qom)))
abbrev Qoo:IL:=[jd 4 (-1)]
abbrev Qop:RC:=jQ Qog (.seq (jQ Qoh (.block 0 (.loop Qon))) (jQ Qoo (.ret)))
abbrev Qoq:List RR:=[.tmp 4]
theorem Qor:CT 104 19 Qop Qoq:=ck Tryz.func104 Tryz.ntmps104 (by decide +kernel)
abbrev Qos:IL:=[jf 2 2 0,jg 3]
abbrev Qot:IL:=[jb 4 0 2,jc 5 4,jb 6 1 1,jc 7 6,yv 8 5 7,ja 3 8]
abbrev Qou:RC:=jQ Qos (jQ Qot (.ret))
abbrev Qov:List RR:=[.tmp 3]
theorem Qow:CT 105 9 Qou Qov:=ck Tryz.func105 Tryz.ntmps105 (by decide +kernel)
abbrev QGb:IL:=[GR 2]
abbrev QGc:IL:=[ja 6 0,⟨some 7,.call (.f 53) [(.t 6),(.c (.str [97,108,105,97,115]))],none⟩,ja 5 7,jv 8 5 0,jv 9 5 1,yi 3 3,ji 7 3 8,ja 4 9]
abbrev QGd:IL:=[jb 10 2 3,jc 11 10,ja 2 11]
abbrev r48:RC:=jQ QGb (jQ QGc (jQ QGd (.ret)))
abbrev o48:List RR:=[.tmp 2]
theorem k48:CT 48 12 r48 o48:=ck Tryz.func48 Tryz.ntmps48 (by decide +kernel)
abbrev QGe:IL:=[jf 1 1 0,jg 2]
abbrev QGf:IL:=[je 3 3 1,jr 4 47 3,jh 5 1 4,js 6 5 0,ja 2 6]
abbrev r17:RC:=jQ QGe (jQ QGf (.ret))
abbrev o17:List RR:=[.tmp 2]
theorem k17:CT 17 7 r17 o17:=ck Tryz.func17 Tryz.ntmps17 (by decide +kernel)
def Lq:IL:=[jf 1 1 0,yd 2]
def Lr:IL:=[⟨some 14,.val (.build [.str [],.int .i64 0,.nils] [(1,1,(.c (.int .i64 (-1))))]),none⟩,jf 15 15 14,ja 3 15]
def Lt:IL:=[je 16 3 1,jr 17 96 16,⟨some 4,.allocN 4 [.nils,.nils,.nils],none⟩,ji 3 4 17]
def Lu:IL:=[je 18 3 4,jd 19 0]
def Lv:IL:=[yk 20 19 3]
def Be:IL:=[⟨some 21,.val (.aidx 3 1 none (.t 18) (.t 19)),none⟩,ja 6 21]
def Pb:IL:=[ja 22 3,ja 23 6,jh 24 1 23,zu 25 24 64,ye 26 97 22 25 3]
def Pd:IL:=[ja 27 3,ja 28 6,jr 29 98 28,ye 30 97 27 29 11]
def Pe:IL:=[jn 31 19 1,ja 19 31]
def Pf:RC:=jQ Lv (.seq (jX 20 0) (.seq (.block 1 (jQ Be (jQ Pb (.reg Pd)))) (.reg Pe)))
def Lw:IL:=[ja 32 3,je 33 3 4,jr 34 99 33,ye 35 97 32 34 9]
def RZ:IL:=[je 36 3 1,jr 37 100 36,ja 7 37]
def R0:IL:=[jb 38 0 1,jc 39 38,jh 40 1 39,jd 41 0]
def R1:IL:=[jo 42 41 40]
def R2:IL:=[jm 43 5 39 41,je 44 5 43,zb 9 9,ji 5 9 44]
def R3:IL:=[ja 45 3,ja 46 3,yo 47 46,jb 48 2 47,jc 49 48,jy 50 0 1 3 1,jy 51 0 9 5 9,ja 52 7,yr 53 101 50 51 52,yf 54 3 32 153 49 53,yo 55 45,jb 56 2 55,ji 1 56 54]
def R4:IL:=[jn 57 41 1,ja 41 57]
def Lx:RC:=.gho (.drop 9) (jQ R1 (.seq (jX 42 2) (.seq (.block 3 (jQ R2 (.draw R3))) (.reg R4))))
def R6:IL:=[jb 58 1 1,jc 59 58,jh 60 1 59,jd 61 0]
def R7:IL:=[jo 62 61 60]
def R8:IL:=[jm 63 5 59 61,je 64 5 63,zk 11 11,ji 5 11 64]
def R9:IL:=[ja 65 3,ja 66 3,yo 67 66,jb 68 2 67,jc 69 68,jy 70 0 11 5 11,jr 71 102 70,yf 72 3 32 153 69 71,yo 73 65,jb 74 2 73,ji 1 74 72]
def Sa:IL:=[jn 75 61 1,ja 61 75]
def Ly:RC:=.gho (.drop 11) (jQ R7 (.seq (jX 62 4) (.seq (.block 5 (jQ R8 (.draw R9))) (.reg Sa))))
def Sb:IL:=[jb 76 2 1,jc 77 76,jh 78 1 77,jd 79 0]
def Sc:IL:=[jo 80 79 78]
def Sd:IL:=[jm 81 3 77 79,je 82 3 81,⟨some 13,.allocN 13 [.str [],.nils,.nils],none⟩,ji 3 13 82]
def Se:IL:=[ja 83 3,ja 84 3,yo 85 84,jb 86 2 85,jc 87 86,jy 88 0 1 3 1,jy 89 0 13 3 13,jq 90 103 88 89,yf 91 3 32 153 87 90,yo 92 83,jb 93 2 92,ji 1 93 91]
def Sf:IL:=[jn 94 79 1,ja 79 94]
def Lz:RC:=.gho (.drop 13) (jQ Sc (.seq (jX 80 6) (.seq (.block 7 (jQ Sd (.draw Se))) (.reg Sf))))
def Sg:IL:=[ja 95 3,yo 96 95,jb 97 2 96,jc 98 97,ja 2 98]
def r47:RC:=jQ Lq (jQ Lr (.gho (.vecc 15 2 1100 3) (jQ Lt (.seq (jQ Lu (.block 0 (.loop Pf))) (jQ Lw (jQ RZ (.seq (jQ R0 (.block 2 (.loop Lx))) (.seq (jQ R6 (.block 4 (.loop Ly))) (.seq (jQ Sb (.block 6 (.loop Lz))) (jQ Sg (.ret)))))))))))
def o47:List RR:=[.tmp 2]
theorem k47:CT 47 99 r47 o47:=ck Tryz.func47 Tryz.ntmps47 (by decide +kernel)
def Sh:IL:=[jf 2 2 0,jf 3 3 1,yd 4]
def Si:IL:=[jb 12 0 3,jc 13 12,⟨some 14,.val (.build [.str [],.int .i64 0,.nils] [(0,1,(.t 13)),(1,1,(.c (.int .i64 (-1))))]),none⟩,jf 15 15 14,ja 5 15]
def Sj:IL:=[ja 16 5,jb 17 0 3,jc 18 17,jr 19 153 18,ye 20 97 16 19 8]
def Sk:IL:=[ja 21 5,jb 22 1 3,jc 23 22,jh 24 1 23,zu 25 24 64,ye 26 97 21 25 3]
def Sl:IL:=[jb 27 1 3,jc 28 27,jh 29 1 28,jd 30 0]
def Sm:IL:=[jo 31 30 29]
def Sn:IL:=[ja 32 30,jm 33 5 28 30,je 34 5 33,⟨some 7,.allocN 7 [.str [],.str [],.str [],.int .i64 0,.nils],none⟩,ja 6 32,ji 5 7 34]
def Sp:IL:=[ja 35 5,ja 36 6,yo 37 35,jb 38 1 37,ji 1 38 36]
def Nf:IL:=[ja 39 5,jb 40 0 7,jc 41 40,jr 42 159 41,ye 43 97 39 42 8]
def GX:IL:=[ja 44 5,ja 45 6,js 46 45 0,ja 47 46,ju 48 0 7 47,yw 49 0 7 48 47,ju 50 1 3 47,yw 51 0 3 50 47,jw 52 6 47,Ch 53 52 1 47,zv 54 5 51 53 47,ju 55 0 54 47,HB 56 55 47,⟨some 57,.val (.bin .str .gtr (.t 49) (.t 56)),(some (47,false))⟩,jt 58 47 57,ye 59 97 44 58 11]
def Cq:IL:=[je 61 3 2,jb 62 1 7,jc 63 62,jq 64 150 61 63,ja 60 64,jv 65 60 0,jv 66 60 1,zb 8 8,ji 5 8 65,ja 9 66]
def Cr:IL:=[je 68 3 2,jb 69 2 7,jc 70 69,jq 71 150 68 70,ja 67 71,jv 72 67 0,jv 73 67 1,zb 10 10,ji 5 10 72,ja 11 73]
def DP:IL:=[ja 74 5,ja 75 9,ja 76 75,jk 77 11 76,jj 78 76 77,ye 79 97 74 78 12]
def DQ:IL:=[ja 80 5,jb 81 3 7,jc 82 81,yj 83 82 1,ja 84 83,jl 85 3 7 84,jp 86 85 84,ym 87 86 4 84,jj 88 84 87,ye 89 97 80 88 1]
def DR:IL:=[ja 90 5,jb 91 4 7,jc 92 91,ye 93 157 90 92 6]
def Ct:IL:=[jn 94 30 1,ja 30 94]
def Sq:RC:=.gho (.drop 10) (.gho (.drop 8) (.gho (.drop 7) (jQ Sm (.seq (jX 31 0) (.seq (.block 1 (jQ Sn (jQ Sp (jQ Nf (jD GX (jQ Cq (jQ Cr (jQ DP (jQ DQ (.reg DR)))))))))) (.reg Ct))))))
def Cu:IL:=[ja 95 5,yo 96 95,jb 97 1 96,⟨none,.store 1 (.t 97) (.c (.int .i64 (-1))),none⟩]
def Cv:IL:=[ja 98 5,jb 99 2 3,jc 100 99,ye 101 157 98 100 5]
def Cw:IL:=[ja 102 5,yo 103 102,jb 104 2 103,jc 105 104,ja 4 105]
def Eu:RC:=jQ Sh (jQ Si (.gho (.vecc 15 2 1100 3) (jQ Sj (jQ Sk (.seq (jQ Sl (.block 0 (.loop Sq))) (jQ Cu (jQ Cv (jQ Cw (.ret)))))))))
def Ew:List RR:=[.tmp 4]
theorem Qoz:CT 103 106 Eu Ew:=ck Tryz.func103 Tryz.ntmps103 (by decide +kernel)
abbrev QoA:IL:=[ja 7 1,ja 8 2,jq 9 215 7 8,ja 6 9]
abbrev QoB:IL:=[ja 10 0,ja 11 6,js 12 11 0,ja 13 6,⟨some 14,.callF (.f 97) [(.t 10),(.t 12),(.t 13)],none⟩]
abbrev QoC:RC:=jQ QoA (.reg QoB)
abbrev QoD:List RR:=[]
theorem Ex:CT 157 15 QoC QoD:=ck Tryz.func157 Tryz.ntmps157 (by decide +kernel)
abbrev QGg:IL:=[ja 6 1,yb 7 6]
abbrev QGh:IL:=[ja 8 0,ja 9 0,yo 10 9,jb 11 2 10,RK 12 11,ja 13 0,yo 14 13,jb 15 0 14,RK 16 15,ja 17 0,yo 18 17,jb 19 1 18,RK 20 19,ja 21 2,⟨some 22,.val (.build [.str [],.int .i64 0,.int .i64 0] [(0,1,(.t 16)),(1,1,(.t 20)),(2,1,(.t 21))]),none⟩,⟨some 23,.bsl 3 1 [.str [],.int .i64 0,.int .i64 0] [(0,3,(.t 22))],none⟩,yf 24 3 32 153 12 23,yo 25 8,jb 26 2 25,ji 1 26 24]
abbrev r97:RC:=jQ QGg (.cond (.t 7) (.draw QGh) (.skip))
abbrev o97:List RR:=[]
theorem Ng:CT 97 27 r97 o97:=ck Tryz.func97 Tryz.ntmps97 (by decide +kernel)
abbrev QoE:IL:=[jd 4 0]
abbrev QoF:IL:=[ja 9 0,jh 10 1 9,yl 11 10 8]
abbrev QoG:IL:=[jd 4 3]
abbrev QoH:IL:=[GR 5]
abbrev QoI:IL:=[ja 12 0,jh 13 1 12,jd 14 0]
abbrev QoJ:IL:=[jo 15 14 13]
abbrev QoK:IL:=[ja 16 14,jm 17 8 12 14,je 18 8 17,⟨some 7,.allocN 7 [.str [],.int .i64 0,.int .u64 0,.str [],.nils,.nils,.nils,.nils],none⟩,ja 6 16,ji 8 7 18]
abbrev QoL:IL:=[je 19 8 7,ja 20 1,ja 21 5,ja 22 6,yl 23 22 0,zn 24 251 19 20 21 23,ja 8 24]
abbrev QoM:IL:=[ja 25 8,ya 26 25 0]
abbrev QoN:IL:=[ja 27 8,ja 4 27]
abbrev QcL:IL:=[jb 28 0 7,jc 29 28,ja 5 29]
abbrev QcM:IL:=[jn 30 14 1,ja 14 30]
abbrev QoO:RC:=.gho (.drop 7) (jQ QoJ (.seq (jX 15 0) (.seq (.block 1 (jQ QoK (.seq (jQ QoL (jQ QoM (.cond (.t 26) (jQ QoN (.ret)) (.skip)))) (.reg QcL)))) (.reg QcM))))
abbrev QcN:IL:=[jd 4 0]
abbrev QoP:RC:=jQ QoE (.seq (jQ QoF (.cond (.t 11) (jQ QoG (.ret)) (.skip))) (jQ QoH (.seq (jQ QoI (.block 0 (.loop QoO))) (jQ QcN (.ret)))))
abbrev QoQ:List RR:=[.tmp 4]
theorem QoR:CT 215 31 QoP QoQ:=ck Tryz.func215 Tryz.ntmps215 (by decide +kernel)
abbrev QoS:IL:=[jf 4 4 0,jd 8 0]
abbrev QoT:IL:=[⟨some 12,.call (.f 265) [],none⟩,jb 13 0 4,jx 14 0 4 13,⟨some 15,.val (.mgetp true (.agg [.int .i64 0,.int .i64 0]) (.t 12) (.t 14)),none⟩,ja 11 15,jv 16 11 0,jv 17 11 1,⟨some 9,.allocN 9 [.int .i64 0,.int .i64 0],none⟩,za 0 9 2 9 16,ja 10 17]
abbrev QoU:IL:=[ja 19 10,yb 20 19,ja 18 20]
abbrev QoV:IL:=[jd 8 8]
abbrev QoW:IL:=[ja 22 1,yk 23 22 1,ja 24 23,jw 25 1 24,zg 26 25 6 24,jt 27 24 26,ja 28 27,ju 29 1 9 28,jz 30 29 28,jw 31 1 28,⟨some 32,.val (.bin .num .shr (.t 30) (.t 31)),(some (28,false))⟩,⟨some 33,.val (.bin .num .and (.t 32) (.c (.int .i64 1))),(some (28,false))⟩,zf 34 33 0 28,jt 35 28 34,ja 21 35]
abbrev QoX:IL:=[jd 8 1]
abbrev QoY:IL:=[je 37 8 4,jr 38 266 37,yb 39 38,ja 36 39]
abbrev QoZ:IL:=[jd 8 12]
abbrev Qo0:IL:=[ja 41 3,ja 42 41,jl 43 0 4 42,jp 44 43 42,jk 45 2 42,⟨some 46,.val (.bin .str .lss (.t 44) (.t 45)),(some (42,true))⟩,jj 47 42 46,ja 40 47]
abbrev Qo1:IL:=[jd 8 11]
abbrev QcO:IL:=[ja 49 3,ja 50 49,jl 51 0 4 50,jp 52 51 50,jk 53 2 50,FM 54 52 53 50,jj 55 50 54,ja 48 55]
abbrev QcP:IL:=[jd 8 9]
abbrev QcQ:IL:=[jd 8 0]
abbrev Qo2:RC:=jQ QoS (jD QoT (.seq (.block 0 (jQ QoU (.cond (.t 18) (jQ QoV (.ret)) (jQ QoW (.cond (.t 21) (jQ QoX (.ret)) (jQ QoY (.cond (.t 36) (jQ QoZ (.ret)) (jQ Qo0 (.cond (.t 40) (jQ Qo1 (.ret)) (jQ QcO (.cond (.t 48) (jQ QcP (.ret)) (.skip)))))))))))) (jQ QcQ (.ret))))
abbrev Qo3:List RR:=[.tmp 8]
theorem Qo4:CT 251 56 Qo2 Qo3:=ck Tryz.func251 Tryz.ntmps251 (by decide +kernel)
abbrev Qo5:IL:=[jf 1 1 0,jg 2]
abbrev Qo6:IL:=[jb 4 0 1,jc 5 4,jr 6 273 5,ja 3 6]
abbrev Qo7:IL:=[ja 7 3,ya 8 7 0,ja 9 8,jk 10 3 9,jl 11 1 1 9,zm 12 7 11 9,Ci 13 248 10 12 9,jj 14 9 13,ja 2 14]
abbrev Qo8:RC:=jQ Qo5 (jQ Qo6 (jQ Qo7 (.ret)))
abbrev Qo9:List RR:=[.tmp 2]
theorem Qpa:CT 266 15 Qo8 Qo9:=ck Tryz.func266 Tryz.ntmps266 (by decide +kernel)
abbrev Qpb:IL:=[jd 2 0]
abbrev Qpc:IL:=[⟨some 3,.call (.f 265) [],none⟩,ja 4 0,⟨some 5,.val (.mget false (.agg [.int .i64 0,.int .i64 0]) (.t 3) (.t 4)),none⟩,⟨some 6,.val (.fld 0 none (.t 5)),none⟩,ja 2 6]
abbrev Qpd:RC:=jQ Qpb (jQ Qpc (.ret))
abbrev Qpe:List RR:=[.tmp 2]
theorem Qpf:CT 273 7 Qpd Qpe:=ck Tryz.func273 Tryz.ntmps273 (by decide +kernel)
abbrev Qpg:IL:=[⟨some 0,.val (.mov (.c (.nilm))),none⟩]
abbrev Qph:IL:=[⟨some 1,.mkm 1,none⟩,⟨some 2,.val (.build [.int .i64 0,.int .i64 0] [(0,1,(.c (.int .i64 1))),(1,1,(.c (.int .i64 126)))]),none⟩,⟨none,.mput (.t 1) (.c (.str [100,101,112,114,101,99,97,116,101,100])) (.t 2),none⟩,⟨some 3,.val (.build [.int .i64 0,.int .i64 0] [(0,1,(.c (.int .i64 7))),(1,1,(.c (.int .i64 126)))]),none⟩,⟨none,.mput (.t 1) (.c (.str [100,111,99])) (.t 3),none⟩,⟨some 4,.val (.build [.int .i64 0,.int .i64 0] [(0,1,(.c (.int .i64 7))),(1,1,(.c (.int .i64 84)))]),none⟩,⟨none,.mput (.t 1) (.c (.str [97,108,105,97,115])) (.t 4),none⟩,⟨some 5,.val (.build [.int .i64 0,.int .i64 0] [(0,1,(.c (.int .i64 4))),(1,1,(.c (.int .i64 84)))]),none⟩,⟨none,.mput (.t 1) (.c (.str [115,105,110,99,101])) (.t 5),none⟩,⟨some 6,.val (.build [.int .i64 0,.int .i64 0] [(0,1,(.c (.int .i64 4))),(1,1,(.c (.int .i64 84)))]),none⟩,⟨none,.mput (.t 1) (.c (.str [117,110,116,105,108])) (.t 6),none⟩,⟨some 7,.val (.build [.int .i64 0,.int .i64 0] [(0,1,(.c (.int .i64 3))),(1,1,(.c (.int .i64 4)))]),none⟩,⟨none,.mput (.t 1) (.c (.str [109,105,110])) (.t 7),none⟩,⟨some 8,.val (.build [.int .i64 0,.int .i64 0] [(0,1,(.c (.int .i64 3))),(1,1,(.c (.int .i64 4)))]),none⟩,⟨none,.mput (.t 1) (.c (.str [109,97,120])) (.t 8),none⟩,⟨some 9,.val (.build [.int .i64 0,.int .i64 0] [(0,1,(.c (.int .i64 4))),(1,1,(.c (.int .i64 4)))]),none⟩,⟨none,.mput (.t 1) (.c (.str [108,101,110,103,116,104])) (.t 9),none⟩,⟨some 10,.val (.build [.int .i64 0,.int .i64 0] [(0,1,(.c (.int .i64 1))),(1,1,(.c (.int .i64 4)))]),none⟩,⟨none,.mput (.t 1) (.c (.str [115,101,99,114,101,116])) (.t 10),none⟩,⟨some 11,.val (.build [.int .i64 0,.int .i64 0] [(0,1,(.c (.int .i64 1))),(1,1,(.c (.int .i64 64)))]),none⟩,⟨none,.mput (.t 1) (.c (.str [105,100,101,109,112,111,116,101,110,116])) (.t 11),none⟩,⟨some 12,.val (.build [.int .i64 0,.int .i64 0] [(0,1,(.c (.int .i64 4))),(1,1,(.c (.int .i64 64)))]),none⟩,⟨none,.mput (.t 1) (.c (.str [116,105,109,101,111,117,116])) (.t 12),none⟩,⟨some 13,.val (.build [.int .i64 0,.int .i64 0] [(0,1,(.c (.int .i64 7))),(1,1,(.c (.int .i64 64)))]),none⟩,⟨none,.mput (.t 1) (.c (.str [114,111,117,116,101])) (.t 13),none⟩,⟨some 14,.val (.build [.int .i64 0,.int .i64 0] [(0,1,(.c (.int .i64 7))),(1,1,(.c (.int .i64 34)))]),none⟩,⟨none,.mput (.t 1) (.c (.str [111,119,110,101,114])) (.t 14),none⟩,ja 15 1,ja 0 15]
abbrev Ey:RC:=jQ Qpg (jQ Qph (.ret))
abbrev EA:List RR:=[.tmp 0]
theorem Qpi:CT 265 16 Ey EA:=ck Tryz.func265 Tryz.ntmps265 (by decide +kernel)
abbrev Qpj:IL:=[jf 2 2 0,jf 3 3 1,zb 4 4,jg 5]
abbrev Qpk:IL:=[jb 7 0 2,jc 8 7,yz 9 204 3,yh 10 104 8 9,ja 6 10]
abbrev Qpl:IL:=[ja 11 6,yk 12 11 0]
abbrev Qpm:IL:=[⟨some 13,.val (.build [.str [],.nils,.nils,.nils,.nils] []),none⟩,ji 5 4 13,jg 5]
abbrev Qpn:IL:=[jb 14 0 2,jc 15 14,ja 16 6,jm 17 5 15 16,je 18 5 17,ji 5 4 18,yg 5]
abbrev Qpo:RC:=jQ Qpj (jQ Qpk (.seq (jQ Qpl (.cond (.t 12) (jQ Qpm (.ret)) (.skip))) (jQ Qpn (.ret))))
abbrev Qpp:List RR:=[.cell 4 (some 5),.tmp 5]
theorem Qpq:CT 150 19 Qpo Qpp:=ck Tryz.func150 Tryz.ntmps150 (by decide +kernel)
abbrev Qpr:IL:=[jf 2 2 0,jg 3]
abbrev Qps:IL:=[jb 4 0 2,jc 5 4,jc 6 1,yv 7 5 6,ja 3 7]
abbrev Qpt:RC:=jQ Qpr (jQ Qps (.ret))
abbrev Qpu:List RR:=[.tmp 3]
theorem Qpv:CT 204 8 Qpt Qpu:=ck Tryz.func204 Tryz.ntmps204 (by decide +kernel)
abbrev Qpw:IL:=[jg 2]
abbrev Qpx:IL:=[ja 3 0,jr 4 217 3,ja 5 4,jk 6 0 5,zy 7 207 6 5,yn 8 7 5,jj 9 5 8,ja 2 9]
abbrev Qpy:RC:=jQ Qpw (jQ Qpx (.ret))
abbrev Qpz:List RR:=[.tmp 2]
theorem QpA:CT 159 10 Qpy Qpz:=ck Tryz.func159 Tryz.ntmps159 (by decide +kernel)
abbrev QpB:IL:=[jg 2]
abbrev QpC:IL:=[ja 3 0]
abbrev QpD:IL:=[⟨some 5,.val (.bin .str .eql (.t 3) (.c (.str [109,101,115,115,97,103,101]))),none⟩,ja 4 5]
abbrev QpE:IL:=[⟨some 6,.val (.bin .str .eql (.t 3) (.c (.str [101,110,117,109]))),none⟩,ja 4 6]
abbrev QpF:IL:=[⟨some 7,.val (.bin .str .eql (.t 3) (.c (.str [115,101,114,118,105,99,101]))),none⟩,ja 4 7]
abbrev QpG:IL:=[⟨some 8,.val (.bin .str .eql (.t 3) (.c (.str [117,110,105,111,110]))),none⟩,ja 4 8]
abbrev QpH:IL:=[⟨some 9,.val (.bin .str .eql (.t 3) (.c (.str [109,97,112]))),none⟩,ja 4 9]
abbrev QpI:IL:=[⟨some 10,.val (.bin .str .eql (.t 3) (.c (.str [108,105,115,116]))),none⟩,ja 4 10]
abbrev QpJ:IL:=[⟨some 11,.val (.bin .str .eql (.t 3) (.c (.str [114,101,113,117,105,114,101,100]))),none⟩,ja 4 11]
abbrev QpK:IL:=[⟨some 12,.val (.bin .str .eql (.t 3) (.c (.str [111,112,116,105,111,110,97,108]))),none⟩,ja 4 12]
abbrev QcR:IL:=[⟨some 13,.val (.bin .str .eql (.t 3) (.c (.str [112,108,97,105,110]))),none⟩,ja 4 13]
abbrev QcS:IL:=[⟨some 14,.val (.bin .str .eql (.t 3) (.c (.str [100,101,102,97,117,108,116]))),none⟩,ja 4 14]
abbrev QcT:IL:=[⟨some 15,.val (.bin .str .eql (.t 3) (.c (.str [114,101,115,101,114,118,101,100]))),none⟩,ja 4 15]
abbrev QcU:IL:=[yg 2]
abbrev QcV:IL:=[⟨some 17,.val (.bin .str .eql (.t 3) (.c (.str [105,109,112,111,114,116]))),none⟩,ja 16 17]
abbrev QcW:IL:=[⟨some 18,.val (.bin .str .eql (.t 3) (.c (.str [115,112,97,99,101]))),none⟩,ja 16 18]
abbrev QcX:IL:=[⟨some 19,.val (.bin .str .eql (.t 3) (.c (.str [114,112,99]))),none⟩,ja 16 19]
abbrev QcY:IL:=[⟨some 20,.val (.bin .str .eql (.t 3) (.c (.str [115,116,114,101,97,109]))),none⟩,ja 16 20]
abbrev QcZ:IL:=[⟨some 21,.val (.bin .str .eql (.t 3) (.c (.str [114,101,116,117,114,110,115]))),none⟩,ja 16 21]
abbrev Qc0:IL:=[⟨some 22,.val (.bin .str .eql (.t 3) (.c (.str [111,112,101,110]))),none⟩,ja 16 22]
abbrev Qc1:IL:=[⟨some 23,.val (.bin .str .eql (.t 3) (.c (.str [116,114,117,101]))),none⟩,ja 16 23]
abbrev Qc2:IL:=[⟨some 24,.val (.bin .str .eql (.t 3) (.c (.str [102,97,108,115,101]))),none⟩,ja 16 24]
abbrev Qc3:IL:=[⟨some 25,.val (.bin .str .eql (.t 3) (.c (.str [110,97,110]))),none⟩,ja 16 25]
abbrev Qc4:IL:=[⟨some 26,.val (.bin .str .eql (.t 3) (.c (.str [105,110,102]))),none⟩,ja 16 26]
abbrev Qc5:IL:=[yg 2]
abbrev Qc6:IL:=[jg 2]
abbrev QpL:RC:=jQ QpB (.seq (jQ QpC (.block 0 (.seq (jQ QpD (.cond (.t 4) (.skip) (jQ QpE (.cond (.t 4) (.skip) (jQ QpF (.cond (.t 4) (.skip) (jQ QpG (.cond (.t 4) (.skip) (jQ QpH (.cond (.t 4) (.skip) (jQ QpI (.cond (.t 4) (.skip) (jQ QpJ (.cond (.t 4) (.skip) (jQ QpK (.cond (.t 4) (.skip) (jQ QcR (.cond (.t 4) (.skip) (jQ QcS (.cond (.t 4) (.skip) (.reg QcT))))))))))))))))))))) (.cond (.t 4) (jQ QcU (.ret)) (.seq (jQ QcV (.cond (.t 16) (.skip) (jQ QcW (.cond (.t 16) (.skip) (jQ QcX (.cond (.t 16) (.skip) (jQ QcY (.cond (.t 16) (.skip) (jQ QcZ (.cond (.t 16) (.skip) (jQ Qc0 (.cond (.t 16) (.skip) (jQ Qc1 (.cond (.t 16) (.skip) (jQ Qc2 (.cond (.t 16) (.skip) (jQ Qc3 (.cond (.t 16) (.skip) (.reg Qc4))))))))))))))))))) (.cond (.t 16) (jQ Qc5 (.ret)) (.skip))))))) (jQ Qc6 (.ret)))
abbrev QpM:List RR:=[.tmp 2]
theorem EB:CT 207 27 QpL QpM:=ck Tryz.func207 Tryz.ntmps207 (by decide +kernel)
abbrev QpN:IL:=[jg 2]
abbrev QpO:IL:=[ja 6 0,⟨some 7,.rngs 7 (.t 6),none⟩]
abbrev QpP:IL:=[⟨some 8,.nxts (.t 7),none⟩,jv 9 8 0]
abbrev QpQ:IL:=[jv 10 8 1,jv 11 8 2,ja 3 10,ja 4 11]
abbrev QpR:IL:=[ja 12 4,jr 13 252 12,ja 5 13]
abbrev QpS:IL:=[ja 14 5,js 15 14 0,ja 16 15,jw 17 3 16,zf 18 17 0 16,jw 19 18 16,jk 20 5 19,FK 21 20 1 19,yy 22 19 21 16,jw 23 22 16,jk 24 5 23,FK 25 24 2 23,yy 26 23 25 16,jt 27 16 26]
abbrev QpT:IL:=[jg 2]
abbrev QpU:RC:=jQ QpP (.seq (jX 9 0) (.block 1 (jQ QpQ (jQ QpR (jQ QpS (.cond (.t 27) (jQ QpT (.ret)) (.skip)))))))
abbrev QpV:IL:=[ja 28 0,jh 29 0 28,yj 30 29 1,ja 31 30,jk 32 0 31,yc 33 0 32 31,ym 34 33 40 31,jj 35 31 34,ja 2 35]
abbrev QpW:RC:=jQ QpN (.seq (jQ QpO (.block 0 (.loop QpU))) (jQ QpV (.ret)))
abbrev QpX:List RR:=[.tmp 2]
theorem QpY:CT 217 36 QpW QpX:=ck Tryz.func217 Tryz.ntmps217 (by decide +kernel)
abbrev QpZ:IL:=[jd 2 0]
abbrev Qp0:IL:=[ja 4 0,⟨some 5,.val (.bin .num .geq (.t 4) (.c (.int .i32 97))),none⟩,ja 6 5,jk 7 0 6,⟨some 8,.val (.bin .num .leq (.t 7) (.c (.int .i32 122))),(some (6,true))⟩,jj 9 6 8,ja 3 9]
abbrev Qp1:IL:=[jd 2 1]
abbrev Qp2:IL:=[ja 11 0,⟨some 12,.val (.bin .num .geq (.t 11) (.c (.int .i32 65))),none⟩,ja 13 12,jk 14 0 13,⟨some 15,.val (.bin .num .leq (.t 14) (.c (.int .i32 90))),(some (13,true))⟩,jj 16 13 15,ja 10 16]
abbrev Qp3:IL:=[jd 2 2]
abbrev Qp4:IL:=[ja 18 0,⟨some 19,.val (.bin .num .geq (.t 18) (.c (.int .i32 48))),none⟩,ja 20 19,jk 21 0 20,⟨some 22,.val (.bin .num .leq (.t 21) (.c (.int .i32 57))),(some (20,true))⟩,jj 23 20 22,ja 17 23]
abbrev Qp5:IL:=[jd 2 3]
abbrev Qp6:IL:=[ja 25 0,⟨some 26,.val (.bin .num .eql (.t 25) (.c (.int .i32 95))),none⟩,ja 24 26]
abbrev Qp7:IL:=[jd 2 4]
abbrev Qp8:IL:=[jd 2 0]
abbrev Qp9:RC:=jQ QpZ (.seq (.block 0 (jQ Qp0 (.cond (.t 3) (jQ Qp1 (.ret)) (jQ Qp2 (.cond (.t 10) (jQ Qp3 (.ret)) (jQ Qp4 (.cond (.t 17) (jQ Qp5 (.ret)) (jQ Qp6 (.cond (.t 24) (jQ Qp7 (.ret)) (.skip)))))))))) (jQ Qp8 (.ret)))
abbrev Qqa:List RR:=[.tmp 2]
theorem Qqb:CT 252 27 Qp9 Qqa:=ck Tryz.func252 Tryz.ntmps252 (by decide +kernel)
abbrev Qqc:IL:=[jg 2]
abbrev Qqd:IL:=[ja 3 0,jr 4 205 3,ja 5 4,jk 6 0 5,⟨some 7,.call (.f 206) [(.t 6),(.c (.str [46]))],(some (5,true))⟩,⟨some 8,.callF (.f 148) [(.t 7),(.f 207)],(some (5,true))⟩,yn 9 8 5,jj 10 5 9,ja 2 10]
abbrev Qqe:RC:=jQ Qqc (jQ Qqd (.ret))
abbrev Qqf:List RR:=[.tmp 2]
theorem Qqg:CT 153 11 Qqe Qqf:=ck Tryz.func153 Tryz.ntmps153 (by decide +kernel)
abbrev Qqh:IL:=[jg 4]
abbrev Qqi:IL:=[ja 5 0,ja 6 1,yh 7 203 5 6,yj 8 7 0,ja 4 8]
abbrev Qqj:RC:=jQ Qqh (jQ Qqi (.ret))
abbrev Qqk:List RR:=[.tmp 4]
theorem Qql:CT 148 9 Qqj Qqk:=ck Tryz.func148 Tryz.ntmps148 (by decide +kernel)
abbrev Qqm:IL:=[jd 4 0]
abbrev Qqn:IL:=[ja 6 0,jh 7 1 6,jd 8 0]
abbrev Qqo:IL:=[jo 9 8 7]
abbrev Qqp:IL:=[ja 10 8,ja 5 10]
abbrev Qqq:IL:=[ja 11 1,ja 12 0,ja 13 5,jm 14 1 12 13,jc 15 14,zi 16 11 15]
abbrev Qqr:IL:=[ja 17 5,ja 4 17]
abbrev Qqs:IL:=[jn 18 8 1,ja 8 18]
abbrev Qqt:RC:=jQ Qqo (.seq (jX 9 0) (.seq (.block 1 (jQ Qqp (jQ Qqq (.cond (.t 16) (jQ Qqr (.ret)) (.skip))))) (.reg Qqs)))
abbrev Qqu:IL:=[jd 4 (-1)]
abbrev Qqv:RC:=jQ Qqm (.seq (jQ Qqn (.block 0 (.loop Qqt))) (jQ Qqu (.ret)))
abbrev Qqw:List RR:=[.tmp 4]
theorem Qqx:CT 203 19 Qqv Qqw:=ck Tryz.func203 Tryz.ntmps203 (by decide +kernel)
abbrev Qqy:IL:=[yd 4]
abbrev Qqz:IL:=[ja 5 0,ja 6 1,⟨some 7,.call (.f 241) [(.t 5),(.t 6),(.c (.int .i64 0)),(.c (.int .i64 (-1)))],none⟩,ja 4 7]
abbrev QqA:RC:=jQ Qqy (jQ Qqz (.ret))
abbrev QqB:List RR:=[.tmp 4]
theorem QqC:CT 206 8 QqA QqB:=ck Tryz.func206 Tryz.ntmps206 (by decide +kernel)
abbrev QqD:IL:=[yd 8]
abbrev QqE:IL:=[ja 12 3,js 13 12 0]
abbrev QqF:IL:=[yd 8]
abbrev QqG:IL:=[ja 14 1,Cf 15 14]
abbrev QqH:IL:=[ja 16 0,ja 17 3,jq 18 259 16 17,ja 8 18]
abbrev QqI:IL:=[ja 19 3,yk 20 19 0]
abbrev QqJ:IL:=[ja 21 0,ja 22 1,jq 23 260 21 22,jn 24 23 1,ja 3 24]
abbrev QqK:IL:=[ja 25 3,ja 26 0,jh 27 0 26,jn 28 27 1,⟨some 29,.val (.mnx false (.t 25) (.t 28)),none⟩,ja 3 29]
abbrev QqL:IL:=[ja 30 3,⟨some 31,.mk 31 9 1 16 [.str []] (.t 30) (.t 30),none⟩,ja 9 31]
abbrev QqM:IL:=[ja 32 3,B5 33 32 1,ja 3 33]
abbrev Qc7:IL:=[jd 10 0]
abbrev Qc8:IL:=[ja 34 10,ja 35 3,jo 36 34 35]
abbrev Qc9:IL:=[ja 37 0,ja 38 1,jq 39 261 37 38,ja 11 39]
abbrev Qda:IL:=[ja 40 11,yk 41 40 0]
abbrev Qdb:IL:=[ja 42 9,ja 43 10,ja 44 0,ja 45 11,ja 46 2,yu 47 45 46,⟨some 48,.val (.slc none (.t 44) none (some (.t 47)) none),none⟩,jm 49 1 42 43,ji 1 49 48]
abbrev Qdc:IL:=[ja 50 0,ja 51 11,ja 52 1,jh 53 0 52,yu 54 51 53,Cj 55 50 54,ja 0 55]
abbrev Qdd:IL:=[ja 56 10,jn 57 56 1,ja 10 57]
abbrev QqN:RC:=.seq (jQ Qc8 (jX 36 0)) (.block 1 (jQ Qc9 (.seq (jQ Qda (.cond (.t 41) (.exit 0) (.skip))) (jQ Qdb (jQ Qdc (.reg Qdd))))))
abbrev Qde:IL:=[ja 58 9,ja 59 10,ja 60 0,jm 61 1 58 59,ji 1 61 60]
abbrev Qdf:IL:=[ja 62 9,ja 63 10,jn 64 63 1,zz 65 1 62 64,ja 8 65]
abbrev QqO:RC:=jQ QqD (.seq (jQ QqE (.cond (.t 13) (jQ QqF (.ret)) (.skip))) (.seq (jQ QqG (.cond (.t 15) (jQ QqH (.ret)) (.skip))) (.seq (jQ QqI (.cond (.t 20) (.reg QqJ) (.skip))) (jQ QqK (jQ QqL (jQ QqM (jQ Qc7 (.seq (.block 0 (.loop QqN)) (jQ Qde (jQ Qdf (.ret)))))))))))
abbrev QqP:List RR:=[.tmp 8]
theorem QqQ:CT 241 66 QqO QqP:=ck Tryz.func241 Tryz.ntmps241 (by decide +kernel)
abbrev QqR:IL:=[jd 4 0]
abbrev QqS:IL:=[ja 5 0,ja 6 1,jq 7 271 5 6,ja 4 7]
abbrev QqT:RC:=jQ QqR (jQ QqS (.ret))
abbrev QqU:List RR:=[.tmp 4]
theorem QqV:CT 261 8 QqT QqU:=ck Tryz.func261 Tryz.ntmps261 (by decide +kernel)
def Sr:IL:=[jd 4 0]
def Ss:IL:=[ja 14 1,jh 15 0 14,ja 5 15]
def Su:IL:=[ja 17 5,js 18 17 0,ja 19 18,jw 20 1 19,jw 21 0 19,⟨some 22,.val (.bin .str .eql (.t 20) (.t 21)),(some (19,false))⟩,jt 23 19 22,ja 16 23]
def Sv:IL:=[jd 4 0]
def Sw:IL:=[ja 25 5,js 26 25 1,ja 24 26]
def Sx:IL:=[ja 27 0,ja 28 1,HC 29 28 0,jq 30 275 27 29,ja 4 30]
def Sy:IL:=[ja 32 5,ja 33 0,jh 34 0 33,B4 35 32 34,ja 31 35]
def Sz:IL:=[jd 4 (-1)]
def SA:IL:=[ja 45 0,ja 46 1,jq 47 276 45 46,ja 4 47]
def Qdg:IL:=[ja 48 1,HC 49 48 0,ja 6 49]
def Qdh:IL:=[ja 50 1,HC 51 50 1,ja 7 51]
def Qdi:IL:=[jd 8 0]
def Qdj:IL:=[ja 52 0,jh 53 0 52,ja 54 5,⟨some 55,.val (.bin .num .sub (.t 53) (.t 54)),none⟩,jn 56 55 1,ja 9 56]
def Qdk:IL:=[jd 10 0]
def Qdl:IL:=[ja 57 8,ja 58 9,jo 59 57 58]
def Qdm:IL:=[ja 60 0,ja 61 8,HD 62 60 61,ja 63 6,zo 64 62 63]
def Qdn:IL:=[ja 65 0,ja 66 8,jn 67 66 1,ja 68 9,⟨some 69,.val (.slc none (.t 65) (some (.t 67)) (some (.t 68)) none),none⟩,ja 70 6,jq 71 275 69 70,ja 11 71]
def Qdo:IL:=[ja 72 11,yk 73 72 0]
def Qdp:IL:=[jd 4 (-1)]
def Qdq:IL:=[ja 74 8,ja 75 11,jn 76 75 1,yu 77 74 76,ja 8 77]
def Qdr:IL:=[ja 78 0,ja 79 8,jn 80 79 1,HD 81 78 80,ja 82 7,ze 83 81 82,ja 84 83,jk 85 0 84,jk 86 8 84,jk 87 8 84,jk 88 5 84,zp 89 87 88 84,⟨some 90,.val (.slc none (.t 85) (some (.t 86)) (some (.t 89)) none),(some (84,true))⟩,jk 91 1 84,FM 92 90 91 84,jj 93 84 92]
def Qds:IL:=[ja 94 8,ja 4 94]
def Qdt:IL:=[ja 95 8,jn 96 95 1,ja 8 96]
def Qdu:IL:=[ja 97 10,jn 98 97 1,ja 10 98]
def Qdv:IL:=[ja 108 0,ja 109 8,Cj 110 108 109,ja 111 1,jq 112 276 110 111,ja 12 112]
def Qdw:IL:=[ja 113 12,yj 114 113 0]
def Qdx:IL:=[ja 115 12,ja 116 8,yu 117 115 116,ja 4 117]
def Qdy:IL:=[jd 4 (-1)]
def Qdz:IL:=[ja 133 0,ja 134 8,Cj 135 133 134,ja 136 1,jq 137 278 135 136,ja 13 137]
def QdA:IL:=[ja 138 13,yk 139 138 0]
def QdB:IL:=[jd 4 (-1)]
def QdC:IL:=[ja 140 8,ja 141 13,yu 142 140 141,ja 4 142]
def QqW:RC:=.seq (jQ Qdl (jX 59 1)) (.block 2 (.seq (jQ Qdm (.cond (.t 64) (jQ Qdn (.seq (jQ Qdo (.cond (.t 73) (jQ Qdp (.ret)) (.skip))) (.reg Qdq))) (.skip))) (.seq (jQ Qdr (.cond (.t 93) (jQ Qds (.ret)) (.skip))) (jQ Qdt (jQ Qdu (.seq (.no) (.cond (.t 107) (jQ Qdv (.seq (jQ Qdw (.cond (.t 114) (jQ Qdx (.ret)) (.skip))) (jQ Qdy (.ret)))) (.seq (.no) (.cond (.t 132) (jQ Qdz (.seq (jQ QdA (.cond (.t 139) (jQ QdB (.ret)) (.skip))) (jQ QdC (.ret)))) (.skip))))))))))
def QdD:IL:=[jd 4 (-1)]
def Ph:RC:=jQ Sr (jQ Ss (.seq (.block 0 (jQ Su (.cond (.t 16) (jQ Sv (.ret)) (jQ Sw (.cond (.t 24) (jQ Sx (.ret)) (jQ Sy (.cond (.t 31) (jQ Sz (.ret)) (.seq (.no) (.cond (.t 36) (jQ SA (.ret)) (.skip)))))))))) (jQ Qdg (jQ Qdh (jQ Qdi (jQ Qdj (jQ Qdk (.seq (.block 1 (.loop QqW)) (jQ QdD (.ret))))))))))
def EC:List RR:=[.tmp 4]
theorem QqX:CT 271 143 Ph EC:=ck Tryz.func271 Tryz.ntmps271 (by decide +kernel)
abbrev QqY:IL:=[jd 4 0]
abbrev QqZ:IL:=[ja 12 1,jr 13 280 12,ja 11 13,jv 14 11 0,jv 15 11 1,ja 5 14,ja 6 15]
abbrev Qq0:IL:=[ja 16 1,jh 17 0 16,ja 7 17]
abbrev Qq1:IL:=[Ck 8 0]
abbrev Qq2:IL:=[jd 9 0]
abbrev Qq3:IL:=[ja 18 9,ja 19 7,jo 20 18 19]
abbrev Qq4:IL:=[ja 23 8,⟨some 24,.val (.bin .num .mul (.t 23) (.c (.int .u32 16777619))),none⟩,ja 25 0,ja 26 9,HD 27 25 26,⟨some 28,.val (.cvi .u32 (.t 27)),none⟩,yu 29 24 28,ja 8 29]
abbrev Qq5:IL:=[ja 21 9,jn 22 21 1,ja 9 22]
abbrev Qq6:RC:=.seq (jQ Qq3 (jX 20 0)) (.seq (.block 1 (.reg Qq4)) (.reg Qq5))
abbrev Qq7:IL:=[ja 30 8,ja 31 5,ze 32 30 31,ja 33 32,jk 34 0 33,jk 35 7 33,⟨some 36,.val (.slc none (.t 34) none (some (.t 35)) none),(some (33,true))⟩,jk 37 1 33,FM 38 36 37 33,jj 39 33 38]
abbrev Qq8:IL:=[jd 4 0]
abbrev QdE:IL:=[ja 40 7,ja 10 40]
abbrev QdF:IL:=[ja 41 10,ja 42 0,jh 43 0 42,jo 44 41 43]
abbrev QdG:IL:=[ja 45 8,⟨some 46,.val (.bin .num .mul (.t 45) (.c (.int .u32 16777619))),none⟩,ja 8 46]
abbrev QdH:IL:=[ja 47 8,ja 48 0,ja 49 10,HD 50 48 49,⟨some 51,.val (.cvi .u32 (.t 50)),none⟩,yu 52 47 51,ja 8 52]
abbrev QdI:IL:=[ja 53 8,ja 54 6,ja 55 0,ja 56 10,ja 57 7,⟨some 58,.val (.bin .num .sub (.t 56) (.t 57)),none⟩,HD 59 55 58,⟨some 60,.val (.cvi .u32 (.t 59)),none⟩,⟨some 61,.val (.bin .num .mul (.t 54) (.t 60)),none⟩,⟨some 62,.val (.bin .num .sub (.t 53) (.t 61)),none⟩,ja 8 62]
abbrev QdJ:IL:=[ja 63 10,jn 64 63 1,ja 10 64]
abbrev QdK:IL:=[ja 65 8,ja 66 5,ze 67 65 66,ja 68 67,jk 69 0 68,jk 70 10 68,jk 71 7 68,⟨some 72,.val (.bin .num .sub (.t 70) (.t 71)),(some (68,true))⟩,jk 73 10 68,⟨some 74,.val (.slc none (.t 69) (some (.t 72)) (some (.t 73)) none),(some (68,true))⟩,jk 75 1 68,FM 76 74 75 68,jj 77 68 76]
abbrev QdL:IL:=[ja 78 10,ja 79 7,⟨some 80,.val (.bin .num .sub (.t 78) (.t 79)),none⟩,ja 4 80]
abbrev Qq9:RC:=.seq (jQ QdF (jX 44 2)) (.block 3 (jQ QdG (jQ QdH (jQ QdI (jQ QdJ (jQ QdK (.cond (.t 77) (jQ QdL (.ret)) (.skip))))))))
abbrev QdM:IL:=[jd 4 (-1)]
abbrev Qra:RC:=jQ QqY (jQ QqZ (jQ Qq0 (jQ Qq1 (.seq (jQ Qq2 (.block 0 (.loop Qq6))) (.seq (jQ Qq7 (.cond (.t 39) (jQ Qq8 (.ret)) (.skip))) (.seq (jQ QdE (.block 2 (.loop Qq9))) (jQ QdM (.ret))))))))
abbrev Qrb:List RR:=[.tmp 4]
theorem QON:CT 278 81 Qra Qrb:=ck Tryz.func278 Tryz.ntmps278 (by decide +kernel)
abbrev Qrc:IL:=[Ck 2 0,Ck 3 0]
abbrev Qrd:IL:=[Ck 4 0]
abbrev Qre:IL:=[jd 5 0]
abbrev Qrf:IL:=[ja 9 5,ja 10 0,jh 11 0 10,jo 12 9 11]
abbrev Qrg:IL:=[ja 15 4,⟨some 16,.val (.bin .num .mul (.t 15) (.c (.int .u32 16777619))),none⟩,ja 17 0,ja 18 5,HD 19 17 18,⟨some 20,.val (.cvi .u32 (.t 19)),none⟩,yu 21 16 20,ja 4 21]
abbrev Qrh:IL:=[ja 13 5,jn 14 13 1,ja 5 14]
abbrev Qri:RC:=.seq (jQ Qrf (jX 12 0)) (.seq (.block 1 (.reg Qrg)) (.reg Qrh))
abbrev Qrj:IL:=[Ck 6 1,Ck 7 16777619]
abbrev Qrk:IL:=[ja 22 0,jh 23 0 22,ja 8 23]
abbrev Qrl:IL:=[ja 24 8,yl 25 24 0]
abbrev QdN:IL:=[ja 28 8,⟨some 29,.val (.bin .num .and (.t 28) (.c (.int .i64 1))),none⟩,ya 30 29 0]
abbrev QdO:IL:=[ja 31 6,ja 32 7,⟨some 33,.val (.bin .num .mul (.t 31) (.t 32)),none⟩,ja 6 33]
abbrev QdP:IL:=[ja 34 7,ja 35 7,⟨some 36,.val (.bin .num .mul (.t 34) (.t 35)),none⟩,ja 7 36]
abbrev Qrm:IL:=[ja 26 8,⟨some 27,.val (.bin .num .shr (.t 26) (.c (.int .u64 1))),none⟩,ja 8 27]
abbrev Qrn:RC:=.seq (jQ Qrl (jX 25 2)) (.seq (.block 3 (.seq (jQ QdN (.cond (.t 30) (.reg QdO) (.skip))) (.reg QdP))) (.reg Qrm))
abbrev QdQ:IL:=[ja 37 4,ja 38 6,ja 2 37,ja 3 38]
abbrev Qro:RC:=jQ Qrc (jQ Qrd (.seq (jQ Qre (.block 0 (.loop Qri))) (jQ Qrj (.seq (jQ Qrk (.block 2 (.loop Qrn))) (jQ QdQ (.ret))))))
abbrev Qrp:List RR:=[.tmp 2,.tmp 3]
theorem QOO:CT 280 39 Qro Qrp:=ck Tryz.func280 Tryz.ntmps280 (by decide +kernel)
abbrev Qrq:IL:=[jd 2 0]
abbrev Qrr:IL:=[ja 3 0,jn 4 3 16,⟨some 5,.val (.bin .num .quo (.t 4) (.c (.int .i64 8))),none⟩,ja 2 5]
abbrev Qrs:RC:=jQ Qrq (jQ Qrr (.ret))
abbrev Qrt:List RR:=[.tmp 2]
theorem QOP:CT 277 6 Qrs Qrt:=ck Tryz.func277 Tryz.ntmps277 (by decide +kernel)
abbrev Qru:IL:=[jd 4 0]
abbrev Qrv:IL:=[ja 5 0,ja 6 1,⟨some 7,.xb false 279 (.t 5) (.t 6),none⟩,ja 4 7]
abbrev Qrw:RC:=jQ Qru (jQ Qrv (.ret))
abbrev Qrx:List RR:=[.tmp 4]
theorem Qry:CT 275 8 Qrw Qrx:=ck Tryz.func275 Tryz.ntmps275 (by decide +kernel)
abbrev Qrz:IL:=[jd 4 0]
abbrev QrA:IL:=[ja 7 1,jh 8 0 7,js 9 8 0]
abbrev QrB:IL:=[ja 10 0,jr 11 268 10,jn 12 11 1,ja 4 12]
abbrev QrC:IL:=[ja 13 1,jh 14 0 13,js 15 14 1]
abbrev QrD:IL:=[ja 16 0,ja 17 1,HC 18 17 0,⟨some 19,.xb true 270 (.t 16) (.t 18),none⟩,ja 4 19]
abbrev QrE:IL:=[jd 5 0]
abbrev QrF:IL:=[ja 20 0,ja 21 1,jq 22 261 20 21,ja 6 22]
abbrev QrG:IL:=[ja 23 6,js 24 23 (-1)]
abbrev QrH:IL:=[ja 25 5,ja 4 25]
abbrev QrI:IL:=[ja 26 5,jn 27 26 1,ja 5 27]
abbrev QdR:IL:=[ja 28 0,ja 29 6,ja 30 1,jh 31 0 30,yu 32 29 31,Cj 33 28 32,ja 0 33]
abbrev QrJ:RC:=.block 1 (jQ QrF (.seq (jQ QrG (.cond (.t 24) (jQ QrH (.ret)) (.skip))) (jQ QrI (.reg QdR))))
abbrev QrK:RC:=jQ Qrz (.seq (jQ QrA (.cond (.t 9) (jQ QrB (.ret)) (.skip))) (.seq (jQ QrC (.cond (.t 15) (jQ QrD (.ret)) (.skip))) (jQ QrE (.block 0 (.loop QrJ)))))
abbrev QrL:List RR:=[.tmp 4]
theorem QrM:CT 260 34 QrK QrL:=ck Tryz.func260 Tryz.ntmps260 (by decide +kernel)
abbrev QrN:IL:=[jd 2 0]
abbrev QrO:IL:=[ja 3 0,⟨some 4,.rngs 4 (.t 3),none⟩]
abbrev QrP:IL:=[⟨some 5,.nxts (.t 4),none⟩,jv 6 5 0]
abbrev QrQ:IL:=[ja 7 2,jn 8 7 1,ja 2 8]
abbrev QrR:RC:=jQ QrP (.seq (jX 6 0) (.block 1 (.reg QrQ)))
abbrev QrS:IL:=[ja 9 2,ja 2 9]
abbrev QrT:RC:=jQ QrN (.seq (jQ QrO (.block 0 (.loop QrR))) (jQ QrS (.ret)))
abbrev QrU:List RR:=[.tmp 2]
theorem QOQ:CT 268 10 QrT QrU:=ck Tryz.func268 Tryz.ntmps268 (by decide +kernel)
abbrev QrV:IL:=[yd 4]
abbrev QrW:IL:=[ja 10 0,jr 11 268 10,ja 5 11]
abbrev QrX:IL:=[ja 12 1,yk 13 12 0,ja 14 13,jw 15 1 14,jw 16 5 14,Cl 17 15 16 14,jt 18 14 17]
abbrev QrY:IL:=[ja 19 5,ja 1 19]
abbrev QrZ:IL:=[ja 20 1,⟨some 21,.mk 21 9 1 16 [.str []] (.t 20) (.t 20),none⟩,ja 6 21]
abbrev Qr0:IL:=[jd 7 0]
abbrev Qr1:IL:=[ja 22 7,ja 23 1,B5 24 23 1,jo 25 22 24]
abbrev Qr2:IL:=[ja 29 0,jr 30 269 29,ja 28 30,jv 31 28 0,jv 32 28 1,ja 8 31,ja 9 32]
abbrev Qr3:IL:=[ja 33 6,ja 34 7,ja 35 0,ja 36 9,⟨some 37,.val (.slc none (.t 35) none (some (.t 36)) none),none⟩,jm 38 1 33 34,ji 1 38 37]
abbrev QdS:IL:=[ja 39 0,ja 40 9,Cj 41 39 40,ja 0 41]
abbrev Qr4:IL:=[ja 26 7,jn 27 26 1,ja 7 27]
abbrev Qr5:RC:=.seq (jQ Qr1 (jX 25 0)) (.seq (.block 1 (jQ Qr2 (jQ Qr3 (.reg QdS)))) (.reg Qr4))
abbrev QdT:IL:=[ja 42 1,yl 43 42 0]
abbrev QdU:IL:=[ja 44 6,ja 45 1,B5 46 45 1,ja 47 0,jm 48 1 44 46,ji 1 48 47]
abbrev QdV:IL:=[ja 49 6,ja 4 49]
abbrev Qr6:RC:=jQ QrV (jQ QrW (.seq (jQ QrX (.cond (.t 18) (.reg QrY) (.skip))) (jQ QrZ (.seq (jQ Qr0 (.block 0 (.loop Qr5))) (.seq (jQ QdT (.cond (.t 43) (.reg QdU) (.skip))) (jQ QdV (.ret)))))))
abbrev Qr7:List RR:=[.tmp 4]
theorem QOR:CT 259 50 Qr6 Qr7:=ck Tryz.func259 Tryz.ntmps259 (by decide +kernel)
abbrev Qr8:IL:=[B6 2 0,jd 3 0]
abbrev Qr9:IL:=[ja 4 0,⟨some 5,.val (.bin .str .neq (.t 4) (.c (.str []))),none⟩,ja 6 5,jk 7 0 6,⟨some 8,.val (.idx (.t 7) (.c (.int .i64 0))),(some (6,true))⟩,⟨some 9,.val (.bin .num .lss (.t 8) (.c (.int .u8 128))),(some (6,true))⟩,jj 10 6 9]
abbrev Qsa:IL:=[ja 11 0,HC 12 11 0,zs 13 12,ja 2 13,jd 3 1]
abbrev Qsb:IL:=[ja 15 0,jr 16 274 15,ja 14 16,jv 17 14 0,jv 18 14 1,ja 2 17,ja 3 18]
abbrev Qsc:RC:=jQ Qr8 (.seq (jQ Qr9 (.cond (.t 10) (jQ Qsa (.ret)) (.reg Qsb))) (.ret))
abbrev Qsd:List RR:=[.tmp 2,.tmp 3]
theorem QOS:CT 269 19 Qsc Qsd:=ck Tryz.func269 Tryz.ntmps269 (by decide +kernel)
end Go.Proofs.YtafhmlkilcmniaaGreatDoor.Rc

/- Parts of the proof, in order. -/
import Derived.Orders
import Derived.Defers
import Derived.Below
import Derived.ChangeSame
import Derived.ProofKit
import Derived.OpenShut
import Derived.ChangeArms
import Derived.Lib.SmallJoins
import Derived.Deep.Slices
import Derived.DataShut
import Derived.Test.YtaiflhahcglpgaaGreatDoorRows
import Derived.Test.YtaiflhahcglpgaaGreatDoorProg
import Derived.WalkKit
import Derived.Test.YtaiflhahcglpgaaGreatDoorMPlanMakes0

namespace Go.Proofs.YtaiflhahcglpgaaGreatDoor.Am
open Go

def RA.sl:RA→List Nat
 |.t n=>[n]
 |_=>[]
def MP:Option RA→List Nat
 |some r=>r.sl
 |none=>[]
def VO.sl:VO→List Nat
 |.mov x=>x.sl
 |.pick c a b=>c.sl++(a.sl++b.sl)
 |.build _ ps=>ps.flatMap fun p=>p.2.2.sl
 |.load _ x=>x.sl
 |.loadv _ _ _ x=>x.sl
 |.loado _ x=>x.sl
 |.loadr _ x=>x.sl
 |.nilck x=>x.sl
 |.un _ x=>x.sl
 |.cvi _ x=>x.sl
 |.faddr _ x=>x.sl
 |.fld _ _ x=>x.sl
 |.ext x _=>x.sl
 |.len _ x=>x.sl
 |.bin _ _ x y=>x.sl++y.sl
 |.eqs _ _ x y=>x.sl++y.sl
 |.iaddr _ _ x y=>x.sl++y.sl
 |.idx x y=>x.sl++y.sl
 |.mnx _ x y=>x.sl++y.sl
 |.slc _ x lo hi mx=>x.sl++(MP lo++(MP hi++MP mx))
 |.mkfn _ a b=>a.flatMap RA.sl++b.flatMap RA.sl
 |.same x=>x.sl
 |.mget _ _ x y=>x.sl++y.sl
 |.mgetp _ _ x y=>x.sl++y.sl
 |.aidx _ _ _ x y=>x.sl++y.sl
def RO.sl:RO→List Nat
 |.val v=>v.sl
 |.allocN _ _=>[]
 |.boxN _ r=>r.sl
 |.store _ p r=>p.sl++r.sl
 |.storev _ _ _ p r=>p.sl++r.sl
 |.app _ _ _ s r=>s.sl++r.sl
 |.mk _ _ _ _ _ l c=>l.sl++c.sl
 |.bsl _ _ _ ps=>ps.flatMap fun p=>p.2.2.sl
 |.call f rs=>f.sl++rs.flatMap RA.sl
 |.callF f rs=>f.sl++rs.flatMap RA.sl
 |.bsl0 _ _=>[]
 |.lit0 _=>[]
 |.appe _ _ _ s r=>s.sl++r.sl
 |.isnil _ x=>x.sl
 |.xb _ _ s c=>s.sl++c.sl
 |.callK _ _ f rs=>f.sl++rs.flatMap RA.sl
 |.rngs _ r=>r.sl
 |.nxts r=>r.sl
 |.mkm _=>[]
 |.mput x y z=>x.sl++(y.sl++z.sl)
def Item.sl (it:Item):List Nat:=it.op.sl++(match it.g with|some (j,_)=>[j]|none=>[])

def Zi (l:List Nat)(f f':Fr):Prop:=∀t,t∈l→f t=f' t
theorem Zi.left {a b:List Nat}{f f':Fr}(h:Zi (a++b) f f'):Zi a f f':=fun t ht=>h t (List.mem_append_left _ ht)
theorem Zi.right {a b:List Nat}{f f':Fr}(h:Zi (a++b) f f'):Zi b f f':=fun t ht=>h t (List.mem_append_right _ ht)

theorem RA.ev_same {r:RA}{f f':Fr}(h:Zi r.sl f f'):r.ev f=r.ev f':=by
 cases r with
 |t n=>exact h n (by simp[RA.sl])
 |c x=>rfl
 |f k=>rfl
 |g k l=>rfl

theorem JA:∀ {rs:List RA} {f f':Fr},Zi (rs.flatMap RA.sl) f f'→rs.map (RA.ev f)=rs.map (RA.ev f')
 | [],_,_,_=>rfl
 |r :: rs,f,f',h=>by
  rw[List.flatMap_cons]at h;rw[QzI,QzI,RA.ev_same h.left,JA h.right]

theorem Wl {f f':Fr}:∀ {ps:List (Nat×Nat×RA)} {z:List AV},Zi (ps.flatMap fun p=>p.2.2.sl) f f'→fill f ps z=fill f' ps z
 | [],_,_=>rfl
 |(o,n,r) :: ps,z,h=>by
  rw[List.flatMap_cons]at h;simp only[fill,RA.ev_same h.left,Wl h.right]

theorem W7 {f f':Fr}{d:Nat}{r:Option RA}(h:Zi (MP r) f f'):JN f d r=JN f' d r:=by
 cases r with
 |none=>rfl
 |some r=>simp only[JN,RA.ev_same (r:=r) h]

theorem CQ {f f':Fr}{m:Qo}{vo:VO}(h:Zi vo.sl f f'):QB f m vo=QB f' m vo:=by
 cases vo with
 |mov x=>simp only[QB,RA.ev_same (r:=x) h]
 |pick c a b=>simp only[QB,RA.ev_same (r:=c) h.left,RA.ev_same (r:=a) h.right.left,RA.ev_same (r:=b) h.right.right]
 |build z ps=>simp only[QB,Wl (ps:=ps) h]
 |load k x=>simp only[QB,RA.ev_same (r:=x) h]
 |loadv l s k x=>simp only[QB,RA.ev_same (r:=x) h]
 |loado k x=>simp only[QB,RA.ev_same (r:=x) h]
 |loadr k x=>simp only[QB,RA.ev_same (r:=x) h]
 |nilck x=>simp only[QB,RA.ev_same (r:=x) h]
 |un o x=>simp only[QB,RA.ev_same (r:=x) h]
 |cvi k x=>simp only[QB,RA.ev_same (r:=x) h]
 |faddr o x=>simp only[QB,RA.ev_same (r:=x) h]
 |fld o k x=>simp only[QB,RA.ev_same (r:=x) h]
 |ext x i=>simp only[QB,RA.ev_same (r:=x) h]
 |same x=>simp only[QB,RA.ev_same (r:=x) h]
 |len k x=>simp only[QB,RA.ev_same (r:=x) h]
 |bin t o x y=>simp only[QB,RA.ev_same (r:=x) h.left,RA.ev_same (r:=y) h.right]
 |eqs n ks x y=>simp only[QB,RA.ev_same (r:=x) h.left,RA.ev_same (r:=y) h.right]
 |iaddr sz len x y=>simp only[QB,RA.ev_same (r:=x) h.left,RA.ev_same (r:=y) h.right]
 |idx x y=>simp only[QB,RA.ev_same (r:=x) h.left,RA.ev_same (r:=y) h.right]
 |mget ok z x y=>simp only[QB,RA.ev_same (r:=x) h.left,RA.ev_same (r:=y) h.right]
 |mgetp ok z x y=>simp only[QB,RA.ev_same (r:=x) h.left,RA.ev_same (r:=y) h.right]
 |aidx n sz k x y=>simp only[QB,RA.ev_same (r:=x) h.left,RA.ev_same (r:=y) h.right]
 |mnx b x y=>simp only[QB,RA.ev_same (r:=x) h.left,RA.ev_same (r:=y) h.right]
 |slc sz x lo hi mx=>
  have h1:=h.right.left;have h2:=h.right.right.left;have h3:=h.right.right.right;simp only[QB,RA.ev_same (r:=x) h.left,W7 (r:=lo) h1,W7 (r:=hi) h2];cases mx with
  |none=>rfl
  |some r=>simp only[W7 (r:=some r) h3]
 |mkfn fn a b=>simp only[QB,JA (rs:=a) h.left,JA (rs:=b) h.right]

inductive MC where
 |no
 |shape
 |rows
 |cell (l s:Nat)
 |outer
 |all
 deriving DecidableEq

def VO.mc:VO→MC
 |.load _ _=>.all
 |.loadv l s _ _=>.cell l s
 |.loado _ _=>.outer
 |.loadr _ _=>.rows
 |.nilck _=>.shape
 |.faddr _ _=>.shape
 |.len _ _=>.shape
 |.slc .. => .shape
 |.iaddr .. => .shape
 |.mget .. => .all
 |_=>.no

def Ob.sh:Ob→Option (Nat×Nat)
 |.vec g z _=>some (g,z)
 |_=>Option.none
def Ob.row:Ob→Option (Nat×Nat×List AV)
 |.vec g z xs=>some (g,z,xs)
 |_=>Option.none

def Xd:MC→Qo→Qo→Prop
 |.no,_,_=>True
 |.shape,m,m'=>∀l s,(Qf m l s).sh=(Qf m' l s).sh
 |.rows,m,m'=>∀l s,(Qf m l s).row=(Qf m' l s).row
 |.cell l s,m,m'=>Qf m l s=Qf m' l s∨((Qf m l s).isRow=true∧(Qf m' l s).isRow=true)
 |.outer,m,m'=>∀l s,Qf m (l+1) s=Qf m' (l+1) s
 |.all,m,m'=>m=m'

theorem Xd.refl (c:MC)(m:Qo):Xd c m m:=by
 cases c<;>simp[Xd]

theorem Wm {m m':Qo}{l s:Nat}(h:(Qf m l s).sh=(Qf m' l s).sh):KQ m l s=KQ m' l s:=by
 unfold KQ;cases h1:Qf m l s<;>cases h2:Qf m' l s<;>rw[h1,h2]at h<;>simp_all[Ob.sh]

theorem HH {m m':Qo}(h:Xd .shape m m')(sz:Option Nat)(x:AV)(lo hi:Nat)(mx:Option Nat):Xq m sz x lo hi mx=Xq m' sz x lo hi mx:=by
 cases sz with
 |none=>rfl
 |some z=>
  cases x with
  |vec l s g o n q=>
   have h:=h l s;simp only[Xq];cases h1:Qf m l s<;>cases h2:Qf m' l s<;>rw[h1,h2]at h<;>simp_all[Ob.sh]
  |_=>rfl

theorem HI {m m':Qo}(h:Xd .shape m m')(sz:Nat)(len:Option Nat)(x:AV)(i:Int):Qc m sz len x i=Qc m' sz len x i:=by
 unfold Qc;cases len with
 |none=>
  cases x with
  |vec l s g o n q=>
   have h:=h l s;simp only;cases h1:Qf m l s<;>cases h2:Qf m' l s<;>rw[h1,h2]at h<;>simp_all[Ob.sh]
  |_=>rfl
 |some k=>rfl

def CR (F:Nat→List AV→Option AV):Ob→Option AV
 |.vec g _ xs=>F g xs
 |_=>none

theorem BL {o o':Ob}(h:o.row=o'.row)(F:Nat→List AV→Option AV):CR F o=CR F o':=by
  cases o<;>cases o'<;>simp only[Ob.row,QzD,Prod.mk.injEq,reduceCtorEq]at h<;>first
    |rfl
    | (obtain⟨rfl,_,rfl⟩:=h
       rfl)

theorem Yy (m:Qo)(k:Option Nat)(l s g i o:Nat):Xn m k (.vptr l s g i o)=CR (fun g' xs=>if g=g' then match xs[i]? with
  |some e=>part e.cells o k
  |none=>none
 else none) (Qf m l s):=by
 simp only[Xn];cases Qf m l s<;>rfl

theorem RZ {f:Fr}{m m':Qo}{vo:VO}(h:Xd vo.mc m m'):QB f m vo=QB f m' vo:=by
 cases vo<;>simp only[VO.mc]at h<;>try rfl
 case load k x=>have h:m=m':=h;subst h;rfl
 case mget ok z x i=>have h:m=m':=h;subst h;rfl
 case loado k x=>
  have h:∀l s,Qf m (l+1) s=Qf m' (l+1) s:=h;simp only[QB];split
  ·simp only[Xn,h]
  ·rfl
 case loadv l s k x=>
  have h:Qf m l s=Qf m' l s∨((Qf m l s).isRow=true∧(Qf m' l s).isRow=true):=h;simp only[QB];split
  ·split
   ·rename_i hh;obtain⟨rfl,rfl⟩:=hh;rcases h with h|⟨h1,h2⟩
    ·simp only[Xn,h]
    ·simp only[Xn];cases e1:Qf m _ _<;>cases e2:Qf m' _ _<;>rw[e1]at h1<;>rw[e2]at h2<;>first|rfl|(simp[Ob.isRow]at h1;done)|(simp[Ob.isRow]at h2;done)
   ·rfl
  ·rfl
 case loadr k x=>
  simp only[QB];split
  ·rfl
  ·rename_i l s g i o e;have h4:(Qf m l s).row=(Qf m' l s).row:=h l s;rw[Yy,Yy,BL h4]
  ·rfl
 case nilck x=>simp only[QB,fun l s=>Wm (h l s)]
 case faddr o x=>simp only[QB,fun l s=>Wm (h l s)]
 case len k x=>simp only[QB,fun l s=>Wm (h l s)]
 case slc sz x lo hi mx=>simp only[QB,HH h]
 case iaddr sz len x i=>simp only[QB,HI h]

mutual
theorem Yz {m m':Qo}(h:Xd .rows m m'):∀x:AV,x.still false m=x.still false m'
 |.vec l s g o n q=>by
   have h:=h l s;simp only[AV.still];cases h1:Qf m l s<;>cases h2:Qf m' l s<;>rw[h1,h2]at h<;>simp_all[Ob.row]
 |.agg l=>by simp only[AV.still,JG h l]
 |.tup l=>by simp only[AV.still,JG h l]
 |.iface t x=>by simp only[AV.still,Yz h x]
 |.top|.int .. | .bool _|.str _|.nils|.nilp|.nilf|.nili|.nilm|.anyp|.list _|.lcap _|.fn .. | .ptr .. | .vptr .. | .rptr _|.mp .. => rfl
 |.mptr l s=>by simp only[AV.still,QAs,Qzv,if_false]
theorem JG {m m':Qo}(h:Xd .rows m m'):∀l:List AV,AV.stillL false m l=AV.stillL false m' l
 | []=>rfl
 |x :: l=>by simp only[AV.stillL,Yz h x,JG h l]
end

def RO.pure:RO→Bool
 |.val _=>true
 |.bsl .. => true
 |.call _ _=>true
 |.lit0 _=>true
 |.appe .. => true
 |_=>false

def RO.mc:RO→MC
 |.val v=>v.mc
 |.call _ _=>.rows
 |.bsl .. => .no
 |.lit0 _=>.no
 |.appe .. => .no
 |_=>.all

section
variable {P:Program}

def FM (P:Program)(op:RO)(st:St)(x:AV):Prop :=
 match op with
 |.val vo=>QB st.f st.m vo=some x
 |.call f args=>∃k fa fb ys,f.ev st.f=.fn (.func k) fa fb∧AV.stillL false st.m (fa++args.map (RA.ev st.f)++fb)=some ys∧AV.rfL ys=true∧Qu P k ys x∧x.rf=true∧(AV.rfL (fa++args.map (RA.ev st.f)++fb)=true∨x.nl=true)
 |_=>False

def XV (P:Program)(op:RO)(st:St)(x:AV)(m:Qo):Prop :=
 match op with
 |.val vo=>QB st.f st.m vo=some x∧m=st.m
 |.call f args=>FM P (.call f args) st x∧m=st.m
 |.allocN s z=>Xs st.m s=true∧x=.ptr 0 s 0∧m=Am.put st.m 0 s (.cells z)
 |.boxN s r=>Xs st.m s=true∧(r.ev st.f).cells.all AV.leaf=true∧x=.ptr 0 s 0∧m=Am.put st.m 0 s (.cells (r.ev st.f).cells)
 |.store n p r=>(r.ev st.f).cells.length=n∧(r.ev st.f).cells.all AV.leaf=true∧Q1 st.m (p.ev st.f) (r.ev st.f).cells=some m∧x=.tup []
 |.storev l s n p r=>(∃o,p.ev st.f=.ptr l s o)∧(r.ev st.f).cells.length=n∧(r.ev st.f).cells.all AV.leaf=true∧Q1 st.m (p.ev st.f) (r.ev st.f).cells=some m∧x=.tup []
 |.app sz bytes el s r=>∃l site g n xs ys,s.ev st.f=.vec l site g 0 n false∧Qf st.m l site=.vec g sz xs∧X1 site el=true∧n≤xs.length∧XD st.m (r.ev st.f)=some ys∧ys.all (fun e=>e.cells.length==sz)=true∧n+ys.length≤maxLen∧(n+ys.length)*bytes≤140737488355328∧
   x=.vec l site (g+1) 0 (n+ys.length) false∧m=Am.put st.m l site (.vec (g+1) sz (xs.take n++ys))
 |.bsl sz len z ps=>(∃y,fill st.f ps (ZI z sz len)=some y∧AV.rfL y=true∧y.all AV.leaf=true∧x=.list (ZH sz len (y.map nn0)))∧m=st.m
 |.lit0 _=>x=.lcap []∧m=st.m
 |.appe sz bytes _ s r=>(∃xs ys,s.ev st.f=.lcap xs∧r.ev st.f=.list ys∧xs.all (fun e=>e.cells.length==sz)=true∧ys.all (fun e=>e.cells.length==sz)=true∧xs.length+ys.length≤maxLen∧(xs.length+ys.length)*bytes≤140737488355328∧x=.list (xs++ys))∧m=st.m
 |.bsl0 site sz=>Qy (Qf st.m 0 site)=true∧x=.vec 0 site (QX st.m 0 site) 0 0 false∧m=Am.put st.m 0 site (.vec (QX st.m 0 site) sz [])
 |.callF f args=>∃k fa fb,f.ev st.f=.fn (.func k) fa fb∧Qq P k (fa++args.map (RA.ev st.f)++fb) st.m (fun y m'=>y=x∧m'=m)
 |.callK l s f args=>∃k fa fb,f.ev st.f=.fn (.func k) fa fb∧Qq P k (fa++args.map (RA.ev st.f)++fb) st.m (fun y m'=>y=x∧m'=m)∧Qf m l s=Qf st.m l s
 |_=>False

def RO.keeps:RO→Bool
 |.mk .. => false
 |.isnil .. => false
 |.xb .. => false
 |.rngs .. => false
 |.nxts .. => false
 |.mkm .. => false
 |.mput .. => false
 |_=>true

theorem HJ {d:Option Nat}{op:RO}{st:St}{K:St→Prop}(hk:op.keeps=true):K9 P d op st K↔∃x m,XV P op st x m∧K { st with m:=m,f:=Qj st.f d x }:=by
 cases op<;>simp only[RO.keeps,Qzv]at hk<;>simp only[K9,XV,FM]
 case val=>exact⟨fun⟨x,h,k⟩=>⟨x,_,⟨h,rfl⟩,k⟩,fun⟨x,m,⟨h,e⟩,k⟩=>by subst e;exact⟨x,h,k⟩⟩
 case allocN=>exact⟨fun⟨h,k⟩=>⟨_,_,⟨h,rfl,rfl⟩,k⟩,fun⟨x,m,⟨h,e,e'⟩,k⟩=>by subst e e';exact⟨h,k⟩⟩
 case boxN=>exact⟨fun⟨h,h',k⟩=>⟨_,_,⟨h,h',rfl,rfl⟩,k⟩,fun⟨x,m,⟨h,h',e,e'⟩,k⟩=>by subst e e';exact⟨h,h',k⟩⟩
 case store=>exact⟨fun⟨h1,h2,m',h3,k⟩=>⟨_,m',⟨h1,h2,h3,rfl⟩,k⟩,fun⟨x,m,⟨h1,h2,h3,e⟩,k⟩=>by subst e;exact⟨h1,h2,m,h3,k⟩⟩
 case storev=>exact⟨fun⟨h0,h1,h2,m',h3,k⟩=>⟨_,m',⟨h0,h1,h2,h3,rfl⟩,k⟩,fun⟨x,m,⟨h0,h1,h2,h3,e⟩,k⟩=>by subst e;exact⟨h0,h1,h2,m,h3,k⟩⟩
 case app=>exact⟨fun⟨l,site,g,n,xs,ys,h1,h2,ht,h3,h4,h5,h6,h7,k⟩=>⟨_,_,⟨l,site,g,n,xs,ys,h1,h2,ht,h3,h4,h5,h6,h7,rfl,rfl⟩,k⟩,fun⟨x,m,⟨l,site,g,n,xs,ys,h1,h2,ht,h3,h4,h5,h6,h7,e,e'⟩,k⟩=>by subst e e';exact⟨l,site,g,n,xs,ys,h1,h2,ht,h3,h4,h5,h6,h7,k⟩⟩
 case call=>exact⟨fun⟨k,fa,fb,ys,v,h1,h2,h3,h4,h5,h6,kk⟩=>⟨v,_,⟨⟨k,fa,fb,ys,h1,h2,h3,h4,h5,h6⟩,rfl⟩,kk⟩,fun⟨x,m,⟨⟨k,fa,fb,ys,h1,h2,h3,h4,h5,h6⟩,e⟩,kk⟩=>by subst e;exact⟨k,fa,fb,ys,x,h1,h2,h3,h4,h5,h6,kk⟩⟩
 case bsl=>exact⟨fun⟨y,h1,h2,h3,k⟩=>⟨_,_,⟨⟨y,h1,h2,h3,rfl⟩,rfl⟩,k⟩,fun⟨x,m,⟨⟨y,h1,h2,h3,e⟩,e'⟩,k⟩=>by subst e e';exact⟨y,h1,h2,h3,k⟩⟩
 case lit0=>exact⟨fun k=>⟨_,_,⟨rfl,rfl⟩,k⟩,fun⟨x,m,⟨e,e'⟩,k⟩=>by subst e e';exact k⟩
 case appe=>exact⟨fun⟨xs,ys,h1,h2,h3,h4,h5,h6,k⟩=>⟨_,_,⟨⟨xs,ys,h1,h2,h3,h4,h5,h6,rfl⟩,rfl⟩,k⟩,fun⟨x,m,⟨⟨xs,ys,h1,h2,h3,h4,h5,h6,e⟩,e'⟩,k⟩=>by subst e e';exact⟨xs,ys,h1,h2,h3,h4,h5,h6,k⟩⟩
 case bsl0=>exact⟨fun⟨h1,k⟩=>⟨_,_,⟨h1,rfl,rfl⟩,k⟩,fun⟨x,m,⟨h1,e,e'⟩,k⟩=>by subst e e';exact⟨h1,k⟩⟩
 case callK=>exact⟨fun⟨k,fa,fb,v,m',h1,h2,h3,kk⟩=>⟨v,m',⟨k,fa,fb,h1,h2,h3⟩,kk⟩,fun⟨x,m,⟨k,fa,fb,h1,h2,h3⟩,kk⟩=>⟨k,fa,fb,x,m,h1,h2,h3,kk⟩⟩
 case callF=>exact⟨fun⟨k,fa,fb,v,m',h1,h2,kk⟩=>⟨v,m',⟨k,fa,fb,h1,h2⟩,kk⟩,fun⟨x,m,⟨k,fa,fb,h1,h2⟩,kk⟩=>⟨k,fa,fb,x,m,h1,h2,kk⟩⟩

def X9 (P:Program)(it:Item)(st:St)(x:AV)(m:Qo):Prop :=
 match it.g with
 |none=>XV P it.op st x m
 |some (j,want)=>match st.f j with
  |.bool b=>(b=want∧XV P it.op st x m)∨(b=(!want)∧x=.tup []∧m=st.m)
  |.tup l=>l=[]∧x=.tup []∧m=st.m
  |_=>False

theorem ZU {it:Item}{st:St}{K:St→Prop}(hk:it.op.keeps=true):XI P it st K↔∃x m,X9 P it st x m∧K { st with m:=m,f:=Qj st.f it.dst x }:=by
 obtain⟨d,op,g⟩:=it;cases g with
 |none=>exact HJ hk
 |some p=>
  obtain⟨j,want⟩:=p;simp only[XI,X9];cases hj:st.f j with
  |bool b=>
   simp only;rw[HJ hk]
   constructor
   ·intro⟨h1,h2⟩;by_cases hb:b=want
    ·obtain⟨x,m,h,k⟩:=h1 hb;exact⟨x,m,.inl ⟨hb,h⟩,k⟩
    ·have hb':b=!want:=by cases b<;>cases want<;>first|rfl|exact absurd rfl hb
     exact⟨_,_,.inr ⟨hb',rfl,rfl⟩,h2 hb'⟩
   ·rintro⟨x,m,⟨hb,h⟩|⟨hb,rfl,rfl⟩,k⟩
    ·exact⟨fun _=>⟨x,m,h,k⟩,fun e=>by rw[hb]at e;cases want<;>cases e⟩
    ·exact⟨fun e=>(by rw[hb]at e;cases want<;>cases e),fun _=>k⟩
  |tup l=>
   constructor
   ·rintro⟨h,k⟩;exact⟨_,_,⟨h,rfl,rfl⟩,k⟩
   ·rintro⟨x,m,⟨h,rfl,rfl⟩,k⟩;exact⟨h,k⟩
  |_=>exact⟨fun h=>h.elim,fun⟨_,_,h,_⟩=>h.elim⟩

theorem YA {op:RO}{f f':Fr}{m m':Qo}{ds ds':List DF}{x:AV}(h:Zi op.sl f f')(k:XV P op ⟨f,m,ds⟩ x m'):XV P op ⟨f',m,ds'⟩ x m':=by
 cases op with
 |val vo=>simp only[XV,CQ (vo:=vo) h]at k ⊢;exact k
 |call g args=>simp only[XV,FM,RA.ev_same (r:=g) h.left,JA (rs:=args) h.right]at k ⊢;exact k
 |callK l s g args=>simp only[XV,RA.ev_same (r:=g) h.left,JA (rs:=args) h.right]at k ⊢;exact k
 |callF g args=>simp only[XV,RA.ev_same (r:=g) h.left,JA (rs:=args) h.right]at k ⊢;exact k
 |allocN s z=>exact k
 |boxN s r=>simp only[XV,RA.ev_same (r:=r) h]at k ⊢;exact k
 |store n p r=>simp only[XV,RA.ev_same (r:=p) h.left,RA.ev_same (r:=r) h.right]at k ⊢;exact k
 |storev l s n p r=>simp only[XV,RA.ev_same (r:=p) h.left,RA.ev_same (r:=r) h.right]at k ⊢;exact k
 |app sz bytes el s r=>simp only[XV,RA.ev_same (r:=s) h.left,RA.ev_same (r:=r) h.right]at k ⊢;exact k
 |bsl sz len z ps=>simp only[XV,Wl (ps:=ps) h]at k ⊢;exact k
 |bsl0 site sz=>exact k
 |lit0 sz=>exact k
 |appe sz bytes el s r=>simp only[XV,RA.ev_same (r:=s) h.left,RA.ev_same (r:=r) h.right]at k ⊢;exact k
 |_=>exact k.elim

theorem JT {it:Item}{f f':Fr}{m m':Qo}{ds ds':List DF}{x:AV}(h:Zi it.sl f f')(k:X9 P it ⟨f,m,ds⟩ x m'):X9 P it ⟨f',m,ds'⟩ x m':=by
 obtain⟨d,op,g⟩:=it;cases g with
 |none=>exact YA (Zi.left h) k
 |some p=>
  obtain⟨j,want⟩:=p;have hj:f j=f' j:=(Zi.right h) j (by simp);simp only[X9]at k ⊢;rw[←hj];cases he:f j with
  |bool b=>rw[he]at k;exact k.imp (fun h1=>⟨h1.1,YA (Zi.left h) h1.2⟩) id
  |tup l=>rw[he]at k;exact k
  |_=>rw[he]at k;exact k

theorem HK {op:RO}(hp:op.pure=true){f:Fr}{m m' m1:Qo}{ds ds':List DF}{x:AV}(h:Xd op.mc m m')(k:XV P op ⟨f,m,ds⟩ x m1):m1=m∧XV P op ⟨f,m',ds'⟩ x m':=by
 cases op with
 |bsl sz len z ps=>obtain⟨k,e⟩:=k;exact⟨e,k,rfl⟩
 |lit0 sz=>obtain⟨k,e⟩:=k;exact⟨e,k,rfl⟩
 |appe sz bytes el s r=>obtain⟨k,e⟩:=k;exact⟨e,k,rfl⟩
 |val vo=>obtain⟨k,e⟩:=k;exact⟨e,by rw[←RZ (f:=f) h];exact k,rfl⟩
 |call g args=>
  obtain⟨⟨k,fa,fb,ys,h1,h2,h3,h4,h5,h6⟩,e⟩:=k;refine⟨e,⟨k,fa,fb,ys,h1,?_,h3,h4,h5,h6⟩,rfl⟩;rw[←JG h];exact h2
 |_=>cases hp

theorem Wn {it:Item}(hp:it.op.pure=true){f:Fr}{m m' m1:Qo}{ds ds':List DF}{x:AV}(h:Xd it.op.mc m m')(k:X9 P it ⟨f,m,ds⟩ x m1):m1=m∧X9 P it ⟨f,m',ds'⟩ x m':=by
 obtain⟨d,op,g⟩:=it;cases g with
 |none=>exact HK hp h k
 |some p=>
  obtain⟨j,want⟩:=p;simp only[X9]at k ⊢;cases he:f j with
  |bool b=>
   rw[he]at k;rcases k with⟨h1,k⟩|⟨h1,h2,h3⟩
   ·obtain⟨a,b⟩:=HK hp h k;exact⟨a,.inl ⟨h1,b⟩⟩
   ·exact⟨h3,.inr ⟨h1,h2,trivial⟩⟩
  |tup l=>rw[he]at k;exact⟨k.2.2,k.1,k.2.1,trivial⟩
  |_=>rw[he]at k;exact k.elim

def RO.lets (op:RO)(c:MC):Bool :=
 match op with
 |.val _=>true
 |.call _ _=>true
 |.store .. => c == .no||c == .shape
 |.storev l s _ _ _=>match c with
  |.cell l' s'=>l' != l||s' != s
  |.outer=>l==0
  |.all=>false
  |_=>true
 |.allocN s _=>match c with
  |.cell l' s'=>l' != 0||s' != s
  |.all=>false
  |_=>true
 |.boxN s _=>match c with
  |.cell l' s'=>l' != 0||s' != s
  |.all=>false
  |_=>true
 |.app .. => match c with
  |.no=>true
  |.cell _ _=>true
  |_=>false
 |.bsl .. => true
 |.lit0 _=>true
 |.appe .. => true
 |.bsl0 s _=>match c with
  |.no=>true
  |.cell l' s'=>l' != 0||s' != s
  |.outer=>true
  |_=>false
 |.callF .. => c == .no
 |.callK l s _ _=>match c with
  |.no=>true
  |.cell l' s'=>l'==l&&s'==s
  |_=>false
 |_=>false

theorem Kx {m:Qo}{l s:Nat}{o o':Ob}(hl:Qf m l s=o)(ho:o.row=none)(ho':o'.row=none)(hlt:l<m.length){c:MC}(hc:match c with
  |.cell l' s'=>(l' != l||s' != s)=true
  |.outer=>(l==0)=true
  |.all=>False
  |_=>True):Xd c m (Am.put m l s o'):=by
 have key:∀l' s',(l'=l∧s'=s)∨Qf (Am.put m l s o') l' s'=Qf m l' s':=by
  intro l' s';by_cases hh:l'=l∧s'=s
  ·exact .inl hh
  ·exact .inr (Qt (by omega))
 have hsh:∀ {x:Ob},x.row=none→x.sh=none:=by intro x;cases x<;>simp[Ob.row,Ob.sh]
 cases c with
 |no=>trivial
 |shape=>
  intro l' s';rcases key l' s' with⟨rfl,rfl⟩|e
  ·rw[Qz hlt,hl,hsh ho,hsh ho']
  ·rw[e]
 |rows=>
  intro l' s';rcases key l' s' with⟨rfl,rfl⟩|e
  ·rw[Qz hlt,hl,ho,ho']
  ·rw[e]
 |cell l' s'=>
  show Qf m l' s'=Qf _ l' s'∨_;rcases key l' s' with⟨rfl,rfl⟩|e
  ·simp at hc
  ·exact .inl e.symm
 |outer=>
  intro l' s';have hc:l=0:=by simpa using hc
  exact(Qt (by omega)).symm
 |all=>exact hc.elim

theorem BM {m:Qo}{s:Nat}(h:Xs m s=true):Qf m 0 s=.none:=by
 unfold Xs at h;split at h
 ·assumption
 ·cases h

end

theorem Xd.symm {c:MC}{m m':Qo}(h:Xd c m m'):Xd c m' m:=by
 cases c with
 |no=>trivial
 |shape=>exact fun l s=>(h l s).symm
 |rows=>exact fun l s=>(h l s).symm
 |cell l s=>exact Or.imp Eq.symm And.symm h
 |outer=>exact fun l s=>(h l s).symm
 |all=>exact Eq.symm h

theorem HL {m m':Qo}{p:AV}{ys:List AV}(h:Q1 m p ys=some m'):Xd .shape m m':=by
 cases p with
 |ptr l s o=>
  simp only[Q1]at h;split at h
  ·rename_i xs hlk;split at h
   ·split at h
    ·cases h;exact Kx (c:=.shape) hlk rfl rfl (Xj (by rw[hlk];simp)) trivial
    ·cases h
   ·cases h
  ·cases h
 |vptr l s g i o=>
  simp only[Q1]at h;split at h
  ·rename_i g' sz xs hlk;split at h
   ·rename_i hg;subst hg;split at h
    ·split at h
     ·cases h;intro l' s';by_cases hh:l'=l∧s'=s
      ·obtain⟨rfl,rfl⟩:=hh;rw[Qz (Xj (by rw[hlk];simp)),hlk];rfl
      ·rw[Qt (by omega)]
     ·cases h
    ·cases h
   ·cases h
  ·cases h
 |_=>simp[Q1]at h

section
variable {P:Program}{N:Nat}

theorem HM {m:Qo}{s:Nat}{xs:List AV}(h:Xs m s=true){c:MC}(hc:match c with
  |.cell l' s'=>(l' != 0||s' != s)=true
  |.all=>False
  |_=>True):Xd c m (Am.put m 0 s (.cells xs)):=by
 cases m with
 |nil=>exact Xd.refl c _
 |cons fr m=>exact Kx (BM h) rfl rfl (by simp) (by cases c<;>first|exact hc|rfl)

theorem YB {op:RO}{c:MC}(hc:op.lets c=true){st:St}{x:AV}{m:Qo}(h:XV P op st x m):Xd c st.m m:=by
 cases op with
 |val vo=>rw[h.2];exact Xd.refl c _
 |call f args=>rw[h.2];exact Xd.refl c _
 |callK l s f args=>
  obtain⟨_,_,_,_,_,he⟩:=h;cases c with
  |no=>trivial
  |cell l' s'=>
   simp only[RO.lets,Qzz,QzA]at hc;obtain⟨rfl,rfl⟩:=hc;exact .inl he.symm
  |_=>simp[RO.lets]at hc
 |store n p r=>
  simp only[RO.lets,Qz1,QzA]at hc;rcases hc with rfl|rfl
  ·trivial
  ·exact HL h.2.2.1
 |storev l s n p r=>
  obtain⟨⟨o,ho⟩,h1,h2,h3,h4⟩:=h;rw[ho]at h3;simp only[Q1]at h3;split at h3
  ·rename_i xs hlk;split at h3
   ·split at h3
    ·cases h3;refine Kx hlk rfl rfl (Xj (by rw[hlk];simp)) ?_;cases c<;>first|trivial|exact hc|cases hc
    ·cases h3
   ·cases h3
  ·cases h3
 |allocN s z=>
  rw[h.2.2];refine HM h.1 ?_;cases c<;>first|trivial|exact hc|cases hc
 |boxN s r=>
  rw[h.2.2.2];refine HM h.1 ?_;cases c<;>first|trivial|exact hc|cases hc
 |app sz bytes el s r=>
  obtain⟨l,site,g,n,xs,ys,_,hlk,_,_,_,_,_,_,_,rfl⟩:=h;cases c with
  |no=>trivial
  |cell l' s'=>
   show Qf st.m l' s'=Qf _ l' s'∨_;by_cases hh:l'=l∧s'=site
   ·obtain⟨rfl,rfl⟩:=hh;refine .inr ⟨by rw[hlk];rfl,?_⟩;rw[Qz (Xj (by rw[hlk];simp))];rfl
   ·exact .inl (Qt (by omega)).symm
  |_=>simp[RO.lets]at hc
 |bsl sz len z ps=>rw[h.2];exact Xd.refl c _
 |lit0 sz=>rw[h.2];exact Xd.refl c _
 |appe sz bytes el s r=>rw[h.2];exact Xd.refl c _
 |bsl0 site sz=>
  obtain⟨_,_,rfl⟩:=h;cases c with
  |no=>trivial
  |cell l' s'=>
   simp only[RO.lets,Qz1,QzE]at hc;exact .inl (Qt (by omega)).symm
  |outer=>exact fun l' s'=>(Qt (.inl (Nat.succ_ne_zero l'))).symm
  |_=>simp[RO.lets]at hc
 |callF f args=>
  simp only[RO.lets,QzA]at hc;subst hc;trivial
 |_=>exact h.elim

theorem YC {it:Item}{c:MC}(hc:it.op.lets c=true){st:St}{x:AV}{m:Qo}(h:X9 P it st x m):Xd c st.m m:=by
 obtain⟨d,op,g⟩:=it;cases g with
 |none=>exact YB hc h
 |some p=>
  obtain⟨j,want⟩:=p;simp only[X9]at h;cases he:st.f j with
  |bool b=>
   rw[he]at h;rcases h with⟨_,h⟩|⟨_,_,h⟩
   ·exact YB hc h
   ·rw[h];exact Xd.refl c _
  |tup l=>rw[he]at h;rw[h.2.2];exact Xd.refl c _
  |_=>rw[he]at h;exact h.elim

def WF (a b:Item):Bool :=
  (match a.dst with
   |some d=>!(b.sl.contains d)&&b.dst != some d
   |none=>true) &&
  (match b.dst with
   |some d=>!(a.sl.contains d)
   |none=>true)

def HN (a b:Item):Bool :=
 match a.op,b.op,a.g,b.g with
 |.allocN s _,.allocN t _,none,none=>s != t
 |_,_,_,_=>false

def WG (a b:Item):Bool :=
 a.op.keeps&&b.op.keeps&&WF a b&&((a.op.pure&&b.op.lets a.op.mc)||(b.op.pure&&a.op.lets b.op.mc)||HN a b)

theorem HO {m:Qo}{s t:Nat}{o:Ob}(h:s≠t):Xs (Am.put m 0 s o) t=Xs m t:=by
 unfold Xs;rw[Qt (.inr (Ne.symm h))]
theorem CS {m:Qo}{s t:Nat}{o q:Ob}(h:s≠t):Am.put (Am.put m 0 s o) 0 t q=Am.put (Am.put m 0 t q) 0 s o:=by
 cases m with
 |nil=>rfl
 |cons fr m=>
  simp only[Am.put];congr 1
  funext i;by_cases h1:i=t
  ·subst h1;rw[QM,QP _ _ (Ne.symm h),QM]
  ·rw[QP _ _ h1];by_cases h2:i=s
   ·subst h2;rw[QM,QM]
   ·rw[QP _ _ h2,QP _ _ h2,QP _ _ h1]
theorem Dp {a b:Item}(h:HN a b=true){st:St}{f:Fr}{x y:AV}{m m2:Qo}(ga:X9 P a st x m)(gb:X9 P b { st with m:=m,f:=f } y m2) :
  ∃m1,X9 P b st y m1∧∀f',X9 P a { st with m:=m1,f:=f' } x m2:=by
 obtain⟨da,oa,ga'⟩:=a;obtain⟨db,ob,gb'⟩:=b;unfold HN at h;dsimp only at h;split at h
 ·rename_i s z t w;have hne:s≠t:=by simpa using h
  obtain⟨h1,rfl,rfl⟩:=ga;obtain⟨h2,rfl,rfl⟩:=gb;dsimp only at h2;rw[HO hne]at h2;refine⟨_,⟨h2,rfl,rfl⟩,fun f'=>⟨?_,rfl,?_⟩⟩
  ·dsimp only;rw[HO (Ne.symm hne)];exact h1
  ·exact CS hne
 ·cases h

theorem UM {l:List Nat}{f:Fr}{d:Option Nat}{x:AV}(h:∀k,d=some k→k∉l):Zi l f (Qj f d x):=by
 intro t ht;cases d with
 |none=>rfl
 |some k=>
  have:t≠k:=fun e=>h k rfl (e▸ht)
  show f t=Qw f k x t;rw[QP _ _ this]

theorem BN {f:Fr}{d e:Option Nat}{x y:AV}(h:∀k,d=some k→e≠some k):Qj (Qj f d x) e y=Qj (Qj f e y) d x:=by
 cases d with
 |none=>rfl
 |some d=>
  cases e with
  |none=>rfl
  |some e=>
   have hne:d≠e:=fun hh=>h d rfl (hh▸rfl)
   funext i;show Qw (Qw f d x) e y i=Qw (Qw f e y) d x i;by_cases h1:i=e
   ·subst h1;rw[QM,QP _ _ (Ne.symm hne),QM]
   ·rw[QP _ _ h1];by_cases h2:i=d
    ·subst h2;rw[QM,QM]
    ·rw[QP _ _ h2,QP _ _ h2,QP _ _ h1]

theorem FN {a b:Item}(h:WF a b=true):(∀k,a.dst=some k→k∉b.sl)∧(∀k,a.dst=some k→b.dst≠some k)∧(∀k,b.dst=some k→k∉a.sl):=by
 unfold WF at h;simp only[Qzz]at h;refine⟨fun k e=>?_,fun k e=>?_,fun k e=>?_⟩
 ·have:=h.1;rw[e]at this;simp at this;exact this.1
 ·have:=h.1;rw[e]at this;simp at this;exact this.2
 ·have:=h.2;rw[e]at this;simpa using this

theorem FO {a b:Item}(h:WG a b=true){st:St}{K:St→Prop}(k:XI P a st fun s=>XI P b s K):XI P b st fun s=>XI P a s K:=by
 unfold WG at h;simp only[Qzz,Qz1]at h;obtain⟨⟨⟨ka,kb⟩,hap⟩,hor⟩:=h;obtain⟨h1,h2,h3⟩:=FN hap;rw[ZU ka]at k;obtain⟨x,m,ga,k⟩:=k;rw[ZU kb]at k;obtain⟨y,m2,gb,k⟩:=k;rw[ZU kb];have hs1:∀f:Fr,Zi b.sl f (Qj f a.dst x):=fun f=>UM h1
 have hs3:∀f:Fr,Zi a.sl f (Qj f b.dst y):=fun f=>UM h3
 have hsym:∀ {l f f'},Zi l f f'→Zi l f' f:=fun h t ht=>(h t ht).symm
 have hK:K { st with m:=m2,f:=Qj (Qj st.f b.dst y) a.dst x }:=by
  rw[←BN h2];exact k
 rcases hor with(⟨pa,lb⟩|⟨pb,la⟩)|hf
 ·have e:m=st.m:=(Wn (m':=st.m) (ds':=st.ds) pa (Xd.refl _ _) ga).1;subst e;have gb':X9 P b st y m2:=JT (hsym (hs1 st.f)) gb;refine⟨y,m2,gb',?_⟩;rw[ZU ka];have ga':X9 P a { st with m:=m2 } x m2:=(Wn pa (YC lb gb') ga).2;exact⟨x,m2,JT (hs3 st.f) ga',hK⟩
 ·have hag:=YC la ga;obtain⟨e,gb1⟩:=Wn (m':=st.m) (ds':=st.ds) pb hag.symm gb;have e:m2=m:=e;subst e;have gb':X9 P b st y st.m:=JT (hsym (hs1 st.f)) gb1;refine⟨y,st.m,gb',?_⟩;rw[ZU ka];exact⟨x,m2,JT (hs3 st.f) ga,hK⟩
 ·obtain⟨m1,gb',ga'⟩:=Dp hf ga gb;refine⟨y,m1,gb',?_⟩;rw[ZU ka];exact⟨x,m2,ga' _,hK⟩

theorem BO {ops:Array Oper}{o:Oper}{i:Nat}(hi:ops[i]? = some o){it:Item}(hc:Wk P N ops o it=true){st:St}{K:St→Prop}(h:XI P it st K){G:Gh}{B:Nat}{a:Act}{w:World}(hr:Rel G B N st a w){KK:Act→World→Prop}{QQ:Exit→Act→World→Prop}
  (hk:∀G' st' a' w',K st'→Rel G' B N st' a' w'→Ext 1 G w G' w'→KK a' w'):wpOp P ops QQ i KK a w:=by
 have h1:Qs P N [it] st K:=HF (KV (fun _ hs=>Qs.nil hs) h);have h2:=h1 ops [o] (by simp[XL,hc]) G B a w hr (fun e a w=>match e with
  |.normal=>KK a w
  |e=>QQ e a w) (fun G' st' a' w' h1 h2 h3=>hk G' st' a' w' h1 h2 h3)
 unfold wpOp;simp only[hi];unfold wpList at h2;split
 ·rename_i hw;rw[Qzk hw]at h2;rcases h2 with h2|h2
  ·left
   unfold Oper.wp at h2 ⊢;generalize (execOp a.eval o).run P w=r at h2 ⊢;cases r with
   |ok n w'=>
    cases n<;>simp only[Oper.upon]at h2 ⊢<;>first
     |exact h2
     |exact Calls.mono h2 (fun e w'' he=>by cases e<;>exact he)
   |halt x w'=>cases x<;>simp only[Oper.upon]at h2 ⊢<;>exact h2
  ·exact .inr h2
 ·rename_i hw;rw[Qzj hw]at h2;exact h2

def dflt:Item:=⟨none,.val (.mov (.c .top)),none⟩
def KW (Qd:List Item)(l:List Nat):List Item:=l.map fun i=>Qd.getD i dflt

theorem BP {Qd:List Item}{i:Nat}{post:List Nat}{Q:St→Prop}:∀ {pre:List Nat} {st:St},(∀p,p∈pre→WG (Qd.getD p dflt) (Qd.getD i dflt)=true)→
  Ql P (KW Qd (pre++i :: post)) st Q→XI P (Qd.getD i dflt) st fun s=>Ql P (KW Qd (pre++post)) s Q
 | [],_,_,h=>h
 |p :: pre,st,hp,h=>by
  have h':XI P (Qd.getD p dflt) st fun s=>Ql P (KW Qd (pre++i :: post)) s Q:=h
  have h2:=KV (fun s hs=>BP (fun q hq=>hp q (Qzs _ hq)) hs) h';exact FO (hp p (Qzu ..)) h2

inductive Bef (ops:Array Oper):Nat→Nat→Prop
 |one {i:Nat} {o:Oper} {e:Edge} (ho:ops[i]? = some o) (he:e∈o.after) (hb:Region.binds .any e=true):Bef ops e.on i
 |more {i p:Nat} {o:Oper} {e:Edge} (ho:ops[i]? = some o) (he:e∈o.after) (hb:Region.binds .any e=true) (h:Bef ops p e.on):Bef ops p i

def FP (acc:List Nat)(m:Nat)(e:Edge):Nat:=if Region.binds .any e then(m ||| 2 ^ e.on) ||| acc.getD e.on 0 else m
def BQ (acc:List Nat)(o:Oper):Nat:=o.after.toList.foldl (FP acc) 0
def FQ:List Oper→List Nat→List Nat
 | [],acc=>acc
 |o :: os,acc=>FQ os (acc++[BQ acc o])

theorem YD {acc:List Nat}{p:Nat}:∀(l:List Edge) (m:Nat),(l.foldl (FP acc) m).testBit p=true→m.testBit p=true∨∃e∈l,Region.binds .any e=true∧(p=e.on∨(acc.getD e.on 0).testBit p=true)
 | [],m,h=>.inl h
 |e :: l,m,h=>by
  rw[List.foldl_cons]at h;rcases YD l _ h with h1|⟨e',h1,h2,h3⟩
  ·unfold FP at h1;split at h1
   ·rename_i hb;rw[Nat.testBit_or,Nat.testBit_or,Qz1,Qz1]at h1;rcases h1 with(h1|h1)|h1
    ·exact .inl h1
    ·rw[Nat.testBit_two_pow]at h1;exact .inr ⟨e,Qzu ..,hb,.inl (of_decide_eq_true h1).symm⟩
    ·exact .inr ⟨e,Qzu ..,hb,.inr h1⟩
   ·exact .inl h1
  ·exact .inr ⟨e',Qzs _ h1,h2,h3⟩

theorem HP {ops:Array Oper}:∀(l:List Oper) (acc:List Nat),ops.toList=ops.toList.take acc.length++l→acc.length+l.length=ops.size→(∀i p,(acc.getD i 0).testBit p=true→Bef ops p i)→∀i p,((FQ l acc).getD i 0).testBit p=true→Bef ops p i
 | [],acc,_,_,h=>h
 |o :: l,acc,e,hn,h=>by
  have hlen:acc.length<ops.toList.length:=by simp at hn ⊢;omega
  have hat:ops[acc.length]? = some o:=by
   rw[←QzF,e,QAp (by simp;omega)];simp;have:acc.length-min acc.length ops.size=0:=by simp at hlen;omega
   rw[this];rfl
  refine HP l (acc++[BQ acc o]) ?_ (by simp at hn ⊢;omega) fun i p hb=>?_
  ·rw[QzM,List.length_singleton,List.take_succ_eq_append_getElem hlen,Qzw];have:ops.toList[acc.length]=o:=by
    have:=Qzf hlen;rw[QzF,hat]at this;cases this;rfl
   rw[this];exact e
  ·rw[List.getD_eq_getElem?_getD]at hb;by_cases hi:i<acc.length
   ·rw[List.getElem?_append_left hi,←List.getD_eq_getElem?_getD]at hb;exact h i p hb
   ·by_cases hi2:i=acc.length
    ·subst hi2;rw[QAp (Qzc _)]at hb;simp only[Nat.sub_self,Qz5,QAd]at hb;rcases YD _ _ hb with h1|⟨e',h1,h2,h3⟩
     ·simp at h1
     ·rcases h3 with rfl|h3
      ·exact .one hat (by simpa using h1) h2
      ·exact .more hat (by simpa using h1) h2 (h _ _ h3)
    ·rw[QAn (by simp;omega)]at hb;simp at hb

def Ub (ops:Array Oper)(Qd:List Item):Bool :=
 (List.range ops.size).all fun i=>match ops[i]? with
  |some o=>o.after.all (fun e=>!Region.binds .any e||decide (e.on<i))&&(List.range i).all fun p=>((FQ ops.toList []).getD i 0).testBit p||WG (Qd.getD p dflt) (Qd.getD i dflt)
  |none=>true

theorem Bef.listed {ops:Array Oper}{L:Nat→Prop}(hcl:∀q,L q→∀o e,ops[q]? = some o→e∈o.after→Region.binds .any e=true→L e.on){p i:Nat}(h:Bef ops p i)(hi:∀o e,ops[i]? = some o→e∈o.after→Region.binds .any e=true→L e.on):L p:=by
 induction h with
 |one ho he hb=>exact hi _ _ ho he hb
 |more ho he hb _ ih=>exact ih (hcl _ (hi _ _ ho he hb))

def unl (n:Nat)(listed:Array Bool):List Nat:=(List.range n).filter fun i=>!listed.getD i true

theorem W8 {ops:Array Oper}:∀ {l:List Oper} {Qd:List Item},XL P N ops l Qd=true→l.length=Qd.length∧∀(i:Nat) (o:Oper),l[i]? = some o→Wk P N ops o (Qd.getD i dflt)=true
 | [],Qd,h=>by
  cases Qd with
  |nil=>exact⟨rfl,by simp⟩
  |cons it Qd=>simp[XL]at h
 |o :: l,Qd,h=>by
  cases Qd with
  |nil=>simp[XL]at h
  |cons it Qd=>
   simp only[XL,Qzz]at h;obtain⟨e,h2⟩:=W8 h.2;refine⟨by simp[e],fun i o' ho=>?_⟩;cases i with
   |zero=>simp at ho;subst ho;exact h.1
   |succ i=>simpa using h2 i o' (by simpa using ho)

theorem CU {ops:Array Oper}{Qd:List Item}(hc:XL P N ops ops.toList Qd=true)(hd:Ub ops Qd=true){B:Nat}{Q:St→Prop}{QQ:Exit→Act→World→Prop} :
  ∀(fuel:Nat) (listed:Array Bool),listed.size=ops.size→(∀q,listed.getD q false=true→∀o e,ops[q]? = some o→e∈o.after→Region.binds .any e=true→listed.getD e.on false=true)→(unl ops.size listed).length≤fuel→∀(st:St) (G:Gh) (a:Act) (w:World),Ql P (KW Qd (unl ops.size listed)) st Q→Rel G B N st a w→
   (∀G' st' a' w',Q st'→Rel G' B N st' a' w'→Ext 1 G w G' w'→QQ .normal a' w')→wpAny P .any ops QQ fuel listed a w:=by
 obtain⟨hlen,hcs⟩:=W8 hc;have hready:∀(listed:Array Bool) i,i∈Region.ready .any ops listed→i∈unl ops.size listed:=by
  intro listed i hi;obtain⟨h0,o,ho,_⟩:=mem_ready.1 hi;exact List.mem_filter.2 ⟨QAt.2 (Qzi.1 ho).1,by simp[h0]⟩
 have hat:∀i,i<ops.size→∃o,ops[i]? = some o∧(∀e∈o.after,Region.binds .any e=true→e.on<i)∧∀p,p<i→Bef ops p i∨WG (Qd.getD p dflt) (Qd.getD i dflt)=true:=by
  intro i hi;refine⟨ops[i],Qzt hi,?_⟩;have h1:=Qzp.1 hd i (QAt.2 hi);rw[Qzt hi]at h1;simp only[Qzz]at h1;refine⟨fun e he hb=>?_,fun p hp=>?_⟩
  ·have h2:=Array.all_eq_true_iff_forall_mem.1 h1.1 e he
   simpa [hb]using h2
  ·have h2:=Qzp.1 h1.2 p (QAt.2 hp);rw[Qz1]at h2;rcases h2 with h2|h2
   ·exact .inl (HP ops.toList [] (by simp) (by simp) (fun i p hb=>by simp at hb) i p h2)
   ·exact .inr h2
 -- the first that is left is ready
 have hfirst:∀(listed:Array Bool),listed.size=ops.size→Region.ready .any ops listed=[]→unl ops.size listed=[]:=by
  intro listed hsz hr;cases hu:unl ops.size listed with
  |nil=>rfl
  |cons i rest=>
   exfalso;have hpw:(unl ops.size listed).Pairwise (· < ·):=List.Pairwise.filter _ List.pairwise_lt_range;have hi:i∈unl ops.size listed:=by rw[hu];exact Qzu ..
   obtain⟨hi1,hi2⟩:=List.mem_filter.1 hi;obtain⟨o,ho,h1,_⟩:=hat i (QAt.1 hi1);have:i∈Region.ready .any ops listed:=by
    refine mem_ready.2 ⟨by simpa using hi2,o,ho,fun e he hb=>?_⟩;have hlt:=h1 e he hb;cases hg:listed.getD e.on false with
    |true=>rfl
    |false=>
     have hin:e.on∈unl ops.size listed:=by
      refine List.mem_filter.2 ⟨QAt.2 (Nat.lt_trans hlt (QAt.1 hi1)),?_⟩;have hlt':e.on<listed.size:=by rw[hsz];exact Nat.lt_trans hlt (QAt.1 hi1)
      simp[Qzt hlt']at hg ⊢;exact hg
     rw[hu]at hin hpw;rcases QAj.1 hin with e'|e'
     ·omega
     ·have:=(List.pairwise_cons.1 hpw).1 _ e';omega
   rw[hr]at this;cases this
 intro fuel
 induction fuel with
 |zero=>
  intro listed hsz hcl hl st G a w h hr hq;have hu:unl ops.size listed=[]:=Qz8 (by omega);refine⟨?_,?_⟩
  ·cases hx:Region.ready .any ops listed with
   |nil=>rfl
   |cons i r=>
    have:=hready listed i (by rw[hx];exact Qzu ..);rw[hu]at this;cases this
  ·rw[hu]at h;exact hq G st a w h hr (Ext.refl 1 G w)
 |succ fuel ih=>
  intro listed hsz hcl hl st G a w h hr hq;refine⟨fun hx=>?_,fun i hi=>?_⟩
  ·rw[hfirst listed hsz hx]at h;exact hq G st a w h hr (Ext.refl 1 G w)
  ·have hiu:=hready listed i hi;obtain⟨pre,post,hsplit⟩:=List.append_of_mem hiu;have hpw:(unl ops.size listed).Pairwise (· < ·):=List.Pairwise.filter _ List.pairwise_lt_range;rw[hsplit]at h hpw;obtain⟨_,hp2,hp3⟩:=List.pairwise_append.1 hpw;obtain⟨hi1,hi2⟩:=List.mem_filter.1 hiu;obtain⟨o,ho,h1,h2⟩:=hat i (QAt.1 hi1);obtain⟨_,o',ho',h3⟩:=mem_ready.1 hi;rw[ho]at ho';cases ho';have hind:∀p,p∈pre→WG (Qd.getD p dflt) (Qd.getD i dflt)=true:=by
    intro p hp;rcases h2 p (hp3 p hp i (Qzu ..))with hbef|h
    ·exfalso;have hl1:=hbef.listed (L:=fun q=>listed.getD q false=true) hcl (fun o2 e ho2 he hb=>by rw[ho]at ho2;cases ho2;exact h3 e he hb);have hpu:p∈unl ops.size listed:=by rw[hsplit];exact List.mem_append_left _ hp
     obtain⟨hr1,hr2⟩:=List.mem_filter.1 hpu;have hlt':p<listed.size:=by rw[hsz];exact QAt.1 hr1
     simp[Qzt hlt']at hl1 hr2;rw[hl1]at hr2;cases hr2
    ·exact h
   have hb:=BP (P:=P) hind h;have hnext:unl ops.size (listed.setIfInBounds i true)=pre++post:=by
    have e1:unl ops.size (listed.setIfInBounds i true)=(unl ops.size listed).filter fun j=>j != i:=by
     unfold unl;rw[List.filter_filter];refine List.filter_congr fun j hj=>?_
     by_cases hji:j=i
     ·subst hji;have hlt':j<listed.size:=by rw[hsz];exact QAt.1 hj
      simp[hlt']
     ·rw[getD_set_ne true (fun e=>hji e.symm)];simp[hji]
    rw[e1,hsplit,List.filter_append,List.filter_cons];have e2:pre.filter (fun j=>j != i)=pre:=List.filter_eq_self.2 fun j hj=>by
     have:=hp3 j hj i (Qzu ..);simp;omega
    have e3:post.filter (fun j=>j != i)=post:=List.filter_eq_self.2 fun j hj=>by
     have:=(List.pairwise_cons.1 hp2).1 j hj;simp;omega
    rw[e2,e3];simp
   have hset:∀q,listed.getD q false=true→(listed.setIfInBounds i true).getD q false=true:=fun q hq'=>by
    by_cases hqi:q=i
    ·subst hqi;have hlt':q<listed.size:=by rw[hsz];exact QAt.1 hi1
     simp[hlt']
    ·rw[getD_set_ne false (fun e=>hqi e.symm)];exact hq'
   have hcl':∀q,(listed.setIfInBounds i true).getD q false=true→∀o e,ops[q]? = some o→e∈o.after→Region.binds .any e=true→(listed.setIfInBounds i true).getD e.on false=true:=fun q hq' o2 e ho2 he2 hb2=>by
    by_cases hqi:q=i
    ·subst hqi;rw[ho]at ho2;cases ho2;exact hset _ (h3 e he2 hb2)
    ·rw[getD_set_ne false (fun e=>hqi e.symm)]at hq';exact hset _ (hcl q hq' o2 e ho2 he2 hb2)
   refine BO ho (hcs i o (by simpa using ho)) hb hr fun G' st' a' w' hk hr' he=>?_
   refine ih (listed.setIfInBounds i true) (by simpa using hsz) hcl' ?_ st' G' a' w' (by rw[hnext];exact hk) hr' fun G2 st2 a2 w2 hq2 hr2 he2=>hq G2 st2 a2 w2 hq2 hr2 (he.trans he2)
   rw[hnext];rw[hsplit]at hl;simp only[QzM,Qzr]at hl ⊢;omega

theorem BR {Qd:List Item}:KW Qd (List.range Qd.length)=Qd:=by
 apply List.ext_getElem
 ·simp[KW]
 ·intro i h1 h2;simp[KW,h2]

theorem R0 {ops:Array Oper}{Qd:List Item}(hm:P.follows .mixedOrders=true)(hc:XL P N ops ops.toList Qd=true)(hd:Ub ops Qd=true){st:St}{Q:St→Prop}(h:Ql P Qd st Q){G:Gh}{B:Nat}{a:Act}{w:World}(hr:Rel G B N st a w){QQ:Exit→Act→World→Prop}{id:Nat}
  (hq:∀G' st' a' w',Q st'→Rel G' B N st' a' w'→Ext 1 G w G' w'→QQ .normal a' w'):(Code.region id ops true).wp P QQ a w:=by
 refine wp_region_any hm ?_;have hlen:=(W8 hc).1;simp only[QzG]at hlen;have hu:unl ops.size (Array.replicate ops.size false)=List.range Qd.length:=by
  unfold unl;rw[hlen];refine List.filter_eq_self.2 fun i hi=>?_
  simp[QAt.1 hi]
 refine CU hc hd ops.size (Array.replicate ops.size false) (by simp) (fun q hq'=>by rw[Qzm]at hq';simp[Array.getElem?_replicate]at hq';split at hq'<;>cases hq') (by rw[hu];simp[hlen]) st G a _ (by rw[hu,BR];exact h) hr.drew fun G' st' a' w' h1 h2 h3=>hq G' st' a' w' h1 h2 ((Ext.drew G w).trans h3)

end

def XR (P:Program)(N:Nat):RC→Code→Bool
 |.gho _ r,c=>XR P N r c
 |.no,_=>true
 |.skip,c=>match c with
  |.skip=>true
  |_=>false
 |.reg Qd,c=>match c with
  |.region _ ops false=>XL P N ops ops.toList Qd
  |_=>false
 |.draw Qd,c=>match c with
  |.region _ ops true=>P.follows .mixedOrders&&XL P N ops ops.toList Qd&&Ub ops Qd
  |_=>false
 |.seq a b,c=>match c with
  |.seq x y=>XR P N a x&&XR P N b y
  |_=>false
 |.cond r a b,c=>match c with
  |.cond o x y=>QG o r&&XR P N a x&&XR P N b y
  |_=>false
 |.block i a,c=>match c with
  |.block j x=>i==j&&XR P N a x
  |_=>false
 |.loop a,c=>match c with
  |.loop x=>XR P N a x
  |_=>false
 |.exit i,c=>match c with
  |.exit j=>i==j
  |_=>false
 |.scope a,c=>match c with
  |.scope x=>XR P N a x
  |_=>false
 |.lab,c=>match c with
  |.label _=>true
  |_=>false
 |.ret,c=>match c with
  |.ret=>true
  |_=>false

section
variable {P:Program}{N B:Nat}

theorem BS:∀ {rc:RC} {c:Code} {st:St} {Q:Exit→St→Prop},QE P rc st Q→XR P N rc c=true→∀ {G:Gh} {a:Act} {w:World},Rel G B N st a w→∀ {QQ:Exit→Act→World→Prop},
  (∀e G' st' a' w',Q e st'→Rel G' B N st' a' w'→Ext 1 G w G' w'→QQ e a' w')→c.wp P QQ a w:=by
 intro rc
 induction rc with
 |skip=>
  intro c st Q h hc G a w hr QQ hq;cases c<;>simp only[XR,Qzv]at hc;exact wp_skip (hq _ _ _ _ _ h hr (Ext.refl 1 G w))
 |reg Qd=>
  intro c st Q h hc G a w hr QQ hq;cases c<;>simp only[XR,Qzv]at hc;rename_i id ops d;cases d<;>simp only[Qzv]at hc;refine wp_region_list ?_;exact DA (N:=N) h ops ops.toList hc G B a w hr QQ fun G' st' a' w' h1 h2 h3=>hq _ _ _ _ _ h1 h2 h3
 |draw Qd=>
  intro c st Q h hc G a w hr QQ hq;cases c<;>simp only[XR,Qzv]at hc;rename_i id ops d;cases d<;>simp only[Qzv,Qzz]at hc;exact R0 hc.1.1 hc.1.2 hc.2 h hr fun G' st' a' w' h1 h2 h3=>hq _ _ _ _ _ h1 h2 h3
 |seq x y ihx ihy=>
  intro c st Q h hc G a w hr QQ hq;cases c<;>simp only[XR,Qzv,Qzz]at hc;refine wp_seq (ihx h hc.1 hr fun e G' st' a' w' h1 h2 h3=>?_);cases e with
  |normal=>exact ihy h1 hc.2 h2 fun e G2 st2 a2 w2 k1 k2 k3=>hq _ _ _ _ _ k1 k2 (h3.trans k3)
  |_=>exact hq _ _ _ _ _ h1 h2 h3
 |cond r x y ihx ihy=>
  intro c st Q h hc G a w hr QQ hq;cases c<;>simp only[XR,Qzv,Qzz]at hc;rename_i o cx cy;obtain⟨t,ht,h1,h2⟩:=h;have hv:=Qp hr hc.1.1;rw[ht]at hv;have hv':a.eval o=.bool t:=by
   generalize a.eval o=v at hv;cases hv;rfl
  refine wp_cond_split hv' (fun e=>?_) (fun e=>?_)
  ·exact ihx (h1 e) hc.1.2 hr hq
  ·exact ihy (h2 e) hc.2 hr hq
 |block i x ih=>
  intro c st Q h hc G a w hr QQ hq;cases c<;>simp only[XR,Qzv,Qzz,QzA]at hc;obtain⟨rfl,hc⟩:=hc;refine wp_block (ih h hc hr fun e G' st' a' w' h1 h2 h3=>?_);cases e with
  |exit j=>
   simp only[Exit.inBlock];simp only[Kb]at h1;split
   ·rename_i hh;rw[Qzk hh]at h1;exact hq _ _ _ _ _ h1 h2 h3
   ·rename_i hh;rw[Qzj hh]at h1;exact hq _ _ _ _ _ h1 h2 h3
  |_=>exact hq _ _ _ _ _ h1 h2 h3
 |loop x ih=>
  intro c st Q h hc G a w hr QQ hq;cases c<;>simp only[XR,Qzv]at hc;obtain⟨I,n,h0,hI⟩:=h;refine wp_loop_ghost (fun k a' w'=>∃G' st',I k st'∧Rel G' B N st' a' w'∧Ext 1 G w G' w') n ⟨G,st,h0,hr,Ext.refl 1 G w⟩ ?_;rintro k a' w' ⟨G',st',i1,i2,i3⟩;refine ih (hI k st' i1) hc i2 fun e G2 st2 a2 w2 h1 h2 h3=>?_
  cases e with
  |normal=>
   obtain⟨k',hk,hi⟩:=h1;exact⟨k',hk,G2,st2,hi,h2,i3.trans h3⟩
  |_=>exact hq _ _ _ _ _ h1 h2 (i3.trans h3)
 |exit i=>
  intro c st Q h hc G a w hr QQ hq;cases c<;>simp only[XR,Qzv,QzA]at hc;subst hc;exact wp_exit (hq _ _ _ _ _ h hr (Ext.refl 1 G w))
 |scope x ih=>
  intro c st Q h hc G a w hr QQ hq;cases c<;>simp only[XR,Qzv]at hc;refine wp_scope_straight (ih h hc hr fun e G' st' a' w' h1 h2 h3=>?_);cases e with
  |goto l=>exact h1.elim
  |_=>exact hq _ _ _ _ _ h1 h2 h3
 |lab=>
  intro c st Q h hc G a w hr QQ hq;cases c<;>simp only[XR,Qzv]at hc;exact wp_label (hq _ _ _ _ _ h hr (Ext.refl 1 G w))
 |ret=>
  intro c st Q h hc G a w hr QQ hq;cases c<;>simp only[XR,Qzv]at hc;exact wp_ret (hq _ _ _ _ _ h hr (Ext.refl 1 G w))
 |gho g x ih=>
  intro c st Q h hc G a w hr QQ hq;obtain⟨st',hg,h⟩:=h;obtain⟨G',h1,h2⟩:=CP hr hg;exact ih h hc h1 fun e G2 st2 a2 w2 k1 k2 k3=>hq _ _ _ _ _ k1 k2 (h2.trans k3)
 |no=>
  intro c st Q h;exact h.elim

theorem MR.out {G:Gh}{fr:Nat→Ob}{m:Qo}{w:World}(h:MR G (fr :: m) w){S:Nat→Prop}(hS:∀b,S b→(∃s,G.vm 0 s=some b)∨∃s,G.nm 0 s=some b):MR ((G.pub w S).dn 1) m w:=by
 have hnS:∀l s b,G.nm (l+1) s=some b→¬S b:=fun l s b e hs=>by
  rcases hS b hs with⟨s',e'⟩|⟨s',e'⟩
  ·exact h.inj3 _ _ _ _ _ e e'
  ·have:=(h.inj1 _ _ _ _ _ e e').1;omega
 have hvS:∀l s b,G.vm (l+1) s=some b→¬S b:=fun l s b e hs=>by
  rcases hS b hs with⟨s',e'⟩|⟨s',e'⟩
  ·have:=(h.inj2 _ _ _ _ _ e e').1;omega
  ·exact h.inj3 _ _ _ _ _ e' e
 have hgle:Gle G (G.pub w S):=Gh.pub_gle h.stab;refine⟨fun b o v e=>?_,fun l s xs e=>?_,fun l s b e=>?_,fun l s g sz xs e=>?_,fun l s b e=>?_,fun l s e=>?_,fun l s l' s' b e e'=>?_,fun l s l' s' b e e'=>?_,fun l s l' s' b e e'=>?_,fun l s t p e=>h.iter (l+1) s t p e⟩
 ·have e:(G.pub w S).stab b o=some v:=e;by_cases hs:S b∧∀o,Zx b o=none
  ·rw[Gh.pub_c hs]at e;exact He e
  ·rw[Gh.pub_n hs]at e;exact h.stab b o v e
 ·obtain⟨b,cs,e',hc,hr⟩:=h.cells (l+1) s xs e;refine⟨b,cs,e',hc,?_⟩;rw[Gh.dn_dn];exact hr.mono (hgle.dn (l+1))
 ·obtain⟨h1,h2⟩:=h.nm (l+1) s b e;refine⟨h1,fun o=>?_⟩;show(G.pub w S).stab b o=none;rw[Gh.pub_out (hnS _ _ _ e)];exact h2 o
 ·obtain⟨a1,a2,a3,a4⟩:=h.vec (l+1) s g sz xs e;exact⟨a1,a2,a3,a4.imp id fun⟨b,e',r⟩=>⟨b,e',r.of rfl fun vs hv=>RepL.rfd (G:=G) (G':=(G.pub w S).dn 1) hgle.stab a3.rf hv⟩⟩
 ·obtain⟨h1,h2⟩:=h.vm (l+1) s b e;refine⟨h1,fun o=>?_⟩;show(G.pub w S).stab b o=none;rw[Gh.pub_out (hvS _ _ _ e)];exact h2 o
 ·exact h.gone (l+1) s e
 ·obtain⟨h1,h2⟩:=h.inj1 _ _ _ _ _ e e';exact⟨by omega,h2⟩
 ·obtain⟨h1,h2⟩:=h.inj2 _ _ _ _ _ e e';exact⟨by omega,h2⟩
 ·exact h.inj3 _ _ _ _ _ e e'

def XW (rs:List RR)(n:Nat)(R:AV→Qo→Prop):Exit→St→Prop:=fun e st=>
 (e=.normal∨e=.ret)∧st.ds=[]∧∃x y fr m,J2 st rs=some x∧Kk st.m x=some y∧st.m=fr :: m∧m.length=n∧R y m

theorem Dq {G:Gh}{args:List AV}{vs:List Value}(h:RepL G args vs){N:Nat}(i:Nat):Rep G.up (FH (AV.shL args) i) (((vs.toArray++Array.replicate (N-vs.toArray.size) undef):Array Value).getD i undef):=by
 have h':RepL G.up (AV.shL args) vs:=RepL.sh (G:=G.up) (by rw[Gh.up_dn];exact h);have hl:=h'.length;unfold FH;by_cases hi:i<vs.length
 ·obtain⟨x,e,hx⟩:=h'.back (Qzf hi);rw[e];simp only[QAd,Qzm];rw[Array.getElem?_append_left (by simpa using hi)]
  simpa [hi]using hx
 ·rw[QAn (by omega)];simp only[QAu,Qzm];rw[Array.getElem?_append_right (by simpa using hi)];cases hx:(Array.replicate (N-vs.toArray.size) undef)[i-vs.toArray.size]? with
  |none=>exact .tup .nil
  |some v=>
   have:=Qzi.1 hx;obtain⟨_,h2⟩:=this;simp at h2;subst h2;exact .tup .nil

theorem UN {fn:Func}{args:List AV}{m:Qo}{G:Gh}{w:World}{vs:List Value}(hvs:RepL G args vs)(hm:MR G m w)(hN:fn.ntmps=N)(ha:args.length≤N) :
  Rel G.up w.heap.size N (St.enter args m) { tmps:=vs.toArray++Array.replicate (fn.ntmps-vs.toArray.size) undef,defers:=[] } w:=by
 have hlen:=hvs.length;refine⟨hm.up,?_,fun i=>Dq hvs i,.nil,fun s b e=>?_,Qzc _,by simp[St.enter]⟩
 ·simp;omega
 ·rcases e with e|e<;>cases e

theorem DB {fn:Func}{rs:List RR}{G G':Gh}{m m':Qo}{w w':World}{st':St}{a':Act}{fr:Nat→Ob}{x y:AV}{R:AV→Qo→Prop}(hr:ZW P fn.results.toList rs=true)(hr':Rel G' w.heap.size N st' a' w')(he:Ext 1 G.up w G' w')
  (hx:J2 st' rs=some x) (hy:Kk st'.m x=some y) (hst:st'.m=fr :: m') (hml:m'.length=m.length) (hR:R y m') :
  ∃v,(results fn a'.tmps).run P w'=.ok v w'∧(∃G'' x v' m'',(Ending.returned v)=.returned v'∧R x m''∧Rep G'' x v'∧MR G'' m'' w'∧Ext 0 G w G'' w'∧m''.length=m.length):=by
 obtain⟨v,hrun,hv⟩:=RV (P:=P) hr' hr hx
 let S:Nat→Prop:=fun b=>(∃s,G'.vm 0 s=some b)∨∃s,G'.nm 0 s=some b
 have hmr:=hr'.mr;have hSt:∀l s b,(true&&l != 0)=false→G'.vm l s=some b→S b:=by
  intro l s b hl e;have:l=0:=by simpa using hl
  subst this;exact .inl ⟨s,e⟩
 unfold Kk at hy;rw[Option.bind_eq_some_iff]at hy;obtain⟨z,hz,hy⟩:=hy;have hv2:=Rep.un (W6 hmr (own:=true) (S:=S) hSt (fun _ s b _ _ _ e _=>.inr ⟨s,e⟩) hv z hz) y hy;rw[hst]at hmr;have hout:=hmr.out (S:=S) (fun b hs=>hs);have hmine:∀b,((G'.pub w' S).dn 1).mine b→G'.mine b:=by
  rintro b (⟨l,s,e⟩|⟨l,s,e⟩)
  ·exact .inl ⟨l+1,s,e⟩
  ·exact .inr ⟨l+1,s,e⟩
 have hext:Ext 0 G w ((G'.pub w' S).dn 1) w':=by
  refine⟨he.os,he.tape,he.output,he.size,fun b o v e=>?_,fun l s _=>he.nm (l+1) s (by omega),fun l s=>he.vg (l+1) s,fun l s e=>he.vs (l+1) s e,fun b hb hnm=>?_,fun b hb=>?_,fun l s b e=>?_⟩
  ·exact(Gh.pub_gle (S:=S) hr'.mr.stab).stab b o v (he.stab b o v e)
  ·obtain⟨h1,h2⟩:=he.old b hb (fun hx=>hnm (Gh.up_mine.1 hx));refine⟨h1,fun o=>?_⟩;have hnS:¬S b:=by
    rintro(⟨s,e⟩|⟨s,e⟩)
    ·have:=hr'.base s b (.inr e);omega
    ·have:=hr'.base s b (.inl e);omega
   show(G'.pub w' S).stab b o=G.stab b o;rw[Gh.pub_out hnS];exact h2 o
  ·rcases he.mine b (hmine b hb)with h1|h1
   ·exact .inl (Gh.up_mine.1 h1)
   ·exact .inr h1
  ·rcases he.mv (l+1) s b e with⟨i,t,hi,h1⟩|h1
   ·cases i with
    |zero=>cases h1
    |succ i=>exact .inl ⟨i,t,by omega,h1⟩
   ·exact .inr h1
 exact⟨v,hrun,_,y,v,m',rfl,hR,hv2,hout,hext,hml⟩

theorem Wa {k:FuncId} {fn:Func} {c:Code} {rc:RC} {rs:List RR} {args:List AV} {m:Qo} {R:AV→Qo→Prop} (hf:P.funcs[k]? = some fn) (hb:fn.body=some c) (hn:(fn.name == "runtime.NumGoroutine")=false) (hN:fn.ntmps=N) (hc:XR P N rc c=true) (hr:ZW P fn.results.toList rs=true)
  (ha:args.length≤N) (h:QE P rc (St.enter args m) (XW rs m.length R)):Qq P k args m R:=by
 refine⟨⟨fn,hf,hn,by rw[hb];rfl⟩,fun G w vs hvs hm=>?_⟩;refine calls_of_wp hf hb ?_;refine BS h hc (UN hvs hm hN ha) fun e G' st' a' w' hq hr' he=>?_
 obtain⟨hex,hds,x,y,fr,m',hx,hy,hst,hml,hR⟩:=hq;have hdef:a'.defers=[]:=by
  have:=hr'.ds;rw[hds]at this;cases hd:a'.defers with
  |nil=>rfl
  |cons d l=>rw[hd]at this;cases this
 have hfin:=DB (R:=R) hr hr' he hx hy hst hml hR;rcases hex with rfl|rfl
 ·exact⟨hdef,hfin⟩
 ·exact⟨hdef,hfin⟩

def KA (P:Program)(k:FuncId)(args:List AV)(m:Qo)(R:AV→Qo→Prop):Prop :=
 KU P k∧∀(G:Gh) (w:World) (vs:List Value),RepL G args vs→MR G m w→∀u,CallsD P k ⟨vs⟩ u w fun e u' w'=>u'=u∧∃G' x v m',e=.returned v∧R x m'∧Rep G' x v∧MR G' m' w'∧Ext 0 G w G' w'∧m'.length=m.length

theorem Uc {k:FuncId} {fn:Func} {c:Code} {rc:RC} {rs:List RR} {args:List AV} {m:Qo} {R:AV→Qo→Prop} (hf:P.funcs[k]? = some fn) (hb:fn.body=some c) (hn:(fn.name == "runtime.NumGoroutine")=false) (hN:fn.ntmps=N) (hc:XR P N rc c=true) (hr:ZW P fn.results.toList rs=true)
  (ha:args.length≤N) (h:QE P rc (St.enter args m) (XW rs m.length R)):KA P k args m R:=by
 refine⟨⟨fn,hf,hn,by rw[hb];rfl⟩,fun G w vs hvs hm u=>?_⟩;refine callsD_of_wp (R:=fun e w'=>∃G' x v m',e=.returned v∧R x m'∧Rep G' x v∧MR G' m' w'∧Ext 0 G w G' w'∧m'.length=m.length) hf hb ?_;refine BS h hc (UN hvs hm hN ha) fun e G' st' a' w' hq hr' he=>?_
 obtain⟨hex,hds,x,y,fr,m',hx,hy,hst,hml,hR⟩:=hq;have hdef:a'.defers=[]:=by
  have:=hr'.ds;rw[hds]at this;cases hd:a'.defers with
  |nil=>rfl
  |cons d l=>rw[hd]at this;cases this
 have hfin:=DB (R:=R) hr hr' he hx hy hst hml hR;rcases hex with rfl|rfl
 ·exact⟨hdef,hfin⟩
 ·exact⟨hdef,hfin⟩

end

def CK (P:Program)(k N:Nat)(rc:RC)(rs:List RR):Prop :=
 ∃fn c, P.funcs[k]? = some fn∧fn.body=some c∧(fn.name == "runtime.NumGoroutine")=false∧fn.ntmps=N∧XR P N rc c=true∧ZW P fn.results.toList rs=true
theorem CK.go {P:Program}{k N:Nat}{rc:RC}{rs:List RR}{args:List AV}{m:Qo}{R:AV→Qo→Prop}(h:CK P k N rc rs)(ha:args.length≤N)(w:QE P rc (St.enter args m) (XW rs m.length R)):Qq P k args m R:=by
 obtain⟨fn,c,h1,h2,h3,h4,h5,h6⟩:=h;exact Wa h1 h2 h3 h4 h5 h6 ha w
theorem ck {P:Program} {k N:Nat} {fn:Func} {rc:RC} {rs:List RR} (hf:P.funcs[k]? = some fn) (hN:fn.ntmps=N) (h:(fn.body.isSome && !(fn.name == "runtime.NumGoroutine")&&XR P N rc (fn.body.getD .skip)&&ZW P fn.results.toList rs)=true):CK P k N rc rs := by
 simp only[Qzz,Qz0,Option.isSome_iff_exists]at h;obtain⟨⟨⟨⟨c,hc⟩,h1⟩,h2⟩,h3⟩:=h;rw[hc]at h2;exact⟨fn,c,hf,hc,h1,hN,h2,h3⟩
theorem CK.dd {P:Program}{k N:Nat}{rc:RC}{rs:List RR}{args:List AV}{m:Qo}{R:AV→Qo→Prop}(h:CK P k N rc rs)(ha:args.length≤N)(w:QE P rc (St.enter args m) (XW rs m.length R)):KA P k args m R:=by
 obtain⟨fn,c,h1,h2,h3,h4,h5,h6⟩:=h;exact Uc h1 h2 h3 h4 h5 h6 ha w
theorem CK.rl {P:Program}{k N:Nat}{rc:RC}{rs:List RR}{args:List AV}{R:AV→Prop}(h:CK P k N rc rs)(ha:args.length≤N)(w:QE P rc (St.enter args []) (XW rs 0 fun x _=>R x)):AM P k args R:=h.go ha w
theorem CK.fn {P:Program}{k N:Nat}{rc:RC}{rs:List RR}{args:List AV}{v:AV}(h:CK P k N rc rs)(ha:args.length≤N)(w:QE P rc (St.enter args []) (XW rs 0 fun x _=>x=v)):Qu P k args v:=h.go ha w

section
variable {P:Program}{f:Fr}{m:Qo}{ds:List DF}{K:St→Prop}{Q:Exit→St→Prop}{Qd:List Item}{d:Nat}

def Kc (P:Program)(b:RC)(Q:Exit→St→Prop):Exit→St→Prop:=Ks (fun st'=>QE P b st' Q) Q
def Kl (I:Nat→St→Prop)(n:Nat)(Q:Exit→St→Prop):Exit→St→Prop:=Ks (fun s=>∃k,k<n∧I k s) Q

theorem AO {st:St}:QE P .skip st Q=Q .normal st:=id rfl
theorem QqD {st:St}:QE P .no st Q=False:=id rfl
theorem Qle {st:St}:QE P .lab st Q=Q .normal st:=id rfl
theorem Qlf {st:St}:QE P .ret st Q=Q .ret st:=id rfl
theorem AP {st:St}{i:Nat}:QE P (.exit i) st Q=Q (.exit i) st:=id rfl
theorem Qlg {st:St}:QE P (.reg Qd) st Q=Ql P Qd st (Q .normal):=id rfl
theorem AQ {st:St}:QE P (.draw Qd) st Q=Ql P Qd st (Q .normal):=id rfl
theorem Qlh {st:St}{a b:RC}:QE P (.seq a b) st Q=QE P a st (Kc P b Q):=id rfl
theorem R1 {st:St}{i:Nat}{a:RC}:QE P (.block i a) st Q=QE P a st (Kb i Q):=id rfl
theorem R2 {st:St}{a:RC}:QE P (.scope a) st Q=QE P a st (Kg Q):=id rfl
def Ud:AV→Bool
 |.bool b=>b
 |_=>false
def BT:AV→Prop
 |.bool _=>True
 |_=>False
theorem AT (b:Bool):Ud (.bool b)=b:=id rfl
theorem Qli (b:Bool):BT (.bool b)=True:=id rfl
def W9 (P:Program)(v:AV)(a b:RC)(st:St)(Q:Exit→St→Prop):Prop:=BT v∧(Ud v=true→QE P a st Q)∧(Ud v=false→QE P b st Q)
theorem CV {a b:RC}{st:St}:W9 P (.bool true) a b st Q=QE P a st Q:=by simp[W9,BT,Ud]
theorem CW {a b:RC}{st:St}:W9 P (.bool false) a b st Q=QE P b st Q:=by simp[W9,BT,Ud]
theorem XM {t:Bool}{a b:RC}{st:St}(h1:t=true→QE P a st Q)(h2:t=false→QE P b st Q):W9 P (.bool t) a b st Q:=⟨trivial,h1,h2⟩
theorem AU {c:RA}{a b:RC}:QE P (.cond c a b) ⟨f,m,ds⟩ Q=W9 P (c.ev f) a b ⟨f,m,ds⟩ Q:=by
 simp only[QE,W9];generalize c.ev f=v;cases v<;>simp[Ud,BT]

theorem AW {b:RC}{st:St}:Kc P b Q .normal st=QE P b st Q:=id rfl
theorem AX {b:RC}{st:St}{i:Nat}:Kc P b Q (.exit i) st=Q (.exit i) st:=id rfl
theorem AY {b:RC}{st:St}:Kc P b Q .ret st=Q .ret st:=id rfl
theorem AZ {st:St}{i:Nat}:Kb i Q .normal st=Q .normal st:=id rfl
theorem A1 {st:St}{i j:Nat}:Kb i Q (.exit j) st=if j=i then Q .normal st else Q (.exit j) st:=id rfl
theorem A2 {st:St}{i:Nat}:Kb i Q .ret st=Q .ret st:=id rfl
theorem A3 {st:St}:Kg Q .normal st=Q .normal st:=id rfl
theorem A4 {st:St}{j:Nat}:Kg Q (.exit j) st=Q (.exit j) st:=id rfl
theorem A5 {st:St}:Kg Q .ret st=Q .ret st:=id rfl
theorem A6 {I:Nat→St→Prop}{n:Nat}{st:St}:Kl I n Q .normal st = ∃k,k<n∧I k st:=id rfl
theorem A7 {I:Nat→St→Prop}{n:Nat}{st:St}{j:Nat}:Kl I n Q (.exit j) st=Q (.exit j) st:=id rfl
theorem A8 {I:Nat→St→Prop}{n:Nat}{st:St}:Kl I n Q .ret st=Q .ret st:=id rfl

theorem Qe {a:RC}{st:St}(I:Nat→St→Prop)(n:Nat)(h0:I n st)(h:∀n st',I n st'→QE P a st' (Kl I n Q)):QE P (.loop a) st Q:=⟨I,n,h0,h⟩

theorem Qlj {st:St}:Ql P [] st K=K st:=id rfl
def Ya (x:Option AV):AV:=x.getD .top
def HQ (x:Option AV):Prop:=x.isSome=true
theorem HR (x:AV):Ya (some x)=x:=id rfl
theorem Qlk (x:AV):HQ (some x)=True:=by simp[HQ]
theorem Qll {vo:VO}:Ql P (⟨some d,.val vo,none⟩ :: Qd) ⟨f,m,ds⟩ K=(HQ (QB f m vo)∧Ql P Qd ⟨Qw f d (Ya (QB f m vo)),m,ds⟩ K):=by
 simp only[Ql,XI,K9,Qj];generalize QB f m vo=v;cases v<;>simp[Ya,HQ]

def mget (x:Option Qo):Qo:=x.getD []
def DC (x:Option Qo):Prop:=x.isSome=true
theorem A9 (x:Qo):mget (some x)=x:=id rfl
theorem Qlm (x:Qo):DC (some x)=True:=by simp[DC]
theorem R3 {n:Nat}{p r:RA}:Ql P (⟨none,.store n p r,none⟩ :: Qd) ⟨f,m,ds⟩ K=((r.ev f).cells.length=n∧(r.ev f).cells.all AV.leaf=true∧DC (Q1 m (p.ev f) (r.ev f).cells)∧Ql P Qd ⟨f,mget (Q1 m (p.ev f) (r.ev f).cells),ds⟩ K):=by
 simp only[Ql,XI,K9,Qj];generalize Q1 m (p.ev f) (r.ev f).cells=v;cases v<;>simp[mget,DC]
def CX (l s:Nat)(v:AV):Prop:=∃o,v=.ptr l s o
theorem Ea (l s o:Nat):CX l s (.ptr l s o)=True:=eq_true ⟨o,rfl⟩
theorem CY {l s n:Nat}{p r:RA}:Ql P (⟨none,.storev l s n p r,none⟩ :: Qd) ⟨f,m,ds⟩ K=(CX l s (p.ev f)∧(r.ev f).cells.length=n∧(r.ev f).cells.all AV.leaf=true∧DC (Q1 m (p.ev f) (r.ev f).cells)∧Ql P Qd ⟨f,mget (Q1 m (p.ev f) (r.ev f).cells),ds⟩ K):=by
 simp only[Ql,XI,K9,Qj,CX];generalize Q1 m (p.ev f) (r.ev f).cells=v;cases v<;>simp[mget,DC]
theorem CZ {s:Nat}{z:List AV}:Ql P (⟨some d,.allocN s z,none⟩ :: Qd) ⟨f,m,ds⟩ K=(Xs m s=true∧Ql P Qd ⟨Qw f d (.ptr 0 s 0),Am.put m 0 s (.cells z),ds⟩ K):=id rfl
theorem Eb {s:Nat}{r:RA}:Ql P (⟨some d,.boxN s r,none⟩ :: Qd) ⟨f,m,ds⟩ K=(Xs m s=true∧(r.ev f).cells.all AV.leaf=true∧Ql P Qd ⟨Qw f d (.ptr 0 s 0),Am.put m 0 s (.cells (r.ev f).cells),ds⟩ K):=id rfl

theorem MQ {sz len:Nat}{z:List AV}{ps:List (Nat×Nat×RA)}{y:List AV}(hy:fill f ps (ZI z sz len)=some y)(h1:AV.rfL y=true)(h2:y.all AV.leaf=true):Ql P (⟨some d,.bsl sz len z ps,none⟩ :: Qd) ⟨f,m,ds⟩ K=Ql P Qd ⟨Qw f d (.list (ZH sz len (y.map nn0))),m,ds⟩ K:=by
 apply propext
 constructor
 ·rintro⟨y',h,_,_,k⟩;have h:fill f ps (ZI z sz len)=some y':=h;rw[hy]at h;cases h;exact k
 ·intro k;exact⟨y,hy,h1,h2,k⟩
theorem Xa {sz:Nat}{z l:List AV}{r:RA}(hr:r.ev f=.agg l)(hl:l.length=sz)(h1:sz≠1)(hf:AV.rfL l=true)(hlf:l.all AV.leaf=true)(h:Ql P Qd ⟨Qw f d (.list [.agg (l.map nn0)]),m,ds⟩ K) :
  Ql P (⟨some d,.bsl sz 1 z [(0,sz,r)],none⟩ :: Qd) ⟨f,m,ds⟩ K:=by
 have hz:(ZI z sz 1).length=sz:=by simp[ZI]
 have hy:fill f [(0,sz,r)] (ZI z sz 1)=some l:=by
  simp only[fill,hr,AV.cells,hl,hlf,QzB,hz,Qzc,Qz7,if_true,splice,List.take_zero,Qzy];rw[QzL (by omega),Qz6]
 rw[MQ hy hf hlf];have hc:ZH sz 1 (l.map nn0)=[.agg (l.map nn0)]:=by
  simp only[ZH,Qzj h1];rw[QzJ (by rw[QAo];omega)]
 rw[hc];exact h

theorem KA.mono {k:FuncId}{args:List AV}{m:Qo}{R R':AV→Qo→Prop}(h:KA P k args m R)(hr:∀x m',R x m'→R' x m'):KA P k args m R' :=
 ⟨h.1,fun G w vs h1 h2 u c cs hu=>by
  obtain⟨e,u',w',fr,⟨h3,G',x,v,m',h4,h5,h6⟩,h7⟩:=h.2 G w vs h1 h2 u c cs hu;exact⟨e,u',w',fr,⟨h3,G',x,v,m',h4,hr _ _ h5,h6⟩,h7⟩⟩

theorem JX {slot site sz:Nat}{a:RC}{fr:Nat→Ob}(h1:f slot=.nils)(h2:fr site=.none)(h:QE P a ⟨Qw f slot (.vec 0 site 1 0 0 false),Qw fr site (.vec 1 sz []) :: m,ds⟩ Q):QE P (.gho (.vec slot site sz) a) ⟨f,fr :: m,ds⟩ Q:=by
 refine⟨_,?_,h⟩;have e:Qf (fr :: m) 0 site=.none:=h2;simp[ZT,h1,e,Qy,QX,Am.put]

theorem QO {sz bytes el:Nat}{s r:RA}{site g n:Nat}{fr:Nat→Ob}{xs ys:List AV}(hs:s.ev f=.vec 0 site g 0 n false)(hl:fr site=.vec g sz xs)(ht:X1 site el=true)(hn:n=xs.length)(hr:r.ev f=.list ys)(hz:ys.all (fun e=>e.cells.length==sz)=true)(hm:n+ys.length≤maxLen)(hb:(n+ys.length)*bytes≤140737488355328)
  (h:Ql P Qd ⟨Qw f d (.vec 0 site (g+1) 0 (n+ys.length) false),Qw fr site (.vec (g+1) sz (xs++ys)) :: m,ds⟩ K):Ql P (⟨some d,.app sz bytes el s r,none⟩ :: Qd) ⟨f,fr :: m,ds⟩ K:=by
 refine⟨0,site,g,n,xs,ys,hs,hl,ht,by omega,?_,hz,hm,hb,?_⟩
 ·show XD (fr :: m) (r.ev f)=some ys;rw[hr];rfl
 ·subst hn;rw[QAv];exact h

theorem Q4 {k:Nat}{args:List RA}{ys:List AV}{v:AV}(hk:Qu P k ys v)(hy:AV.stillL false m (args.map (RA.ev f))=some ys)(h1:AV.rfL ys=true)(h2:v.rf=true)(h3:AV.rfL (args.map (RA.ev f))=true∨v.nl=true)(h:Ql P Qd ⟨Qw f d v,m,ds⟩ K) :
  Ql P (⟨some d,.call (.f k) args,none⟩ :: Qd) ⟨f,m,ds⟩ K:=by
 refine⟨k,[],[],ys,v,rfl,?_,h1,hk,h2,?_,h⟩
 ·simpa using hy
 ·simpa using h3

theorem aC {k:Nat}{args:List RA}{ys:List AV}{v:AV}(hk:Qu P k ys v)(h:Ql P Qd ⟨Qw f d v,m,ds⟩ K)(hy:AV.stillL false m (args.map (RA.ev f))=some ys:=by rfl)(h1:AV.rfL ys=true:=by rfl)(h2:v.rf=true:=by rfl)(h3:AV.rfL (args.map (RA.ev f))=true∨v.nl=true:=by exact .inl rfl) :
  Ql P (⟨some d,.call (.f k) args,none⟩ :: Qd) ⟨f,m,ds⟩ K:=Q4 hk hy h1 h2 h3 h

theorem DD {cnt:Bool}{k:Nat}{s c:RA}{t:List UInt8}{b:Int}(hs:s.ev f=.str t)(hb:c.ev f=.int .u8 b)(h:Ql P Qd ⟨Qw f d (.int .i64 (Yx cnt t b)),m,ds⟩ K):Ql P (⟨some d,.xb cnt k s c,none⟩ :: Qd) ⟨f,m,ds⟩ K :=
 ⟨t,b,hs,hb,h⟩

theorem UO {s:Nat}{r:RA}{fr:Nat→Ob}{t:List UInt8}(ht:r.ev f=.str t)(hn:fr s=.none)(h:Ql P Qd ⟨Qw f d (.ptr 0 s 0),Qw fr s (.iter (.str t) 0) :: m,ds⟩ K) :
  Ql P (⟨some d,.rngs s r,none⟩ :: Qd) ⟨f,fr :: m,ds⟩ K:=by
 refine⟨t,ht,?_,h⟩;show(match fr s with|.none=>true|_=>false)=true;rw[hn]

theorem UP {s p:Nat}{r:RA}{fr:Nat→Ob}{t:List UInt8}(hr:r.ev f=.ptr 0 s 0)(hl:fr s=.iter (.str t) p)
  (h1:p<t.length→Ql P Qd ⟨Qw f d (.tup [.bool true,.int .i64 (p:Nat),.int .i32 ((Xc t p).1:Nat)]),Qw fr s (.iter (.str t) (p+(Xc t p).2)) :: m,ds⟩ K)
  (h2:t.length≤p→Ql P Qd ⟨Qw f d (.tup [.bool false]),fr :: m,ds⟩ K) :
  Ql P (⟨some d,.nxts r,none⟩ :: Qd) ⟨f,fr :: m,ds⟩ K :=
 ⟨0,s,t,p,hr,hl,h1,h2⟩

theorem Qb {k:Nat}{args:List RA}{ys:List AV}{v:AV}{m':Qo}(hk:Qq P k ys m fun x m1=>x=v∧m1=m')(hy:args.map (RA.ev f)=ys)(h:Ql P Qd ⟨Qw f d v,m',ds⟩ K) :
  Ql P (⟨some d,.callF (.f k) args,none⟩ :: Qd) ⟨f,m,ds⟩ K:=by
 refine⟨k,[],[],v,m',rfl,?_,h⟩;show Qq P k (args.map (RA.ev f)++[]) m fun x m1=>x=v∧m1=m'
 rw[Qz6,hy];exact hk

theorem DE {site el sz bytes:Nat}{z:List AV}{l c:RA}{kl kc:IntKind}{n k:Nat}{fr:Nat→Ob}(hl:l.ev f=.int kl (n:Int))(hc:c.ev f=.int kc (k:Int))(hnk:n≤k)(hk:k≤9223372036854775807)(hb:bytes*k≤281474976710656)(hs:fr site=.none)
  (h:Ql P Qd ⟨Qw f d (.vec 0 site 1 0 n false),Qw fr site (.vec 1 sz (List.replicate n (Jq sz z))) :: m,ds⟩ K):Ql P (⟨some d,.mk site el sz bytes z l c,none⟩ :: Qd) ⟨f,fr :: m,ds⟩ K:=by
 have e:Qf (fr :: m) 0 site=.none:=hs;refine⟨kl,kc,n,k,hl,hc,hnk,hk,hb,?_,?_⟩
 ·show Qy (Qf (fr :: m) 0 site)=true;rw[e];rfl
 ·have hg:QX (fr :: m) 0 site=1:=by unfold QX;rw[e]
  simp only[hg];exact h

theorem BU {s:Nat}{a:RC}{fr:Nat→Ob}:QE P (.gho (.drop s) a) ⟨f,fr :: m,ds⟩ Q=((fr s).isRow=false∧QE P a ⟨fun i=>(f i).scrub s,Qw (fun i=>(fr i).scrub s) s .none :: m,ds.map (DF.scrub s)⟩ Q):=by
 apply propext
 have hn:KP (fr :: m) s=!(fr s).isRow:=by
  unfold KP;show(match fr s with|.vec .. => false|_=>true)=_;cases fr s<;>rfl
 constructor
 ·rintro⟨st',h1,h2⟩;simp only[ZT,hn]at h1;cases hr:(fr s).isRow with
  |true=>rw[hr]at h1;cases h1
  |false=>rw[hr]at h1;cases h1;exact⟨rfl,h2⟩
 ·rintro⟨h1,h2⟩;refine⟨_,?_,h2⟩;simp only[ZT,hn,h1];rfl
theorem BW (s:Nat):AV.top.scrub s=.top:=id rfl
theorem BX (s:Nat)(k:IntKind)(n:Int):(AV.int k n).scrub s=.int k n:=id rfl
theorem FR (s:Nat)(b:Bool):(AV.bool b).scrub s=.bool b:=id rfl
theorem BY (s:Nat)(b:List UInt8):(AV.str b).scrub s=.str b:=id rfl
theorem FS (s:Nat):AV.nils.scrub s=.nils:=id rfl
theorem FT (s:Nat):AV.nilp.scrub s=.nilp:=id rfl
theorem FU (s:Nat):AV.nili.scrub s=.nili:=id rfl
theorem FV (s:Nat):AV.nilf.scrub s=.nilf:=id rfl
theorem FW (s:Nat)(l:List AV):(AV.list l).scrub s=.list l:=id rfl
theorem BZ (s l t g o n:Nat)(q:Bool):(AV.vec l t g o n q).scrub s=.vec l t g o n q:=id rfl
theorem B0 (s:Nat)(l:List AV):(AV.agg l).scrub s=.agg (AV.scrubL s l):=id rfl
theorem B1 (s:Nat)(l:List AV):(AV.tup l).scrub s=.tup (AV.scrubL s l):=id rfl
theorem UQ (s t o:Nat):(AV.ptr 0 t o).scrub s=bif Nat.beq t s then .top else .ptr 0 t o:=id rfl
theorem FX (s l t o:Nat):(AV.ptr (l+1) t o).scrub s=.ptr (l+1) t o:=id rfl
theorem B2 (s:Nat):AV.scrubL s []=[]:=id rfl
theorem FY (s:Nat)(x:AV)(l:List AV):AV.scrubL s (x :: l)=x.scrub s :: AV.scrubL s l:=id rfl
theorem Dr (s:Nat)(l:List AV):(Ob.cells l).scrub s=.cells (AV.scrubL s l):=id rfl
theorem B3 (s g z:Nat)(l:List AV):(Ob.vec g z l).scrub s=.vec g z l:=id rfl
theorem FZ (s:Nat):Ob.none.scrub s=.none:=id rfl
theorem WT (s:Nat)(o:Ob):(o.scrub s).isRow=o.isRow:=by cases o<;>rfl
theorem Ds (l:List AV):(Ob.cells l).isRow=false:=id rfl
theorem F0:Ob.none.isRow=false:=id rfl

def Zk (P:Program)(v:AV)(w:Bool)(d:Option Nat)(ro:RO)(Qd:List Item)(st:St)(K:St→Prop):Prop :=
 match v with
 |.bool b=>(b=w→Ql P (⟨d,ro,none⟩ :: Qd) st K)∧(b=(!w)→Ql P Qd { st with f:=Qj st.f d (.tup []) } K)
 |.tup l=>l=[]∧Ql P Qd { st with f:=Qj st.f d (.tup []) } K
 |_=>False
theorem Zl {b:Bool}{d:Option Nat}{ro:RO}{st:St}(h1:b=true→Ql P (⟨d,ro,none⟩ :: Qd) st K)(h2:b=false→Ql P Qd { st with f:=Qj st.f d (.tup []) } K):Zk P (.bool b) true d ro Qd st K:=⟨h1,h2⟩
theorem Zm {b:Bool}{d:Option Nat}{ro:RO}{st:St}(h1:b=false→Ql P (⟨d,ro,none⟩ :: Qd) st K)(h2:b=true→Ql P Qd { st with f:=Qj st.f d (.tup []) } K):Zk P (.bool b) false d ro Qd st K:=⟨h1,h2⟩
theorem C0 {d:Option Nat}{ro:RO}{st:St}:Zk P (.bool true) true d ro Qd st K=Ql P (⟨d,ro,none⟩ :: Qd) st K:=by simp[Zk]
theorem C1 {d:Option Nat}{ro:RO}{st:St}:Zk P (.bool false) false d ro Qd st K=Ql P (⟨d,ro,none⟩ :: Qd) st K:=by simp[Zk]
theorem B4 {ro:RO}:Zk P (.bool true) false (some d) ro Qd ⟨f,m,ds⟩ K=Ql P Qd ⟨Qw f d (.tup []),m,ds⟩ K:=by simp[Zk,Qj]
theorem B5 {ro:RO}:Zk P (.bool false) true (some d) ro Qd ⟨f,m,ds⟩ K=Ql P Qd ⟨Qw f d (.tup []),m,ds⟩ K:=by simp[Zk,Qj]
theorem C2 {ro:RO}{w:Bool}:Zk P (.tup []) w (some d) ro Qd ⟨f,m,ds⟩ K=Ql P Qd ⟨Qw f d (.tup []),m,ds⟩ K:=by simp[Zk,Qj]
theorem F1 {ro:RO}{st:St}:Zk P (.bool true) false none ro Qd st K=Ql P Qd st K:=by simp[Zk,Qj]
theorem F3 {ro:RO}{st:St}:Zk P (.bool false) true none ro Qd st K=Ql P Qd st K:=by simp[Zk,Qj]
theorem B6 {ro:RO}{w:Bool}{st:St}:Zk P (.tup []) w none ro Qd st K=Ql P Qd st K:=by simp[Zk,Qj]
theorem e_g {ro:RO}{j:Nat}{w:Bool}{d:Option Nat}:Ql P (⟨d,ro,some (j,w)⟩ :: Qd) ⟨f,m,ds⟩ K=Zk P (f j) w d ro Qd ⟨f,m,ds⟩ K:=by
 simp only[Ql,XI,Zk]
 all_goals(generalize f j=v;cases v<;>rfl)

theorem C3 {rs:List RR}{n:Nat}{R:AV→Qo→Prop}{fr:Nat→Ob}:XW rs n R .ret ⟨f,fr :: m,ds⟩=(ds=[]∧HQ (J2 ⟨f,fr :: m,ds⟩ rs)∧HQ (Kk (fr :: m) (Ya (J2 ⟨f,fr :: m,ds⟩ rs)))∧m.length=n∧R (Ya (Kk (fr :: m) (Ya (J2 ⟨f,fr :: m,ds⟩ rs)))) m):=by
 apply propext
 constructor
 ·rintro⟨_,h1,x,y,fr',m',h2,h3,h4,h5,h6⟩;cases h4;have h1:ds=[]:=h1;rw[h2,HR,h3];exact⟨h1,rfl,rfl,h5,h6⟩
 ·rintro⟨h1,h2,h3,h4,h5⟩;generalize hv:J2 ⟨f,fr :: m,ds⟩ rs=v at h2 h3 h5;cases v with
  |none=>cases h2
  |some x=>
   rw[HR]at h3 h5;cases hl:Kk (fr :: m) x with
   |none=>rw[hl]at h3;cases h3
   |some y=>
    rw[hl]at h5;exact⟨.inr rfl,h1,x,y,fr,m,hv,hl,rfl,h4,h5⟩
theorem C4 {rs:List RR}{n:Nat}{R:AV→Qo→Prop}{st:St}:XW rs n R .normal st=XW rs n R .ret st:=by
 simp[XW]

theorem Qln {α:Type}(f:Nat→α)(d:Nat)(x:α)(i:Nat):Qw f d x i=bif Nat.beq i d then x else f i:=id rfl
theorem B7 (a b:Nat):Nat.beq a b=(a==b):=by
 cases h:Nat.beq a b with
 |true=>rw[Qza h];simp
 |false=>have:=Nat.ne_of_beq_eq_false h;simp[this]
theorem Xb {s idx site sz:Nat}{a:RC}{fr:Nat→Ob}{xs:List AV}(h1:fr s=.cells xs)(h2:xs[idx]? = some .nils)(h3:fr site=.none)(hne:Nat.beq site s=false)(h:QE P a ⟨f,Qw (Qw fr site (.vec 1 sz [])) s (.cells (xs.set idx (.vec 0 site 1 0 0 false))) :: m,ds⟩ Q):QE P (.gho (.vecc s idx site sz) a) ⟨f,fr :: m,ds⟩ Q:=by
 refine⟨_,?_,h⟩;have e1:Qf (fr :: m) 0 s=.cells xs:=h1;have e:Qf (fr :: m) 0 site=.none:=h3;simp[ZT,e1,h2,e,Qy,QX,Am.put,hne]
theorem Jb {α:Type}(f:Nat→α)(d:Nat)(x y:α):Qw (Qw f d x) d y=Qw f d y:=by
 funext i;by_cases h:i=d
 ·subst h;rw[QM,QM]
 ·rw[QP _ _ h,QP _ _ h,QP _ _ h]
theorem ZN {α:Type}(f:Nat→α)(d e:Nat)(x y:α)(hde:d≠e):Qw (Qw f d x) e y=Qw (Qw f e y) d x:=by
 funext i;by_cases h:i=d
 ·subst h;rw[QM,QP _ _ hde,QM]
 ·by_cases h2:i=e
  ·subst h2;rw[QM,QP _ _ h,QM]
  ·rw[QP _ _ h2,QP _ _ h,QP _ _ h,QP _ _ h2]
theorem WH {α:Type}(f:Nat→α)(d:Nat)(x:α)(h:f d=x):Qw f d x=f:=by
 funext i;by_cases hi:i=d
 ·subst hi;rw[QM,h]
 ·rw[QP _ _ hi]
theorem e_t (n:Nat):(RA.t n).ev f=f n:=id rfl
theorem e_c (x:AV):(RA.c x).ev f=x:=id rfl
theorem e_f (k:Nat):(RA.f k).ev f=.fn (.func k) [] []:=id rfl

end

end Go.Proofs.YtaiflhahcglpgaaGreatDoor.Am

namespace Go.Proofs.YtaiflhahcglpgaaGreatDoor.Br
open Go Am Go.RowKit Go.WideShapes Go.ChangeShapes Go.ChangeAt

theorem HS {P:Program}{k:FuncId}{args:List AV}{v:Bool}(h:Qu P k args (.bool v)){stab:Nat→Nat→Option SV}(ht:∀b o v,Zx b o=some v→stab b o=some v){w:World}(hs:∀b o u,stab b o=some u→rd w b o u){vs:List Value}(hr:RepL (Gh.bare stab ht) args vs) :
  Calls P k ⟨vs⟩ w fun e w'=>e=.returned (.bool v)∧Below w.heap.size w w' :=
 (h.2 (Gh.bare stab ht) w vs hr (MR.bare hs)).mono fun e w' ⟨G',x,u,m',he,hx,hu,_,hex,_⟩=>by
  subst hx;cases hu;exact⟨he,hex.os,hex.tape,hex.output,hex.size,fun b hb=>(hex.old b hb Gh.bare_mine).1⟩

theorem B8 {n:Int}(h:(Lit.int .u64 n).wf=true):0≤n:=by
 simp[Lit.wf,IntKind.min,IntKind.max,IntKind.bits,IntKind.signed]at h;omega
theorem Ec {n:Int}(h:(Lit.int .u64 n).wf=true):n<18446744073709551616:=by
 simp[Lit.wf,IntKind.min,IntKind.max,IntKind.bits,IntKind.signed]at h;omega

section
variable {H:Type}{enc:TypeId×Value→H}{P:Program}
theorem Hc {f:Func}{s:ChangeSpec}{WF fresh handsOn again:Bool}{W W':World}{args:Array Value}{v:Value}{ds gs:List (DataW H)}{before pa pv:List MemPlace}
  (hW:DataW.Whole enc P f.params.toList s.vars WF W args.toList ds gs before)
  (hres:∀(b:Nat) (sp:Nat→Bool) (hd:Bool),DataW.TrodAll enc P W' b sp hd f.resultTypes.toList (v.resultList f.resultTypes.size) (s.fn H (ds++gs)).results [])
  (hargs:∀sp:Nat→Bool,(∀p∈before,sp p.block=true)→DataW.TrodAll enc P W' 0 sp true f.params.toList args.toList (s.fn H (ds++gs)).args pa)
  (hvars:∀sp:Nat→Bool,(∀p∈before,sp p.block=true)→DataW.TrodVars enc P W' sp s.vars (s.fn H (ds++gs)).vars pv)
  (hps:before=pa++pv) (hb:Below W.heap.size W W')
  (hok:∀(j:Nat) (t:TypeId) (r:Value),f.resultTypes[j]? = some t→(v.resultList f.resultTypes.size)[j]? = some r→Value.okWide P W' .any 0 t r) :
  s.post enc P f WF fresh handsOn again W args v W':=by
 have hlt:∀p∈before,p.block<W.heap.size:=fun p hp=>hW.lt p hp
 have hold:∀p∈before,(fun b=>decide (b<W.heap.size)) p.block=true:=fun p hp=>by simpa using hlt p hp
 refine⟨ds,gs,before,[],pa,pv,hW,hres _ _ _,hargs _ hold,hvars _ hold,World.keptBut_mono (fun p hp=>⟨hp,?_⟩) (hb.frame (·∈before)),fun _=>?_⟩
 ·rw[hps,List.mem_append]at hp;exact Or.inr hp
 ·obtain⟨_,_,_,_,_,hz,hn⟩:=hW;refine⟨hok,_,_,([]++pa)++pv,⟨[]++pa,pv,trodAll_append (hargs _ (fun _ _=>rfl)) (hres _ _ _),hvars _ (fun _ _=>rfl),rfl,?_,?_⟩,?_⟩
  ·intro b off hp;have hin:MemPlace.cell b off∈before:=by rw[hps];simpa using hp
   rw[hb.frozen (hlt _ hin)];exact hz b off hin
  ·intro ha;have:=hn ha;rw[hps]at this
   simpa using this
  ·intro p hp _;rw[hps]
   simpa using hp
end

section
variable {H:Type}{enc:TypeId×Value→H}{P:Program}{w:World}{base:Nat}{sp:Nat→Bool}{held:Bool}

end

open Go.Joins Go.Deep Go.WideElems Go.Maps

section
variable {H:Type}{enc:TypeId×Value→H}{P:Program}{W:World}{base:Nat}{sp:Nat→Bool}{held:Bool}

end

theorem WU {X α:Type}{f:X→List α}{sz:Nat}(hsz:0<sz)(hf:∀x,(f x).length=sz):∀(xs:List X) (j:Nat),(xs.flatMap f)[j]? = (xs[j / sz]?).bind fun x=>(f x)[j % sz]?
 | [],j=>by simp
 |x :: xs,j=>by
  rw[List.flatMap_cons];by_cases hj:j<sz
  ·rw[List.getElem?_append_left (by rw[hf];exact hj),Nat.div_eq_of_lt hj,Nat.mod_eq_of_lt hj];rfl
  ·obtain⟨i,rfl⟩:∃i,j=sz+i:=⟨j-sz,by omega⟩;rw[QAp (by rw[hf];omega),hf,WU hsz hf xs,show sz+i-sz=i by omega,show(sz+i) / sz=i / sz+1 by rw[Nat.add_div_left _ hsz],Nat.add_mod_left];rfl

section
variable {H:Type}{enc:TypeId×Value→H}{P:Program}{W:World}

structure El (enc:TypeId×Value→H)(P:Program)(e:TypeId)(sz:Nat)(X:Type) where
 av:X→AV
 vals:X→List Value
 Ef:X→DataW H
 ok:X→Prop
 pos:0<sz
 len:∀x,(vals x).length=sz
 cells:∀x,(av x).cells.length=sz
 rfl':∀x,AV.rfL (av x).cells=true
 leaf:∀x,(av x).cells.all AV.leaf=true
 rep:∀(G:Gh) x,RepL G (av x).cells (vals x)
 opened:∀ {W:World} {n:Nat} {cs:List Value} {d:DataW H} {pl:List MemPlace},cs.length=sz→DataW.trod enc P W 0 (fun _=>true) true n e cs=some (d,pl)→∃x,ok x∧cs=vals x∧d=Ef x∧pl=[]
 shut:∀(W:World) (sp:Nat→Bool) x,ok x→∃n,DataW.trod enc P W 0 sp true n e (vals x)=some (Ef x,[])

end

def Xw:List AV→AV
 | [x]=>x
 |l=>.agg l

def YE (P:Program):Nat→List Field→Nat→Bool
 |o,[],n=>Nat.beq o n
 |o,f :: fs,n=>Nat.beq f.offset o&&YE P (o+P.cellsOf f.type) fs n

def B9 (P:Program)(ts:List TypeId)(t:TypeId):Bool :=
 match P.underlying t with
 |some (.int _)|some .bool|some .string=>P.cellsOf t==1
 |some (.struct fs)=>YE P 0 fs.toList (P.cellsOf t)&&fs.toList.all fun f=>ts.contains f.type
 |some (.slice e)=>P.cellsOf t==1&&(decide (0<P.cellsOf e)&&decide (0<P.bytesOf e))&&ts.contains e
 |_=>false
def Na (P:Program)(ts:List TypeId):Bool:=ts.all (B9 P ts)

def QY (P:Program)(M:Nat):Nat→TypeId→List AV→Prop
 |0,_,_=>False
 |k+1,t,cs=>match P.underlying t with
  |some (.int ik)=>∃n,cs=[.int ik n]∧(Lit.int ik n).wf=true
  |some .bool=>∃b,cs=[.bool b]
  |some .string=>∃s,cs=[.str s]∧s.length≤M
  |some (.struct fs)=>HasL (QY P M k) fs.toList cs
  |some (.slice e)=>∃l:List (List AV),cs=[.list (l.map Xw)]∧(l.length≤maxLen∧(M=reachBytes→l.length*P.bytesOf e≤M))∧(∀c∈l,QY P M k e c)∧l.length≤M
  |_=>False
where
 HasL (h:TypeId→List AV→Prop):List Field→List AV→Prop
  | [],cs=>cs=[]
  |f :: fs,cs=>∃a b,cs=a++b∧h f.type a∧HasL h fs b

theorem WV {l:List AV}(h:l.all AV.leaf=true):(Xw l).cells=l:=by
 match l,h with
 | [],_=>rfl
 | [x],h=>cases x<;>first|rfl|simp[AV.leaf]at h
 |_ :: _ :: _,_=>rfl

mutual
def wt:AV→Nat
 |.list l=>1+Z0 l
 |.agg l=>Z0 l
 |_=>1
def Z0:List AV→Nat
 | []=>0
 |x :: l=>wt x+Z0 l
end
theorem DG (a b:List AV):Z0 (a++b)=Z0 a+Z0 b:=by
 induction a with
 |nil=>simp[Z0]
 |cons x a ih=>simp only[Qzx,Z0,ih];omega
theorem C5:∀l:List AV,wt (Xw l)=Z0 l
 | []=>by simp[Xw,wt]
 | [x]=>by simp[Xw,Z0]
 |_ :: _ :: _=>by simp[Xw,wt]

theorem Wo {G:Gh}:∀ {ls:List (List AV)} {cs:List (List Value)},ls.length=cs.length→(∀i (h1:i<ls.length) (h2:i<cs.length),RepL G ls[i] cs[i])→RepL G ls.flatten cs.flatten
 | [],[],_,_=>.nil
 |l :: ls,c :: cs,hn,h=>by
  rw[List.flatten_cons,List.flatten_cons];exact RepL.append (h 0 (by simp) (by simp)) (Wo (by simpa using hn) fun i h1 h2=>h (i+1) (by simpa using h1) (by simpa using h2))
 | [],_ :: _,hn,_=>by simp at hn
 |_ :: _,[],hn,_=>by simp at hn

section
variable {H:Type}{enc:TypeId×Value→H}{P:Program}{W:World}{M:Nat}

theorem Yb {d:DataW H}:∀ {l:List (DataW H)},d∈l→Rows.uptoBulk d≤Rows.uptoBulkAll l
 | [],h=>by cases h
 |x :: l,h=>by
  rw[Rows.uptoBulkAll];rcases QAj.1 h with rfl|h
  ·omega
  ·have:=Yb h;omega

theorem C6 (d:DataW H):1≤Rows.uptoBulk d:=by unfold Rows.uptoBulk;split<;>omega
theorem YF {x:AV}(h:wt x=1)(d:DataW H):Z0 [x]≤Rows.uptoBulk d:=by
 have:=C6 d;rw[Z0,Z0,h];exact this
theorem C7 (a b:List (DataW H)):Rows.uptoBulkAll (a++b)=Rows.uptoBulkAll a+Rows.uptoBulkAll b:=by
 induction a with
 |nil=>simp[Rows.uptoBulkAll]
 |cons x a ih=>simp only[Qzx,Rows.uptoBulkAll,ih];omega
theorem HT (F:Nat→List AV)(xs:List (DataW H))(h:∀i d,xs[i]? = some d→Z0 (F i)≤Rows.uptoBulk d):∀n,n≤xs.length→Z0 (((List.range n).map F).map Xw)≤Rows.uptoBulkAll (xs.take n)
 |0,_=>Qzl _
 |n+1,hn=>by
  have hx:xs[n]? = some xs[n]:=Qzf (by omega);have:=HT F xs h n (by omega);have h1:=h n _ hx;rw[List.range_succ,QAw,QAw,DG,QAx,hx,C7];simp only[QzI,Qz4,Z0,C5,QAy,Rows.uptoBulkAll];omega

def MS (P:Program)(M:Nat)(t:TypeId)(d:DataW H):Prop:=M=maxLen∨(M≠reachBytes∧Rows.uptoBulk d≤M)∨(d.weights P t).all (·≤M)=true

theorem YG {t:TypeId}{d:DataW H}:∀ {ts:List TypeId} {ds:List (DataW H)} (i:Nat),(DataW.weightsEach P ts ds).all (·≤M)=true→ts[i]? = some t→ds[i]? = some d→(d.weights P t).all (·≤M)=true
 | [],_,_,_,h,_=>by simp at h
 |_ :: _,[],_,_,_,h=>by simp at h
 |t' :: ts,d' :: ds,0,h,h1,h2=>by
  rw[DataW.weightsEach,QAh,Qzz]at h;cases h1;cases h2;exact h.1
 |t' :: ts,d' :: ds,i+1,h,h1,h2=>by
  rw[DataW.weightsEach,QAh,Qzz]at h;exact YG i h.2 (by simpa using h1) (by simpa using h2)

theorem KB {e:TypeId}{d:DataW H}:∀ {ds:List (DataW H)},(DataW.weightsAll P e ds).all (·≤M)=true→d∈ds→(d.weights P e).all (·≤M)=true
 | [],_,h=>by cases h
 |d' :: ds,h,hd=>by
  rw[DataW.weightsAll,QAh,Qzz]at h;rcases QAj.1 hd with rfl|hd
  ·exact h.1
  ·exact KB h.2 hd

def Ed (W:World)(hL:Y9 W)(h:List AV→Prop)(B n:Nat)(cs:List Value):Prop :=
 ∃avs,h avs∧RepL (Gh.world W hL) avs cs∧avs.length=n∧AV.rfL avs=true∧avs.all AV.leaf=true∧Z0 avs≤B

theorem WW (hL:Y9 W){h:TypeId→List AV→Prop}{cs:List Value}:∀(fs:List Field) (ds:List (DataW H)) (o:Nat),YE P o fs cs.length=true→fs.length=ds.length→(∀(i:Nat) (f:Field) (d:DataW H),fs[i]? = some f→ds[i]? = some d→Ed W hL (h f.type) (Rows.uptoBulk d) (P.cellsOf f.type) ((cs.drop f.offset).take (P.cellsOf f.type)))→
  Ed W hL (QY.HasL h fs) (Rows.uptoBulkAll ds) (cs.length-o) (cs.drop o)
 | [],_,o,hc,_,_=>by
  have e:o=cs.length:=Qza hc;refine⟨[],rfl,?_,by simp[e],rfl,rfl,Qzl _⟩;rw[e,List.drop_length];exact .nil
 |_ :: _,[],_,_,hl,_=>by simp at hl
 |f :: fs,d :: ds,o,hc,hl,hf=>by
  simp only[YE,Qzz]at hc;have eo:f.offset=o:=Qza hc.1;obtain⟨a,a1,a2,a3,a4,a5,a6⟩:=hf 0 f d rfl rfl;obtain⟨b,b1,b2,b3,b4,b5,b6⟩:=WW hL fs ds _ hc.2 (by simpa using hl) fun i g d hg hd=>hf (i+1) g d (by simpa using hg) (by simpa using hd)
  rw[eo]at a2;refine⟨a++b,⟨a,b,rfl,a1,b1⟩,?_,?_,by rw[Jp,a4,b4]<;>rfl,by rw[QAh,a5,b5]<;>rfl,by rw[DG,Rows.uptoBulkAll];omega⟩
  ·have:=RepL.append a2 b2
   rwa [←List.drop_drop,QAg]at this
  ·have hlen:a.length=((cs.drop o).take (P.cellsOf f.type)).length:=(RepL.length a2).symm;rw[QzM,a3,b3];rw[a3,QzZ,QzP]at hlen;omega

theorem Wp (hL:Y9 W){ts:List TypeId}(hP:Na P ts=true):∀(k:Nat) (t:TypeId) (cs:List Value) (d:DataW H) (pl:List MemPlace),ts.contains t=true→DataW.trod enc P W 0 (fun _=>true) true k t cs=some (d,pl)→MS P M t d→
  Ed W hL (QY P M k t) (Rows.uptoBulk d) (P.cellsOf t) cs
 |0,_,_,_,_,_,h,_=>by simp[DataW.trod]at h
 |k+1,t,cs,d,pl,ht,h,hb=>by
  have hp:=Qzp.1 hP t (by simpa using ht);unfold B9 at hp;split at hp
  ·rename_i ik hu;obtain⟨v,rfl,_,hw⟩:=DataW.trod_int hu h;refine⟨[.int ik v],?_,.cons (.int ik v) .nil,by rw[QzA]at hp;simp[hp],rfl,rfl,YF rfl _⟩;simp only[QY,hu];exact⟨v,rfl,hw⟩
  ·rename_i hu;obtain⟨b,rfl,_⟩:=DataW.trod_bool hu h;refine⟨[.bool b],?_,.cons (.bool b) .nil,by rw[QzA]at hp;simp[hp],rfl,rfl,YF rfl _⟩;simp only[QY,hu];exact⟨b,rfl⟩
  ·rename_i hu;obtain⟨⟨⟨s⟩⟩,rfl,e,hw⟩:=DataW.trod_string hu h;have hw:s.length≤M:=by
    cases e;rcases hb with rfl|hb|hb
    ·exact hw
    ·replace hb:=hb.2;rw[Rows.uptoBulk]at hb;exact Qzd (Nat.le_succ _) hb
    ·rw[DataW.weights]at hb
     simpa using hb
   refine⟨[.str s],?_,.cons (.str s) .nil,by rw[QzA]at hp;simp[hp],rfl,rfl,YF rfl _⟩;simp only[QY,hu];exact⟨s,rfl,hw⟩
  ·rename_i fs hu;simp only[Qzz,Qzp]at hp;obtain⟨xs,n',hk,e,hlen,hxl,hx⟩:=DataW.trod_struct hu h;obtain rfl:k=n':=by omega
   have hbx:∀(i:Nat) x (f:Field),xs[i]? = some x→fs[i]? = some f→MS P M f.type x.1:=fun i x f hx hf=>by
    cases e;refine hb.imp id fun hb=>hb.imp (fun hb=>⟨hb.1,?_⟩) fun hb=>?_
    ·replace hb:=hb.2;rw[Rows.uptoBulk]at hb;have:=Yb (l:=xs.map (·.1)) (QAk.2 ⟨x,Qzq hx,rfl⟩);omega
    ·rw[DataW.weights,hu]at hb;exact YG i hb (by simp[hf]) (by simp[hx])
   have:=WW hL (W:=W) (h:=QY P M k) (cs:=cs) fs.toList (xs.map (·.1)) 0 (by rw[hlen];exact hp.1) (by simp[hxl]) (fun i f d hi hd=>by
    have hi':fs[i]? = some f:=by simpa using hi
    have hf:f∈fs.toList:=Qzq hi;obtain⟨x,hxi,rfl⟩:∃x,xs[i]? = some x∧x.1=d:=by
     rw[QAm]at hd;obtain⟨x,h1,h2⟩:=Qzh.1 hd;exact⟨x,h1,h2⟩
    have h2:=hx i f hi';rw[hxi]at h2;exact Wp hL hP k f.type _ _ _ (hp.2 f hf) h2 (hbx i _ f hxi hi'))
   rw[QzQ,Nat.sub_zero,hlen]at this;obtain⟨avs,h1,h2,h3,h4,h5,h6⟩:=this;refine⟨avs,?_,h2,h3,h4,h5,by cases e;rw[Rows.uptoBulk];omega⟩;simp only[QY,hu];exact h1
  ·rename_i e hu;simp only[Qzz,QAl,QzA]at hp;obtain⟨⟨h1,h0,hby⟩,hpe⟩:=hp;rcases DataW.trod_slice hu h with⟨rfl,_⟩|⟨a,len,cap,elems,rest,n',hk,rfl,e0,_,hl,hm,hln0,hel,_⟩
   ·refine⟨[.list []],?_,.cons (.list (cs:=[]) (sz:=0) .nil (by simp) rfl rfl (by simp) rfl (Qzl _) (Qzl _)) .nil,by simp[h1],rfl,rfl,YF rfl _⟩;simp only[QY,hu];exact⟨[],rfl,⟨Qzl _,fun _=>by simp⟩,by simp,Qzl _⟩
   ·obtain rfl:k=n':=by omega
    have hbx:∀x∈elems,MS P M e x.1:=fun x hx=>by
     cases e0;refine hb.imp id fun hb=>hb.imp (fun hb=>⟨hb.1,?_⟩) fun hb=>?_
     ·replace hb:=hb.2;rw[Rows.uptoBulk]at hb;have:=Yb (l:=elems.map (·.1)) (QAk.2 ⟨x,hx,rfl⟩);omega
     ·rw[DataW.weights,hu,List.all_cons,QAh,Qzz,Qzz]at hb;exact KB hb.2.1 (QAk.2 ⟨x,hx,rfl⟩)
    have hlenM:len≤M:=by
     cases e0;rcases hb with rfl|hb|hb
     ·omega
     ·have key:∀l:List (DataW H),l.length≤Rows.uptoBulkAll l:=by
       intro l
       induction l with
       |nil=>simp
       |cons x l ih=>
        have:1≤Rows.uptoBulk x:=by unfold Rows.uptoBulk;split<;>omega
        rw[Rows.uptoBulkAll,Qzr];omega
      replace hb:=hb.2;rw[Rows.uptoBulk]at hb;have:=key (elems.map (·.1));rw[QAo]at this;omega
     ·rw[DataW.weights,hu,List.all_cons,Qzz]at hb;have h5:=hb.1;simp only[QAl,QAo]at h5;have h6:elems.length*1≤(elems.length+rest.length)*P.bytesOf e:=Nat.mul_le_mul (Nat.le_add_right _ _) hby;omega
    have hlenB:M=reachBytes→len*P.bytesOf e≤M:=fun hM=>by
     cases e0;rcases hb with rfl|hb|hb
     ·exact absurd hM (by unfold maxLen reachBytes;omega)
     ·exact absurd hM hb.1
     ·rw[DataW.weights,hu,List.all_cons,Qzz]at hb;have h5:=hb.1;simp only[QAl,QAo]at h5;have h6:elems.length*P.bytesOf e≤(elems.length+rest.length)*P.bytesOf e:=Nat.mul_le_mul (Nat.le_add_right _ _) (Qzc _);have h7:len*P.bytesOf e=elems.length*P.bytesOf e:=by rw[show len=elems.length by omega]
      omega
    haveI:Inhabited ({c:List Value // c.length=P.cellsOf e}×List AV):=⟨(⟨List.replicate (P.cellsOf e) (.bool false),by simp⟩,[])⟩
    obtain⟨F,hF⟩:=choose_lt (α:={c:List Value // c.length=P.cellsOf e}×List AV) (n:=len) (p:=fun i x=>W.cells? 0 (a.add (i*P.cellsOf e)) (P.cellsOf e)=some x.1.1∧QY P M k e x.2∧RepL (Gh.world W hL) x.2 x.1.1∧x.2.length=P.cellsOf e∧AV.rfL x.2=true∧x.2.all AV.leaf=true∧∀d,elems[i]? = some d→Z0 x.2≤Rows.uptoBulk d.1) (fun i hi=>by
     have hb:=hel i hi;rw[Qzf (by omega)]at hb;obtain⟨cs',c1,c2⟩:=Option.bind_eq_some_iff.1 hb;obtain⟨_,hln,_⟩:=World.cells?_some c1;obtain⟨avs,o1,o2,o3,o4,o5,o6⟩:=Wp hL hP k e cs' _ _ hpe c2 (hbx _ (List.getElem_mem _));exact⟨(⟨cs',hln⟩,avs),c1,o1,o2,o3,o4,o5,fun d hd=>by
      rw[Qzf (by omega)]at hd;cases hd;exact o6⟩)
    have cellAt:∀i j,i<len→j<P.cellsOf e→W.cell? (a.add (i*P.cellsOf e+j))=(F i).1.1[j]?:=by
     intro i j hi hj;obtain⟨_,_,h3⟩:=World.cells?_some (hF i hi).1;rw[←h3 j hj,add_add]
    have hspot:0<len→a.spot=none:=by
     intro hc;have:=cellAt 0 0 hc h0;rw[Nat.zero_mul,show a.add (0+0)=a from rfl,Qzf (by rw[(F 0).1.2];exact h0)]at this;unfold World.cell? at this;split at this
     ·split at this
      ·cases this
      ·rename_i h;simpa using h
     ·cases this
    have hel':∀c∈(List.range len).map (fun i=>(F i).2),∃i,i<len∧c=(F i).2:=by
     intro c hc;obtain⟨i,hi,rfl⟩:=QAk.1 hc;exact⟨i,QAt.1 hi,rfl⟩
    have hflat:∀L:List (List AV),(∀c∈L,c.all AV.leaf=true)→QI (L.map Xw)=L.flatten:=by
     intro L
     induction L with
     |nil=>intro _;rfl
     |cons c L ih=>
      intro hh;show(Xw c).cells++QI (L.map Xw)=c++L.flatten;rw[WV (hh c (by simp)),ih fun x hx=>hh x (by simp[hx])]
    have hrf:∀L:List (List AV),(∀c∈L,AV.rfL c=true)→AV.rfL L.flatten=true:=by
     intro L
     induction L with
     |nil=>intro _;rfl
     |cons c L ih=>
      intro hh;rw[List.flatten_cons,Jp,hh c (by simp),ih fun x hx=>hh x (by simp[hx])]<;>rfl
    have hlf:∀L:List (List AV),(∀c∈L,c.all AV.leaf=true)→L.flatten.all AV.leaf=true:=by
     intro L
     induction L with
     |nil=>intro _;rfl
     |cons c L ih=>
      intro hh;rw[List.flatten_cons,QAh,hh c (by simp),ih fun x hx=>hh x (by simp[hx])]<;>rfl
    have hl1:∀c∈(List.range len).map (fun i=>(F i).2),c.all AV.leaf=true:=fun c hc=>by
     obtain⟨i,hi,rfl⟩:=hel' c hc;exact(hF i hi).2.2.2.2.2.1
    have hl2:∀c∈(List.range len).map (fun i=>(F i).2),AV.rfL c=true:=fun c hc=>by
     obtain⟨i,hi,rfl⟩:=hel' c hc;exact(hF i hi).2.2.2.2.1
    have hwt:Z0 [.list (((List.range len).map fun i=>(F i).2).map Xw)]≤Rows.uptoBulk d:=by
     cases e0;have hw:=fun n hn=>HT (fun i=>if i<len then(F i).2 else []) (elems.map (·.1)) (fun i d hd=>by
      rw[QAm]at hd;obtain⟨x,h1,rfl⟩:=Qzh.1 hd;by_cases hi:i<len
      ·rw[Qzk hi];exact(hF i hi).2.2.2.2.2.2 x h1
      ·rw[Qzj hi];exact Qzl _) n hn
     have h1:=hw len (by rw[QAo];omega);rw[QzJ (by rw[QAo];omega)]at h1;have h2:(List.range len).map (fun i=>if i<len then(F i).2 else [])=(List.range len).map fun i=>(F i).2:=by
      refine QAz fun i hi=>?_
      rw[Qzk (QAt.1 hi)]
     rw[h2]at h1;rw[Z0,Z0,wt,Rows.uptoBulk];omega
    refine⟨[.list (((List.range len).map fun i=>(F i).2).map Xw)],?_,.cons (.list (cs:=((List.range len).map fun i=>(F i).1.1).flatten) (sz:=P.cellsOf e) ?_ ?_ ?_ ?_ ?_ (by simp) hl (by omega)) .nil,by simp[h1],rfl,rfl,hwt⟩
    ·simp only[QY,hu];refine⟨_,rfl,⟨by simp;omega,fun hM=>by simpa using hlenB hM⟩,?_,by simpa using hlenM⟩;intro c hc;obtain⟨i,hi,rfl⟩:=hel' c hc;exact(hF i hi).2.1
    ·rw[hflat _ hl1];refine Wo (by simp) fun i g1 g2=>?_
     simp only[QAo,List.length_range]at g1;simp only[List.getElem_map,List.getElem_range];exact(hF i (by omega)).2.2.1
    ·intro x hx;obtain⟨c,hc,rfl⟩:=QAk.1 hx;rw[WV (hl1 c hc)];obtain⟨i,hi,rfl⟩:=hel' c hc;exact(hF i hi).2.2.2.1
    ·rw[hflat _ hl1];exact hrf _ hl2
    ·rw[hflat _ hl1];exact hlf _ hl1
    ·intro j u hj;rw[←List.flatMap_def,WU h0 (fun i=>(F i).1.2)]at hj;by_cases hi:j / P.cellsOf e<len
     ·rw[List.getElem?_range hi]at hj;have hj:(F (j / P.cellsOf e)).1.1[j % P.cellsOf e]? = some u:=hj;have hk:=cellAt (j / P.cellsOf e) (j % P.cellsOf e) (by omega) (Nat.mod_lt _ h0);rw[hj,Nat.div_add_mod']at hk;have hs:=hspot (Nat.lt_of_le_of_lt (Qzl _) hi);obtain⟨b,o,s⟩:=a;subst hs;refine⟨b,o,rfl,?_⟩;refine WE ?_;show W.cell? ⟨b,o+j,none⟩=some u;rw[←hk];unfold Addr.add;split
      ·rename_i h;rw[h];rfl
      ·rfl
     ·rw[QAn (by simp;omega)]at hj;cases hj
  ·cases hp

theorem F4 {t:TypeId}{v:Value}{d:DataW H}{p:List MemPlace}(hl:laidOutB P=true)(hr:P.readableRec t=true)(hrow:t<P.types.size)(h:DataW.Trod enc P W 0 (fun _=>true) true t v d p) :
  ∀(W':World) (sp:Nat→Bool),Below W.heap.size W W'→(∀q∈p,sp q.block=true)→DataW.Trod enc P W' 0 sp true t v d p:=by
 intro W' sp hb hs;obtain⟨n,hn⟩:=h;exact Trod_stays hl hr hrow ⟨n,hn⟩ (fun x hx=>hb.same (DataW.trod_lt n _ _ _ hn x hx)) hs

theorem Dt (hL:Y9 W){t:TypeId}{fs:Array Field}{ts:List TypeId}{r:Reach}{b0:Nat}{v:Value}{d:DataW H}{p:List MemPlace}(hP:Na P ts=true)(ht:ts.contains t=true)(hs:P.underlying t=some (.struct fs))(hv:Value.okWide P W r b0 t v)
  (h:DataW.Trod enc P W 0 (fun _=>true) true t v d p) (hb:MS P M t d):∃k avs,QY P M k t avs∧Rep (Gh.world W hL) (.agg avs) v:=by
 obtain⟨⟨cs⟩,rfl,_⟩:=okWide_struct hs hv;obtain⟨n,hn⟩:=h;obtain⟨avs,h1,h2,_⟩:=Wp hL hP n t _ _ _ ht hn hb;exact⟨n,avs,h1,.agg h2⟩
theorem Q9 {X:Type}{f:X→List AV}{ok:X→Prop}:∀ {l:List (List AV)},(∀c∈l,∃x,ok x∧c=f x)→∃xs:List X,l=xs.map f∧∀x∈xs,ok x
 | [],_=>⟨[],rfl,by simp⟩
 |c :: l,h=>by
  obtain⟨x,hx,rfl⟩:=h c (by simp);obtain⟨xs,rfl,hxs⟩:=Q9 (l:=l) fun c hc=>h c (by simp[hc])
  exact⟨x :: xs,rfl,by simpa using ⟨hx,hxs⟩⟩

end

end Go.Proofs.YtaiflhahcglpgaaGreatDoor.Br

namespace Go.Proofs.YtaiflhahcglpgaaGreatDoor.Br
open Go Am

section
variable {P:Program}{M k:Nat}{t:TypeId}{cs:List AV}

theorem XN {ik:IntKind}(hu:P.underlying t=some (.int ik))(h:QY P M k t cs):∃n,cs=[.int ik n]∧(Lit.int ik n).wf=true:=by
 cases k with
 |zero=>cases h
 |succ k=>simpa only [QY,hu]using h

theorem HU (hu:P.underlying t=some .bool)(h:QY P M k t cs):∃b,cs=[.bool b]:=by
 cases k with
 |zero=>cases h
 |succ k=>simpa only [QY,hu]using h

theorem XO (hu:P.underlying t=some .string)(h:QY P M k t cs):∃s,cs=[.str s]∧s.length≤M:=by
 cases k with
 |zero=>cases h
 |succ k=>simpa only [QY,hu]using h

theorem Q3 {e:TypeId}(hu:P.underlying t=some (.slice e))(h:QY P M k t cs):∃(k':Nat) (l:List (List AV)),cs=[.list (l.map Xw)]∧l.length≤M∧∀c∈l,QY P M k' e c:=by
 cases k with
 |zero=>cases h
 |succ k=>
  simp only[QY,hu]at h;obtain⟨l,h1,_,h3,h4⟩:=h;exact⟨k,l,h1,h4,h3⟩

theorem Xx {fs:Array Field}(hu:P.underlying t=some (.struct fs))(h:QY P M k t cs):∃k',QY.HasL (QY P M k') fs.toList cs:=by
 cases k with
 |zero=>cases h
 |succ k=>
  simp only[QY,hu]at h;exact⟨k,h⟩

end

structure PO where
 num:Int
 name:List UInt8
 alias:List UInt8
 card:Int
 key:Int
 kind:Int
 target:Int
 union:Int

def PO.cells (o:PO):List AV:=[.int .i64 o.num,.str o.name,.str o.alias,.int .i64 o.card,.int .i64 o.key,.int .i64 o.kind,.int .i64 o.target,.int .i64 o.union]

structure PO.ok (M:Nat)(o:PO):Prop where
 num:(Lit.int .i64 o.num).wf=true
 name:o.name.length≤M
 alias:o.alias.length≤M
 card:(Lit.int .i64 o.card).wf=true
 key:(Lit.int .i64 o.key).wf=true
 kind:(Lit.int .i64 o.kind).wf=true
 target:(Lit.int .i64 o.target).wf=true
 union:(Lit.int .i64 o.union).wf=true

structure PG where
 name:List UInt8
 ops:List PO
 unions:Int

def PG.cells (g:PG):List AV:=[.str g.name,.list (g.ops.map fun o=>.agg o.cells),.int .i64 g.unions]

structure PG.ok (M:Nat)(g:PG):Prop where
 name:g.name.length≤M
 len:g.ops.length≤maxLen
 ops:∀o∈g.ops,o.ok M
 unions:(Lit.int .i64 g.unions).wf=true

structure PS where
 lo:Int
 hi:Int

def PS.cells (x:PS):List AV:=[.int .i64 x.lo,.int .i64 x.hi]
def PS.ok (x:PS):Prop:=(Lit.int .i64 x.lo).wf=true∧(Lit.int .i64 x.hi).wf=true

theorem HV {M k:Nat}{cs:List AV}(h:QY Tryz.prog M k 87 cs):∃x:PS,x.ok∧cs=x.cells:=by
 obtain⟨k,h⟩:=Xx Tryz.underlying87 h;simp only[QY.HasL]at h;obtain⟨_,_,rfl,h0,_,_,rfl,h1,rfl⟩:=h;obtain⟨a0,rfl,w0⟩:=XN Tryz.underlying3 h0;obtain⟨a1,rfl,w1⟩:=XN Tryz.underlying3 h1;exact⟨⟨a0,a1⟩,⟨w0,w1⟩,rfl⟩

structure PN where
 name:List UInt8
 val:List AV

def PN.cells (x:PN):List AV:=.str x.name :: x.val
def PN.ok (P:Program)(M:Nat)(t:TypeId)(x:PN):Prop:=x.name.length≤M∧∃k,QY P M k t x.val

structure PI where
 name:List UInt8
 num:Int
 notes:List PN

def PI.cells (x:PI):List AV:=[.str x.name,.int .i64 x.num,.list (x.notes.map fun n=>Xw n.cells)]

structure PI.ok (M:Nat)(x:PI):Prop where
 name:x.name.length≤M
 num:(Lit.int .i64 x.num).wf=true
 len:x.notes.length≤maxLen
 notes:∀n∈x.notes,n.ok Tryz.prog M 69

structure PE where
 name:List UInt8
 opn:Bool
 items:List PI
 free:List PS
 notes:List PN

def PE.cells (x:PE):List AV:=[.str x.name,.bool x.opn,.list (x.items.map fun n=>.agg n.cells),.list (x.free.map fun n=>.agg n.cells),.list (x.notes.map fun n=>Xw n.cells)]

structure PE.ok (M:Nat)(x:PE):Prop where
 name:x.name.length≤M
 len1:x.items.length≤maxLen
 items:∀n∈x.items,n.ok M
 len2:x.free.length≤maxLen
 free:∀n∈x.free,n.ok
 len3:x.notes.length≤maxLen
 notes:∀n∈x.notes,n.ok Tryz.prog M 69

structure PL where
 progs:List PG
 enums:List PE

def PL.av (p:PL):AV:=.agg [.list (p.progs.map fun n=>.agg n.cells),.list (p.enums.map fun n=>.agg n.cells)]

structure PL.ok (M:Nat)(x:PL):Prop where
 len1:x.progs.length≤maxLen
 progs:∀n∈x.progs,n.ok M
 len2:x.enums.length≤maxLen
 enums:∀n∈x.enums,n.ok M

end Go.Proofs.YtaiflhahcglpgaaGreatDoor.Br

namespace Go.Proofs.YtaiflhahcglpgaaGreatDoor.Vp

def Ee:Nat→Nat→List UInt8
 |0,u=>[UInt8.ofNat u]
 |k+1,u=>if u<128 then [UInt8.ofNat u]else UInt8.ofNat (u % 128+128) :: Ee k (u / 128)

def put (u:Nat):List UInt8:=Ee 9 u

def YH:Nat→Nat→List UInt8→Nat×Nat×Nat
 |_,_,[]=>(0,0,4)
 |i,acc,c :: t=>
  if i=9∧1<c.toNat then(0,0,6)
  else if c.toNat<128 then(acc+c.toNat*128 ^ i,i+1,0)
  else YH (i+1) (acc+(c.toNat-128)*128 ^ i) t

def take (s:List UInt8):Nat×Nat×Nat:=YH 0 0 s

theorem WX (n:Nat)(h:n<256):(UInt8.ofNat n).toNat=n:=by
 simp[UInt8.toNat_ofNat'];omega

theorem F5 (i acc:Nat)(s t:List UInt8)(h:(YH i acc s).2.2≠4):YH i acc (s++t)=YH i acc s:=by
 induction s generalizing i acc with
 |nil=>simp[YH]at h
 |cons c r ih=>
  simp only[Qzx];unfold YH at h ⊢;split
  ·rfl
  ·rename_i h1;rw[Qzj h1]at h;split
   ·rfl
   ·rename_i h2;rw[Qzj h2]at h;exact ih _ _ h

theorem R4 (i acc:Nat)(s:List UInt8)(hi:i≤9)(hl:10≤i+s.length):(YH i acc s).2.2≠4:=by
 induction s generalizing i acc with
 |nil=>simp at hl;omega
 |cons c r ih=>
  unfold YH;split
  ·simp
  ·rename_i h1;split
   ·simp
   ·rename_i h2;exact ih _ _ (by omega) (by simp at hl;omega)

theorem take_take (s:List UInt8):take (s.take 10)=take s:=by
 rcases Nat.lt_or_ge s.length 10 with h|h
 ·rw[QzJ (by omega)]
 ·have:=F5 0 0 (s.take 10) (s.drop 10) (R4 0 0 _ (by omega) (by simp;omega));rw[QAg]at this;exact this.symm

end Go.Proofs.YtaiflhahcglpgaaGreatDoor.Vp

namespace Go.Proofs.YtaiflhahcglpgaaGreatDoor.Bt
open Go

theorem QqE (n:Int):IntKind.u64.wrap n=n % 18446744073709551616:=by simp[IntKind.wrap,IntKind.bits,IntKind.signed]
theorem ZE (n:Int):IntKind.i64.wrap n=(n+9223372036854775808) % 18446744073709551616-9223372036854775808:=IntKind.wrap_i64 n

theorem UR {n:Nat}(h:n<18446744073709551616):(BitVec.ofInt 64 (n:Int)).toNat=n:=by
 simp;omega

theorem DH (a b:Nat)(ha:a<18446744073709551616)(hb:b<18446744073709551616):bits .and .u64 (a:Int) (b:Int)=((a &&& b:Nat):Int):=by
 have hx:a &&& b<2 ^ 64:=Nat.and_lt_two_pow _ (by omega);show IntKind.u64.wrap ((BitVec.ofInt 64 (a:Int) &&& BitVec.ofInt 64 (b:Int)).toNat:Int)=_;rw[BitVec.toNat_and,UR ha,UR hb,QqE];omega
end Go.Proofs.YtaiflhahcglpgaaGreatDoor.Bt

namespace Go.Proofs.YtaiflhahcglpgaaGreatDoor.Cp
open Go Am Bt Vp

structure C where
 d:List UInt8
 a:Int
 e:Int
 dp:Int
 nd:Int
 tx:Int

def C.av (c:C):AV:=.agg [.str c.d,.int .i64 c.a,.int .i64 c.e,.int .i64 c.dp,.int .i64 c.nd,.int .i64 c.tx]
def zc:C:=⟨[],0,0,0,0,0⟩

structure L where
 b:Int
 dp:Int
 nd:Int
 tx:Int
def L.av (l:L):AV:=.agg [.int .i64 l.b,.int .i64 l.dp,.int .i64 l.nd,.int .i64 l.tx]

def C.sound (c:C):Bool:=decide (0≤c.a)&&decide (c.a≤c.e)&&decide (c.e≤(c.d.length:Int))
def C.rest (c:C):List UInt8:=bif c.sound then(c.d.drop c.a.toNat).take (c.e.toNat-c.a.toNat)else []
def C.left (c:C):Int:=(c.rest.length:Int)
def C.ahead (c:C)(n:Int):C:={ c with a:=IntKind.i64.wrap (c.a+n) }

def opn (s:List UInt8)(l:L):C×Nat :=
 if l.b<0∨l.dp<0∨l.nd<0∨l.tx<0 then(zc,1)else if l.b<(s.length:Int)then(zc,3)else(⟨s,0,s.length,l.dp,l.nd,l.tx⟩,0)

def C.varint (c:C):Nat×C×Nat :=
 let r:=Vp.take c.rest
 if r.2.2=0 then(r.1,c.ahead r.2.1,0)else(0,c,r.2.2)

end Go.Proofs.YtaiflhahcglpgaaGreatDoor.Cp

namespace Go.Proofs.YtaiflhahcglpgaaGreatDoor.Up
open Go Am Bt Vp Cp

structure R where
 num:Int
 wire:Int
 bits:Nat
 data:List UInt8
 deriving DecidableEq

def R.av (f:R):AV:=.agg [.int .i64 f.num,.int .i64 f.wire,.int .u64 (f.bits:Nat),.str f.data]
def Ef (c:C)(wire:Int):List UInt8×C×Nat :=
 let r:=c.varint
 if r.2.2=0 then
  if r.2.1.left<(r.1:Int)then([],c,4)
  else if (if wire=3 then c.tx else 65536)<(r.1:Int)then([],c,3)
  else((r.2.1.d.drop r.2.1.a.toNat).take r.1,r.2.1.ahead r.1,0)
 else([],c,r.2.2)
end Go.Proofs.YtaiflhahcglpgaaGreatDoor.Up

namespace Go.Proofs.YtaiflhahcglpgaaGreatDoor.Br
open Go Am Up

theorem R5 {M k:Nat}{cs:List AV}(h:QY Tryz.prog M k 155 cs):∃f:R,((Lit.int .i64 f.num).wf=true∧(Lit.int .i64 f.wire).wf=true∧(Lit.int .u64 (f.bits:Int)).wf=true∧f.data.length≤M)∧.agg cs=f.av:=by
 obtain⟨k,h⟩:=Xx Tryz.underlying155 h;simp only[QY.HasL]at h;obtain⟨_,_,rfl,h0,_,_,rfl,h1,_,_,rfl,h2,_,_,rfl,h3,rfl⟩:=h;obtain⟨a0,rfl,w0⟩:=XN Tryz.underlying3 h0;obtain⟨a1,rfl,w1⟩:=XN Tryz.underlying3 h1;obtain⟨a2,rfl,w2⟩:=XN Tryz.underlying63 h2;obtain⟨a3,rfl,w3⟩:=XO Tryz.underlying9 h3;have hn:0≤a2:=B8 w2;obtain⟨n,rfl⟩:=Int.eq_ofNat_of_zero_le hn;exact⟨⟨a0,a1,n,a3⟩,⟨w0,w1,w2,w3⟩,rfl⟩

end Go.Proofs.YtaiflhahcglpgaaGreatDoor.Br

set_option linter.unusedSimpArgs false
namespace Go.Proofs.YtaiflhahcglpgaaGreatDoor.Br
open Go Am Up

inductive V where
 |mk (k:Int) (b:Nat) (t:List UInt8) (l:List V) (p:List (V×V)) (s:List (Int×V)) (r:List R)
 deriving Inhabited

mutual
def V.cells:V→List AV
 |.mk k b t l p s r=>[.int .i64 k,.int .u64 (b:Nat),.str t,.list (V.cl l),.list (V.cp p),.list (V.cs s),.list (r.map R.av)]
def V.cl:List V→List AV
 | []=>[]
 |x :: l=>.agg x.cells :: V.cl l
def V.cp:List (V×V)→List AV
 | []=>[]
 |(a,b) :: l=>.agg (a.cells++b.cells) :: V.cp l
def V.cs:List (Int×V)→List AV
 | []=>[]
 |(n,a) :: l=>.agg (.int .i64 n :: a.cells) :: V.cs l
end

def V.kd:V→Int|.mk k _ _ _ _ _ _=>k
def V.bits:V→Nat|.mk _ b _ _ _ _ _=>b
def V.text:V→List UInt8|.mk _ _ t _ _ _ _=>t
def V.list:V→List V|.mk _ _ _ l _ _ _=>l
def V.pairs:V→List (V×V)|.mk _ _ _ _ p _ _=>p
def V.slots:V→List (Int×V)|.mk _ _ _ _ _ s _=>s
def V.raws:V→List R|.mk _ _ _ _ _ _ r=>r

def V.av (v:V):AV:=.agg v.cells
def V.pav (p:V×V):AV:=.agg (p.1.cells++p.2.cells)
def V.sav (s:Int×V):AV:=.agg (.int .i64 s.1 :: s.2.cells)

theorem V.cl_eq:∀l:List V,V.cl l=l.map V.av
 | []=>rfl
 |x :: l=>by rw[V.cl,V.cl_eq l];rfl
theorem V.cp_eq:∀l:List (V×V),V.cp l=l.map V.pav
 | []=>rfl
 |(a,b) :: l=>by rw[V.cp,V.cp_eq l];rfl
theorem V.cs_eq:∀l:List (Int×V),V.cs l=l.map V.sav
 | []=>rfl
 |(n,a) :: l=>by rw[V.cs,V.cs_eq l];rfl

theorem V.eta:∀v:V,v.cells=[.int .i64 v.kd,.int .u64 (v.bits:Nat),.str v.text,.list (v.list.map V.av),.list (v.pairs.map V.pav),.list (v.slots.map V.sav),.list (v.raws.map R.av)]
 |.mk k b t l p s r=>by rw[V.cells,V.cl_eq,V.cp_eq,V.cs_eq];rfl

theorem V.ind {P:V→Prop}(h:∀v:V,(∀x∈v.list,P x)→(∀x∈v.pairs,P x.1∧P x.2)→(∀x∈v.slots,P x.2)→P v)(v:V):P v :=
 V.rec (motive_1:=P) (motive_2:=fun l=>∀x∈l,P x) (motive_3:=fun p=>∀x∈p,P x.1∧P x.2) (motive_4:=fun s=>∀x∈s,P x.2) (motive_5:=fun q=>P q.1∧P q.2) (motive_6:=fun q=>P q.2)
  (fun k b t l p s r hl hp hs=>h (.mk k b t l p s r) hl hp hs)
  (by simp) (fun a l ha hl=>by simpa using ⟨ha,hl⟩)
  (by simp) (fun a l ha hl=>by simp only[QAj,forall_eq_or_imp];exact⟨ha,hl⟩)
  (by simp) (fun a l ha hl=>by simp only[QAj,forall_eq_or_imp];exact⟨ha,hl⟩)
  (fun a b ha hb=>⟨ha,hb⟩) (fun n a ha=>ha) v

structure _root_.Go.Proofs.YtaiflhahcglpgaaGreatDoor.Up.R.ok (M:Nat)(f:R):Prop where
 num:(Lit.int .i64 f.num).wf=true
 wire:(Lit.int .i64 f.wire).wf=true
 bits:(Lit.int .u64 (f.bits:Int)).wf=true
 data:f.data.length≤M

inductive V.ok (M:Nat):V→Prop
 |mk {v:V} (kd:(Lit.int .i64 v.kd).wf=true) (bits:(Lit.int .u64 (v.bits:Int)).wf=true) (text:v.text.length≤M) (nl:v.list.length≤1099511627776) (np:v.pairs.length≤549755813888) (ns:v.slots.length≤1099511627776) (nr:v.raws.length≤70368744177664)
   (list:∀x∈v.list,V.ok M x) (keys:∀x∈v.pairs,V.ok M x.1) (vals:∀x∈v.pairs,V.ok M x.2) (nums:∀x∈v.slots,(Lit.int .i64 x.1).wf=true) (slots:∀x∈v.slots,V.ok M x.2) (raws:∀x∈v.raws,x.ok M):V.ok M v

section
variable {M:Nat}{v:V}(h:v.ok M)
include h
theorem V.ok.kd:(Lit.int .i64 v.kd).wf=true:=by cases h;assumption
theorem V.ok.bits:(Lit.int .u64 (v.bits:Int)).wf=true:=by cases h;assumption
theorem V.ok.text:v.text.length≤M:=by cases h;assumption
theorem V.ok.nl:v.list.length≤1099511627776:=by cases h;assumption
theorem V.ok.np:v.pairs.length≤549755813888:=by cases h;assumption
theorem V.ok.ns:v.slots.length≤1099511627776:=by cases h;assumption
theorem V.ok.nr:v.raws.length≤70368744177664:=by cases h;assumption
theorem V.ok.list:∀x∈v.list,x.ok M:=by cases h;assumption
theorem V.ok.keys:∀x∈v.pairs,x.1.ok M:=by cases h;assumption
theorem V.ok.vals:∀x∈v.pairs,x.2.ok M:=by cases h;assumption
theorem V.ok.nums:∀x∈v.slots,(Lit.int .i64 x.1).wf=true:=by cases h;assumption
theorem V.ok.slots:∀x∈v.slots,x.2.ok M:=by cases h;assumption
theorem V.ok.raws:∀x∈v.raws,x.ok M:=by cases h;assumption
end

theorem V.cells_length (v:V):v.cells.length=7:=by rw[V.eta];rfl

theorem KC {c:List AV}(h:2≤c.length):Xw c=.agg c:=by
 match c,h with
 |_ :: _ :: _,_=>rfl

theorem MT {M:Nat}(hM:M=reachBytes∨M≤1048576):∀ {k:Nat} {cs:List AV},QY Tryz.prog M k 69 cs→∃v:V,v.ok M∧cs=v.cells:=by
 intro k
 induction k using Nat.strongRecOn with
 |ind k ih=>
 intro cs h;cases k with
 |zero=>cases h
 |succ k=>
 simp only[QY,Tryz.underlying69,QY.HasL]at h;obtain⟨_,_,rfl,h0,_,_,rfl,h1,_,_,rfl,h2,_,_,rfl,h3,_,_,rfl,h4,_,_,rfl,h5,_,_,rfl,h6,rfl⟩:=h;obtain⟨a0,rfl,w0⟩:=XN Tryz.underlying3 h0;obtain⟨a1,rfl,w1⟩:=XN Tryz.underlying63 h1;obtain⟨a2,rfl,w2⟩:=XO Tryz.underlying9 h2;have hb:0≤a1:=B8 w1;obtain⟨b,rfl⟩:=Int.eq_ofNat_of_zero_le hb;have sl:∀ {k0:Nat} {t e:TypeId} {cs:List AV},k0≤k→Tryz.prog.underlying t=some (.slice e)→QY Tryz.prog M k0 t cs→∃(k':Nat) (l:List (List AV)),k'<k∧cs=[.list (l.map Xw)]∧(l.length≤M∧(M=reachBytes→l.length*Tryz.prog.bytesOf e≤M))∧∀c∈l,QY Tryz.prog M k' e c:=by
  intro k0 t e cs hk hu h;cases k0 with
  |zero=>cases h
  |succ k0=>
   simp only[QY,hu]at h;obtain⟨l,h1,h4,h3,h2⟩:=h;exact⟨k0,l,by omega,h1,⟨h2,h4.2⟩,h3⟩
 have nb:∀ {n b:Nat} (c:Nat),(n≤M∧(M=reachBytes→n*b≤M))→1048576≤c→(n*b≤140737488351232→n≤c)→n≤c:=fun c h1 h2 h3=>by
  rcases hM with e|e
  ·refine h3 (Qzd (h1.2 e) ?_);rw[e];exact Qzc _
  ·exact Qzd h1.1 (Qzd e h2)
 have y1:Tryz.prog.bytesOf 69=128:=by decide +kernel
 have y2:Tryz.prog.bytesOf 193=256:=by decide +kernel
 have y3:Tryz.prog.bytesOf 152=136:=by decide +kernel
 have y4:Tryz.prog.bytesOf 155=40:=by decide +kernel
 obtain⟨k3,l3,b3,rfl,w3,hl3⟩:=sl (Qzc _) Tryz.underlying64 h3;obtain⟨k4,l4,b4,rfl,w4,hl4⟩:=sl (Qzc _) Tryz.underlying65 h4;obtain⟨k5,l5,b5,rfl,w5,hl5⟩:=sl (Qzc _) Tryz.underlying66 h5;obtain⟨k6,l6,b6,rfl,w6,hl6⟩:=sl (Qzc _) Tryz.underlying67 h6;obtain⟨vs,rfl,hvs⟩:=Q9 (f:=V.cells) (ok:=V.ok M) fun c hc=>ih k3 (by omega) (hl3 c hc)
 obtain⟨ps,rfl,hps⟩:=Q9 (l:=l4) (f:=fun p:V×V=>p.1.cells++p.2.cells) (ok:=fun p=>p.1.ok M∧p.2.ok M) fun c hc=>by
  have h:=hl4 c hc;cases k4 with
  |zero=>cases h
  |succ k4=>
  simp only[QY,Tryz.underlying193,QY.HasL]at h;obtain⟨a,_,rfl,h0,b,_,rfl,h1,rfl⟩:=h;obtain⟨x,hx,rfl⟩:=ih k4 (by omega) h0;obtain⟨y,hy,rfl⟩:=ih k4 (by omega) h1;exact⟨(x,y),⟨hx,hy⟩,by simp⟩
 obtain⟨ss,rfl,hss⟩:=Q9 (l:=l5) (f:=fun s:Int×V=>.int .i64 s.1 :: s.2.cells) (ok:=fun s=>(Lit.int .i64 s.1).wf=true∧s.2.ok M) fun c hc=>by
  have h:=hl5 c hc;cases k5 with
  |zero=>cases h
  |succ k5=>
  simp only[QY,Tryz.underlying152,QY.HasL]at h;obtain⟨_,_,rfl,h0,b,_,rfl,h1,rfl⟩:=h;obtain⟨a0,rfl,w0⟩:=XN Tryz.underlying3 h0;obtain⟨y,hy,rfl⟩:=ih k5 (by omega) h1;exact⟨(a0,y),⟨w0,hy⟩,by simp⟩
 obtain⟨rs,rfl,hrs⟩:=Q9 (l:=l6) (f:=fun r:R=>r.av.cells) (ok:=R.ok M) fun c hc=>by
  obtain⟨f,⟨g1,g2,g3,g4⟩,e⟩:=R5 (hl6 c hc);refine⟨f,⟨g1,g2,g3,g4⟩,?_⟩;rw[←e];rfl
 refine⟨.mk a0 b a2 vs ps ss rs,.mk w0 w1 w2 (by rw[QAo,y1]at w3;exact nb _ w3 (by decide) (by omega)) (by rw[QAo,y2]at w4;exact nb _ w4 (by decide) (by omega)) (by rw[QAo,y3]at w5;exact nb _ w5 (by decide) (by omega)) (by rw[QAo,y4]at w6;exact nb _ w6 (by decide) (by omega)) hvs (fun x hx=>(hps x hx).1) (fun x hx=>(hps x hx).2) (fun x hx=>(hss x hx).1) (fun x hx=>(hss x hx).2) hrs,?_⟩;rw[V.eta];have e3:(vs.map V.cells).map Xw=vs.map V.av:=by
  rw[QAA];exact QAz fun c _=>KC (by rw[V.cells_length];omega)
 have e4:(ps.map (fun p=>p.1.cells++p.2.cells)).map Xw=ps.map V.pav:=by
  rw[QAA];exact QAz fun p _=>KC (by rw[QzM,V.cells_length];omega)
 have e5:(ss.map (fun s=>AV.int .i64 s.1 :: s.2.cells)).map Xw=ss.map V.sav:=by
  rw[QAA];exact QAz fun p _=>KC (by rw[Qzr,V.cells_length];omega)
 have e6:(rs.map (fun r=>r.av.cells)).map Xw=rs.map R.av:=by
  rw[QAA];exact QAz fun r _=>rfl
 rw[e3,e4,e5,e6];rfl

end Go.Proofs.YtaiflhahcglpgaaGreatDoor.Br

namespace Go.Proofs.YtaiflhahcglpgaaGreatDoor.Br
open Go Am

structure SN where
 name:List UInt8
 val:V
def SN.cells (x:SN):List AV:=.str x.name :: x.val.cells
structure SN.ok (M:Nat)(x:SN):Prop where
 name:x.name.length≤M
 val:x.val.ok M

structure SF where
 num:Int
 name:List UInt8
 card:Int
 key:Int
 kind:Int
 tname:List UInt8
 union:List UInt8
 hasd:Bool
 dflt:V
 notes:List SN
def SF.cells (x:SF):List AV:=[.int .i64 x.num,.str x.name,.int .i64 x.card,.int .i64 x.key,.int .i64 x.kind,.str x.tname,.str x.union,.bool x.hasd]++(x.dflt.cells++[.list (x.notes.map fun n=>.agg n.cells)])
structure SF.ok (M:Nat)(x:SF):Prop where
 num:(Lit.int .i64 x.num).wf=true
 name:x.name.length≤M
 card:(Lit.int .i64 x.card).wf=true
 key:(Lit.int .i64 x.key).wf=true
 kind:(Lit.int .i64 x.kind).wf=true
 tname:x.tname.length≤M
 union:x.union.length≤M
 dflt:x.dflt.ok M
 len:x.notes.length≤M
 notes:∀n∈x.notes,n.ok M

structure SM where
 name:List UInt8
 fields:List SF
 free:List PS
 gone:List (List UInt8)
 notes:List SN
def SM.cells (x:SM):List AV:=[.str x.name,.list (x.fields.map fun n=>.agg n.cells),.list (x.free.map fun n=>.agg n.cells),.list (x.gone.map AV.str),.list (x.notes.map fun n=>.agg n.cells)]
structure SM.ok (M:Nat)(x:SM):Prop where
 name:x.name.length≤M
 len1:x.fields.length≤M
 fields:∀n∈x.fields,n.ok M
 len2:x.free.length≤M
 free:∀n∈x.free,n.ok
 len3:x.gone.length≤M
 gone:∀n∈x.gone,n.length≤M
 len4:x.notes.length≤M
 notes:∀n∈x.notes,n.ok M

structure SI where
 name:List UInt8
 num:Int
 notes:List SN
def SI.cells (x:SI):List AV:=[.str x.name,.int .i64 x.num,.list (x.notes.map fun n=>.agg n.cells)]
structure SI.ok (M:Nat)(x:SI):Prop where
 name:x.name.length≤M
 num:(Lit.int .i64 x.num).wf=true
 len:x.notes.length≤M
 notes:∀n∈x.notes,n.ok M

structure SE where
 name:List UInt8
 opn:Bool
 items:List SI
 free:List PS
 notes:List SN
def SE.cells (x:SE):List AV:=[.str x.name,.bool x.opn,.list (x.items.map fun n=>.agg n.cells),.list (x.free.map fun n=>.agg n.cells),.list (x.notes.map fun n=>.agg n.cells)]
structure SE.ok (M:Nat)(x:SE):Prop where
 name:x.name.length≤M
 len1:x.items.length≤M
 items:∀n∈x.items,n.ok M
 len2:x.free.length≤M
 free:∀n∈x.free,n.ok
 len3:x.notes.length≤M
 notes:∀n∈x.notes,n.ok M

structure SO where
 name:List UInt8
 inn:List UInt8
 out:List UInt8
 shape:Int
 notes:List SN
def SO.cells (x:SO):List AV:=[.str x.name,.str x.inn,.str x.out,.int .i64 x.shape,.list (x.notes.map fun n=>.agg n.cells)]
structure SO.ok (M:Nat)(x:SO):Prop where
 name:x.name.length≤M
 inn:x.inn.length≤M
 out:x.out.length≤M
 shape:(Lit.int .i64 x.shape).wf=true
 len:x.notes.length≤M
 notes:∀n∈x.notes,n.ok M

structure SQ where
 name:List UInt8
 meths:List SO
 notes:List SN
def SQ.cells (x:SQ):List AV:=[.str x.name,.list (x.meths.map fun n=>.agg n.cells),.list (x.notes.map fun n=>.agg n.cells)]
structure SQ.ok (M:Nat)(x:SQ):Prop where
 name:x.name.length≤M
 len1:x.meths.length≤M
 meths:∀n∈x.meths,n.ok M
 len2:x.notes.length≤M
 notes:∀n∈x.notes,n.ok M

structure SC where
 msgs:List SM
 enums:List SE
 servs:List SQ
def SC.av (x:SC):AV:=.agg [.list (x.msgs.map fun n=>.agg n.cells),.list (x.enums.map fun n=>.agg n.cells),.list (x.servs.map fun n=>.agg n.cells)]
structure SC.ok (M:Nat)(x:SC):Prop where
 len1:x.msgs.length≤M
 msgs:∀n∈x.msgs,n.ok M
 len2:x.enums.length≤M
 enums:∀n∈x.enums,n.ok M
 len3:x.servs.length≤M
 servs:∀n∈x.servs,n.ok M

end Go.Proofs.YtaiflhahcglpgaaGreatDoor.Br

namespace Go.Proofs.YtaiflhahcglpgaaGreatDoor.Am
open Go

variable {P:Program}{f:Fr}{m:Qo}{ds:List DF}{Qd:List Item}{d:Nat}

def Hg:List Nat→RC→RC
 | [],a=>a
 |s :: l,a=>.gho (.drop s) (Hg l a)
def Wq:List Nat→AV→AV
 | [],x=>x
 |s :: l,x=>Wq l (x.scrub s)
def JU:List Nat→Ob→Ob
 | [],x=>x
 |s :: l,x=>JU l (x.scrub s)

theorem F6 (l:List Nat):JU l .none=.none:=by
 induction l with
 |nil=>rfl
 |cons s l ih=>exact ih

theorem QJ {Q:Exit→St→Prop}{a:RC}(l:List Nat):∀ {f:Fr} {fr:Nat→Ob},(∀s∈l,(fr s).isRow=false)→
  (∀f' fr',(∀i,f' i=Wq l (f i))→(∀i,i∉l→fr' i=JU l (fr i))→(∀i∈l,fr' i=.none)→QE P a ⟨f',fr' :: m,[]⟩ Q)→QE P (Hg l a) ⟨f,fr :: m,[]⟩ Q:=by
 induction l with
 |nil=>intro f fr _ h;exact h f fr (fun _=>rfl) (fun _ _=>rfl) (fun _ h=>by cases h)
 |cons s l ih=>
  intro f fr hr h;show QE P (.gho (.drop s) (Hg l a)) _ _;rw[BU];refine⟨hr s (by simp),?_⟩;show QE P (Hg l a) ⟨_,_ :: m,[]⟩ Q;refine ih ?_ ?_
  ·intro t ht;by_cases e:t=s
   ·subst e;rw[QM];rfl
   ·rw[QP _ _ e,WT];exact hr t (by simp[ht])
  ·intro f' fr' h1 h2 h3;refine h f' fr' h1 ?_ ?_
   ·intro i hi;rw[h2 i (fun h=>hi (Qzs _ h)),QP _ _ (fun e=>hi (by rw[e];exact Qzu))];rfl
   ·intro i hi;by_cases hl:i∈l
    ·exact h3 i hl
    ·have e:i=s:=by
      rcases QAj.1 hi with e|e
      ·exact e
      ·exact absurd e hl
     rw[h2 i hl,e,QM,F6]

def Yc:Ob→Nat
 |.vec g _ _=>g+1
 |_=>1

theorem Nb {fr:Nat→Ob}{s:Nat}:QX (fr :: m) 0 s=Yc (fr s):=by
 unfold QX Yc;rfl

theorem F7 {K:St→Prop}{neg:Bool}{r:RA}{ys:List AV}(hr:r.ev f=.list ys)(h0:Ql P Qd ⟨Qw f d (.bool neg),m,ds⟩ K)(h1:ys=[]∨QI ys=[]→Ql P Qd ⟨Qw f d (.bool (!neg)),m,ds⟩ K):Ql P (⟨some d,.isnil neg r,none⟩ :: Qd) ⟨f,m,ds⟩ K:=by
 refine⟨ys,?_,fun _=>h0,fun e=>h1 ?_⟩
 ·show XD m (r.ev f)=some ys;rw[hr];rfl
 ·rcases e with e|e
  ·have e:r.ev f=.nils:=e;rw[hr]at e;cases e
  ·exact .inr e

theorem Eg {K:St→Prop}{sz:Nat}:Ql P (⟨some d,.lit0 sz,none⟩ :: Qd) ⟨f,m,ds⟩ K=Ql P Qd ⟨Qw f d (.lcap []),m,ds⟩ K:=id rfl
theorem Nc {K:St→Prop}{sz bytes el:Nat}{s r:RA}{xs ys:List AV}(hs:s.ev f=.lcap xs)(hr:r.ev f=.list ys)(hx:xs.all (fun e=>e.cells.length==sz)=true)(hy:ys.all (fun e=>e.cells.length==sz)=true)(hm:xs.length+ys.length≤maxLen)(hb:(xs.length+ys.length)*bytes≤140737488355328)
  (h:Ql P Qd ⟨Qw f d (.list (xs++ys)),m,ds⟩ K):Ql P (⟨some d,.appe sz bytes el s r,none⟩ :: Qd) ⟨f,m,ds⟩ K:=⟨xs,ys,hs,hr,hx,hy,hm,hb,h⟩
theorem Nd {K:St→Prop}{site sz:Nat}{fr:Nat→Ob}(hs:Qy (fr site)=true)
  (h:Ql P Qd ⟨Qw f d (.vec 0 site (Yc (fr site)) 0 0 false),Qw fr site (.vec (Yc (fr site)) sz []) :: m,ds⟩ K):Ql P (⟨some d,.bsl0 site sz,none⟩ :: Qd) ⟨f,fr :: m,ds⟩ K :=
 ⟨hs,h⟩

theorem HW {Q:Exit→St→Prop}{a:RC}{s idx site g sz n:Nat}{fr:Nat→Ob}{xs cs:List AV}(h0:fr s=.cells cs)(h1:cs[idx]? = some (.vec 0 site g 0 n false))(h2:fr site=.vec g sz xs)(hn:n≤xs.length)
  (h:QE P a ⟨f,Qw (Qw fr site (.vec (g+1) sz [])) s (.cells (cs.set idx (.list (xs.take n)))) :: m,ds⟩ Q):QE P (.gho (.pubc s idx site) a) ⟨f,fr :: m,ds⟩ Q:=by
 refine⟨_,?_,h⟩;have e:Qf (fr :: m) 0 site=.vec g sz xs:=h2;have e0:Qf (fr :: m) 0 s=.cells cs:=h0;simp only[ZT,e0,h1,e];rw[show Nat.beq site site=true from Nat.beq_refl site,show Nat.beq g g=true from Nat.beq_refl g,show Nat.ble (0+n) xs.length=true from Nat.ble_eq_true_of_le (by omega)];rfl

theorem Zy {K:St→Prop}{k:Nat}{r:RA}{args:List RA}{fa fb ys:List AV}{v:AV}{m':Qo}(hr:r.ev f=.fn (.func k) fa fb)(hk:Qq P k ys m fun x m1=>x=v∧m1=m')(hy:fa++args.map (RA.ev f)++fb=ys)(h:Ql P Qd ⟨Qw f d v,m',ds⟩ K) :
  Ql P (⟨some d,.callF r args,none⟩ :: Qd) ⟨f,m,ds⟩ K:=by
 refine⟨k,fa,fb,v,m',hr,?_,h⟩;show Qq P k (fa++args.map (RA.ev f)++fb) m fun x m1=>x=v∧m1=m'
 rw[hy];exact hk

theorem JV {K:St→Prop}{k:Nat}{r:RA}{args:List RA}{fa fb ys:List AV}{v:AV}(hr:r.ev f=.fn (.func k) fa fb)(hk:Qu P k ys v)(hy:AV.stillL false m (fa++args.map (RA.ev f)++fb)=some ys)(h1:AV.rfL ys=true)(h2:v.rf=true)
  (h3:AV.rfL (fa++args.map (RA.ev f)++fb)=true∨v.nl=true) (h:Ql P Qd ⟨Qw f d v,m,ds⟩ K):Ql P (⟨some d,.call r args,none⟩ :: Qd) ⟨f,m,ds⟩ K :=
 ⟨k,fa,fb,ys,v,hr,hy,h1,hk,h2,h3,h⟩

end Go.Proofs.YtaiflhahcglpgaaGreatDoor.Am

namespace Go.Proofs.YtaiflhahcglpgaaGreatDoor.Am
open Go

abbrev HX:=FuncId→Option (RC×List RR×Nat)

def YI (P:Program)(T:HX):Prop :=
 ∀k c rs N, T k=some (c, rs, N)→∃fn body, P.funcs[k]? = some fn∧fn.body=some body∧(fn.name == "runtime.NumGoroutine")=false∧fn.ntmps=N∧XR P N c body=true∧ZW P fn.results.toList rs=true

abbrev J3:=FuncId→List AV→Qo→Option (AV×Qo)

def YJ:Ob→Ob→Bool
 |.cells [.vec l s g o n q],.cells [.vec l' s' g' o' n' q']=>Nat.beq l l'&&Nat.beq s s'&&Nat.beq g g'&&Nat.beq o o'&&Nat.beq n n'&&q==q'
 |_,_=>false
theorem Nf:∀ {a b:Ob},YJ a b=true→a=b:=by
 intro a b h;unfold YJ at h;split at h
 ·simp only[Qzz,QzA]at h;obtain⟨⟨⟨⟨⟨h1,h2⟩,h3⟩,h4⟩,h5⟩,h6⟩:=h;rw[Qza h1,Qza h2,Qza h3,Qza h4,Qza h5,h6]
 ·cases h

def X3 (call:J3)(d:Option Nat)(op:RO)(st:St):Option St :=
 match op with
 |.val vo=>match QB st.f st.m vo with
  |some x=>some { st with f:=Qj st.f d x }
  |none=>none
 |.allocN s z=>bif Xs st.m s then some { st with m:=Am.put st.m 0 s (.cells z),f:=Qj st.f d (.ptr 0 s 0) } else none
 |.boxN s r=>bif Xs st.m s&&(r.ev st.f).cells.all AV.leaf then some { st with m:=Am.put st.m 0 s (.cells (r.ev st.f).cells),f:=Qj st.f d (.ptr 0 s 0) } else none
 |.store n p r=>bif Nat.beq (r.ev st.f).cells.length n&&(r.ev st.f).cells.all AV.leaf then match Q1 st.m (p.ev st.f) (r.ev st.f).cells with
   |some m'=>some { st with m:=m',f:=Qj st.f d (.tup []) }
   |none=>none
  else none
 |.storev l s n p r=>match p.ev st.f with
  |.ptr l' s' _=>bif Nat.beq l' l&&Nat.beq s' s&&Nat.beq (r.ev st.f).cells.length n&&(r.ev st.f).cells.all AV.leaf then match Q1 st.m (p.ev st.f) (r.ev st.f).cells with
    |some m'=>some { st with m:=m',f:=Qj st.f d (.tup []) }
    |none=>none
   else none
  |_=>none
 |.app sz bytes el s r=>match s.ev st.f with
  |.vec l site g 0 n false=>match Qf st.m l site with
   |.vec g' sz' xs=>match XD st.m (r.ev st.f)with
    |some ys=>bif Nat.beq g' g&&Nat.beq sz' sz&&X1 site el&&Nat.ble n xs.length&&ys.all (fun e=>e.cells.length==sz)&&Nat.ble (n+ys.length) maxLen&&Nat.ble ((n+ys.length)*bytes) 140737488355328 then
      some { st with m:=Am.put st.m l site (.vec (g+1) sz (xs.take n++ys)),f:=Qj st.f d (.vec l site (g+1) 0 (n+ys.length) false) }
     else none
    |none=>none
   |_=>none
  |_=>none
 |.call f args=>match f.ev st.f with
  |.fn (.func k) fa fb=>match AV.stillL false st.m (fa++args.map (RA.ev st.f)++fb)with
   |some ys=>bif AV.rfL ys then match call k ys []with
     |some (v,_)=>bif v.rf&&(AV.rfL (fa++args.map (RA.ev st.f)++fb)||v.nl)then some { st with f:=Qj st.f d v } else none
     |none=>none
    else none
   |none=>none
  |_=>none
 |.callF f args=>match f.ev st.f with
  |.fn (.func k) fa fb=>match call k (fa++args.map (RA.ev st.f)++fb) st.m with
   |some (v,m')=>some { st with m:=m',f:=Qj st.f d v }
   |none=>none
  |_=>none
 |.bsl sz len z ps=>match fill st.f ps (ZI z sz len)with
  |some y=>bif AV.rfL y&&y.all AV.leaf then some { st with f:=Qj st.f d (.list (ZH sz len (y.map nn0))) } else none
  |none=>none
 |.lit0 _=>some { st with f:=Qj st.f d (.lcap []) }
 |.appe sz bytes _ s r=>match s.ev st.f,r.ev st.f with
  |.lcap xs,.list ys=>bif xs.all (fun e=>e.cells.length==sz)&&ys.all (fun e=>e.cells.length==sz)&&Nat.ble (xs.length+ys.length) maxLen&&Nat.ble ((xs.length+ys.length)*bytes) 140737488355328 then some { st with f:=Qj st.f d (.list (xs++ys)) } else none
  |_,_=>none
 |.bsl0 site sz=>bif Qy (Qf st.m 0 site)then some { st with m:=Am.put st.m 0 site (.vec (QX st.m 0 site) sz []),f:=Qj st.f d (.vec 0 site (QX st.m 0 site) 0 0 false) } else none
 |.isnil neg r=>match r.ev st.f with
  |.nils=>some { st with f:=Qj st.f d (.bool (!neg)) }
  |.list l=>match QI l with
   |_ :: _=>some { st with f:=Qj st.f d (.bool neg) }
   | []=>none
  |_=>none
 |.callK l s f args=>match f.ev st.f with
  |.fn (.func k) fa fb=>match call k (fa++args.map (RA.ev st.f)++fb) st.m with
   |some (v,m')=>bif YJ (Qf m' l s) (Qf st.m l s)then some { st with m:=m',f:=Qj st.f d v } else none
   |none=>none
  |_=>none
 |.xb cnt _ s c=>match s.ev st.f,c.ev st.f with
  |.str t,.int .u8 b=>some { st with f:=Qj st.f d (.int .i64 (Yx cnt t b)) }
  |_,_=>none
 |.rngs s r=>match r.ev st.f with
  |.str t=>bif Xs st.m s then some { st with m:=Am.put st.m 0 s (.iter (.str t) 0),f:=Qj st.f d (.ptr 0 s 0) } else none
  |_=>none
 |.nxts r=>match r.ev st.f with
  |.ptr l s 0=>match Qf st.m l s with
   |.iter (.str t) p=>bif Nat.blt p t.length then some { st with m:=Am.put st.m l s (.iter (.str t) (p+(Xc t p).2)),f:=Qj st.f d (.tup [.bool true,.int .i64 (p:Nat),.int .i32 ((Xc t p).1:Nat)]) } else some { st with f:=Qj st.f d (.tup [.bool false]) }
   |_=>none
  |_=>none
 |.mkm s=>bif Xs st.m s then some { st with m:=Am.put st.m 0 s (.iter (.mp [] []) 0),f:=Qj st.f d (.mptr 0 s) } else none
 |.mput x i v=>match x.ev st.f with
  |.mptr l s=>match Qf st.m l s with
   |.iter (.mp ks vs) p=>match i.ev st.f with
    |.str k=>bif (v.ev st.f).gr&&AV.grL vs&&Nat.beq ks.length vs.length then some { st with m:=Am.put st.m l s (.iter (.mp (Xv k (v.ev st.f) ks vs).1 (Xv k (v.ev st.f) ks vs).2) p),f:=Qj st.f d (.tup []) } else none
    |_=>none
   |_=>none
  |_=>none
 |.mk site _ sz bytes z l c=>match l.ev st.f,c.ev st.f with
  |.int _ (.ofNat n),.int _ (.ofNat k)=>bif Nat.ble n k&&Nat.ble k 9223372036854775807&&Nat.ble (bytes*k) 281474976710656&&Qy (Qf st.m 0 site)then
    some { st with m:=Am.put st.m 0 site (.vec (QX st.m 0 site) sz (List.replicate n (Jq sz z))),f:=Qj st.f d (.vec 0 site (QX st.m 0 site) 0 n false) }
   else none
  |_,_=>none
where
  isBytes:List AV→List UInt8→Bool
  | [],[]=>true
  |.int .u8 (.ofNat n) :: l,b :: t=>Nat.beq n b.toNat&&isBytes l t
  |_,_=>false

def HY (call:J3)(it:Item)(st:St):Option St :=
 match it.g with
 |none=>X3 call it.dst it.op st
 |some (j,want)=>match st.f j with
  |.bool b=>bif b==want then X3 call it.dst it.op st else some { st with f:=Qj st.f it.dst (.tup []) }
  |.tup []=>some { st with f:=Qj st.f it.dst (.tup []) }
  |_=>none

def YK (call:J3):List Item→St→Option St
 | [],st=>some st
 |it :: Qd,st=>match HY call it st with
  |some st'=>YK call Qd st'
  |none=>none

def YL (rs:List RR)(n:Nat)(r:Option (Exit×St)):Option (AV×Qo) :=
 match r with
 |some (.normal,st)=>fin st
 |some (.ret,st)=>fin st
 |_=>none
where
 fin (st:St):Option (AV×Qo):=match st.ds with
  | []=>match J2 st rs with
   |some x=>match Kk st.m x with
    |some y=>match st.m with
     |_ :: m=>bif Nat.beq m.length n then some (y,m)else none
     | []=>none
    |none=>none
   |none=>none
  |_=>none

def JI (Xz:J3)(T:HX)(body:RC→St→Option (Exit×St)):J3:=fun k args m=>
 match Xz k args m with
 |some r=>some r
 |none=>match T k with
  |some (c,rs,N)=>bif Nat.ble args.length N then YL rs m.length (body c (St.enter args m))else none
  |none=>none

def Zs (Xz:J3)(T:HX):Nat→RC→St→Option (Exit×St)
 |0,_,_=>none
 |n+1,c,st=>match c with
  |.skip=>some (.normal,st)
  |.reg Qd=>match YK (JI Xz T (Zs Xz T n)) Qd st with
   |some st'=>some (.normal,st')
   |none=>none
  |.draw Qd=>match YK (JI Xz T (Zs Xz T n)) Qd st with
   |some st'=>some (.normal,st')
   |none=>none
  |.seq a b=>match Zs Xz T n a st with
   |some (.normal,st')=>Zs Xz T n b st'
   |r=>r
  |.cond c a b=>match c.ev st.f with
   |.bool t=>bif t then Zs Xz T n a st else Zs Xz T n b st
   |_=>none
  |.block id a=>match Zs Xz T n a st with
   |some (.exit i,st')=>if i=id then some (.normal,st')else some (.exit i,st')
   |r=>r
  |.loop a=>match Zs Xz T n a st with
   |some (.normal,st')=>Zs Xz T n (.loop a) st'
   |r=>r
  |.exit id=>some (.exit id,st)
  |.scope a=>match Zs Xz T n a st with
   |some (.goto _,_)=>none
   |r=>r
  |.lab=>some (.normal,st)
  |.ret=>some (.ret,st)
  |.gho g a=>match ZT g st with
   |some st'=>Zs Xz T n a st'
   |none=>none
  |.no=>none

section
variable {P:Program}{T:HX}

def Kn (P:Program)(call:J3):Prop:=∀k args m v m',call k args m=some (v,m')→Qq P k args m fun x m1=>x=v∧m1=m'

theorem DI {call:J3}(hc:Kn P call){d:Option Nat}{op:RO}{st st':St}(h:X3 call d op st=some st'){K:St→Prop}(hK:K st'):K9 P d op st K:=by
 cases op with
 |val vo=>
  simp only[X3]at h;split at h
  ·rename_i x hx;cases h;exact⟨x,hx,hK⟩
  ·cases h
 |allocN s z=>
  simp only[X3]at h;cases h1:Xs st.m s<;>rw[h1]at h<;>simp only[cond_true,cond_false,reduceCtorEq,QzD]at h;subst h;exact⟨h1,hK⟩
 |boxN s r=>
  simp only[X3]at h;cases h1:(Xs st.m s&&(r.ev st.f).cells.all AV.leaf)<;>rw[h1]at h<;>simp only[cond_true,cond_false,reduceCtorEq,QzD]at h;rw[Qzz]at h1;subst h;exact⟨h1.1,h1.2,hK⟩
 |store n p r=>
  simp only[X3]at h;cases h1:(Nat.beq (r.ev st.f).cells.length n&&(r.ev st.f).cells.all AV.leaf)<;>rw[h1]at h<;>simp only[cond_true,cond_false,reduceCtorEq]at h;rw[Qzz]at h1;split at h
  ·rename_i m' hm;cases h;exact⟨Qza h1.1,h1.2,m',hm,hK⟩
  ·cases h
 |storev l s n p r=>
  simp only[X3]at h;split at h
  ·rename_i l' s' o hp;cases h1:(Nat.beq l' l&&Nat.beq s' s&&Nat.beq (r.ev st.f).cells.length n&&(r.ev st.f).cells.all AV.leaf)<;>rw[h1]at h<;>simp only[cond_true,cond_false,reduceCtorEq]at h;simp only[Qzz]at h1;obtain⟨⟨⟨a1,a2⟩,a3⟩,a4⟩:=h1;have e1:=Qza a1;have e2:=Qza a2;subst e1 e2;split at h
   ·rename_i m' hm;cases h;exact⟨⟨o,hp⟩,Qza a3,a4,m',hm,hK⟩
   ·cases h
  ·cases h
 |app sz bytes el s r=>
  simp only[X3]at h;split at h
  ·rename_i l site g n hs;split at h
   ·rename_i g' sz' xs hl;split at h
    ·rename_i ys hy;cases h1:(Nat.beq g' g&&Nat.beq sz' sz&&X1 site el&&Nat.ble n xs.length&&ys.all (fun e=>e.cells.length==sz)&&Nat.ble (n+ys.length) maxLen&&Nat.ble ((n+ys.length)*bytes) 140737488355328)<;>rw[h1]at h<;>simp only[cond_true,cond_false,reduceCtorEq,QzD]at h;simp only[Qzz]at h1;obtain⟨⟨⟨⟨⟨⟨a1,a2⟩,a3⟩,a4⟩,a5⟩,a6⟩,a7⟩:=h1;have e1:=Qza a1;have e2:=Qza a2;subst e1 e2 h;exact⟨l,site,_,n,xs,ys,hs,hl,a3,QAr a4,hy,a5,QAr a6,QAr a7,hK⟩
    ·cases h
   ·cases h
  ·cases h
 |call f args=>
  simp only[X3]at h;split at h
  ·rename_i k fa fb hf;split at h
   ·rename_i ys hy;cases h1:AV.rfL ys<;>rw[h1]at h<;>simp only[cond_true,cond_false,reduceCtorEq]at h;split at h
    ·rename_i v m' hv;cases h2:(v.rf&&(AV.rfL (fa++args.map (RA.ev st.f)++fb)||v.nl))<;>rw[h2]at h<;>simp only[cond_true,cond_false,reduceCtorEq,QzD]at h;rw[Qzz,Qz1]at h2;subst h;exact⟨k,fa,fb,ys,v,hf,hy,h1,(hc _ _ _ _ _ hv).mono (fun _ _ e=>e.1),h2.1,h2.2,hK⟩
    ·cases h
   ·cases h
  ·cases h
 |callF f args=>
  simp only[X3]at h;split at h
  ·rename_i k fa fb hf;split at h
   ·rename_i v m' hv;cases h;exact⟨k,fa,fb,v,m',hf,hc _ _ _ _ _ hv,hK⟩
   ·cases h
  ·cases h
 |bsl sz len z ps=>
  simp only[X3]at h;split at h
  ·rename_i y hy;cases h1:(AV.rfL y&&y.all AV.leaf)<;>rw[h1]at h<;>simp only[cond_true,cond_false,reduceCtorEq,QzD]at h;rw[Qzz]at h1;subst h;exact⟨y,hy,h1.1,h1.2,hK⟩
  ·cases h
 |lit0 sz=>
  simp only[X3,QzD]at h;subst h;exact hK
 |appe sz bytes el s r=>
  simp only[X3]at h;split at h
  ·rename_i xs ys hs hy;cases h1:(xs.all (fun e=>e.cells.length==sz)&&ys.all (fun e=>e.cells.length==sz)&&Nat.ble (xs.length+ys.length) maxLen&&Nat.ble ((xs.length+ys.length)*bytes) 140737488355328)<;>rw[h1]at h<;>simp only[cond_true,cond_false,reduceCtorEq,QzD]at h;simp only[Qzz]at h1;obtain⟨⟨⟨a1,a2⟩,a3⟩,a4⟩:=h1;subst h;exact⟨xs,ys,hs,hy,a1,a2,QAr a3,QAr a4,hK⟩
  ·cases h
 |bsl0 site sz=>
  simp only[X3]at h;cases h1:Qy (Qf st.m 0 site)<;>rw[h1]at h<;>simp only[cond_true,cond_false,reduceCtorEq,QzD]at h;subst h;exact⟨h1,hK⟩
 |isnil neg r=>
  simp only[X3]at h;split at h
  ·rename_i hr;cases h;exact⟨[],by rw[hr];rfl,fun e=>absurd hr e,fun _=>hK⟩
  ·rename_i l hr;split at h
   ·rename_i z zs hf;cases h;exact⟨l,by rw[hr];rfl,fun _=>hK,fun e=>by
     rcases e with e|e
     ·rw[hr]at e;cases e
     ·rw[hf]at e;cases e⟩
   ·cases h
  ·cases h
 |callK l s f args=>
  simp only[X3]at h;split at h
  ·rename_i k fa fb hf;split at h
   ·rename_i v m' hv;cases he:YJ (Qf m' l s) (Qf st.m l s)<;>rw[he]at h<;>simp only[cond_true,cond_false,reduceCtorEq,QzD]at h;subst h;exact⟨k,fa,fb,v,m',hf,hc _ _ _ _ _ hv,Nf he,hK⟩
   ·cases h
  ·cases h
 |xb cnt k s c=>
  simp only[X3]at h;split at h
  ·rename_i t b hs hb;cases h;exact⟨t,b,hs,hb,hK⟩
  ·cases h
 |rngs s r=>
  simp only[X3]at h;split at h
  ·rename_i t ht;cases h1:Xs st.m s<;>rw[h1]at h<;>simp only[cond_true,cond_false,reduceCtorEq,QzD]at h;subst h;exact⟨t,ht,h1,hK⟩
  ·cases h
 |mkm s=>
  simp only[X3]at h;cases h1:Xs st.m s<;>rw[h1]at h<;>simp only[cond_true,cond_false,reduceCtorEq,QzD]at h;subst h;exact⟨h1,hK⟩
 |mput x i v=>
  simp only[X3]at h;split at h
  ·rename_i l s hx;split at h
   ·rename_i ks vs p hl;split at h
    ·rename_i k hi;cases h1:((v.ev st.f).gr&&AV.grL vs&&Nat.beq ks.length vs.length)<;>rw[h1]at h<;>simp only[cond_true,cond_false,reduceCtorEq,QzD]at h;subst h;simp only[Qzz]at h1;exact⟨l,s,ks,vs,p,k,hx,hl,hi,h1.1.1,h1.1.2,Qza h1.2,hK⟩
    ·cases h
   ·cases h
  ·cases h
 |nxts r=>
  simp only[X3]at h;split at h
  ·rename_i l s hr;split at h
   ·rename_i t p hl;refine⟨l,s,t,p,hr,hl,fun e=>?_,fun e=>?_⟩
    ·have hb:Nat.blt p t.length=true:=by simp[Nat.blt_eq,e]
     rw[hb]at h;cases h;exact hK
    ·have hb:Nat.blt p t.length=false:=by
      cases hb:Nat.blt p t.length with
      |false=>rfl
      |true=>rw[Nat.blt_eq]at hb;omega
     rw[hb]at h;cases h;exact hK
   ·cases h
  ·cases h
 |mk site el sz bytes z l c=>
  simp only[X3]at h;split at h
  ·rename_i kl n kc k hl hcc;cases h1:(Nat.ble n k&&Nat.ble k 9223372036854775807&&Nat.ble (bytes*k) 281474976710656&&Qy (Qf st.m 0 site))<;>rw[h1]at h<;>simp only[cond_true,cond_false,reduceCtorEq,QzD]at h;simp only[Qzz]at h1;obtain⟨⟨⟨a1,a2⟩,a3⟩,a4⟩:=h1;subst h;exact⟨kl,kc,n,k,hl,hcc,QAr a1,QAr a2,QAr a3,a4,hK⟩
  ·cases h

theorem Ng {call:J3}(hc:Kn P call){it:Item}{st st':St}(h:HY call it st=some st'){K:St→Prop}(hK:K st'):XI P it st K:=by
 obtain⟨d,op,g⟩:=it;cases g with
 |none=>exact DI (d:=d) hc h hK
 |some p=>
  obtain⟨j,want⟩:=p;simp only[HY]at h;simp only[XI];split at h
  ·rename_i b hj;simp only[hj];cases hb:(b==want)with
   |true=>
    rw[hb]at h;have e:b=want:=by simpa using hb
    exact⟨fun _=>DI hc h hK,fun e'=>by rw[e]at e';cases want<;>cases e'⟩
   |false=>
    rw[hb]at h;simp only[cond_false,QzD]at h;subst h;exact⟨fun e=>by rw[e]at hb;simp at hb,fun _=>hK⟩
  ·rename_i hj;cases h;simp only[hj];exact⟨trivial,hK⟩
  ·cases h

theorem Yd {call:J3}(hc:Kn P call):∀ {Qd:List Item} {st st':St},YK call Qd st=some st'→∀ {K:St→Prop},K st'→Ql P Qd st K
 | [],_,_,h,_,hK=>by cases h;exact hK
 |it :: Qd,st,st',h,K,hK=>by
  simp only[YK]at h;split at h
  ·rename_i st1 h1;exact Ng hc h1 (Yd hc h hK)
  ·cases h

theorem C8 {rs:List RR}{n:Nat}{r:Option (Exit×St)}{v:AV}{m':Qo}(h:YL rs n r=some (v,m')):∃e st,r=some (e,st)∧XW rs n (fun x m1=>x=v∧m1=m') e st:=by
 have fin:∀ {e:Exit} {st:St},(e=.normal∨e=.ret)→YL.fin rs n st=some (v,m')→XW rs n (fun x m1=>x=v∧m1=m') e st:=by
  intro e st he h;unfold YL.fin at h;split at h
  ·rename_i hds;split at h
   ·rename_i x hx;split at h
    ·rename_i y hy;split at h
     ·rename_i fr m hm;cases hb:Nat.beq m.length n with
      |false=>rw[hb]at h;cases h
      |true=>
       rw[hb]at h;simp only[cond_true,QzD,Prod.mk.injEq]at h;exact⟨he,hds,x,y,fr,m,hx,hy,hm,Qza hb,h.1,h.2⟩
     ·cases h
    ·cases h
   ·cases h
  ·cases h
 unfold YL at h;split at h
 ·exact⟨_,_,rfl,fin (.inl rfl) h⟩
 ·exact⟨_,_,rfl,fin (.inr rfl) h⟩
 ·cases h

theorem Jc {Xz:J3}(hN:Kn P Xz)(hT:YI P T){body:RC→St→Option (Exit×St)}(hb:∀c st e st',body c st=some (e,st')→∀Q:Exit→St→Prop,Q e st'→QE P c st Q):Kn P (JI Xz T body):=by
 intro k args m v m' h;unfold JI at h;split at h
 ·rename_i r hr;cases h;exact hN _ _ _ _ _ hr
 split at h
 ·rename_i c rs N hk;cases hN:Nat.ble args.length N with
  |false=>rw[hN]at h;cases h
  |true=>
   rw[hN]at h;simp only[cond_true]at h;obtain⟨e,st,h1,h2⟩:=C8 h;obtain⟨fn,cd,a1,a2,a3,a4,a5,a6⟩:=hT k c rs N hk;exact Wa a1 a2 a3 a4 a5 a6 (QAr hN) (hb _ _ _ _ h1 _ h2)
 ·cases h

theorem YM {Xz:J3}(hN:Kn P Xz)(hT:YI P T):∀(n:Nat) (c:RC) (st:St) (e:Exit) (st':St),Zs Xz T n c st=some (e,st')→∀Q:Exit→St→Prop,Q e st'→QE P c st Q:=by
 intro n
 induction n using Nat.strongRecOn with
 |_ n ihs=>
 cases n with
 |zero=>intro c st e st' h;cases h
 |succ n=>
  intro c st e st' h Q hQ;have ih:=ihs n (Nat.lt_succ_self n);cases c with
  |skip=>cases h;exact hQ
  |reg Qd=>
   simp only[Zs]at h;split at h
   ·rename_i st1 h1;cases h;exact Yd (Jc hN hT ih) h1 hQ
   ·cases h
  |draw Qd=>
   simp only[Zs]at h;split at h
   ·rename_i st1 h1;cases h;exact Yd (Jc hN hT ih) h1 hQ
   ·cases h
  |seq a b=>
   simp only[Zs]at h;split at h
   ·rename_i st1 h1;exact ih _ _ _ _ h1 _ (ih _ _ _ _ h Q hQ)
   ·rename_i h1;refine ih _ _ _ _ h _ ?_;cases e with
    |normal=>exact absurd h (h1 st')
    |_=>exact hQ
  |cond c a b=>
   simp only[Zs]at h;split at h
   ·rename_i t ht;cases t with
    |true=>exact⟨true,ht,fun _=>ih _ _ _ _ h Q hQ,(fun e=>by cases e)⟩
    |false=>exact⟨false,ht,(fun e=>by cases e),fun _=>ih _ _ _ _ h Q hQ⟩
   ·cases h
  |block id a=>
   simp only[Zs]at h;split at h
   ·rename_i i st1 h1;refine ih _ _ _ _ h1 _ ?_;show if i=id then Q .normal st1 else Q (.exit i) st1
    split at h
    ·rename_i hi;cases h;rw[Qzk hi];exact hQ
    ·rename_i hi;cases h;rw[Qzj hi];exact hQ
   ·rename_i h1;refine ih _ _ _ _ h _ ?_;cases e with
    |exit i=>exact absurd h (h1 i st')
    |_=>exact hQ
  |loop a=>
   refine⟨fun k s=>k≤n∧Zs Xz T (k+1) (.loop a) s=some (e,st'),n,⟨Qzc _,h⟩,fun k s hh=>?_⟩;obtain⟨hk,hs⟩:=hh;simp only[Zs]at hs;split at hs
   ·rename_i st1 h1;refine ihs k (by omega) _ _ _ _ h1 _ ?_;show ∃j,j<k∧j≤n∧Zs Xz T (j+1) (.loop a) st1=some (e,st');cases k with
    |zero=>cases h1
    |succ j=>exact⟨j,Nat.lt_succ_self j,by omega,hs⟩
   ·rename_i h1;refine ihs k (by omega) _ _ _ _ hs _ ?_;cases e with
    |normal=>exact absurd hs (h1 st')
    |_=>exact hQ
  |exit id=>cases h;exact hQ
  |scope a=>
   simp only[Zs]at h;split at h
   ·cases h
   ·rename_i h1;refine ih _ _ _ _ h _ ?_;cases e with
    |goto i=>exact absurd h (h1 i st')
    |_=>exact hQ
  |lab=>cases h;exact hQ
  |ret=>cases h;exact hQ
  |gho g a=>
   simp only[Zs]at h;split at h
   ·rename_i st1 h1;exact⟨st1,h1,ih _ _ _ _ h Q hQ⟩
   ·cases h
  |no=>cases h

def Eh (Xz:J3)(T:HX)(n:Nat)(k:FuncId)(args:List AV):Bool :=
 match JI Xz T (Zs Xz T n) k args []with
 |some (.bool true,_)=>true
 |_=>false

theorem F8 {Xz:J3}(hN:Kn P Xz)(hT:YI P T){n:Nat}{k:FuncId}{args:List AV}(h:Eh Xz T n k args=true):Qu P k args (.bool true):=by
 unfold Eh at h;split at h
 ·rename_i m' h1;exact(Jc hN hT (YM hN hT n) _ _ _ _ _ h1).mono fun _ _ e=>e.1
 ·cases h

end

set_option linter.defProp false in
def Qa:=(QAB (QAB (QAB (QAB (QAB (QAB (QAB (QAB @Am.Qlh @Am.Qlg) (QAB @Am.AQ @Am.Qlj)) (QAB (QAB @Am.AW @Am.AX) (QAB @Am.AY (QAB @Am.R1 @Am.R2)))) (QAB (QAB (QAB @Am.AO @Am.Qle) (QAB @Am.Qlf @Am.AP)) (QAB (QAB @Am.AZ @Am.A1) (QAB @Am.A2 (QAB @Am.A3 @Am.A4))))) (QAB (QAB (QAB (QAB @Am.A5 @Am.A6) (QAB @Am.A7 @Am.A8)) (QAB (QAB @Am.AU @Am.AT) (QAB @Am.Qli (QAB @Am.e_c @Am.e_t)))) (QAB (QAB (QAB @Am.e_f @Am.Qll) (QAB @Am.HR @Am.Qlk)) (QAB (QAB @Am.Qln @Am.e_g) (QAB @Am.C0 (QAB @Am.C1 @Am.B4)))))) (QAB (QAB (QAB (QAB (QAB @Am.B5 @Am.C2) (QAB @Am.F1 @Am.F3)) (QAB (QAB @Am.B6 @Am.CV) (QAB @Am.CW (QAB @Am.C3 @Am.C4)))) (QAB (QAB (QAB @Am.B7 @Am.QB.eq_1) (QAB @Am.QB.eq_2 @Am.QB.eq_3)) (QAB (QAB @Am.QB.eq_4 @Am.QB.eq_5) (QAB @Am.QB.eq_6 (QAB @Am.QB.eq_7 @Am.QB.eq_8))))) (QAB (QAB (QAB (QAB @Am.QB.eq_9 @Am.QB.eq_10) (QAB @Am.QB.eq_11 @Am.QB.eq_12)) (QAB (QAB @Am.QB.eq_13 @Am.QB.eq_14) (QAB @Am.QB.eq_15 (QAB @Am.QB.eq_16 @Am.QB.eq_17)))) (QAB (QAB (QAB @Am.QB.eq_18 @Am.QB.eq_19) (QAB @Am.QB.eq_20 @Am.QB.eq_21)) (QAB (QAB @Am.QB.eq_22 @Am.QB.eq_23) (QAB @Am.QB.eq_24 (QAB @Am.QB.eq_25 @Am.QB.eq_26))))))) (QAB (QAB (QAB (QAB (QAB (QAB @Am.QB.eq_27 @Am.QB.eq_1) (QAB @Am.QB.eq_1 @Am.QB.eq_1)) (QAB (QAB @Am.QB.eq_1 @Am.QB.eq_1) (QAB @Am.QB.eq_1 (QAB @Am.QB.eq_1 @Am.QB.eq_1)))) (QAB (QAB (QAB @Am.QB.eq_1 @Am.Xu.eq_1) (QAB @Am.Xu.eq_2 @Am.Xu.eq_3)) (QAB (QAB @Am.Xu.eq_4 @Am.Xu.eq_5) (QAB @Am.Xu.eq_6 (QAB @Am.Xu.eq_7 @Am.Xu.eq_8))))) (QAB (QAB (QAB (QAB @Am.Xu.eq_9 @Am.Xu.eq_10) (QAB @Am.Xu.eq_11 @Am.Xu.eq_12)) (QAB (QAB @Am.Xu.eq_13 @Am.Xu.eq_14) (QAB @Am.Xu.eq_15 (QAB @Am.Xu.eq_16 @Am.Xu.eq_17)))) (QAB (QAB (QAB @Am.X2.eq_1 @Am.X2.eq_2) (QAB @Am.X2.eq_3 @Am.X2.eq_4)) (QAB (QAB @Am.X2.eq_5 @Am.X2.eq_6) (QAB @Am.X2.eq_7 (QAB @Am.X2.eq_8 @Am.X2.eq_9)))))) (QAB (QAB (QAB (QAB (QAB @Am.X2.eq_10 @Am.X2.eq_11) (QAB @Am.X2.eq_12 @Am.X2.eq_13)) (QAB (QAB @Am.X2.eq_14 @Am.X2.eq_15) (QAB @Am.X2.eq_16 (QAB @Am.Hu.eq_1 @Am.Hu.eq_2)))) (QAB (QAB (QAB @Am.Hu.eq_3 @Am.Hu.eq_4) (QAB @cond_true.{0} @cond_true.{1})) (QAB (QAB @cond_false.{0} @cond_false.{1}) (QAB @true_and (QAB @and_true @Qz5.{0}))))) (QAB (QAB (QAB (QAB @QAa.{0} @List.getElem?_nil.{0}) (QAB @QAd.{0} @QAu.{0})) (QAB (QAB @Am.St.enter.eq_1 @Am.FH.eq_1) (QAB @Am.AV.shL.eq_1 (QAB @Am.AV.shL.eq_2 @Am.AV.sh.eq_1)))) (QAB (QAB (QAB @Am.AV.sh.eq_2 @Am.AV.sh.eq_3) (QAB @Am.AV.sh.eq_4 @Am.AV.sh.eq_5)) (QAB (QAB @Am.AV.sh.eq_6 @Am.AV.sh.eq_7) (QAB @Am.AV.sh.eq_8 (QAB @Am.AV.sh.eq_9 @Am.J2.eq_1)))))))) (QAB (QAB (QAB (QAB (QAB (QAB (QAB @Am.J2.eq_2 @Am.RR.ev.eq_1) (QAB @Am.RR.ev.eq_2 @Am.RR.evL.eq_1)) (QAB (QAB @Am.RR.evL.eq_2 @Am.Kk.eq_1) (QAB @Am.AV.still.eq_1 (QAB @Am.AV.still.eq_2 @Am.AV.still.eq_3)))) (QAB (QAB (QAB @Am.AV.still.eq_4 @Am.AV.still.eq_5) (QAB @Am.AV.still.eq_6 @Am.AV.still.eq_7)) (QAB (QAB @Am.AV.still.eq_8 @Am.AV.stillL.eq_1) (QAB @Am.AV.stillL.eq_2 (QAB @Am.AV.un.eq_1 @Am.AV.un.eq_2))))) (QAB (QAB (QAB (QAB @Am.AV.un.eq_3 @Am.AV.un.eq_4) (QAB @Am.AV.un.eq_5 @Am.AV.un.eq_6)) (QAB (QAB @Am.AV.un.eq_7 @Am.AV.un.eq_8) (QAB @Am.AV.un.eq_9 (QAB @Am.AV.un.eq_10 @Am.AV.un.eq_11)))) (QAB (QAB (QAB @Am.AV.un.eq_12 @Am.AV.un.eq_13) (QAB @Am.AV.unL.eq_1 @Am.AV.unL.eq_2)) (QAB (QAB @QAc.{0,0} @QzC.{0,0}) (QAB @if_true.{0} (QAB @if_true.{1} @if_false.{0})))))) (QAB (QAB (QAB (QAB (QAB @if_false.{1} @Qzv) (QAB @Go.IntKind.bits.eq_1 @Go.IntKind.bits.eq_2)) (QAB (QAB @Go.IntKind.bits.eq_3 @Go.IntKind.bits.eq_4) (QAB @Go.IntKind.bits.eq_5 (QAB @Go.IntKind.bits.eq_6 @Go.IntKind.bits.eq_7)))) (QAB (QAB (QAB @Go.IntKind.bits.eq_8 @QAe.{0}) (QAB @Qzr.{0} @QAC)) (QAB (QAB @QAf @forall_const.{1}) (QAB @not_true_eq_false (QAB @not_false_eq_true @Am.Jb))))) (QAB (QAB (QAB (QAB @QAD @QAb) (QAB @Am.KQ.eq_1 @ne_eq.{1})) (QAB (QAB @Nat.one_ne_zero @decide_true) (QAB @decide_false (QAB @Am.R3 @Am.CY)))) (QAB (QAB (QAB @Am.Ea @Am.CZ) (QAB @Am.Eb @Am.A9)) (QAB (QAB @Am.Qlm @Am.Xs.eq_1) (QAB @Am.AV.unNL.eq_1 (QAB @Am.AV.unNL.eq_2 @Am.AV.unNL_zero))))))) (QAB (QAB (QAB (QAB (QAB (QAB @Am.AV.shNL.eq_1 @Am.AV.shNL.eq_2) (QAB @Am.AV.shN.eq_1 @Am.AV.shN.eq_2)) (QAB (QAB @Am.splice.eq_1 @Am.part.eq_1) (QAB @Am.part.eq_2 (QAB @Am.fill.eq_1 @Am.fill.eq_2)))) (QAB (QAB (QAB @Am.AV.leaf.eq_1 @Am.AV.leaf.eq_2) (QAB @Am.AV.leaf.eq_3 @Am.AV.leaf.eq_4)) (QAB (QAB @List.all_cons.{0} @List.all_nil.{0}) (QAB @List.take_succ_cons.{0} (QAB @List.take_zero.{0} @List.take_nil.{0}))))) (QAB (QAB (QAB (QAB @List.drop_succ_cons.{0} @QzQ.{0}) (QAB @List.drop_nil.{0} @Qzy.{0})) (QAB (QAB @Qzx.{0} @Qz6.{0}) (QAB @Am.Qh.eq_1 (QAB @Qz7 @Am.ZM.eq_1)))) (QAB (QAB (QAB @Am.ZM.eq_2 @Am.ZM.eq_3) (QAB @Am.ZM.eq_4 @Am.ZM.eq_5)) (QAB (QAB @Am.ZM.eq_6 @Am.JN.eq_1) (QAB @Am.JN.eq_2 (QAB @Am.Xq.eq_1 @Am.Xq.eq_2)))))) (QAB (QAB (QAB (QAB (QAB @Am.Xq.eq_3 @Am.Xq.eq_4) (QAB @Am.Xq.eq_5 @Am.Xq.eq_6)) (QAB (QAB @Am.Xq.eq_7 @Am.Kh.eq_1) (QAB @Am.Kh.eq_2 (QAB @Am.Kh.eq_3 @Am.Wf.eq_1)))) (QAB (QAB (QAB @Am.Wf.eq_2 @Am.Wf.eq_3) (QAB @Am.Wf.eq_4 @Am.QqD)) (QAB (QAB @Am.BU @Am.BW) (QAB @Am.BX (QAB @Am.FR @Am.BY))))) (QAB (QAB (QAB (QAB @Am.FS @Am.FT) (QAB @Am.FU @Am.FV)) (QAB (QAB @Am.FW @Am.BZ) (QAB @Am.B0 (QAB @Am.B1 @Am.UQ)))) (QAB (QAB (QAB @Am.FX @Am.B2) (QAB @Am.FY (QAB @Am.Dr @Am.B3))) (QAB (QAB @Am.FZ @Am.WT) (QAB @Am.Ds (QAB @Am.F0 @Qz4.{0,0})))))))))

set_option linter.defProp false in
def DJ:=(QAB (QAB (QAB @Am.Q1.eq_1 (QAB @Am.Q1.eq_2 @Am.Q1.eq_3)) (QAB (QAB @Am.Xn.eq_1 @Am.Xn.eq_2) (QAB @Am.Xn.eq_3 @Am.Xn.eq_4))) (QAB (QAB (QAB @Am.Qf.eq_1 @Am.Qf.eq_2) (QAB @Am.Qf.eq_3 @Am.put.eq_1)) (QAB (QAB @Am.put.eq_2 @Am.put.eq_3) (QAB @Am.AV.cells.eq_1 @Am.AV.cells.eq_2))))

set_option linter.defProp false in
def eE := QAB Qa DJ

end Go.Proofs.YtaiflhahcglpgaaGreatDoor.Am

namespace Go.Proofs.YtaiflhahcglpgaaGreatDoor.Rc
open Go Am
abbrev ja (a b:Nat):Am.Item:=⟨some a,.val (.mov (.t b)),none⟩
abbrev jb (a b c:Nat):Am.Item:=⟨some a,.val (.faddr b (.t c)),none⟩
abbrev jc (a b:Nat):Am.Item:=⟨some a,.val (.load none (.t b)),none⟩
abbrev jd (a:Nat)(b:Int):Am.Item:=⟨some a,.val (.mov (.c (.int .i64 b))),none⟩
abbrev je (a:Nat):Am.Item:=⟨some a,.val (.mov (.c (.bool false))),none⟩
abbrev jf (a b c d:Nat):Am.Item:=⟨some a,.val (.faddr b (.t c)),some (d,true)⟩
abbrev jg (a b c:Nat):Am.Item:=⟨some a,.boxN b (.t c),none⟩
abbrev jh (a b c:Nat):Am.Item:=⟨some a,.val (.mov (.t b)),some (c,true)⟩
abbrev ji (a b c:Nat):Am.Item:=⟨some a,.val (.pick (.t b) (.t c) (.c (.bool false))),none⟩
abbrev jj (a b c:Nat):Am.Item:=⟨some a,.val (.load (some b) (.t c)),none⟩
abbrev jk (a b c:Nat):Am.Item:=⟨some a,.val (.len b (.t c)),none⟩
abbrev jl (a b c d:Nat):Am.Item:=⟨some a,.val (.iaddr b none (.t c) (.t d)),none⟩
abbrev jm (a b c d:Nat):Am.Item:=⟨some a,.val (.faddr b (.t c)),some (d,false)⟩
abbrev jn (a b:Nat)(c:Int):Am.Item:=⟨some a,.val (.bin .num .add (.t b) (.c (.int .i64 c))),none⟩
abbrev jo (a b c:Nat):Am.Item:=⟨none,.store a (.t b) (.t c),none⟩
abbrev jp (a b c:Nat):Am.Item:=⟨some a,.val (.load none (.t b)),some (c,true)⟩
abbrev jq (a b c:Nat):Am.Item:=⟨some a,.val (.pick (.t b) (.c (.bool true)) (.t c)),none⟩
abbrev jr (a b c:Nat):Am.Item:=⟨some a,.val (.bin .num .lss (.t b) (.t c)),none⟩
abbrev js (a b c:Nat):Am.Item:=⟨some a,.call (.f b) [(.t c)],none⟩
abbrev jt (a b c d:Nat):Am.Item:=⟨some a,.val (.loadv b c none (.t d)),none⟩
abbrev ju (a b:Nat)(c:Int):Am.Item:=⟨some a,.val (.bin .num .eql (.t b) (.c (.int .i64 c))),none⟩
abbrev jv (a b c:Nat):Am.Item:=⟨some a,.val (.load none (.t b)),some (c,false)⟩
abbrev jw (a b c:Nat):Am.Item:=⟨some a,.val (.mov (.t b)),some (c,false)⟩
abbrev jx (a b c d:Nat):Am.Item:=⟨some a,.call (.f b) [(.t c),(.t d)],none⟩
abbrev jy (a b:Nat):Am.Item:=⟨some a,.val (.un .not (.t b)),none⟩
abbrev jz (a b c:Nat):Am.Item:=⟨some a,.val (.ext (.t b) c),none⟩
abbrev ya (a b c d:Nat):Am.Item:=⟨some a,.val (.len b (.t c)),some (d,true)⟩
abbrev yb (a:Nat):Am.Item:=⟨some a,.val (.mov (.c (.bool true))),none⟩
abbrev yc (a b c d:Nat)(e:Int):Am.Item:=⟨some a,.callF (.f b) [(.t c),(.t d),(.c (.int .i64 e))],none⟩
abbrev yd (a b:Nat)(c:Int):Am.Item:=⟨some a,.val (.bin .num .geq (.t b) (.c (.int .i64 c))),none⟩
abbrev ye (a b c d:Nat):Am.Item:=⟨some a,.callF (.f b) [(.t c),(.t d)],none⟩
abbrev yf (a b c:Nat):Am.Item:=⟨some a,.val (.bin .str .eql (.t b) (.t c)),none⟩
abbrev yg (a b c d e f:Nat):Am.Item:=⟨some a,.app b c d (.t e) (.t f),none⟩
abbrev yh (a b c d e:Nat):Am.Item:=⟨some a,.val (.loadv b c none (.t d)),some (e,true)⟩
abbrev yi (a b c d e:Nat):Am.Item:=⟨some a,.val (.iaddr b none (.t c) (.t d)),some (e,true)⟩
abbrev yj (a b c d e:Nat):Am.Item:=⟨some a,.val (.loadv b c (some d) (.t e)),none⟩
abbrev yk (a b:Nat):Am.Item:=⟨some a,.val (.loadr none (.t b)),none⟩
abbrev yl (a b:Nat)(c:Int):Am.Item:=⟨some a,.val (.bin .num .lss (.t b) (.c (.int .i64 c))),none⟩
abbrev ym (a b c:Nat):Am.Item:=⟨some a,.val (.loadr (some b) (.t c)),none⟩
abbrev yn (a b:Nat)(c:Int)(d:Nat):Am.Item:=⟨some a,.val (.bin .num .leq (.t b) (.c (.int .i64 c))),some (d,true)⟩
abbrev yo (a b:Nat)(c:Int):Am.Item:=⟨some a,.val (.bin .num .neq (.t b) (.c (.int .i64 c))),none⟩
abbrev yp (a:Nat):Am.Item:=⟨some a,.val (.mov (.c (.nils))),none⟩
abbrev yq (a b:Nat):Am.Item:=⟨some a,.val (.nilck (.t b)),none⟩
abbrev yr (a b:Nat)(c:Int):Am.Item:=⟨some a,.val (.bin .num .gtr (.t b) (.c (.int .i64 c))),none⟩
abbrev ys (a b c d e:Nat):Am.Item:=⟨some a,.val (.loadv b c none (.t d)),some (e,false)⟩
abbrev yt (a b c d:Nat)(e f:Int):Am.Item:=⟨some a,.callF (.f b) [(.t c),(.t d),(.c (.int .i64 e)),(.c (.int .i64 f))],none⟩
abbrev yu (a b c:Nat):Am.Item:=⟨some a,.val (.loadr none (.t b)),some (c,true)⟩
abbrev yv (a b c d e:Nat)(f:Int):Am.Item:=⟨some a,.callF (.f b) [(.t c),(.t d),(.t e),(.c (.int .i64 f))],none⟩
abbrev yw (a b c d:Nat):Am.Item:=⟨some a,.val (.len b (.t c)),some (d,false)⟩
abbrev yx (a b c:Nat):Am.Item:=⟨some a,.val (.un .not (.t b)),some (c,true)⟩
abbrev yy (a b:Nat)(c:Int)(d:Nat):Am.Item:=⟨some a,.val (.bin .num .gtr (.t b) (.c (.int .i64 c))),some (d,false)⟩
abbrev yz (a b c d e:Nat):Am.Item:=⟨none,.storev a b c (.t d) (.t e),none⟩
abbrev za (a b:Nat)(c:Int)(d:Nat):Am.Item:=⟨some a,.val (.bin .num .eql (.t b) (.c (.int .i64 c))),some (d,true)⟩
abbrev zb (a b c d e:Nat):Am.Item:=⟨some a,.val (.iaddr b none (.t c) (.t d)),some (e,false)⟩
abbrev zd (a b c:Nat):Am.Item:=⟨some a,.val (.loadr none (.t b)),some (c,false)⟩
abbrev ze (a b:Nat):Am.Item:=⟨some a,.allocN b [.str [],.nils,.nils,.nils,.nils],none⟩
abbrev zf (a b c:Nat):Am.Item:=⟨some a,.val (.un .not (.t b)),some (c,false)⟩
abbrev zg (a b c d:Nat):Am.Item:=⟨some a,.call (.f b) [(.t c)],some (d,false)⟩
abbrev zi (a b c d:Nat):Am.Item:=⟨some a,.val (.bin .num .add (.t b) (.t c)),some (d,true)⟩
abbrev zj (a b c d:Nat):Am.Item:=⟨some a,.val (.bin .num .neq (.t b) (.t c)),some (d,false)⟩
abbrev zk (a b c d:Nat):Am.Item:=⟨some a,.val (.bin .num .lss (.t b) (.t c)),some (d,true)⟩
abbrev zl (a b:Nat)(c:Int)(d:Nat):Am.Item:=⟨some a,.val (.bin .num .eql (.t b) (.c (.int .i64 c))),some (d,false)⟩
abbrev zm (a b:Nat):Am.Item:=⟨some a,.allocN b [.str [],.bool false,.nils,.nils,.nils],none⟩
abbrev zn (a:Nat):Am.Item:=⟨some a,.val (.mov (.c (.str []))),none⟩
abbrev zo (a b c d:Nat):Am.Item:=⟨some a,.val (.pick (.t b) (.t c) (.c (.bool false))),some (d,false)⟩
abbrev zp (a b c:Nat):Am.Item:=⟨some a,.val (.bin .num .add (.t b) (.t c)),none⟩
abbrev zq (a b c:Nat):Am.Item:=⟨some a,.val (.bin .num .eql (.t b) (.t c)),none⟩
abbrev zs (a b:Nat)(c:Int)(d:Nat):Am.Item:=⟨some a,.val (.bin .num .add (.t b) (.c (.int .i64 c))),some (d,true)⟩
abbrev zt (a b:Nat):Am.Item:=⟨some a,.allocN b [.int .i64 0,.str [],.int .i64 0,.int .i64 0,.int .i64 0,.str [],.str [],.bool false,.int .i64 0,.int .u64 0,.str [],.nils,.nils,.nils,.nils,.nils],none⟩
abbrev zu (a b c:Nat):Am.Item:=⟨some a,.val (.mkfn (.func b) [] [(.t c)]),none⟩
abbrev zv (a b c:Nat):Am.Item:=⟨some a,.callF (.t b) [(.t c)],none⟩
abbrev zw (a b:Nat)(c:Int)(d:Nat):Am.Item:=⟨some a,.val (.bin .num .neq (.t b) (.c (.int .i64 c))),some (d,true)⟩
abbrev zx (a b c d e:Nat):Am.Item:=⟨some a,.call (.f b) [(.t c),(.t d)],some (e,false)⟩
abbrev zy (a b c d e f:Nat):Am.Item:=⟨some a,.bsl b c [.str []] [(d,e,(.t f))],none⟩
abbrev zz (a b c d:Nat):Am.Item:=⟨some a,.val (.load (some b) (.t c)),some (d,false)⟩
abbrev Nh (a b:Nat)(c:Int):Am.Item:=⟨some a,.val (.bin .num .sub (.t b) (.c (.int .i64 c))),none⟩
abbrev YN (a b c d e:Nat):Am.Item:=⟨some a,.call (.f b) [(.t c),(.t d)],some (e,true)⟩
abbrev US (a b c d:Nat):Am.Item:=⟨some a,.val (.bin .num .leq (.t b) (.t c)),some (d,true)⟩
abbrev UT (a b:Nat):Am.Item:=⟨some a,.allocN b [.nils,.nils],none⟩
abbrev HZ (a b c d:Nat):Am.Item:=⟨some a,.call (.f b) [(.t c)],some (d,true)⟩
abbrev UU (a b:Nat):Am.Item:=⟨some a,.allocN b [.int .i64 0,.int .u64 0,.str [],.nils,.nils,.nils,.nils],none⟩
abbrev UV (a b c d:Nat):Am.Item:=⟨some a,.val (.bin .str .eql (.t b) (.t c)),some (d,true)⟩
abbrev MU (a b c:Nat):Am.Item:=⟨some a,.call (.t b) [(.t c)],none⟩
abbrev UW (a b:Nat)(c:Int):Am.Item:=⟨some a,.val (.bin .num .eql (.t b) (.c (.int .u64 c))),none⟩
abbrev Ni (a b:Nat):Am.Item:=⟨some a,.allocN b [.int .i64 0,.str [],.str [],.int .i64 0,.int .i64 0,.int .i64 0,.int .i64 0,.int .i64 0],none⟩
abbrev H1 (a b c d e:Nat):Am.Item:=⟨some a,.call (.f b) [(.t c),(.t d),(.t e)],none⟩
abbrev H2 (a b c d:Nat):Am.Item:=⟨some a,.val (.bin .num .eql (.t b) (.t c)),some (d,true)⟩
abbrev DK (a b:Nat)(c:Int)(d:Nat):Am.Item:=⟨some a,.val (.bin .num .sub (.t b) (.c (.int .i64 c))),some (d,true)⟩
abbrev H3 (a b c d:Nat)(e:Int)(f:Nat):Am.Item:=⟨some a,.call (.f b) [(.t c),(.t d),(.c (.int .i64 e))],some (f,true)⟩
abbrev MV (a b c d:Nat):Am.Item:=⟨some a,.val (.pick (.t b) (.c (.bool true)) (.t c)),some (d,true)⟩
abbrev DL (a b c d:Nat):Am.Item:=⟨some a,.val (.load (some b) (.t c)),some (d,true)⟩
abbrev DM (a b:Nat)(c:Int):Am.Item:=⟨some a,.val (.bin .num .leq (.t b) (.c (.int .i64 c))),none⟩
abbrev DN (a b c d:Nat)(e:Int):Am.Item:=⟨some a,.val (.iaddr b (some c) (.t d) (.c (.int .i64 e))),none⟩
abbrev DO (a b:Nat)(c:Int)(d:Nat):Am.Item:=⟨some a,.val (.bin .num .sub (.t b) (.c (.int .i64 c))),some (d,false)⟩
abbrev MW (a b c d:Nat):Am.Item:=⟨some a,.val (.slc (some b) (.t c) none (some (.t d)) none),none⟩
abbrev Nj (a b:Nat):Am.Item:=⟨some a,.allocN b [.str [],.int .i64 0,.nils],none⟩
abbrev DP (a b c:Nat):Am.Item:=⟨some a,.val (.idx (.t b) (.t c)),none⟩
abbrev MX (a b:Nat):Am.Item:=⟨some a,.allocN b [.str [],.nils,.int .i64 0],none⟩
abbrev MY (a b:Nat)(c:Int)(d:Nat):Am.Item:=⟨some a,.val (.bin .num .neq (.t b) (.c (.int .i64 c))),some (d,false)⟩
abbrev Nk (a b:Nat):Am.Item:=⟨some a,.val (.loado none (.t b)),none⟩
abbrev Ei (a b c d:Nat):Am.Item:=⟨some a,.val (.mkfn (.func b) [] [(.t c),(.t d)]),none⟩
abbrev Nl (a b c d:Nat):Am.Item:=⟨some a,.val (.bin .num .gtr (.t b) (.t c)),some (d,false)⟩
abbrev Nm (a b:Nat):Am.Item:=⟨some a,.val (.bin .str .eql (.t b) (.c (.str []))),none⟩
abbrev Nn (a b c d e f:Nat):Am.Item:=⟨some a,.val (.loadv b c (some d) (.t e)),some (f,false)⟩
abbrev No (a b c:Nat):Am.Item:=⟨some a,.val (.slc none (.t b) (some (.t c)) none none),none⟩
abbrev Np (a b:Nat)(c:Int):Am.Item:=⟨some a,.val (.bin .num .eql (.t b) (.c (.int .u8 c))),none⟩
abbrev Nq (a b c d:Nat):Am.Item:=⟨some a,.val (.idx (.t b) (.t c)),some (d,true)⟩
abbrev Nr (a b:Nat)(c:Int):Am.Item:=⟨some a,.val (.bin .num .geq (.t b) (.c (.int .u8 c))),none⟩
abbrev Ns (a b:Nat)(c:Int)(d:Nat):Am.Item:=⟨some a,.val (.bin .num .leq (.t b) (.c (.int .u8 c))),some (d,true)⟩
abbrev jQ (g:List Am.Item)(c:RC):RC:=.seq (.reg g) c
abbrev jD (g:List Am.Item)(c:RC):RC:=.seq (.draw g) c
abbrev jX (a b:Nat):RC:=.cond (.t a) .skip (.exit b)
abbrev IL:=List Am.Item
abbrev CT (k n:Nat)(r:RC)(o:List RR):Prop:=CK Tryz.prog k n r o
abbrev Qlo:IL:=[jg 1 1 0,jd 2 0]
abbrev Qlp:IL:=[jb 4 3 1,jc 5 4,ju 6 5 5,ja 3 6]
abbrev Qlq:IL:=[jd 2 6]
abbrev Qlr:IL:=[jj 8 8 1,js 9 45 8,ja 7 9]
abbrev Qls:IL:=[jd 2 5]
abbrev Qlt:IL:=[jb 10 5 1,jc 11 10]
abbrev Qlu:IL:=[ju 13 11 1,ja 12 13]
abbrev Qlv:IL:=[ju 14 11 4,ja 12 14]
abbrev Qlw:IL:=[ju 15 11 5,ja 12 15]
abbrev Qlx:IL:=[ju 16 11 9,ja 12 16]
abbrev Ej:IL:=[jd 2 0]
abbrev Ek:IL:=[ju 18 11 2,ja 17 18]
abbrev Em:IL:=[ju 19 11 3,ja 17 19]
abbrev Eo:IL:=[jd 2 1]
abbrev Ep:IL:=[ju 21 11 6,ja 20 21]
abbrev Er:IL:=[jd 2 2]
abbrev Es:IL:=[ju 23 11 7,ja 22 23]
abbrev Et:IL:=[ju 24 11 8,ja 22 24]
abbrev Eu:IL:=[jd 2 3]
abbrev Ew:IL:=[ju 26 11 10,ja 25 26]
abbrev Ex:IL:=[jd 2 4]
abbrev Ey:IL:=[jd 2 (-1)]
abbrev r22:RC:=jQ Qlo (.seq (.block 0 (jQ Qlp (.cond (.t 3) (jQ Qlq (.ret)) (jQ Qlr (.cond (.t 7) (jQ Qls (.ret)) (.skip)))))) (.seq (jQ Qlt (.block 1 (.seq (jQ Qlu (.cond (.t 12) (.skip) (jQ Qlv (.cond (.t 12) (.skip) (jQ Qlw (.cond (.t 12) (.skip) (.reg Qlx))))))) (.cond (.t 12) (jQ Ej (.ret)) (.seq (jQ Ek (.cond (.t 17) (.skip) (.reg Em))) (.cond (.t 17) (jQ Eo (.ret)) (jQ Ep (.cond (.t 20) (jQ Er (.ret)) (.seq (jQ Es (.cond (.t 22) (.skip) (.reg Et))) (.cond (.t 22) (jQ Eu (.ret)) (jQ Ew (.cond (.t 25) (jQ Ex (.ret)) (.skip))))))))))))) (jQ Ey (.ret))))
abbrev o22:List RR:=[.tmp 2]
theorem k22:CT 22 27 r22 o22:=ck Tryz.func22 Tryz.ntmps22 (by decide +kernel)
abbrev Qly:IL:=[jg 1 1 0,je 2]
abbrev Qlz:IL:=[jb 3 3 1,jc 4 3,ju 5 4 4,ja 6 5,jf 7 5 1 6,jp 8 7 6,⟨some 9,.val (.bin .num .geq (.t 8) (.c (.int .i64 1))),(some (6,true))⟩,jh 10 9 6,jf 11 5 1 10,jp 12 11 10,yn 13 12 6 10,⟨some 14,.val (.pick (.t 10) (.t 13) (.c (.bool false))),(some (6,true))⟩,jh 15 14 6,jm 16 5 1 15,jv 17 16 15,zl 18 17 9 15,MV 19 15 18 6,ji 20 6 19,ja 2 20]
abbrev r45:RC:=jQ Qly (jQ Qlz (.ret))
abbrev o45:List RR:=[.tmp 2]
theorem k45:CT 45 21 r45 o45:=ck Tryz.func45 Tryz.ntmps45 (by decide +kernel)
abbrev QqF:IL:=[je 0]
abbrev QqG:IL:=[⟨some 4,.val (.build [.int .i64 0,.str []] [(0,1,(.c (.int .i64 2)))]),none⟩,⟨some 5,.val (.build [.int .i64 0,.str [],.int .i64 0,.int .i64 0,.int .i64 0,.str [],.str [],.bool false,.int .i64 0,.int .u64 0,.str [],.nils,.nils,.nils,.nils,.nils] [(0,1,(.c (.int .i64 3))),(1,1,(.c (.str [97]))),(2,1,(.c (.int .i64 1))),(4,2,(.t 4))]),none⟩,zt 1 1,jo 16 1 5]
abbrev QqH:IL:=[jj 7 16 1,⟨some 8,.bsl 16 1 [.int .i64 0,.str [],.int .i64 0,.int .i64 0,.int .i64 0,.str [],.str [],.bool false,.int .i64 0,.int .u64 0,.str [],.nils,.nils,.nils,.nils,.nils] [(0,16,(.t 7))],none⟩,⟨some 9,.val (.build [.str [],.nils,.nils,.nils,.nils] [(0,1,(.c (.str [77]))),(1,1,(.t 8))]),none⟩,⟨some 10,.bsl 5 1 [.str [],.nils,.nils,.nils,.nils] [(0,5,(.t 9))],none⟩,⟨some 11,.val (.build [.nils,.nils,.nils] [(0,1,(.t 10))]),none⟩,js 12 6 11,ja 6 12,jz 13 6 0,jz 14 6 1,UT 2 2,jo 2 2 13,ja 3 14]
abbrev QqI:IL:=[ja 15 3,ju 16 15 0,ja 17 16,jf 18 0 2 17,jp 19 18 17,ya 20 1 19 17,za 21 20 1 17,ji 22 17 21,ja 23 22,DL 24 2 2 23,⟨some 25,.val (.build [.int .i64 0,.int .u64 0,.str [],.nils,.nils,.nils,.nils] [(0,1,(.c (.int .i64 10)))]),(some (23,true))⟩,⟨some 26,.call (.f 21) [(.t 24),(.c (.int .i64 0)),(.t 25)],(some (23,true))⟩,za 27 26 14 23,ji 28 23 27,ja 29 28,jf 30 0 2 29,jp 31 30 29,⟨some 32,.val (.iaddr 3 none (.t 31) (.c (.int .i64 0))),(some (29,true))⟩,jf 33 1 32 29,jp 34 33 29,⟨some 35,.val (.iaddr 8 none (.t 34) (.c (.int .i64 0))),(some (29,true))⟩,DL 36 8 35 29,HZ 37 22 36 29,za 38 37 1 29,ji 39 29 38,ja 0 39]
abbrev r9:RC:=jQ QqF (jQ QqG (jQ QqH (jQ QqI (.ret))))
abbrev o9:List RR:=[.tmp 0]
theorem k9:CT 9 40 r9 o9:=ck Tryz.func9 Tryz.ntmps9 (by decide +kernel)
def Ez:IL:=[jg 1 1 0,UT 2 2,jd 3 0]
def EA:IL:=[jj 9 3 1,js 10 13 9,jy 11 10]
def EB:IL:=[⟨some 12,.val (.build [.nils,.nils] []),none⟩,jo 2 2 12,jd 3 1]
def EC:IL:=[UT 4 4]
def ED:IL:=[jb 13 0 1,jc 14 13,jk 15 1 14,jd 16 0]
def EE:IL:=[jr 17 16 15]
def EG:IL:=[jl 18 5 14 16,jj 19 5 18,ze 6 6,jo 5 6 19]
def EH:IL:=[jb 20 0 4,jt 21 0 4 20,yj 22 0 1 3 1,yj 23 0 6 5 6,jx 24 14 22 23,⟨some 25,.bsl 3 1 [.str [],.nils,.int .i64 0] [(0,3,(.t 24))],none⟩,yg 26 3 48 45 21 25,jb 27 0 4,yz 0 4 1 27 26]
def EI:IL:=[jn 28 16 1,ja 16 28]
def EJ:RC:=.gho (.drop 6) (jQ EE (.seq (jX 17 0) (.seq (.block 1 (jQ EG (.draw EH))) (.reg EI))))
def EK:IL:=[jb 29 1 1,jc 30 29,jk 31 1 30,jd 32 0]
def MZ:IL:=[jr 33 32 31]
def M0:IL:=[jl 34 5 30 32,jj 35 5 34,zm 8 8,jo 5 8 35]
def M1:IL:=[jb 36 1 4,jt 37 0 4 36,yj 38 0 8 5 8,js 39 15 38,⟨some 40,.bsl 5 1 [.str [],.bool false,.nils,.nils,.nils] [(0,5,(.t 39))],none⟩,yg 41 5 96 50 37 40,jb 42 1 4,yz 0 4 1 42 41]
def M2:IL:=[jn 43 32 1,ja 32 43]
def EL:RC:=.gho (.drop 8) (jQ MZ (.seq (jX 33 2) (.seq (.block 3 (jQ M0 (.draw M1))) (.reg M2))))
def M3:IL:=[jj 44 2 4,jo 2 2 44,jd 3 0]
def r6:RC:=jQ Ez (.seq (jQ EA (.cond (.t 11) (jQ EB (.ret)) (.skip))) (jQ EC (.gho (.vecc 4 0 1100 3) (.gho (.vecc 4 1 1101 5) (.seq (jQ ED (.block 0 (.loop EJ))) (.seq (jQ EK (.block 2 (.loop EL))) (jQ M3 (.ret))))))))
def o6:List RR:=[.cell 2 (some 2),.tmp 3]
theorem k6:CT 6 45 r6 o6:=ck Tryz.func6 Tryz.ntmps6 (by decide +kernel)
abbrev QlA:IL:=[jg 3 3 0,jg 5 5 2,jd 6 0]
abbrev QlB:IL:=[ja 8 1,yl 9 8 0,ja 10 9,jw 11 1 10,jm 12 0 3 10,jv 13 12 10,yw 14 1 13 10,⟨some 15,.val (.bin .num .geq (.t 11) (.t 14)),(some (10,false))⟩,jq 16 10 15]
abbrev QlC:IL:=[jd 6 10]
abbrev QlD:IL:=[yj 17 0 3 2 3,⟨some 18,.val (.build [.nils,.nils] [(0,2,(.t 17))]),none⟩,jb 19 0 3,jt 20 0 3 19,ja 21 1,jl 22 3 20 21,ym 23 3 22,yj 24 0 5 7 5,⟨some 25,.call (.f 43) [(.t 18),(.t 23),(.t 24),(.c (.int .i64 1))],none⟩,ja 7 25]
abbrev QlE:IL:=[ja 26 7,yo 27 26 0]
abbrev QlF:IL:=[ja 28 7,ja 6 28]
abbrev QlG:IL:=[jj 29 7 5,js 30 44 29,yr 31 30 4096]
abbrev QlH:IL:=[jd 6 3]
abbrev QlI:IL:=[jd 6 0]
abbrev r21:RC:=jQ QlA (.seq (jQ QlB (.cond (.t 16) (jQ QlC (.ret)) (.skip))) (.seq (jD QlD (jQ QlE (.cond (.t 27) (jQ QlF (.ret)) (.skip)))) (.seq (jQ QlG (.cond (.t 31) (jQ QlH (.ret)) (.skip))) (jQ QlI (.ret)))))
abbrev o21:List RR:=[.tmp 6]
theorem k21:CT 21 32 r21 o21:=ck Tryz.func21 Tryz.ntmps21 (by decide +kernel)
abbrev QlJ:IL:=[jg 1 1 0,je 2]
abbrev QlK:IL:=[jj 3 3 1,js 4 33 3,jk 5 1 4,ju 6 5 0,ja 2 6]
abbrev r13:RC:=jQ QlJ (jQ QlK (.ret))
abbrev o13:List RR:=[.tmp 2]
theorem k13:CT 13 7 r13 o13:=ck Tryz.func13 Tryz.ntmps13 (by decide +kernel)
def M4:IL:=[jg 2 2 0,jg 3 3 1,MX 4 4]
def M5:IL:=[jb 10 0 3,jc 11 10,⟨some 12,.val (.build [.str [],.nils,.int .i64 0] [(0,1,(.t 11))]),none⟩,MX 5 5,jo 3 5 12]
def M6:IL:=[yp 6]
def M7:IL:=[jb 13 1 3,jc 14 13,jk 15 1 14,jd 16 0]
def M8:IL:=[jr 17 16 15]
def M9:IL:=[jl 18 16 14 16,jj 19 16 18,zt 8 8,jo 16 8 19]
def Pa:IL:=[jb 20 0 8,jt 21 0 8 20,jb 22 1 8,jt 23 0 8 22,jb 24 15 8,jt 25 0 8 24,js 26 34 25,jb 27 2 8,jt 28 0 8 27,jb 29 3 8,jt 30 0 8 29,jb 31 4 8,jb 32 0 31,jt 33 0 8 32,yj 34 0 2 3 2,jb 35 4 8,yj 36 0 8 2 35,jx 37 35 34 36,⟨some 38,.val (.build [.int .i64 0,.str [],.str [],.int .i64 0,.int .i64 0,.int .i64 0,.int .i64 0,.int .i64 0] [(0,1,(.t 21)),(1,1,(.t 23)),(2,1,(.t 26)),(3,1,(.t 28)),(4,1,(.t 30)),(5,1,(.t 33)),(6,1,(.t 37)),(7,1,(.c (.int .i64 (-1))))]),none⟩,Ni 9 9,yz 0 9 8 9 38]
def Pb:IL:=[jb 39 6 8,jc 40 39,⟨some 41,.val (.bin .str .neq (.t 40) (.c (.str []))),none⟩]
def Pd:IL:=[ja 42 6,jb 43 6 8,jc 44 43,jx 45 36 42 44,jy 46 45]
def Pe:IL:=[ja 47 6,jb 48 6 8,jc 49 48,zy 50 1 1 0 1 49,yg 51 1 16 9 47 50,ja 6 51]
def H4:IL:=[ja 52 6,jb 53 6 8,jc 54 53,jx 55 37 52 54,jb 56 7 9,jo 1 56 55]
def YO:IL:=[jb 57 1 5,jc 58 57,jj 59 8 9,⟨some 60,.bsl 8 1 [.int .i64 0,.str [],.str [],.int .i64 0,.int .i64 0,.int .i64 0,.int .i64 0,.int .i64 0] [(0,8,(.t 59))],none⟩,yg 61 8 80 54 58 60,jb 62 1 5,jo 1 62 61]
def YP:IL:=[jn 63 16 1,ja 16 63]
def QlL:RC:=.gho (.drop 9) (.gho (.drop 8) (jQ M8 (.seq (jX 17 0) (.seq (.block 1 (jQ M9 (jD Pa (.seq (jQ Pb (.cond (.t 41) (.seq (jQ Pd (.cond (.t 46) (.reg Pe) (.skip))) (.reg H4)) (.skip))) (.reg YO))))) (.reg YP)))))
def Nt:IL:=[ja 64 6,jk 65 1 64,jb 66 2 5,jo 1 66 65]
def Nu:IL:=[jj 67 3 5,jo 3 4 67]
def EM:RC:=jQ M4 (jQ M5 (.gho (.vecc 5 1 1100 8) (jQ M6 (.gho (.vec 6 6 1) (.seq (jQ M7 (.block 0 (.loop QlL))) (jQ Nt (jQ Nu (.ret))))))))
def EN:List RR:=[.cell 4 (some 3)]
theorem k14:CT 14 68 EM EN:=ck Tryz.func14 Tryz.ntmps14 (by decide +kernel)
abbrev QlM:IL:=[jg 4 4 0,jg 5 5 1,jg 6 6 2,jd 8 0]
abbrev QlN:IL:=[jb 17 0 6,jc 18 17,yo 19 18 10,ja 20 19,zz 21 7 6 20,zg 22 111 21 20,jq 23 20 22,ja 16 23]
abbrev QlO:IL:=[jd 8 12]
abbrev QlP:IL:=[ja 25 3,yr 26 25 16,ja 24 26]
abbrev QlQ:IL:=[jd 8 17]
abbrev QlR:IL:=[jb 27 5 6,jc 28 27,jk 29 1 28,jd 30 0]
abbrev QlS:IL:=[jr 31 30 29]
abbrev QlT:IL:=[ja 32 30,ja 9 32]
abbrev QlU:IL:=[jj 33 2 4,jj 34 3 5,jb 35 5 6,jc 36 35,ja 37 9,ja 38 3,⟨some 39,.call (.f 112) [(.t 33),(.t 34),(.t 36),(.t 37),(.t 38)],none⟩,ja 10 39]
abbrev QlV:IL:=[ja 40 10,yo 41 40 0]
abbrev EO:IL:=[ja 42 10,ja 8 42]
abbrev EP:IL:=[jn 43 30 1,ja 30 43]
abbrev QlW:RC:=jQ QlS (.seq (jX 31 1) (.seq (.block 2 (jQ QlT (jQ QlU (jQ QlV (.cond (.t 41) (jQ EO (.ret)) (.skip)))))) (.reg EP)))
abbrev EQ:IL:=[jb 44 1 5,jc 45 44,jk 46 1 45,jd 47 0]
abbrev ER:IL:=[jr 48 47 46]
abbrev ES:IL:=[jl 49 8 45 47,jj 50 8 49,Ni 12 12,jo 8 12 50]
abbrev ET:IL:=[jb 51 3 12,jc 52 51,ju 53 52 1,ja 54 53,jf 55 5 6 54,jp 56 55 54,⟨some 57,.val (.mkfn (.func 114) [] [(.t 12)]),(some (54,true))⟩,⟨some 58,.callF (.f 113) [(.t 56),(.t 57)],(some (54,true))⟩,yx 59 58 54,ji 60 54 59]
abbrev EU:IL:=[jd 8 14]
abbrev EV:IL:=[jn 61 47 1,ja 47 61]
abbrev QlX:RC:=.gho (.drop 12) (jQ ER (.seq (jX 48 3) (.seq (.block 4 (jQ ES (jQ ET (.cond (.t 60) (jQ EU (.ret)) (.skip))))) (.reg EV))))
abbrev EW:IL:=[jb 62 6 6,jc 63 62,jk 64 1 63,jd 65 0]
abbrev EX:IL:=[jr 66 65 64]
abbrev EY:IL:=[jl 67 4 63 65,jj 68 4 67,⟨some 14,.allocN 14 [.int .i64 0,.int .i64 0,.int .u64 0,.str []],none⟩,jo 4 14 68]
abbrev EZ:IL:=[jj 69 2 4,jj 70 3 5,jj 71 4 14,H1 72 115 69 70 71,ja 15 72]
abbrev E0:IL:=[ja 73 15,yo 74 73 0]
abbrev E1:IL:=[ja 75 15,ja 8 75]
abbrev E2:IL:=[jn 76 65 1,ja 65 76]
abbrev QlY:RC:=.gho (.drop 14) (jQ EX (.seq (jX 66 5) (.seq (.block 6 (jQ EY (jQ EZ (jQ E0 (.cond (.t 74) (jQ E1 (.ret)) (.skip)))))) (.reg E2))))
abbrev E3:IL:=[jd 8 0]
abbrev r43:RC:=jQ QlM (.seq (.block 0 (jQ QlN (.cond (.t 16) (jQ QlO (.ret)) (jQ QlP (.cond (.t 24) (jQ QlQ (.ret)) (.skip)))))) (.seq (jQ QlR (.block 1 (.loop QlW))) (.seq (jQ EQ (.block 3 (.loop QlX))) (.seq (jQ EW (.block 5 (.loop QlY))) (jQ E3 (.ret))))))
abbrev o43:List RR:=[.tmp 8]
theorem k43:CT 43 77 r43 o43:=ck Tryz.func43 Tryz.ntmps43 (by decide +kernel)
def Pf:IL:=[jg 1 1 0,yp 2]
def Pg:IL:=[⟨some 14,.val (.build [.str [],.int .i64 0,.nils] [(1,1,(.c (.int .i64 (-1))))]),none⟩,jg 15 15 14,ja 3 15]
def Ph:IL:=[jj 16 3 1,js 17 97 16,⟨some 4,.allocN 4 [.nils,.nils,.nils],none⟩,jo 3 4 17]
def Pi:IL:=[jj 18 3 4,jd 19 0]
def Pj:IL:=[yl 20 19 3]
def Hh:IL:=[⟨some 21,.val (.aidx 3 1 none (.t 18) (.t 19)),none⟩,ja 6 21]
def F9:IL:=[ja 22 3,ja 23 6,jk 24 1 23,DM 25 24 64,yc 26 98 22 25 3]
def Ba:IL:=[ja 27 3,ja 28 6,js 29 99 28,yc 30 98 27 29 11]
def Bb:IL:=[jn 31 19 1,ja 19 31]
def Bc:RC:=jQ Pj (.seq (jX 20 0) (.seq (.block 1 (jQ Hh (jQ F9 (.reg Ba)))) (.reg Bb)))
def Pk:IL:=[ja 32 3,jj 33 3 4,js 34 100 33,yc 35 98 32 34 9]
def Nv:IL:=[jj 36 3 1,js 37 101 36,ja 7 37]
def Nw:IL:=[jb 38 0 1,jc 39 38,jk 40 1 39,jd 41 0]
def Nx:IL:=[jr 42 41 40]
def Ny:IL:=[jl 43 5 39 41,jj 44 5 43,ze 9 9,jo 5 9 44]
def Nz:IL:=[ja 45 3,ja 46 3,yq 47 46,jb 48 2 47,jc 49 48,yj 50 0 1 3 1,yj 51 0 9 5 9,ja 52 7,H1 53 102 50 51 52,yg 54 3 32 160 49 53,yq 55 45,jb 56 2 55,jo 1 56 54]
def NA:IL:=[jn 57 41 1,ja 41 57]
def Pl:RC:=.gho (.drop 9) (jQ Nx (.seq (jX 42 2) (.seq (.block 3 (jQ Ny (.draw Nz))) (.reg NA))))
def NB:IL:=[jb 58 1 1,jc 59 58,jk 60 1 59,jd 61 0]
def NC:IL:=[jr 62 61 60]
def ND:IL:=[jl 63 5 59 61,jj 64 5 63,zm 11 11,jo 5 11 64]
def NE:IL:=[ja 65 3,ja 66 3,yq 67 66,jb 68 2 67,jc 69 68,yj 70 0 11 5 11,js 71 103 70,yg 72 3 32 160 69 71,yq 73 65,jb 74 2 73,jo 1 74 72]
def NF:IL:=[jn 75 61 1,ja 61 75]
def Pm:RC:=.gho (.drop 11) (jQ NC (.seq (jX 62 4) (.seq (.block 5 (jQ ND (.draw NE))) (.reg NF))))
def NG:IL:=[jb 76 2 1,jc 77 76,jk 78 1 77,jd 79 0]
def NH:IL:=[jr 80 79 78]
def NI:IL:=[jl 81 3 77 79,jj 82 3 81,⟨some 13,.allocN 13 [.str [],.nils,.nils],none⟩,jo 3 13 82]
def NJ:IL:=[ja 83 3,ja 84 3,yq 85 84,jb 86 2 85,jc 87 86,yj 88 0 1 3 1,yj 89 0 13 3 13,jx 90 104 88 89,yg 91 3 32 160 87 90,yq 92 83,jb 93 2 92,jo 1 93 91]
def NK:IL:=[jn 94 79 1,ja 79 94]
def Pn:RC:=.gho (.drop 13) (jQ NH (.seq (jX 80 6) (.seq (.block 7 (jQ NI (.draw NJ))) (.reg NK))))
def NL:IL:=[ja 95 3,yq 96 95,jb 97 2 96,jc 98 97,ja 2 98]
def E4:RC:=jQ Pf (jQ Pg (.gho (.vecc 15 2 1100 3) (jQ Ph (.seq (jQ Pi (.block 0 (.loop Bc))) (jQ Pk (jQ Nv (.seq (jQ Nw (.block 2 (.loop Pl))) (.seq (jQ NB (.block 4 (.loop Pm))) (.seq (jQ NG (.block 6 (.loop Pn))) (jQ NL (.ret)))))))))))
def E5:List RR:=[.tmp 2]
theorem k33:CT 33 99 E4 E5:=ck Tryz.func33 Tryz.ntmps33 (by decide +kernel)
abbrev QlZ:IL:=[zn 2]
abbrev Ql0:IL:=[ja 6 0,⟨some 7,.call (.f 39) [(.t 6),(.c (.str [97,108,105,97,115]))],none⟩,ja 5 7,jz 8 5 0,jz 9 5 1,UU 3 3,jo 7 3 8,ja 4 9]
abbrev Ql1:IL:=[jb 10 2 3,jc 11 10,ja 2 11]
abbrev r34:RC:=jQ QlZ (jQ Ql0 (jQ Ql1 (.ret)))
abbrev o34:List RR:=[.tmp 2]
theorem k34:CT 34 12 r34 o34:=ck Tryz.func34 Tryz.ntmps34 (by decide +kernel)
abbrev Ql2:IL:=[jg 2 2 0,jg 3 3 1,jd 4 0]
abbrev Ql3:IL:=[jb 5 0 3,jc 6 5]
abbrev Ql4:IL:=[ju 8 6 10,ja 7 8]
abbrev Ql5:IL:=[jb 9 0 2,jc 10 9,zu 11 106 3,ye 12 105 10 11,ja 4 12]
abbrev Ql6:IL:=[ju 14 6 9,ja 13 14]
abbrev Ql7:IL:=[jb 15 1 2,jc 16 15,zu 17 108 3,ye 18 107 16 17,ja 4 18]
abbrev Ql8:IL:=[jd 4 (-1)]
abbrev r35:RC:=jQ Ql2 (.seq (jQ Ql3 (.block 0 (jQ Ql4 (.cond (.t 7) (jQ Ql5 (.ret)) (jQ Ql6 (.cond (.t 13) (jQ Ql7 (.ret)) (.skip))))))) (jQ Ql8 (.ret)))
abbrev o35:List RR:=[.tmp 4]
theorem k35:CT 35 19 r35 o35:=ck Tryz.func35 Tryz.ntmps35 (by decide +kernel)
abbrev Ql9:IL:=[je 4]
abbrev Qma:IL:=[ja 5 0,ja 6 1,jx 7 37 5 6,yd 8 7 0,ja 4 8]
abbrev r36:RC:=jQ Ql9 (jQ Qma (.ret))
abbrev o36:List RR:=[.tmp 4]
theorem k36:CT 36 9 r36 o36:=ck Tryz.func36 Tryz.ntmps36 (by decide +kernel)
abbrev Qmb:IL:=[jd 4 0]
abbrev Qmc:IL:=[ja 6 0,jk 7 1 6,jd 8 0]
abbrev Qmd:IL:=[jr 9 8 7]
abbrev Qme:IL:=[ja 10 8,ja 5 10]
abbrev Qmf:IL:=[ja 11 1,ja 12 0,ja 13 5,jl 14 1 12 13,jc 15 14,yf 16 11 15]
abbrev Qmg:IL:=[ja 17 5,ja 4 17]
abbrev Qmh:IL:=[jn 18 8 1,ja 8 18]
abbrev Qmi:RC:=jQ Qmd (.seq (jX 9 0) (.seq (.block 1 (jQ Qme (jQ Qmf (.cond (.t 16) (jQ Qmg (.ret)) (.skip))))) (.reg Qmh)))
abbrev Qmj:IL:=[jd 4 (-1)]
abbrev r37:RC:=jQ Qmb (.seq (jQ Qmc (.block 0 (.loop Qmi))) (jQ Qmj (.ret)))
abbrev o37:List RR:=[.tmp 4]
theorem k37:CT 37 19 r37 o37:=ck Tryz.func37 Tryz.ntmps37 (by decide +kernel)
abbrev Qmk:IL:=[UU 4 4,je 5]
abbrev Qml:IL:=[ja 7 0,ja 8 1,jx 9 109 7 8,ja 6 9]
abbrev Qmm:IL:=[ja 10 6,yl 11 10 0]
abbrev Qmn:IL:=[⟨some 12,.val (.build [.int .i64 0,.int .u64 0,.str [],.nils,.nils,.nils,.nils] []),none⟩,jo 7 4 12,je 5]
abbrev Qmo:IL:=[ja 13 0,ja 14 6,jl 15 8 13 14,jb 16 1 15,jj 17 7 16,jo 7 4 17,yb 5]
abbrev r39:RC:=jQ Qmk (jQ Qml (.seq (jQ Qmm (.cond (.t 11) (jQ Qmn (.ret)) (.skip))) (jQ Qmo (.ret))))
abbrev o39:List RR:=[.cell 4 (some 7),.tmp 5]
theorem k39:CT 39 18 r39 o39:=ck Tryz.func39 Tryz.ntmps39 (by decide +kernel)
abbrev E6:IL:=[jg 1 1 0,je 2]
abbrev E7:IL:=[jb 4 0 1,jc 5 4,ju 6 5 7,ja 7 6,jm 8 0 1 7,jv 9 8 7,zl 10 9 8 7,jq 11 7 10,ja 3 11]
abbrev E8:IL:=[jb 12 0 1,jc 13 12,yo 14 13 11,ja 15 14,jf 16 3 1 15,jp 17 16 15,ya 18 1 17 15,⟨some 19,.val (.bin .num .gtr (.t 18) (.c (.int .i64 0))),(some (15,true))⟩,ji 20 15 19,ja 21 20,jm 22 0 1 21,jv 23 22 21,MY 24 23 12 21,jw 25 24 21,jf 26 4 1 25,jp 27 26 25,ya 28 1 27 25,⟨some 29,.val (.bin .num .gtr (.t 28) (.c (.int .i64 0))),(some (25,true))⟩,zo 30 25 29 21,jq 31 21 30,ja 32 31,jm 33 0 1 32,jv 34 33 32,MY 35 34 10 32,jw 36 35 32,jf 37 5 1 36,jp 38 37 36,ya 39 1 38 36,jf 40 6 1 36,jp 41 40 36,ya 42 1 41 36,zi 43 39 42 36,⟨some 44,.val (.bin .num .gtr (.t 43) (.c (.int .i64 0))),(some (36,true))⟩,zo 45 36 44 32,jq 46 32 45,ja 47 46,jm 48 1 1 47,jv 49 48 47,⟨some 50,.val (.bin .num .neq (.t 49) (.c (.int .u64 0))),(some (47,false))⟩,jw 51 50 47,jh 52 3 51,jh 53 52 51,jm 54 0 1 53,jv 55 54 53,⟨some 56,.val (.bin .num .geq (.t 55) (.c (.int .i64 10))),(some (53,false))⟩,jw 57 56 53,jf 58 0 1 57,jp 59 58 57,yn 60 59 12 57,zo 61 57 60 53,MV 62 53 61 51,zo 63 51 62 47,jq 64 47 63,ja 65 64,jm 66 2 1 65,jv 67 66 65,⟨some 68,.val (.bin .str .neq (.t 67) (.c (.str []))),(some (65,false))⟩,jw 69 68 65,jh 70 3 69,yx 71 70 69,zo 72 69 71 65,jq 73 65 72,ja 2 73]
abbrev E9:RC:=jQ E6 (jQ E7 (jQ E8 (.ret)))
abbrev Ia:List RR:=[.tmp 2]
theorem QqJ:CT 111 74 E9 Ia:=ck Tryz.func111 Tryz.ntmps111 (by decide +kernel)
abbrev Ib:IL:=[je 4]
abbrev Ic:IL:=[ja 5 0,ja 6 1,ye 7 164 5 6,yd 8 7 0,ja 4 8]
abbrev Ie:RC:=jQ Ib (jQ Ic (.ret))
abbrev Ig:List RR:=[.tmp 4]
theorem QqK:CT 113 9 Ie Ig:=ck Tryz.func113 Tryz.ntmps113 (by decide +kernel)
abbrev Qmp:IL:=[jg 1 1 0,⟨some 2,.allocN 2 [.nils,.nils,.nils],none⟩]
abbrev Qmq:IL:=[⟨some 3,.allocN 3 [.nils,.nils,.nils],none⟩]
abbrev Qmr:IL:=[jb 10 0 1,jc 11 10,jk 12 1 11,jd 13 0]
abbrev Qms:IL:=[jr 14 13 12]
abbrev Qmt:IL:=[jl 15 5 11 13,jj 16 5 15,ze 5 5,jo 5 5 16]
abbrev Qmu:IL:=[DN 17 1 3 3 0,jc 18 17,jb 19 0 5,jc 20 19,zy 21 1 1 0 1 20,yg 22 1 16 9 18 21,DN 23 1 3 3 0,jo 1 23 22]
abbrev Qmv:IL:=[jn 24 13 1,ja 13 24]
abbrev Po:RC:=.gho (.drop 5) (jQ Qms (.seq (jX 14 0) (.seq (.block 1 (jQ Qmt (.reg Qmu))) (.reg Qmv))))
abbrev Qmw:IL:=[jb 25 1 1,jc 26 25,jk 27 1 26,jd 28 0]
abbrev Qmx:IL:=[jr 29 28 27]
abbrev Qmy:IL:=[jl 30 5 26 28,jj 31 5 30,zm 7 7,jo 5 7 31]
abbrev Ih:IL:=[DN 32 1 3 3 1,jc 33 32,jb 34 0 7,jc 35 34,zy 36 1 1 0 1 35,yg 37 1 16 9 33 36,DN 38 1 3 3 1,jo 1 38 37]
abbrev Ii:IL:=[jn 39 28 1,ja 28 39]
abbrev Pp:RC:=.gho (.drop 7) (jQ Qmx (.seq (jX 29 2) (.seq (.block 3 (jQ Qmy (.reg Ih))) (.reg Ii))))
abbrev Ij:IL:=[jb 40 2 1,jc 41 40,jk 42 1 41,jd 43 0]
abbrev Ik:IL:=[jr 44 43 42]
abbrev Il:IL:=[jl 45 3 41 43,jj 46 3 45,⟨some 9,.allocN 9 [.str [],.nils,.nils],none⟩,jo 3 9 46]
abbrev Im:IL:=[DN 47 1 3 3 2,jc 48 47,jb 49 0 9,jc 50 49,zy 51 1 1 0 1 50,yg 52 1 16 9 48 51,DN 53 1 3 3 2,jo 1 53 52]
abbrev Io:IL:=[jn 54 43 1,ja 43 54]
abbrev Pq:RC:=.gho (.drop 9) (jQ Ik (.seq (jX 44 4) (.seq (.block 5 (jQ Il (.reg Im))) (.reg Io))))
abbrev Ip:IL:=[jj 55 3 3,jo 3 2 55]
abbrev r97:RC:=jQ Qmp (jQ Qmq (.gho (.vecc 3 0 1100 1) (.gho (.vecc 3 1 1101 1) (.gho (.vecc 3 2 1102 1) (.seq (jQ Qmr (.block 0 (.loop Po))) (.seq (jQ Qmw (.block 2 (.loop Pp))) (.seq (jQ Ij (.block 4 (.loop Pq))) (jQ Ip (.ret)))))))))
abbrev o97:List RR:=[.cell 2 (some 3)]
theorem k97:CT 97 56 r97 o97:=ck Tryz.func97 Tryz.ntmps97 (by decide +kernel)
abbrev Qmz:IL:=[ja 6 1,jy 7 6]
abbrev QmA:IL:=[ja 8 0,ja 9 0,yq 10 9,jb 11 2 10,Nk 12 11,ja 13 0,yq 14 13,jb 15 0 14,Nk 16 15,ja 17 0,yq 18 17,jb 19 1 18,Nk 20 19,ja 21 2,⟨some 22,.val (.build [.str [],.int .i64 0,.int .i64 0] [(0,1,(.t 16)),(1,1,(.t 20)),(2,1,(.t 21))]),none⟩,⟨some 23,.bsl 3 1 [.str [],.int .i64 0,.int .i64 0] [(0,3,(.t 22))],none⟩,yg 24 3 32 160 12 23,yq 25 8,jb 26 2 25,jo 1 26 24]
abbrev r98:RC:=jQ Qmz (.cond (.t 7) (.draw QmA) (.skip))
abbrev o98:List RR:=[]
theorem H5:CT 98 27 r98 o98:=ck Tryz.func98 Tryz.ntmps98 (by decide +kernel)
abbrev QmB:IL:=[je 2]
abbrev QmC:IL:=[jd 3 1]
abbrev QmD:IL:=[ja 4 3,ja 5 0,jk 6 1 5,jr 7 4 6]
abbrev QmE:IL:=[ja 10 0,ja 11 3,jl 12 1 10 11,yk 13 12,ja 14 0,ja 15 3,Nh 16 15 1,jl 17 1 14 16,yk 18 17,⟨some 19,.val (.bin .str .leq (.t 13) (.t 18)),none⟩]
abbrev QmF:IL:=[je 2]
abbrev QmG:IL:=[ja 8 3,jn 9 8 1,ja 3 9]
abbrev QmH:RC:=.seq (jQ QmD (jX 7 0)) (.seq (.block 1 (jD QmE (.cond (.t 19) (jQ QmF (.ret)) (.skip)))) (.reg QmG))
abbrev QmI:IL:=[yb 2]
abbrev r99:RC:=jQ QmB (.seq (jQ QmC (.block 0 (.loop QmH))) (jQ QmI (.ret)))
abbrev o99:List RR:=[.tmp 2]
theorem k99:CT 99 20 r99 o99:=ck Tryz.func99 Tryz.ntmps99 (by decide +kernel)
abbrev Iq:IL:=[jg 1 1 0,je 2]
abbrev Ir:IL:=[jd 5 0]
abbrev Is:IL:=[yl 6 5 3]
abbrev It:IL:=[ja 7 5,ja 3 7]
abbrev Iu:IL:=[ja 8 3,jd 9 0]
abbrev Iv:IL:=[jr 10 9 8]
abbrev Iw:IL:=[ja 11 9,⟨some 4,.allocN 4 [.int .i64 0],none⟩,jo 1 4 11]
abbrev Ix:IL:=[ja 12 3,⟨some 13,.val (.iaddr 1 (some 3) (.t 1) (.t 12)),none⟩,jc 14 13,Ei 15 147 1 4,ye 16 133 14 15]
abbrev Iy:IL:=[je 2]
abbrev Iz:IL:=[jn 17 9 1,ja 9 17]
abbrev NM:RC:=.gho (.drop 4) (jQ Iv (.seq (jX 10 2) (.seq (.block 3 (jQ Iw (jQ Ix (.cond (.t 16) (jQ Iy (.ret)) (.skip))))) (.reg Iz))))
abbrev R6:IL:=[jn 18 5 1,ja 5 18]
abbrev IA:RC:=.gho (.drop 4) (jQ Is (.seq (jX 6 0) (.seq (.block 1 (jQ It (jQ Iu (.block 2 (.loop NM))))) (.reg R6))))
abbrev R7:IL:=[yb 2]
abbrev IB:RC:=jQ Iq (.seq (jQ Ir (.block 0 (.loop IA))) (jQ R7 (.ret)))
abbrev H6:List RR:=[.tmp 2]
theorem IC:CT 100 19 IB H6:=ck Tryz.func100 Tryz.ntmps100 (by decide +kernel)
abbrev ID:IL:=[jg 1 1 0,⟨some 2,.val (.mov (.c (.nilm))),none⟩]
abbrev IE:IL:=[⟨some 9,.mkm 9,none⟩,⟨some 3,.allocN 3 [.nilm],none⟩,jo 1 3 9]
abbrev IF:IL:=[jb 10 0 1,jc 11 10,jk 12 1 11,jn 13 12 1,jd 14 0]
abbrev IG:IL:=[jr 15 14 13]
abbrev IH:IL:=[jb 16 0 1,jc 17 16,jk 18 1 17,jd 19 0]
abbrev II:IL:=[jr 20 19 18]
abbrev IJ:IL:=[jl 21 5 17 19,jj 22 5 21,ze 5 5,jo 5 5 22]
abbrev IK:IL:=[jj 24 3 1,jb 25 0 5,jc 26 25,jx 27 148 24 26,ja 23 27,jz 28 23 0,jz 29 23 1,ze 6 6,jo 5 6 28,ja 7 29]
abbrev IM:IL:=[jj 30 5 6,js 31 149 30,Ei 32 150 1 3,ye 33 133 31 32,ja 8 33]
abbrev IN:IL:=[ja 34 8,jy 35 34]
abbrev R8:IL:=[jc 36 3,jb 37 0 5,jc 38 37,⟨none,.mput (.t 36) (.t 38) (.c (.bool true)),none⟩]
abbrev R9:IL:=[jn 39 19 1,ja 19 39]
abbrev NN:RC:=.gho (.drop 6) (.gho (.drop 5) (jQ II (.seq (jX 20 2) (.seq (.block 3 (jQ IJ (jQ IK (jQ IM (jQ IN (.cond (.t 35) (.reg R8) (.skip))))))) (.reg R9)))))
abbrev Sa:IL:=[jn 40 14 1,ja 14 40]
abbrev IP:RC:=.gho (.drop 6) (.gho (.drop 5) (jQ IG (.seq (jX 15 0) (.seq (.block 1 (jQ IH (.block 2 (.loop NN)))) (.reg Sa)))))
abbrev Sb:IL:=[jc 41 3,ja 2 41]
abbrev IQ:RC:=jQ ID (jQ IE (.seq (jQ IF (.block 0 (.loop IP))) (jQ Sb (.ret))))
abbrev IR:List RR:=[.tmp 2]
theorem IS:CT 101 42 IQ IR:=ck Tryz.func101 Tryz.ntmps101 (by decide +kernel)
def NO:IL:=[jg 3 3 0,jg 4 4 1,yp 6]
def NP:IL:=[jb 11 0 4,jc 12 11,⟨some 13,.val (.build [.str [],.int .i64 0,.nils] [(0,1,(.t 12)),(1,1,(.c (.int .i64 (-1))))]),none⟩,jg 14 14 13,ja 7 14]
def NQ:IL:=[ja 15 7,jb 16 0 4,jc 17 16,js 18 151 17,yc 19 98 15 18 8]
def H7:IL:=[ja 20 7,jb 21 1 4,jc 22 21,jk 23 1 22,DM 24 23 64,ja 25 24,jf 26 2 4 25,jp 27 26 25,ya 28 1 27 25,jf 29 3 4 25,jp 30 29 25,ya 31 1 30 25,⟨some 32,.val (.mnx true (.t 28) (.t 31)),(some (25,true))⟩,yn 33 32 16 25,ji 34 25 33,yc 35 98 20 34 3]
def NR:IL:=[jb 36 1 4,jc 37 36,jk 38 1 37,jd 39 0]
def NS:IL:=[jr 40 39 38]
def NT:IL:=[ja 41 39,ja 8 41]
def NU:IL:=[ja 42 7,jj 43 3 3,jj 44 5 4,ja 45 8,⟨some 46,.callF (.f 152) [(.t 42),(.t 43),(.t 44),(.t 45)],none⟩]
def NV:IL:=[jn 47 39 1,ja 39 47]
def H8:RC:=jQ NS (.seq (jX 40 0) (.seq (.block 1 (jQ NT (.reg NU))) (.reg NV)))
def NW:IL:=[ja 48 7,jb 49 2 4,jc 50 49,yt 51 153 48 50 1 65535]
def DQ:IL:=[jb 52 3 4,jc 53 52,jk 54 1 53,jd 55 0]
def DR:IL:=[jr 56 55 54]
def DS:IL:=[jl 57 1 53 55,jc 58 57,ja 10 58]
def DT:IL:=[ja 59 7,ja 60 10,js 61 89 60,yc 62 98 59 61 7]
def DU:IL:=[jn 63 55 1,ja 55 63]
def H9:RC:=jQ DR (.seq (jX 56 2) (.seq (.block 3 (jQ DS (.reg DT))) (.reg DU)))
def DV:IL:=[ja 64 7,jb 65 4 4,jc 66 65,yc 67 154 64 66 1]
def DW:IL:=[ja 68 7,jj 69 3 3,jj 70 5 4,ja 71 2,H1 72 155 69 70 71,jy 73 72,yc 74 98 68 73 19]
def DX:IL:=[ja 75 7,yq 76 75,jb 77 2 76,jc 78 77,ja 6 78]
def C9:RC:=jQ NO (jQ NP (.gho (.vecc 14 2 1100 3) (jQ NQ (jQ H7 (.seq (jQ NR (.block 0 (.loop H8))) (jQ NW (.seq (jQ DQ (.block 2 (.loop H9))) (jQ DV (jQ DW (jQ DX (.ret)))))))))))
def Ma:List RR:=[.tmp 6]
theorem IU:CT 102 79 C9 Ma:=ck Tryz.func102 Tryz.ntmps102 (by decide +kernel)
abbrev IV:IL:=[jd 4 0]
abbrev IW:IL:=[ja 6 0,jk 7 1 6,jd 8 0]
abbrev IX:IL:=[jr 9 8 7]
abbrev IY:IL:=[ja 10 8,ja 5 10]
abbrev IZ:IL:=[ja 11 1,ja 12 0,ja 13 5,jl 14 5 12 13,jj 15 5 14,zv 16 11 15]
abbrev I0:IL:=[ja 17 5,ja 4 17]
abbrev I1:IL:=[jn 18 8 1,ja 8 18]
abbrev I2:RC:=jQ IX (.seq (jX 9 0) (.seq (.block 1 (jQ IY (jQ IZ (.cond (.t 16) (jQ I0 (.ret)) (.skip))))) (.reg I1)))
abbrev I3:IL:=[jd 4 (-1)]
abbrev I4:RC:=jQ IV (.seq (jQ IW (.block 0 (.loop I2))) (jQ I3 (.ret)))
abbrev I5:List RR:=[.tmp 4]
theorem I6:CT 105 19 I4 I5:=ck Tryz.func105 Tryz.ntmps105 (by decide +kernel)
abbrev I7:IL:=[jg 3 3 1,jd 4 0]
abbrev I8:IL:=[ja 5 0,zu 6 160 3,ye 7 159 5 6,ja 4 7]
abbrev I9:RC:=jQ I7 (jQ I8 (.ret))
abbrev La:List RR:=[.tmp 4]
theorem Lb:CT 109 8 I9 La:=ck Tryz.func109 Tryz.ntmps109 (by decide +kernel)
abbrev Lc:IL:=[jd 4 0]
abbrev Ld:IL:=[ja 6 0,jk 7 1 6,jd 8 0]
abbrev Le:IL:=[jr 9 8 7]
abbrev Lf:IL:=[ja 10 8,ja 5 10]
abbrev Lg:IL:=[ja 11 1,ja 12 0,ja 13 5,jl 14 8 12 13,jj 15 8 14,zv 16 11 15]
abbrev Lh:IL:=[ja 17 5,ja 4 17]
abbrev Li:IL:=[jn 18 8 1,ja 8 18]
abbrev Lj:RC:=jQ Le (.seq (jX 9 0) (.seq (.block 1 (jQ Lf (jQ Lg (.cond (.t 16) (jQ Lh (.ret)) (.skip))))) (.reg Li)))
abbrev Lk:IL:=[jd 4 (-1)]
abbrev Ll:RC:=jQ Lc (.seq (jQ Ld (.block 0 (.loop Lj))) (jQ Lk (.ret)))
abbrev Lm:List RR:=[.tmp 4]
theorem QqL:CT 164 19 Ll Lm:=ck Tryz.func164 Tryz.ntmps164 (by decide +kernel)
abbrev Ln:IL:=[je 4]
abbrev Lo:IL:=[ja 5 0,ja 6 1,ye 7 178 5 6,yd 8 7 0,ja 4 8]
abbrev Lp:RC:=jQ Ln (jQ Lo (.ret))
abbrev Lq:List RR:=[.tmp 4]
theorem Lr:CT 133 9 Lp Lq:=ck Tryz.func133 Tryz.ntmps133 (by decide +kernel)
abbrev Lt:IL:=[jg 2 2 0,jg 3 3 1,ze 4 4,je 5]
abbrev Lu:IL:=[jb 7 0 2,jc 8 7,zu 9 188 3,ye 10 105 8 9,ja 6 10]
abbrev Lv:IL:=[ja 11 6,yl 12 11 0]
abbrev Lw:IL:=[⟨some 13,.val (.build [.str [],.nils,.nils,.nils,.nils] []),none⟩,jo 5 4 13,je 5]
abbrev Lx:IL:=[jb 14 0 2,jc 15 14,ja 16 6,jl 17 5 15 16,jj 18 5 17,jo 5 4 18,yb 5]
abbrev Ly:RC:=jQ Lt (jQ Lu (.seq (jQ Lv (.cond (.t 12) (jQ Lw (.ret)) (.skip))) (jQ Lx (.ret))))
abbrev Lz:List RR:=[.cell 4 (some 5),.tmp 5]
theorem LA:CT 148 19 Ly Lz:=ck Tryz.func148 Tryz.ntmps148 (by decide +kernel)
abbrev LB:IL:=[jg 1 1 0,yp 2]
abbrev LC:IL:=[yp 3]
abbrev LD:IL:=[jb 6 1 1,jc 7 6,jk 8 1 7,jd 9 0]
abbrev LF:IL:=[jr 10 9 8]
abbrev LG:IL:=[jl 11 16 7 9,jj 12 16 11,zt 5 5,jo 16 5 12]
abbrev LH:IL:=[jb 13 2 5,jc 14 13,ju 15 14 1,ja 16 15,jf 17 4 5 16,jf 18 0 17 16,jp 19 18 16,za 20 19 10 16,ji 21 16 20]
abbrev LI:IL:=[ja 22 3,jb 23 4 5,jb 24 1 23,jc 25 24,zy 26 1 1 0 1 25,yg 27 1 16 9 22 26,ja 3 27]
abbrev LJ:IL:=[jn 28 9 1,ja 9 28]
abbrev LK:RC:=.gho (.drop 5) (jQ LF (.seq (jX 10 0) (.seq (.block 1 (jQ LG (jQ LH (.cond (.t 21) (.reg LI) (.skip))))) (.reg LJ))))
abbrev LL:IL:=[ja 29 3,ja 2 29]
abbrev LM:RC:=jQ LB (jQ LC (.gho (.vec 3 3 1) (.seq (jQ LD (.block 0 (.loop LK))) (jQ LL (.ret)))))
abbrev LN:List RR:=[.tmp 2]
theorem LO:CT 149 30 LM LN:=ck Tryz.func149 Tryz.ntmps149 (by decide +kernel)
abbrev LP:IL:=[je 2]
abbrev LQ:IL:=[ja 3 0,js 4 132 3,ja 5 4,jh 6 0 5,⟨some 7,.call (.f 134) [(.t 6),(.c (.str [46]))],(some (5,true))⟩,⟨some 8,.callF (.f 133) [(.t 7),(.f 135)],(some (5,true))⟩,yx 9 8 5,ji 10 5 9,ja 2 10]
abbrev LR:RC:=jQ LP (jQ LQ (.ret))
abbrev LS:List RR:=[.tmp 2]
theorem LU:CT 151 11 LR LS:=ck Tryz.func151 Tryz.ntmps151 (by decide +kernel)
def NX:IL:=[jg 5 5 1,jg 6 6 2]
def NY:IL:=[jb 9 1 6,jc 10 9,ja 11 3,jl 12 16 10 11,jj 13 16 12,zt 8 8,jo 16 8 13]
def NZ:IL:=[ja 14 0,jb 15 0 8,jc 16 15,yq 17 14,jb 18 1 17,jo 1 18 16]
def Ga:IL:=[ja 19 0,jb 20 0 8,jc 21 20,yd 22 21 1,ja 23 22,jf 24 0 8 23,jp 25 24 23,yn 26 25 65535 23,ji 27 23 26,yc 28 98 19 27 6]
def YQ:IL:=[ja 29 0,ja 30 3,ju 31 30 0,ja 32 31,jm 33 0 8 32,ys 34 0 8 33 32,jm 35 1 6 32,ys 36 0 6 35 32,jw 37 3 32,DO 38 37 1 32,zb 39 16 36 38 32,jm 40 0 39 32,zd 41 40 32,Nl 42 34 41 32,jq 43 32 42,yc 44 98 29 43 11]
def Gb:IL:=[ja 45 0,jb 46 1 8,jc 47 46,js 48 156 47,yc 49 98 45 48 8]
def Gc:IL:=[ja 50 0,jb 51 1 6,jc 52 51,ja 53 3,⟨some 54,.callF (.f 189) [(.t 52),(.t 53),(.f 190)],none⟩,jy 55 54,yc 56 98 50 55 9]
def Gd:IL:=[ja 57 0,jb 58 2 6,jc 59 58,jb 60 0 8,jc 61 60,jx 62 142 59 61,jy 63 62,ja 64 63,jf 65 3 6 64,jp 66 65 64,jf 67 1 8 64,jp 68 67 64,YN 69 36 66 68 64,yx 70 69 64,ji 71 64 70,yc 72 98 57 71 21]
def Ge:IL:=[ja 73 0,jb 74 2 8,jc 75 74,yd 76 75 1,ja 77 76,jf 78 2 8 77,jp 79 78 77,yn 80 79 5 77,ji 81 77 80,ja 82 81,jf 83 2 8 82,jp 84 83 82,jf 85 3 8 82,jp 86 85 82,YN 87 191 84 86 82,ji 88 82 87,yc 89 98 73 88 1]
def Gf:IL:=[ja 90 0,jj 91 3 5,jj 92 16 8,jx 93 192 91 92,yc 94 98 90 93 12]
def Ue:IL:=[ja 95 0,jj 96 5 6,ja 97 3,jx 98 193 96 97,yc 99 98 95 98 15]
def Uf:IL:=[ja 100 0,jj 101 3 5,jj 102 16 8,jx 103 194 101 102,yc 104 98 100 103 1]
def Ug:IL:=[ja 105 0,jb 106 15 8,jc 107 106,yc 108 154 105 107 2]
def DY:IL:=[ja 109 0,yq 110 109,jb 111 1 110,⟨none,.store 1 (.t 111) (.c (.int .i64 (-1))),none⟩]
def Mb:RC:=jQ NX (jQ NY (jQ NZ (jQ Ga (jD YQ (jQ Gb (jQ Gc (jQ Gd (jQ Ge (jQ Gf (jQ Ue (jQ Uf (jQ Ug (.reg DY)))))))))))))
def Mc:List RR:=[]
theorem LV:CT 152 112 Mb Mc:=ck Tryz.func152 Tryz.ntmps152 (by decide +kernel)
def N0:IL:=[ja 10 1,jk 11 1 10,jd 12 0]
def N1:IL:=[jr 13 12 11]
def N2:IL:=[ja 14 12,jl 15 2 10 12,jj 16 2 15,⟨some 9,.allocN 9 [.int .i64 0,.int .i64 0],none⟩,ja 8 14,jo 2 9 16]
def Gg:IL:=[ja 17 0,jb 18 0 9,jc 19 18,ja 20 2,⟨some 21,.val (.bin .num .geq (.t 19) (.t 20)),none⟩,ja 22 21,jf 23 1 9 22,jp 24 23 22,jh 25 3 22,US 26 24 25 22,ji 27 22 26,ja 28 27,jf 29 0 9 28,jp 30 29 28,jf 31 1 9 28,jp 32 31 28,US 33 30 32 28,ji 34 28 33,yc 35 98 17 34 6]
def YR:IL:=[ja 36 0,ja 37 8,ju 38 37 0,ja 39 38,jm 40 0 9 39,ys 41 0 9 40 39,jw 42 1 39,jw 43 8 39,DO 44 43 1 39,zb 45 2 42 44 39,jm 46 1 45 39,zd 47 46 39,Nl 48 41 47 39,jq 49 39 48,yc 50 98 36 49 11]
def N3:IL:=[jn 51 12 1,ja 12 51]
def LW:RC:=.gho (.drop 9) (jQ N1 (.seq (jX 13 0) (.seq (.block 1 (jQ N2 (jQ Gg (.draw YR)))) (.reg N3))))
def Md:RC:=jQ N0 (.block 0 (.loop LW))
def Me:List RR:=[]
theorem LX:CT 153 52 Md Me:=ck Tryz.func153 Tryz.ntmps153 (by decide +kernel)
abbrev LY:IL:=[ja 7 1,ja 8 2,jx 9 94 7 8,ja 6 9]
abbrev LZ:IL:=[ja 10 0,ja 11 6,ju 12 11 0,ja 13 6,⟨some 14,.callF (.f 98) [(.t 10),(.t 12),(.t 13)],none⟩]
abbrev L0:RC:=jQ LY (.reg LZ)
abbrev L5:List RR:=[]
theorem Mf:CT 154 15 L0 L5:=ck Tryz.func154 Tryz.ntmps154 (by decide +kernel)
abbrev L6:IL:=[jg 3 3 0,jg 4 4 1,jg 5 5 2,je 6]
abbrev L7:IL:=[jj 7 5 4,js 8 149 7,Ei 9 195 3 5,ye 10 133 8 9,ja 6 10]
abbrev L8:RC:=jQ L6 (jQ L7 (.ret))
abbrev L9:List RR:=[.tmp 6]
theorem Qaa:CT 155 11 L8 L9:=ck Tryz.func155 Tryz.ntmps155 (by decide +kernel)
abbrev Qab:IL:=[je 2]
abbrev Qac:IL:=[ja 3 0,js 4 137 3,ja 5 4,jh 6 0 5,HZ 7 135 6 5,yx 8 7 5,ji 9 5 8,ja 2 9]
abbrev Qad:RC:=jQ Qab (jQ Qac (.ret))
abbrev Qae:List RR:=[.tmp 2]
theorem Qaf:CT 156 10 Qad Qae:=ck Tryz.func156 Tryz.ntmps156 (by decide +kernel)
abbrev Qag:IL:=[jg 3 3 1,je 4]
abbrev Qah:IL:=[ja 5 0,zu 6 184 3,ye 7 183 5 6,ja 4 7]
abbrev Qai:RC:=jQ Qag (jQ Qah (.ret))
abbrev Qaj:List RR:=[.tmp 4]
theorem Qak:CT 142 8 Qai Qaj:=ck Tryz.func142 Tryz.ntmps142 (by decide +kernel)
abbrev Qal:IL:=[jd 4 0]
abbrev Qam:IL:=[ja 6 0,jk 7 1 6,jd 8 0]
abbrev Qan:IL:=[jr 9 8 7]
abbrev Qao:IL:=[ja 10 8,ja 5 10]
abbrev Qap:IL:=[ja 11 1,ja 12 0,ja 13 5,jl 14 8 12 13,jj 15 8 14,zv 16 11 15]
abbrev Qaq:IL:=[ja 17 5,ja 4 17]
abbrev Qar:IL:=[jn 18 8 1,ja 8 18]
abbrev Qas:RC:=jQ Qan (.seq (jX 9 0) (.seq (.block 1 (jQ Qao (jQ Qap (.cond (.t 16) (jQ Qaq (.ret)) (.skip))))) (.reg Qar)))
abbrev Qat:IL:=[jd 4 (-1)]
abbrev Qau:RC:=jQ Qal (.seq (jQ Qam (.block 0 (.loop Qas))) (jQ Qat (.ret)))
abbrev Qav:List RR:=[.tmp 4]
theorem Qaw:CT 159 19 Qau Qav:=ck Tryz.func159 Tryz.ntmps159 (by decide +kernel)
abbrev Qax:IL:=[jd 4 0]
abbrev Qay:IL:=[ja 6 0,jk 7 1 6,jd 8 0]
abbrev Qaz:IL:=[jr 9 8 7]
abbrev QaA:IL:=[ja 10 8,ja 5 10]
abbrev QaB:IL:=[ja 11 1,ja 12 0,ja 13 5,jl 14 1 12 13,jc 15 14,zv 16 11 15]
abbrev QaC:IL:=[ja 17 5,ja 4 17]
abbrev QaD:IL:=[jn 18 8 1,ja 8 18]
abbrev QaE:RC:=jQ Qaz (.seq (jX 9 0) (.seq (.block 1 (jQ QaA (jQ QaB (.cond (.t 16) (jQ QaC (.ret)) (.skip))))) (.reg QaD)))
abbrev QaF:IL:=[jd 4 (-1)]
abbrev QaG:RC:=jQ Qax (.seq (jQ Qay (.block 0 (.loop QaE))) (jQ QaF (.ret)))
abbrev QaH:List RR:=[.tmp 4]
theorem QaI:CT 178 19 QaG QaH:=ck Tryz.func178 Tryz.ntmps178 (by decide +kernel)
abbrev QaJ:IL:=[jg 2 2 0,je 3]
abbrev QaK:IL:=[jb 4 0 2,jc 5 4,jc 6 1,yf 7 5 6,ja 3 7]
abbrev QaL:RC:=jQ QaJ (jQ QaK (.ret))
abbrev QaM:List RR:=[.tmp 3]
theorem QaN:CT 188 8 QaL QaM:=ck Tryz.func188 Tryz.ntmps188 (by decide +kernel)
abbrev QaO:IL:=[je 2]
abbrev QaP:IL:=[ja 5 0,⟨some 6,.call (.f 134) [(.t 5),(.c (.str [46]))],none⟩,jk 7 1 6,jd 8 0]
abbrev QaQ:IL:=[jr 9 8 7]
abbrev QaR:IL:=[jl 10 1 6 8,jc 11 10,ja 4 11]
abbrev QaS:IL:=[ja 12 4,js 13 137 12,jy 14 13]
abbrev QaT:IL:=[je 2]
abbrev QaU:IL:=[jn 15 8 1,ja 8 15]
abbrev QaV:RC:=jQ QaQ (.seq (jX 9 0) (.seq (.block 1 (jQ QaR (jQ QaS (.cond (.t 14) (jQ QaT (.ret)) (.skip))))) (.reg QaU)))
abbrev QaW:IL:=[ja 16 0,jk 17 0 16,DM 18 17 120,ja 2 18]
abbrev QaX:RC:=jQ QaO (.seq (jQ QaP (.block 0 (.loop QaV))) (jQ QaW (.ret)))
abbrev QaY:List RR:=[.tmp 2]
theorem QaZ:CT 132 19 QaX QaY:=ck Tryz.func132 Tryz.ntmps132 (by decide +kernel)
abbrev Qa0:IL:=[yp 4]
abbrev Qa1:IL:=[ja 5 0,ja 6 1,⟨some 7,.call (.f 179) [(.t 5),(.t 6),(.c (.int .i64 0)),(.c (.int .i64 (-1)))],none⟩,ja 4 7]
abbrev Qa2:RC:=jQ Qa0 (jQ Qa1 (.ret))
abbrev Qa3:List RR:=[.tmp 4]
theorem Qa4:CT 134 8 Qa2 Qa3:=ck Tryz.func134 Tryz.ntmps134 (by decide +kernel)
abbrev Qa5:IL:=[je 2]
abbrev Qa6:IL:=[ja 3 0]
abbrev Qa7:IL:=[⟨some 5,.val (.bin .str .eql (.t 3) (.c (.str [109,101,115,115,97,103,101]))),none⟩,ja 4 5]
abbrev Qa8:IL:=[⟨some 6,.val (.bin .str .eql (.t 3) (.c (.str [101,110,117,109]))),none⟩,ja 4 6]
abbrev Qa9:IL:=[⟨some 7,.val (.bin .str .eql (.t 3) (.c (.str [115,101,114,118,105,99,101]))),none⟩,ja 4 7]
abbrev Qba:IL:=[⟨some 8,.val (.bin .str .eql (.t 3) (.c (.str [117,110,105,111,110]))),none⟩,ja 4 8]
abbrev Qbb:IL:=[⟨some 9,.val (.bin .str .eql (.t 3) (.c (.str [109,97,112]))),none⟩,ja 4 9]
abbrev Qbc:IL:=[⟨some 10,.val (.bin .str .eql (.t 3) (.c (.str [108,105,115,116]))),none⟩,ja 4 10]
abbrev Qbd:IL:=[⟨some 11,.val (.bin .str .eql (.t 3) (.c (.str [114,101,113,117,105,114,101,100]))),none⟩,ja 4 11]
abbrev Qbe:IL:=[⟨some 12,.val (.bin .str .eql (.t 3) (.c (.str [111,112,116,105,111,110,97,108]))),none⟩,ja 4 12]
abbrev Sc:IL:=[⟨some 13,.val (.bin .str .eql (.t 3) (.c (.str [112,108,97,105,110]))),none⟩,ja 4 13]
abbrev Sd:IL:=[⟨some 14,.val (.bin .str .eql (.t 3) (.c (.str [100,101,102,97,117,108,116]))),none⟩,ja 4 14]
abbrev Se:IL:=[⟨some 15,.val (.bin .str .eql (.t 3) (.c (.str [114,101,115,101,114,118,101,100]))),none⟩,ja 4 15]
abbrev Sf:IL:=[yb 2]
abbrev Sg:IL:=[⟨some 17,.val (.bin .str .eql (.t 3) (.c (.str [105,109,112,111,114,116]))),none⟩,ja 16 17]
abbrev Sh:IL:=[⟨some 18,.val (.bin .str .eql (.t 3) (.c (.str [115,112,97,99,101]))),none⟩,ja 16 18]
abbrev Si:IL:=[⟨some 19,.val (.bin .str .eql (.t 3) (.c (.str [114,112,99]))),none⟩,ja 16 19]
abbrev Sj:IL:=[⟨some 20,.val (.bin .str .eql (.t 3) (.c (.str [115,116,114,101,97,109]))),none⟩,ja 16 20]
abbrev Sk:IL:=[⟨some 21,.val (.bin .str .eql (.t 3) (.c (.str [114,101,116,117,114,110,115]))),none⟩,ja 16 21]
abbrev Sl:IL:=[⟨some 22,.val (.bin .str .eql (.t 3) (.c (.str [111,112,101,110]))),none⟩,ja 16 22]
abbrev Sm:IL:=[⟨some 23,.val (.bin .str .eql (.t 3) (.c (.str [116,114,117,101]))),none⟩,ja 16 23]
abbrev Sn:IL:=[⟨some 24,.val (.bin .str .eql (.t 3) (.c (.str [102,97,108,115,101]))),none⟩,ja 16 24]
abbrev Sp:IL:=[⟨some 25,.val (.bin .str .eql (.t 3) (.c (.str [110,97,110]))),none⟩,ja 16 25]
abbrev Sq:IL:=[⟨some 26,.val (.bin .str .eql (.t 3) (.c (.str [105,110,102]))),none⟩,ja 16 26]
abbrev Sr:IL:=[yb 2]
abbrev Ss:IL:=[je 2]
abbrev Qbf:RC:=jQ Qa5 (.seq (jQ Qa6 (.block 0 (.seq (jQ Qa7 (.cond (.t 4) (.skip) (jQ Qa8 (.cond (.t 4) (.skip) (jQ Qa9 (.cond (.t 4) (.skip) (jQ Qba (.cond (.t 4) (.skip) (jQ Qbb (.cond (.t 4) (.skip) (jQ Qbc (.cond (.t 4) (.skip) (jQ Qbd (.cond (.t 4) (.skip) (jQ Qbe (.cond (.t 4) (.skip) (jQ Sc (.cond (.t 4) (.skip) (jQ Sd (.cond (.t 4) (.skip) (.reg Se))))))))))))))))))))) (.cond (.t 4) (jQ Sf (.ret)) (.seq (jQ Sg (.cond (.t 16) (.skip) (jQ Sh (.cond (.t 16) (.skip) (jQ Si (.cond (.t 16) (.skip) (jQ Sj (.cond (.t 16) (.skip) (jQ Sk (.cond (.t 16) (.skip) (jQ Sl (.cond (.t 16) (.skip) (jQ Sm (.cond (.t 16) (.skip) (jQ Sn (.cond (.t 16) (.skip) (jQ Sp (.cond (.t 16) (.skip) (.reg Sq))))))))))))))))))) (.cond (.t 16) (jQ Sr (.ret)) (.skip))))))) (jQ Ss (.ret)))
abbrev Qbg:List RR:=[.tmp 2]
theorem Mg:CT 135 27 Qbf Qbg:=ck Tryz.func135 Tryz.ntmps135 (by decide +kernel)
abbrev Qbh:IL:=[jg 3 3 0,jg 4 4 1,jg 5 5 2,je 6]
abbrev Qbi:IL:=[jc 7 3,jc 8 4,MW 9 16 7 8,⟨some 10,.val (.mkfn (.func 220) [] [(.t 5),(.t 3),(.t 4)]),none⟩,ye 11 219 9 10,ja 6 11]
abbrev Qbj:RC:=jQ Qbh (jQ Qbi (.ret))
abbrev Qbk:List RR:=[.tmp 6]
theorem Qbl:CT 189 12 Qbj Qbk:=ck Tryz.func189 Tryz.ntmps189 (by decide +kernel)
abbrev Qbm:IL:=[je 4]
abbrev Qbn:IL:=[ja 5 0,yo 6 5 5]
abbrev Qbo:IL:=[ja 7 1,ju 8 7 0,ja 4 8]
abbrev Qbp:IL:=[ja 9 1,yd 10 9 1,ja 11 10,jh 12 1 11,yn 13 12 7 11,ji 14 11 13,ja 15 14,jh 16 1 15,zw 17 16 6 15,ji 18 15 17,ja 4 18]
abbrev Qbq:RC:=jQ Qbm (.seq (jQ Qbn (.cond (.t 6) (jQ Qbo (.ret)) (.skip))) (jQ Qbp (.ret)))
abbrev Qbr:List RR:=[.tmp 4]
theorem Qbs:CT 191 19 Qbq Qbr:=ck Tryz.func191 Tryz.ntmps191 (by decide +kernel)
abbrev Qbt:IL:=[jg 2 2 0,jg 3 3 1,je 4]
abbrev Qbu:IL:=[jb 10 4 3,jb 11 0 10,jc 12 11,yd 13 12 1,ja 14 13,jf 15 4 3 14,jf 16 0 15 14,jp 17 16 14,yn 18 17 8 14,ji 19 14 18,ja 9 19]
abbrev Qbv:IL:=[jb 20 4 3,jb 21 1 20,jc 22 21,Nm 23 22,ja 4 23]
abbrev Qbw:IL:=[jb 25 4 3,jb 26 0 25,jc 27 26,ju 28 27 9,ja 24 28]
abbrev Qbx:IL:=[jj 30 3 2,jb 31 4 3,jb 32 1 31,jc 33 32,jx 34 221 30 33,ja 29 34,jz 35 29 0,jz 36 29 1,zm 5 5,jo 5 5 35,ja 6 36]
abbrev Qby:IL:=[ja 37 6,ja 4 37]
abbrev Qbz:IL:=[jb 39 4 3,jb 40 0 39,jc 41 40,ju 42 41 10,ja 38 42]
abbrev QbA:IL:=[jj 44 3 2,jb 45 4 3,jb 46 1 45,jc 47 46,jx 48 148 44 47,ja 43 48,jz 49 43 0,jz 50 43 1,ze 7 7,jo 5 7 49,ja 8 50]
abbrev QbB:IL:=[ja 51 8,ja 52 51,jf 53 2 3 52,jp 54 53 52,zw 55 54 3 52,ji 56 52 55,ja 4 56]
abbrev QbC:IL:=[je 4]
abbrev QbD:RC:=jQ Qbt (.seq (.block 0 (jQ Qbu (.cond (.t 9) (jQ Qbv (.ret)) (jQ Qbw (.cond (.t 24) (jQ Qbx (jQ Qby (.ret))) (jQ Qbz (.cond (.t 38) (jQ QbA (jQ QbB (.ret))) (.skip)))))))) (jQ QbC (.ret)))
abbrev QbE:List RR:=[.tmp 4]
theorem QbF:CT 192 57 QbD QbE:=ck Tryz.func192 Tryz.ntmps192 (by decide +kernel)
abbrev QbG:IL:=[jg 2 2 0,je 4]
abbrev QbH:IL:=[jb 7 1 2,jc 8 7,ja 9 1,jl 10 16 8 9,jj 11 16 10,zt 5 5,jo 16 5 11]
abbrev QbI:IL:=[jb 12 6 5,jc 13 12,Nm 14 13]
abbrev QbJ:IL:=[yb 4]
abbrev QbK:IL:=[jb 15 2 5,jc 16 15,yo 17 16 2,ja 18 17,jm 19 6 5 18,jv 20 19 18,zg 21 156 20 18,zf 22 21 18,jq 23 18 22,ja 24 23,jm 25 1 2 24,jv 26 25 24,⟨some 27,.val (.mkfn (.func 222) [] [(.t 5)]),(some (24,false))⟩,⟨some 28,.callF (.f 219) [(.t 26),(.t 27)],(some (24,false))⟩,jq 29 24 28]
abbrev QbL:IL:=[je 4]
abbrev QbM:IL:=[jb 30 1 2,jc 31 30,ja 32 1,MW 33 16 31 32,zu 34 223 5,ye 35 219 33 34,ja 6 35]
abbrev QbN:IL:=[ja 36 6,jy 37 36,ja 38 37,jm 39 1 2 38,ys 40 0 2 39 38,jw 41 1 38,DO 42 41 1 38,zb 43 16 40 42 38,jm 44 6 43 38,zd 45 44 38,jm 46 6 5 38,ys 47 0 5 46 38,⟨some 48,.val (.bin .str .eql (.t 45) (.t 47)),(some (38,false))⟩,jq 49 38 48,ja 4 49]
abbrev QbO:RC:=jQ QbG (jQ QbH (.seq (jQ QbI (.cond (.t 14) (jQ QbJ (.ret)) (.skip))) (.seq (jQ QbK (.cond (.t 29) (jQ QbL (.ret)) (.skip))) (jQ QbM (jD QbN (.ret))))))
abbrev QbP:List RR:=[.tmp 4]
theorem QbQ:CT 193 50 QbO QbP:=ck Tryz.func193 Tryz.ntmps193 (by decide +kernel)
abbrev QbR:IL:=[jg 2 2 0,jg 3 3 1,je 4]
abbrev QbS:IL:=[jb 7 7 3,jc 8 7,jy 9 8]
abbrev QbT:IL:=[jb 10 8 3,jj 11 7 10,js 12 224 11,ja 4 12]
abbrev QbU:IL:=[jb 13 2 3,jt 14 0 3 13,yo 15 14 2,ja 16 15,jm 17 6 3 16,ys 18 0 3 17 16,⟨some 19,.val (.bin .str .neq (.t 18) (.c (.str []))),(some (16,false))⟩,jq 20 16 19,ja 21 20,jm 22 4 3 21,jm 23 0 22 21,ys 24 0 3 23 21,jm 25 8 3 21,Nn 26 0 3 7 25 21,zx 27 218 24 26 21,zf 28 27 21,jq 29 21 28,ja 30 29,jm 31 8 3 30,Nn 32 0 3 7 31 30,zg 33 225 32 30,⟨some 34,.val (.fld 1 none (.t 33)),(some (30,false))⟩,jm 35 8 3 30,jm 36 1 35 30,ys 37 0 3 36 30,zj 38 34 37 30,jq 39 30 38]
abbrev QbV:IL:=[je 4]
abbrev QbW:IL:=[jb 40 4 3,jb 41 0 40,jc 42 41,yo 43 42 9]
abbrev QbX:IL:=[yb 4]
abbrev QbY:IL:=[jj 45 3 2,jb 46 4 3,jb 47 1 46,jc 48 47,jx 49 221 45 48,ja 44 49,jz 50 44 0,jz 51 44 1,zm 5 5,jo 5 5 50,ja 6 51]
abbrev QbZ:IL:=[ja 52 6,ja 53 52,jf 54 2 5 53,jp 55 54 53,⟨some 56,.val (.mkfn (.func 226) [] [(.t 3)]),(some (53,true))⟩,⟨some 57,.callF (.f 138) [(.t 55),(.t 56)],(some (53,true))⟩,ji 58 53 57,ja 4 58]
abbrev Qb0:RC:=jQ QbR (.seq (jQ QbS (.cond (.t 9) (jQ QbT (.ret)) (.skip))) (.seq (jD QbU (.cond (.t 39) (jQ QbV (.ret)) (.skip))) (.seq (jQ QbW (.cond (.t 43) (jQ QbX (.ret)) (.skip))) (jQ QbY (jQ QbZ (.ret))))))
abbrev Qb1:List RR:=[.tmp 4]
theorem Qb2:CT 194 59 Qb0 Qb1:=ck Tryz.func194 Tryz.ntmps194 (by decide +kernel)
abbrev QmJ:IL:=[jd 4 0]
abbrev QmK:IL:=[ja 9 0,jk 10 1 9,yr 11 10 8]
abbrev QmL:IL:=[jd 4 3]
abbrev QmM:IL:=[zn 5]
abbrev QmN:IL:=[ja 12 0,jk 13 1 12,jd 14 0]
abbrev QmO:IL:=[jr 15 14 13]
abbrev QmP:IL:=[ja 16 14,jl 17 8 12 14,jj 18 8 17,⟨some 7,.allocN 7 [.str [],.int .i64 0,.int .u64 0,.str [],.nils,.nils,.nils,.nils],none⟩,ja 6 16,jo 8 7 18]
abbrev QmQ:IL:=[jj 19 8 7,ja 20 1,ja 21 5,ja 22 6,yr 23 22 0,⟨some 24,.call (.f 145) [(.t 19),(.t 20),(.t 21),(.t 23)],none⟩,ja 8 24]
abbrev QmR:IL:=[ja 25 8,yo 26 25 0]
abbrev QmS:IL:=[ja 27 8,ja 4 27]
abbrev Qb3:IL:=[jb 28 0 7,jc 29 28,ja 5 29]
abbrev Qb4:IL:=[jn 30 14 1,ja 14 30]
abbrev QmT:RC:=.gho (.drop 7) (jQ QmO (.seq (jX 15 0) (.seq (.block 1 (jQ QmP (.seq (jQ QmQ (jQ QmR (.cond (.t 26) (jQ QmS (.ret)) (.skip)))) (.reg Qb3)))) (.reg Qb4))))
abbrev Qb5:IL:=[jd 4 0]
abbrev r94:RC:=jQ QmJ (.seq (jQ QmK (.cond (.t 11) (jQ QmL (.ret)) (.skip))) (jQ QmM (.seq (jQ QmN (.block 0 (.loop QmT))) (jQ Qb5 (.ret)))))
abbrev o94:List RR:=[.tmp 4]
theorem k94:CT 94 31 r94 o94:=ck Tryz.func94 Tryz.ntmps94 (by decide +kernel)
abbrev Qb6:IL:=[je 2]
abbrev Qb7:IL:=[ja 6 0,⟨some 7,.rngs 7 (.t 6),none⟩]
abbrev Qb8:IL:=[⟨some 8,.nxts (.t 7),none⟩,jz 9 8 0]
abbrev Qb9:IL:=[jz 10 8 1,jz 11 8 2,ja 3 10,ja 4 11]
abbrev Qca:IL:=[ja 12 4,js 13 181 12,ja 5 13]
abbrev Qcb:IL:=[ja 14 5,ju 15 14 0,ja 16 15,jw 17 3 16,zl 18 17 0 16,jw 19 18 16,jh 20 5 19,zw 21 20 1 19,zo 22 19 21 16,jw 23 22 16,jh 24 5 23,zw 25 24 2 23,zo 26 23 25 16,jq 27 16 26]
abbrev Qcc:IL:=[je 2]
abbrev Qcd:RC:=jQ Qb8 (.seq (jX 9 0) (.block 1 (jQ Qb9 (jQ Qca (jQ Qcb (.cond (.t 27) (jQ Qcc (.ret)) (.skip)))))))
abbrev Qce:IL:=[ja 28 0,jk 29 0 28,yd 30 29 1,ja 31 30,jh 32 0 31,ya 33 0 32 31,yn 34 33 40 31,ji 35 31 34,ja 2 35]
abbrev Qcf:RC:=jQ Qb6 (.seq (jQ Qb7 (.block 0 (.loop Qcd))) (jQ Qce (.ret)))
abbrev Qcg:List RR:=[.tmp 2]
theorem Qch:CT 137 36 Qcf Qcg:=ck Tryz.func137 Tryz.ntmps137 (by decide +kernel)
abbrev Qci:IL:=[je 4]
abbrev Qcj:IL:=[ja 5 0,ja 6 1,ye 7 215 5 6,yd 8 7 0,ja 4 8]
abbrev Qck:RC:=jQ Qci (jQ Qcj (.ret))
abbrev Qcl:List RR:=[.tmp 4]
theorem Qcm:CT 183 9 Qck Qcl:=ck Tryz.func183 Tryz.ntmps183 (by decide +kernel)
abbrev Qcn:IL:=[yp 8]
abbrev Qco:IL:=[ja 12 3,ju 13 12 0]
abbrev Qcp:IL:=[yp 8]
abbrev Qcq:IL:=[ja 14 1,Nm 15 14]
abbrev Qcr:IL:=[ja 16 0,ja 17 3,jx 18 212 16 17,ja 8 18]
abbrev Qcs:IL:=[ja 19 3,yl 20 19 0]
abbrev Qct:IL:=[ja 21 0,ja 22 1,jx 23 213 21 22,jn 24 23 1,ja 3 24]
abbrev Qcu:IL:=[ja 25 3,ja 26 0,jk 27 0 26,jn 28 27 1,⟨some 29,.val (.mnx false (.t 25) (.t 28)),none⟩,ja 3 29]
abbrev Qcv:IL:=[ja 30 3,⟨some 31,.mk 31 9 1 16 [.str []] (.t 30) (.t 30),none⟩,ja 9 31]
abbrev Qcw:IL:=[ja 32 3,Nh 33 32 1,ja 3 33]
abbrev Su:IL:=[jd 10 0]
abbrev Sv:IL:=[ja 34 10,ja 35 3,jr 36 34 35]
abbrev Sw:IL:=[ja 37 0,ja 38 1,jx 39 214 37 38,ja 11 39]
abbrev Sx:IL:=[ja 40 11,yl 41 40 0]
abbrev Sy:IL:=[ja 42 9,ja 43 10,ja 44 0,ja 45 11,ja 46 2,zp 47 45 46,⟨some 48,.val (.slc none (.t 44) none (some (.t 47)) none),none⟩,jl 49 1 42 43,jo 1 49 48]
abbrev Sz:IL:=[ja 50 0,ja 51 11,ja 52 1,jk 53 0 52,zp 54 51 53,No 55 50 54,ja 0 55]
abbrev SA:IL:=[ja 56 10,jn 57 56 1,ja 10 57]
abbrev Qcx:RC:=.seq (jQ Sv (jX 36 0)) (.block 1 (jQ Sw (.seq (jQ Sx (.cond (.t 41) (.exit 0) (.skip))) (jQ Sy (jQ Sz (.reg SA))))))
abbrev SB:IL:=[ja 58 9,ja 59 10,ja 60 0,jl 61 1 58 59,jo 1 61 60]
abbrev SD:IL:=[ja 62 9,ja 63 10,jn 64 63 1,MW 65 1 62 64,ja 8 65]
abbrev Qcy:RC:=jQ Qcn (.seq (jQ Qco (.cond (.t 13) (jQ Qcp (.ret)) (.skip))) (.seq (jQ Qcq (.cond (.t 15) (jQ Qcr (.ret)) (.skip))) (.seq (jQ Qcs (.cond (.t 20) (.reg Qct) (.skip))) (jQ Qcu (jQ Qcv (jQ Qcw (jQ Su (.seq (.block 0 (.loop Qcx)) (jQ SB (jQ SD (.ret)))))))))))
abbrev Qcz:List RR:=[.tmp 8]
theorem QcA:CT 179 66 Qcy Qcz:=ck Tryz.func179 Tryz.ntmps179 (by decide +kernel)
abbrev QcB:IL:=[je 4]
abbrev QcC:IL:=[ja 5 0,ja 6 1,ye 7 240 5 6,yd 8 7 0,ja 4 8]
abbrev QcD:RC:=jQ QcB (jQ QcC (.ret))
abbrev QcE:List RR:=[.tmp 4]
theorem QcF:CT 219 9 QcD QcE:=ck Tryz.func219 Tryz.ntmps219 (by decide +kernel)
abbrev QcG:IL:=[jg 1 1 0,je 2]
abbrev QcH:IL:=[jb 3 0 1,jc 4 3,ju 5 4 0,ja 6 5,jf 7 1 1 6,jp 8 7 6,⟨some 9,.val (.bin .num .eql (.t 8) (.c (.int .u64 0))),(some (6,true))⟩,ji 10 6 9,ja 11 10,jf 12 2 1 11,jp 13 12 11,⟨some 14,.val (.bin .str .eql (.t 13) (.c (.str []))),(some (11,true))⟩,ji 15 11 14,ja 16 15,jf 17 3 1 16,jp 18 17 16,ya 19 1 18 16,jf 20 4 1 16,jp 21 20 16,ya 22 1 21 16,zi 23 19 22 16,jf 24 5 1 16,jp 25 24 16,ya 26 1 25 16,zi 27 23 26 16,jf 28 6 1 16,jp 29 28 16,ya 30 1 29 16,zi 31 27 30 16,za 32 31 0 16,ji 33 16 32,ja 2 33]
abbrev QcI:RC:=jQ QcG (jQ QcH (.ret))
abbrev QcJ:List RR:=[.tmp 2]
theorem QcK:CT 224 34 QcI QcJ:=ck Tryz.func224 Tryz.ntmps224 (by decide +kernel)
abbrev QcL:IL:=[jd 2 0]
abbrev QcM:IL:=[ja 4 0,⟨some 5,.val (.bin .num .geq (.t 4) (.c (.int .i32 97))),none⟩,ja 6 5,jh 7 0 6,⟨some 8,.val (.bin .num .leq (.t 7) (.c (.int .i32 122))),(some (6,true))⟩,ji 9 6 8,ja 3 9]
abbrev QcN:IL:=[jd 2 1]
abbrev QcO:IL:=[ja 11 0,⟨some 12,.val (.bin .num .geq (.t 11) (.c (.int .i32 65))),none⟩,ja 13 12,jh 14 0 13,⟨some 15,.val (.bin .num .leq (.t 14) (.c (.int .i32 90))),(some (13,true))⟩,ji 16 13 15,ja 10 16]
abbrev QcP:IL:=[jd 2 2]
abbrev QcQ:IL:=[ja 18 0,⟨some 19,.val (.bin .num .geq (.t 18) (.c (.int .i32 48))),none⟩,ja 20 19,jh 21 0 20,⟨some 22,.val (.bin .num .leq (.t 21) (.c (.int .i32 57))),(some (20,true))⟩,ji 23 20 22,ja 17 23]
abbrev QcR:IL:=[jd 2 3]
abbrev QcS:IL:=[ja 25 0,⟨some 26,.val (.bin .num .eql (.t 25) (.c (.int .i32 95))),none⟩,ja 24 26]
abbrev QcT:IL:=[jd 2 4]
abbrev QcU:IL:=[jd 2 0]
abbrev QcV:RC:=jQ QcL (.seq (.block 0 (jQ QcM (.cond (.t 3) (jQ QcN (.ret)) (jQ QcO (.cond (.t 10) (jQ QcP (.ret)) (jQ QcQ (.cond (.t 17) (jQ QcR (.ret)) (jQ QcS (.cond (.t 24) (jQ QcT (.ret)) (.skip)))))))))) (jQ QcU (.ret)))
abbrev QcW:List RR:=[.tmp 2]
theorem QcX:CT 181 27 QcV QcW:=ck Tryz.func181 Tryz.ntmps181 (by decide +kernel)
abbrev QcY:IL:=[jd 4 0]
abbrev QcZ:IL:=[ja 6 0,jk 7 1 6,jd 8 0]
abbrev Qc0:IL:=[jr 9 8 7]
abbrev Qc1:IL:=[ja 10 8,ja 5 10]
abbrev Qc2:IL:=[ja 11 1,ja 12 0,ja 13 5,jl 14 2 12 13,jj 15 2 14,zv 16 11 15]
abbrev Qc3:IL:=[ja 17 5,ja 4 17]
abbrev Qc4:IL:=[jn 18 8 1,ja 8 18]
abbrev Qc5:RC:=jQ Qc0 (.seq (jX 9 0) (.seq (.block 1 (jQ Qc1 (jQ Qc2 (.cond (.t 16) (jQ Qc3 (.ret)) (.skip))))) (.reg Qc4)))
abbrev Qc6:IL:=[jd 4 (-1)]
abbrev Qc7:RC:=jQ QcY (.seq (jQ QcZ (.block 0 (.loop Qc5))) (jQ Qc6 (.ret)))
abbrev Qc8:List RR:=[.tmp 4]
theorem Qc9:CT 215 19 Qc7 Qc8:=ck Tryz.func215 Tryz.ntmps215 (by decide +kernel)
abbrev Qda:IL:=[jd 4 0]
abbrev Qdb:IL:=[ja 7 1,jk 8 0 7,ju 9 8 0]
abbrev Qdc:IL:=[ja 10 0,js 11 233 10,jn 12 11 1,ja 4 12]
abbrev Qdd:IL:=[ja 13 1,jk 14 0 13,ju 15 14 1]
abbrev Qde:IL:=[ja 16 0,ja 17 1,⟨some 18,.val (.idx (.t 17) (.c (.int .i64 0))),none⟩,⟨some 19,.xb true 235 (.t 16) (.t 18),none⟩,ja 4 19]
abbrev Qdf:IL:=[jd 5 0]
abbrev Qdg:IL:=[ja 20 0,ja 21 1,jx 22 214 20 21,ja 6 22]
abbrev Qdh:IL:=[ja 23 6,ju 24 23 (-1)]
abbrev Qdi:IL:=[ja 25 5,ja 4 25]
abbrev Qdj:IL:=[ja 26 5,jn 27 26 1,ja 5 27]
abbrev SG:IL:=[ja 28 0,ja 29 6,ja 30 1,jk 31 0 30,zp 32 29 31,No 33 28 32,ja 0 33]
abbrev Qdk:RC:=.block 1 (jQ Qdg (.seq (jQ Qdh (.cond (.t 24) (jQ Qdi (.ret)) (.skip))) (jQ Qdj (.reg SG))))
abbrev Qdl:RC:=jQ Qda (.seq (jQ Qdb (.cond (.t 9) (jQ Qdc (.ret)) (.skip))) (.seq (jQ Qdd (.cond (.t 15) (jQ Qde (.ret)) (.skip))) (jQ Qdf (.block 0 (.loop Qdk)))))
abbrev Qdm:List RR:=[.tmp 4]
theorem Qdn:CT 213 34 Qdl Qdm:=ck Tryz.func213 Tryz.ntmps213 (by decide +kernel)
abbrev Qdo:IL:=[jd 4 0]
abbrev Qdp:IL:=[ja 6 0,jk 7 1 6,jd 8 0]
abbrev Qdq:IL:=[jr 9 8 7]
abbrev Qdr:IL:=[ja 10 8,ja 5 10]
abbrev Qds:IL:=[ja 11 1,ja 12 0,ja 13 5,jl 14 16 12 13,jj 15 16 14,zv 16 11 15]
abbrev Qdt:IL:=[ja 17 5,ja 4 17]
abbrev Qdu:IL:=[jn 18 8 1,ja 8 18]
abbrev Qdv:RC:=jQ Qdq (.seq (jX 9 0) (.seq (.block 1 (jQ Qdr (jQ Qds (.cond (.t 16) (jQ Qdt (.ret)) (.skip))))) (.reg Qdu)))
abbrev Qdw:IL:=[jd 4 (-1)]
abbrev Qdx:RC:=jQ Qdo (.seq (jQ Qdp (.block 0 (.loop Qdv))) (jQ Qdw (.ret)))
abbrev Qdy:List RR:=[.tmp 4]
theorem Qdz:CT 240 19 Qdx Qdy:=ck Tryz.func240 Tryz.ntmps240 (by decide +kernel)
def QdA:IL:=[jg 1 1 0,UT 2 2,jd 3 0]
def QdB:IL:=[jj 13 3 1,js 14 10 13,jy 15 14]
def QdC:IL:=[⟨some 16,.val (.build [.nils,.nils] []),none⟩,jo 2 2 16,jd 3 1]
def QdD:IL:=[UT 4 4]
def QdE:IL:=[jd 5 0]
def QdF:IL:=[ja 17 5,jb 18 0 1,jc 19 18,jk 20 1 19,jr 21 17 20]
def QdG:IL:=[jb 24 0 1,jc 25 24,ja 26 5,jl 27 5 25 26,jb 28 1 27,jc 29 28,ja 6 29]
def QdH:IL:=[jb 30 0 1,jt 31 0 1 30,ja 32 5,jl 33 5 31 32,jb 34 0 33,yk 35 34,ja 36 6,js 37 16 36,jk 38 1 37,⟨some 39,.val (.build [.str [],.nils,.int .i64 0] [(0,1,(.t 35)),(2,1,(.t 38))]),none⟩,MX 7 7,yz 0 7 3 7 39]
def QdI:IL:=[jd 8 0]
def Pr:IL:=[ja 40 8,ja 41 6,jk 42 1 41,jr 43 40 42]
def Ps:IL:=[jb 46 1 7,jt 47 0 7 46,yj 48 0 1 3 1,ja 49 6,ja 50 8,H1 51 17 48 49 50,⟨some 52,.bsl 8 1 [.int .i64 0,.str [],.str [],.int .i64 0,.int .i64 0,.int .i64 0,.int .i64 0,.int .i64 0] [(0,8,(.t 51))],none⟩,yg 53 8 80 54 47 52,jb 54 1 7,yz 0 7 1 54 53]
def Pt:IL:=[ja 44 8,jn 45 44 1,ja 8 45]
def Mh:RC:=.seq (jQ Pr (jX 43 2)) (.seq (.block 3 (.draw Ps)) (.reg Pt))
def Pu:IL:=[jb 55 0 4,jc 56 55,jj 57 3 7,⟨some 58,.bsl 3 1 [.str [],.nils,.int .i64 0] [(0,3,(.t 57))],none⟩,yg 59 3 48 45 56 58,jb 60 0 4,jo 1 60 59]
def QdJ:IL:=[ja 22 5,jn 23 22 1,ja 5 23]
def QdK:RC:=.gho (.drop 7) (.seq (jQ QdF (jX 21 0)) (.seq (.block 1 (jQ QdG (jD QdH (.gho (.vecc 7 1 1100 8) (.seq (jQ QdI (.block 2 (.loop Mh))) (.gho (.pubc 7 1 1100) (.reg Pu))))))) (.reg QdJ)))
def Pv:IL:=[jd 9 0]
def Pw:IL:=[ja 61 9,jb 62 1 1,jc 63 62,jk 64 1 63,jr 65 61 64]
def Px:IL:=[jb 68 1 1,jt 69 0 1 68,ja 70 9,jl 71 5 69 70,jb 72 0 71,yk 73 72,jb 74 1 1,jt 75 0 1 74,ja 76 9,jl 77 5 75 76,jb 78 1 77,yk 79 78,⟨some 80,.lit0 2,none⟩,jb 81 1 1,jt 82 0 1 81,ja 83 9,jl 84 5 82 83,jb 85 3 84,yk 86 85,⟨some 87,.appe 2 16 87 (.t 80) (.t 86),none⟩,⟨some 88,.val (.build [.str [],.bool false,.nils,.nils,.nils] [(0,1,(.t 73)),(1,1,(.t 79)),(3,1,(.t 87))]),none⟩,zm 10 10,yz 0 10 5 10 88]
def Py:IL:=[jd 11 0]
def Pz:IL:=[ja 89 11,jb 90 1 1,jc 91 90,ja 92 9,jl 93 5 91 92,jb 94 2 93,jc 95 94,jk 96 1 95,jr 97 89 96]
def PA:IL:=[jb 100 1 1,jc 101 100,ja 102 9,jl 103 5 101 102,jb 104 2 103,jc 105 104,ja 106 11,jl 107 3 105 106,jj 108 3 107,Nj 12 12,jo 3 12 108]
def PC:IL:=[jb 109 2 10,jt 110 0 10 109,jb 111 0 12,jt 112 0 12 111,jb 113 1 12,jt 114 0 12 113,jb 115 2 12,jt 116 0 12 115,js 117 18 116,⟨some 118,.val (.build [.str [],.int .i64 0,.nils] [(0,1,(.t 112)),(1,1,(.t 114)),(2,1,(.t 117))]),none⟩,⟨some 119,.bsl 3 1 [.str [],.int .i64 0,.nils] [(0,3,(.t 118))],none⟩,yg 120 3 48 57 110 119,jb 121 2 10,yz 0 10 1 121 120]
def PD:IL:=[ja 98 11,jn 99 98 1,ja 11 99]
def QdL:RC:=.gho (.drop 12) (.seq (jQ Pz (jX 97 6)) (.seq (.block 7 (jQ PA (.draw PC))) (.reg PD)))
def PF:IL:=[jb 122 1 4,jc 123 122,jj 124 5 10,⟨some 125,.bsl 5 1 [.str [],.bool false,.nils,.nils,.nils] [(0,5,(.t 124))],none⟩,yg 126 5 96 50 123 125,jb 127 1 4,jo 1 127 126]
def PH:IL:=[ja 66 9,jn 67 66 1,ja 9 67]
def QdM:RC:=.gho (.drop 12) (.gho (.drop 10) (.seq (jQ Pw (jX 65 4)) (.seq (.block 5 (jD Px (.gho (.vecc 10 2 1102 3) (.seq (jQ Py (.block 6 (.loop QdL))) (.gho (.pubc 10 2 1102) (.reg PF)))))) (.reg PH))))
def PJ:IL:=[jj 128 2 4,jo 2 2 128,jd 3 0]
def r7:RC:=jQ QdA (.seq (jQ QdB (.cond (.t 15) (jQ QdC (.ret)) (.skip))) (jQ QdD (.gho (.vecc 4 0 1101 3) (.gho (.vecc 4 1 1103 5) (.seq (jQ QdE (.block 0 (.loop QdK))) (.seq (jQ Pv (.block 4 (.loop QdM))) (jQ PJ (.ret))))))))
def o7:List RR:=[.cell 2 (some 2),.tmp 3]
theorem k7:CT 7 129 r7 o7:=ck Tryz.func7 Tryz.ntmps7 (by decide +kernel)
abbrev QqM:IL:=[jg 2 2 0,jg 3 3 1,je 4]
abbrev QqN:IL:=[jb 8 0 2,jc 9 8,jk 10 1 9,jb 11 0 3,jc 12 11,jk 13 1 12,zq 14 10 13,ja 15 14,jf 16 1 2 15,jp 17 16 15,ya 18 1 17 15,jf 19 1 3 15,jp 20 19 15,ya 21 1 20 15,H2 22 18 21 15,ji 23 15 22,ja 5 23]
abbrev QqO:IL:=[jd 6 0]
abbrev QqP:IL:=[ja 24 5,ja 25 24,jh 26 6 25,jf 27 0 2 25,jp 28 27 25,ya 29 1 28 25,zk 30 26 29 25,ji 31 25 30]
abbrev QqQ:IL:=[jb 34 0 2,jt 35 0 2 34,ja 36 6,jl 37 3 35 36,jb 38 0 37,yk 39 38,jb 40 0 3,jt 41 0 3 40,ja 42 6,jl 43 3 41 42,jb 44 0 43,yk 45 44,yf 46 39 45,ja 47 46,jf 48 0 2 47,yh 49 0 2 48 47,jh 50 6 47,yi 51 3 49 50 47,jf 52 2 51 47,yu 53 52 47,jf 54 0 3 47,yh 55 0 3 54 47,jh 56 6 47,yi 57 3 55 56 47,jf 58 2 57 47,yu 59 58 47,H2 60 53 59 47,ji 61 47 60,ja 62 61,jf 63 0 2 62,yh 64 0 2 63 62,jh 65 6 62,yi 66 3 64 65 62,jf 67 1 66 62,yu 68 67 62,jf 69 0 3 62,yh 70 0 3 69 62,jh 71 6 62,yi 72 3 70 71 62,jf 73 1 72 62,yu 74 73 62,YN 75 19 68 74 62,ji 76 62 75,ja 5 76]
abbrev QqR:IL:=[ja 32 6,jn 33 32 1,ja 6 33]
abbrev QqS:RC:=.seq (jQ QqP (jX 31 0)) (.seq (.block 1 (.draw QqQ)) (.reg QqR))
abbrev QqT:IL:=[jd 7 0]
abbrev QqU:IL:=[ja 77 5,ja 78 77,jh 79 7 78,jf 80 1 2 78,jp 81 80 78,ya 82 1 81 78,zk 83 79 82 78,ji 84 78 83]
abbrev QqV:IL:=[jb 87 1 2,jt 88 0 2 87,ja 89 7,jl 90 5 88 89,ym 91 5 90,jb 92 1 3,jt 93 0 3 92,ja 94 7,jl 95 5 93 94,ym 96 5 95,jx 97 20 91 96,ja 5 97]
abbrev QqW:IL:=[ja 85 7,jn 86 85 1,ja 7 86]
abbrev QqX:RC:=.seq (jQ QqU (jX 84 2)) (.seq (.block 3 (.draw QqV)) (.reg QqW))
abbrev QmU:IL:=[ja 98 5,ja 4 98]
abbrev r8:RC:=jQ QqM (jQ QqN (.seq (jQ QqO (.block 0 (.loop QqS))) (.seq (jQ QqT (.block 2 (.loop QqX))) (jQ QmU (.ret)))))
abbrev o8:List RR:=[.tmp 4]
theorem k8:CT 8 99 r8 o8:=ck Tryz.func8 Tryz.ntmps8 (by decide +kernel)
abbrev QmV:IL:=[jg 1 1 0,je 2]
abbrev QmW:IL:=[jj 3 3 1,js 4 23 3,jk 5 1 4,ju 6 5 0,ja 2 6]
abbrev DZ:RC:=jQ QmV (jQ QmW (.ret))
abbrev Xk:List RR:=[.tmp 2]
theorem k10:CT 10 7 DZ Xk:=ck Tryz.func10 Tryz.ntmps10 (by decide +kernel)
def PK:IL:=[jg 1 1 0,zm 2 2]
def PM:IL:=[jb 9 0 1,jt 10 0 1 9,jb 11 1 1,jt 12 0 1 11,jb 13 3 1,jt 14 0 1 13,js 15 38 14,⟨some 16,.val (.build [.str [],.bool false,.nils,.nils,.nils] [(0,1,(.t 10)),(1,1,(.t 12)),(3,1,(.t 15))]),none⟩,zm 3 3,yz 0 3 5 3 16]
def PP:IL:=[jb 17 2 1,jc 18 17,jk 19 1 18,jd 20 0]
def PQ:IL:=[jr 21 20 19]
def PR:IL:=[jl 22 3 18 20,jj 23 3 22,Nj 5 5,jo 3 5 23]
def PT:IL:=[jb 24 0 5,jc 25 24,jb 26 1 5,jc 27 26,⟨some 28,.val (.build [.str [],.int .i64 0,.nils] [(0,1,(.t 25)),(1,1,(.t 27))]),none⟩,Nj 6 6,jo 3 6 28]
def PU:IL:=[jb 30 2 5,jc 31 30,⟨some 32,.call (.f 39) [(.t 31),(.c (.str [97,108,105,97,115]))],none⟩,ja 29 32,jz 33 29 0,jz 34 29 1,UU 7 7,jo 7 7 33,ja 8 34]
def Bd:IL:=[ja 35 8]
def PV:IL:=[jj 36 7 7,⟨some 37,.val (.build [.str [],.int .i64 0,.int .u64 0,.str [],.nils,.nils,.nils,.nils] [(0,1,(.c (.str [97,108,105,97,115]))),(1,7,(.t 36))]),none⟩,⟨some 38,.bsl 8 1 [.str [],.int .i64 0,.int .u64 0,.str [],.nils,.nils,.nils,.nils] [(0,8,(.t 37))],none⟩,jb 39 2 6,jo 1 39 38]
def Be:IL:=[jb 40 2 3,jc 41 40,jj 42 3 6,⟨some 43,.bsl 3 1 [.str [],.int .i64 0,.nils] [(0,3,(.t 42))],none⟩,yg 44 3 48 57 41 43,jb 45 2 3,jo 1 45 44]
def Gi:IL:=[jn 46 20 1,ja 20 46]
def QmX:RC:=.gho (.drop 7) (.gho (.drop 6) (.gho (.drop 5) (jQ PQ (.seq (jX 21 0) (.seq (.block 1 (jQ PR (jQ PT (.seq (jQ PU (jQ Bd (.cond (.t 35) (.reg PV) (.skip)))) (.reg Be))))) (.reg Gi))))))
def N4:IL:=[jj 47 5 3,jo 5 2 47]
def r15:RC:=jQ PK (jD PM (.gho (.vecc 3 2 1100 3) (.seq (jQ PP (.block 0 (.loop QmX))) (jQ N4 (.ret)))))
def o15:List RR:=[.cell 2 (some 5)]
theorem k15:CT 15 48 r15 o15:=ck Tryz.func15 Tryz.ntmps15 (by decide +kernel)
abbrev QmY:IL:=[yp 2]
abbrev QmZ:IL:=[yp 3]
abbrev Qm0:IL:=[jd 4 0]
abbrev Qm1:IL:=[ja 5 4,ja 6 0,jk 7 1 6,jr 8 5 7]
abbrev Qm2:IL:=[ja 11 0,ja 12 4,jl 13 16 11 12,jb 14 6 13,jc 15 14,⟨some 16,.val (.bin .str .neq (.t 15) (.c (.str []))),none⟩,ja 17 16,jh 18 3 17,jh 19 0 17,jh 20 4 17,yi 21 16 19 20 17,jf 22 6 21 17,jp 23 22 17,YN 24 40 18 23 17,yx 25 24 17,ji 26 17 25]
abbrev Qm3:IL:=[ja 27 3,ja 28 0,ja 29 4,jl 30 16 28 29,jb 31 6 30,jc 32 31,zy 33 1 1 0 1 32,yg 34 1 16 9 27 33,ja 3 34]
abbrev Qm4:IL:=[ja 9 4,jn 10 9 1,ja 4 10]
abbrev Qm5:RC:=.seq (jQ Qm1 (jX 8 0)) (.seq (.block 1 (jQ Qm2 (.cond (.t 26) (.reg Qm3) (.skip)))) (.reg Qm4))
abbrev Qm6:IL:=[ja 35 3,ja 2 35]
abbrev r16:RC:=jQ QmY (jQ QmZ (.gho (.vec 3 3 1) (.seq (jQ Qm0 (.block 0 (.loop Qm5))) (jQ Qm6 (.ret)))))
abbrev o16:List RR:=[.tmp 2]
theorem k16:CT 16 36 r16 o16:=ck Tryz.func16 Tryz.ntmps16 (by decide +kernel)
def PW:IL:=[jg 3 3 0,Ni 6 6]
def PX:IL:=[ja 13 1,ja 14 2,jl 15 16 13 14,jj 16 16 15,zt 7 7,jo 16 7 16]
def PY:IL:=[jb 17 0 7,jc 18 17,jb 19 1 7,jc 20 19,jb 21 2 7,jc 22 21,jb 23 3 7,jc 24 23,jb 25 4 7,jb 26 0 25,jc 27 26,⟨some 28,.val (.build [.int .i64 0,.str [],.str [],.int .i64 0,.int .i64 0,.int .i64 0,.int .i64 0,.int .i64 0] [(0,1,(.t 18)),(1,1,(.t 20)),(3,1,(.t 22)),(4,1,(.t 24)),(5,1,(.t 27)),(6,1,(.c (.int .i64 (-1)))),(7,1,(.c (.int .i64 (-1))))]),none⟩,Ni 8 8,jo 8 8 28]
def PZ:IL:=[jb 30 15 7,jc 31 30,⟨some 32,.call (.f 41) [(.t 31),(.c (.str [97,108,105,97,115]))],none⟩,ja 29 32,jz 33 29 0,jz 34 29 1,UU 9 9,jo 7 9 33,ja 10 34]
def Bf:IL:=[ja 35 10]
def P0:IL:=[jb 36 2 9,jc 37 36,jb 38 2 8,jo 1 38 37]
def Bg:IL:=[jb 39 4 7,jb 40 0 39,jc 41 40,ju 42 41 10]
def Bh:IL:=[jj 44 3 3,jb 45 4 7,jb 46 1 45,jc 47 46,jx 48 31 44 47,ja 43 48,jz 49 43 0,jz 50 43 1,jb 51 6 8,jo 1 51 50]
def YS:IL:=[jb 52 4 7,jb 53 0 52,jc 54 53,ju 55 54 9]
def Bi:IL:=[jj 57 3 3,jb 58 4 7,jb 59 1 58,jc 60 59,jx 61 32 57 60,ja 56 61,jz 62 56 0,jz 63 56 1,jb 64 6 8,jo 1 64 63]
def YT:IL:=[jb 65 6 7,jc 66 65,⟨some 67,.val (.bin .str .neq (.t 66) (.c (.str []))),none⟩]
def YU:IL:=[ja 68 1,js 69 16 68,ja 11 69]
def YV:IL:=[jd 12 0]
def N5:IL:=[ja 70 12,ja 71 11,jk 72 1 71,jr 73 70 72]
def N6:IL:=[ja 76 11,ja 77 12,jl 78 1 76 77,yk 79 78,jb 80 6 7,jt 81 0 7 80,yf 82 79 81]
def N7:IL:=[ja 83 12,jb 84 7 8,jo 1 84 83]
def Gj:IL:=[ja 74 12,jn 75 74 1,ja 12 75]
def Hi:RC:=.seq (jQ N5 (jX 73 0)) (.seq (.block 1 (jD N6 (.cond (.t 82) (.reg N7) (.skip)))) (.reg Gj))
def Wr:IL:=[jj 85 8 8,jo 8 6 85]
def r17:RC:=jQ PW (jQ PX (jQ PY (.seq (jQ PZ (jQ Bf (.cond (.t 35) (.reg P0) (.skip)))) (.seq (jQ Bg (.cond (.t 42) (.reg Bh) (.skip))) (.seq (jQ YS (.cond (.t 55) (.reg Bi) (.skip))) (.seq (jQ YT (.cond (.t 67) (jQ YU (jQ YV (.block 0 (.loop Hi)))) (.skip))) (jQ Wr (.ret))))))))
def Gk:List RR:=[.cell 6 (some 8)]
theorem k17:CT 17 86 r17 Gk:=ck Tryz.func17 Tryz.ntmps17 (by decide +kernel)
abbrev Qm7:IL:=[yp 2]
abbrev Qm8:IL:=[yp 3]
abbrev Qm9:IL:=[jd 4 0]
abbrev Qna:IL:=[ja 5 4,ja 6 0,jk 7 1 6,jr 8 5 7]
abbrev Qnb:IL:=[ja 11 0,ja 12 4,jl 13 8 11 12,jb 14 0 13,jc 15 14,⟨some 16,.val (.bin .str .eql (.t 15) (.c (.str [97,108,105,97,115]))),none⟩]
abbrev Qnc:IL:=[ja 17 3,ja 18 0,ja 19 4,jl 20 8 18 19,jj 21 8 20,⟨some 22,.bsl 8 1 [.str [],.int .i64 0,.int .u64 0,.str [],.nils,.nils,.nils,.nils] [(0,8,(.t 21))],none⟩,yg 23 8 144 91 17 22,ja 3 23]
abbrev Qnd:IL:=[ja 9 4,jn 10 9 1,ja 4 10]
abbrev Qne:RC:=.seq (jQ Qna (jX 8 0)) (.seq (.block 1 (jQ Qnb (.cond (.t 16) (.reg Qnc) (.skip)))) (.reg Qnd))
abbrev Qnf:IL:=[ja 24 3,ja 2 24]
abbrev r18:RC:=jQ Qm7 (jQ Qm8 (.gho (.vec 3 3 8) (.seq (jQ Qm9 (.block 0 (.loop Qne))) (jQ Qnf (.ret)))))
abbrev o18:List RR:=[.tmp 2]
theorem k18:CT 18 25 r18 o18:=ck Tryz.func18 Tryz.ntmps18 (by decide +kernel)
abbrev Qng:IL:=[je 4]
abbrev Qnh:IL:=[ja 7 0,jk 8 1 7,ja 9 1,jk 10 1 9,zq 11 8 10,ja 5 11]
abbrev Qni:IL:=[jd 6 0]
abbrev Qnj:IL:=[ja 12 5,ja 13 12,jh 14 6 13,jh 15 0 13,ya 16 1 15 13,zk 17 14 16 13,ji 18 13 17]
abbrev Qnk:IL:=[ja 21 0,ja 22 6,jl 23 8 21 22,ym 24 8 23,ja 25 1,ja 26 6,jl 27 8 25 26,ym 28 8 27,⟨some 29,.val (.eqs false [.num,.str,.str,.num,.num,.num,.num,.num] (.t 24) (.t 28)),none⟩,ja 5 29]
abbrev Qnl:IL:=[ja 19 6,jn 20 19 1,ja 6 20]
abbrev Qnm:RC:=.seq (jQ Qnj (jX 18 0)) (.seq (.block 1 (.draw Qnk)) (.reg Qnl))
abbrev Qnn:IL:=[ja 30 5,ja 4 30]
abbrev r19:RC:=jQ Qng (jQ Qnh (.seq (jQ Qni (.block 0 (.loop Qnm))) (jQ Qnn (.ret))))
abbrev o19:List RR:=[.tmp 4]
theorem k19:CT 19 31 r19 o19:=ck Tryz.func19 Tryz.ntmps19 (by decide +kernel)
abbrev Qno:IL:=[jg 2 2 0,jg 3 3 1,je 4]
abbrev Qnp:IL:=[jb 8 0 2,jc 9 8,jb 10 0 3,jc 11 10,yf 12 9 11,ja 13 12,jf 14 1 2 13,jp 15 14 13,jf 16 1 3 13,jp 17 16 13,⟨some 18,.val (.bin .bool .eql (.t 15) (.t 17)),(some (13,true))⟩,ji 19 13 18,ja 20 19,jf 21 2 2 20,jp 22 21 20,ya 23 1 22 20,jf 24 2 3 20,jp 25 24 20,ya 26 1 25 20,H2 27 23 26 20,ji 28 20 27,ja 29 28,jf 30 3 2 29,jp 31 30 29,ya 32 1 31 29,jf 33 3 3 29,jp 34 33 29,ya 35 1 34 29,H2 36 32 35 29,ji 37 29 36,ja 38 37,jf 39 4 2 38,jp 40 39 38,jf 41 4 3 38,jp 42 41 38,YN 43 42 40 42 38,ji 44 38 43,ja 5 44]
abbrev Qnq:IL:=[jd 6 0]
abbrev Qnr:IL:=[ja 45 5,ja 46 45,jh 47 6 46,jf 48 2 2 46,jp 49 48 46,ya 50 1 49 46,zk 51 47 50 46,ji 52 46 51]
abbrev Qns:IL:=[jb 55 2 2,jt 56 0 2 55,ja 57 6,jl 58 3 56 57,jb 59 0 58,yk 60 59,jb 61 2 3,jt 62 0 3 61,ja 63 6,jl 64 3 62 63,jb 65 0 64,yk 66 65,yf 67 60 66,ja 68 67,jf 69 2 2 68,yh 70 0 2 69 68,jh 71 6 68,yi 72 3 70 71 68,jf 73 1 72 68,yu 74 73 68,jf 75 2 3 68,yh 76 0 3 75 68,jh 77 6 68,yi 78 3 76 77 68,jf 79 1 78 68,yu 80 79 68,H2 81 74 80 68,ji 82 68 81,ja 83 82,jf 84 2 2 83,yh 85 0 2 84 83,jh 86 6 83,yi 87 3 85 86 83,jf 88 2 87 83,yu 89 88 83,jf 90 2 3 83,yh 91 0 3 90 83,jh 92 6 83,yi 93 3 91 92 83,jf 94 2 93 83,yu 95 94 83,YN 96 42 89 95 83,ji 97 83 96,ja 5 97]
abbrev Qnt:IL:=[ja 53 6,jn 54 53 1,ja 6 54]
abbrev Qnu:RC:=.seq (jQ Qnr (jX 52 0)) (.seq (.block 1 (.draw Qns)) (.reg Qnt))
abbrev Qnv:IL:=[jd 7 0]
abbrev Qnw:IL:=[ja 98 5,ja 99 98,jh 100 7 99,jf 101 3 2 99,jp 102 101 99,ya 103 1 102 99,zk 104 100 103 99,ji 105 99 104]
abbrev Qnx:IL:=[jb 108 3 2,jt 109 0 2 108,ja 110 7,jl 111 2 109 110,ym 112 2 111,jb 113 3 3,jt 114 0 3 113,ja 115 7,jl 116 2 114 115,ym 117 2 116,⟨some 118,.val (.eqs false [.num,.num] (.t 112) (.t 117)),none⟩,ja 5 118]
abbrev Qny:IL:=[ja 106 7,jn 107 106 1,ja 7 107]
abbrev Qnz:RC:=.seq (jQ Qnw (jX 105 2)) (.seq (.block 3 (.draw Qnx)) (.reg Qny))
abbrev QdN:IL:=[ja 119 5,ja 4 119]
abbrev Gl:RC:=jQ Qno (jQ Qnp (.seq (jQ Qnq (.block 0 (.loop Qnu))) (.seq (jQ Qnv (.block 2 (.loop Qnz))) (jQ QdN (.ret)))))
abbrev Jr:List RR:=[.tmp 4]
theorem k20:CT 20 120 Gl Jr:=ck Tryz.func20 Tryz.ntmps20 (by decide +kernel)
def P1:IL:=[jg 1 1 0,yp 2]
def P2:IL:=[⟨some 13,.val (.build [.str [],.nils] []),none⟩,⟨some 3,.allocN 3 [.str [],.nils],none⟩,jo 2 3 13]
def P3:IL:=[jd 4 1]
def P4:IL:=[ja 14 4,DM 15 14 3]
def P5:IL:=[jj 18 3 1,ja 19 4,jx 20 46 18 19,ja 5 20]
def P6:IL:=[ja 21 5,jk 22 1 21,yr 23 22 64,yt 24 47 3 23 (-1) 3]
def P7:IL:=[ja 25 5,js 26 48 25,jy 27 26,yt 28 47 3 27 (-1) 11]
def P8:IL:=[ja 16 4,jn 17 16 1,ja 4 17]
def Bj:RC:=.seq (jQ P4 (jX 15 0)) (.seq (.block 1 (jQ P5 (jQ P6 (.reg P7)))) (.reg P8))
def P9:IL:=[jj 29 3 1,⟨some 30,.call (.f 46) [(.t 29),(.c (.int .i64 1))],none⟩,ja 6 30]
def Ra:IL:=[jj 31 3 1,⟨some 32,.call (.f 46) [(.t 31),(.c (.int .i64 2))],none⟩,ja 7 32]
def N8:IL:=[jj 33 3 1,⟨some 34,.call (.f 46) [(.t 33),(.c (.int .i64 3))],none⟩,ja 8 34]
def N9:IL:=[ja 35 6,ja 36 7,jx 37 49 35 36,ja 38 37,jw 39 6 38,jw 40 8 38,zx 41 49 39 40 38,jq 42 38 41,ja 43 42,jw 44 7 43,jw 45 8 43,zx 46 49 44 45 43,jq 47 43 46,yt 48 47 3 47 (-1) 9]
def Gm:IL:=[jj 49 3 1,js 50 50 49,ja 9 50]
def Gn:IL:=[jd 10 0]
def Vb:IL:=[ja 51 10,jb 52 0 1,jc 53 52,jk 54 1 53,jr 55 51 54]
def Vc:IL:=[jb 58 1 3,jt 59 0 3 58,yj 60 0 1 3 1,jb 61 0 1,jt 62 0 1 61,ja 63 10,jl 64 5 62 63,ym 65 5 64,ja 66 9,H1 67 51 60 65 66,yg 68 3 32 160 59 67,jb 69 1 3,yz 0 3 1 69 68]
def Vd:IL:=[ja 56 10,jn 57 56 1,ja 10 57]
def Hj:RC:=.seq (jQ Vb (jX 55 2)) (.seq (.block 3 (.draw Vc)) (.reg Vd))
def Gp:IL:=[jd 11 0]
def Ve:IL:=[ja 70 11,jb 71 1 1,jc 72 71,jk 73 1 72,jr 74 70 73]
def Vf:IL:=[jb 77 1 3,jt 78 0 3 77,jb 79 1 1,jt 80 0 1 79,ja 81 11,jl 82 5 80 81,ym 83 5 82,js 84 52 83,yg 85 3 32 160 78 84,jb 86 1 3,yz 0 3 1 86 85]
def Vg:IL:=[ja 75 11,jn 76 75 1,ja 11 76]
def Hk:RC:=.seq (jQ Ve (jX 74 4)) (.seq (.block 5 (.draw Vf)) (.reg Vg))
def Gq:IL:=[jd 12 0]
def Vh:IL:=[ja 87 12,jb 88 2 1,jc 89 88,jk 90 1 89,jr 91 87 90]
def Vi:IL:=[jb 94 1 3,jt 95 0 3 94,yj 96 0 1 3 1,jb 97 2 1,jt 98 0 1 97,ja 99 12,jl 100 3 98 99,ym 101 3 100,jx 102 53 96 101,yg 103 3 32 160 95 102,jb 104 1 3,yz 0 3 1 104 103]
def Vj:IL:=[ja 92 12,jn 93 92 1,ja 12 93]
def Hl:RC:=.seq (jQ Vh (jX 91 6)) (.seq (.block 7 (.draw Vi)) (.reg Vj))
def Gr:IL:=[jb 105 1 3,jc 106 105,ja 2 106]
def r23:RC:=jQ P1 (jQ P2 (.gho (.vecc 3 1 1100 3) (.seq (jQ P3 (.block 0 (.loop Bj))) (jQ P9 (jQ Ra (jQ N8 (jQ N9 (jQ Gm (.seq (jQ Gn (.block 2 (.loop Hj))) (.seq (jQ Gp (.block 4 (.loop Hk))) (.seq (jQ Gq (.block 6 (.loop Hl))) (jQ Gr (.ret)))))))))))))
def o23:List RR:=[.tmp 2]
theorem k23:CT 23 107 r23 o23:=ck Tryz.func23 Tryz.ntmps23 (by decide +kernel)
abbrev J4:List RR:=[.tmp 2]
abbrev QnA:IL:=[jg 2 2 0,ze 4 4,jd 5 0]
abbrev QnB:IL:=[jd 6 0]
abbrev QnC:IL:=[ja 7 6,jb 8 0 2,jc 9 8,jk 10 1 9,jr 11 7 10]
abbrev QnD:IL:=[jb 14 0 2,jc 15 14,ja 16 6,jl 17 5 15 16,jb 18 0 17,jc 19 18,ja 20 1,yf 21 19 20]
abbrev QnE:IL:=[jb 22 0 2,jc 23 22,ja 24 6,jl 25 5 23 24,jj 26 5 25,ja 27 6,jo 5 4 26,ja 5 27]
abbrev QnF:IL:=[ja 12 6,jn 13 12 1,ja 6 13]
abbrev QnG:RC:=.seq (jQ QnC (jX 11 0)) (.seq (.block 1 (jQ QnD (.cond (.t 21) (jQ QnE (.ret)) (.skip)))) (.reg QnF))
abbrev QnH:IL:=[⟨some 28,.val (.build [.str [],.nils,.nils,.nils,.nils] []),none⟩,jo 5 4 28,jd 5 (-1)]
abbrev r31:RC:=jQ QnA (.seq (jQ QnB (.block 0 (.loop QnG))) (jQ QnH (.ret)))
abbrev o31:List RR:=[.cell 4 (some 5),.tmp 5]
theorem k31:CT 31 29 r31 o31:=ck Tryz.func31 Tryz.ntmps31 (by decide +kernel)
abbrev QnI:IL:=[jg 2 2 0,zm 4 4,jd 5 0]
abbrev QnJ:IL:=[jd 6 0]
abbrev QnK:IL:=[ja 7 6,jb 8 1 2,jc 9 8,jk 10 1 9,jr 11 7 10]
abbrev QnL:IL:=[jb 14 1 2,jc 15 14,ja 16 6,jl 17 5 15 16,jb 18 0 17,jc 19 18,ja 20 1,yf 21 19 20]
abbrev QnM:IL:=[jb 22 1 2,jc 23 22,ja 24 6,jl 25 5 23 24,jj 26 5 25,ja 27 6,jo 5 4 26,ja 5 27]
abbrev QnN:IL:=[ja 12 6,jn 13 12 1,ja 6 13]
abbrev QnO:RC:=.seq (jQ QnK (jX 11 0)) (.seq (.block 1 (jQ QnL (.cond (.t 21) (jQ QnM (.ret)) (.skip)))) (.reg QnN))
abbrev QnP:IL:=[⟨some 28,.val (.build [.str [],.bool false,.nils,.nils,.nils] []),none⟩,jo 5 4 28,jd 5 (-1)]
abbrev r32:RC:=jQ QnI (.seq (jQ QnJ (.block 0 (.loop QnO))) (jQ QnP (.ret)))
abbrev o32:List RR:=[.cell 4 (some 5),.tmp 5]
theorem k32:CT 32 29 r32 o32:=ck Tryz.func32 Tryz.ntmps32 (by decide +kernel)
abbrev QnQ:IL:=[yp 2]
abbrev QnR:IL:=[ja 3 0,⟨some 4,.isnil false (.t 3),none⟩]
abbrev QnS:IL:=[yp 2]
abbrev QnT:IL:=[⟨some 5,.bsl0 5 2,none⟩,ja 6 0,yg 7 2 16 87 5 6,ja 2 7]
abbrev r38:RC:=jQ QnQ (.seq (jQ QnR (.cond (.t 4) (jQ QnS (.gho (.vec 2 2 2) (.ret))) (.skip))) (jQ QnT (.ret)))
abbrev o38:List RR:=[.tmp 2]
theorem k38:CT 38 8 r38 o38:=ck Tryz.func38 Tryz.ntmps38 (by decide +kernel)
abbrev QnU:IL:=[je 4]
abbrev QnV:IL:=[jd 5 0]
abbrev QnW:IL:=[ja 6 5,ja 7 0,jk 8 1 7,jr 9 6 8]
abbrev QnX:IL:=[ja 12 0,ja 13 5,jl 14 1 12 13,jc 15 14,ja 16 1,yf 17 15 16]
abbrev QnY:IL:=[yb 4]
abbrev QnZ:IL:=[ja 10 5,jn 11 10 1,ja 5 11]
abbrev Qn0:RC:=.seq (jQ QnW (jX 9 0)) (.seq (.block 1 (jQ QnX (.cond (.t 17) (jQ QnY (.ret)) (.skip)))) (.reg QnZ))
abbrev Qn1:IL:=[je 4]
abbrev r40:RC:=jQ QnU (.seq (jQ QnV (.block 0 (.loop Qn0))) (jQ Qn1 (.ret)))
abbrev JO:List RR:=[.tmp 4]
theorem k40:CT 40 18 r40 JO:=ck Tryz.func40 Tryz.ntmps40 (by decide +kernel)
abbrev Qn2:IL:=[UU 4 4,je 5]
abbrev Qn3:IL:=[ja 7 0,ja 8 1,jx 9 110 7 8,ja 6 9]
abbrev Qn4:IL:=[ja 10 6,yl 11 10 0]
abbrev Qn5:IL:=[⟨some 12,.val (.build [.int .i64 0,.int .u64 0,.str [],.nils,.nils,.nils,.nils] []),none⟩,jo 7 4 12,je 5]
abbrev Qn6:IL:=[ja 13 0,ja 14 6,jl 15 8 13 14,jb 16 1 15,jj 17 7 16,jo 7 4 17,yb 5]
abbrev r41:RC:=jQ Qn2 (jQ Qn3 (.seq (jQ Qn4 (.cond (.t 11) (jQ Qn5 (.ret)) (.skip))) (jQ Qn6 (.ret))))
abbrev o41:List RR:=[.cell 4 (some 7),.tmp 5]
theorem k41:CT 41 18 r41 o41:=ck Tryz.func41 Tryz.ntmps41 (by decide +kernel)
abbrev Qn7:IL:=[je 4]
abbrev Qn8:IL:=[ja 6 0,jk 7 1 6,ja 8 1,jk 9 1 8,⟨some 10,.val (.bin .num .neq (.t 7) (.t 9)),none⟩]
abbrev Qn9:IL:=[je 4]
abbrev Qoa:IL:=[jd 5 0]
abbrev Qob:IL:=[ja 11 5,ja 12 0,jk 13 1 12,jr 14 11 13]
abbrev Qoc:IL:=[ja 17 0,ja 18 5,jl 19 8 17 18,jb 20 0 19,yk 21 20,ja 22 1,ja 23 5,jl 24 8 22 23,jb 25 0 24,yk 26 25,⟨some 27,.val (.bin .str .neq (.t 21) (.t 26)),none⟩,ja 28 27,jw 29 0 28,jw 30 5 28,zb 31 8 29 30 28,jm 32 1 31 28,jm 33 0 32 28,zd 34 33 28,jw 35 1 28,jw 36 5 28,zb 37 8 35 36 28,jm 38 1 37 28,jm 39 0 38 28,zd 40 39 28,zj 41 34 40 28,jq 42 28 41,ja 43 42,jw 44 0 43,jw 45 5 43,zb 46 8 44 45 43,jm 47 1 46 43,jm 48 1 47 43,zd 49 48 43,jw 50 1 43,jw 51 5 43,zb 52 8 50 51 43,jm 53 1 52 43,jm 54 1 53 43,zd 55 54 43,zj 56 49 55 43,jq 57 43 56,ja 58 57,jw 59 0 58,jw 60 5 58,zb 61 8 59 60 58,jm 62 1 61 58,jm 63 2 62 58,zd 64 63 58,jw 65 1 58,jw 66 5 58,zb 67 8 65 66 58,jm 68 1 67 58,jm 69 2 68 58,zd 70 69 58,⟨some 71,.val (.bin .str .neq (.t 64) (.t 70)),(some (58,false))⟩,jq 72 58 71]
abbrev Qod:IL:=[je 4]
abbrev Qoe:IL:=[ja 15 5,jn 16 15 1,ja 5 16]
abbrev Qof:RC:=.seq (jQ Qob (jX 14 0)) (.seq (.block 1 (jD Qoc (.cond (.t 72) (jQ Qod (.ret)) (.skip)))) (.reg Qoe))
abbrev Qog:IL:=[yb 4]
abbrev r42:RC:=jQ Qn7 (.seq (jQ Qn8 (.cond (.t 10) (jQ Qn9 (.ret)) (.skip))) (.seq (jQ Qoa (.block 0 (.loop Qof))) (jQ Qog (.ret))))
abbrev o42:List RR:=[.tmp 4]
theorem k42:CT 42 73 r42 o42:=ck Tryz.func42 Tryz.ntmps42 (by decide +kernel)
abbrev Qoh:IL:=[jg 2 2 0,yp 4]
abbrev Qoi:IL:=[yp 5]
abbrev Qoj:IL:=[jd 6 0]
abbrev Qok:IL:=[ja 9 1,ju 10 9 1,ja 11 10,jh 12 6 11,jf 13 0 2 11,jp 14 13 11,ya 15 1 14 11,zk 16 12 15 11,ji 17 11 16]
abbrev Qol:IL:=[ja 20 5,jb 21 0 2,jc 22 21,ja 23 6,jl 24 5 22 23,jb 25 0 24,jc 26 25,zy 27 1 1 0 1 26,yg 28 1 16 9 20 27,ja 5 28]
abbrev Qom:IL:=[ja 18 6,jn 19 18 1,ja 6 19]
abbrev Rb:RC:=.seq (jQ Qok (jX 17 0)) (.seq (.block 1 (.reg Qol)) (.reg Qom))
abbrev Qon:IL:=[jd 7 0]
abbrev Qoo:IL:=[ja 29 1,ju 30 29 2,ja 31 30,jh 32 7 31,jf 33 1 2 31,jp 34 33 31,ya 35 1 34 31,zk 36 32 35 31,ji 37 31 36]
abbrev Qop:IL:=[ja 40 5,jb 41 1 2,jc 42 41,ja 43 7,jl 44 5 42 43,jb 45 0 44,jc 46 45,zy 47 1 1 0 1 46,yg 48 1 16 9 40 47,ja 5 48]
abbrev Qoq:IL:=[ja 38 7,jn 39 38 1,ja 7 39]
abbrev Rd:RC:=.seq (jQ Qoo (jX 37 2)) (.seq (.block 3 (.reg Qop)) (.reg Qoq))
abbrev QdO:IL:=[jd 8 0]
abbrev QdP:IL:=[ja 49 1,ju 50 49 3,ja 51 50,jh 52 8 51,jf 53 2 2 51,jp 54 53 51,ya 55 1 54 51,zk 56 52 55 51,ji 57 51 56]
abbrev QdQ:IL:=[ja 60 5,jb 61 2 2,jc 62 61,ja 63 8,jl 64 3 62 63,jb 65 0 64,jc 66 65,zy 67 1 1 0 1 66,yg 68 1 16 9 60 67,ja 5 68]
abbrev QdR:IL:=[ja 58 8,jn 59 58 1,ja 8 59]
abbrev Re:RC:=.seq (jQ QdP (jX 57 4)) (.seq (.block 5 (.reg QdQ)) (.reg QdR))
abbrev QdS:IL:=[ja 69 5,ja 4 69]
abbrev r46:RC:=jQ Qoh (jQ Qoi (.gho (.vec 5 5 1) (.seq (jQ Qoj (.block 0 (.loop Rb))) (.seq (jQ Qon (.block 2 (.loop Rd))) (.seq (jQ QdO (.block 4 (.loop Re))) (jQ QdS (.ret)))))))
abbrev o46:List RR:=[.tmp 4]
theorem k46:CT 46 70 r46 o46:=ck Tryz.func46 Tryz.ntmps46 (by decide +kernel)
abbrev Qor:IL:=[ja 8 1]
abbrev Qos:IL:=[ja 9 0,ja 10 0,yq 11 10,jb 12 1 11,Nk 13 12,ja 14 0,yq 15 14,jb 16 0 15,Nk 17 16,ja 18 2,ja 19 3,⟨some 20,.val (.build [.str [],.int .i64 0,.int .i64 0] [(0,1,(.t 17)),(1,1,(.t 18)),(2,1,(.t 19))]),none⟩,⟨some 21,.bsl 3 1 [.str [],.int .i64 0,.int .i64 0] [(0,3,(.t 20))],none⟩,yg 22 3 32 160 13 21,yq 23 9,jb 24 1 23,jo 1 24 22]
abbrev r47:RC:=jQ Qor (.cond (.t 8) (.draw Qos) (.skip))
abbrev o47:List RR:=[]
theorem Rf:CT 47 25 r47 o47:=ck Tryz.func47 Tryz.ntmps47 (by decide +kernel)
abbrev Qot:IL:=[je 2]
abbrev Qou:IL:=[jd 3 1]
abbrev Qov:IL:=[ja 4 3,ja 5 0,jk 6 1 5,jr 7 4 6]
abbrev Qow:IL:=[ja 10 0,ja 11 3,jl 12 1 10 11,yk 13 12,ja 14 0,ja 15 3,Nh 16 15 1,jl 17 1 14 16,yk 18 17,⟨some 19,.val (.bin .str .leq (.t 13) (.t 18)),none⟩]
abbrev Qox:IL:=[je 2]
abbrev Qoy:IL:=[ja 8 3,jn 9 8 1,ja 3 9]
abbrev Qoz:RC:=.seq (jQ Qov (jX 7 0)) (.seq (.block 1 (jD Qow (.cond (.t 19) (jQ Qox (.ret)) (.skip)))) (.reg Qoy))
abbrev QoA:IL:=[yb 2]
abbrev r48:RC:=jQ Qot (.seq (jQ Qou (.block 0 (.loop Qoz))) (jQ QoA (.ret)))
abbrev o48:List RR:=[.tmp 2]
theorem k48:CT 48 20 r48 o48:=ck Tryz.func48 Tryz.ntmps48 (by decide +kernel)
abbrev QoB:IL:=[je 4]
abbrev QoC:IL:=[jd 5 0]
abbrev QoD:IL:=[ja 6 5,ja 7 0,jk 8 1 7,jr 9 6 8]
abbrev QoE:IL:=[ja 12 1,ja 13 0,ja 14 5,jl 15 1 13 14,jc 16 15,jx 17 117 12 16]
abbrev QoF:IL:=[yb 4]
abbrev QoG:IL:=[ja 10 5,jn 11 10 1,ja 5 11]
abbrev QoH:RC:=.seq (jQ QoD (jX 9 0)) (.seq (.block 1 (jQ QoE (.cond (.t 17) (jQ QoF (.ret)) (.skip)))) (.reg QoG))
abbrev QoI:IL:=[je 4]
abbrev r49:RC:=jQ QoB (.seq (jQ QoC (.block 0 (.loop QoH))) (jQ QoI (.ret)))
abbrev o49:List RR:=[.tmp 4]
theorem k49:CT 49 18 r49 o49:=ck Tryz.func49 Tryz.ntmps49 (by decide +kernel)
abbrev QoJ:IL:=[jg 1 1 0,yp 2]
abbrev QoK:IL:=[jb 7 0 1,jc 8 7,jk 9 1 8,⟨some 10,.mk 10 4 1 1 [.bool false] (.t 9) (.t 9),none⟩,ja 3 10]
abbrev QoL:IL:=[yb 4]
abbrev QoM:IL:=[jd 5 0]
abbrev QoN:IL:=[ja 11 5,jb 12 0 1,jc 13 12,jk 14 1 13,jr 15 11 14,ja 16 15,jh 17 4 16,ji 18 16 17]
abbrev QoO:IL:=[je 4]
abbrev QoP:IL:=[jd 6 0]
abbrev QoQ:IL:=[ja 21 6,jb 22 0 1,jc 23 22,jk 24 1 23,jr 25 21 24]
abbrev QdT:IL:=[ja 28 3,ja 29 6,jl 30 1 28 29,yk 31 30,jy 32 31,ja 33 32,⟨some 34,.val (.loadv 0 1 (some 3) (.t 1)),(some (33,true))⟩,jf 35 0 1 33,yh 36 0 1 35 33,jh 37 6 33,yi 38 5 36 37 33,⟨some 39,.val (.loadr (some 5) (.t 38)),(some (33,true))⟩,jh 40 3 33,⟨some 41,.call (.f 118) [(.t 34),(.t 39),(.t 40)],(some (33,true))⟩,yx 42 41 33,ji 43 33 42]
abbrev QdU:IL:=[ja 44 3,ja 45 6,jl 46 1 44 45,⟨none,.store 1 (.t 46) (.c (.bool true)),none⟩]
abbrev QdV:IL:=[yb 4]
abbrev QoR:IL:=[ja 26 6,jn 27 26 1,ja 6 27]
abbrev Rg:RC:=.seq (jQ QoQ (jX 25 2)) (.seq (.block 3 (jD QdT (.cond (.t 43) (jQ QdU (.reg QdV)) (.skip)))) (.reg QoR))
abbrev QoS:IL:=[ja 19 5,jn 20 19 1,ja 5 20]
abbrev QoT:RC:=.seq (jQ QoN (jX 18 0)) (.seq (.block 1 (jQ QoO (jQ QoP (.block 2 (.loop Rg))))) (.reg QoS))
abbrev QdW:IL:=[ja 47 3,ja 2 47]
abbrev r50:RC:=jQ QoJ (jQ QoK (jQ QoL (.seq (jQ QoM (.block 0 (.loop QoT))) (jQ QdW (.ret)))))
abbrev Rh:List RR:=[.tmp 2]
theorem k50:CT 50 48 r50 Rh:=ck Tryz.func50 Tryz.ntmps50 (by decide +kernel)
def Ri:IL:=[jg 3 3 0,jg 4 4 1,yp 6]
def Rj:IL:=[jb 13 0 4,jc 14 13,⟨some 15,.val (.build [.str [],.nils] [(0,1,(.t 14))]),none⟩,⟨some 7,.allocN 7 [.str [],.nils],none⟩,jo 2 7 15]
def Rk:IL:=[jb 16 0 4,jc 17 16,js 18 119 17,jy 19 18,yt 20 47 7 19 (-1) 8]
def Rl:IL:=[jb 21 1 4,jc 22 21,jk 23 1 22,yr 24 23 64,ja 25 24,jm 26 2 4 25,jv 27 26 25,yw 28 1 27 25,yy 29 28 16 25,jq 30 25 29,ja 31 30,jm 32 3 4 31,jv 33 32 31,yw 34 1 33 31,yy 35 34 16 31,jq 36 31 35,yt 37 47 7 36 (-1) 3]
def Bk:IL:=[jd 8 0]
def Rm:IL:=[ja 38 8,jb 39 1 4,jc 40 39,jk 41 1 40,jr 42 38 41]
def Rn:IL:=[jb 45 1 4,jc 46 45,ja 47 8,jl 48 16 46 47,jj 49 16 48,zt 9 9,jo 16 9 49]
def Ro:IL:=[je 10]
def Rp:IL:=[jd 11 0]
def Vk:IL:=[ja 50 11,ja 51 8,jr 52 50 51]
def Vl:IL:=[jb 55 1 4,jt 56 0 4 55,ja 57 11,jl 58 16 56 57,jb 59 1 58,yk 60 59,jb 61 1 9,jt 62 0 9 61,yf 63 60 62]
def Vm:IL:=[yb 10]
def Gs:IL:=[ja 53 11,jn 54 53 1,ja 11 54]
def Bl:RC:=.seq (jQ Vk (jX 52 2)) (.seq (.block 3 (jD Vl (.cond (.t 63) (.reg Vm) (.skip)))) (.reg Gs))
def Gt:IL:=[jb 64 0 9,jc 65 64,yl 66 65 1,ja 67 66,jm 68 0 9 67,jv 69 68 67,yy 70 69 65535 67,jq 71 67 70,jb 72 0 9,jc 73 72,yv 74 47 7 71 73 6]
def YW:IL:=[ja 75 8,yr 76 75 0,ja 77 76,jf 78 0 9 77,yh 79 0 9 78 77,jf 80 1 4 77,yh 81 0 4 80 77,jh 82 8 77,DK 83 82 1 77,yi 84 16 81 83 77,jf 85 0 84 77,yu 86 85 77,US 87 79 86 77,ji 88 77 87,jb 89 0 9,jt 90 0 9 89,yv 91 47 7 88 90 11]
def Gu:IL:=[jb 92 1 9,jt 93 0 9 92,js 94 120 93,jy 95 94,jb 96 0 9,jt 97 0 9 96,yv 98 47 7 95 97 8]
def Gv:IL:=[ja 99 10,jb 100 0 9,jc 101 100,yv 102 47 7 99 101 9]
def Gw:IL:=[jb 103 2 4,jt 104 0 4 103,jb 105 0 9,jt 106 0 9 105,jx 107 121 104 106,ja 108 107,jm 109 3 4 108,ys 110 0 4 109 108,jm 111 1 9 108,ys 112 0 9 111 108,zx 113 117 110 112 108,jq 114 108 113,jb 115 0 9,jt 116 0 9 115,yv 117 47 7 114 116 21]
def Gx:IL:=[yj 118 0 9 16 9,js 119 122 118,jy 120 119,jb 121 0 9,jt 122 0 9 121,yv 123 47 7 120 122 1]
def Gy:IL:=[yj 124 0 3 3 3,yj 125 0 9 16 9,jx 126 123 124 125,jy 127 126,jb 128 0 9,jt 129 0 9 128,yv 130 47 7 127 129 12]
def Gz:IL:=[yj 131 0 4 5 4,ja 132 8,jx 133 124 131 132,jy 134 133,jb 135 0 9,jt 136 0 9 135,yv 137 47 7 134 136 15]
def GA:IL:=[yj 138 0 3 3 3,yj 139 0 9 16 9,jx 140 125 138 139,jy 141 140,jb 142 0 9,jt 143 0 9 142,yv 144 47 7 141 143 1]
def GB:IL:=[jb 145 15 9,jc 146 145,jb 147 0 9,jc 148 147,⟨some 149,.callF (.f 126) [(.t 7),(.t 146),(.c (.int .i64 2)),(.t 148)],none⟩]
def Rq:IL:=[ja 43 8,jn 44 43 1,ja 8 44]
def Bm:RC:=.gho (.drop 9) (.seq (jQ Rm (jX 42 0)) (.seq (.block 1 (jQ Rn (jQ Ro (.seq (jQ Rp (.block 2 (.loop Bl))) (jQ Gt (jD YW (jD Gu (jQ Gv (jD Gw (jD Gx (jD Gy (jD Gz (jD GA (.reg GB)))))))))))))) (.reg Rq)))
def GC:IL:=[jb 150 2 4,jc 151 150,yt 152 127 7 151 1 65535]
def GD:IL:=[jd 12 0]
def Vn:IL:=[ja 153 12,jb 154 3 4,jc 155 154,jk 156 1 155,jr 157 153 156]
def Vo:IL:=[jb 160 3 4,jc 161 160,ja 162 12,jl 163 1 161 162,jc 164 163,js 165 128 164,jy 166 165,yt 167 47 7 166 (-1) 7]
def Vq:IL:=[ja 158 12,jn 159 158 1,ja 12 159]
def Hm:RC:=.seq (jQ Vn (jX 157 4)) (.seq (.block 5 (.reg Vo)) (.reg Vq))
def GE:IL:=[jb 168 4 4,jc 169 168,yt 170 126 7 169 1 (-1)]
def GF:IL:=[jj 171 3 3,jj 172 5 4,ja 173 2,H1 174 118 171 172 173,yt 175 47 7 174 (-1) 19]
def GG:IL:=[jb 176 1 7,jc 177 176,ja 6 177]
def r51:RC:=jQ Ri (jQ Rj (.gho (.vecc 7 1 1100 3) (jQ Rk (jQ Rl (.seq (jQ Bk (.block 0 (.loop Bm))) (jQ GC (.seq (jQ GD (.block 4 (.loop Hm))) (jQ GE (jQ GF (jQ GG (.ret)))))))))))
def Vr:List RR:=[.tmp 6]
theorem k51:CT 51 178 r51 Vr:=ck Tryz.func51 Tryz.ntmps51 (by decide +kernel)
def Rr:IL:=[jg 1 1 0,yp 2]
def Rs:IL:=[jb 8 0 1,jc 9 8,⟨some 10,.val (.build [.str [],.nils] [(0,1,(.t 9))]),none⟩,⟨some 3,.allocN 3 [.str [],.nils],none⟩,jo 2 3 10]
def Rt:IL:=[jb 11 0 1,jc 12 11,js 13 119 12,jy 14 13,yt 15 47 3 14 (-1) 8]
def Ru:IL:=[jb 16 2 1,jc 17 16,jk 18 1 17,yl 19 18 1,ja 20 19,jm 21 2 1 20,jv 22 21 20,yw 23 1 22 20,yy 24 23 64 20,jq 25 20 24,ja 26 25,jm 27 3 1 26,jv 28 27 26,yw 29 1 28 26,yy 30 29 16 26,jq 31 26 30,yt 32 47 3 31 (-1) 3]
def Hn:IL:=[jb 33 2 1,jc 34 33,jk 35 1 34,yr 36 35 0,ja 37 36,jf 38 2 1 37,jp 39 38 37,⟨some 40,.val (.iaddr 3 none (.t 39) (.c (.int .i64 0))),(some (37,true))⟩,jf 41 1 40 37,jp 42 41 37,zw 43 42 0 37,ji 44 37 43,yt 45 47 3 44 (-1) 14]
def Ho:IL:=[jd 4 0]
def Rv:IL:=[ja 46 4,jb 47 2 1,jc 48 47,jk 49 1 48,jr 50 46 49]
def Rw:IL:=[jb 53 2 1,jc 54 53,ja 55 4,jl 56 3 54 55,jj 57 3 56,Nj 5 5,jo 3 5 57]
def Rx:IL:=[je 6]
def Vs:IL:=[jd 7 0]
def Vt:IL:=[ja 58 7,ja 59 4,jr 60 58 59]
def Vu:IL:=[jb 63 2 1,jt 64 0 1 63,ja 65 7,jl 66 3 64 65,jb 67 0 66,yk 68 67,jb 69 0 5,jt 70 0 5 69,yf 71 68 70]
def Vv:IL:=[yb 6]
def GH:IL:=[ja 61 7,jn 62 61 1,ja 7 62]
def Bn:RC:=.seq (jQ Vt (jX 60 2)) (.seq (.block 3 (jD Vu (.cond (.t 71) (.reg Vv) (.skip)))) (.reg GH))
def GI:IL:=[jb 72 1 5,jc 73 72,yl 74 73 0,ja 75 74,jm 76 1 5 75,jv 77 76 75,yy 78 77 2147483647 75,jq 79 75 78,jb 80 1 5,jc 81 80,yv 82 47 3 79 81 6]
def YX:IL:=[ja 83 4,yr 84 83 0,ja 85 84,jf 86 1 5 85,yh 87 0 5 86 85,jf 88 2 1 85,yh 89 0 1 88 85,jh 90 4 85,DK 91 90 1 85,yi 92 3 89 91 85,jf 93 1 92 85,yu 94 93 85,US 95 87 94 85,ji 96 85 95,jb 97 1 5,jt 98 0 5 97,yv 99 47 3 96 98 11]
def GJ:IL:=[jb 100 0 5,jt 101 0 5 100,js 102 120 101,jy 103 102,jb 104 1 5,jt 105 0 5 104,yv 106 47 3 103 105 8]
def GK:IL:=[ja 107 6,jb 108 1 5,jc 109 108,yv 110 47 3 107 109 9]
def GL:IL:=[jb 111 3 1,jt 112 0 1 111,jb 113 1 5,jt 114 0 5 113,jx 115 121 112 114,jb 116 1 5,jt 117 0 5 116,yv 118 47 3 115 117 21]
def GM:IL:=[jb 119 2 5,jc 120 119,jb 121 1 5,jc 122 121,⟨some 123,.callF (.f 126) [(.t 3),(.t 120),(.c (.int .i64 4)),(.t 122)],none⟩]
def Ry:IL:=[ja 51 4,jn 52 51 1,ja 4 52]
def Hp:RC:=.gho (.drop 5) (.seq (jQ Rv (jX 50 0)) (.seq (.block 1 (jQ Rw (jQ Rx (.seq (jQ Vs (.block 2 (.loop Bn))) (jQ GI (jD YX (jD GJ (jQ GK (jD GL (.reg GM)))))))))) (.reg Ry)))
def YY:IL:=[jb 124 3 1,jc 125 124,yt 126 127 3 125 0 2147483647]
def YZ:IL:=[jb 127 4 1,jc 128 127,yt 129 126 3 128 3 (-1)]
def Y0:IL:=[jb 130 1 3,jc 131 130,ja 2 131]
def r52:RC:=jQ Rr (jQ Rs (.gho (.vecc 3 1 1100 3) (jQ Rt (jQ Ru (jQ Hn (.seq (jQ Ho (.block 0 (.loop Hp))) (jQ YY (jQ YZ (jQ Y0 (.ret))))))))))
def o52:List RR:=[.tmp 2]
theorem k52:CT 52 132 r52 o52:=ck Tryz.func52 Tryz.ntmps52 (by decide +kernel)
def Rz:IL:=[jg 2 2 0,jg 3 3 1,yp 4]
def RD:IL:=[jb 8 0 3,jc 9 8,⟨some 10,.val (.build [.str [],.nils] [(0,1,(.t 9))]),none⟩,⟨some 5,.allocN 5 [.str [],.nils],none⟩,jo 2 5 10]
def RE:IL:=[jb 11 0 3,jc 12 11,js 13 119 12,jy 14 13,yt 15 47 5 14 (-1) 8]
def RF:IL:=[jb 16 1 3,jc 17 16,jk 18 1 17,yr 19 18 64,yt 20 47 5 19 (-1) 3]
def RG:IL:=[jd 6 0]
def RH:IL:=[ja 21 6,jb 22 1 3,jc 23 22,jk 24 1 23,jr 25 21 24]
def RI:IL:=[jb 28 1 3,jc 29 28,ja 30 6,jl 31 5 29 30,jj 32 5 31,⟨some 7,.allocN 7 [.str [],.str [],.str [],.int .i64 0,.nils],none⟩,jo 5 7 32]
def Bo:IL:=[jb 33 0 7,jc 34 33,js 35 120 34,jy 36 35,ja 37 6,yv 38 47 5 36 37 8]
def Hq:IL:=[ja 39 6,yr 40 39 0,ja 41 40,jf 42 0 7 41,yh 43 0 7 42 41,jf 44 1 3 41,yh 45 0 3 44 41,jh 46 6 41,DK 47 46 1 41,yi 48 5 45 47 41,jf 49 0 48 41,yu 50 49 41,⟨some 51,.val (.bin .str .leq (.t 43) (.t 50)),(some (41,true))⟩,ji 52 41 51,ja 53 6,yv 54 47 5 52 53 11]
def GN:IL:=[jj 55 3 2,jb 56 1 7,jc 57 56,jx 58 129 55 57,yl 59 58 0,ja 60 59,zz 61 3 2 60,jm 62 2 7 60,jv 63 62 60,zx 64 129 61 63 60,⟨some 65,.val (.bin .num .lss (.t 64) (.c (.int .i64 0))),(some (60,false))⟩,jq 66 60 65,ja 67 6,yv 68 47 5 66 67 12]
def GP:IL:=[jb 69 3 7,jc 70 69,yl 71 70 1,ja 72 71,jm 73 3 7 72,jv 74 73 72,yy 75 74 4 72,jq 76 72 75,ja 77 6,yv 78 47 5 76 77 1]
def GQ:IL:=[jb 79 4 7,jc 80 79,ja 81 6,⟨some 82,.callF (.f 126) [(.t 5),(.t 80),(.c (.int .i64 6)),(.t 81)],none⟩]
def RJ:IL:=[ja 26 6,jn 27 26 1,ja 6 27]
def RK:RC:=.gho (.drop 7) (.seq (jQ RH (jX 25 0)) (.seq (.block 1 (jQ RI (jQ Bo (jD Hq (jQ GN (jQ GP (.reg GQ))))))) (.reg RJ)))
def Vw:IL:=[jb 83 2 3,jc 84 83,yt 85 126 5 84 5 (-1)]
def Vx:IL:=[jb 86 1 5,jc 87 86,ja 4 87]
def r53:RC:=jQ Rz (jQ RD (.gho (.vecc 5 1 1100 3) (jQ RE (jQ RF (.seq (jQ RG (.block 0 (.loop RK))) (jQ Vw (jQ Vx (.ret))))))))
def o53:List RR:=[.tmp 4]
theorem k53:CT 53 88 r53 o53:=ck Tryz.func53 Tryz.ntmps53 (by decide +kernel)
abbrev QoU:IL:=[je 4]
abbrev QoV:IL:=[ja 5 0,ja 6 1,ye 7 131 5 6,ja 4 7]
abbrev Ws:RC:=jQ QoU (jQ QoV (.ret))
abbrev o60:List RR:=[.tmp 4]
abbrev QoW:IL:=[je 2]
abbrev QoX:IL:=[ja 3 0,js 4 143 3,yl 5 4 0,ja 2 5]
abbrev r89:RC:=jQ QoW (jQ QoX (.ret))
abbrev o89:List RR:=[.tmp 2]
theorem k89:CT 89 6 r89 o89:=ck Tryz.func89 Tryz.ntmps89 (by decide +kernel)
def Vy:IL:=[jg 1 1 0,yp 2]
def Vz:IL:=[jb 6 0 1,jc 7 6,⟨some 8,.val (.build [.str [],.int .i64 0,.nils] [(0,1,(.t 7)),(1,1,(.c (.int .i64 (-1))))]),none⟩,jg 9 9 8,ja 3 9]
def VA:IL:=[ja 10 3,jb 11 0 1,jc 12 11,js 13 151 12,yc 14 98 10 13 8]
def GR:IL:=[ja 15 3,jb 16 2 1,jc 17 16,jk 18 1 17,yd 19 18 1,ja 20 19,jf 21 2 1 20,jp 22 21 20,ya 23 1 22 20,yn 24 23 64 20,ji 25 20 24,ja 26 25,jf 27 3 1 26,jp 28 27 26,ya 29 1 28 26,yn 30 29 16 26,ji 31 26 30,yc 32 98 15 31 3]
def GS:IL:=[ja 33 3,jb 34 2 1,jc 35 34,jk 36 1 35,ju 37 36 0,ja 38 37,jm 39 2 1 38,jv 40 39 38,⟨some 41,.val (.iaddr 3 none (.t 40) (.c (.int .i64 0))),(some (38,false))⟩,jm 42 1 41 38,jv 43 42 38,zl 44 43 0 38,jq 45 38 44,yc 46 98 33 45 14]
def VB:IL:=[jb 47 2 1,jc 48 47,jk 49 1 48,jd 50 0]
def VC:IL:=[jr 51 50 49]
def VD:IL:=[ja 52 50,jl 53 3 48 50,jj 54 3 53,Nj 5 5,ja 4 52,jo 3 5 54]
def VE:IL:=[ja 55 3,jb 56 1 5,jc 57 56,yq 58 55,jb 59 1 58,jo 1 59 57]
def GT:IL:=[ja 60 3,jb 61 1 5,jc 62 61,yd 63 62 0,ja 64 63,jf 65 1 5 64,jp 66 65 64,yn 67 66 2147483647 64,ji 68 64 67,yc 69 98 60 68 6]
def WI:IL:=[ja 70 3,ja 71 4,ju 72 71 0,ja 73 72,jm 74 1 5 73,ys 75 0 5 74 73,jm 76 2 1 73,ys 77 0 1 76 73,jw 78 4 73,DO 79 78 1 73,zb 80 3 77 79 73,jm 81 1 80 73,zd 82 81 73,Nl 83 75 82 73,jq 84 73 83,yc 85 98 70 84 11]
def Uh:IL:=[ja 86 3,jb 87 0 5,jc 88 87,js 89 156 88,yc 90 98 86 89 8]
def Ui:IL:=[ja 91 3,jb 92 2 1,jc 93 92,ja 94 4,⟨some 95,.callF (.f 157) [(.t 93),(.t 94),(.f 158)],none⟩,jy 96 95,yc 97 98 91 96 9]
def Uj:IL:=[ja 98 3,jb 99 3 1,jc 100 99,jb 101 1 5,jc 102 101,jx 103 142 100 102,jy 104 103,yc 105 98 98 104 21]
def Uk:IL:=[ja 106 3,jb 107 2 5,jc 108 107,yc 109 154 106 108 4]
def D0:IL:=[jn 110 50 1,ja 50 110]
def VF:RC:=.gho (.drop 5) (jQ VC (.seq (jX 51 0) (.seq (.block 1 (jQ VD (jQ VE (jQ GT (jD WI (jQ Uh (jQ Ui (jQ Uj (.reg Uk))))))))) (.reg D0))))
def D1:IL:=[ja 111 3,yq 112 111,jb 113 1 112,⟨none,.store 1 (.t 113) (.c (.int .i64 (-1))),none⟩]
def D2:IL:=[ja 114 3,jb 115 3 1,jc 116 115,yt 117 153 114 116 0 2147483647]
def D3:IL:=[ja 118 3,jb 119 4 1,jc 120 119,yc 121 154 118 120 3]
def D4:IL:=[ja 122 3,yq 123 122,jb 124 2 123,jc 125 124,ja 2 125]
def QdY:RC:=jQ Vy (jQ Vz (.gho (.vecc 9 2 1100 3) (jQ VA (jQ GR (jQ GS (.seq (jQ VB (.block 0 (.loop VF))) (jQ D1 (jQ D2 (jQ D3 (jQ D4 (.ret)))))))))))
def QdZ:List RR:=[.tmp 2]
theorem QqY:CT 103 126 QdY QdZ:=ck Tryz.func103 Tryz.ntmps103 (by decide +kernel)
def VG:IL:=[jg 2 2 0,jg 3 3 1,yp 4]
def VH:IL:=[jb 12 0 3,jc 13 12,⟨some 14,.val (.build [.str [],.int .i64 0,.nils] [(0,1,(.t 13)),(1,1,(.c (.int .i64 (-1))))]),none⟩,jg 15 15 14,ja 5 15]
def VI:IL:=[ja 16 5,jb 17 0 3,jc 18 17,js 19 151 18,yc 20 98 16 19 8]
def VJ:IL:=[ja 21 5,jb 22 1 3,jc 23 22,jk 24 1 23,DM 25 24 64,yc 26 98 21 25 3]
def VK:IL:=[jb 27 1 3,jc 28 27,jk 29 1 28,jd 30 0]
def VL:IL:=[jr 31 30 29]
def VM:IL:=[ja 32 30,jl 33 5 28 30,jj 34 5 33,⟨some 7,.allocN 7 [.str [],.str [],.str [],.int .i64 0,.nils],none⟩,ja 6 32,jo 5 7 34]
def VN:IL:=[ja 35 5,ja 36 6,yq 37 35,jb 38 1 37,jo 1 38 36]
def GU:IL:=[ja 39 5,jb 40 0 7,jc 41 40,js 42 156 41,yc 43 98 39 42 8]
def Y1:IL:=[ja 44 5,ja 45 6,ju 46 45 0,ja 47 46,jm 48 0 7 47,ys 49 0 7 48 47,jm 50 1 3 47,ys 51 0 3 50 47,jw 52 6 47,DO 53 52 1 47,zb 54 5 51 53 47,jm 55 0 54 47,zd 56 55 47,⟨some 57,.val (.bin .str .gtr (.t 49) (.t 56)),(some (47,false))⟩,jq 58 47 57,yc 59 98 44 58 11]
def D5:IL:=[jj 61 3 2,jb 62 1 7,jc 63 62,jx 64 148 61 63,ja 60 64,jz 65 60 0,jz 66 60 1,ze 8 8,jo 5 8 65,ja 9 66]
def D6:IL:=[jj 68 3 2,jb 69 2 7,jc 70 69,jx 71 148 68 70,ja 67 71,jz 72 67 0,jz 73 67 1,ze 10 10,jo 5 10 72,ja 11 73]
def Ul:IL:=[ja 74 5,ja 75 9,ja 76 75,jh 77 11 76,ji 78 76 77,yc 79 98 74 78 12]
def Um:IL:=[ja 80 5,jb 81 3 7,jc 82 81,yd 83 82 1,ja 84 83,jf 85 3 7 84,jp 86 85 84,yn 87 86 4 84,ji 88 84 87,yc 89 98 80 88 1]
def Un:IL:=[ja 90 5,jb 91 4 7,jc 92 91,yc 93 154 90 92 6]
def D7:IL:=[jn 94 30 1,ja 30 94]
def VP:RC:=.gho (.drop 10) (.gho (.drop 8) (.gho (.drop 7) (jQ VL (.seq (jX 31 0) (.seq (.block 1 (jQ VM (jQ VN (jQ GU (jD Y1 (jQ D5 (jQ D6 (jQ Ul (jQ Um (.reg Un)))))))))) (.reg D7))))))
def D8:IL:=[ja 95 5,yq 96 95,jb 97 1 96,⟨none,.store 1 (.t 97) (.c (.int .i64 (-1))),none⟩]
def D9:IL:=[ja 98 5,jb 99 2 3,jc 100 99,yc 101 154 98 100 5]
def Fa:IL:=[ja 102 5,yq 103 102,jb 104 2 103,jc 105 104,ja 4 105]
def Qd0:RC:=jQ VG (jQ VH (.gho (.vecc 15 2 1100 3) (jQ VI (jQ VJ (.seq (jQ VK (.block 0 (.loop VP))) (jQ D8 (jQ D9 (jQ Fa (.ret)))))))))
def Qd1:List RR:=[.tmp 4]
theorem QqZ:CT 104 106 Qd0 Qd1:=ck Tryz.func104 Tryz.ntmps104 (by decide +kernel)
abbrev Qd2:IL:=[jg 2 2 0,je 3]
abbrev Qd3:IL:=[jb 4 0 2,jc 5 4,jb 6 1 1,jc 7 6,yf 8 5 7,ja 3 8]
abbrev Qq0:RC:=jQ Qd2 (jQ Qd3 (.ret))
abbrev Qq1:List RR:=[.tmp 3]
theorem Qq2:CT 106 9 Qq0 Qq1:=ck Tryz.func106 Tryz.ntmps106 (by decide +kernel)
abbrev Qd4:IL:=[jd 4 0]
abbrev Qd5:IL:=[ja 6 0,jk 7 1 6,jd 8 0]
abbrev Qd6:IL:=[jr 9 8 7]
abbrev Qd7:IL:=[ja 10 8,ja 5 10]
abbrev Qd8:IL:=[ja 11 1,ja 12 0,ja 13 5,jl 14 5 12 13,jj 15 5 14,zv 16 11 15]
abbrev Qd9:IL:=[ja 17 5,ja 4 17]
abbrev Qea:IL:=[jn 18 8 1,ja 8 18]
abbrev Qeb:RC:=jQ Qd6 (.seq (jX 9 0) (.seq (.block 1 (jQ Qd7 (jQ Qd8 (.cond (.t 16) (jQ Qd9 (.ret)) (.skip))))) (.reg Qea)))
abbrev Qec:IL:=[jd 4 (-1)]
abbrev Qq3:RC:=jQ Qd4 (.seq (jQ Qd5 (.block 0 (.loop Qeb))) (jQ Qec (.ret)))
abbrev Qq4:List RR:=[.tmp 4]
theorem Qq5:CT 107 19 Qq3 Qq4:=ck Tryz.func107 Tryz.ntmps107 (by decide +kernel)
abbrev Qed:IL:=[jg 2 2 0,je 3]
abbrev Qee:IL:=[jb 4 0 2,jc 5 4,jb 6 1 1,jc 7 6,yf 8 5 7,ja 3 8]
abbrev Qq6:RC:=jQ Qed (jQ Qee (.ret))
abbrev Qq7:List RR:=[.tmp 3]
theorem Qq8:CT 108 9 Qq6 Qq7:=ck Tryz.func108 Tryz.ntmps108 (by decide +kernel)
abbrev Qef:IL:=[jd 4 0]
abbrev Qeg:IL:=[jd 5 0]
abbrev Qeh:IL:=[ja 6 5,ja 7 0,jk 8 1 7,jr 9 6 8]
abbrev Qei:IL:=[ja 12 0,ja 13 5,jl 14 8 12 13,jb 15 0 14,jc 16 15,ja 17 1,yf 18 16 17]
abbrev Qej:IL:=[ja 19 5,ja 4 19]
abbrev Qek:IL:=[ja 10 5,jn 11 10 1,ja 5 11]
abbrev Qel:RC:=.seq (jQ Qeh (jX 9 0)) (.seq (.block 1 (jQ Qei (.cond (.t 18) (jQ Qej (.ret)) (.skip)))) (.reg Qek))
abbrev Qem:IL:=[jd 4 (-1)]
abbrev Qq9:RC:=jQ Qef (.seq (jQ Qeg (.block 0 (.loop Qel))) (jQ Qem (.ret)))
abbrev Qra:List RR:=[.tmp 4]
theorem Qrb:CT 110 20 Qq9 Qra:=ck Tryz.func110 Tryz.ntmps110 (by decide +kernel)
abbrev Qen:IL:=[je 4]
abbrev Qeo:IL:=[jd 5 0]
abbrev Qep:IL:=[ja 6 5,ja 7 0,jk 8 1 7,jr 9 6 8]
abbrev Qeq:IL:=[ja 12 0,ja 13 5,jl 14 1 12 13,jc 15 14,ja 16 1,yf 17 15 16]
abbrev Qer:IL:=[yb 4]
abbrev Qes:IL:=[ja 10 5,jn 11 10 1,ja 5 11]
abbrev Qet:RC:=.seq (jQ Qep (jX 9 0)) (.seq (.block 1 (jQ Qeq (.cond (.t 17) (jQ Qer (.ret)) (.skip)))) (.reg Qes))
abbrev Qeu:IL:=[je 4]
abbrev Qrc:RC:=jQ Qen (.seq (jQ Qeo (.block 0 (.loop Qet))) (jQ Qeu (.ret)))
abbrev Qrd:List RR:=[.tmp 4]
theorem Qre:CT 117 18 Qrc Qrd:=ck Tryz.func117 Tryz.ntmps117 (by decide +kernel)
abbrev Qev:IL:=[jg 3 3 0,jg 4 4 1,je 6]
abbrev Qew:IL:=[jd 7 0]
abbrev Qex:IL:=[ja 10 7,jb 11 1 4,jc 12 11,jk 13 1 12,jr 14 10 13]
abbrev Qey:IL:=[jb 17 1 4,jc 18 17,ja 19 7,jl 20 16 18 19,jj 21 16 20,zt 8 8,jo 16 8 21]
abbrev Qez:IL:=[jb 22 2 8,jc 23 22,yo 24 23 1,ja 25 24,jm 26 4 8 25,jm 27 0 26 25,jv 28 27 25,MY 29 28 10 25,jq 30 25 29]
abbrev QeA:IL:=[jj 31 3 3,jb 32 4 8,jb 33 1 32,jc 34 33,jx 35 129 31 34,ja 9 35]
abbrev QeB:IL:=[ja 36 9,yd 37 36 0,ja 38 37,jh 39 2 38,jh 40 9 38,yi 41 1 39 40 38,jp 42 41 38,yx 43 42 38,ji 44 38 43]
abbrev QeC:IL:=[yb 6]
abbrev QeD:IL:=[ja 15 7,jn 16 15 1,ja 7 16]
abbrev QeE:RC:=.gho (.drop 8) (.seq (jQ Qex (jX 14 0)) (.seq (.block 1 (jQ Qey (.seq (jQ Qez (.cond (.t 30) (.exit 1) (.skip))) (jQ QeA (jQ QeB (.cond (.t 44) (jQ QeC (.ret)) (.skip))))))) (.reg QeD)))
abbrev QeF:IL:=[je 6]
abbrev Qrf:RC:=jQ Qev (.seq (jQ Qew (.block 0 (.loop QeE))) (jQ QeF (.ret)))
abbrev Qrg:List RR:=[.tmp 6]
theorem Qrh:CT 118 45 Qrf Qrg:=ck Tryz.func118 Tryz.ntmps118 (by decide +kernel)
abbrev QeG:IL:=[je 2]
abbrev QeH:IL:=[ja 6 0,js 7 167 6,jy 8 7]
abbrev QeI:IL:=[je 2]
abbrev QeJ:IL:=[jd 3 0]
abbrev QeK:IL:=[ja 9 3,yl 10 9 120,ja 11 10,jh 12 0 11,⟨some 13,.val (.bin .str .neq (.t 12) (.c (.str []))),(some (11,true))⟩,ji 14 11 13]
abbrev QeL:IL:=[ja 18 0,js 19 168 18,ja 17 19,jz 20 17 0,jz 21 17 1,ja 4 20,ja 5 21]
abbrev QeM:IL:=[ja 22 5,js 23 169 22]
abbrev QeN:IL:=[je 2]
abbrev QeO:IL:=[ja 24 4,ja 0 24]
abbrev QeP:IL:=[ja 15 3,jn 16 15 1,ja 3 16]
abbrev QeQ:RC:=.seq (jQ QeK (jX 14 0)) (.seq (.block 1 (jQ QeL (.seq (jQ QeM (.cond (.t 23) (jQ QeN (.ret)) (.skip))) (.reg QeO)))) (.reg QeP))
abbrev SH:IL:=[yb 2]
abbrev Qri:RC:=jQ QeG (.seq (jQ QeH (.cond (.t 8) (jQ QeI (.ret)) (.skip))) (.seq (jQ QeJ (.block 0 (.loop QeQ))) (jQ SH (.ret))))
abbrev Qrj:List RR:=[.tmp 2]
theorem Qrk:CT 119 25 Qri Qrj:=ck Tryz.func119 Tryz.ntmps119 (by decide +kernel)
abbrev QeR:IL:=[je 2]
abbrev QeS:IL:=[ja 3 0,js 4 170 3,ja 5 4,jh 6 0 5,HZ 7 169 6 5,yx 8 7 5,ji 9 5 8,ja 2 9]
abbrev Qrl:RC:=jQ QeR (jQ QeS (.ret))
abbrev Qrm:List RR:=[.tmp 2]
theorem Qrn:CT 120 10 Qrl Qrm:=ck Tryz.func120 Tryz.ntmps120 (by decide +kernel)
abbrev QeT:IL:=[je 4]
abbrev QeU:IL:=[jd 5 0]
abbrev QeV:IL:=[ja 6 5,ja 7 0,jk 8 1 7,jr 9 6 8]
abbrev QeW:IL:=[ja 12 0,ja 13 5,jl 14 2 12 13,jb 15 0 14,jc 16 15,ja 17 1,⟨some 18,.val (.bin .num .leq (.t 16) (.t 17)),none⟩,ja 19 18,jh 20 1 19,jh 21 0 19,jh 22 5 19,yi 23 2 21 22 19,jf 24 1 23 19,jp 25 24 19,US 26 20 25 19,ji 27 19 26]
abbrev QeX:IL:=[yb 4]
abbrev QeY:IL:=[ja 10 5,jn 11 10 1,ja 5 11]
abbrev QeZ:RC:=.seq (jQ QeV (jX 9 0)) (.seq (.block 1 (jQ QeW (.cond (.t 27) (jQ QeX (.ret)) (.skip)))) (.reg QeY))
abbrev Qe0:IL:=[je 4]
abbrev Qro:RC:=jQ QeT (.seq (jQ QeU (.block 0 (.loop QeZ))) (jQ Qe0 (.ret)))
abbrev Qrp:List RR:=[.tmp 4]
theorem Qrq:CT 121 28 Qro Qrp:=ck Tryz.func121 Tryz.ntmps121 (by decide +kernel)
abbrev Qe1:IL:=[jg 1 1 0,je 2]
abbrev Qe2:IL:=[jb 3 2 1,jc 4 3,yo 5 4 5]
abbrev Qe3:IL:=[jb 6 2 1,jc 7 6,yd 8 7 1,ja 9 8,jf 10 2 1 9,jp 11 10 9,yn 12 11 4 9,ji 13 9 12,ja 14 13,jf 15 3 1 14,jp 16 15 14,za 17 16 0 14,ji 18 14 17,ja 2 18]
abbrev Qe4:IL:=[jb 19 3 1,jc 20 19]
abbrev Qe5:IL:=[ju 22 20 1,ja 21 22]
abbrev Qe6:IL:=[ju 23 20 2,ja 21 23]
abbrev Qe7:IL:=[ju 24 20 3,ja 21 24]
abbrev Qe8:IL:=[ju 25 20 4,ja 21 25]
abbrev Qe9:IL:=[ju 26 20 5,ja 21 26]
abbrev Qfa:IL:=[ju 27 20 7,ja 21 27]
abbrev SJ:IL:=[yb 2]
abbrev SK:IL:=[je 2]
abbrev Qrr:RC:=jQ Qe1 (.seq (jQ Qe2 (.cond (.t 5) (jQ Qe3 (.ret)) (.skip))) (.seq (jQ Qe4 (.block 0 (.seq (jQ Qe5 (.cond (.t 21) (.skip) (jQ Qe6 (.cond (.t 21) (.skip) (jQ Qe7 (.cond (.t 21) (.skip) (jQ Qe8 (.cond (.t 21) (.skip) (jQ Qe9 (.cond (.t 21) (.skip) (.reg Qfa))))))))))) (.cond (.t 21) (jQ SJ (.ret)) (.skip))))) (jQ SK (.ret))))
abbrev Qrs:List RR:=[.tmp 2]
theorem Qrt:CT 122 28 Qrr Qrs:=ck Tryz.func122 Tryz.ntmps122 (by decide +kernel)
abbrev Qfb:IL:=[jg 2 2 0,jg 3 3 1,je 4]
abbrev Qfc:IL:=[jb 5 4 3,jb 6 0 5,jc 7 6]
abbrev Qfd:IL:=[ju 9 7 9,ja 8 9]
abbrev Qfe:IL:=[jj 10 3 2,jb 11 4 3,jb 12 1 11,jc 13 12,jx 14 171 10 13,yd 15 14 0,ja 4 15]
abbrev Qff:IL:=[ju 17 7 10,ja 16 17]
abbrev Qfg:IL:=[jj 18 3 2,jb 19 4 3,jb 20 1 19,jc 21 20,jx 22 129 18 21,yd 23 22 0,ja 24 23,jf 25 2 3 24,jp 26 25 24,zw 27 26 3 24,ji 28 24 27,ja 4 28]
abbrev Qfh:IL:=[jb 29 4 3,jb 30 0 29,jc 31 30,yd 32 31 1,ja 33 32,jf 34 4 3 33,jf 35 0 34 33,jp 36 35 33,yn 37 36 8 33,ji 38 33 37,ja 39 38,jf 40 4 3 39,jf 41 1 40 39,jp 42 41 39,⟨some 43,.val (.bin .str .eql (.t 42) (.c (.str []))),(some (39,true))⟩,ji 44 39 43,ja 4 44]
abbrev Qru:RC:=jQ Qfb (.seq (jQ Qfc (.block 0 (jQ Qfd (.cond (.t 8) (jQ Qfe (.ret)) (jQ Qff (.cond (.t 16) (jQ Qfg (.ret)) (.skip))))))) (jQ Qfh (.ret)))
abbrev Qrv:List RR:=[.tmp 4]
theorem Qrw:CT 123 45 Qru Qrv:=ck Tryz.func123 Tryz.ntmps123 (by decide +kernel)
abbrev Qfi:IL:=[jg 2 2 0,je 4]
abbrev Qfj:IL:=[jb 8 1 2,jc 9 8,ja 10 1,jl 11 16 9 10,jj 12 16 11,zt 5 5,jo 16 5 12]
abbrev Qfk:IL:=[jb 13 6 5,jc 14 13,Nm 15 14]
abbrev Qfl:IL:=[yb 4]
abbrev Qfm:IL:=[jb 16 2 5,jc 17 16,yo 18 17 2,ja 19 18,jm 20 6 5 19,jv 21 20 19,zg 22 120 21 19,zf 23 22 19,jq 24 19 23]
abbrev Qfn:IL:=[je 4]
abbrev Qfo:IL:=[je 6]
abbrev Qfp:IL:=[jd 7 0]
abbrev Qfq:IL:=[ja 25 7,jb 26 1 2,jc 27 26,jk 28 1 27,jr 29 25 28]
abbrev SL:IL:=[jb 32 1 2,jt 33 0 2 32,ja 34 7,jl 35 16 33 34,jb 36 1 35,yk 37 36,jb 38 6 5,jt 39 0 5 38,yf 40 37 39]
abbrev SP:IL:=[je 4]
abbrev SR:IL:=[ja 41 7,ja 42 1,jr 43 41 42,ja 44 43,jf 45 1 2 44,yh 46 0 2 45 44,jh 47 7 44,yi 48 16 46 47 44,jf 49 6 48 44,yu 50 49 44,jf 51 6 5 44,yh 52 0 5 51 44,UV 53 50 52 44,ji 54 44 53]
abbrev SS:IL:=[yb 6]
abbrev Qfr:IL:=[ja 30 7,jn 31 30 1,ja 7 31]
abbrev Qfs:RC:=.seq (jQ Qfq (jX 29 0)) (.seq (.block 1 (.seq (jD SL (.cond (.t 40) (jQ SP (.ret)) (.skip))) (jD SR (.cond (.t 54) (.reg SS) (.skip))))) (.reg Qfr))
abbrev SU:IL:=[ja 55 6,jy 56 55,ja 57 56,jm 58 1 2 57,ys 59 0 2 58 57,jw 60 1 57,DO 61 60 1 57,zb 62 16 59 61 57,jm 63 6 62 57,zd 64 63 57,jm 65 6 5 57,ys 66 0 5 65 57,⟨some 67,.val (.bin .str .eql (.t 64) (.t 66)),(some (57,false))⟩,jq 68 57 67,ja 4 68]
abbrev Qrx:RC:=jQ Qfi (jQ Qfj (.seq (jQ Qfk (.cond (.t 15) (jQ Qfl (.ret)) (.skip))) (.seq (jQ Qfm (.cond (.t 24) (jQ Qfn (.ret)) (.skip))) (jQ Qfo (.seq (jQ Qfp (.block 0 (.loop Qfs))) (jD SU (.ret)))))))
abbrev Qry:List RR:=[.tmp 4]
theorem Qrz:CT 124 69 Qrx Qry:=ck Tryz.func124 Tryz.ntmps124 (by decide +kernel)
abbrev Qft:IL:=[jg 2 2 0,jg 3 3 1,je 4]
abbrev Qfu:IL:=[jb 8 8 3,jj 9 7 8,UU 5 5,jo 7 5 9]
abbrev Qfv:IL:=[jb 10 7 3,jc 11 10,jy 12 11]
abbrev Qfw:IL:=[jj 13 7 5,⟨some 14,.val (.build [.int .i64 0,.int .u64 0,.str [],.nils,.nils,.nils,.nils] []),none⟩,jx 15 172 13 14,ja 4 15]
abbrev Qfx:IL:=[jb 16 2 3,jt 17 0 3 16,yo 18 17 2,ja 19 18,jm 20 6 3 19,ys 21 0 3 20 19,⟨some 22,.val (.bin .str .neq (.t 21) (.c (.str []))),(some (19,false))⟩,jq 23 19 22,ja 24 23,jm 25 4 3 24,jm 26 0 25 24,ys 27 0 3 26 24,Nn 28 0 5 7 5 24,zx 29 173 27 28 24,zf 30 29 24,jq 31 24 30,ja 32 31,Nn 33 0 5 7 5 32,Nn 34 0 5 7 5 32,zg 35 174 34 32,zx 36 172 33 35 32,zf 37 36 32,jq 38 32 37]
abbrev Qfy:IL:=[je 4]
abbrev Qfz:IL:=[jj 39 3 2,jb 40 4 3,jb 41 1 40,jc 42 41,jx 43 171 39 42,ja 6 43]
abbrev QfA:IL:=[jb 44 4 3,jb 45 0 44,jc 46 45,yo 47 46 9]
abbrev QfB:IL:=[yb 4]
abbrev QfC:IL:=[ja 48 6,yl 49 48 0]
abbrev SX:IL:=[je 4]
abbrev SY:IL:=[jd 7 0]
abbrev SZ:IL:=[ja 50 7,jb 51 1 2,jc 52 51,ja 53 6,jl 54 5 52 53,jb 55 2 54,jc 56 55,jk 57 1 56,jr 58 50 57]
abbrev S0:IL:=[jb 61 1 2,jt 62 0 2 61,ja 63 6,jl 64 5 62 63,jb 65 2 64,yk 66 65,ja 67 7,jl 68 3 66 67,jb 69 1 68,yk 70 69,⟨some 71,.val (.cvi .u64 (.t 70)),none⟩,jb 72 1 5,jt 73 0 5 72,zq 74 71 73]
abbrev S1:IL:=[yb 4]
abbrev S2:IL:=[ja 59 7,jn 60 59 1,ja 7 60]
abbrev QfD:RC:=.seq (jQ SZ (jX 58 0)) (.seq (.block 1 (jD S0 (.cond (.t 74) (jQ S1 (.ret)) (.skip)))) (.reg S2))
abbrev S3:IL:=[je 4]
abbrev QrA:RC:=jQ Qft (jQ Qfu (.seq (jQ Qfv (.cond (.t 12) (jQ Qfw (.ret)) (.skip))) (.seq (jD Qfx (.cond (.t 38) (jQ Qfy (.ret)) (.skip))) (jQ Qfz (.seq (jQ QfA (.cond (.t 47) (jQ QfB (.ret)) (.skip))) (.seq (jQ QfC (.cond (.t 49) (jQ SX (.ret)) (.skip))) (.seq (jQ SY (.block 0 (.loop QfD))) (jQ S3 (.ret)))))))))
abbrev QrB:List RR:=[.tmp 4]
theorem QrC:CT 125 75 QrA QrB:=ck Tryz.func125 Tryz.ntmps125 (by decide +kernel)
abbrev QfE:IL:=[ja 9 1,ja 10 2,jx 11 175 9 10,ja 8 11]
abbrev QfF:IL:=[ja 12 0,ja 13 8,yo 14 13 0,ja 15 3,ja 16 8,⟨some 17,.callF (.f 47) [(.t 12),(.t 14),(.t 15),(.t 16)],none⟩]
abbrev QrD:RC:=jQ QfE (.reg QfF)
abbrev QrE:List RR:=[]
theorem QrF:CT 126 18 QrD QrE:=ck Tryz.func126 Tryz.ntmps126 (by decide +kernel)
def VQ:IL:=[jd 8 0]
def VR:IL:=[ja 9 8,ja 10 1,jk 11 1 10,jr 12 9 11]
def GV:IL:=[ja 15 0,ja 16 1,ja 17 8,jl 18 2 16 17,jb 19 0 18,yk 20 19,ja 21 2,jr 22 20 21,ja 23 22,jw 24 1 23,jw 25 8 23,zb 26 2 24 25 23,jm 27 1 26 23,zd 28 27 23,jw 29 3 23,Nl 30 28 29 23,jq 31 23 30,ja 32 31,jw 33 1 32,jw 34 8 32,zb 35 2 33 34 32,jm 36 0 35 32,zd 37 36 32,jw 38 1 32,jw 39 8 32,zb 40 2 38 39 32,jm 41 1 40 32,zd 42 41 32,Nl 43 37 42 32,jq 44 32 43,yt 45 47 15 44 (-1) 6]
def Y2:IL:=[ja 46 0,ja 47 8,yr 48 47 0,ja 49 48,jh 50 1 49,jh 51 8 49,yi 52 2 50 51 49,jf 53 0 52 49,yu 54 53 49,jh 55 1 49,jh 56 8 49,DK 57 56 1 49,yi 58 2 55 57 49,jf 59 1 58 49,yu 60 59 49,US 61 54 60 49,ji 62 49 61,yt 63 47 46 62 (-1) 11]
def VS:IL:=[ja 13 8,jn 14 13 1,ja 8 14]
def VT:RC:=.seq (jQ VR (jX 12 0)) (.seq (.block 1 (jD GV (.draw Y2))) (.reg VS))
def QfG:RC:=jQ VQ (.block 0 (.loop VT))
def QfH:List RR:=[]
theorem QrG:CT 127 64 QfG QfH:=ck Tryz.func127 Tryz.ntmps127 (by decide +kernel)
abbrev QfI:IL:=[je 2]
abbrev QfJ:IL:=[ja 3 0,js 4 176 3,yl 5 4 0,ja 2 5]
abbrev QrH:RC:=jQ QfI (jQ QfJ (.ret))
abbrev QrI:List RR:=[.tmp 2]
theorem QrJ:CT 128 6 QrH QrI:=ck Tryz.func128 Tryz.ntmps128 (by decide +kernel)
abbrev QfK:IL:=[jg 2 2 0,jd 4 0]
abbrev QfL:IL:=[jd 5 0]
abbrev QfM:IL:=[ja 6 5,jb 7 0 2,jc 8 7,jk 9 1 8,jr 10 6 9]
abbrev QfN:IL:=[jb 13 0 2,jc 14 13,ja 15 5,jl 16 5 14 15,jb 17 0 16,jc 18 17,ja 19 1,yf 20 18 19]
abbrev QfO:IL:=[ja 21 5,ja 4 21]
abbrev QfP:IL:=[ja 11 5,jn 12 11 1,ja 5 12]
abbrev QfQ:RC:=.seq (jQ QfM (jX 10 0)) (.seq (.block 1 (jQ QfN (.cond (.t 20) (jQ QfO (.ret)) (.skip)))) (.reg QfP))
abbrev QfR:IL:=[jd 4 (-1)]
abbrev QrK:RC:=jQ QfK (.seq (jQ QfL (.block 0 (.loop QfQ))) (jQ QfR (.ret)))
abbrev QrL:List RR:=[.tmp 4]
theorem QrM:CT 129 22 QrK QrL:=ck Tryz.func129 Tryz.ntmps129 (by decide +kernel)
abbrev QfS:IL:=[je 4]
abbrev QfT:IL:=[ja 5 0,ja 6 1,ye 7 182 5 6,yd 8 7 0,ja 4 8]
abbrev QrN:RC:=jQ QfS (jQ QfT (.ret))
abbrev QrO:List RR:=[.tmp 4]
theorem QrP:CT 138 9 QrN QrO:=ck Tryz.func138 Tryz.ntmps138 (by decide +kernel)
abbrev QfU:IL:=[jd 2 0]
abbrev QfV:IL:=[ja 5 0,⟨some 6,.rngs 6 (.t 5),none⟩]
abbrev QfW:IL:=[⟨some 7,.nxts (.t 6),none⟩,jz 8 7 0]
abbrev QfX:IL:=[jz 9 7 1,jz 10 7 2,ja 3 9,ja 4 10]
abbrev QfY:IL:=[ja 11 0,ja 12 3,ja 13 4,H1 14 185 11 12 13]
abbrev QfZ:IL:=[ja 15 3,ja 2 15]
abbrev Qf0:RC:=jQ QfW (.seq (jX 8 0) (.block 1 (jQ QfX (jQ QfY (.cond (.t 14) (jQ QfZ (.ret)) (.skip))))))
abbrev Qf1:IL:=[jd 2 (-1)]
abbrev QrQ:RC:=jQ QfU (.seq (jQ QfV (.block 0 (.loop Qf0))) (jQ Qf1 (.ret)))
abbrev QrR:List RR:=[.tmp 2]
theorem QrS:CT 143 16 QrQ QrR:=ck Tryz.func143 Tryz.ntmps143 (by decide +kernel)
abbrev Qf2:IL:=[je 2]
abbrev Qf3:IL:=[ja 3 0,yd 4 3 1,ja 5 4,jh 6 0 5,yn 7 6 9 5,ji 8 5 7,ja 2 8]
abbrev QrT:RC:=jQ Qf2 (jQ Qf3 (.ret))
abbrev QrU:List RR:=[.tmp 2]
theorem QrV:CT 144 9 QrT QrU:=ck Tryz.func144 Tryz.ntmps144 (by decide +kernel)
abbrev Qf4:IL:=[jg 4 4 0,jd 8 0]
abbrev Qf5:IL:=[⟨some 12,.call (.f 186) [],none⟩,jb 13 0 4,jt 14 0 4 13,⟨some 15,.val (.mgetp true (.agg [.int .i64 0,.int .i64 0]) (.t 12) (.t 14)),none⟩,ja 11 15,jz 16 11 0,jz 17 11 1,⟨some 9,.allocN 9 [.int .i64 0,.int .i64 0],none⟩,yz 0 9 2 9 16,ja 10 17]
abbrev Qf6:IL:=[ja 19 10,jy 20 19,ja 18 20]
abbrev Qf7:IL:=[jd 8 8]
abbrev Qf8:IL:=[ja 22 1,yl 23 22 1,ja 24 23,jw 25 1 24,yy 26 25 6 24,jq 27 24 26,ja 28 27,jm 29 1 9 28,jv 30 29 28,jw 31 1 28,⟨some 32,.val (.bin .num .shr (.t 30) (.t 31)),(some (28,false))⟩,⟨some 33,.val (.bin .num .and (.t 32) (.c (.int .i64 1))),(some (28,false))⟩,zl 34 33 0 28,jq 35 28 34,ja 21 35]
abbrev Qf9:IL:=[jd 8 1]
abbrev Qga:IL:=[jj 37 8 4,js 38 187 37,jy 39 38,ja 36 39]
abbrev Qgb:IL:=[jd 8 12]
abbrev Qgc:IL:=[ja 41 3,ja 42 41,jf 43 0 4 42,jp 44 43 42,jh 45 2 42,⟨some 46,.val (.bin .str .lss (.t 44) (.t 45)),(some (42,true))⟩,ji 47 42 46,ja 40 47]
abbrev Qgd:IL:=[jd 8 11]
abbrev S4:IL:=[ja 49 3,ja 50 49,jf 51 0 4 50,jp 52 51 50,jh 53 2 50,UV 54 52 53 50,ji 55 50 54,ja 48 55]
abbrev S5:IL:=[jd 8 9]
abbrev S6:IL:=[jd 8 0]
abbrev QrW:RC:=jQ Qf4 (jD Qf5 (.seq (.block 0 (jQ Qf6 (.cond (.t 18) (jQ Qf7 (.ret)) (jQ Qf8 (.cond (.t 21) (jQ Qf9 (.ret)) (jQ Qga (.cond (.t 36) (jQ Qgb (.ret)) (jQ Qgc (.cond (.t 40) (jQ Qgd (.ret)) (jQ S4 (.cond (.t 48) (jQ S5 (.ret)) (.skip)))))))))))) (jQ S6 (.ret))))
abbrev QrX:List RR:=[.tmp 8]
theorem QrY:CT 145 56 QrW QrX:=ck Tryz.func145 Tryz.ntmps145 (by decide +kernel)
abbrev Qge:IL:=[je 4]
abbrev Qgf:IL:=[jc 5 2,⟨some 6,.val (.iaddr 1 (some 3) (.t 1) (.t 5)),none⟩,jc 7 6,ja 8 0,jx 9 36 7 8,ja 4 9]
abbrev QrZ:RC:=jQ Qge (jQ Qgf (.ret))
abbrev Qr0:List RR:=[.tmp 4]
theorem Qr1:CT 147 10 QrZ Qr0:=ck Tryz.func147 Tryz.ntmps147 (by decide +kernel)
abbrev Qgg:IL:=[je 4]
abbrev Qgh:IL:=[jj 8 3 1,ja 9 0,jx 10 148 8 9,ja 7 10,jz 11 7 0,jz 12 7 1,ze 5 5,jo 5 5 11,ja 6 12]
abbrev Qgi:IL:=[ja 13 6,ja 14 13,jp 15 2 14,jh 16 0 14,⟨some 17,.val (.mget false (.bool false) (.t 15) (.t 16)),(some (14,true))⟩,yx 18 17 14,ji 19 14 18,ja 4 19]
abbrev Qr2:RC:=jQ Qgg (jQ Qgh (jQ Qgi (.ret)))
abbrev Qr3:List RR:=[.tmp 4]
theorem Qr4:CT 150 20 Qr2 Qr3:=ck Tryz.func150 Tryz.ntmps150 (by decide +kernel)
abbrev Qgj:IL:=[jg 3 3 0,jg 4 4 1,jg 5 5 2,je 6]
abbrev Qgk:IL:=[jc 7 3,jc 8 4,MW 9 3 7 8,⟨some 10,.val (.mkfn (.func 196) [] [(.t 5),(.t 3),(.t 4)]),none⟩,ye 11 138 9 10,ja 6 11]
abbrev Qr5:RC:=jQ Qgj (jQ Qgk (.ret))
abbrev Qr6:List RR:=[.tmp 6]
theorem Qr7:CT 157 12 Qr5 Qr6:=ck Tryz.func157 Tryz.ntmps157 (by decide +kernel)
abbrev Qgl:IL:=[jg 1 1 0,zn 2]
abbrev Qgm:IL:=[jb 3 0 1,jc 4 3,ja 2 4]
abbrev Qr8:RC:=jQ Qgl (jQ Qgm (.ret))
abbrev Qr9:List RR:=[.tmp 2]
theorem Qsa:CT 158 5 Qr8 Qr9:=ck Tryz.func158 Tryz.ntmps158 (by decide +kernel)
abbrev Qgn:IL:=[jg 2 2 0,je 3]
abbrev Qgo:IL:=[jb 4 0 2,jc 5 4,jc 6 1,yf 7 5 6,ja 3 7]
abbrev Qsb:RC:=jQ Qgn (jQ Qgo (.ret))
abbrev Qsc:List RR:=[.tmp 3]
theorem Qsd:CT 160 8 Qsb Qsc:=ck Tryz.func160 Tryz.ntmps160 (by decide +kernel)
end Go.Proofs.YtaiflhahcglpgaaGreatDoor.Rc

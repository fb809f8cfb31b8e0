/- Parts of the proof, in order. -/
import Derived.Deep.LoopGhost
import Derived.Scope
import Derived.Orders
import Derived.Defers
import Derived.Below
import Derived.ChangeSame
import Derived.ProofKit
import Derived.Test.YtdhlbgejhcejcaaGreatDoorProg
import Derived.Test.YtdhlbgejhcejcaaGreatDoorMTagencCanonical0

namespace Go.Proofs.YtdhlbgejhcejcaaGreatDoor.Am
open Go

def Qk (P:Program)(k:FuncId)(args:List AV)(v:AV):Prop:=WV P k args (· = v)

def Uj (P:Program)(d:Option Nat)(op:RO)(st:St)(K:St→Prop):Prop :=
 match op with
 |.val vo=>∃x,Qt st.f st.m vo=some x∧K { st with f:=Qp st.f d x }
 |.allocN s z=>XN st.m s=true∧K { st with m:=Am.put st.m 0 s (.cells z),f:=Qp st.f d (.ptr 0 s 0) }
 |.boxN s r=>XN st.m s=true∧(r.ev st.f).cells.all AV.leaf=true∧K { st with m:=Am.put st.m 0 s (.cells (r.ev st.f).cells),f:=Qp st.f d (.ptr 0 s 0) }
 |.store n p r=>(r.ev st.f).cells.length=n∧(r.ev st.f).cells.all AV.leaf=true∧∃m',QX st.m (p.ev st.f) (r.ev st.f).cells=some m'∧K { st with m:=m',f:=Qp st.f d (.tup []) }
 |.app sz bytes el s r=>∃l site g n xs ys,s.ev st.f=.vec l site g 0 n false∧Qf st.m l site=.vec g sz xs∧XP site el=true∧n≤xs.length∧Xe st.m (r.ev st.f)=some ys∧ys.all (fun e=>e.cells.length==sz)=true∧n+ys.length≤maxLen∧(n+ys.length)*bytes≤140737488355328∧
   K { st with m:=Am.put st.m l site (.vec (g+1) sz (xs.take n++ys)),f:=Qp st.f d (.vec l site (g+1) 0 (n+ys.length) false) }
 |.storev l s n p r=>(∃o,p.ev st.f=.ptr l s o)∧(r.ev st.f).cells.length=n∧(r.ev st.f).cells.all AV.leaf=true∧∃m',QX st.m (p.ev st.f) (r.ev st.f).cells=some m'∧K { st with m:=m',f:=Qp st.f d (.tup []) }
 |.call f args=>∃k fa fb ys v,f.ev st.f=.fn (.func k) fa fb∧AV.stillL false st.m (fa++args.map (RA.ev st.f)++fb)=some ys∧AV.rfL ys=true∧Qk P k ys v∧v.rf=true∧(AV.rfL (fa++args.map (RA.ev st.f)++fb)=true∨v.nl=true)∧K { st with f:=Qp st.f d v }
 |.callF f args=>∃k fa fb v m',f.ev st.f=.fn (.func k) fa fb∧Qg P k (fa++args.map (RA.ev st.f)++fb) st.m (fun x m=>x=v∧m=m')∧K { st with m:=m',f:=Qp st.f d v }
 |.bsl sz len z ps=>∃y,fill st.f ps (XM z sz len)=some y∧AV.rfL y=true∧y.all AV.leaf=true∧K { st with f:=Qp st.f d (.list (XW sz len (y.map nn0))) }
 |.bslv site sz len z ps=>∃y,fill st.f ps (XM z sz len)=some y∧AV.rfL y=true∧y.all AV.leaf=true∧Qu (Qf st.m 0 site)=true∧
   K { st with m:=Am.put st.m 0 site (.vec (QD st.m 0 site) sz (XW sz len (y.map nn0))),f:=Qp st.f d (.vec 0 site (QD st.m 0 site) 0 len false) }
 |.bsl0 site sz=>Qu (Qf st.m 0 site)=true∧K { st with m:=Am.put st.m 0 site (.vec (QD st.m 0 site) sz []),f:=Qp st.f d (.vec 0 site (QD st.m 0 site) 0 0 false) }
 |.isnil neg r=>∃ys,Xe st.m (r.ev st.f)=some ys∧(r.ev st.f≠.nils→K { st with f:=Qp st.f d (.bool neg) })∧((r.ev st.f=.nils∨QP ys=[])→K { st with f:=Qp st.f d (.bool (!neg)) })
 |.callK l s f args=>∃k fa fb v m',f.ev st.f=.fn (.func k) fa fb∧Qg P k (fa++args.map (RA.ev st.f)++fb) st.m (fun x m=>x=v∧m=m')∧Qf m' l s=Qf st.m l s∧K { st with m:=m',f:=Qp st.f d v }
 |.xb cnt _ s c=>∃t b,s.ev st.f=.str t∧c.ev st.f=.int .u8 b∧K { st with f:=Qp st.f d (.int .i64 (Gl cnt t b)) }
 |.callR f args=>∃k fa fb ys R,f.ev st.f=.fn (.func k) fa fb∧AV.stillL false st.m (fa++args.map (RA.ev st.f)++fb)=some ys∧AV.rfL ys=true∧WV P k ys R∧(∀v,R v→v.rf=true∧(AV.rfL (fa++args.map (RA.ev st.f)++fb)=true∨v.nl=true))∧∀v,R v→K { st with f:=Qp st.f d v }
 |.rngs s r=>∃t,r.ev st.f=.str t∧XN st.m s=true∧K { st with m:=Am.put st.m 0 s (.iter (.str t) 0),f:=Qp st.f d (.ptr 0 s 0) }
 |.mkm s=>XN st.m s=true∧K { st with m:=Am.put st.m 0 s (.iter (.mp [] []) 0),f:=Qp st.f d (.mptr 0 s) }
 |.mput x i v=>∃l s ks vs p k,x.ev st.f=.mptr l s∧Qf st.m l s=.iter (.mp ks vs) p∧i.ev st.f=.str k∧(v.ev st.f).gr=true∧AV.grL vs=true∧ks.length=vs.length∧K { st with m:=Am.put st.m l s (.iter (.mp (X9 k (v.ev st.f) ks vs).1 (X9 k (v.ev st.f) ks vs).2) p),f:=Qp st.f d (.tup []) }
 |.nxts r=>∃l s t p,r.ev st.f=.ptr l s 0∧Qf st.m l s=.iter (.str t) p∧
   (p<t.length→K { st with m:=Am.put st.m l s (.iter (.str t) (p+(Xp t p).2)),f:=Qp st.f d (.tup [.bool true,.int .i64 (p:Nat),.int .i32 ((Xp t p).1:Nat)]) })∧(t.length≤p→K { st with f:=Qp st.f d (.tup [.bool false]) })
 |.appS el s r=>∃l site g n xs t,s.ev st.f=.vec l site g 0 n false∧Qf st.m l site=.vec g 1 xs∧XP site el=true∧n≤xs.length∧r.ev st.f=.str t∧n+t.length≤140737488355328∧
   K { st with m:=Am.put st.m l site (.vec (g+1) 1 (xs.take n++QA t)),f:=Qp st.f d (.vec l site (g+1) 0 (n+t.length) false) }
 |.mk site _ sz bytes z l c=>∃(kl kc:IntKind) (n k:Nat),l.ev st.f=.int kl (n:Int)∧c.ev st.f=.int kc (k:Int)∧n≤k∧k≤9223372036854775807∧bytes*k≤281474976710656∧Qu (Qf st.m 0 site)=true∧
   K { st with m:=Am.put st.m 0 site (.vec (QD st.m 0 site) sz (List.replicate n (JM sz z))),f:=Qp st.f d (.vec 0 site (QD st.m 0 site) 0 n false) }
 |.usd r=>∃l s g n sz xs,2000≤s∧r.ev st.f=.vec l s g 0 n false∧Qf st.m l s=.vec g sz xs∧K { st with f:=Qp st.f d (if n=0 then .anyp else .vptr l s g 0 0) }
 |.ustr el p r=>(p.ev st.f=.anyp∧r.ev st.f=.int .i64 0∧K { st with f:=Qp st.f d (.str []) })∨
   ∃l g n xs s,p.ev st.f=.vptr l (el+2000) g 0 0∧r.ev st.f=.int .i64 ((n:Nat):Int)∧Qf st.m l (el+2000)=.vec g 1 xs∧n≤xs.length∧n≠0∧xs.take n=QA s∧K { st with m:=Am.put st.m l (el+2000) (.vec (g+1) 1 []),f:=Qp st.f d (.str s) }

def XZ (P:Program)(it:Item)(st:St)(K:St→Prop):Prop :=
 match it.g with
 |none=>Uj P it.dst it.op st K
 |some (j,want)=>match st.f j with
  |.bool b=>(b=want→Uj P it.dst it.op st K)∧(b=(!want)→K { st with f:=Qp st.f it.dst (.tup []) })
  |.tup l=>l=[]∧K { st with f:=Qp st.f it.dst (.tup []) }
  |_=>False

def QE (P:Program):List Item→St→(St→Prop)→Prop
 | [],st,K=>K st
 |it :: Qe,st,K=>XZ P it st fun st'=>QE P Qe st' K

section
variable {P:Program}{N:Nat}

theorem Ma {d:Option Nat}{op:RO}{Qe:List Item}{st:St}{Q:St→Prop}(h:Uj P d op st fun st'=>Qw P N Qe st' Q):Qw P N (⟨d,op,none⟩ :: Qe) st Q:=by
 cases op with
 |val vo=>obtain⟨x,hx,h⟩:=h;exact .val hx h
 |allocN s z=>exact .allocN h.1 h.2
 |boxN s r=>exact .boxN h.1 h.2.1 h.2.2
 |store n p r=>obtain⟨h1,h2,m',h3,h⟩:=h;exact .store h1 h2 h3 h
 |app sz bytes el s r=>obtain⟨l,site,g,n,xs,ys,h1,h2,ht,h3,h4,h5,h6,h7,h⟩:=h;exact .app h1 h2 ht h3 h4 h5 h6 h7 h
 |appS el s r=>obtain⟨l,site,g,n,xs,t,h1,h2,ht,h3,h4,h5,h⟩:=h;exact .appS h1 h2 ht h3 h4 h5 h
 |mk site el sz bytes z l c=>obtain⟨kl,kc,n,k,h1,h2,h3,h4,h5,h6,h⟩:=h;exact .mk h1 h2 h3 h4 h5 h6 h
 |usd r=>obtain⟨l,s,g,n,sz,xs,h0,h1,h2,h⟩:=h;exact .usd h0 h1 h2 h
 |ustr el p r=>
  rcases h with⟨h1,h2,h⟩|⟨l,g,n,xs,s,h1,h2,h3,h4,h5,h6,h⟩
  ·exact .ustr0 h1 h2 h
  ·exact .ustr h1 h2 h3 h4 h5 h6 h
 |storev l s n p r=>obtain⟨_,h1,h2,m',h3,h⟩:=h;exact .same (ro:=.store n p r) (fun _=>rfl) (.store h1 h2 h3 h)
 |call f args=>
  obtain⟨k,fa,fb,ys,v,hf,h1,h2,h3,h4,h5,h⟩:=h;exact .callPure hf h1 h2 h3 (fun x hx=>by subst hx;exact⟨h4,h5⟩) fun x hx=>by subst hx;exact h
 |callF f args=>
  obtain⟨k,fa,fb,v,m',hf,h1,h⟩:=h;exact .same (ro:=.call f args) (fun _=>rfl) (.callFull hf h1 fun x m hx _=>by obtain⟨rfl,rfl⟩:=hx;exact h)
 |bsl sz len z ps=>obtain⟨y,h1,h2,h3,h⟩:=h;exact .bsl h1 h2 h3 h
 |bslv site sz len z ps=>obtain⟨y,h1,h2,h3,h4,h⟩:=h;exact .bslv h1 h2 h3 h4 h
 |bsl0 site sz=>exact .bsl0 h.1 h.2
 |isnil neg r=>obtain⟨ys,h1,h2,h3⟩:=h;exact .isnil h1 h2 h3
 |callK l s f args=>
  obtain⟨k,fa,fb,v,m',hf,h1,_,h⟩:=h;exact .same (ro:=.call f args) (fun _=>rfl) (.callFull hf h1 fun x m hx _=>by obtain⟨rfl,rfl⟩:=hx;exact h)
 |xb cnt k s c=>obtain⟨t,b,h1,h2,h⟩:=h;exact .xb h1 h2 h
 |callR f args=>
  obtain⟨k,fa,fb,ys,R,hf,h1,h2,h3,h4,h⟩:=h;exact .same (ro:=.call f args) (fun _=>rfl) (.callPure hf h1 h2 h3 h4 h)
 |rngs s r=>obtain⟨t,h1,h2,h⟩:=h;exact .rngs h1 h2 h
 |nxts r=>obtain⟨l,s,t,p,h1,h2,h3,h4⟩:=h;exact .nxts h1 h2 h3 h4
 |mkm s=>obtain⟨h1,h⟩:=h;exact .mkm h1 h
 |mput x i v=>obtain⟨l,s,ks,vs,p,k,h1,h2,h3,h4,h5,h6,h⟩:=h;exact .mput h1 h2 h3 h4 h5 h6 h

theorem FT {it:Item}{Qe:List Item}{st:St}{Q:St→Prop}(h:XZ P it st fun st'=>Qw P N Qe st' Q):Qw P N (it :: Qe) st Q:=by
 obtain⟨d,op,g⟩:=it;cases g with
 |none=>exact Ma h
 |some p=>
  obtain⟨j,want⟩:=p;simp only[XZ]at h;split at h
  ·rename_i b hj;by_cases hb:b=want
   ·subst hb;exact .yes hj (Ma (h.1 rfl))
   ·have hb':b=!want:=by cases b<;>cases want<;>first|rfl|exact absurd rfl hb
    subst hb';exact .no (.inl hj) (h.2 rfl)
  ·rename_i l hj;obtain⟨rfl,h⟩:=h;exact .no (.inr hj) h
  ·exact h.elim

theorem FU {d:Option Nat}{op:RO}{st:St}{K K':St→Prop}(hk:∀s,K s→K' s)(h:Uj P d op st K):Uj P d op st K':=by
 cases op<;>simp only[Uj]at h ⊢
 case val=>obtain⟨x,a,b⟩:=h;exact⟨x,a,hk _ b⟩
 case allocN=>exact⟨h.1,hk _ h.2⟩
 case boxN=>exact⟨h.1,h.2.1,hk _ h.2.2⟩
 case store=>obtain⟨h1,h2,m',h3,h⟩:=h;exact⟨h1,h2,m',h3,hk _ h⟩
 case app=>obtain⟨l,site,g,n,xs,ys,h1,h2,ht,h3,h4,h5,h6,h7,h⟩:=h;exact⟨l,site,g,n,xs,ys,h1,h2,ht,h3,h4,h5,h6,h7,hk _ h⟩
 case appS=>obtain⟨l,site,g,n,xs,t,h1,h2,ht,h3,h4,h5,h⟩:=h;exact⟨l,site,g,n,xs,t,h1,h2,ht,h3,h4,h5,hk _ h⟩
 case mk=>obtain⟨kl,kc,n,k,h1,h2,h3,h4,h5,h6,h⟩:=h;exact⟨kl,kc,n,k,h1,h2,h3,h4,h5,h6,hk _ h⟩
 case usd=>obtain⟨l,s,g,n,sz,xs,h0,h1,h2,h⟩:=h;exact⟨l,s,g,n,sz,xs,h0,h1,h2,hk _ h⟩
 case ustr=>
  rcases h with⟨h1,h2,h⟩|⟨l,g,n,xs,s,h1,h2,h3,h4,h5,h6,h⟩
  ·exact .inl ⟨h1,h2,hk _ h⟩
  ·exact .inr ⟨l,g,n,xs,s,h1,h2,h3,h4,h5,h6,hk _ h⟩
 case bsl=>obtain⟨y,h1,h2,h3,h⟩:=h;exact⟨y,h1,h2,h3,hk _ h⟩
 case bslv=>obtain⟨y,h1,h2,h3,h4,h⟩:=h;exact⟨y,h1,h2,h3,h4,hk _ h⟩
 case bsl0=>exact⟨h.1,hk _ h.2⟩
 case isnil=>obtain⟨ys,h1,h2,h3⟩:=h;exact⟨ys,h1,fun e=>hk _ (h2 e),fun e=>hk _ (h3 e)⟩
 case callK=>obtain⟨k,fa,fb,v,m',hf,h1,h2,h⟩:=h;exact⟨k,fa,fb,v,m',hf,h1,h2,hk _ h⟩
 case xb=>obtain⟨t,b,h1,h2,h⟩:=h;exact⟨t,b,h1,h2,hk _ h⟩
 case callR=>obtain⟨k,fa,fb,ys,R,hf,h1,h2,h3,h4,h⟩:=h;exact⟨k,fa,fb,ys,R,hf,h1,h2,h3,h4,fun v hv=>hk _ (h v hv)⟩
 case rngs=>obtain⟨t,h1,h2,h⟩:=h;exact⟨t,h1,h2,hk _ h⟩
 case mkm=>obtain⟨h1,h⟩:=h;exact⟨h1,hk _ h⟩
 case mput=>obtain⟨l,s,ks,vs,p,k,h1,h2,h3,h4,h5,h6,h⟩:=h;exact⟨l,s,ks,vs,p,k,h1,h2,h3,h4,h5,h6,hk _ h⟩
 case nxts=>obtain⟨l,s,t,p,h1,h2,h3,h4⟩:=h;exact⟨l,s,t,p,h1,h2,fun e=>hk _ (h3 e),fun e=>hk _ (h4 e)⟩
 case storev=>obtain⟨h0,h1,h2,m',h3,h⟩:=h;exact⟨h0,h1,h2,m',h3,hk _ h⟩
 case call=>obtain⟨k,fa,fb,ys,v,hf,h1,h2,h3,h4,h5,h⟩:=h;exact⟨k,fa,fb,ys,v,hf,h1,h2,h3,h4,h5,hk _ h⟩
 case callF=>obtain⟨k,fa,fb,v,m',hf,h1,h⟩:=h;exact⟨k,fa,fb,v,m',hf,h1,hk _ h⟩

theorem YK {it:Item}{st:St}{K K':St→Prop}(hk:∀s,K s→K' s)(h:XZ P it st K):XZ P it st K':=by
 unfold XZ at h ⊢;split at h
 ·exact FU hk h
 ·split at h
  ·exact⟨fun e=>FU hk (h.1 e),fun e=>hk _ (h.2 e)⟩
  ·exact⟨h.1,hk _ h.2⟩
  ·exact h.elim

theorem NW:∀ {Qe:List Item} {st:St} {Q:St→Prop},QE P Qe st Q→Qw P N Qe st Q
 | [],_,_,h=>.nil h
 |_ :: _,_,_,h=>FT (YK (fun _ hs=>NW hs) h)

end

inductive GO where
 |vec (slot site sz:Nat)
 |drop (s:Nat)
 |vecc (s idx site sz:Nat)
 |pub (slot site:Nat)
 |give (slot site l S:Nat)
 |lst (slot:Nat)

def ZJ (g:GO)(st:St):Option St :=
 match g with
 |.vec slot site sz=>match st.f slot with
  |.nils=>bif Qu (Qf st.m 0 site)then some { st with m:=Am.put st.m 0 site (.vec (QD st.m 0 site) sz []),f:=QI st.f slot (.vec 0 site (QD st.m 0 site) 0 0 false) } else none
  |_=>none
 |.drop s=>bif YG st.m s then some (st.drop s)else none
 |.vecc s idx site sz=>match Qf st.m 0 s with
  |.cells xs=>match xs[idx]? with
   |some .nils=>bif Qu (Qf st.m 0 site) && !(Nat.beq site s)then some { st with m:=Am.put (Am.put st.m 0 site (.vec (QD st.m 0 site) sz [])) 0 s (.cells (xs.set idx (.vec 0 site (QD st.m 0 site) 0 0 false))) } else none
   |some _=>some st
   |none=>none
  |_=>none
 |.pub slot site=>match st.f slot with
  |.vec 0 s' g o n _=>match Qf st.m 0 site with
   |.vec g' sz xs=>bif Nat.beq s' site&&Nat.beq g g'&&Nat.ble (o+n) xs.length then some { st with m:=Am.put st.m 0 site (.vec (g+1) sz []),f:=QI st.f slot (.list ((xs.drop o).take n)) } else none
   |_=>none
  |.list _=>some st
  |_=>none
 |.give slot site l S=>match st.f slot with
  |.vec 0 s' g o n q=>match Qf st.m 0 site with
   |.vec g' sz xs=>bif Nat.beq s' site&&Nat.beq g g'&&Nat.blt l st.m.length && !(Nat.beq l 0)&&Qu (Qf st.m l S)&&Nat.blt S 2000 then some { st with m:=Am.put (Am.put st.m 0 site (.vec (g+1) sz [])) l S (.vec (QD st.m l S) sz xs),f:=QI st.f slot (.vec l S (QD st.m l S) o n q) } else none
   |_=>none
  |_=>none
 |.lst slot=>match st.f slot with
  |.nils=>some { st with f:=QI st.f slot (.list []) }
  |.list l=>some { st with f:=QI st.f slot (.list l) }
  |_=>none

inductive RC where
 |skip
 |reg (Qe:List Item)
 |draw (Qe:List Item)
 |seq (a b:RC)
 |cond (c:RA) (a b:RC)
 |block (id:Nat) (a:RC)
 |loop (a:RC)
 |exit (id:Nat)
 |scope (a:RC)
 |lab
 |ret
 |gho (g:GO) (a:RC)
 |no

def Ks (f:St→Prop)(Q:Exit→St→Prop):Exit→St→Prop
 |.normal,st=>f st
 |e,st=>Q e st
def Kb (id:Nat)(Q:Exit→St→Prop):Exit→St→Prop
 |.exit i,st=>if i=id then Q .normal st else Q (.exit i) st
 |e,st=>Q e st
def Kg (Q:Exit→St→Prop):Exit→St→Prop
 |.goto _,_=>False
 |e,st=>Q e st

def QG (P:Program):RC→St→(Exit→St→Prop)→Prop
 |.skip,st,Q=>Q .normal st
 |.reg Qe,st,Q=>QE P Qe st (Q .normal)
 |.draw Qe,st,Q=>QE P Qe st (Q .normal)
 |.seq a b,st,Q=>QG P a st (Ks (fun st'=>QG P b st' Q) Q)
 |.cond c a b,st,Q=>∃t,c.ev st.f=.bool t∧(t=true→QG P a st Q)∧(t=false→QG P b st Q)
 |.block id a,st,Q=>QG P a st (Kb id Q)
 |.loop a,st,Q=>∃(I:Nat→St→Prop) (n:Nat),I n st∧∀n st',I n st'→QG P a st' (Ks (fun s=>∃k,k<n∧I k s) Q)
 |.exit id,st,Q=>Q (.exit id) st
 |.scope a,st,Q=>QG P a st (Kg Q)
 |.lab,st,Q=>Q .normal st
 |.ret,st,Q=>Q .ret st
 |.gho g a,st,Q=>∃st',ZJ g st=some st'∧QG P a st' Q
 |.no,_,_=>False

theorem Uv {G:Gh}{f:Fr}{a:Act}(hs:∀i,Rep G (f i) (a.tmps.getD i undef)){d:Nat}{x:AV}(hx:Rep G x (a.tmps.getD d undef)):∀i,Rep G (QI f d x i) (a.tmps.getD i undef):=by
 intro i;by_cases hi:i=d
 ·subst hi;rw[QS];exact hx
 ·rw[QR _ _ hi];exact hs i

theorem Rw {G:Gh}{B N:Nat}{st st':St}{a:Act}{w:World}(h:Rel G B N st a w){g:GO}(hg:ZJ g st=some st'):∃G',Rel G' B N st' a w∧Ext 1 G w G' w:=by
 cases g with
 |vec slot site sz=>
  simp only[ZJ]at hg;split at hg
  ·rename_i hn;cases hro:Qu (Qf st.m 0 site)with
   |false=>rw[hro]at hg;cases hg
   |true=>
    rw[hro]at hg;simp only[cond_true,QUM]at hg;subst hg;have hl:0<st.m.length:=QVH.2 h.ne;obtain⟨h1,h2⟩:=h.vecput (w':=w) (sz:=sz) (cap:=0) (b:=none) (ys:=[]) hl hro (JW h.mr hro) rfl rfl rfl (QUm _) (fun _ _ _=>rfl) (fun k e=>by cases e) ⟨by simp,rfl,rfl⟩ (.inl ⟨rfl,rfl⟩);refine⟨_,⟨h1.mr,h1.size,Uv h1.slots ?_,h1.ds,h1.base,h1.top,h1.ne⟩,h2⟩;have hs:=h.slots slot;rw[hn]at hs;generalize a.tmps.getD slot undef=v at hs;cases hs;exact .vec rfl (QU6 (by simp[Gh.row])) fun _=>.inl ⟨by simp[Gh.row],rfl,rfl,none,rfl,fun _=>rfl⟩
  ·cases hg
 |drop s=>
  simp only[ZJ]at hg;cases hro:YG st.m s with
  |false=>rw[hro]at hg;cases hg
  |true=>
   rw[hro]at hg;simp only[cond_true,QUM]at hg;subst hg;exact⟨_,h.drop s hro⟩
 |vecc s idx site sz=>
  simp only[ZJ]at hg;split at hg
  ·rename_i xs hlk;split at hg
   ·rename_i hn;cases hro:(Qu (Qf st.m 0 site) && !(Nat.beq site s))with
    |false=>rw[hro]at hg;cases hg
    |true=>
     rw[hro]at hg;simp only[cond_true,QUM]at hg;subst hg;rw[QUL]at hro;have hne:s≠site:=fun e=>by
      have h2:=hro.2;rw[e]at h2;simp at h2
     have hl:0<st.m.length:=QVH.2 h.ne;obtain⟨h1,h2⟩:=h.vecput (w':=w) (sz:=sz) (cap:=0) (b:=none) (ys:=[]) hl hro.1 (JW h.mr hro.1) rfl rfl rfl (QUm _) (fun _ _ _=>rfl) (fun k e=>by cases e) ⟨by simp,rfl,rfl⟩ (.inl ⟨rfl,rfl⟩);have hlk':Qf (Am.put st.m 0 site (.vec (QD st.m 0 site) sz [])) 0 s=.cells xs:=by
      rw[Qy (.inr hne)];exact hlk
     obtain⟨b,cs,hb,hsoft,hrep⟩:=h1.mr.cells 0 s xs hlk';obtain⟨v,hv,hr⟩:=hrep.at_ hn;have hvn:v=.slice none 0 0:=by cases hr;rfl
     subst hvn;have hset:cs.toList.set idx (.slice none 0 0)=cs.toList:=by
      obtain⟨hi,he⟩:=QUn.1 hv;rw[←he,List.set_getElem_self]
     have hrep':=hrep.set idx (x:=.vec 0 site (QD st.m 0 site) 0 0 false) (v:=.slice none 0 0) (.vec rfl (QU6 (by simp[Gh.row,Gh.dn])) fun _=>.inl ⟨by simp[Gh.row,Gh.dn],rfl,rfl,none,rfl,fun _=>rfl⟩);rw[hset]at hrep';exact⟨_,⟨h1.mr.stored hlk' hb (Turned.refl b w) hsoft hrep',h1.size,h1.slots,h1.ds,h1.base,h1.top,J1 h1.ne⟩,h2⟩
   ·cases hg;exact⟨G,h,Ext.refl 1 G w⟩
   ·cases hg
  ·cases hg
 |pub slot site=>
  simp only[ZJ]at hg;split at hg
  ·rename_i s' g o n q hs;split at hg
   ·rename_i g' sz xs hlk;cases hb:(Nat.beq s' site&&Nat.beq g g'&&Nat.ble (o+n) xs.length)with
    |false=>rw[hb]at hg;cases hg
    |true=>
     rw[hb]at hg;simp only[cond_true,QUM]at hg;subst hg;simp only[QUL]at hb;obtain⟨⟨b1,b2⟩,b3⟩:=hb;have e1:=QUj b1;have e2:=QUj b2;subst e1 e2;exact h.publish hs hlk (QVO b3)
   ·cases hg
  ·cases hg;exact⟨G,h,Ext.refl 1 G w⟩
  ·cases hg
 |give slot site l S=>
  simp only[ZJ]at hg;split at hg
  ·rename_i s' g o n q hs;split at hg
   ·rename_i g' sz xs hlk;cases hb:(Nat.beq s' site&&Nat.beq g g'&&Nat.blt l st.m.length && !(Nat.beq l 0)&&Qu (Qf st.m l S)&&Nat.blt S 2000)with
    |false=>rw[hb]at hg;cases hg
    |true=>
     rw[hb]at hg;simp only[cond_true,QUM]at hg;subst hg;simp only[QUL]at hb;obtain⟨⟨⟨⟨⟨b1,b2⟩,b3⟩,b4⟩,b5⟩,b6⟩:=hb;have e1:=QUj b1;have e2:=QUj b2;subst e1 e2;have b4':l≠0:=fun e=>by rw[e]at b4;simp at b4
     exact h.give hs hlk (QVO b3) b4' b5 (QVO b6)
   ·cases hg
  ·cases hg
 |lst slot=>
  simp only[ZJ]at hg;split at hg
  ·rename_i hs;cases hg;refine⟨G,⟨h.mr,h.size,Uv h.slots ?_,h.ds,h.base,h.top,h.ne⟩,Ext.refl 1 G w⟩;have hr:=h.slots slot;rw[hs]at hr;exact hr.nn0
  ·rename_i l hs;cases hg;refine⟨G,⟨h.mr,h.size,Uv h.slots ?_,h.ds,h.base,h.top,h.ne⟩,Ext.refl 1 G w⟩;have hr:=h.slots slot;rw[hs]at hr;exact hr
  ·cases hg

def RA.sl:RA→List Nat
 |.t n=>[n]
 |_=>[]
def FV:Option RA→List Nat
 |some r=>r.sl
 |none=>[]
def VO.sl:VO→List Nat
 |.mov x=>x.sl
 |.pick c a b=>c.sl++(a.sl++b.sl)
 |.build _ ps=>ps.flatMap fun p=>p.2.2.sl
 |.load _ x=>x.sl
 |.loadv _ _ _ x=>x.sl
 |.loado _ x=>x.sl
 |.loadr _ x=>x.sl
 |.nilck x=>x.sl
 |.un _ x=>x.sl
 |.cvi _ x=>x.sl
 |.b2s x=>x.sl
 |.faddr _ x=>x.sl
 |.fld _ _ x=>x.sl
 |.ext x _=>x.sl
 |.len _ x=>x.sl
 |.bin _ _ x y=>x.sl++y.sl
 |.eqs _ _ x y=>x.sl++y.sl
 |.iaddr _ _ x y=>x.sl++y.sl
 |.idx x y=>x.sl++y.sl
 |.mnx _ x y=>x.sl++y.sl
 |.slc _ x lo hi mx=>x.sl++(FV lo++(FV hi++FV mx))
 |.slcp _ x lo hi mx=>x.sl++(FV lo++(FV hi++FV mx))
 |.mkfn _ a b=>a.flatMap RA.sl++b.flatMap RA.sl
 |.toU x=>x.sl
 |.ofU _ _ x=>x.sl
 |.same x=>x.sl
 |.mget _ _ x y=>x.sl++y.sl
 |.mgetp _ _ x y=>x.sl++y.sl
 |.mki _ x=>x.sl
 |.tas _ _ _ x=>x.sl
def RO.sl:RO→List Nat
 |.val v=>v.sl
 |.allocN _ _=>[]
 |.boxN _ r=>r.sl
 |.store _ p r=>p.sl++r.sl
 |.storev _ _ _ p r=>p.sl++r.sl
 |.app _ _ _ s r=>s.sl++r.sl
 |.appS _ s r=>s.sl++r.sl
 |.mk _ _ _ _ _ l c=>l.sl++c.sl
 |.usd r=>r.sl
 |.ustr _ p r=>p.sl++r.sl
 |.bsl _ _ _ ps=>ps.flatMap fun p=>p.2.2.sl
 |.call f rs=>f.sl++rs.flatMap RA.sl
 |.callF f rs=>f.sl++rs.flatMap RA.sl
 |.bslv _ _ _ _ ps=>ps.flatMap fun p=>p.2.2.sl
 |.bsl0 _ _=>[]
 |.isnil _ x=>x.sl
 |.callR f rs=>f.sl++rs.flatMap RA.sl
 |.xb _ _ s c=>s.sl++c.sl
 |.callK _ _ f rs=>f.sl++rs.flatMap RA.sl
 |.rngs _ r=>r.sl
 |.nxts r=>r.sl
 |.mkm _=>[]
 |.mput x y z=>x.sl++(y.sl++z.sl)
def Item.sl (it:Item):List Nat:=it.op.sl++(match it.g with|some (j,_)=>[j]|none=>[])

def ZG (l:List Nat)(f f':Fr):Prop:=∀t,t∈l→f t=f' t
theorem ZG.left {a b:List Nat}{f f':Fr}(h:ZG (a++b) f f'):ZG a f f':=fun t ht=>h t (List.mem_append_left _ ht)
theorem ZG.right {a b:List Nat}{f f':Fr}(h:ZG (a++b) f f'):ZG b f f':=fun t ht=>h t (List.mem_append_right _ ht)

theorem RA.ev_same {r:RA}{f f':Fr}(h:ZG r.sl f f'):r.ev f=r.ev f':=by
 cases r with
 |t n=>exact h n (by simp[RA.sl])
 |c x=>rfl
 |f k=>rfl

theorem Kt:∀ {rs:List RA} {f f':Fr},ZG (rs.flatMap RA.sl) f f'→rs.map (RA.ev f)=rs.map (RA.ev f')
 | [],_,_,_=>rfl
 |r :: rs,f,f',h=>by
  rw[QVP]at h;rw[QUT,QUT,RA.ev_same h.left,Kt h.right]

theorem WX {f f':Fr}:∀ {ps:List (Nat×Nat×RA)} {z:List AV},ZG (ps.flatMap fun p=>p.2.2.sl) f f'→fill f ps z=fill f' ps z
 | [],_,_=>rfl
 |(o,n,r) :: ps,z,h=>by
  rw[QVP]at h;simp only[fill,RA.ev_same h.left,WX h.right]

theorem Ku {f f':Fr}{d:Nat}{r:Option RA}(h:ZG (FV r) f f'):ZA f d r=ZA f' d r:=by
 cases r with
 |none=>rfl
 |some r=>simp only[ZA,RA.ev_same (r:=r) h]

theorem Rx {f f':Fr}{m:Qo}{vo:VO}(h:ZG vo.sl f f'):Qt f m vo=Qt f' m vo:=by
 cases vo with
 |mov x=>simp only[Qt,RA.ev_same (r:=x) h]
 |pick c a b=>simp only[Qt,RA.ev_same (r:=c) h.left,RA.ev_same (r:=a) h.right.left,RA.ev_same (r:=b) h.right.right]
 |build z ps=>simp only[Qt,WX (ps:=ps) h]
 |load k x=>simp only[Qt,RA.ev_same (r:=x) h]
 |loadv l s k x=>simp only[Qt,RA.ev_same (r:=x) h]
 |loado k x=>simp only[Qt,RA.ev_same (r:=x) h]
 |loadr k x=>simp only[Qt,RA.ev_same (r:=x) h]
 |nilck x=>simp only[Qt,RA.ev_same (r:=x) h]
 |un o x=>simp only[Qt,RA.ev_same (r:=x) h]
 |cvi k x=>simp only[Qt,RA.ev_same (r:=x) h]
 |b2s x=>simp only[Qt,RA.ev_same (r:=x) h]
 |faddr o x=>simp only[Qt,RA.ev_same (r:=x) h]
 |fld o k x=>simp only[Qt,RA.ev_same (r:=x) h]
 |ext x i=>simp only[Qt,RA.ev_same (r:=x) h]
 |toU x=>simp only[Qt,RA.ev_same (r:=x) h]
 |ofU t n x=>simp only[Qt,RA.ev_same (r:=x) h]
 |same x=>simp only[Qt,RA.ev_same (r:=x) h]
 |len k x=>simp only[Qt,RA.ev_same (r:=x) h]
 |bin t o x y=>simp only[Qt,RA.ev_same (r:=x) h.left,RA.ev_same (r:=y) h.right]
 |eqs n ks x y=>simp only[Qt,RA.ev_same (r:=x) h.left,RA.ev_same (r:=y) h.right]
 |iaddr sz len x y=>simp only[Qt,RA.ev_same (r:=x) h.left,RA.ev_same (r:=y) h.right]
 |idx x y=>simp only[Qt,RA.ev_same (r:=x) h.left,RA.ev_same (r:=y) h.right]
 |mget ok z x y=>simp only[Qt,RA.ev_same (r:=x) h.left,RA.ev_same (r:=y) h.right]
 |mgetp ok z x y=>simp only[Qt,RA.ev_same (r:=x) h.left,RA.ev_same (r:=y) h.right]
 |mki t x=>simp only[Qt,RA.ev_same (r:=x) h]
 |tas t ok z x=>simp only[Qt,RA.ev_same (r:=x) h]
 |mnx b x y=>simp only[Qt,RA.ev_same (r:=x) h.left,RA.ev_same (r:=y) h.right]
 |slc sz x lo hi mx=>
  have h1:=h.right.left;have h2:=h.right.right.left;have h3:=h.right.right.right;simp only[Qt,RA.ev_same (r:=x) h.left,Ku (r:=lo) h1,Ku (r:=hi) h2];cases mx with
  |none=>rfl
  |some r=>simp only[Ku (r:=some r) h3]
 |slcp sz x lo hi mx=>
  have h1:=h.right.left;have h2:=h.right.right.left;have h3:=h.right.right.right;simp only[Qt,RA.ev_same (r:=x) h.left,Ku (r:=lo) h1,Ku (r:=hi) h2];cases mx with
  |none=>rfl
  |some r=>simp only[Ku (r:=some r) h3]
 |mkfn fn a b=>simp only[Qt,Kt (rs:=a) h.left,Kt (rs:=b) h.right]

inductive MC where
 |no
 |shape
 |rows
 |cell (l s:Nat)
 |outer
 |all
 deriving DecidableEq

def VO.mc:VO→MC
 |.load _ _=>.all
 |.loadv l s _ _=>.cell l s
 |.loado _ _=>.outer
 |.loadr _ _=>.rows
 |.b2s _=>.rows
 |.nilck _=>.shape
 |.faddr _ _=>.shape
 |.len _ _=>.shape
 |.slc .. => .shape
 |.iaddr .. => .shape
 |.toU _=>.all
 |.ofU .. => .all
 |.mget .. => .all
 |_=>.no

def Ob.sh:Ob→Option (Nat×Nat)
 |.vec g z _=>some (g,z)
 |_=>Option.none
def Ob.row:Ob→Option (Nat×Nat×List AV)
 |.vec g z xs=>some (g,z,xs)
 |_=>Option.none

def Xq:MC→Qo→Qo→Prop
 |.no,_,_=>True
 |.shape,m,m'=>∀l s,(Qf m l s).sh=(Qf m' l s).sh
 |.rows,m,m'=>∀l s,(Qf m l s).row=(Qf m' l s).row
 |.cell l s,m,m'=>Qf m l s=Qf m' l s∨((Qf m l s).isRow=true∧(Qf m' l s).isRow=true)
 |.outer,m,m'=>∀l s,Qf m (l+1) s=Qf m' (l+1) s
 |.all,m,m'=>m=m'

theorem Xq.refl (c:MC)(m:Qo):Xq c m m:=by
 cases c<;>simp[Xq]

theorem Uw {m m':Qo}{l s:Nat}(h:(Qf m l s).sh=(Qf m' l s).sh):Wu m l s=Wu m' l s:=by
 unfold Wu;cases h1:Qf m l s<;>cases h2:Qf m' l s<;>rw[h1,h2]at h<;>simp_all[Ob.sh]

theorem V0 {m m':Qo}(h:Xq .rows m m')(x:AV):Xe m x=Xe m' x:=by
 cases x with
 |vec l s g o n q=>
  have h:=h l s;simp only[Xe];cases h1:Qf m l s<;>cases h2:Qf m' l s<;>rw[h1,h2]at h<;>simp_all[Ob.row]
 |_=>rfl

theorem FX {m m':Qo}(h:Xq .shape m m')(sz:Option Nat)(x:AV)(lo hi:Nat)(mx:Option Nat):Q1 m sz x lo hi mx=Q1 m' sz x lo hi mx:=by
 cases sz with
 |none=>rfl
 |some z=>
  cases x with
  |vec l s g o n q=>
   have h:=h l s;simp only[Q1];cases h1:Qf m l s<;>cases h2:Qf m' l s<;>rw[h1,h2]at h<;>simp_all[Ob.sh]
  |_=>rfl

theorem FY {m m':Qo}(h:Xq .shape m m')(sz:Nat)(len:Option Nat)(x:AV)(i:Int):Qb m sz len x i=Qb m' sz len x i:=by
 unfold Qb;cases len with
 |none=>
  cases x with
  |vec l s g o n q=>
   have h:=h l s;simp only;cases h1:Qf m l s<;>cases h2:Qf m' l s<;>rw[h1,h2]at h<;>simp_all[Ob.sh]
  |_=>rfl
 |some k=>rfl

def Ry (F:Nat→List AV→Option AV):Ob→Option AV
 |.vec g _ xs=>F g xs
 |_=>none

theorem Mb {o o':Ob}(h:o.row=o'.row)(F:Nat→List AV→Option AV):Ry F o=Ry F o':=by
  cases o<;>cases o'<;>simp only[Ob.row,QUM,Prod.mk.injEq,reduceCtorEq]at h<;>first
    |rfl
    | (obtain⟨rfl,_,rfl⟩:=h
       rfl)

theorem Gm (m:Qo)(k:Option Nat)(l s g i o:Nat):Xb m k (.vptr l s g i o)=Ry (fun g' xs=>if g=g' then match xs[i]? with
  |some e=>part e.cells o k
  |none=>none
 else none) (Qf m l s):=by
 simp only[Xb];cases Qf m l s<;>rfl

theorem A9 {f:Fr}{m m':Qo}{vo:VO}(h:Xq vo.mc m m'):Qt f m vo=Qt f m' vo:=by
 cases vo<;>simp only[VO.mc]at h<;>try rfl
 case load k x=>have h:m=m':=h;subst h;rfl
 case toU x=>have h:m=m':=h;subst h;rfl
 case ofU t n x=>have h:m=m':=h;subst h;rfl
 case mget ok z x i=>have h:m=m':=h;subst h;rfl
 case loado k x=>
  have h:∀l s,Qf m (l+1) s=Qf m' (l+1) s:=h;simp only[Qt];split
  ·simp only[Xb,h]
  ·rfl
 case loadv l s k x=>
  have h:Qf m l s=Qf m' l s∨((Qf m l s).isRow=true∧(Qf m' l s).isRow=true):=h;simp only[Qt];split
  ·split
   ·rename_i hh;obtain⟨rfl,rfl⟩:=hh;rcases h with h|⟨h1,h2⟩
    ·simp only[Xb,h]
    ·simp only[Xb];cases e1:Qf m _ _<;>cases e2:Qf m' _ _<;>rw[e1]at h1<;>rw[e2]at h2<;>first|rfl|(simp[Ob.isRow]at h1;done)|(simp[Ob.isRow]at h2;done)
   ·rfl
  ·rfl
 case b2s x=>simp only[Qt,V0 h]
 case loadr k x=>
  simp only[Qt];split
  ·rfl
  ·rename_i l s g i o e;have h4:(Qf m l s).row=(Qf m' l s).row:=h l s;rw[Gm,Gm,Mb h4]
  ·rfl
 case nilck x=>simp only[Qt,fun l s=>Uw (h l s)]
 case faddr o x=>simp only[Qt,fun l s=>Uw (h l s)]
 case len k x=>simp only[Qt,fun l s=>Uw (h l s)]
 case slc sz x lo hi mx=>simp only[Qt,FX h]
 case iaddr sz len x i=>simp only[Qt,FY h]

mutual
theorem Gn {m m':Qo}(h:Xq .rows m m'):∀x:AV,x.still false m=x.still false m'
 |.vec l s g o n q=>by
   have h:=h l s;simp only[AV.still];cases h1:Qf m l s<;>cases h2:Qf m' l s<;>rw[h1,h2]at h<;>simp_all[Ob.row]
 |.agg l=>by simp only[AV.still,KQ h l]
 |.tup l=>by simp only[AV.still,KQ h l]
 |.iface t x=>by simp only[AV.still,Gn h x]
 |.top|.int .. | .bool _|.str _|.nils|.nilp|.nilf|.nili|.nilm|.anyp|.list _|.lcap _|.fn .. | .ptr .. | .vptr .. | .rptr _|.mp .. => rfl
 |.mptr l s=>by simp only[AV.still,QVQ,QUG,if_false]
theorem KQ {m m':Qo}(h:Xq .rows m m'):∀l:List AV,AV.stillL false m l=AV.stillL false m' l
 | []=>rfl
 |x :: l=>by simp only[AV.stillL,Gn h x,KQ h l]
end

def RO.pure:RO→Bool
 |.val _=>true
 |.bsl .. => true
 |.call _ _=>true
 |.usd _=>true
 |_=>false

def RO.mc:RO→MC
 |.val v=>v.mc
 |.call _ _=>.rows
 |.usd _=>.rows
 |.bsl .. => .no
 |_=>.all

section
variable {P:Program}

def V1 (P:Program)(op:RO)(st:St)(x:AV):Prop :=
 match op with
 |.val vo=>Qt st.f st.m vo=some x
 |.call f args=>∃k fa fb ys,f.ev st.f=.fn (.func k) fa fb∧AV.stillL false st.m (fa++args.map (RA.ev st.f)++fb)=some ys∧AV.rfL ys=true∧Qk P k ys x∧x.rf=true∧(AV.rfL (fa++args.map (RA.ev st.f)++fb)=true∨x.nl=true)
 |_=>False

def X0 (P:Program)(op:RO)(st:St)(x:AV)(m:Qo):Prop :=
 match op with
 |.val vo=>Qt st.f st.m vo=some x∧m=st.m
 |.call f args=>V1 P (.call f args) st x∧m=st.m
 |.allocN s z=>XN st.m s=true∧x=.ptr 0 s 0∧m=Am.put st.m 0 s (.cells z)
 |.boxN s r=>XN st.m s=true∧(r.ev st.f).cells.all AV.leaf=true∧x=.ptr 0 s 0∧m=Am.put st.m 0 s (.cells (r.ev st.f).cells)
 |.store n p r=>(r.ev st.f).cells.length=n∧(r.ev st.f).cells.all AV.leaf=true∧QX st.m (p.ev st.f) (r.ev st.f).cells=some m∧x=.tup []
 |.storev l s n p r=>(∃o,p.ev st.f=.ptr l s o)∧(r.ev st.f).cells.length=n∧(r.ev st.f).cells.all AV.leaf=true∧QX st.m (p.ev st.f) (r.ev st.f).cells=some m∧x=.tup []
 |.app sz bytes el s r=>∃l site g n xs ys,s.ev st.f=.vec l site g 0 n false∧Qf st.m l site=.vec g sz xs∧XP site el=true∧n≤xs.length∧Xe st.m (r.ev st.f)=some ys∧ys.all (fun e=>e.cells.length==sz)=true∧n+ys.length≤maxLen∧(n+ys.length)*bytes≤140737488355328∧
   x=.vec l site (g+1) 0 (n+ys.length) false∧m=Am.put st.m l site (.vec (g+1) sz (xs.take n++ys))
 |.bsl sz len z ps=>(∃y,fill st.f ps (XM z sz len)=some y∧AV.rfL y=true∧y.all AV.leaf=true∧x=.list (XW sz len (y.map nn0)))∧m=st.m
 |.bslv site sz len z ps=>∃y,fill st.f ps (XM z sz len)=some y∧AV.rfL y=true∧y.all AV.leaf=true∧Qu (Qf st.m 0 site)=true∧x=.vec 0 site (QD st.m 0 site) 0 len false∧m=Am.put st.m 0 site (.vec (QD st.m 0 site) sz (XW sz len (y.map nn0)))
 |.bsl0 site sz=>Qu (Qf st.m 0 site)=true∧x=.vec 0 site (QD st.m 0 site) 0 0 false∧m=Am.put st.m 0 site (.vec (QD st.m 0 site) sz [])
 |.callF f args=>∃k fa fb,f.ev st.f=.fn (.func k) fa fb∧Qg P k (fa++args.map (RA.ev st.f)++fb) st.m (fun y m'=>y=x∧m'=m)
 |.callK l s f args=>∃k fa fb,f.ev st.f=.fn (.func k) fa fb∧Qg P k (fa++args.map (RA.ev st.f)++fb) st.m (fun y m'=>y=x∧m'=m)∧Qf m l s=Qf st.m l s
 |.usd r=>(∃l s g n sz xs,2000≤s∧r.ev st.f=.vec l s g 0 n false∧Qf st.m l s=.vec g sz xs∧x=(if n=0 then .anyp else .vptr l s g 0 0))∧m=st.m
 |.ustr el p r=>(p.ev st.f=.anyp∧r.ev st.f=.int .i64 0∧x=.str []∧m=st.m)∨
   ∃l g n xs s,p.ev st.f=.vptr l (el+2000) g 0 0∧r.ev st.f=.int .i64 ((n:Nat):Int)∧Qf st.m l (el+2000)=.vec g 1 xs∧n≤xs.length∧n≠0∧xs.take n=QA s∧x=.str s∧m=Am.put st.m l (el+2000) (.vec (g+1) 1 [])
 |_=>False

def RO.keeps:RO→Bool
 |.appS .. => false
 |.mk .. => false
 |.isnil .. => false
 |.callR .. => false
 |.xb .. => false
 |.rngs .. => false
 |.nxts .. => false
 |.mkm .. => false
 |.mput .. => false
 |_=>true

theorem FZ {d:Option Nat}{op:RO}{st:St}{K:St→Prop}(hk:op.keeps=true):Uj P d op st K↔∃x m,X0 P op st x m∧K { st with m:=m,f:=Qp st.f d x }:=by
 cases op<;>simp only[RO.keeps,QUG]at hk<;>simp only[Uj,X0,V1]
 case val=>exact⟨fun⟨x,h,k⟩=>⟨x,_,⟨h,rfl⟩,k⟩,fun⟨x,m,⟨h,e⟩,k⟩=>by subst e;exact⟨x,h,k⟩⟩
 case allocN=>exact⟨fun⟨h,k⟩=>⟨_,_,⟨h,rfl,rfl⟩,k⟩,fun⟨x,m,⟨h,e,e'⟩,k⟩=>by subst e e';exact⟨h,k⟩⟩
 case boxN=>exact⟨fun⟨h,h',k⟩=>⟨_,_,⟨h,h',rfl,rfl⟩,k⟩,fun⟨x,m,⟨h,h',e,e'⟩,k⟩=>by subst e e';exact⟨h,h',k⟩⟩
 case store=>exact⟨fun⟨h1,h2,m',h3,k⟩=>⟨_,m',⟨h1,h2,h3,rfl⟩,k⟩,fun⟨x,m,⟨h1,h2,h3,e⟩,k⟩=>by subst e;exact⟨h1,h2,m,h3,k⟩⟩
 case storev=>exact⟨fun⟨h0,h1,h2,m',h3,k⟩=>⟨_,m',⟨h0,h1,h2,h3,rfl⟩,k⟩,fun⟨x,m,⟨h0,h1,h2,h3,e⟩,k⟩=>by subst e;exact⟨h0,h1,h2,m,h3,k⟩⟩
 case app=>exact⟨fun⟨l,site,g,n,xs,ys,h1,h2,ht,h3,h4,h5,h6,h7,k⟩=>⟨_,_,⟨l,site,g,n,xs,ys,h1,h2,ht,h3,h4,h5,h6,h7,rfl,rfl⟩,k⟩,fun⟨x,m,⟨l,site,g,n,xs,ys,h1,h2,ht,h3,h4,h5,h6,h7,e,e'⟩,k⟩=>by subst e e';exact⟨l,site,g,n,xs,ys,h1,h2,ht,h3,h4,h5,h6,h7,k⟩⟩
 case call=>exact⟨fun⟨k,fa,fb,ys,v,h1,h2,h3,h4,h5,h6,kk⟩=>⟨v,_,⟨⟨k,fa,fb,ys,h1,h2,h3,h4,h5,h6⟩,rfl⟩,kk⟩,fun⟨x,m,⟨⟨k,fa,fb,ys,h1,h2,h3,h4,h5,h6⟩,e⟩,kk⟩=>by subst e;exact⟨k,fa,fb,ys,x,h1,h2,h3,h4,h5,h6,kk⟩⟩
 case usd=>exact⟨fun⟨l,s,g,n,sz,xs,h0,h1,h2,k⟩=>⟨_,_,⟨⟨l,s,g,n,sz,xs,h0,h1,h2,rfl⟩,rfl⟩,k⟩,fun⟨x,m,⟨⟨l,s,g,n,sz,xs,h0,h1,h2,e⟩,e'⟩,k⟩=>by subst e e';exact⟨l,s,g,n,sz,xs,h0,h1,h2,k⟩⟩
 case ustr=>
  constructor
  ·rintro(⟨h1,h2,k⟩|⟨l,g,n,xs,s,h1,h2,h3,h4,h5,h6,k⟩)
   ·exact⟨_,_,.inl ⟨h1,h2,rfl,rfl⟩,k⟩
   ·exact⟨_,_,.inr ⟨l,g,n,xs,s,h1,h2,h3,h4,h5,h6,rfl,rfl⟩,k⟩
  ·rintro⟨x,m,⟨h1,h2,e,e'⟩|⟨l,g,n,xs,s,h1,h2,h3,h4,h5,h6,e,e'⟩,k⟩
   ·subst e e';exact .inl ⟨h1,h2,k⟩
   ·subst e e';exact .inr ⟨l,g,n,xs,s,h1,h2,h3,h4,h5,h6,k⟩
 case bsl=>exact⟨fun⟨y,h1,h2,h3,k⟩=>⟨_,_,⟨⟨y,h1,h2,h3,rfl⟩,rfl⟩,k⟩,fun⟨x,m,⟨⟨y,h1,h2,h3,e⟩,e'⟩,k⟩=>by subst e e';exact⟨y,h1,h2,h3,k⟩⟩
 case bslv=>exact⟨fun⟨y,h1,h2,h3,h4,k⟩=>⟨_,_,⟨y,h1,h2,h3,h4,rfl,rfl⟩,k⟩,fun⟨x,m,⟨y,h1,h2,h3,h4,e,e'⟩,k⟩=>by subst e e';exact⟨y,h1,h2,h3,h4,k⟩⟩
 case bsl0=>exact⟨fun⟨h1,k⟩=>⟨_,_,⟨h1,rfl,rfl⟩,k⟩,fun⟨x,m,⟨h1,e,e'⟩,k⟩=>by subst e e';exact⟨h1,k⟩⟩
 case callK=>exact⟨fun⟨k,fa,fb,v,m',h1,h2,h3,kk⟩=>⟨v,m',⟨k,fa,fb,h1,h2,h3⟩,kk⟩,fun⟨x,m,⟨k,fa,fb,h1,h2,h3⟩,kk⟩=>⟨k,fa,fb,x,m,h1,h2,h3,kk⟩⟩
 case callF=>exact⟨fun⟨k,fa,fb,v,m',h1,h2,kk⟩=>⟨v,m',⟨k,fa,fb,h1,h2⟩,kk⟩,fun⟨x,m,⟨k,fa,fb,h1,h2⟩,kk⟩=>⟨k,fa,fb,x,m,h1,h2,kk⟩⟩

def ZB (P:Program)(it:Item)(st:St)(x:AV)(m:Qo):Prop :=
 match it.g with
 |none=>X0 P it.op st x m
 |some (j,want)=>match st.f j with
  |.bool b=>(b=want∧X0 P it.op st x m)∨(b=(!want)∧x=.tup []∧m=st.m)
  |.tup l=>l=[]∧x=.tup []∧m=st.m
  |_=>False

theorem Jz {it:Item}{st:St}{K:St→Prop}(hk:it.op.keeps=true):XZ P it st K↔∃x m,ZB P it st x m∧K { st with m:=m,f:=Qp st.f it.dst x }:=by
 obtain⟨d,op,g⟩:=it;cases g with
 |none=>exact FZ hk
 |some p=>
  obtain⟨j,want⟩:=p;simp only[XZ,ZB];cases hj:st.f j with
  |bool b=>
   simp only;rw[FZ hk]
   constructor
   ·intro⟨h1,h2⟩;by_cases hb:b=want
    ·obtain⟨x,m,h,k⟩:=h1 hb;exact⟨x,m,.inl ⟨hb,h⟩,k⟩
    ·have hb':b=!want:=by cases b<;>cases want<;>first|rfl|exact absurd rfl hb
     exact⟨_,_,.inr ⟨hb',rfl,rfl⟩,h2 hb'⟩
   ·rintro⟨x,m,⟨hb,h⟩|⟨hb,rfl,rfl⟩,k⟩
    ·exact⟨fun _=>⟨x,m,h,k⟩,fun e=>by rw[hb]at e;cases want<;>cases e⟩
    ·exact⟨fun e=>(by rw[hb]at e;cases want<;>cases e),fun _=>k⟩
  |tup l=>
   constructor
   ·rintro⟨h,k⟩;exact⟨_,_,⟨h,rfl,rfl⟩,k⟩
   ·rintro⟨x,m,⟨h,rfl,rfl⟩,k⟩;exact⟨h,k⟩
  |_=>exact⟨fun h=>h.elim,fun⟨_,_,h,_⟩=>h.elim⟩

theorem Gp {op:RO}{f f':Fr}{m m':Qo}{ds ds':List DF}{x:AV}(h:ZG op.sl f f')(k:X0 P op ⟨f,m,ds⟩ x m'):X0 P op ⟨f',m,ds'⟩ x m':=by
 cases op with
 |val vo=>simp only[X0,Rx (vo:=vo) h]at k ⊢;exact k
 |call g args=>simp only[X0,V1,RA.ev_same (r:=g) h.left,Kt (rs:=args) h.right]at k ⊢;exact k
 |callK l s g args=>simp only[X0,RA.ev_same (r:=g) h.left,Kt (rs:=args) h.right]at k ⊢;exact k
 |callF g args=>simp only[X0,RA.ev_same (r:=g) h.left,Kt (rs:=args) h.right]at k ⊢;exact k
 |allocN s z=>exact k
 |boxN s r=>simp only[X0,RA.ev_same (r:=r) h]at k ⊢;exact k
 |store n p r=>simp only[X0,RA.ev_same (r:=p) h.left,RA.ev_same (r:=r) h.right]at k ⊢;exact k
 |storev l s n p r=>simp only[X0,RA.ev_same (r:=p) h.left,RA.ev_same (r:=r) h.right]at k ⊢;exact k
 |usd r=>simp only[X0,RA.ev_same (r:=r) h]at k ⊢;exact k
 |ustr el p r=>simp only[X0,RA.ev_same (r:=p) h.left,RA.ev_same (r:=r) h.right]at k ⊢;exact k
 |app sz bytes el s r=>simp only[X0,RA.ev_same (r:=s) h.left,RA.ev_same (r:=r) h.right]at k ⊢;exact k
 |bsl sz len z ps=>simp only[X0,WX (ps:=ps) h]at k ⊢;exact k
 |bslv site sz len z ps=>simp only[X0,WX (ps:=ps) h]at k ⊢;exact k
 |bsl0 site sz=>exact k
 |_=>exact k.elim

theorem Wb {it:Item}{f f':Fr}{m m':Qo}{ds ds':List DF}{x:AV}(h:ZG it.sl f f')(k:ZB P it ⟨f,m,ds⟩ x m'):ZB P it ⟨f',m,ds'⟩ x m':=by
 obtain⟨d,op,g⟩:=it;cases g with
 |none=>exact Gp (ZG.left h) k
 |some p=>
  obtain⟨j,want⟩:=p;have hj:f j=f' j:=(ZG.right h) j (by simp);simp only[ZB]at k ⊢;rw[←hj];cases he:f j with
  |bool b=>rw[he]at k;exact k.imp (fun h1=>⟨h1.1,Gp (ZG.left h) h1.2⟩) id
  |tup l=>rw[he]at k;exact k
  |_=>rw[he]at k;exact k

theorem F0 {op:RO}(hp:op.pure=true){f:Fr}{m m' m1:Qo}{ds ds':List DF}{x:AV}(h:Xq op.mc m m')(k:X0 P op ⟨f,m,ds⟩ x m1):m1=m∧X0 P op ⟨f,m',ds'⟩ x m':=by
 cases op with
 |bsl sz len z ps=>obtain⟨k,e⟩:=k;exact⟨e,k,rfl⟩
 |val vo=>obtain⟨k,e⟩:=k;exact⟨e,by rw[←A9 (f:=f) h];exact k,rfl⟩
 |call g args=>
  obtain⟨⟨k,fa,fb,ys,h1,h2,h3,h4,h5,h6⟩,e⟩:=k;refine⟨e,⟨k,fa,fb,ys,h1,?_,h3,h4,h5,h6⟩,rfl⟩;rw[←KQ h];exact h2
 |usd r=>
  obtain⟨⟨l,s,g,n,sz,xs,h0,h1,h2,h3⟩,e⟩:=k;refine⟨e,⟨l,s,g,n,sz,xs,h0,h1,?_,h3⟩,rfl⟩;have h4:(Qf m l s).row=(Qf m' l s).row:=h l s;have h2:Qf m l s=.vec g sz xs:=h2;show Qf m' l s=.vec g sz xs;rw[h2]at h4;cases hl:Qf m' l s with
  |vec g' sz' xs'=>rw[hl]at h4;simp only[Ob.row,QUM,Prod.mk.injEq]at h4;obtain⟨rfl,rfl,rfl⟩:=h4;rfl
  |none=>rw[hl]at h4;cases h4
  |cells _=>rw[hl]at h4;cases h4
  |iter _ _=>rw[hl]at h4;cases h4
 |_=>cases hp

theorem Ux {it:Item}(hp:it.op.pure=true){f:Fr}{m m' m1:Qo}{ds ds':List DF}{x:AV}(h:Xq it.op.mc m m')(k:ZB P it ⟨f,m,ds⟩ x m1):m1=m∧ZB P it ⟨f,m',ds'⟩ x m':=by
 obtain⟨d,op,g⟩:=it;cases g with
 |none=>exact F0 hp h k
 |some p=>
  obtain⟨j,want⟩:=p;simp only[ZB]at k ⊢;cases he:f j with
  |bool b=>
   rw[he]at k;rcases k with⟨h1,k⟩|⟨h1,h2,h3⟩
   ·obtain⟨a,b⟩:=F0 hp h k;exact⟨a,.inl ⟨h1,b⟩⟩
   ·exact⟨h3,.inr ⟨h1,h2,trivial⟩⟩
  |tup l=>rw[he]at k;exact⟨k.2.2,k.1,k.2.1,trivial⟩
  |_=>rw[he]at k;exact k.elim

def RO.lets (op:RO)(c:MC):Bool :=
 match op with
 |.val _=>true
 |.call _ _=>true
 |.store .. => c == .no||c == .shape
 |.storev l s _ _ _=>match c with
  |.cell l' s'=>l' != l||s' != s
  |.outer=>l==0
  |.all=>false
  |_=>true
 |.allocN s _=>match c with
  |.cell l' s'=>l' != 0||s' != s
  |.all=>false
  |_=>true
 |.boxN s _=>match c with
  |.cell l' s'=>l' != 0||s' != s
  |.all=>false
  |_=>true
 |.app .. => match c with
  |.no=>true
  |.cell _ _=>true
  |_=>false
 |.bsl .. => true
 |.bslv s _ _ _ _=>match c with
  |.no=>true
  |.cell l' s'=>l' != 0||s' != s
  |.outer=>true
  |_=>false
 |.bsl0 s _=>match c with
  |.no=>true
  |.cell l' s'=>l' != 0||s' != s
  |.outer=>true
  |_=>false
 |.callF .. => c == .no
 |.callK l s _ _=>match c with
  |.no=>true
  |.cell l' s'=>l'==l&&s'==s
  |_=>false
 |.usd _=>true
 |.ustr .. => c == .no
 |_=>false

theorem Yk {m:Qo}{l s:Nat}{o o':Ob}(hl:Qf m l s=o)(ho:o.row=none)(ho':o'.row=none)(hlt:l<m.length){c:MC}(hc:match c with
  |.cell l' s'=>(l' != l||s' != s)=true
  |.outer=>(l==0)=true
  |.all=>False
  |_=>True):Xq c m (Am.put m l s o'):=by
 have key:∀l' s',(l'=l∧s'=s)∨Qf (Am.put m l s o') l' s'=Qf m l' s':=by
  intro l' s';by_cases hh:l'=l∧s'=s
  ·exact .inl hh
  ·exact .inr (Qy (by omega))
 have hsh:∀ {x:Ob},x.row=none→x.sh=none:=by intro x;cases x<;>simp[Ob.row,Ob.sh]
 cases c with
 |no=>trivial
 |shape=>
  intro l' s';rcases key l' s' with⟨rfl,rfl⟩|e
  ·rw[Qz hlt,hl,hsh ho,hsh ho']
  ·rw[e]
 |rows=>
  intro l' s';rcases key l' s' with⟨rfl,rfl⟩|e
  ·rw[Qz hlt,hl,ho,ho']
  ·rw[e]
 |cell l' s'=>
  show Qf m l' s'=Qf _ l' s'∨_;rcases key l' s' with⟨rfl,rfl⟩|e
  ·simp at hc
  ·exact .inl e.symm
 |outer=>
  intro l' s';have hc:l=0:=by simpa using hc
  exact(Qy (by omega)).symm
 |all=>exact hc.elim

theorem Mc {m:Qo}{s:Nat}(h:XN m s=true):Qf m 0 s=.none:=by
 unfold XN at h;split at h
 ·assumption
 ·cases h

end

theorem Xq.symm {c:MC}{m m':Qo}(h:Xq c m m'):Xq c m' m:=by
 cases c with
 |no=>trivial
 |shape=>exact fun l s=>(h l s).symm
 |rows=>exact fun l s=>(h l s).symm
 |cell l s=>exact Or.imp Eq.symm And.symm h
 |outer=>exact fun l s=>(h l s).symm
 |all=>exact Eq.symm h

theorem F1 {m m':Qo}{p:AV}{ys:List AV}(h:QX m p ys=some m'):Xq .shape m m':=by
 cases p with
 |ptr l s o=>
  simp only[QX]at h;split at h
  ·rename_i xs hlk;split at h
   ·split at h
    ·cases h;exact Yk (c:=.shape) hlk rfl rfl (QY (by rw[hlk];simp)) trivial
    ·cases h
   ·cases h
  ·cases h
 |vptr l s g i o=>
  simp only[QX]at h;split at h
  ·rename_i g' sz xs hlk;split at h
   ·rename_i hg;subst hg;split at h
    ·split at h
     ·cases h;intro l' s';by_cases hh:l'=l∧s'=s
      ·obtain⟨rfl,rfl⟩:=hh;rw[Qz (QY (by rw[hlk];simp)),hlk];rfl
      ·rw[Qy (by omega)]
     ·cases h
    ·cases h
   ·cases h
  ·cases h
 |_=>simp[QX]at h

section
variable {P:Program}{N:Nat}

theorem F2 {m:Qo}{s:Nat}{xs:List AV}(h:XN m s=true){c:MC}(hc:match c with
  |.cell l' s'=>(l' != 0||s' != s)=true
  |.all=>False
  |_=>True):Xq c m (Am.put m 0 s (.cells xs)):=by
 cases m with
 |nil=>exact Xq.refl c _
 |cons fr m=>exact Yk (Mc h) rfl rfl (by simp) (by cases c<;>first|exact hc|rfl)

theorem Gq {op:RO}{c:MC}(hc:op.lets c=true){st:St}{x:AV}{m:Qo}(h:X0 P op st x m):Xq c st.m m:=by
 cases op with
 |val vo=>rw[h.2];exact Xq.refl c _
 |call f args=>rw[h.2];exact Xq.refl c _
 |usd r=>rw[h.2];exact Xq.refl c _
 |callK l s f args=>
  obtain⟨_,_,_,_,_,he⟩:=h;cases c with
  |no=>trivial
  |cell l' s'=>
   simp only[RO.lets,QUL,QUt]at hc;obtain⟨rfl,rfl⟩:=hc;exact .inl he.symm
  |_=>simp[RO.lets]at hc
 |ustr el p r=>
  simp only[RO.lets,QUt]at hc;subst hc;trivial
 |store n p r=>
  simp only[RO.lets,QUr,QUt]at hc;rcases hc with rfl|rfl
  ·trivial
  ·exact F1 h.2.2.1
 |storev l s n p r=>
  obtain⟨⟨o,ho⟩,h1,h2,h3,h4⟩:=h;rw[ho]at h3;simp only[QX]at h3;split at h3
  ·rename_i xs hlk;split at h3
   ·split at h3
    ·cases h3;refine Yk hlk rfl rfl (QY (by rw[hlk];simp)) ?_;cases c<;>first|trivial|exact hc|cases hc
    ·cases h3
   ·cases h3
  ·cases h3
 |allocN s z=>
  rw[h.2.2];refine F2 h.1 ?_;cases c<;>first|trivial|exact hc|cases hc
 |boxN s r=>
  rw[h.2.2.2];refine F2 h.1 ?_;cases c<;>first|trivial|exact hc|cases hc
 |app sz bytes el s r=>
  obtain⟨l,site,g,n,xs,ys,_,hlk,_,_,_,_,_,_,_,rfl⟩:=h;cases c with
  |no=>trivial
  |cell l' s'=>
   show Qf st.m l' s'=Qf _ l' s'∨_;by_cases hh:l'=l∧s'=site
   ·obtain⟨rfl,rfl⟩:=hh;refine .inr ⟨by rw[hlk];rfl,?_⟩;rw[Qz (QY (by rw[hlk];simp))];rfl
   ·exact .inl (Qy (by omega)).symm
  |_=>simp[RO.lets]at hc
 |bsl sz len z ps=>rw[h.2];exact Xq.refl c _
 |bslv site sz len z ps=>
  obtain⟨y,_,_,_,_,_,rfl⟩:=h;cases c with
  |no=>trivial
  |cell l' s'=>
   simp only[RO.lets,QUr,QUN]at hc;exact .inl (Qy (by omega)).symm
  |outer=>exact fun l' s'=>(Qy (.inl (Nat.succ_ne_zero l'))).symm
  |_=>simp[RO.lets]at hc
 |bsl0 site sz=>
  obtain⟨_,_,rfl⟩:=h;cases c with
  |no=>trivial
  |cell l' s'=>
   simp only[RO.lets,QUr,QUN]at hc;exact .inl (Qy (by omega)).symm
  |outer=>exact fun l' s'=>(Qy (.inl (Nat.succ_ne_zero l'))).symm
  |_=>simp[RO.lets]at hc
 |callF f args=>
  simp only[RO.lets,QUt]at hc;subst hc;trivial
 |_=>exact h.elim

theorem Gr {it:Item}{c:MC}(hc:it.op.lets c=true){st:St}{x:AV}{m:Qo}(h:ZB P it st x m):Xq c st.m m:=by
 obtain⟨d,op,g⟩:=it;cases g with
 |none=>exact Gq hc h
 |some p=>
  obtain⟨j,want⟩:=p;simp only[ZB]at h;cases he:st.f j with
  |bool b=>
   rw[he]at h;rcases h with⟨_,h⟩|⟨_,_,h⟩
   ·exact Gq hc h
   ·rw[h];exact Xq.refl c _
  |tup l=>rw[he]at h;rw[h.2.2];exact Xq.refl c _
  |_=>rw[he]at h;exact h.elim

def U1 (a b:Item):Bool :=
  (match a.dst with
   |some d=>!(b.sl.contains d)&&b.dst != some d
   |none=>true) &&
  (match b.dst with
   |some d=>!(a.sl.contains d)
   |none=>true)

def F3 (a b:Item):Bool :=
 match a.op,b.op,a.g,b.g with
 |.allocN s _,.allocN t _,none,none=>s != t
 |_,_,_,_=>false

def U2 (a b:Item):Bool :=
 a.op.keeps&&b.op.keeps&&U1 a b&&((a.op.pure&&b.op.lets a.op.mc)||(b.op.pure&&a.op.lets b.op.mc)||F3 a b)

theorem F4 {m:Qo}{s t:Nat}{o:Ob}(h:s≠t):XN (Am.put m 0 s o) t=XN m t:=by
 unfold XN;rw[Qy (.inr (Ne.symm h))]
theorem Rz {m:Qo}{s t:Nat}{o q:Ob}(h:s≠t):Am.put (Am.put m 0 s o) 0 t q=Am.put (Am.put m 0 t q) 0 s o:=by
 cases m with
 |nil=>rfl
 |cons fr m=>
  simp only[Am.put];congr 1
  funext i;by_cases h1:i=t
  ·subst h1;rw[QS,QR _ _ (Ne.symm h),QS]
  ·rw[QR _ _ h1];by_cases h2:i=s
   ·subst h2;rw[QS,QS]
   ·rw[QR _ _ h2,QR _ _ h2,QR _ _ h1]
theorem NK {a b:Item}(h:F3 a b=true){st:St}{f:Fr}{x y:AV}{m m2:Qo}(ga:ZB P a st x m)(gb:ZB P b { st with m:=m,f:=f } y m2) :
  ∃m1,ZB P b st y m1∧∀f',ZB P a { st with m:=m1,f:=f' } x m2:=by
 obtain⟨da,oa,ga'⟩:=a;obtain⟨db,ob,gb'⟩:=b;unfold F3 at h;dsimp only at h;split at h
 ·rename_i s z t w;have hne:s≠t:=by simpa using h
  obtain⟨h1,rfl,rfl⟩:=ga;obtain⟨h2,rfl,rfl⟩:=gb;dsimp only at h2;rw[F4 hne]at h2;refine⟨_,⟨h2,rfl,rfl⟩,fun f'=>⟨?_,rfl,?_⟩⟩
  ·dsimp only;rw[F4 (Ne.symm hne)];exact h1
  ·exact Rz hne
 ·cases h

theorem DZ {l:List Nat}{f:Fr}{d:Option Nat}{x:AV}(h:∀k,d=some k→k∉l):ZG l f (Qp f d x):=by
 intro t ht;cases d with
 |none=>rfl
 |some k=>
  have:t≠k:=fun e=>h k rfl (e▸ht)
  show f t=QI f k x t;rw[QR _ _ this]

theorem Md {f:Fr}{d e:Option Nat}{x y:AV}(h:∀k,d=some k→e≠some k):Qp (Qp f d x) e y=Qp (Qp f e y) d x:=by
 cases d with
 |none=>rfl
 |some d=>
  cases e with
  |none=>rfl
  |some e=>
   have hne:d≠e:=fun hh=>h d rfl (hh▸rfl)
   funext i;show QI (QI f d x) e y i=QI (QI f e y) d x i;by_cases h1:i=e
   ·subst h1;rw[QS,QR _ _ (Ne.symm hne),QS]
   ·rw[QR _ _ h1];by_cases h2:i=d
    ·subst h2;rw[QS,QS]
    ·rw[QR _ _ h2,QR _ _ h2,QR _ _ h1]

theorem V2 {a b:Item}(h:U1 a b=true):(∀k,a.dst=some k→k∉b.sl)∧(∀k,a.dst=some k→b.dst≠some k)∧(∀k,b.dst=some k→k∉a.sl):=by
 unfold U1 at h;simp only[QUL]at h;refine⟨fun k e=>?_,fun k e=>?_,fun k e=>?_⟩
 ·have:=h.1;rw[e]at this;simp at this;exact this.1
 ·have:=h.1;rw[e]at this;simp at this;exact this.2
 ·have:=h.2;rw[e]at this;simpa using this

theorem V3 {a b:Item}(h:U2 a b=true){st:St}{K:St→Prop}(k:XZ P a st fun s=>XZ P b s K):XZ P b st fun s=>XZ P a s K:=by
 unfold U2 at h;simp only[QUL,QUr]at h;obtain⟨⟨⟨ka,kb⟩,hap⟩,hor⟩:=h;obtain⟨h1,h2,h3⟩:=V2 hap;rw[Jz ka]at k;obtain⟨x,m,ga,k⟩:=k;rw[Jz kb]at k;obtain⟨y,m2,gb,k⟩:=k;rw[Jz kb];have hs1:∀f:Fr,ZG b.sl f (Qp f a.dst x):=fun f=>DZ h1
 have hs3:∀f:Fr,ZG a.sl f (Qp f b.dst y):=fun f=>DZ h3
 have hsym:∀ {l f f'},ZG l f f'→ZG l f' f:=fun h t ht=>(h t ht).symm
 have hK:K { st with m:=m2,f:=Qp (Qp st.f b.dst y) a.dst x }:=by
  rw[←Md h2];exact k
 rcases hor with(⟨pa,lb⟩|⟨pb,la⟩)|hf
 ·have e:m=st.m:=(Ux (m':=st.m) (ds':=st.ds) pa (Xq.refl _ _) ga).1;subst e;have gb':ZB P b st y m2:=Wb (hsym (hs1 st.f)) gb;refine⟨y,m2,gb',?_⟩;rw[Jz ka];have ga':ZB P a { st with m:=m2 } x m2:=(Ux pa (Gr lb gb') ga).2;exact⟨x,m2,Wb (hs3 st.f) ga',hK⟩
 ·have hag:=Gr la ga;obtain⟨e,gb1⟩:=Ux (m':=st.m) (ds':=st.ds) pb hag.symm gb;have e:m2=m:=e;subst e;have gb':ZB P b st y st.m:=Wb (hsym (hs1 st.f)) gb1;refine⟨y,st.m,gb',?_⟩;rw[Jz ka];exact⟨x,m2,Wb (hs3 st.f) ga,hK⟩
 ·obtain⟨m1,gb',ga'⟩:=NK hf ga gb;refine⟨y,m1,gb',?_⟩;rw[Jz ka];exact⟨x,m2,ga' _,hK⟩

theorem Me {ops:Array Oper}{o:Oper}{i:Nat}(hi:ops[i]? = some o){it:Item}(hc:Ut P N ops o it=true){st:St}{K:St→Prop}(h:XZ P it st K){G:Gh}{B:Nat}{a:Act}{w:World}(hr:Rel G B N st a w){KK:Act→World→Prop}{QQ:Exit→Act→World→Prop}
  (hk:∀G' st' a' w',K st'→Rel G' B N st' a' w'→Ext 1 G w G' w'→KK a' w'):wpOp P ops QQ i KK a w:=by
 have h1:Qw P N [it] st K:=FT (YK (fun _ hs=>Qw.nil hs) h);have h2:=h1 ops [o] (by simp[Za,hc]) G B a w hr (fun e a w=>match e with
  |.normal=>KK a w
  |e=>QQ e a w) (fun G' st' a' w' h1 h2 h3=>hk G' st' a' w' h1 h2 h3)
 unfold wpOp;simp only[hi];unfold wpList at h2;split
 ·rename_i hw;rw[QUQ hw]at h2;rcases h2 with h2|h2
  ·left
   unfold Oper.wp at h2 ⊢;generalize (execOp a.eval o).run P w=r at h2 ⊢;cases r with
   |ok n w'=>
    cases n<;>simp only[Oper.upon]at h2 ⊢<;>first
     |exact h2
     |exact Calls.mono h2 (fun e w'' he=>by cases e<;>exact he)
   |halt x w'=>cases x<;>simp only[Oper.upon]at h2 ⊢<;>exact h2
  ·exact .inr h2
 ·rename_i hw;rw[QUB hw]at h2;exact h2

def K0:Item:=⟨none,.val (.mov (.c .top)),none⟩
def YL (Qe:List Item)(l:List Nat):List Item:=l.map fun i=>Qe.getD i K0

theorem Mf {Qe:List Item}{i:Nat}{post:List Nat}{Q:St→Prop}:∀ {pre:List Nat} {st:St},(∀p,p∈pre→U2 (Qe.getD p K0) (Qe.getD i K0)=true)→
  QE P (YL Qe (pre++i :: post)) st Q→XZ P (Qe.getD i K0) st fun s=>QE P (YL Qe (pre++post)) s Q
 | [],_,_,h=>h
 |p :: pre,st,hp,h=>by
  have h':XZ P (Qe.getD p K0) st fun s=>QE P (YL Qe (pre++i :: post)) s Q:=h
  have h2:=YK (fun s hs=>Mf (fun q hq=>hp q (QUD _ hq)) hs) h';exact V3 (hp p (QUF ..)) h2

inductive Bef (ops:Array Oper):Nat→Nat→Prop
 |one {i:Nat} {o:Oper} {e:Edge} (ho:ops[i]? = some o) (he:e∈o.after) (hb:Region.binds .any e=true):Bef ops e.on i
 |more {i p:Nat} {o:Oper} {e:Edge} (ho:ops[i]? = some o) (he:e∈o.after) (hb:Region.binds .any e=true) (h:Bef ops p e.on):Bef ops p i

def V4 (acc:List Nat)(m:Nat)(e:Edge):Nat:=if Region.binds .any e then(m ||| 2 ^ e.on) ||| acc.getD e.on 0 else m
def Mg (acc:List Nat)(o:Oper):Nat:=o.after.toList.foldl (V4 acc) 0
def V5:List Oper→List Nat→List Nat
 | [],acc=>acc
 |o :: os,acc=>V5 os (acc++[Mg acc o])

theorem Gs {acc:List Nat}{p:Nat}:∀(l:List Edge) (m:Nat),(l.foldl (V4 acc) m).testBit p=true→m.testBit p=true∨∃e∈l,Region.binds .any e=true∧(p=e.on∨(acc.getD e.on 0).testBit p=true)
 | [],m,h=>.inl h
 |e :: l,m,h=>by
  rw[List.foldl_cons]at h;rcases Gs l _ h with h1|⟨e',h1,h2,h3⟩
  ·unfold V4 at h1;split at h1
   ·rename_i hb;rw[Nat.testBit_or,Nat.testBit_or,QUr,QUr]at h1;rcases h1 with(h1|h1)|h1
    ·exact .inl h1
    ·rw[Nat.testBit_two_pow]at h1;exact .inr ⟨e,QUF ..,hb,.inl (of_decide_eq_true h1).symm⟩
    ·exact .inr ⟨e,QUF ..,hb,.inr h1⟩
   ·exact .inl h1
  ·exact .inr ⟨e',QUD _ h1,h2,h3⟩

theorem F5 {ops:Array Oper}:∀(l:List Oper) (acc:List Nat),ops.toList=ops.toList.take acc.length++l→acc.length+l.length=ops.size→(∀i p,(acc.getD i 0).testBit p=true→Bef ops p i)→∀i p,((V5 l acc).getD i 0).testBit p=true→Bef ops p i
 | [],acc,_,_,h=>h
 |o :: l,acc,e,hn,h=>by
  have hlen:acc.length<ops.toList.length:=by simp at hn ⊢;omega
  have hat:ops[acc.length]? = some o:=by
   rw[←QUO,e,QVM (by simp;omega)];simp;have:acc.length-min acc.length ops.size=0:=by simp at hlen;omega
   rw[this];rfl
  refine F5 l (acc++[Mg acc o]) ?_ (by simp at hn ⊢;omega) fun i p hb=>?_
  ·rw[QUZ,QVR,QUH hlen,QUI];have:ops.toList[acc.length]=o:=by
    have:=QUo hlen;rw[QUO,hat]at this;cases this;rfl
   rw[this];exact e
  ·rw[List.getD_eq_getElem?_getD]at hb;by_cases hi:i<acc.length
   ·rw[QVL hi,←List.getD_eq_getElem?_getD]at hb;exact h i p hb
   ·by_cases hi2:i=acc.length
    ·subst hi2;rw[QVM (QUm _)]at hb;simp only[Nat.sub_self,QVo,QVw]at hb;rcases Gs _ _ hb with h1|⟨e',h1,h2,h3⟩
     ·simp at h1
     ·rcases h3 with rfl|h3
      ·exact .one hat (by simpa using h1) h2
      ·exact .more hat (by simpa using h1) h2 (h _ _ h3)
    ·rw[QVK (by simp;omega)]at hb;simp at hb

def Du (ops:Array Oper)(Qe:List Item):Bool :=
 (List.range ops.size).all fun i=>match ops[i]? with
  |some o=>o.after.all (fun e=>!Region.binds .any e||decide (e.on<i))&&(List.range i).all fun p=>((V5 ops.toList []).getD i 0).testBit p||U2 (Qe.getD p K0) (Qe.getD i K0)
  |none=>true

theorem Bef.listed {ops:Array Oper}{L:Nat→Prop}(hcl:∀q,L q→∀o e,ops[q]? = some o→e∈o.after→Region.binds .any e=true→L e.on){p i:Nat}(h:Bef ops p i)(hi:∀o e,ops[i]? = some o→e∈o.after→Region.binds .any e=true→L e.on):L p:=by
 induction h with
 |one ho he hb=>exact hi _ _ ho he hb
 |more ho he hb _ ih=>exact ih (hcl _ (hi _ _ ho he hb))

def KR (n:Nat)(listed:Array Bool):List Nat:=(List.range n).filter fun i=>!listed.getD i true

theorem HB {ops:Array Oper}:∀ {l:List Oper} {Qe:List Item},Za P N ops l Qe=true→l.length=Qe.length∧∀(i:Nat) (o:Oper),l[i]? = some o→Ut P N ops o (Qe.getD i K0)=true
 | [],Qe,h=>by
  cases Qe with
  |nil=>exact⟨rfl,by simp⟩
  |cons it Qe=>simp[Za]at h
 |o :: l,Qe,h=>by
  cases Qe with
  |nil=>simp[Za]at h
  |cons it Qe=>
   simp only[Za,QUL]at h;obtain⟨e,h2⟩:=HB h.2;refine⟨by simp[e],fun i o' ho=>?_⟩;cases i with
   |zero=>simp at ho;subst ho;exact h.1
   |succ i=>simpa using h2 i o' (by simpa using ho)

theorem RB {ops:Array Oper}{Qe:List Item}(hc:Za P N ops ops.toList Qe=true)(hd:Du ops Qe=true){B:Nat}{Q:St→Prop}{QQ:Exit→Act→World→Prop} :
  ∀(fuel:Nat) (listed:Array Bool),listed.size=ops.size→(∀q,listed.getD q false=true→∀o e,ops[q]? = some o→e∈o.after→Region.binds .any e=true→listed.getD e.on false=true)→(KR ops.size listed).length≤fuel→∀(st:St) (G:Gh) (a:Act) (w:World),QE P (YL Qe (KR ops.size listed)) st Q→Rel G B N st a w→
   (∀G' st' a' w',Q st'→Rel G' B N st' a' w'→Ext 1 G w G' w'→QQ .normal a' w')→wpAny P .any ops QQ fuel listed a w:=by
 obtain⟨hlen,hcs⟩:=HB hc;have hready:∀(listed:Array Bool) i,i∈Region.ready .any ops listed→i∈KR ops.size listed:=by
  intro listed i hi;obtain⟨h0,o,ho,_⟩:=mem_ready.1 hi;exact List.mem_filter.2 ⟨QVS.2 (QUu.1 ho).1,by simp[h0]⟩
 have hat:∀i,i<ops.size→∃o,ops[i]? = some o∧(∀e∈o.after,Region.binds .any e=true→e.on<i)∧∀p,p<i→Bef ops p i∨U2 (Qe.getD p K0) (Qe.getD i K0)=true:=by
  intro i hi;refine⟨ops[i],QUE hi,?_⟩;have h1:=QUz.1 hd i (QVS.2 hi);rw[QUE hi]at h1;simp only[QUL]at h1;refine⟨fun e he hb=>?_,fun p hp=>?_⟩
  ·have h2:=Array.all_eq_true_iff_forall_mem.1 h1.1 e he
   simpa [hb]using h2
  ·have h2:=QUz.1 h1.2 p (QVS.2 hp);rw[QUr]at h2;rcases h2 with h2|h2
   ·exact .inl (F5 ops.toList [] (by simp) (by simp) (fun i p hb=>by simp at hb) i p h2)
   ·exact .inr h2
 -- the first that is left is ready
 have hfirst:∀(listed:Array Bool),listed.size=ops.size→Region.ready .any ops listed=[]→KR ops.size listed=[]:=by
  intro listed hsz hr;cases hu:KR ops.size listed with
  |nil=>rfl
  |cons i rest=>
   exfalso;have hpw:(KR ops.size listed).Pairwise (· < ·):=List.Pairwise.filter _ List.pairwise_lt_range;have hi:i∈KR ops.size listed:=by rw[hu];exact QUF ..
   obtain⟨hi1,hi2⟩:=List.mem_filter.1 hi;obtain⟨o,ho,h1,_⟩:=hat i (QVS.1 hi1);have:i∈Region.ready .any ops listed:=by
    refine mem_ready.2 ⟨by simpa using hi2,o,ho,fun e he hb=>?_⟩;have hlt:=h1 e he hb;cases hg:listed.getD e.on false with
    |true=>rfl
    |false=>
     have hin:e.on∈KR ops.size listed:=by
      refine List.mem_filter.2 ⟨QVS.2 (Nat.lt_trans hlt (QVS.1 hi1)),?_⟩;have hlt':e.on<listed.size:=by rw[hsz];exact Nat.lt_trans hlt (QVS.1 hi1)
      simp[QUE hlt']at hg ⊢;exact hg
     rw[hu]at hin hpw;rcases QVI.1 hin with e'|e'
     ·omega
     ·have:=(QVT.1 hpw).1 _ e';omega
   rw[hr]at this;cases this
 intro fuel
 induction fuel with
 |zero=>
  intro listed hsz hcl hl st G a w h hr hq;have hu:KR ops.size listed=[]:=QVq (by omega);refine⟨?_,?_⟩
  ·cases hx:Region.ready .any ops listed with
   |nil=>rfl
   |cons i r=>
    have:=hready listed i (by rw[hx];exact QUF ..);rw[hu]at this;cases this
  ·rw[hu]at h;exact hq G st a w h hr (Ext.refl 1 G w)
 |succ fuel ih=>
  intro listed hsz hcl hl st G a w h hr hq;refine⟨fun hx=>?_,fun i hi=>?_⟩
  ·rw[hfirst listed hsz hx]at h;exact hq G st a w h hr (Ext.refl 1 G w)
  ·have hiu:=hready listed i hi;obtain⟨pre,post,hsplit⟩:=List.append_of_mem hiu;have hpw:(KR ops.size listed).Pairwise (· < ·):=List.Pairwise.filter _ List.pairwise_lt_range;rw[hsplit]at h hpw;obtain⟨_,hp2,hp3⟩:=List.pairwise_append.1 hpw;obtain⟨hi1,hi2⟩:=List.mem_filter.1 hiu;obtain⟨o,ho,h1,h2⟩:=hat i (QVS.1 hi1);obtain⟨_,o',ho',h3⟩:=mem_ready.1 hi;rw[ho]at ho';cases ho';have hind:∀p,p∈pre→U2 (Qe.getD p K0) (Qe.getD i K0)=true:=by
    intro p hp;rcases h2 p (hp3 p hp i (QUF ..))with hbef|h
    ·exfalso;have hl1:=hbef.listed (L:=fun q=>listed.getD q false=true) hcl (fun o2 e ho2 he hb=>by rw[ho]at ho2;cases ho2;exact h3 e he hb);have hpu:p∈KR ops.size listed:=by rw[hsplit];exact List.mem_append_left _ hp
     obtain⟨hr1,hr2⟩:=List.mem_filter.1 hpu;have hlt':p<listed.size:=by rw[hsz];exact QVS.1 hr1
     simp[QUE hlt']at hl1 hr2;rw[hl1]at hr2;cases hr2
    ·exact h
   have hb:=Mf (P:=P) hind h;have hnext:KR ops.size (listed.setIfInBounds i true)=pre++post:=by
    have e1:KR ops.size (listed.setIfInBounds i true)=(KR ops.size listed).filter fun j=>j != i:=by
     unfold KR;rw[List.filter_filter];refine List.filter_congr fun j hj=>?_
     by_cases hji:j=i
     ·subst hji;have hlt':j<listed.size:=by rw[hsz];exact QVS.1 hj
      simp[hlt']
     ·rw[getD_set_ne true (fun e=>hji e.symm)];simp[hji]
    rw[e1,hsplit,QVU,List.filter_cons];have e2:pre.filter (fun j=>j != i)=pre:=QVV.2 fun j hj=>by
     have:=hp3 j hj i (QUF ..);simp;omega
    have e3:post.filter (fun j=>j != i)=post:=QVV.2 fun j hj=>by
     have:=(QVT.1 hp2).1 j hj;simp;omega
    rw[e2,e3];simp
   have hset:∀q,listed.getD q false=true→(listed.setIfInBounds i true).getD q false=true:=fun q hq'=>by
    by_cases hqi:q=i
    ·subst hqi;have hlt':q<listed.size:=by rw[hsz];exact QVS.1 hi1
     simp[hlt']
    ·rw[getD_set_ne false (fun e=>hqi e.symm)];exact hq'
   have hcl':∀q,(listed.setIfInBounds i true).getD q false=true→∀o e,ops[q]? = some o→e∈o.after→Region.binds .any e=true→(listed.setIfInBounds i true).getD e.on false=true:=fun q hq' o2 e ho2 he2 hb2=>by
    by_cases hqi:q=i
    ·subst hqi;rw[ho]at ho2;cases ho2;exact hset _ (h3 e he2 hb2)
    ·rw[getD_set_ne false (fun e=>hqi e.symm)]at hq';exact hset _ (hcl q hq' o2 e ho2 he2 hb2)
   refine Me ho (hcs i o (by simpa using ho)) hb hr fun G' st' a' w' hk hr' he=>?_
   refine ih (listed.setIfInBounds i true) (by simpa using hsz) hcl' ?_ st' G' a' w' (by rw[hnext];exact hk) hr' fun G2 st2 a2 w2 hq2 hr2 he2=>hq G2 st2 a2 w2 hq2 hr2 (he.trans he2)
   rw[hnext];rw[hsplit]at hl;simp only[QUZ,QUC]at hl ⊢;omega

theorem Mh {Qe:List Item}:YL Qe (List.range Qe.length)=Qe:=by
 apply List.ext_getElem
 ·simp[YL]
 ·intro i h1 h2;simp[YL,h2]

theorem Ea {ops:Array Oper}{Qe:List Item}(hm:P.follows .mixedOrders=true)(hc:Za P N ops ops.toList Qe=true)(hd:Du ops Qe=true){st:St}{Q:St→Prop}(h:QE P Qe st Q){G:Gh}{B:Nat}{a:Act}{w:World}(hr:Rel G B N st a w){QQ:Exit→Act→World→Prop}{id:Nat}
  (hq:∀G' st' a' w',Q st'→Rel G' B N st' a' w'→Ext 1 G w G' w'→QQ .normal a' w'):(Code.region id ops true).wp P QQ a w:=by
 refine wp_region_any hm ?_;have hlen:=(HB hc).1;simp only[QUR]at hlen;have hu:KR ops.size (Array.replicate ops.size false)=List.range Qe.length:=by
  unfold KR;rw[hlen];refine QVV.2 fun i hi=>?_
  simp[QVS.1 hi]
 refine RB hc hd ops.size (Array.replicate ops.size false) (by simp) (fun q hq'=>by rw[QUw]at hq';simp[Array.getElem?_replicate]at hq';split at hq'<;>cases hq') (by rw[hu];simp[hlen]) st G a _ (by rw[hu,Mh];exact h) hr.drew fun G' st' a' w' h1 h2 h3=>hq G' st' a' w' h1 h2 ((Ext.drew G w).trans h3)

end

def Zh (P:Program)(N:Nat):RC→Code→Bool
 |.gho _ r,c=>Zh P N r c
 |.no,_=>true
 |.skip,c=>match c with
  |.skip=>true
  |_=>false
 |.reg Qe,c=>match c with
  |.region _ ops false=>Za P N ops ops.toList Qe
  |_=>false
 |.draw Qe,c=>match c with
  |.region _ ops true=>P.follows .mixedOrders&&Za P N ops ops.toList Qe&&Du ops Qe
  |_=>false
 |.seq a b,c=>match c with
  |.seq x y=>Zh P N a x&&Zh P N b y
  |_=>false
 |.cond r a b,c=>match c with
  |.cond o x y=>QM o r&&Zh P N a x&&Zh P N b y
  |_=>false
 |.block i a,c=>match c with
  |.block j x=>i==j&&Zh P N a x
  |_=>false
 |.loop a,c=>match c with
  |.loop x=>Zh P N a x
  |_=>false
 |.exit i,c=>match c with
  |.exit j=>i==j
  |_=>false
 |.scope a,c=>match c with
  |.scope x=>Zh P N a x
  |_=>false
 |.lab,c=>match c with
  |.label _=>true
  |_=>false
 |.ret,c=>match c with
  |.ret=>true
  |_=>false

section
variable {P:Program}{N B:Nat}

theorem Qbc:∀ {rc:RC} {c:Code} {st:St} {Q:Exit→St→Prop},QG P rc st Q→Zh P N rc c=true→∀ {G:Gh} {a:Act} {w:World},Rel G B N st a w→∀ {QQ:Exit→Act→World→Prop},
  (∀e G' st' a' w',Q e st'→Rel G' B N st' a' w'→Ext 1 G w G' w'→QQ e a' w')→c.wp P QQ a w:=by
 intro rc
 induction rc with
 |skip=>
  intro c st Q h hc G a w hr QQ hq;cases c<;>simp only[Zh,QUG]at hc;exact wp_skip (hq _ _ _ _ _ h hr (Ext.refl 1 G w))
 |reg Qe=>
  intro c st Q h hc G a w hr QQ hq;cases c<;>simp only[Zh,QUG]at hc;rename_i id ops d;cases d<;>simp only[QUG]at hc;refine wp_region_list ?_;exact NW (N:=N) h ops ops.toList hc G B a w hr QQ fun G' st' a' w' h1 h2 h3=>hq _ _ _ _ _ h1 h2 h3
 |draw Qe=>
  intro c st Q h hc G a w hr QQ hq;cases c<;>simp only[Zh,QUG]at hc;rename_i id ops d;cases d<;>simp only[QUG,QUL]at hc;exact Ea hc.1.1 hc.1.2 hc.2 h hr fun G' st' a' w' h1 h2 h3=>hq _ _ _ _ _ h1 h2 h3
 |seq x y ihx ihy=>
  intro c st Q h hc G a w hr QQ hq;cases c<;>simp only[Zh,QUG,QUL]at hc;refine wp_seq (ihx h hc.1 hr fun e G' st' a' w' h1 h2 h3=>?_);cases e with
  |normal=>exact ihy h1 hc.2 h2 fun e G2 st2 a2 w2 k1 k2 k3=>hq _ _ _ _ _ k1 k2 (h3.trans k3)
  |_=>exact hq _ _ _ _ _ h1 h2 h3
 |cond r x y ihx ihy=>
  intro c st Q h hc G a w hr QQ hq;cases c<;>simp only[Zh,QUG,QUL]at hc;rename_i o cx cy;obtain⟨t,ht,h1,h2⟩:=h;have hv:=Qv hr hc.1.1;rw[ht]at hv;have hv':a.eval o=.bool t:=by
   generalize a.eval o=v at hv;cases hv;rfl
  refine wp_cond_split hv' (fun e=>?_) (fun e=>?_)
  ·exact ihx (h1 e) hc.1.2 hr hq
  ·exact ihy (h2 e) hc.2 hr hq
 |block i x ih=>
  intro c st Q h hc G a w hr QQ hq;cases c<;>simp only[Zh,QUG,QUL,QUt]at hc;obtain⟨rfl,hc⟩:=hc;refine wp_block (ih h hc hr fun e G' st' a' w' h1 h2 h3=>?_);cases e with
  |exit j=>
   simp only[Exit.inBlock];simp only[Kb]at h1;split
   ·rename_i hh;rw[QUQ hh]at h1;exact hq _ _ _ _ _ h1 h2 h3
   ·rename_i hh;rw[QUB hh]at h1;exact hq _ _ _ _ _ h1 h2 h3
  |_=>exact hq _ _ _ _ _ h1 h2 h3
 |loop x ih=>
  intro c st Q h hc G a w hr QQ hq;cases c<;>simp only[Zh,QUG]at hc;obtain⟨I,n,h0,hI⟩:=h;refine wp_loop_ghost (fun k a' w'=>∃G' st',I k st'∧Rel G' B N st' a' w'∧Ext 1 G w G' w') n ⟨G,st,h0,hr,Ext.refl 1 G w⟩ ?_;rintro k a' w' ⟨G',st',i1,i2,i3⟩;refine ih (hI k st' i1) hc i2 fun e G2 st2 a2 w2 h1 h2 h3=>?_
  cases e with
  |normal=>
   obtain⟨k',hk,hi⟩:=h1;exact⟨k',hk,G2,st2,hi,h2,i3.trans h3⟩
  |_=>exact hq _ _ _ _ _ h1 h2 (i3.trans h3)
 |exit i=>
  intro c st Q h hc G a w hr QQ hq;cases c<;>simp only[Zh,QUG,QUt]at hc;subst hc;exact wp_exit (hq _ _ _ _ _ h hr (Ext.refl 1 G w))
 |scope x ih=>
  intro c st Q h hc G a w hr QQ hq;cases c<;>simp only[Zh,QUG]at hc;refine wp_scope_straight (ih h hc hr fun e G' st' a' w' h1 h2 h3=>?_);cases e with
  |goto l=>exact h1.elim
  |_=>exact hq _ _ _ _ _ h1 h2 h3
 |lab=>
  intro c st Q h hc G a w hr QQ hq;cases c<;>simp only[Zh,QUG]at hc;exact wp_label (hq _ _ _ _ _ h hr (Ext.refl 1 G w))
 |ret=>
  intro c st Q h hc G a w hr QQ hq;cases c<;>simp only[Zh,QUG]at hc;exact wp_ret (hq _ _ _ _ _ h hr (Ext.refl 1 G w))
 |gho g x ih=>
  intro c st Q h hc G a w hr QQ hq;obtain⟨st',hg,h⟩:=h;obtain⟨G',h1,h2⟩:=Rw hr hg;exact ih h hc h1 fun e G2 st2 a2 w2 k1 k2 k3=>hq _ _ _ _ _ k1 k2 (h2.trans k3)
 |no=>
  intro c st Q h;exact h.elim

theorem MR.out {G:Gh}{fr:Nat→Ob}{m:Qo}{w:World}(h:MR G (fr :: m) w){S:Nat→Prop}(hS:∀b,S b→(∃s,G.vm 0 s=some b)∨∃s,G.nm 0 s=some b):MR ((G.pub w S).dn 1) m w:=by
 have hnS:∀l s b,G.nm (l+1) s=some b→¬S b:=fun l s b e hs=>by
  rcases hS b hs with⟨s',e'⟩|⟨s',e'⟩
  ·exact h.inj3 _ _ _ _ _ e e'
  ·have:=(h.inj1 _ _ _ _ _ e e').1;omega
 have hvS:∀l s b,G.vm (l+1) s=some b→¬S b:=fun l s b e hs=>by
  rcases hS b hs with⟨s',e'⟩|⟨s',e'⟩
  ·have:=(h.inj2 _ _ _ _ _ e e').1;omega
  ·exact h.inj3 _ _ _ _ _ e' e
 have hgle:Gle G (G.pub w S):=Gh.pub_gle h.stab;refine⟨fun b o v e=>?_,fun l s xs e=>?_,fun l s b e=>?_,fun l s g sz xs e=>?_,fun l s b e=>?_,fun l s e=>?_,fun l s l' s' b e e'=>?_,fun l s l' s' b e e'=>?_,fun l s l' s' b e e'=>?_,fun l s t p e=>h.iter (l+1) s t p e⟩
 ·have e:(G.pub w S).stab b o=some v:=e;by_cases hs:S b
  ·rw[Gh.pub_in hs]at e;exact FE e
  ·rw[Gh.pub_out hs]at e;exact h.stab b o v e
 ·obtain⟨b,cs,e',hc,hr⟩:=h.cells (l+1) s xs e;refine⟨b,cs,e',hc,?_⟩;rw[Gh.dn_dn];exact hr.mono (hgle.dn (l+1))
 ·obtain⟨h1,h2⟩:=h.nm (l+1) s b e;refine⟨h1,fun o=>?_⟩;show(G.pub w S).stab b o=none;rw[Gh.pub_out (hnS _ _ _ e)];exact h2 o
 ·obtain⟨a1,a2,a3,a4⟩:=h.vec (l+1) s g sz xs e;exact⟨a1,a2,a3,a4.imp id fun⟨b,e',r⟩=>⟨b,e',r.of rfl fun vs hv=>RepL.rfd (G:=G) (G':=(G.pub w S).dn 1) hgle.stab a3.rf hv⟩⟩
 ·obtain⟨h1,h2⟩:=h.vm (l+1) s b e;refine⟨h1,fun o=>?_⟩;show(G.pub w S).stab b o=none;rw[Gh.pub_out (hvS _ _ _ e)];exact h2 o
 ·exact h.gone (l+1) s e
 ·obtain⟨h1,h2⟩:=h.inj1 _ _ _ _ _ e e';exact⟨by omega,h2⟩
 ·obtain⟨h1,h2⟩:=h.inj2 _ _ _ _ _ e e';exact⟨by omega,h2⟩
 ·exact h.inj3 _ _ _ _ _ e e'

def ZK (rs:List RR)(n:Nat)(R:AV→Qo→Prop):Exit→St→Prop:=fun e st=>
 (e=.normal∨e=.ret)∧st.ds=[]∧∃x y fr m,Kr st rs=some x∧Wa st.m x=some y∧st.m=fr :: m∧m.length=n∧R y m

theorem NL {G:Gh}{args:List AV}{vs:List Value}(h:RepL G args vs){N:Nat}(i:Nat):Rep G.up (FO (AV.shL args) i) (((vs.toArray++Array.replicate (N-vs.toArray.size) undef):Array Value).getD i undef):=by
 have h':RepL G.up (AV.shL args) vs:=RepL.sh (G:=G.up) (by rw[Gh.up_dn];exact h);have hl:=h'.length;unfold FO;by_cases hi:i<vs.length
 ·obtain⟨x,e,hx⟩:=h'.back (QUo hi);rw[e];simp only[QVw,QUw];rw[Array.getElem?_append_left (by simpa using hi)]
  simpa [hi]using hx
 ·rw[QVK (by omega)];simp only[QVW,QUw];rw[Array.getElem?_append_right (by simpa using hi)];cases hx:(Array.replicate (N-vs.toArray.size) undef)[i-vs.toArray.size]? with
  |none=>exact .tup .nil
  |some v=>
   have:=QUu.1 hx;obtain⟨_,h2⟩:=this;simp at h2;subst h2;exact .tup .nil

theorem Mi {fn:Func}{args:List AV}{m:Qo}{G:Gh}{w:World}{vs:List Value}(hvs:RepL G args vs)(hm:MR G m w)(hN:fn.ntmps=N)(ha:args.length≤N) :
  Rel G.up w.heap.size N (St.enter args m) { tmps:=vs.toArray++Array.replicate (fn.ntmps-vs.toArray.size) undef,defers:=[] } w:=by
 have hlen:=hvs.length;refine⟨hm.up,?_,fun i=>NL hvs i,.nil,fun s b e=>?_,QUm _,by simp[St.enter]⟩
 ·simp;omega
 ·rcases e with e|e<;>cases e

theorem Eb {fn:Func}{rs:List RR}{G G':Gh}{m m':Qo}{w w':World}{st':St}{a':Act}{fr:Nat→Ob}{x y:AV}{R:AV→Qo→Prop}(hr:JN P fn.results.toList rs=true)(hr':Rel G' w.heap.size N st' a' w')(he:Ext 1 G.up w G' w')
  (hx:Kr st' rs=some x) (hy:Wa st'.m x=some y) (hst:st'.m=fr :: m') (hml:m'.length=m.length) (hR:R y m') :
  ∃v,(results fn a'.tmps).run P w'=.ok v w'∧(∃G'' x v' m'',(Ending.returned v)=.returned v'∧R x m''∧Rep G'' x v'∧MR G'' m'' w'∧Ext 0 G w G'' w'∧m''.length=m.length):=by
 obtain⟨v,hrun,hv⟩:=A6 (P:=P) hr' hr hx
 let S:Nat→Prop:=fun b=>(∃s,G'.vm 0 s=some b)∨∃s,G'.nm 0 s=some b
 have hmr:=hr'.mr;have hSt:∀l s b,(true&&l != 0)=false→G'.vm l s=some b→S b:=by
  intro l s b hl e;have:l=0:=by simpa using hl
  subst this;exact .inl ⟨s,e⟩
 unfold Wa at hy;rw[Option.bind_eq_some_iff]at hy;obtain⟨z,hz,hy⟩:=hy;have hv2:=Rep.un (Hz hmr (own:=true) (S:=S) hSt (fun _ s b _ _ _ e _=>.inr ⟨s,e⟩) hv z hz) y hy;rw[hst]at hmr;have hout:=hmr.out (S:=S) (fun b hs=>hs);have hmine:∀b,((G'.pub w' S).dn 1).mine b→G'.mine b:=by
  rintro b (⟨l,s,e⟩|⟨l,s,e⟩)
  ·exact .inl ⟨l+1,s,e⟩
  ·exact .inr ⟨l+1,s,e⟩
 have hext:Ext 0 G w ((G'.pub w' S).dn 1) w':=by
  refine⟨he.os,he.tape,he.output,he.size,fun b o v e=>?_,fun l s _=>he.nm (l+1) s (by omega),fun l s=>he.vg (l+1) s,fun l s e=>he.vs (l+1) s e,fun b hb hnm=>?_,fun b hb=>?_,fun l s b e=>?_⟩
  ·exact(Gh.pub_gle (S:=S) hr'.mr.stab).stab b o v (he.stab b o v e)
  ·obtain⟨h1,h2⟩:=he.old b hb (fun hx=>hnm (Gh.up_mine.1 hx));refine⟨h1,fun o=>?_⟩;have hnS:¬S b:=by
    rintro(⟨s,e⟩|⟨s,e⟩)
    ·have:=hr'.base s b (.inr e);omega
    ·have:=hr'.base s b (.inl e);omega
   show(G'.pub w' S).stab b o=G.stab b o;rw[Gh.pub_out hnS];exact h2 o
  ·rcases he.mine b (hmine b hb)with h1|h1
   ·exact .inl (Gh.up_mine.1 h1)
   ·exact .inr h1
  ·rcases he.mv (l+1) s b e with⟨i,t,hi,h1⟩|h1
   ·cases i with
    |zero=>cases h1
    |succ i=>exact .inl ⟨i,t,by omega,h1⟩
   ·exact .inr h1
 exact⟨v,hrun,_,y,v,m',rfl,hR,hv2,hout,hext,hml⟩

theorem Uk {k:FuncId} {fn:Func} {c:Code} {rc:RC} {rs:List RR} {args:List AV} {m:Qo} {R:AV→Qo→Prop} (hf:P.funcs[k]? = some fn) (hb:fn.body=some c) (hn:(fn.name == "runtime.NumGoroutine")=false) (hN:fn.ntmps=N) (hc:Zh P N rc c=true) (hr:JN P fn.results.toList rs=true)
  (ha:args.length≤N) (h:QG P rc (St.enter args m) (ZK rs m.length R)):Qg P k args m R:=by
 refine⟨⟨fn,hf,hn,by rw[hb];rfl⟩,fun G w vs hvs hm=>?_⟩;refine calls_of_wp hf hb ?_;refine Qbc h hc (Mi hvs hm hN ha) fun e G' st' a' w' hq hr' he=>?_
 obtain⟨hex,hds,x,y,fr,m',hx,hy,hst,hml,hR⟩:=hq;have hdef:a'.defers=[]:=by
  have:=hr'.ds;rw[hds]at this;cases hd:a'.defers with
  |nil=>rfl
  |cons d l=>rw[hd]at this;cases this
 have hfin:=Eb (R:=R) hr hr' he hx hy hst hml hR;rcases hex with rfl|rfl
 ·exact⟨hdef,hfin⟩
 ·exact⟨hdef,hfin⟩

def Dv (P:Program)(k:FuncId)(args:List AV)(m:Qo)(R:AV→Qo→Prop):Prop :=
 YJ P k∧∀(G:Gh) (w:World) (vs:List Value),RepL G args vs→MR G m w→∀u,CallsD P k ⟨vs⟩ u w fun e u' w'=>u'=u∧∃G' x v m',e=.returned v∧R x m'∧Rep G' x v∧MR G' m' w'∧Ext 0 G w G' w'∧m'.length=m.length

end

def CK (P:Program)(k N:Nat)(rc:RC)(rs:List RR):Prop :=
 ∃fn c, P.funcs[k]? = some fn∧fn.body=some c∧(fn.name == "runtime.NumGoroutine")=false∧fn.ntmps=N∧Zh P N rc c=true∧JN P fn.results.toList rs=true
theorem CK.go {P:Program}{k N:Nat}{rc:RC}{rs:List RR}{args:List AV}{m:Qo}{R:AV→Qo→Prop}(h:CK P k N rc rs)(ha:args.length≤N)(w:QG P rc (St.enter args m) (ZK rs m.length R)):Qg P k args m R:=by
 obtain⟨fn,c,h1,h2,h3,h4,h5,h6⟩:=h;exact Uk h1 h2 h3 h4 h5 h6 ha w
theorem ck {P:Program} {k N:Nat} {fn:Func} {rc:RC} {rs:List RR} (hf:P.funcs[k]? = some fn) (hN:fn.ntmps=N) (h:(fn.body.isSome && !(fn.name == "runtime.NumGoroutine")&&Zh P N rc (fn.body.getD .skip)&&JN P fn.results.toList rs)=true):CK P k N rc rs := by
 simp only[QUL,QVk,Option.isSome_iff_exists]at h;obtain⟨⟨⟨⟨c,hc⟩,h1⟩,h2⟩,h3⟩:=h;rw[hc]at h2;exact⟨fn,c,hf,hc,h1,hN,h2,h3⟩
theorem CK.rl {P:Program}{k N:Nat}{rc:RC}{rs:List RR}{args:List AV}{R:AV→Prop}(h:CK P k N rc rs)(ha:args.length≤N)(w:QG P rc (St.enter args []) (ZK rs 0 fun x _=>R x)):WV P k args R:=h.go ha w
theorem CK.fn {P:Program}{k N:Nat}{rc:RC}{rs:List RR}{args:List AV}{v:AV}(h:CK P k N rc rs)(ha:args.length≤N)(w:QG P rc (St.enter args []) (ZK rs 0 fun x _=>x=v)):Qk P k args v:=h.go ha w

section
variable {P:Program}{f:Fr}{m:Qo}{ds:List DF}{K:St→Prop}{Q:Exit→St→Prop}{Qe:List Item}{d:Nat}

def Kc (P:Program)(b:RC)(Q:Exit→St→Prop):Exit→St→Prop:=Ks (fun st'=>QG P b st' Q) Q
def Kl (I:Nat→St→Prop)(n:Nat)(Q:Exit→St→Prop):Exit→St→Prop:=Ks (fun s=>∃k,k<n∧I k s) Q

theorem Yr {st:St}:QG P .skip st Q=Q .normal st:=id rfl
theorem QJG {st:St}:QG P .no st Q=False:=id rfl
theorem SK {st:St}:QG P .lab st Q=Q .normal st:=id rfl
theorem SL {st:St}:QG P .ret st Q=Q .ret st:=id rfl
theorem Mj {st:St}{i:Nat}:QG P (.exit i) st Q=Q (.exit i) st:=id rfl
theorem YM {st:St}:QG P (.reg Qe) st Q=QE P Qe st (Q .normal):=id rfl
theorem Mk {st:St}:QG P (.draw Qe) st Q=QE P Qe st (Q .normal):=id rfl
theorem YN {st:St}{a b:RC}:QG P (.seq a b) st Q=QG P a st (Kc P b Q):=id rfl
theorem NX {st:St}{i:Nat}{a:RC}:QG P (.block i a) st Q=QG P a st (Kb i Q):=id rfl
theorem NY {st:St}{a:RC}:QG P (.scope a) st Q=QG P a st (Kg Q):=id rfl
def Dw:AV→Bool
 |.bool b=>b
 |_=>false
def Ml:AV→Prop
 |.bool _=>True
 |_=>False
theorem Mm (b:Bool):Dw (.bool b)=b:=id rfl
theorem SM (b:Bool):Ml (.bool b)=True:=id rfl
def HC (P:Program)(v:AV)(a b:RC)(st:St)(Q:Exit→St→Prop):Prop:=Ml v∧(Dw v=true→QG P a st Q)∧(Dw v=false→QG P b st Q)
theorem YO {a b:RC}{st:St}:HC P (.bool true) a b st Q=QG P a st Q:=by simp[HC,Ml,Dw]
theorem Kv {a b:RC}{st:St}:HC P (.bool false) a b st Q=QG P b st Q:=by simp[HC,Ml,Dw]
theorem Xr {t:Bool}{a b:RC}{st:St}(h1:t=true→QG P a st Q)(h2:t=false→QG P b st Q):HC P (.bool t) a b st Q:=⟨trivial,h1,h2⟩
theorem KS {c:RA}{a b:RC}:QG P (.cond c a b) ⟨f,m,ds⟩ Q=HC P (c.ev f) a b ⟨f,m,ds⟩ Q:=by
 simp only[QG,HC];generalize c.ev f=v;cases v<;>simp[Dw,Ml]

theorem ZO {b:RC}{st:St}:Kc P b Q .normal st=QG P b st Q:=id rfl
theorem Mn {b:RC}{st:St}{i:Nat}:Kc P b Q (.exit i) st=Q (.exit i) st:=id rfl
theorem Mo {b:RC}{st:St}:Kc P b Q .ret st=Q .ret st:=id rfl
theorem Mp {st:St}{i:Nat}:Kb i Q .normal st=Q .normal st:=id rfl
theorem Gt {st:St}{i j:Nat}:Kb i Q (.exit j) st=if j=i then Q .normal st else Q (.exit j) st:=id rfl
theorem Mq {st:St}{i:Nat}:Kb i Q .ret st=Q .ret st:=id rfl
theorem Mr {st:St}:Kg Q .normal st=Q .normal st:=id rfl
theorem Ms {st:St}{j:Nat}:Kg Q (.exit j) st=Q (.exit j) st:=id rfl
theorem Mt {st:St}:Kg Q .ret st=Q .ret st:=id rfl
theorem Mu {I:Nat→St→Prop}{n:Nat}{st:St}:Kl I n Q .normal st = ∃k,k<n∧I k st:=id rfl
theorem Mv {I:Nat→St→Prop}{n:Nat}{st:St}{j:Nat}:Kl I n Q (.exit j) st=Q (.exit j) st:=id rfl
theorem Mw {I:Nat→St→Prop}{n:Nat}{st:St}:Kl I n Q .ret st=Q .ret st:=id rfl

theorem Qd {a:RC}{st:St}(I:Nat→St→Prop)(n:Nat)(h0:I n st)(h:∀n st',I n st'→QG P a st' (Kl I n Q)):QG P (.loop a) st Q:=⟨I,n,h0,h⟩

theorem J6 {st:St}:QE P [] st K=K st:=id rfl
def XC (x:Option AV):AV:=x.getD .top
def Zm (x:Option AV):Prop:=x.isSome=true
theorem ZP (x:AV):XC (some x)=x:=id rfl
theorem J7 (x:AV):Zm (some x)=True:=by simp[Zm]
theorem J8 {vo:VO}:QE P (⟨some d,.val vo,none⟩ :: Qe) ⟨f,m,ds⟩ K=(Zm (Qt f m vo)∧QE P Qe ⟨QI f d (XC (Qt f m vo)),m,ds⟩ K):=by
 simp only[QE,XZ,Uj,Qp];generalize Qt f m vo=v;cases v<;>simp[XC,Zm]

def mget (x:Option Qo):Qo:=x.getD []
def NZ (x:Option Qo):Prop:=x.isSome=true
theorem Qbd (x:Qo):mget (some x)=x:=id rfl
theorem QxH (x:Qo):NZ (some x)=True:=by simp[NZ]
theorem Ec {n:Nat}{p r:RA}:QE P (⟨none,.store n p r,none⟩ :: Qe) ⟨f,m,ds⟩ K=((r.ev f).cells.length=n∧(r.ev f).cells.all AV.leaf=true∧NZ (QX m (p.ev f) (r.ev f).cells)∧QE P Qe ⟨f,mget (QX m (p.ev f) (r.ev f).cells),ds⟩ K):=by
 simp only[QE,XZ,Uj,Qp];generalize QX m (p.ev f) (r.ev f).cells=v;cases v<;>simp[mget,NZ]
def RD (l s:Nat)(v:AV):Prop:=∃o,v=.ptr l s o
theorem Qbe (l s o:Nat):RD l s (.ptr l s o)=True:=eq_true ⟨o,rfl⟩
theorem RE {l s n:Nat}{p r:RA}:QE P (⟨none,.storev l s n p r,none⟩ :: Qe) ⟨f,m,ds⟩ K=(RD l s (p.ev f)∧(r.ev f).cells.length=n∧(r.ev f).cells.all AV.leaf=true∧NZ (QX m (p.ev f) (r.ev f).cells)∧QE P Qe ⟨f,mget (QX m (p.ev f) (r.ev f).cells),ds⟩ K):=by
 simp only[QE,XZ,Uj,Qp,RD];generalize QX m (p.ev f) (r.ev f).cells=v;cases v<;>simp[mget,NZ]
theorem RF {s:Nat}{z:List AV}:QE P (⟨some d,.allocN s z,none⟩ :: Qe) ⟨f,m,ds⟩ K=(XN m s=true∧QE P Qe ⟨QI f d (.ptr 0 s 0),Am.put m 0 s (.cells z),ds⟩ K):=id rfl
theorem Qbf {s:Nat}{r:RA}:QE P (⟨some d,.boxN s r,none⟩ :: Qe) ⟨f,m,ds⟩ K=(XN m s=true∧(r.ev f).cells.all AV.leaf=true∧QE P Qe ⟨QI f d (.ptr 0 s 0),Am.put m 0 s (.cells (r.ev f).cells),ds⟩ K):=id rfl

theorem QxI {sz len:Nat}{z:List AV}{ps:List (Nat×Nat×RA)}{y:List AV}(hy:fill f ps (XM z sz len)=some y)(h1:AV.rfL y=true)(h2:y.all AV.leaf=true):QE P (⟨some d,.bsl sz len z ps,none⟩ :: Qe) ⟨f,m,ds⟩ K=QE P Qe ⟨QI f d (.list (XW sz len (y.map nn0))),m,ds⟩ K:=by
 apply propext
 constructor
 ·rintro⟨y',h,_,_,k⟩;have h:fill f ps (XM z sz len)=some y':=h;rw[hy]at h;cases h;exact k
 ·intro k;exact⟨y,hy,h1,h2,k⟩
theorem Qbg {z:AV}{r:RA}{k:IntKind}{n:Int}(hr:r.ev f=.int k n):QE P (⟨some d,.bsl 1 1 [z] [(0,1,r)],none⟩ :: Qe) ⟨f,m,ds⟩ K=QE P Qe ⟨QI f d (.list [.int k n]),m,ds⟩ K:=by
 refine QxI (y:=[.int k n]) ?_ rfl rfl;simp[fill,hr,AV.cells,AV.leaf,XM,List.range_succ,splice]

theorem D0 {z:AV}{r:RA}{k:IntKind}{n:Int}(hr:r.ev f=.int k n)(h:QE P Qe ⟨QI f d (.list [.int k n]),m,ds⟩ K):QE P (⟨some d,.bsl 1 1 [z] [(0,1,r)],none⟩ :: Qe) ⟨f,m,ds⟩ K:=by
 rw[Qbg hr];exact h

theorem Dv.mono {k:FuncId}{args:List AV}{m:Qo}{R R':AV→Qo→Prop}(h:Dv P k args m R)(hr:∀x m',R x m'→R' x m'):Dv P k args m R' :=
 ⟨h.1,fun G w vs h1 h2 u c cs hu=>by
  obtain⟨e,u',w',fr,⟨h3,G',x,v,m',h4,h5,h6⟩,h7⟩:=h.2 G w vs h1 h2 u c cs hu;exact⟨e,u',w',fr,⟨h3,G',x,v,m',h4,hr _ _ h5,h6⟩,h7⟩⟩

theorem Zp {slot site sz:Nat}{a:RC}{fr:Nat→Ob}(h1:f slot=.nils)(h2:fr site=.none)(h:QG P a ⟨QI f slot (.vec 0 site 1 0 0 false),QI fr site (.vec 1 sz []) :: m,ds⟩ Q):QG P (.gho (.vec slot site sz) a) ⟨f,fr :: m,ds⟩ Q:=by
 refine⟨_,?_,h⟩;have e:Qf (fr :: m) 0 site=.none:=h2;simp[ZJ,h1,e,Qu,QD,Am.put]

theorem WY {fr:Nat→Ob}{site g sz n:Nat}{q:Bool}{xs:List AV}(hl:fr site=.vec g sz xs)(hn:n=xs.length):Xe (fr :: m) (.vec 0 site g 0 n q)=some xs:=by
 subst hn;simp[Xe,Am.Qf,hl]

theorem QO {sz bytes el:Nat}{s r:RA}{site g n:Nat}{fr:Nat→Ob}{xs ys:List AV}(hs:s.ev f=.vec 0 site g 0 n false)(hl:fr site=.vec g sz xs)(ht:XP site el=true)(hn:n=xs.length)(hr:r.ev f=.list ys)(hz:ys.all (fun e=>e.cells.length==sz)=true)(hm:n+ys.length≤maxLen)(hb:(n+ys.length)*bytes≤140737488355328)
  (h:QE P Qe ⟨QI f d (.vec 0 site (g+1) 0 (n+ys.length) false),QI fr site (.vec (g+1) sz (xs++ys)) :: m,ds⟩ K):QE P (⟨some d,.app sz bytes el s r,none⟩ :: Qe) ⟨f,fr :: m,ds⟩ K:=by
 refine⟨0,site,g,n,xs,ys,hs,hl,ht,by omega,?_,hz,hm,hb,?_⟩
 ·show Xe (fr :: m) (r.ev f)=some ys;rw[hr];rfl
 ·subst hn;rw[QVX];exact h

theorem Xx {k:Nat}{args:List RA}{ys:List AV}{v:AV}(hk:Qk P k ys v)(hy:AV.stillL false m (args.map (RA.ev f))=some ys)(h1:AV.rfL ys=true)(h2:v.rf=true)(h3:AV.rfL (args.map (RA.ev f))=true∨v.nl=true)(h:QE P Qe ⟨QI f d v,m,ds⟩ K) :
  QE P (⟨some d,.call (.f k) args,none⟩ :: Qe) ⟨f,m,ds⟩ K:=by
 refine⟨k,[],[],ys,v,rfl,?_,h1,hk,h2,?_,h⟩
 ·simpa using hy
 ·simpa using h3

theorem aC {k:Nat}{args:List RA}{ys:List AV}{v:AV}(hk:Qk P k ys v)(h:QE P Qe ⟨QI f d v,m,ds⟩ K)(hy:AV.stillL false m (args.map (RA.ev f))=some ys:=by rfl)(h1:AV.rfL ys=true:=by rfl)(h2:v.rf=true:=by rfl)(h3:AV.rfL (args.map (RA.ev f))=true∨v.nl=true:=by exact .inl rfl) :
  QE P (⟨some d,.call (.f k) args,none⟩ :: Qe) ⟨f,m,ds⟩ K:=Xx hk hy h1 h2 h3 h

theorem N0 {cnt:Bool}{k:Nat}{s c:RA}{t:List UInt8}{b:Int}(hs:s.ev f=.str t)(hb:c.ev f=.int .u8 b)(h:QE P Qe ⟨QI f d (.int .i64 (Gl cnt t b)),m,ds⟩ K):QE P (⟨some d,.xb cnt k s c,none⟩ :: Qe) ⟨f,m,ds⟩ K :=
 ⟨t,b,hs,hb,h⟩

theorem Zi {k:Nat}{args:List RA}{ys:List AV}{R:AV→Prop}(hk:WV P k ys R)(hy:AV.stillL false m (args.map (RA.ev f))=some ys)(h1:AV.rfL ys=true)(h2:∀v,R v→v.rf=true∧(AV.rfL (args.map (RA.ev f))=true∨v.nl=true))(h:∀v,R v→QE P Qe ⟨QI f d v,m,ds⟩ K) :
  QE P (⟨some d,.callR (.f k) args,none⟩ :: Qe) ⟨f,m,ds⟩ K:=by
 refine⟨k,[],[],ys,R,rfl,?_,h1,hk,?_,h⟩
 ·simpa using hy
 ·simpa using h2

theorem D1 {s:Nat}{r:RA}{fr:Nat→Ob}{t:List UInt8}(ht:r.ev f=.str t)(hn:fr s=.none)(h:QE P Qe ⟨QI f d (.ptr 0 s 0),QI fr s (.iter (.str t) 0) :: m,ds⟩ K) :
  QE P (⟨some d,.rngs s r,none⟩ :: Qe) ⟨f,fr :: m,ds⟩ K:=by
 refine⟨t,ht,?_,h⟩;show(match fr s with|.none=>true|_=>false)=true;rw[hn]

theorem D2 {s p:Nat}{r:RA}{fr:Nat→Ob}{t:List UInt8}(hr:r.ev f=.ptr 0 s 0)(hl:fr s=.iter (.str t) p)
  (h1:p<t.length→QE P Qe ⟨QI f d (.tup [.bool true,.int .i64 (p:Nat),.int .i32 ((Xp t p).1:Nat)]),QI fr s (.iter (.str t) (p+(Xp t p).2)) :: m,ds⟩ K)
  (h2:t.length≤p→QE P Qe ⟨QI f d (.tup [.bool false]),fr :: m,ds⟩ K) :
  QE P (⟨some d,.nxts r,none⟩ :: Qe) ⟨f,fr :: m,ds⟩ K :=
 ⟨0,s,t,p,hr,hl,h1,h2⟩

theorem Qj {k:Nat}{args:List RA}{ys:List AV}{v:AV}{m':Qo}(hk:Qg P k ys m fun x m1=>x=v∧m1=m')(hy:args.map (RA.ev f)=ys)(h:QE P Qe ⟨QI f d v,m',ds⟩ K) :
  QE P (⟨some d,.callF (.f k) args,none⟩ :: Qe) ⟨f,m,ds⟩ K:=by
 refine⟨k,[],[],v,m',rfl,?_,h⟩;show Qg P k (args.map (RA.ev f)++[]) m fun x m1=>x=v∧m1=m'
 rw[QVp,hy];exact hk

theorem U3 {site el sz bytes:Nat}{z:List AV}{l c:RA}{kl kc:IntKind}{n k:Nat}{fr:Nat→Ob}(hl:l.ev f=.int kl (n:Int))(hc:c.ev f=.int kc (k:Int))(hnk:n≤k)(hk:k≤9223372036854775807)(hb:bytes*k≤281474976710656)(hs:fr site=.none)
  (h:QE P Qe ⟨QI f d (.vec 0 site 1 0 n false),QI fr site (.vec 1 sz (List.replicate n (JM sz z))) :: m,ds⟩ K):QE P (⟨some d,.mk site el sz bytes z l c,none⟩ :: Qe) ⟨f,fr :: m,ds⟩ K:=by
 have e:Qf (fr :: m) 0 site=.none:=hs;refine⟨kl,kc,n,k,hl,hc,hnk,hk,hb,?_,?_⟩
 ·show Qu (Qf (fr :: m) 0 site)=true;rw[e];rfl
 ·have hg:QD (fr :: m) 0 site=1:=by unfold QD;rw[e]
  simp only[hg];exact h

theorem Uy {el:Nat}{s r:RA}{l site g n:Nat}{xs:List AV}{t:List UInt8}(hs:s.ev f=.vec l site g 0 n false)(hl:Qf m l site=.vec g 1 xs)(ht:XP site el=true)(hn:n=xs.length)(hr:r.ev f=.str t)(hm:n+t.length≤140737488355328)
  (h:QE P Qe ⟨QI f d (.vec l site (g+1) 0 (n+t.length) false),Am.put m l site (.vec (g+1) 1 (xs++QA t)),ds⟩ K):QE P (⟨some d,.appS el s r,none⟩ :: Qe) ⟨f,m,ds⟩ K:=by
 subst hn;refine⟨l,site,g,_,xs,t,hs,hl,ht,QUm _,hr,hm,?_⟩;rw[QVX];exact h

theorem Mx {s:Nat}{a:RC}{fr:Nat→Ob}:QG P (.gho (.drop s) a) ⟨f,fr :: m,ds⟩ Q=((fr s).isRow=false∧QG P a ⟨fun i=>(f i).scrub s,QI (fun i=>(fr i).scrub s) s .none :: m,ds.map (DF.scrub s)⟩ Q):=by
 apply propext
 have hn:YG (fr :: m) s=!(fr s).isRow:=by
  unfold YG;show(match fr s with|.vec .. => false|_=>true)=_;cases fr s<;>rfl
 constructor
 ·rintro⟨st',h1,h2⟩;simp only[ZJ,hn]at h1;cases hr:(fr s).isRow with
  |true=>rw[hr]at h1;cases h1
  |false=>rw[hr]at h1;cases h1;exact⟨rfl,h2⟩
 ·rintro⟨h1,h2⟩;refine⟨_,?_,h2⟩;simp only[ZJ,hn,h1];rfl
theorem My (s:Nat):AV.top.scrub s=.top:=id rfl
theorem Mz (s:Nat)(k:IntKind)(n:Int):(AV.int k n).scrub s=.int k n:=id rfl
theorem V6 (s:Nat)(b:Bool):(AV.bool b).scrub s=.bool b:=id rfl
theorem MA (s:Nat)(b:List UInt8):(AV.str b).scrub s=.str b:=id rfl
theorem V7 (s:Nat):AV.nils.scrub s=.nils:=id rfl
theorem V8 (s:Nat):AV.nilp.scrub s=.nilp:=id rfl
theorem V9 (s:Nat):AV.nili.scrub s=.nili:=id rfl
theorem Ca (s:Nat):AV.nilf.scrub s=.nilf:=id rfl
theorem Cb (s:Nat)(l:List AV):(AV.list l).scrub s=.list l:=id rfl
theorem MB (s l t g o n:Nat)(q:Bool):(AV.vec l t g o n q).scrub s=.vec l t g o n q:=id rfl
theorem MD (s:Nat)(l:List AV):(AV.agg l).scrub s=.agg (AV.scrubL s l):=id rfl
theorem ME (s:Nat)(l:List AV):(AV.tup l).scrub s=.tup (AV.scrubL s l):=id rfl
theorem MF (s t o:Nat):(AV.ptr 0 t o).scrub s=bif Nat.beq t s then .top else .ptr 0 t o:=id rfl
theorem Cc (s l t o:Nat):(AV.ptr (l+1) t o).scrub s=.ptr (l+1) t o:=id rfl
theorem MG (s:Nat):AV.scrubL s []=[]:=id rfl
theorem Cd (s:Nat)(x:AV)(l:List AV):AV.scrubL s (x :: l)=x.scrub s :: AV.scrubL s l:=id rfl
theorem NM (s:Nat)(l:List AV):(Ob.cells l).scrub s=.cells (AV.scrubL s l):=id rfl
theorem MH (s g z:Nat)(l:List AV):(Ob.vec g z l).scrub s=.vec g z l:=id rfl
theorem Ce (s:Nat):Ob.none.scrub s=.none:=id rfl
theorem Ho (s:Nat)(o:Ob):(o.scrub s).isRow=o.isRow:=by cases o<;>rfl
theorem NN (l:List AV):(Ob.cells l).isRow=false:=id rfl
theorem Cf:Ob.none.isRow=false:=id rfl

def ZQ (P:Program)(v:AV)(w:Bool)(d:Option Nat)(ro:RO)(Qe:List Item)(st:St)(K:St→Prop):Prop :=
 match v with
 |.bool b=>(b=w→QE P (⟨d,ro,none⟩ :: Qe) st K)∧(b=(!w)→QE P Qe { st with f:=Qp st.f d (.tup []) } K)
 |.tup l=>l=[]∧QE P Qe { st with f:=Qp st.f d (.tup []) } K
 |_=>False
theorem X3 {b:Bool}{d:Option Nat}{ro:RO}{st:St}(h1:b=true→QE P (⟨d,ro,none⟩ :: Qe) st K)(h2:b=false→QE P Qe { st with f:=Qp st.f d (.tup []) } K):ZQ P (.bool b) true d ro Qe st K:=⟨h1,h2⟩
theorem X4 {b:Bool}{d:Option Nat}{ro:RO}{st:St}(h1:b=false→QE P (⟨d,ro,none⟩ :: Qe) st K)(h2:b=true→QE P Qe { st with f:=Qp st.f d (.tup []) } K):ZQ P (.bool b) false d ro Qe st K:=⟨h1,h2⟩
theorem Kw {d:Option Nat}{ro:RO}{st:St}:ZQ P (.bool true) true d ro Qe st K=QE P (⟨d,ro,none⟩ :: Qe) st K:=by simp[ZQ]
theorem F6 {d:Option Nat}{ro:RO}{st:St}:ZQ P (.bool false) false d ro Qe st K=QE P (⟨d,ro,none⟩ :: Qe) st K:=by simp[ZQ]
theorem D3 {ro:RO}:ZQ P (.bool true) false (some d) ro Qe ⟨f,m,ds⟩ K=QE P Qe ⟨QI f d (.tup []),m,ds⟩ K:=by simp[ZQ,Qp]
theorem WZ {ro:RO}:ZQ P (.bool false) true (some d) ro Qe ⟨f,m,ds⟩ K=QE P Qe ⟨QI f d (.tup []),m,ds⟩ K:=by simp[ZQ,Qp]
theorem F7 {ro:RO}{w:Bool}:ZQ P (.tup []) w (some d) ro Qe ⟨f,m,ds⟩ K=QE P Qe ⟨QI f d (.tup []),m,ds⟩ K:=by simp[ZQ,Qp]
theorem Gu {ro:RO}{st:St}:ZQ P (.bool true) false none ro Qe st K=QE P Qe st K:=by simp[ZQ,Qp]
theorem Gv {ro:RO}{st:St}:ZQ P (.bool false) true none ro Qe st K=QE P Qe st K:=by simp[ZQ,Qp]
theorem D4 {ro:RO}{w:Bool}{st:St}:ZQ P (.tup []) w none ro Qe st K=QE P Qe st K:=by simp[ZQ,Qp]
theorem Hp {ro:RO}{j:Nat}{w:Bool}{d:Option Nat}:QE P (⟨d,ro,some (j,w)⟩ :: Qe) ⟨f,m,ds⟩ K=ZQ P (f j) w d ro Qe ⟨f,m,ds⟩ K:=by
 simp only[QE,XZ,ZQ]
 all_goals(generalize f j=v;cases v<;>rfl)

theorem F8 {rs:List RR}{n:Nat}{R:AV→Qo→Prop}{fr:Nat→Ob}:ZK rs n R .ret ⟨f,fr :: m,ds⟩=(ds=[]∧Zm (Kr ⟨f,fr :: m,ds⟩ rs)∧Zm (Wa (fr :: m) (XC (Kr ⟨f,fr :: m,ds⟩ rs)))∧m.length=n∧R (XC (Wa (fr :: m) (XC (Kr ⟨f,fr :: m,ds⟩ rs)))) m):=by
 apply propext
 constructor
 ·rintro⟨_,h1,x,y,fr',m',h2,h3,h4,h5,h6⟩;cases h4;have h1:ds=[]:=h1;rw[h2,ZP,h3];exact⟨h1,rfl,rfl,h5,h6⟩
 ·rintro⟨h1,h2,h3,h4,h5⟩;generalize hv:Kr ⟨f,fr :: m,ds⟩ rs=v at h2 h3 h5;cases v with
  |none=>cases h2
  |some x=>
   rw[ZP]at h3 h5;cases hl:Wa (fr :: m) x with
   |none=>rw[hl]at h3;cases h3
   |some y=>
    rw[hl]at h5;exact⟨.inr rfl,h1,x,y,fr,m,hv,hl,rfl,h4,h5⟩
theorem F9 {rs:List RR}{n:Nat}{R:AV→Qo→Prop}{st:St}:ZK rs n R .normal st=ZK rs n R .ret st:=by
 simp[ZK]

theorem J9 {α:Type}(f:Nat→α)(d:Nat)(x:α)(i:Nat):QI f d x i=bif Nat.beq i d then x else f i:=id rfl
theorem Jm (a b:Nat):Nat.beq a b=(a==b):=by
 cases h:Nat.beq a b with
 |true=>rw[QUj h];simp
 |false=>have:=Nat.ne_of_beq_eq_false h;simp[this]
theorem JP {s idx site sz:Nat}{a:RC}{fr:Nat→Ob}{xs:List AV}(h1:fr s=.cells xs)(h2:xs[idx]? = some .nils)(h3:fr site=.none)(hne:Nat.beq site s=false)(h:QG P a ⟨f,QI (QI fr site (.vec 1 sz [])) s (.cells (xs.set idx (.vec 0 site 1 0 0 false))) :: m,ds⟩ Q):QG P (.gho (.vecc s idx site sz) a) ⟨f,fr :: m,ds⟩ Q:=by
 refine⟨_,?_,h⟩;have e1:Qf (fr :: m) 0 s=.cells xs:=h1;have e:Qf (fr :: m) 0 site=.none:=h3;simp[ZJ,e1,h2,e,Qu,QD,Am.put,hne]
theorem Dx {α:Type}(f:Nat→α)(d:Nat)(x y:α):QI (QI f d x) d y=QI f d y:=by
 funext i;by_cases h:i=d
 ·subst h;rw[QS,QS]
 ·rw[QR _ _ h,QR _ _ h,QR _ _ h]
theorem Ba {α:Type}(f:Nat→α)(d e:Nat)(x y:α)(hde:d≠e):QI (QI f d x) e y=QI (QI f e y) d x:=by
 funext i;by_cases h:i=d
 ·subst h;rw[QS,QR _ _ hde,QS]
 ·by_cases h2:i=e
  ·subst h2;rw[QS,QR _ _ h,QS]
  ·rw[QR _ _ h2,QR _ _ h,QR _ _ h,QR _ _ h2]
theorem Ed {α:Type}(f:Nat→α)(d:Nat)(x:α)(h:f d=x):QI f d x=f:=by
 funext i;by_cases hi:i=d
 ·subst hi;rw[QS,h]
 ·rw[QR _ _ hi]
theorem Uz (n:Nat):(RA.t n).ev f=f n:=id rfl
theorem D5 (x:AV):(RA.c x).ev f=x:=id rfl
theorem e_f (k:Nat):(RA.f k).ev f=.fn (.func k) [] []:=id rfl

end

end Go.Proofs.YtdhlbgejhcejcaaGreatDoor.Am

namespace Go.Proofs.YtdhlbgejhcejcaaGreatDoor.Br
open Go Am Go.RowKit Go.WideShapes Go.ChangeShapes Go.ChangeAt

theorem Bb {P:Program}{k:FuncId}{args:List AV}{v:Bool}(h:Qk P k args (.bool v)){stab:Nat→Nat→Option SV}{w:World}(hs:∀b o u,stab b o=some u→rd w b o u){vs:List Value}(hr:RepL (Gh.bare stab) args vs) :
  Calls P k ⟨vs⟩ w fun e w'=>e=.returned (.bool v)∧Below w.heap.size w w' :=
 (h.2 (Gh.bare stab) w vs hr (MR.bare hs)).mono fun e w' ⟨G',x,u,m',he,hx,hu,_,hex,_⟩=>by
  subst hx;cases hu;exact⟨he,hex.os,hex.tape,hex.output,hex.size,fun b hb=>(hex.old b hb Gh.bare_mine).1⟩

theorem Qbh {n:Int}(h:(Lit.int .i64 n).wf=true) : -9223372036854775808≤n:=by
 simp[Lit.wf,IntKind.min,IntKind.max,IntKind.bits,IntKind.signed]at h;omega
theorem Qbi {n:Int}(h:(Lit.int .i64 n).wf=true):n<9223372036854775808:=by
 simp[Lit.wf,IntKind.min,IntKind.max,IntKind.bits,IntKind.signed]at h;omega
theorem Bc {n:Int}(h:(Lit.int .u64 n).wf=true):0≤n:=by
 simp[Lit.wf,IntKind.min,IntKind.max,IntKind.bits,IntKind.signed]at h;omega
theorem Gw {n:Int}(h:(Lit.int .u64 n).wf=true):n<18446744073709551616:=by
 simp[Lit.wf,IntKind.min,IntKind.max,IntKind.bits,IntKind.signed]at h;omega

section
variable {H:Type}{enc:TypeId×Value→H}{P:Program}
theorem FD {f:Func}{s:ChangeSpec}{U1 fresh handsOn again:Bool}{W W':World}{args:Array Value}{v:Value}{ds gs:List (DataW H)}{before pa pv:List MemPlace}
  (hW:DataW.Whole enc P f.params.toList s.vars U1 W args.toList ds gs before)
  (hres:∀(b:Nat) (sp:Nat→Bool) (hd:Bool),DataW.TrodAll enc P W' b sp hd f.resultTypes.toList (v.resultList f.resultTypes.size) (s.fn H (ds++gs)).results [])
  (hargs:∀sp:Nat→Bool,(∀p∈before,sp p.block=true)→DataW.TrodAll enc P W' 0 sp true f.params.toList args.toList (s.fn H (ds++gs)).args pa)
  (hvars:∀sp:Nat→Bool,(∀p∈before,sp p.block=true)→DataW.TrodVars enc P W' sp s.vars (s.fn H (ds++gs)).vars pv)
  (hps:before=pa++pv) (hb:Below W.heap.size W W')
  (hok:∀(j:Nat) (t:TypeId) (r:Value),f.resultTypes[j]? = some t→(v.resultList f.resultTypes.size)[j]? = some r→Value.okWide P W' .any 0 t r) :
  s.post enc P f U1 fresh handsOn again W args v W':=by
 have hlt:∀p∈before,p.block<W.heap.size:=fun p hp=>hW.lt p hp
 have hold:∀p∈before,(fun b=>decide (b<W.heap.size)) p.block=true:=fun p hp=>by simpa using hlt p hp
 refine⟨ds,gs,before,[],pa,pv,hW,hres _ _ _,hargs _ hold,hvars _ hold,World.keptBut_mono (fun p hp=>⟨hp,?_⟩) (hb.frame (·∈before)),fun _=>?_⟩
 ·rw[hps,QVE]at hp;exact Or.inr hp
 ·obtain⟨_,_,_,_,_,hz,hn⟩:=hW;refine⟨hok,_,_,([]++pa)++pv,⟨[]++pa,pv,trodAll_append (hargs _ (fun _ _=>rfl)) (hres _ _ _),hvars _ (fun _ _=>rfl),rfl,?_,?_⟩,?_⟩
  ·intro b off hp;have hin:MemPlace.cell b off∈before:=by rw[hps];simpa using hp
   rw[hb.frozen (hlt _ hin)];exact hz b off hin
  ·intro ha;have:=hn ha;rw[hps]at this
   simpa using this
  ·intro p hp _;rw[hps]
   simpa using hp
end

end Go.Proofs.YtdhlbgejhcejcaaGreatDoor.Br

namespace Go.Proofs.YtdhlbgejhcejcaaGreatDoor.Am
open Go

variable {P:Program}{f:Fr}{m:Qo}{ds:List DF}{Qe:List Item}{d:Nat}

theorem N1 {Q:Exit→St→Prop}{a:RC}{slot site g sz n:Nat}{fr:Nat→Ob}{xs:List AV}(h1:f slot=.vec 0 site g 0 n false)(h2:fr site=.vec g sz xs)(hn:n≤xs.length)
  (h:QG P a ⟨QI f slot (.list (xs.take n)),QI fr site (.vec (g+1) sz []) :: m,ds⟩ Q):QG P (.gho (.pub slot site) a) ⟨f,fr :: m,ds⟩ Q:=by
 refine⟨_,?_,h⟩;have e:Qf (fr :: m) 0 site=.vec g sz xs:=h2;simp only[ZJ,h1,e];rw[show Nat.beq site site=true from Nat.beq_refl site,show Nat.beq g g=true from Nat.beq_refl g,show Nat.ble (0+n) xs.length=true from Nat.ble_eq_true_of_le (by omega)];rfl

def FG:List Nat→RC→RC
 | [],a=>a
 |s :: l,a=>.gho (.drop s) (FG l a)
def Cg:List Nat→AV→AV
 | [],x=>x
 |s :: l,x=>Cg l (x.scrub s)
def Gx:List Nat→Ob→Ob
 | [],x=>x
 |s :: l,x=>Gx l (x.scrub s)

theorem Ch (l:List Nat):Gx l .none=.none:=by
 induction l with
 |nil=>rfl
 |cons s l ih=>exact ih

theorem QK {Q:Exit→St→Prop}{a:RC}(l:List Nat):∀ {f:Fr} {fr:Nat→Ob},(∀s∈l,(fr s).isRow=false)→
  (∀f' fr',(∀i,f' i=Cg l (f i))→(∀i,i∉l→fr' i=Gx l (fr i))→(∀i∈l,fr' i=.none)→QG P a ⟨f',fr' :: m,[]⟩ Q)→QG P (FG l a) ⟨f,fr :: m,[]⟩ Q:=by
 induction l with
 |nil=>intro f fr _ h;exact h f fr (fun _=>rfl) (fun _ _=>rfl) (fun _ h=>by cases h)
 |cons s l ih=>
  intro f fr hr h;show QG P (.gho (.drop s) (FG l a)) _ _;rw[Mx];refine⟨hr s (by simp),?_⟩;show QG P (FG l a) ⟨_,_ :: m,[]⟩ Q;refine ih ?_ ?_
  ·intro t ht;by_cases e:t=s
   ·subst e;rw[QS];rfl
   ·rw[QR _ _ e,Ho];exact hr t (by simp[ht])
  ·intro f' fr' h1 h2 h3;refine h f' fr' h1 ?_ ?_
   ·intro i hi;rw[h2 i (fun h=>hi (QUD _ h)),QR _ _ (fun e=>hi (by rw[e];exact QUF))];rfl
   ·intro i hi;by_cases hl:i∈l
    ·exact h3 i hl
    ·have e:i=s:=by
      rcases QVI.1 hi with e|e
      ·exact e
      ·exact absurd e hl
     rw[h2 i hl,e,QS,Ch]

def Xn:Ob→Nat
 |.vec g _ _=>g+1
 |_=>1

theorem Jn {fr:Nat→Ob}{s:Nat}:QD (fr :: m) 0 s=Xn (fr s):=by
 unfold QD Xn;rfl

theorem Z3 {K:St→Prop}{neg:Bool}{r:RA}{ys:List AV}(hr:r.ev f=.list ys)(h0:QE P Qe ⟨QI f d (.bool neg),m,ds⟩ K)(h1:ys=[]∨QP ys=[]→QE P Qe ⟨QI f d (.bool (!neg)),m,ds⟩ K):QE P (⟨some d,.isnil neg r,none⟩ :: Qe) ⟨f,m,ds⟩ K:=by
 refine⟨ys,?_,fun _=>h0,fun e=>h1 ?_⟩
 ·show Xe m (r.ev f)=some ys;rw[hr];rfl
 ·rcases e with e|e
  ·have e:r.ev f=.nils:=e;rw[hr]at e;cases e
  ·exact .inr e

theorem ZC {K:St→Prop}{site sz:Nat}{fr:Nat→Ob}(hs:Qu (fr site)=true)
  (h:QE P Qe ⟨QI f d (.vec 0 site (Xn (fr site)) 0 0 false),QI fr site (.vec (Xn (fr site)) sz []) :: m,ds⟩ K):QE P (⟨some d,.bsl0 site sz,none⟩ :: Qe) ⟨f,fr :: m,ds⟩ K :=
 ⟨hs,h⟩

theorem D6 {K:St→Prop}{site sz len:Nat}{z:List AV}{ps:List (Nat×Nat×RA)}{fr:Nat→Ob}{y:List AV}(hy:fill f ps (XM z sz len)=some y)(h1:AV.rfL y=true)(h2:y.all AV.leaf=true)(hs:Qu (fr site)=true)
  (h:QE P Qe ⟨QI f d (.vec 0 site (Xn (fr site)) 0 len false),QI fr site (.vec (Xn (fr site)) sz (XW sz len (y.map nn0))) :: m,ds⟩ K):QE P (⟨some d,.bslv site sz len z ps,none⟩ :: Qe) ⟨f,fr :: m,ds⟩ K :=
 ⟨y,hy,h1,h2,hs,h⟩

theorem Gy {K:St→Prop}{site sz:Nat}{z l:List AV}{r:RA}{fr:Nat→Ob}(hr:r.ev f=.agg l)(hl:l.length=sz)(h1:sz≠1)(hf:AV.rfL l=true)(hlf:l.all AV.leaf=true)(hs:Qu (fr site)=true)
  (h:QE P Qe ⟨QI f d (.vec 0 site (Xn (fr site)) 0 1 false),QI fr site (.vec (Xn (fr site)) sz [.agg (l.map nn0)]) :: m,ds⟩ K):QE P (⟨some d,.bslv site sz 1 z [(0,sz,r)],none⟩ :: Qe) ⟨f,fr :: m,ds⟩ K:=by
 have hz:(XM z sz 1).length=sz:=by simp[XM]
 have hy:fill f [(0,sz,r)] (XM z sz 1)=some l:=by
  simp only[fill,hr,AV.cells,hl,hlf,QU3,hz,QUm,and_self,if_true,splice,QVu,QUK];rw[QUY (by omega),QVp]
 have hc:XW sz 1 (l.map nn0)=[.agg (l.map nn0)]:=by
  simp only[XW,QUB h1];rw[QUV (by rw[QVh];omega)]
 refine D6 hy hf hlf hs ?_;rw[hc];exact h

theorem XQ {Q:Exit→St→Prop}{a:RC}{slot site l S g sz o n:Nat}{q:Bool}{fr:Nat→Ob}{xs:List AV}(h1:f slot=.vec 0 site g o n q)(h2:fr site=.vec g sz xs)(hl:l<m.length)(hS:S<2000)(hr:Qu (Qf m l S)=true)
  (h:QG P a ⟨QI f slot (.vec (l+1) S (QD m l S) o n q),QI fr site (.vec (g+1) sz []) :: Am.put m l S (.vec (QD m l S) sz xs),ds⟩ Q):QG P (.gho (.give slot site (l+1) S) a) ⟨f,fr :: m,ds⟩ Q:=by
 refine⟨_,?_,h⟩;have e:Qf (fr :: m) 0 site=.vec g sz xs:=h2;have e1:Qu (Qf (fr :: m) (l+1) S)=true:=hr;have e2:QD (fr :: m) (l+1) S=QD m l S:=rfl;simp only[ZJ,h1,e,e1,e2];rw[show Nat.beq site site=true from Nat.beq_refl site,show Nat.beq g g=true from Nat.beq_refl g,show Nat.blt (l+1) (fr :: m).length=true from Nat.ble_eq_true_of_le (by simp;omega),show Nat.blt S 2000=true from Nat.ble_eq_true_of_le hS];rfl

theorem Bd {Q:Exit→St→Prop}{a:RC}{slot:Nat}(h1:f slot=.nils)(h:QG P a ⟨QI f slot (.list []),m,ds⟩ Q):QG P (.gho (.lst slot) a) ⟨f,m,ds⟩ Q:=by
 refine⟨_,?_,h⟩;simp only[ZJ,h1]

theorem Xf {K:St→Prop}{k:Nat}{r:RA}{args:List RA}{fa fb ys:List AV}{v:AV}{m':Qo}(hr:r.ev f=.fn (.func k) fa fb)(hk:Qg P k ys m fun x m1=>x=v∧m1=m')(hy:fa++args.map (RA.ev f)++fb=ys)(h:QE P Qe ⟨QI f d v,m',ds⟩ K) :
  QE P (⟨some d,.callF r args,none⟩ :: Qe) ⟨f,m,ds⟩ K:=by
 refine⟨k,fa,fb,v,m',hr,?_,h⟩;show Qg P k (fa++args.map (RA.ev f)++fb) m fun x m1=>x=v∧m1=m'
 rw[hy];exact hk

theorem Ka {K:St→Prop}{k:Nat}{r:RA}{args:List RA}{fa fb ys:List AV}{v:AV}(hr:r.ev f=.fn (.func k) fa fb)(hk:Qk P k ys v)(hy:AV.stillL false m (fa++args.map (RA.ev f)++fb)=some ys)(h1:AV.rfL ys=true)(h2:v.rf=true)
  (h3:AV.rfL (fa++args.map (RA.ev f)++fb)=true∨v.nl=true) (h:QE P Qe ⟨QI f d v,m,ds⟩ K):QE P (⟨some d,.call r args,none⟩ :: Qe) ⟨f,m,ds⟩ K :=
 ⟨k,fa,fb,ys,v,hr,hy,h1,hk,h2,h3,h⟩

end Go.Proofs.YtdhlbgejhcejcaaGreatDoor.Am

namespace Go.Proofs.YtdhlbgejhcejcaaGreatDoor.Am
open Go

abbrev Be:=FuncId→Option (RC×List RR×Nat)

def Gz (P:Program)(T:Be):Prop :=
 ∀k c rs N, T k=some (c, rs, N)→∃fn body, P.funcs[k]? = some fn∧fn.body=some body∧(fn.name == "runtime.NumGoroutine")=false∧fn.ntmps=N∧Zh P N c body=true∧JN P fn.results.toList rs=true

abbrev K3:=FuncId→List AV→Qo→Option (AV×Qo)

def GA:Ob→Ob→Bool
 |.cells [.vec l s g o n q],.cells [.vec l' s' g' o' n' q']=>Nat.beq l l'&&Nat.beq s s'&&Nat.beq g g'&&Nat.beq o o'&&Nat.beq n n'&&q==q'
 |_,_=>false
theorem MI:∀ {a b:Ob},GA a b=true→a=b:=by
 intro a b h;unfold GA at h;split at h
 ·simp only[QUL,QUt]at h;obtain⟨⟨⟨⟨⟨h1,h2⟩,h3⟩,h4⟩,h5⟩,h6⟩:=h;rw[QUj h1,QUj h2,QUj h3,QUj h4,QUj h5,h6]
 ·cases h

def XI (call:K3)(d:Option Nat)(op:RO)(st:St):Option St :=
 match op with
 |.val vo=>match Qt st.f st.m vo with
  |some x=>some { st with f:=Qp st.f d x }
  |none=>none
 |.allocN s z=>bif XN st.m s then some { st with m:=Am.put st.m 0 s (.cells z),f:=Qp st.f d (.ptr 0 s 0) } else none
 |.boxN s r=>bif XN st.m s&&(r.ev st.f).cells.all AV.leaf then some { st with m:=Am.put st.m 0 s (.cells (r.ev st.f).cells),f:=Qp st.f d (.ptr 0 s 0) } else none
 |.store n p r=>bif Nat.beq (r.ev st.f).cells.length n&&(r.ev st.f).cells.all AV.leaf then match QX st.m (p.ev st.f) (r.ev st.f).cells with
   |some m'=>some { st with m:=m',f:=Qp st.f d (.tup []) }
   |none=>none
  else none
 |.storev l s n p r=>match p.ev st.f with
  |.ptr l' s' _=>bif Nat.beq l' l&&Nat.beq s' s&&Nat.beq (r.ev st.f).cells.length n&&(r.ev st.f).cells.all AV.leaf then match QX st.m (p.ev st.f) (r.ev st.f).cells with
    |some m'=>some { st with m:=m',f:=Qp st.f d (.tup []) }
    |none=>none
   else none
  |_=>none
 |.app sz bytes el s r=>match s.ev st.f with
  |.vec l site g 0 n false=>match Qf st.m l site with
   |.vec g' sz' xs=>match Xe st.m (r.ev st.f)with
    |some ys=>bif Nat.beq g' g&&Nat.beq sz' sz&&XP site el&&Nat.ble n xs.length&&ys.all (fun e=>e.cells.length==sz)&&Nat.ble (n+ys.length) maxLen&&Nat.ble ((n+ys.length)*bytes) 140737488355328 then
      some { st with m:=Am.put st.m l site (.vec (g+1) sz (xs.take n++ys)),f:=Qp st.f d (.vec l site (g+1) 0 (n+ys.length) false) }
     else none
    |none=>none
   |_=>none
  |_=>none
 |.call f args=>match f.ev st.f with
  |.fn (.func k) fa fb=>match AV.stillL false st.m (fa++args.map (RA.ev st.f)++fb)with
   |some ys=>bif AV.rfL ys then match call k ys []with
     |some (v,_)=>bif v.rf&&(AV.rfL (fa++args.map (RA.ev st.f)++fb)||v.nl)then some { st with f:=Qp st.f d v } else none
     |none=>none
    else none
   |none=>none
  |_=>none
 |.callF f args=>match f.ev st.f with
  |.fn (.func k) fa fb=>match call k (fa++args.map (RA.ev st.f)++fb) st.m with
   |some (v,m')=>some { st with m:=m',f:=Qp st.f d v }
   |none=>none
  |_=>none
 |.bsl sz len z ps=>match fill st.f ps (XM z sz len)with
  |some y=>bif AV.rfL y&&y.all AV.leaf then some { st with f:=Qp st.f d (.list (XW sz len (y.map nn0))) } else none
  |none=>none
 |.bslv site sz len z ps=>match fill st.f ps (XM z sz len)with
  |some y=>bif AV.rfL y&&y.all AV.leaf&&Qu (Qf st.m 0 site)then some { st with m:=Am.put st.m 0 site (.vec (QD st.m 0 site) sz (XW sz len (y.map nn0))),f:=Qp st.f d (.vec 0 site (QD st.m 0 site) 0 len false) } else none
  |none=>none
 |.bsl0 site sz=>bif Qu (Qf st.m 0 site)then some { st with m:=Am.put st.m 0 site (.vec (QD st.m 0 site) sz []),f:=Qp st.f d (.vec 0 site (QD st.m 0 site) 0 0 false) } else none
 |.isnil neg r=>match r.ev st.f with
  |.nils=>some { st with f:=Qp st.f d (.bool (!neg)) }
  |.list l=>match QP l with
   |_ :: _=>some { st with f:=Qp st.f d (.bool neg) }
   | []=>none
  |_=>none
 |.callK l s f args=>match f.ev st.f with
  |.fn (.func k) fa fb=>match call k (fa++args.map (RA.ev st.f)++fb) st.m with
   |some (v,m')=>bif GA (Qf m' l s) (Qf st.m l s)then some { st with m:=m',f:=Qp st.f d v } else none
   |none=>none
  |_=>none
 |.xb cnt _ s c=>match s.ev st.f,c.ev st.f with
  |.str t,.int .u8 b=>some { st with f:=Qp st.f d (.int .i64 (Gl cnt t b)) }
  |_,_=>none
 |.callR f args=>match f.ev st.f with
  |.fn (.func k) fa fb=>match AV.stillL false st.m (fa++args.map (RA.ev st.f)++fb)with
   |some ys=>bif AV.rfL ys then match call k ys []with
     |some (v,_)=>bif v.rf&&(AV.rfL (fa++args.map (RA.ev st.f)++fb)||v.nl)then some { st with f:=Qp st.f d v } else none
     |none=>none
    else none
   |none=>none
  |_=>none
 |.rngs s r=>match r.ev st.f with
  |.str t=>bif XN st.m s then some { st with m:=Am.put st.m 0 s (.iter (.str t) 0),f:=Qp st.f d (.ptr 0 s 0) } else none
  |_=>none
 |.nxts r=>match r.ev st.f with
  |.ptr l s 0=>match Qf st.m l s with
   |.iter (.str t) p=>bif Nat.blt p t.length then some { st with m:=Am.put st.m l s (.iter (.str t) (p+(Xp t p).2)),f:=Qp st.f d (.tup [.bool true,.int .i64 (p:Nat),.int .i32 ((Xp t p).1:Nat)]) } else some { st with f:=Qp st.f d (.tup [.bool false]) }
   |_=>none
  |_=>none
 |.mkm s=>bif XN st.m s then some { st with m:=Am.put st.m 0 s (.iter (.mp [] []) 0),f:=Qp st.f d (.mptr 0 s) } else none
 |.mput x i v=>match x.ev st.f with
  |.mptr l s=>match Qf st.m l s with
   |.iter (.mp ks vs) p=>match i.ev st.f with
    |.str k=>bif (v.ev st.f).gr&&AV.grL vs&&Nat.beq ks.length vs.length then some { st with m:=Am.put st.m l s (.iter (.mp (X9 k (v.ev st.f) ks vs).1 (X9 k (v.ev st.f) ks vs).2) p),f:=Qp st.f d (.tup []) } else none
    |_=>none
   |_=>none
  |_=>none
 |.appS el s r=>match s.ev st.f,r.ev st.f with
  |.vec l site g 0 n false,.str t=>match Qf st.m l site with
   |.vec g' 1 xs=>bif Nat.beq g' g&&XP site el&&Nat.ble n xs.length&&Nat.ble (n+t.length) 140737488355328 then
     some { st with m:=Am.put st.m l site (.vec (g+1) 1 (xs.take n++QA t)),f:=Qp st.f d (.vec l site (g+1) 0 (n+t.length) false) }
    else none
   |_=>none
  |_,_=>none
 |.mk site _ sz bytes z l c=>match l.ev st.f,c.ev st.f with
  |.int _ (.ofNat n),.int _ (.ofNat k)=>bif Nat.ble n k&&Nat.ble k 9223372036854775807&&Nat.ble (bytes*k) 281474976710656&&Qu (Qf st.m 0 site)then
    some { st with m:=Am.put st.m 0 site (.vec (QD st.m 0 site) sz (List.replicate n (JM sz z))),f:=Qp st.f d (.vec 0 site (QD st.m 0 site) 0 n false) }
   else none
  |_,_=>none
 |.usd r=>match r.ev st.f with
  |.vec l s g 0 n false=>match Qf st.m l s with
   |.vec g' _ _=>bif Nat.beq g' g&&Nat.ble 2000 s then some { st with f:=Qp st.f d (if n=0 then .anyp else .vptr l s g 0 0) } else none
   |_=>none
  |_=>none
 |.ustr el p r=>match p.ev st.f,r.ev st.f with
  |.anyp,.int .i64 (.ofNat 0)=>some { st with f:=Qp st.f d (.str []) }
  |.vptr l s g 0 0,.int .i64 (.ofNat (n+1))=>match Qf st.m l s with
   |.vec g' 1 xs=>match bytesOf (xs.take (n+1))with
    |some t=>bif Nat.beq s (el+2000)&&Nat.beq g' g&&Nat.ble (n+1) xs.length&&isBytes (xs.take (n+1)) t then some { st with m:=Am.put st.m l (el+2000) (.vec (g+1) 1 []),f:=Qp st.f d (.str t) } else none
    |none=>none
   |_=>none
  |_,_=>none
where
  isBytes:List AV→List UInt8→Bool
  | [],[]=>true
  |.int .u8 (.ofNat n) :: l,b :: t=>Nat.beq n b.toNat&&isBytes l t
  |_,_=>false

def Bf (call:K3)(it:Item)(st:St):Option St :=
 match it.g with
 |none=>XI call it.dst it.op st
 |some (j,want)=>match st.f j with
  |.bool b=>bif b==want then XI call it.dst it.op st else some { st with f:=Qp st.f it.dst (.tup []) }
  |.tup []=>some { st with f:=Qp st.f it.dst (.tup []) }
  |_=>none

def GB (call:K3):List Item→St→Option St
 | [],st=>some st
 |it :: Qe,st=>match Bf call it st with
  |some st'=>GB call Qe st'
  |none=>none

def GC (rs:List RR)(n:Nat)(r:Option (Exit×St)):Option (AV×Qo) :=
 match r with
 |some (.normal,st)=>fin st
 |some (.ret,st)=>fin st
 |_=>none
where
 fin (st:St):Option (AV×Qo):=match st.ds with
  | []=>match Kr st rs with
   |some x=>match Wa st.m x with
    |some y=>match st.m with
     |_ :: m=>bif Nat.beq m.length n then some (y,m)else none
     | []=>none
    |none=>none
   |none=>none
  |_=>none

def Ys (nat:K3)(T:Be)(body:RC→St→Option (Exit×St)):K3:=fun k args m=>
 match nat k args m with
 |some r=>some r
 |none=>match T k with
  |some (c,rs,N)=>bif Nat.ble args.length N then GC rs m.length (body c (St.enter args m))else none
  |none=>none

def Jf (nat:K3)(T:Be):Nat→RC→St→Option (Exit×St)
 |0,_,_=>none
 |n+1,c,st=>match c with
  |.skip=>some (.normal,st)
  |.reg Qe=>match GB (Ys nat T (Jf nat T n)) Qe st with
   |some st'=>some (.normal,st')
   |none=>none
  |.draw Qe=>match GB (Ys nat T (Jf nat T n)) Qe st with
   |some st'=>some (.normal,st')
   |none=>none
  |.seq a b=>match Jf nat T n a st with
   |some (.normal,st')=>Jf nat T n b st'
   |r=>r
  |.cond c a b=>match c.ev st.f with
   |.bool t=>bif t then Jf nat T n a st else Jf nat T n b st
   |_=>none
  |.block id a=>match Jf nat T n a st with
   |some (.exit i,st')=>if i=id then some (.normal,st')else some (.exit i,st')
   |r=>r
  |.loop a=>match Jf nat T n a st with
   |some (.normal,st')=>Jf nat T n (.loop a) st'
   |r=>r
  |.exit id=>some (.exit id,st)
  |.scope a=>match Jf nat T n a st with
   |some (.goto _,_)=>none
   |r=>r
  |.lab=>some (.normal,st)
  |.ret=>some (.ret,st)
  |.gho g a=>match ZJ g st with
   |some st'=>Jf nat T n a st'
   |none=>none
  |.no=>none

section
variable {P:Program}{T:Be}

def Wc (P:Program)(call:K3):Prop:=∀k args m v m',call k args m=some (v,m')→Qg P k args m fun x m1=>x=v∧m1=m'

theorem GD:∀ {l:List AV} {t:List UInt8},XI.isBytes l t=true→l=QA t
 | [],[],_=>rfl
 | [],_ :: _,h=>by simp[XI.isBytes]at h
 |.int .u8 (.ofNat n) :: l,b :: t,h=>by
  simp only[XI.isBytes,QUL]at h;rw[GD h.2,QUj h.1];rfl
 |x :: l,[],h=>by
  unfold XI.isBytes at h;split at h<;>simp_all

theorem N2 {call:K3}(hc:Wc P call){d:Option Nat}{op:RO}{st st':St}(h:XI call d op st=some st'){K:St→Prop}(hK:K st'):Uj P d op st K:=by
 cases op with
 |val vo=>
  simp only[XI]at h;split at h
  ·rename_i x hx;cases h;exact⟨x,hx,hK⟩
  ·cases h
 |allocN s z=>
  simp only[XI]at h;cases h1:XN st.m s<;>rw[h1]at h<;>simp only[cond_true,cond_false,reduceCtorEq,QUM]at h;subst h;exact⟨h1,hK⟩
 |boxN s r=>
  simp only[XI]at h;cases h1:(XN st.m s&&(r.ev st.f).cells.all AV.leaf)<;>rw[h1]at h<;>simp only[cond_true,cond_false,reduceCtorEq,QUM]at h;rw[QUL]at h1;subst h;exact⟨h1.1,h1.2,hK⟩
 |store n p r=>
  simp only[XI]at h;cases h1:(Nat.beq (r.ev st.f).cells.length n&&(r.ev st.f).cells.all AV.leaf)<;>rw[h1]at h<;>simp only[cond_true,cond_false,reduceCtorEq]at h;rw[QUL]at h1;split at h
  ·rename_i m' hm;cases h;exact⟨QUj h1.1,h1.2,m',hm,hK⟩
  ·cases h
 |storev l s n p r=>
  simp only[XI]at h;split at h
  ·rename_i l' s' o hp;cases h1:(Nat.beq l' l&&Nat.beq s' s&&Nat.beq (r.ev st.f).cells.length n&&(r.ev st.f).cells.all AV.leaf)<;>rw[h1]at h<;>simp only[cond_true,cond_false,reduceCtorEq]at h;simp only[QUL]at h1;obtain⟨⟨⟨a1,a2⟩,a3⟩,a4⟩:=h1;have e1:=QUj a1;have e2:=QUj a2;subst e1 e2;split at h
   ·rename_i m' hm;cases h;exact⟨⟨o,hp⟩,QUj a3,a4,m',hm,hK⟩
   ·cases h
  ·cases h
 |app sz bytes el s r=>
  simp only[XI]at h;split at h
  ·rename_i l site g n hs;split at h
   ·rename_i g' sz' xs hl;split at h
    ·rename_i ys hy;cases h1:(Nat.beq g' g&&Nat.beq sz' sz&&XP site el&&Nat.ble n xs.length&&ys.all (fun e=>e.cells.length==sz)&&Nat.ble (n+ys.length) maxLen&&Nat.ble ((n+ys.length)*bytes) 140737488355328)<;>rw[h1]at h<;>simp only[cond_true,cond_false,reduceCtorEq,QUM]at h;simp only[QUL]at h1;obtain⟨⟨⟨⟨⟨⟨a1,a2⟩,a3⟩,a4⟩,a5⟩,a6⟩,a7⟩:=h1;have e1:=QUj a1;have e2:=QUj a2;subst e1 e2 h;exact⟨l,site,_,n,xs,ys,hs,hl,a3,QVO a4,hy,a5,QVO a6,QVO a7,hK⟩
    ·cases h
   ·cases h
  ·cases h
 |call f args=>
  simp only[XI]at h;split at h
  ·rename_i k fa fb hf;split at h
   ·rename_i ys hy;cases h1:AV.rfL ys<;>rw[h1]at h<;>simp only[cond_true,cond_false,reduceCtorEq]at h;split at h
    ·rename_i v m' hv;cases h2:(v.rf&&(AV.rfL (fa++args.map (RA.ev st.f)++fb)||v.nl))<;>rw[h2]at h<;>simp only[cond_true,cond_false,reduceCtorEq,QUM]at h;rw[QUL,QUr]at h2;subst h;exact⟨k,fa,fb,ys,v,hf,hy,h1,(hc _ _ _ _ _ hv).mono (fun _ _ e=>e.1),h2.1,h2.2,hK⟩
    ·cases h
   ·cases h
  ·cases h
 |callF f args=>
  simp only[XI]at h;split at h
  ·rename_i k fa fb hf;split at h
   ·rename_i v m' hv;cases h;exact⟨k,fa,fb,v,m',hf,hc _ _ _ _ _ hv,hK⟩
   ·cases h
  ·cases h
 |bsl sz len z ps=>
  simp only[XI]at h;split at h
  ·rename_i y hy;cases h1:(AV.rfL y&&y.all AV.leaf)<;>rw[h1]at h<;>simp only[cond_true,cond_false,reduceCtorEq,QUM]at h;rw[QUL]at h1;subst h;exact⟨y,hy,h1.1,h1.2,hK⟩
  ·cases h
 |bslv site sz len z ps=>
  simp only[XI]at h;split at h
  ·rename_i y hy;cases h1:(AV.rfL y&&y.all AV.leaf&&Qu (Qf st.m 0 site))<;>rw[h1]at h<;>simp only[cond_true,cond_false,reduceCtorEq,QUM]at h;simp only[QUL]at h1;subst h;exact⟨y,hy,h1.1.1,h1.1.2,h1.2,hK⟩
  ·cases h
 |bsl0 site sz=>
  simp only[XI]at h;cases h1:Qu (Qf st.m 0 site)<;>rw[h1]at h<;>simp only[cond_true,cond_false,reduceCtorEq,QUM]at h;subst h;exact⟨h1,hK⟩
 |isnil neg r=>
  simp only[XI]at h;split at h
  ·rename_i hr;cases h;exact⟨[],by rw[hr];rfl,fun e=>absurd hr e,fun _=>hK⟩
  ·rename_i l hr;split at h
   ·rename_i z zs hf;cases h;exact⟨l,by rw[hr];rfl,fun _=>hK,fun e=>by
     rcases e with e|e
     ·rw[hr]at e;cases e
     ·rw[hf]at e;cases e⟩
   ·cases h
  ·cases h
 |callK l s f args=>
  simp only[XI]at h;split at h
  ·rename_i k fa fb hf;split at h
   ·rename_i v m' hv;cases he:GA (Qf m' l s) (Qf st.m l s)<;>rw[he]at h<;>simp only[cond_true,cond_false,reduceCtorEq,QUM]at h;subst h;exact⟨k,fa,fb,v,m',hf,hc _ _ _ _ _ hv,MI he,hK⟩
   ·cases h
  ·cases h
 |xb cnt k s c=>
  simp only[XI]at h;split at h
  ·rename_i t b hs hb;cases h;exact⟨t,b,hs,hb,hK⟩
  ·cases h
 |callR f args=>
  simp only[XI]at h;split at h
  ·rename_i k fa fb hf;split at h
   ·rename_i ys hy;cases h1:AV.rfL ys<;>rw[h1]at h<;>simp only[cond_true,cond_false,reduceCtorEq]at h;split at h
    ·rename_i v m' hv;cases h2:(v.rf&&(AV.rfL (fa++args.map (RA.ev st.f)++fb)||v.nl))<;>rw[h2]at h<;>simp only[cond_true,cond_false,reduceCtorEq,QUM]at h;rw[QUL,QUr]at h2;subst h;exact⟨k,fa,fb,ys,(· = v),hf,hy,h1,(hc _ _ _ _ _ hv).mono (fun _ _ e=>e.1),fun x hx=>by subst hx;exact h2,fun x hx=>by subst hx;exact hK⟩
    ·cases h
   ·cases h
  ·cases h
 |rngs s r=>
  simp only[XI]at h;split at h
  ·rename_i t ht;cases h1:XN st.m s<;>rw[h1]at h<;>simp only[cond_true,cond_false,reduceCtorEq,QUM]at h;subst h;exact⟨t,ht,h1,hK⟩
  ·cases h
 |mkm s=>
  simp only[XI]at h;cases h1:XN st.m s<;>rw[h1]at h<;>simp only[cond_true,cond_false,reduceCtorEq,QUM]at h;subst h;exact⟨h1,hK⟩
 |mput x i v=>
  simp only[XI]at h;split at h
  ·rename_i l s hx;split at h
   ·rename_i ks vs p hl;split at h
    ·rename_i k hi;cases h1:((v.ev st.f).gr&&AV.grL vs&&Nat.beq ks.length vs.length)<;>rw[h1]at h<;>simp only[cond_true,cond_false,reduceCtorEq,QUM]at h;subst h;simp only[QUL]at h1;exact⟨l,s,ks,vs,p,k,hx,hl,hi,h1.1.1,h1.1.2,QUj h1.2,hK⟩
    ·cases h
   ·cases h
  ·cases h
 |nxts r=>
  simp only[XI]at h;split at h
  ·rename_i l s hr;split at h
   ·rename_i t p hl;refine⟨l,s,t,p,hr,hl,fun e=>?_,fun e=>?_⟩
    ·have hb:Nat.blt p t.length=true:=by simp[Nat.blt_eq,e]
     rw[hb]at h;cases h;exact hK
    ·have hb:Nat.blt p t.length=false:=by
      cases hb:Nat.blt p t.length with
      |false=>rfl
      |true=>rw[Nat.blt_eq]at hb;omega
     rw[hb]at h;cases h;exact hK
   ·cases h
  ·cases h
 |appS el s r=>
  simp only[XI]at h;split at h
  ·rename_i l site g n t hs hr;split at h
   ·rename_i g' xs hl;cases h1:(Nat.beq g' g&&XP site el&&Nat.ble n xs.length&&Nat.ble (n+t.length) 140737488355328)<;>rw[h1]at h<;>simp only[cond_true,cond_false,reduceCtorEq,QUM]at h;simp only[QUL]at h1;obtain⟨⟨⟨a1,a2⟩,a3⟩,a4⟩:=h1;have e1:=QUj a1;subst e1 h;exact⟨l,site,_,n,xs,t,hs,hl,a2,QVO a3,hr,QVO a4,hK⟩
   ·cases h
  ·cases h
 |mk site el sz bytes z l c=>
  simp only[XI]at h;split at h
  ·rename_i kl n kc k hl hcc;cases h1:(Nat.ble n k&&Nat.ble k 9223372036854775807&&Nat.ble (bytes*k) 281474976710656&&Qu (Qf st.m 0 site))<;>rw[h1]at h<;>simp only[cond_true,cond_false,reduceCtorEq,QUM]at h;simp only[QUL]at h1;obtain⟨⟨⟨a1,a2⟩,a3⟩,a4⟩:=h1;subst h;exact⟨kl,kc,n,k,hl,hcc,QVO a1,QVO a2,QVO a3,a4,hK⟩
  ·cases h
 |usd r=>
  simp only[XI]at h;split at h
  ·rename_i l s g n hr;split at h
   ·rename_i g' sz xs hl;cases h1:(Nat.beq g' g&&Nat.ble 2000 s)<;>rw[h1]at h<;>simp only[cond_true,cond_false,reduceCtorEq,QUM]at h;simp only[QUL]at h1;have e1:=QUj h1.1;subst e1 h;exact⟨l,s,_,n,sz,xs,QVO h1.2,hr,hl,hK⟩
   ·cases h
  ·cases h
 |ustr el p r=>
  simp only[XI]at h;split at h
  ·rename_i hp hr;cases h;exact .inl ⟨hp,hr,hK⟩
  ·rename_i l s g n hp hr;split at h
   ·rename_i g' xs hl;split at h
    ·rename_i t ht;cases h1:(Nat.beq s (el+2000)&&Nat.beq g' g&&Nat.ble (n+1) xs.length&&XI.isBytes (xs.take (n+1)) t)<;>rw[h1]at h<;>simp only[cond_true,cond_false,reduceCtorEq,QUM]at h;simp only[QUL]at h1;obtain⟨⟨⟨a1,a2⟩,a3⟩,a4⟩:=h1;have e1:=QUj a1;have e2:=QUj a2;subst e1 e2 h;exact .inr ⟨l,_,n+1,xs,t,hp,hr,hl,QVO a3,Nat.succ_ne_zero n,GD a4,hK⟩
    ·cases h
   ·cases h
  ·cases h

theorem MJ {call:K3}(hc:Wc P call){it:Item}{st st':St}(h:Bf call it st=some st'){K:St→Prop}(hK:K st'):XZ P it st K:=by
 obtain⟨d,op,g⟩:=it;cases g with
 |none=>exact N2 (d:=d) hc h hK
 |some p=>
  obtain⟨j,want⟩:=p;simp only[Bf]at h;simp only[XZ];split at h
  ·rename_i b hj;simp only[hj];cases hb:(b==want)with
   |true=>
    rw[hb]at h;have e:b=want:=by simpa using hb
    exact⟨fun _=>N2 hc h hK,fun e'=>by rw[e]at e';cases want<;>cases e'⟩
   |false=>
    rw[hb]at h;simp only[cond_false,QUM]at h;subst h;exact⟨fun e=>by rw[e]at hb;simp at hb,fun _=>hK⟩
  ·rename_i hj;cases h;simp only[hj];exact⟨trivial,hK⟩
  ·cases h

theorem HD {call:K3}(hc:Wc P call):∀ {Qe:List Item} {st st':St},GB call Qe st=some st'→∀ {K:St→Prop},K st'→QE P Qe st K
 | [],_,_,h,_,hK=>by cases h;exact hK
 |it :: Qe,st,st',h,K,hK=>by
  simp only[GB]at h;split at h
  ·rename_i st1 h1;exact MJ hc h1 (HD hc h hK)
  ·cases h

theorem RG {rs:List RR}{n:Nat}{r:Option (Exit×St)}{v:AV}{m':Qo}(h:GC rs n r=some (v,m')):∃e st,r=some (e,st)∧ZK rs n (fun x m1=>x=v∧m1=m') e st:=by
 have fin:∀ {e:Exit} {st:St},(e=.normal∨e=.ret)→GC.fin rs n st=some (v,m')→ZK rs n (fun x m1=>x=v∧m1=m') e st:=by
  intro e st he h;unfold GC.fin at h;split at h
  ·rename_i hds;split at h
   ·rename_i x hx;split at h
    ·rename_i y hy;split at h
     ·rename_i fr m hm;cases hb:Nat.beq m.length n with
      |false=>rw[hb]at h;cases h
      |true=>
       rw[hb]at h;simp only[cond_true,QUM,Prod.mk.injEq]at h;exact⟨he,hds,x,y,fr,m,hx,hy,hm,QUj hb,h.1,h.2⟩
     ·cases h
    ·cases h
   ·cases h
  ·cases h
 unfold GC at h;split at h
 ·exact⟨_,_,rfl,fin (.inl rfl) h⟩
 ·exact⟨_,_,rfl,fin (.inr rfl) h⟩
 ·cases h

theorem W0 {nat:K3}(hN:Wc P nat)(hT:Gz P T){body:RC→St→Option (Exit×St)}(hb:∀c st e st',body c st=some (e,st')→∀Q:Exit→St→Prop,Q e st'→QG P c st Q):Wc P (Ys nat T body):=by
 intro k args m v m' h;unfold Ys at h;split at h
 ·rename_i r hr;cases h;exact hN _ _ _ _ _ hr
 split at h
 ·rename_i c rs N hk;cases hN:Nat.ble args.length N with
  |false=>rw[hN]at h;cases h
  |true=>
   rw[hN]at h;simp only[cond_true]at h;obtain⟨e,st,h1,h2⟩:=RG h;obtain⟨fn,cd,a1,a2,a3,a4,a5,a6⟩:=hT k c rs N hk;exact Uk a1 a2 a3 a4 a5 a6 (QVO hN) (hb _ _ _ _ h1 _ h2)
 ·cases h

theorem MK {nat:K3}(hN:Wc P nat)(hT:Gz P T):∀(n:Nat) (c:RC) (st:St) (e:Exit) (st':St),Jf nat T n c st=some (e,st')→∀Q:Exit→St→Prop,Q e st'→QG P c st Q:=by
 intro n
 induction n using Nat.strongRecOn with
 |_ n ihs=>
 cases n with
 |zero=>intro c st e st' h;cases h
 |succ n=>
  intro c st e st' h Q hQ;have ih:=ihs n (Nat.lt_succ_self n);cases c with
  |skip=>cases h;exact hQ
  |reg Qe=>
   simp only[Jf]at h;split at h
   ·rename_i st1 h1;cases h;exact HD (W0 hN hT ih) h1 hQ
   ·cases h
  |draw Qe=>
   simp only[Jf]at h;split at h
   ·rename_i st1 h1;cases h;exact HD (W0 hN hT ih) h1 hQ
   ·cases h
  |seq a b=>
   simp only[Jf]at h;split at h
   ·rename_i st1 h1;exact ih _ _ _ _ h1 _ (ih _ _ _ _ h Q hQ)
   ·rename_i h1;refine ih _ _ _ _ h _ ?_;cases e with
    |normal=>exact absurd h (h1 st')
    |_=>exact hQ
  |cond c a b=>
   simp only[Jf]at h;split at h
   ·rename_i t ht;cases t with
    |true=>exact⟨true,ht,fun _=>ih _ _ _ _ h Q hQ,(fun e=>by cases e)⟩
    |false=>exact⟨false,ht,(fun e=>by cases e),fun _=>ih _ _ _ _ h Q hQ⟩
   ·cases h
  |block id a=>
   simp only[Jf]at h;split at h
   ·rename_i i st1 h1;refine ih _ _ _ _ h1 _ ?_;show if i=id then Q .normal st1 else Q (.exit i) st1
    split at h
    ·rename_i hi;cases h;rw[QUQ hi];exact hQ
    ·rename_i hi;cases h;rw[QUB hi];exact hQ
   ·rename_i h1;refine ih _ _ _ _ h _ ?_;cases e with
    |exit i=>exact absurd h (h1 i st')
    |_=>exact hQ
  |loop a=>
   refine⟨fun k s=>k≤n∧Jf nat T (k+1) (.loop a) s=some (e,st'),n,⟨QUm _,h⟩,fun k s hh=>?_⟩;obtain⟨hk,hs⟩:=hh;simp only[Jf]at hs;split at hs
   ·rename_i st1 h1;refine ihs k (by omega) _ _ _ _ h1 _ ?_;show ∃j,j<k∧j≤n∧Jf nat T (j+1) (.loop a) st1=some (e,st');cases k with
    |zero=>cases h1
    |succ j=>exact⟨j,Nat.lt_succ_self j,by omega,hs⟩
   ·rename_i h1;refine ihs k (by omega) _ _ _ _ hs _ ?_;cases e with
    |normal=>exact absurd hs (h1 st')
    |_=>exact hQ
  |exit id=>cases h;exact hQ
  |scope a=>
   simp only[Jf]at h;split at h
   ·cases h
   ·rename_i h1;refine ih _ _ _ _ h _ ?_;cases e with
    |goto i=>exact absurd h (h1 i st')
    |_=>exact hQ
  |lab=>cases h;exact hQ
  |ret=>cases h;exact hQ
  |gho g a=>
   simp only[Jf]at h;split at h
   ·rename_i st1 h1;exact⟨st1,h1,ih _ _ _ _ h Q hQ⟩
   ·cases h
  |no=>cases h

def evT (nat:K3)(T:Be)(n:Nat)(k:FuncId)(args:List AV):Bool :=
 match Ys nat T (Jf nat T n) k args []with
 |some (.bool true,_)=>true
 |_=>false

theorem Ci {nat:K3}(hN:Wc P nat)(hT:Gz P T){n:Nat}{k:FuncId}{args:List AV}(h:evT nat T n k args=true):Qk P k args (.bool true):=by
 unfold evT at h;split at h
 ·rename_i m' h1;exact(W0 hN hT (MK hN hT n) _ _ _ _ _ h1).mono fun _ _ e=>e.1
 ·cases h

end

set_option linter.defProp false in
def Qa:=(QVY (QVY (QVY (QVY (QVY (QVY (QVY (QVY @Am.YN @Am.YM) (QVY @Am.Mk @Am.J6)) (QVY (QVY @Am.ZO @Am.Mn) (QVY @Am.Mo (QVY @Am.NX @Am.NY)))) (QVY (QVY (QVY @Am.Yr @Am.SK) (QVY @Am.SL @Am.Mj)) (QVY (QVY @Am.Mp @Am.Gt) (QVY @Am.Mq (QVY @Am.Mr @Am.Ms))))) (QVY (QVY (QVY (QVY @Am.Mt @Am.Mu) (QVY @Am.Mv @Am.Mw)) (QVY (QVY @Am.KS @Am.Mm) (QVY @Am.SM (QVY @Am.D5 @Am.Uz)))) (QVY (QVY (QVY @Am.e_f @Am.J8) (QVY @Am.ZP @Am.J7)) (QVY (QVY @Am.J9 @Am.Hp) (QVY @Am.Kw (QVY @Am.F6 @Am.D3)))))) (QVY (QVY (QVY (QVY (QVY @Am.WZ @Am.F7) (QVY @Am.Gu @Am.Gv)) (QVY (QVY @Am.D4 @Am.YO) (QVY @Am.Kv (QVY @Am.F8 @Am.F9)))) (QVY (QVY (QVY @Am.Jm @Am.Qt.eq_1) (QVY @Am.Qt.eq_2 @Am.Qt.eq_3)) (QVY (QVY @Am.Qt.eq_4 @Am.Qt.eq_5) (QVY @Am.Qt.eq_6 (QVY @Am.Qt.eq_7 @Am.Qt.eq_8))))) (QVY (QVY (QVY (QVY @Am.Qt.eq_9 @Am.Qt.eq_10) (QVY @Am.Qt.eq_11 @Am.Qt.eq_12)) (QVY (QVY @Am.Qt.eq_13 @Am.Qt.eq_14) (QVY @Am.Qt.eq_15 (QVY @Am.Qt.eq_16 @Am.Qt.eq_17)))) (QVY (QVY (QVY @Am.Qt.eq_18 @Am.Qt.eq_19) (QVY @Am.Qt.eq_20 @Am.Qt.eq_21)) (QVY (QVY @Am.Qt.eq_22 @Am.Qt.eq_23) (QVY @Am.Qt.eq_24 (QVY @Am.Qt.eq_25 @Am.Qt.eq_26))))))) (QVY (QVY (QVY (QVY (QVY (QVY @Am.Qt.eq_27 @Am.Qt.eq_28) (QVY @Am.Qt.eq_29 @Am.Qt.eq_30)) (QVY (QVY @Am.Qt.eq_31 @Am.Qt.eq_32) (QVY @Am.Qt.eq_1 (QVY @Am.Qt.eq_1 @Am.Qt.eq_1)))) (QVY (QVY (QVY @Am.QU.eq_1 @Am.QU.eq_2) (QVY @Am.QU.eq_3 @Am.QU.eq_4)) (QVY (QVY @Am.QU.eq_5 @Am.QU.eq_6) (QVY @Am.QU.eq_7 (QVY @Am.QU.eq_8 @Am.QU.eq_9))))) (QVY (QVY (QVY (QVY @Am.QU.eq_10 @Am.QU.eq_11) (QVY @Am.QU.eq_12 @Am.QU.eq_13)) (QVY (QVY @Am.QU.eq_14 @Am.QU.eq_15) (QVY @Am.QU.eq_16 (QVY @Am.QU.eq_17 @Am.Q4.eq_1)))) (QVY (QVY (QVY @Am.Q4.eq_2 @Am.Q4.eq_3) (QVY @Am.Q4.eq_4 @Am.Q4.eq_5)) (QVY (QVY @Am.Q4.eq_6 @Am.Q4.eq_7) (QVY @Am.Q4.eq_8 (QVY @Am.Q4.eq_9 @Am.Q4.eq_10)))))) (QVY (QVY (QVY (QVY (QVY @Am.Q4.eq_11 @Am.Q4.eq_12) (QVY @Am.Q4.eq_13 @Am.Q4.eq_14)) (QVY (QVY @Am.Q4.eq_15 @Am.Q4.eq_16) (QVY @Am.Uq.eq_1 (QVY @Am.Uq.eq_2 @Am.Uq.eq_3)))) (QVY (QVY (QVY @Am.Uq.eq_4 @cond_true.{0}) (QVY @cond_true.{1} @cond_false.{0})) (QVY (QVY @cond_false.{1} @true_and) (QVY @and_true (QVY @QVo.{0} @QVs.{0}))))) (QVY (QVY (QVY (QVY @List.getElem?_nil.{0} @QVw.{0}) (QVY @QVW.{0} @Am.St.enter.eq_1)) (QVY (QVY @Am.FO.eq_1 @Am.AV.shL.eq_1) (QVY @Am.AV.shL.eq_2 (QVY @Am.AV.sh.eq_1 @Am.AV.sh.eq_2)))) (QVY (QVY (QVY @Am.AV.sh.eq_3 @Am.AV.sh.eq_4) (QVY @Am.AV.sh.eq_5 @Am.AV.sh.eq_6)) (QVY (QVY @Am.AV.sh.eq_7 @Am.AV.sh.eq_8) (QVY @Am.AV.sh.eq_9 (QVY @Am.Kr.eq_1 @Am.Kr.eq_2)))))))) (QVY (QVY (QVY (QVY (QVY (QVY (QVY @Am.RR.ev.eq_1 @Am.RR.ev.eq_2) (QVY @Am.RR.evL.eq_1 @Am.RR.evL.eq_2)) (QVY (QVY @Am.Wa.eq_1 @Am.AV.still.eq_1) (QVY @Am.AV.still.eq_2 (QVY @Am.AV.still.eq_3 @Am.AV.still.eq_4)))) (QVY (QVY (QVY @Am.AV.still.eq_5 @Am.AV.still.eq_6) (QVY @Am.AV.still.eq_7 @Am.AV.still.eq_8)) (QVY (QVY @Am.AV.stillL.eq_1 @Am.AV.stillL.eq_2) (QVY @Am.AV.un.eq_1 (QVY @Am.AV.un.eq_2 @Am.AV.un.eq_3))))) (QVY (QVY (QVY (QVY @Am.AV.un.eq_4 @Am.AV.un.eq_5) (QVY @Am.AV.un.eq_6 @Am.AV.un.eq_7)) (QVY (QVY @Am.AV.un.eq_8 @Am.AV.un.eq_9) (QVY @Am.AV.un.eq_10 (QVY @Am.AV.un.eq_11 @Am.AV.un.eq_12)))) (QVY (QVY (QVY @Am.AV.un.eq_13 @Am.AV.unL.eq_1) (QVY @Am.AV.unL.eq_2 @Option.bind_some.{0,0})) (QVY (QVY @QVd.{0,0} @if_true.{0}) (QVY @if_true.{1} (QVY @if_false.{0} @if_false.{1})))))) (QVY (QVY (QVY (QVY (QVY @QUG @Go.IntKind.bits.eq_1) (QVY @Go.IntKind.bits.eq_2 @Go.IntKind.bits.eq_3)) (QVY (QVY @Go.IntKind.bits.eq_4 @Go.IntKind.bits.eq_5) (QVY @Go.IntKind.bits.eq_6 (QVY @Go.IntKind.bits.eq_7 @Go.IntKind.bits.eq_8)))) (QVY (QVY (QVY @QVi.{0} @QUC.{0}) (QVY @QVZ @QVz)) (QVY (QVY @forall_const.{1} @not_true_eq_false) (QVY @not_false_eq_true (QVY @Am.Dx @QV0))))) (QVY (QVY (QVY (QVY @QVt @Am.Wu.eq_1) (QVY @ne_eq.{1} @Nat.one_ne_zero)) (QVY (QVY @decide_true @decide_false) (QVY @Am.Ec (QVY @Am.RE @Am.Qbe)))) (QVY (QVY (QVY @Am.RF @Am.Qbf) (QVY @Am.Qbd @Am.QxH)) (QVY (QVY @Am.XN.eq_1 @Am.AV.unNL.eq_1) (QVY @Am.AV.unNL.eq_2 (QVY @Am.AV.unNL_zero @Am.AV.shNL.eq_1))))))) (QVY (QVY (QVY (QVY (QVY (QVY @Am.AV.shNL.eq_2 @Am.AV.shN.eq_1) (QVY @Am.AV.shN.eq_2 @Am.splice.eq_1)) (QVY (QVY @Am.part.eq_1 @Am.part.eq_2) (QVY @Am.fill.eq_1 (QVY @Am.fill.eq_2 @Am.AV.leaf.eq_1)))) (QVY (QVY (QVY @Am.AV.leaf.eq_2 @Am.AV.leaf.eq_3) (QVY @Am.AV.leaf.eq_4 @QVx.{0})) (QVY (QVY @QVy.{0} @QUU.{0}) (QVY @QVu.{0} (QVY @List.take_nil.{0} @QUX.{0}))))) (QVY (QVY (QVY (QVY @QU4.{0} @QVA.{0}) (QVY @QUK.{0} @QUJ.{0})) (QVY (QVY @QVp.{0} @Am.Qc.eq_1) (QVY @and_self (QVY @Am.Zq.eq_1 @Am.Zq.eq_2)))) (QVY (QVY (QVY @Am.Zq.eq_3 @Am.Zq.eq_4) (QVY @Am.Zq.eq_5 @Am.Zq.eq_6)) (QVY (QVY @Am.ZA.eq_1 @Am.ZA.eq_2) (QVY @Am.Q1.eq_1 (QVY @Am.Q1.eq_2 @Am.Q1.eq_3)))))) (QVY (QVY (QVY (QVY (QVY @Am.Q1.eq_4 @Am.Q1.eq_5) (QVY @Am.Q1.eq_6 @Am.Q1.eq_7)) (QVY (QVY @Am.Hi.eq_1 @Am.Hi.eq_2) (QVY @Am.Hi.eq_3 (QVY @Am.H4.eq_1 @Am.H4.eq_2)))) (QVY (QVY (QVY @Am.H4.eq_3 @Am.H4.eq_4) (QVY @Am.QJG @Am.Mx)) (QVY (QVY @Am.My @Am.Mz) (QVY @Am.V6 (QVY @Am.MA @Am.V7))))) (QVY (QVY (QVY (QVY @Am.V8 @Am.V9) (QVY @Am.Ca @Am.Cb)) (QVY (QVY @Am.MB @Am.MD) (QVY @Am.ME (QVY @Am.MF @Am.Cc)))) (QVY (QVY (QVY @Am.MG @Am.Cd) (QVY @Am.NM @Am.MH)) (QVY (QVY @Am.Ce @Am.Ho) (QVY @Am.NN (QVY @Am.Cf @QVn.{0,0})))))))))

set_option linter.defProp false in
def eEX:=(QVY (QVY (QVY @Am.QX.eq_1 (QVY @Am.QX.eq_2 @Am.QX.eq_3)) (QVY (QVY @Am.Xb.eq_1 @Am.Xb.eq_2) (QVY @Am.Xb.eq_3 @Am.Xb.eq_4))) (QVY (QVY (QVY @Am.Qf.eq_1 @Am.Qf.eq_2) (QVY @Am.Qf.eq_3 @Am.put.eq_1)) (QVY (QVY @Am.put.eq_2 @Am.put.eq_3) (QVY @Am.AV.cells.eq_1 @Am.AV.cells.eq_2))))

set_option linter.defProp false in
def eE := QVY Qa eEX

set_option linter.defProp false in
def GE:=(QVY (QVY (QVY (QVY (QVY (QVY (QVY @Am.YN (QVY @Am.YM @Am.Mk)) (QVY @Am.J6 (QVY @Am.ZO @Am.Mn))) (QVY (QVY @Am.Mo (QVY @Am.NX @Am.NY)) (QVY @Am.Yr (QVY @Am.SK @Am.SL)))) (QVY (QVY (QVY @Am.Mj (QVY @Am.Mp @Am.Gt)) (QVY @Am.Mq (QVY @Am.Mr @Am.Ms))) (QVY (QVY @Am.Mt (QVY @Am.Mu @Am.Mv)) (QVY @Am.Mw (QVY @Am.KS @Am.Mm))))) (QVY (QVY (QVY (QVY @Am.SM (QVY @Am.D5 @Am.Uz)) (QVY @Am.e_f (QVY @Am.J8 @Am.ZP))) (QVY (QVY @Am.J7 (QVY @Am.J9 @Am.Hp)) (QVY @Am.Kw (QVY @Am.F6 @Am.D3)))) (QVY (QVY (QVY @Am.WZ (QVY @Am.F7 @Am.Gu)) (QVY @Am.Gv (QVY @Am.D4 @Am.YO))) (QVY (QVY @Am.Kv (QVY @Am.F8 @Am.F9)) (QVY (QVY @Am.Jm @Am.Qt.eq_1) (QVY @Am.Qt.eq_2 @Am.Qt.eq_3)))))) (QVY (QVY (QVY (QVY (QVY @Am.Qt.eq_4 (QVY @Am.Qt.eq_5 @Am.Qt.eq_6)) (QVY @Am.Qt.eq_7 (QVY @Am.Qt.eq_8 @Am.Qt.eq_9))) (QVY (QVY @Am.Qt.eq_10 (QVY @Am.Qt.eq_11 @Am.Qt.eq_12)) (QVY @Am.Qt.eq_13 (QVY @Am.Qt.eq_14 @Am.Qt.eq_15)))) (QVY (QVY (QVY @Am.Qt.eq_16 (QVY @Am.Qt.eq_17 @Am.Qt.eq_18)) (QVY @Am.Qt.eq_19 (QVY @Am.Qt.eq_20 @Am.Qt.eq_21))) (QVY (QVY @Am.Qt.eq_22 (QVY @Am.Qt.eq_23 @Am.Qt.eq_24)) (QVY @Am.Qt.eq_25 (QVY @Am.Qt.eq_26 @Am.Qt.eq_27))))) (QVY (QVY (QVY (QVY @Am.Qt.eq_28 (QVY @Am.Qt.eq_29 @Am.Qt.eq_30)) (QVY @Am.Qt.eq_31 (QVY @Am.Qt.eq_32 @Am.Qt.eq_1))) (QVY (QVY @Am.Qt.eq_1 (QVY @Am.Qt.eq_1 @Am.QU.eq_1)) (QVY @Am.QU.eq_2 (QVY @Am.QU.eq_3 @Am.QU.eq_4)))) (QVY (QVY (QVY @Am.QU.eq_5 (QVY @Am.QU.eq_6 @Am.QU.eq_7)) (QVY @Am.QU.eq_8 (QVY @Am.QU.eq_9 @Am.QU.eq_10))) (QVY (QVY @Am.QU.eq_11 (QVY @Am.QU.eq_12 @Am.QU.eq_13)) (QVY (QVY @Am.QU.eq_14 @Am.QU.eq_15) (QVY @Am.QU.eq_16 @Am.QU.eq_17))))))) (QVY (QVY (QVY (QVY (QVY (QVY @Am.Q4.eq_1 (QVY @Am.Q4.eq_2 @Am.Q4.eq_3)) (QVY @Am.Q4.eq_4 (QVY @Am.Q4.eq_5 @Am.Q4.eq_6))) (QVY (QVY @Am.Q4.eq_7 (QVY @Am.Q4.eq_8 @Am.Q4.eq_9)) (QVY @Am.Q4.eq_10 (QVY @Am.Q4.eq_11 @Am.Q4.eq_12)))) (QVY (QVY (QVY @Am.Q4.eq_13 (QVY @Am.Q4.eq_14 @Am.Q4.eq_15)) (QVY @Am.Q4.eq_16 (QVY @Am.Uq.eq_1 @Am.Uq.eq_2))) (QVY (QVY @Am.Uq.eq_3 (QVY @Am.Uq.eq_4 @cond_true.{0})) (QVY @cond_true.{1} (QVY @cond_false.{0} @cond_false.{1}))))) (QVY (QVY (QVY (QVY @true_and (QVY @and_true @QVo.{0})) (QVY @QVs.{0} (QVY @List.getElem?_nil.{0} @QVw.{0}))) (QVY (QVY @QVW.{0} (QVY @Am.St.enter.eq_1 @Am.FO.eq_1)) (QVY @Am.AV.shL.eq_1 (QVY @Am.AV.shL.eq_2 @Am.AV.sh.eq_1)))) (QVY (QVY (QVY @Am.AV.sh.eq_2 (QVY @Am.AV.sh.eq_3 @Am.AV.sh.eq_4)) (QVY @Am.AV.sh.eq_5 (QVY @Am.AV.sh.eq_6 @Am.AV.sh.eq_7))) (QVY (QVY @Am.AV.sh.eq_8 (QVY @Am.AV.sh.eq_9 @Am.Kr.eq_1)) (QVY (QVY @Am.Kr.eq_2 @Am.RR.ev.eq_1) (QVY @Am.RR.ev.eq_2 @Am.RR.evL.eq_1)))))) (QVY (QVY (QVY (QVY (QVY @Am.RR.evL.eq_2 (QVY @Am.Wa.eq_1 @Am.AV.still.eq_1)) (QVY @Am.AV.still.eq_2 (QVY @Am.AV.still.eq_3 @Am.AV.still.eq_4))) (QVY (QVY @Am.AV.still.eq_5 (QVY @Am.AV.still.eq_6 @Am.AV.still.eq_7)) (QVY @Am.AV.still.eq_8 (QVY @Am.AV.stillL.eq_1 @Am.AV.stillL.eq_2)))) (QVY (QVY (QVY @Am.AV.un.eq_1 (QVY @Am.AV.un.eq_2 @Am.AV.un.eq_3)) (QVY @Am.AV.un.eq_4 (QVY @Am.AV.un.eq_5 @Am.AV.un.eq_6))) (QVY (QVY @Am.AV.un.eq_7 (QVY @Am.AV.un.eq_8 @Am.AV.un.eq_9)) (QVY @Am.AV.un.eq_10 (QVY @Am.AV.un.eq_11 @Am.AV.un.eq_12))))) (QVY (QVY (QVY (QVY @Am.AV.un.eq_13 (QVY @Am.AV.unL.eq_1 @Am.AV.unL.eq_2)) (QVY @Option.bind_some.{0,0} (QVY @QVd.{0,0} @if_true.{0}))) (QVY (QVY @if_true.{1} (QVY @if_false.{0} @if_false.{1})) (QVY @QUG (QVY @Go.IntKind.bits.eq_1 @Go.IntKind.bits.eq_2)))) (QVY (QVY (QVY @Go.IntKind.bits.eq_3 (QVY @Go.IntKind.bits.eq_4 @Go.IntKind.bits.eq_5)) (QVY @Go.IntKind.bits.eq_6 (QVY @Go.IntKind.bits.eq_7 @Go.IntKind.bits.eq_8))) (QVY (QVY @QVi.{0} (QVY @QUC.{0} @QVZ)) (QVY (QVY @QVz @forall_const.{1}) (QVY @not_true_eq_false @not_false_eq_true))))))))

end Go.Proofs.YtdhlbgejhcejcaaGreatDoor.Am

namespace Go.Proofs.YtdhlbgejhcejcaaGreatDoor.Rc
open Go Am
abbrev ja (a b:Nat):Am.Item:=⟨some a,.val (.mov (.t b)),none⟩
abbrev jb (a b c:Nat):Am.Item:=⟨some a,.val (.faddr b (.t c)),none⟩
abbrev jc (a b:Nat):Am.Item:=⟨some a,.val (.load none (.t b)),none⟩
abbrev jd (a:Nat)(b:Int):Am.Item:=⟨some a,.val (.mov (.c (.int .i64 b))),none⟩
abbrev je (a b c:Nat):Am.Item:=⟨some a,.boxN b (.t c),none⟩
abbrev jf (a b c:Nat):Am.Item:=⟨some a,.val (.load (some b) (.t c)),none⟩
abbrev jg (a b c:Nat):Am.Item:=⟨some a,.val (.mov (.t b)),some (c,true)⟩
abbrev jh (a:Nat):Am.Item:=⟨some a,.val (.mov (.c (.bool false))),none⟩
abbrev ji (a b c:Nat):Am.Item:=⟨some a,.val (.len b (.t c)),none⟩
abbrev jj (a b c:Nat):Am.Item:=⟨some a,.val (.pick (.t b) (.t c) (.c (.bool false))),none⟩
abbrev jk (a b c d:Nat):Am.Item:=⟨some a,.val (.faddr b (.t c)),some (d,true)⟩
abbrev jl (a b c d:Nat):Am.Item:=⟨some a,.val (.iaddr b none (.t c) (.t d)),none⟩
abbrev jm (a b:Nat)(c:Int):Am.Item:=⟨some a,.val (.bin .num .add (.t b) (.c (.int .i64 c))),none⟩
abbrev jn (a b c:Nat):Am.Item:=⟨some a,.val (.pick (.t b) (.c (.bool true)) (.t c)),none⟩
abbrev jo (a b c d:Nat):Am.Item:=⟨some a,.val (.faddr b (.t c)),some (d,false)⟩
abbrev jp (a b c:Nat):Am.Item:=⟨some a,.val (.bin .num .lss (.t b) (.t c)),none⟩
abbrev jq (a b c:Nat):Am.Item:=⟨none,.store a (.t b) (.t c),none⟩
abbrev jr (a b c:Nat):Am.Item:=⟨some a,.call (.f b) [(.t c)],none⟩
abbrev js (a b c:Nat):Am.Item:=⟨some a,.val (.load none (.t b)),some (c,false)⟩
abbrev jt (a b:Nat)(c:Int):Am.Item:=⟨some a,.val (.bin .num .eql (.t b) (.c (.int .i64 c))),none⟩
abbrev ju (a b c:Nat):Am.Item:=⟨some a,.val (.load none (.t b)),some (c,true)⟩
abbrev jv (a b c:Nat):Am.Item:=⟨some a,.val (.mov (.t b)),some (c,false)⟩
abbrev jw (a b c d e:Nat):Am.Item:=⟨some a,.val (.loadv b c (some d) (.t e)),none⟩
abbrev jx (a b c:Nat):Am.Item:=⟨some a,.val (.ext (.t b) c),none⟩
abbrev jy (a b c d:Nat):Am.Item:=⟨some a,.call (.f b) [(.t c),(.t d)],none⟩
abbrev jz (a b:Nat):Am.Item:=⟨some a,.val (.un .not (.t b)),none⟩
abbrev ya (a b c d e:Nat):Am.Item:=⟨some a,.val (.iaddr b none (.t c) (.t d)),some (e,true)⟩
abbrev yb (a b c d:Nat):Am.Item:=⟨some a,.val (.loadv b c none (.t d)),none⟩
abbrev yc (a b:Nat)(c:Int):Am.Item:=⟨some a,.val (.bin .num .neq (.t b) (.c (.int .i64 c))),none⟩
abbrev yd (a b c:Nat):Am.Item:=⟨some a,.val (.loadr (some b) (.t c)),none⟩
abbrev ye (a b c d:Nat):Am.Item:=⟨some a,.val (.len b (.t c)),some (d,false)⟩
abbrev yf (a:Nat):Am.Item:=⟨some a,.val (.mov (.c (.nils))),none⟩
abbrev yg (a b c d e:Nat):Am.Item:=⟨none,.storev a b c (.t d) (.t e),none⟩
abbrev yh (a b c d e:Nat):Am.Item:=⟨some a,.call (.f b) [(.t c),(.t d),(.t e)],none⟩
abbrev yi (a b c:Nat):Am.Item:=⟨some a,.val (.bin .num .add (.t b) (.t c)),none⟩
abbrev yj (a:Nat):Am.Item:=⟨some a,.val (.mov (.c (.bool true))),none⟩
abbrev yk (a b:Nat)(c:Int)(d:Nat):Am.Item:=⟨some a,.val (.bin .num .gtr (.t b) (.c (.int .i64 c))),some (d,false)⟩
abbrev yl (a b:Nat)(c:Int)(d:Nat):Am.Item:=⟨some a,.val (.bin .num .eql (.t b) (.c (.int .i64 c))),some (d,true)⟩
abbrev ym (a b:Nat)(c:Int):Am.Item:=⟨some a,.val (.bin .num .geq (.t b) (.c (.int .i64 c))),none⟩
abbrev yn (a b:Nat):Am.Item:=⟨some a,.allocN b [.int .i64 0,.int .u64 0,.str [],.nils,.nils,.nils,.nils],none⟩
abbrev yo (a b c:Nat):Am.Item:=⟨some a,.val (.loadr none (.t b)),some (c,true)⟩
abbrev yp (a b:Nat)(c:Int):Am.Item:=⟨some a,.val (.bin .num .gtr (.t b) (.c (.int .i64 c))),none⟩
abbrev yq (a b c d:Nat):Am.Item:=⟨some a,.callF (.f b) [(.t c),(.t d)],none⟩
abbrev yr (a b c d e f:Nat):Am.Item:=⟨some a,.app b c d (.t e) (.t f),none⟩
abbrev ys (a b c d:Nat):Am.Item:=⟨some a,.val (.len b (.t c)),some (d,true)⟩
abbrev yt (a b:Nat)(c:Int)(d:Nat):Am.Item:=⟨some a,.val (.bin .num .eql (.t b) (.c (.int .i64 c))),some (d,false)⟩
abbrev yu (a b:Nat)(c:Int):Am.Item:=⟨some a,.val (.bin .num .lss (.t b) (.c (.int .i64 c))),none⟩
abbrev yv (a b c d:Nat):Am.Item:=⟨some a,.val (.load (some b) (.t c)),some (d,false)⟩
abbrev yw (a:Nat):Am.Item:=⟨some a,.val (.mov (.c (.str []))),none⟩
abbrev yx (a b c d:Nat):Am.Item:=⟨some a,.val (.pick (.t b) (.t c) (.c (.bool false))),some (d,false)⟩
abbrev yy (a b c:Nat):Am.Item:=⟨some a,.val (.un .not (.t b)),some (c,true)⟩
abbrev yz (a b c d e:Nat):Am.Item:=⟨some a,.val (.loadv b c none (.t d)),some (e,true)⟩
abbrev za (a b c:Nat):Am.Item:=⟨some a,.val (.un .not (.t b)),some (c,false)⟩
abbrev zb (a b c d e:Nat):Am.Item:=⟨some a,.val (.iaddr b none (.t c) (.t d)),some (e,false)⟩
abbrev zd (a b:Nat):Am.Item:=⟨some a,.allocN b [.int .i64 0,.str [],.str [],.int .i64 0,.int .i64 0,.int .i64 0,.int .i64 0,.int .i64 0],none⟩
abbrev ze (a b c d:Nat):Am.Item:=⟨some a,.call (.f b) [(.t c)],some (d,false)⟩
abbrev zf (a b:Nat)(c:Int)(d:Nat):Am.Item:=⟨some a,.val (.bin .num .leq (.t b) (.c (.int .i64 c))),some (d,true)⟩
abbrev zg (a b c d:Nat):Am.Item:=⟨some a,.val (.pick (.t b) (.c (.bool true)) (.t c)),some (d,true)⟩
abbrev zh (a b c d:Nat):Am.Item:=⟨some a,.call (.f b) [(.t c)],some (d,true)⟩
abbrev zi (a b:Nat)(c:Int):Am.Item:=⟨some a,.val (.bin .num .sub (.t b) (.c (.int .i64 c))),none⟩
abbrev zj (a:Nat)(b:Int):Am.Item:=⟨some a,.val (.mov (.c (.int .u64 b))),none⟩
abbrev zk (a b c d e:Nat):Am.Item:=⟨some a,.val (.loadv b c none (.t d)),some (e,false)⟩
abbrev zl (a b c d e f:Nat):Am.Item:=⟨some a,.call (.f b) [(.t c),(.t d),(.t e),(.t f)],none⟩
abbrev zn (a b c d:Nat):Am.Item:=⟨some a,.val (.load (some b) (.t c)),some (d,true)⟩
abbrev zo (a b c d e:Nat):Am.Item:=⟨some a,.callF (.f b) [(.t c),(.f d)],some (e,false)⟩
abbrev zp (a b:Nat):Am.Item:=⟨some a,.val (.loadr none (.t b)),none⟩
abbrev zq (a b c:Nat):Am.Item:=⟨some a,.val (.bin .num .eql (.t b) (.t c)),none⟩
abbrev zs (a b:Nat)(c:Int)(d:Nat):Am.Item:=⟨some a,.val (.bin .num .neq (.t b) (.c (.int .i64 c))),some (d,true)⟩
abbrev zt (a b c:Nat):Am.Item:=⟨some a,.val (.bin .num .neq (.t b) (.t c)),none⟩
abbrev zu (a b:Nat):Am.Item:=⟨some a,.allocN b [.int .i64 0,.int .i64 0,.int .u64 0,.str []],none⟩
abbrev zv (a b c d:Nat):Am.Item:=⟨some a,.val (.bin .num .neq (.t b) (.t c)),some (d,false)⟩
abbrev zw (a b:Nat)(c:Int)(d:Nat):Am.Item:=⟨some a,.val (.bin .num .add (.t b) (.c (.int .i64 c))),some (d,true)⟩
abbrev zx (a b c d:Nat):Am.Item:=⟨some a,.callF (.f b) [(.t c),(.f d)],none⟩
abbrev zy (a b c:Nat):Am.Item:=⟨some a,.val (.bin .num .gtr (.t b) (.t c)),none⟩
abbrev zz (a b:Nat)(c:Int):Am.Item:=⟨some a,.val (.bin .num .eql (.t b) (.c (.int .u64 c))),none⟩
abbrev D7 (a b c d e:Nat):Am.Item:=⟨some a,.call (.f b) [(.t c),(.t d)],some (e,true)⟩
abbrev ML (a b:Nat):Am.Item:=⟨some a,.val (.cvi .i64 (.t b)),none⟩
abbrev D8 (a b c d:Nat):Am.Item:=⟨some a,.val (.bin .num .lss (.t b) (.t c)),some (d,true)⟩
abbrev N3 (a b:Nat)(c:Int)(d:Nat):Am.Item:=⟨some a,.val (.bin .num .lss (.t b) (.c (.int .i64 c))),some (d,false)⟩
abbrev GF (a b:Nat)(c:Int)(d:Nat):Am.Item:=⟨some a,.val (.bin .num .geq (.t b) (.c (.int .i64 c))),some (d,true)⟩
abbrev GG (a b c d:Nat):Am.Item:=⟨some a,.val (.loadr (some b) (.t c)),some (d,true)⟩
abbrev N4 (a b:Nat):Am.Item:=⟨some a,.call (.f b) [],none⟩
abbrev MM (a b c d e f:Nat):Am.Item:=⟨some a,.val (.loadv b c (some d) (.t e)),some (f,true)⟩
abbrev MN (a b:Nat):Am.Item:=⟨some a,.val (.cvi .u64 (.t b)),none⟩
abbrev D9 (a b c:Nat):Am.Item:=⟨some a,.val (.mkfn (.func b) [] [(.t c)]),none⟩
abbrev Fa (a b c:Nat):Am.Item:=⟨some a,.callF (.t b) [(.t c)],none⟩
abbrev Bg (a b:Nat)(c:Int)(d:Nat):Am.Item:=⟨some a,.val (.bin .num .neq (.t b) (.c (.int .i64 c))),some (d,false)⟩
abbrev Fb (a b c d:Nat):Am.Item:=⟨some a,.val (.slc (some b) (.t c) none (some (.t d)) none),none⟩
abbrev N5 (a b c d e:Nat):Am.Item:=⟨some a,.call (.f b) [(.t c),(.t d)],some (e,false)⟩
abbrev Fc (a b:Nat)(c:Int)(d:Nat):Am.Item:=⟨some a,.val (.bin .num .sub (.t b) (.c (.int .i64 c))),some (d,true)⟩
abbrev N6 (a b c:Nat):Am.Item:=⟨some a,.val (.idx (.t b) (.t c)),none⟩
abbrev Bh (a b:Nat)(c:Int)(d:Nat):Am.Item:=⟨some a,.val (.bin .num .gtr (.t b) (.c (.int .i64 c))),some (d,true)⟩
abbrev Bi (a b:Nat):Am.Item:=⟨some a,.val (.nilck (.t b)),none⟩
abbrev Bj (a b c:Nat):Am.Item:=⟨some a,.val (.bin .num .leq (.t b) (.t c)),none⟩
abbrev MO (a b c d:Nat):Am.Item:=⟨some a,.val (.bin .num .leq (.t b) (.t c)),some (d,true)⟩
abbrev Bk (a b c d:Nat)(e:Int)(f:Nat):Am.Item:=⟨some a,.call (.f b) [(.t c),(.t d),(.c (.int .i64 e))],some (f,true)⟩
abbrev N7 (a b:Nat):Am.Item:=⟨some a,.allocN b [.int .i64 0,.int .i64 0,.int .u64 0,.str [],.nils,.nils,.nils,.nils],none⟩
abbrev N8 (a b c:Nat)(d:Int)(e:Nat):Am.Item:=⟨some a,.val (.iaddr b none (.t c) (.c (.int .i64 d))),some (e,true)⟩
abbrev N9 (a b c d:Nat):Am.Item:=⟨some a,.val (.bin .num .geq (.t b) (.t c)),some (d,false)⟩
abbrev MP (a b c d e f:Nat):Am.Item:=⟨some a,.bsl b c [.int .i64 0,.int .i64 0,.int .u64 0,.str []] [(d,e,(.t f))],none⟩
abbrev Vb (a b c:Nat):Am.Item:=⟨some a,.callF (.f b) [(.t c)],none⟩
abbrev Vc (a b c:Nat):Am.Item:=⟨some a,.val (.loadr none (.t b)),some (c,false)⟩
abbrev MQ (a b c:Nat):Am.Item:=⟨some a,.val (.bin .num .sub (.t b) (.t c)),none⟩
abbrev SN (a b c:Nat):Am.Item:=⟨some a,.call (.f b) [],some (c,true)⟩
abbrev MS (a b c d:Nat):Am.Item:=⟨some a,.val (.bin .str .eql (.t b) (.t c)),some (d,true)⟩
abbrev MT (a b c d:Nat):Am.Item:=⟨some a,.val (.build [.nils,.nils] [(b,c,(.t d))]),none⟩
abbrev MU (a b c:Nat):Am.Item:=⟨some a,.val (.bin .str .eql (.t b) (.t c)),none⟩
abbrev MV (a b:Nat):Am.Item:=⟨some a,.allocN b [.int .i64 0,.int .u64 0,.str [],.nils,.nils,.nils,.nils,.int .i64 0,.int .u64 0,.str [],.nils,.nils,.nils,.nils],none⟩
abbrev jbh (a b:Nat)(c:Int)(d:Nat):Am.Item:=⟨some a,.val (.bin .num .add (.t b) (.c (.int .i64 c))),some (d,false)⟩
abbrev MX (a:Nat)(b:Int)(c:Nat):Am.Item:=⟨some a,.val (.bin .num .mul (.c (.int .i64 b)) (.t c)),none⟩
abbrev MY (a b c:Nat):Am.Item:=⟨some a,.val (.slc none (.t b) (some (.t c)) none none),none⟩
abbrev SO (a b c d e f:Nat):Am.Item:=⟨some a,.call (.f b) [(.t c),(.t d),(.t e)],some (f,true)⟩
abbrev MZ (a b c d:Nat):Am.Item:=⟨some a,.val (.loadr (some b) (.t c)),some (d,false)⟩
abbrev jbm (a b:Nat)(c:Int):Am.Item:=⟨some a,.val (.bin .num .lss (.t b) (.c (.int .u64 c))),none⟩
abbrev M0 (a b:Nat)(c:Int):Am.Item:=⟨some a,.val (.bin .num .eql (.t b) (.c (.int .u8 c))),none⟩
abbrev M1 (a b c d:Nat):Am.Item:=⟨some a,.val (.idx (.t b) (.t c)),some (d,true)⟩
abbrev M2 (a b c d e f:Nat):Am.Item:=⟨some a,.val (.loadv b c (some d) (.t e)),some (f,false)⟩
abbrev M3 (a b:Nat)(c:Int):Am.Item:=⟨some a,.val (.bin .num .geq (.t b) (.c (.int .u8 c))),none⟩
abbrev M4 (a b:Nat)(c:Int)(d:Nat):Am.Item:=⟨some a,.val (.bin .num .leq (.t b) (.c (.int .u8 c))),some (d,true)⟩
abbrev SP (a b c d e f:Nat):Am.Item:=⟨some a,.call (.f b) [(.t c),(.t d),(.t e)],some (f,false)⟩
abbrev jQ (g:List Am.Item)(c:RC):RC:=.seq (.reg g) c
abbrev jD (g:List Am.Item)(c:RC):RC:=.seq (.draw g) c
abbrev jX (a b:Nat):RC:=.cond (.t a) .skip (.exit b)
abbrev IL:=List Am.Item
abbrev CT (k n:Nat)(r:RC)(o:List RR):Prop:=CK Tryz.prog k n r o
def QJH:IL:=[jh 0]
def QJI:IL:=[⟨some 11,.val (.build [.int .i64 0,.int .u64 0,.str [],.nils,.nils,.nils,.nils] [(0,1,(.c (.int .i64 4))),(1,1,(.c (.int .u64 1)))]),none⟩,yn 1 1,jq 7 1 11]
def QJJ:IL:=[⟨some 12,.val (.build [.int .i64 0,.int .u64 0,.str [],.nils,.nils,.nils,.nils] [(0,1,(.c (.int .i64 4))),(1,1,(.c (.int .u64 2)))]),none⟩,yn 2 2,jq 7 2 12]
def QJK:IL:=[jf 13 7 1,jf 14 7 2,⟨some 15,.bsl 7 2 [.int .i64 0,.int .u64 0,.str [],.nils,.nils,.nils,.nils] [(0,7,(.t 13)),(7,7,(.t 14))],none⟩,⟨some 16,.val (.build [.int .i64 0,.int .u64 0,.str [],.nils,.nils,.nils,.nils] [(0,1,(.c (.int .i64 11))),(3,1,(.t 15))]),none⟩,⟨some 17,.val (.build [.int .i64 0,.int .i64 0,.int .u64 0,.str [],.nils,.nils,.nils,.nils] [(0,1,(.c (.int .i64 3))),(1,7,(.t 16))]),none⟩,N7 3 3,jq 8 3 17]
def QJL:IL:=[⟨some 18,.val (.build [.int .i64 0,.int .u64 0,.str [],.nils,.nils,.nils,.nils] [(0,1,(.c (.int .i64 4))),(1,1,(.c (.int .u64 5)))]),none⟩,⟨some 19,.val (.build [.int .i64 0,.int .i64 0,.int .u64 0,.str [],.nils,.nils,.nils,.nils] [(0,1,(.c (.int .i64 1))),(1,7,(.t 18))]),none⟩,⟨some 20,.val (.build [.int .i64 0,.int .u64 0,.str [],.nils,.nils,.nils,.nils] [(0,1,(.c (.int .i64 2))),(1,1,(.c (.int .u64 18446744073709551615)))]),none⟩,⟨some 21,.val (.build [.int .i64 0,.int .i64 0,.int .u64 0,.str [],.nils,.nils,.nils,.nils] [(0,1,(.c (.int .i64 2))),(1,7,(.t 20))]),none⟩,jf 22 8 3,⟨some 23,.bsl 8 3 [.int .i64 0,.int .i64 0,.int .u64 0,.str [],.nils,.nils,.nils,.nils] [(0,8,(.t 19)),(8,8,(.t 21)),(16,8,(.t 22))],none⟩,⟨some 24,.val (.build [.int .i64 0,.int .u64 0,.str [],.nils,.nils,.nils,.nils] [(0,1,(.c (.int .i64 10))),(5,1,(.t 23))]),none⟩,yn 4 4,jq 7 4 24]
def QJM:IL:=[N4 26 22,jw 27 0 4 7 4,⟨some 28,.call (.f 10) [(.t 26),(.c (.str [97,46,77])),(.t 27)],none⟩,ja 25 28,jx 29 25 0,jx 30 25 1,ja 5 29,ja 6 30]
def QJN:IL:=[N4 32 22,jw 33 0 4 7 4,⟨some 34,.call (.f 10) [(.t 32),(.c (.str [97,46,78])),(.t 33)],none⟩,ja 31 34,jx 35 31 0,jx 36 31 1,ja 7 35,ja 8 36]
def QJO:IL:=[N4 37 22,jw 38 0 3 8 3,⟨some 39,.call (.f 16) [(.t 37),(.c (.int .i64 0)),(.t 38)],none⟩,ja 9 39]
def QJP:IL:=[⟨some 40,.val (.build [.int .i64 0,.int .u64 0,.str [],.nils,.nils,.nils,.nils] [(0,1,(.c (.int .i64 2))),(1,1,(.c (.int .u64 18446744073709551615)))]),none⟩,jr 41 23 40,zu 10 10,jq 4 10 41]
def QJQ:IL:=[ja 42 5,⟨some 43,.val (.bin .str .eql (.t 42) (.c (.str [8,5,17,1,29,3,0,1,2]))),none⟩,ja 44 43,jg 45 6 44,yl 46 45 0 44,jj 47 44 46,ja 48 47,jg 49 8 48,yl 50 49 10 48,jj 51 48 50,ja 52 51,SN 53 22 52,MM 54 0 4 7 4 52,⟨some 55,.call (.f 11) [(.t 53),(.c (.int .i64 0)),(.t 54)],(some (52,true))⟩,jg 56 5 52,MS 57 55 56 52,jj 58 52 57,ja 59 58,SN 60 22 59,MM 61 0 4 7 4 59,⟨some 62,.call (.f 24) [(.t 60),(.c (.str [97,46,77])),(.t 61)],(some (59,true))⟩,yl 63 62 9 59,jj 64 59 63,ja 65 64,SN 66 22 65,MM 67 0 4 7 4 65,⟨some 68,.call (.f 24) [(.t 66),(.c (.str [])),(.t 67)],(some (65,true))⟩,yl 69 68 (-1) 65,jj 70 65 69,ja 71 70,jg 72 9 71,ys 73 1 72 71,yl 74 73 1 71,jj 75 71 74,ja 76 75,jg 77 9 76,N8 78 4 77 0 76,jk 79 1 78 76,yo 80 79 76,yl 81 80 5 76,jj 82 76 81,ja 83 82,jg 84 9 83,N8 85 4 84 0 83,jk 86 3 85 83,yo 87 86 83,⟨some 88,.val (.bin .str .eql (.t 87) (.c (.str [0,1,2]))),(some (83,true))⟩,jj 89 83 88,ja 90 89,jk 91 1 10 90,yz 92 0 10 91 90,yl 93 92 1 90,jj 94 90 93,ja 95 94,jk 96 2 10 95,yz 97 0 10 96 95,⟨some 98,.val (.bin .num .eql (.t 97) (.c (.int .u64 1))),(some (95,true))⟩,jj 99 95 98,ja 0 99]
def r8:RC:=jQ QJH (jQ QJI (jQ QJJ (jQ QJK (jQ QJL (jD QJM (jD QJN (jD QJO (jQ QJP (jD QJQ (.ret))))))))))
def o8:List RR:=[.tmp 0]
theorem k8:CT 8 100 r8 o8:=ck Tryz.func8 Tryz.ntmps8 (by decide +kernel)
abbrev QxJ:IL:=[je 1 1 0,zu 2 2]
abbrev QxK:IL:=[jb 3 0 1,jc 4 3]
abbrev QxL:IL:=[jt 6 4 1,ja 5 6]
abbrev QxM:IL:=[jt 7 4 4,ja 5 7]
abbrev QxN:IL:=[jt 8 4 5,ja 5 8]
abbrev QxO:IL:=[jt 9 4 9,ja 5 9]
abbrev QxP:IL:=[jb 10 1 1,jc 11 10,⟨some 12,.val (.build [.int .i64 0,.int .i64 0,.int .u64 0,.str []] [(1,1,(.c (.int .i64 0))),(2,1,(.t 11))]),none⟩,jq 4 2 12]
abbrev QxQ:IL:=[jt 14 4 2,ja 13 14]
abbrev QxR:IL:=[jt 15 4 3,ja 13 15]
abbrev QxS:IL:=[jb 16 1 1,jc 17 16,ML 18 17,jr 19 49 18,⟨some 20,.val (.build [.int .i64 0,.int .i64 0,.int .u64 0,.str []] [(1,1,(.c (.int .i64 1))),(2,1,(.t 19))]),none⟩,jq 4 2 20]
abbrev Qbm:IL:=[jt 22 4 6,ja 21 22]
abbrev Qbn:IL:=[jf 23 7 1,jr 24 50 23,⟨some 25,.val (.fld 1 none (.t 24)),none⟩,⟨some 26,.val (.build [.int .i64 0,.int .i64 0,.int .u64 0,.str []] [(1,1,(.c (.int .i64 2))),(2,1,(.t 25))]),none⟩,jq 4 2 26]
abbrev Qbo:IL:=[jt 28 4 7,ja 27 28]
abbrev Qbp:IL:=[jt 29 4 8,ja 27 29]
abbrev Qbq:IL:=[jb 30 2 1,jc 31 30,⟨some 32,.val (.build [.int .i64 0,.int .i64 0,.int .u64 0,.str []] [(1,1,(.c (.int .i64 3))),(3,1,(.t 31))]),none⟩,jq 4 2 32]
abbrev Qbr:IL:=[⟨some 33,.val (.build [.int .i64 0,.int .i64 0,.int .u64 0,.str []] []),none⟩,jq 4 2 33]
abbrev r23:RC:=jQ QxJ (.seq (jQ QxK (.block 0 (.seq (jQ QxL (.cond (.t 5) (.skip) (jQ QxM (.cond (.t 5) (.skip) (jQ QxN (.cond (.t 5) (.skip) (.reg QxO))))))) (.cond (.t 5) (jQ QxP (.ret)) (.seq (jQ QxQ (.cond (.t 13) (.skip) (.reg QxR))) (.cond (.t 13) (jQ QxS (.ret)) (jQ Qbm (.cond (.t 21) (jQ Qbn (.ret)) (.seq (jQ Qbo (.cond (.t 27) (.skip) (.reg Qbp))) (.cond (.t 27) (jQ Qbq (.ret)) (.skip))))))))))) (jQ Qbr (.ret)))
abbrev o23:List RR:=[.cell 2 (some 4)]
theorem k23:CT 23 34 r23 o23:=ck Tryz.func23 Tryz.ntmps23 (by decide +kernel)
abbrev QxT:IL:=[je 3 3 0,je 5 5 2,yw 6,jd 7 0]
abbrev QxU:IL:=[jf 13 2 3,ja 14 1,jy 15 28 13 14,ja 12 15,jx 16 12 0,jx 17 12 1,ja 8 16,ja 9 17]
abbrev QxV:IL:=[ja 18 9,jz 19 18]
abbrev QxW:IL:=[yw 6,jd 7 10]
abbrev QxX:IL:=[jf 20 2 3,ja 21 8,jy 22 29 20 21,jz 23 22]
abbrev QxY:IL:=[yw 6,jd 7 1]
abbrev QxZ:IL:=[jf 24 2 3,ja 25 8,jf 26 7 5,yh 27 30 24 25 26,ja 10 27]
abbrev Qx0:IL:=[ja 28 10,yc 29 28 0]
abbrev Qx1:IL:=[ja 30 10,yw 6,ja 7 30]
abbrev Qx2:IL:=[jf 31 2 3,MT 32 0 2 31,ja 33 8,jf 34 7 5,yh 35 31 32 33 34,ja 11 35]
abbrev Qbs:IL:=[ja 36 11,ji 37 0 36,yp 38 37 65536]
abbrev Qbt:IL:=[yw 6,jd 7 3]
abbrev Qbu:IL:=[ja 39 11,ja 6 39,jd 7 0]
abbrev Fe:RC:=jQ QxT (jQ QxU (.seq (jQ QxV (.cond (.t 19) (jQ QxW (.ret)) (.skip))) (.seq (jQ QxX (.cond (.t 23) (jQ QxY (.ret)) (.skip))) (.seq (jQ QxZ (jQ Qx0 (.cond (.t 29) (jQ Qx1 (.ret)) (.skip)))) (jQ Qx2 (.seq (jQ Qbs (.cond (.t 38) (jQ Qbt (.ret)) (.skip))) (jQ Qbu (.ret))))))))
abbrev o10:List RR:=[.tmp 6,.tmp 7]
theorem k10:CT 10 40 Fe o10:=ck Tryz.func10 Tryz.ntmps10 (by decide +kernel)
abbrev Qx3:IL:=[⟨some 0,.allocN 0 [.nils,.nils],none⟩]
abbrev Qx4:IL:=[⟨some 1,.val (.build [.int .i64 0,.str [],.str [],.int .i64 0,.int .i64 0,.int .i64 0,.int .i64 0,.int .i64 0] [(0,1,(.c (.int .i64 1))),(1,1,(.c (.str [97]))),(3,1,(.c (.int .i64 3))),(5,1,(.c (.int .i64 4))),(6,1,(.c (.int .i64 (-1)))),(7,1,(.c (.int .i64 (-1))))]),none⟩,⟨some 2,.val (.build [.int .i64 0,.str [],.str [],.int .i64 0,.int .i64 0,.int .i64 0,.int .i64 0,.int .i64 0] [(0,1,(.c (.int .i64 2))),(1,1,(.c (.str [98]))),(3,1,(.c (.int .i64 2))),(5,1,(.c (.int .i64 2))),(6,1,(.c (.int .i64 (-1)))),(7,1,(.c (.int .i64 (-1))))]),none⟩,⟨some 3,.val (.build [.int .i64 0,.str [],.str [],.int .i64 0,.int .i64 0,.int .i64 0,.int .i64 0,.int .i64 0] [(0,1,(.c (.int .i64 3))),(1,1,(.c (.str [99]))),(3,1,(.c (.int .i64 4))),(5,1,(.c (.int .i64 4))),(6,1,(.c (.int .i64 (-1)))),(7,1,(.c (.int .i64 (-1))))]),none⟩,⟨some 4,.bsl 8 3 [.int .i64 0,.str [],.str [],.int .i64 0,.int .i64 0,.int .i64 0,.int .i64 0,.int .i64 0] [(0,8,(.t 1)),(8,8,(.t 2)),(16,8,(.t 3))],none⟩,⟨some 5,.val (.build [.str [],.nils,.int .i64 0] [(0,1,(.c (.str [97,46,77]))),(1,1,(.t 4))]),none⟩,⟨some 6,.bsl 3 1 [.str [],.nils,.int .i64 0] [(0,3,(.t 5))],none⟩,MT 7 0 1 6,jq 2 0 7]
abbrev r22:RC:=jQ Qx3 (jQ Qx4 (.ret))
abbrev o22:List RR:=[.cell 0 (some 2)]
theorem k22:CT 22 8 r22 o22:=ck Tryz.func22 Tryz.ntmps22 (by decide +kernel)
abbrev Qx5:IL:=[je 3 3 0,je 5 5 2,yf 6]
abbrev Qx6:IL:=[jf 7 2 3,ja 8 1,jy 9 29 7 8,jz 10 9]
abbrev Qx7:IL:=[yf 6]
abbrev Qx8:IL:=[jf 11 2 3,MT 12 0 2 11,ja 13 1,jf 14 8 5,yh 15 35 12 13 14,ja 6 15]
abbrev r16:RC:=jQ Qx5 (.seq (jQ Qx6 (.cond (.t 10) (jQ Qx7 (.ret)) (.skip))) (jQ Qx8 (.ret)))
abbrev o16:List RR:=[.tmp 6]
theorem k16:CT 16 16 r16 o16:=ck Tryz.func16 Tryz.ntmps16 (by decide +kernel)
abbrev Qx9:IL:=[je 3 3 0,je 5 5 2,yw 6]
abbrev Qya:IL:=[jf 7 2 3,ja 8 1,jy 9 29 7 8,jz 10 9]
abbrev Qyb:IL:=[yw 6]
abbrev Qyc:IL:=[jf 11 2 3,MT 12 0 2 11,ja 13 1,jf 14 7 5,yh 15 31 12 13 14,ja 6 15]
abbrev JX:RC:=jQ Qx9 (.seq (jQ Qya (.cond (.t 10) (jQ Qyb (.ret)) (.skip))) (jQ Qyc (.ret)))
abbrev o11:List RR:=[.tmp 6]
theorem k11:CT 11 16 JX o11:=ck Tryz.func11 Tryz.ntmps11 (by decide +kernel)
abbrev Qyd:IL:=[je 3 3 0,je 5 5 2,jd 6 0]
abbrev Qye:IL:=[jf 10 2 3,ja 11 1,jf 12 7 5,yh 13 10 10 11 12,ja 9 13,jx 14 9 0,jx 15 9 1,ja 7 14,ja 8 15]
abbrev Qyf:IL:=[ja 16 8,yc 17 16 0]
abbrev Qyg:IL:=[jd 6 (-1)]
abbrev Qyh:IL:=[ja 18 7,ji 19 0 18,ja 6 19]
abbrev r24:RC:=jQ Qyd (jQ Qye (.seq (jQ Qyf (.cond (.t 17) (jQ Qyg (.ret)) (.skip))) (jQ Qyh (.ret))))
abbrev o24:List RR:=[.tmp 6]
theorem k24:CT 24 20 r24 o24:=ck Tryz.func24 Tryz.ntmps24 (by decide +kernel)
abbrev Qyi:IL:=[zj 2 0]
abbrev Qyj:IL:=[ja 3 0,MN 4 3,⟨some 5,.val (.bin .num .shl (.t 4) (.c (.int .u64 1))),none⟩,ja 6 0,⟨some 7,.val (.bin .num .shr (.t 6) (.c (.int .u64 63))),none⟩,MN 8 7,⟨some 9,.val (.bin .num .xor (.t 5) (.t 8)),none⟩,ja 2 9]
abbrev r49:RC:=jQ Qyi (jQ Qyj (.ret))
abbrev o49:List RR:=[.tmp 2]
theorem k49:CT 49 10 r49 o49:=ck Tryz.func49 Tryz.ntmps49 (by decide +kernel)
abbrev Qyk:IL:=[je 1 1 0,yn 2 2]
abbrev Qyl:IL:=[jb 3 0 1,jc 4 3,jt 5 4 6,ja 6 5,jk 7 1 1 6,ju 8 7 6,zh 9 77 8 6,yl 10 9 0 6,jj 11 6 10]
abbrev Qym:IL:=[jb 12 1 1,⟨none,.store 1 (.t 12) (.c (.int .u64 9221120237041090560)),none⟩]
abbrev Qyn:IL:=[jf 13 7 1,jq 7 2 13]
abbrev r50:RC:=jQ Qyk (.seq (jQ Qyl (.cond (.t 11) (.reg Qym) (.skip))) (jQ Qyn (.ret)))
abbrev o50:List RR:=[.cell 2 (some 7)]
theorem k50:CT 50 14 r50 o50:=ck Tryz.func50 Tryz.ntmps50 (by decide +kernel)
abbrev Qyo:IL:=[je 2 2 0,je 3 3 1,jd 4 0,jh 5]
abbrev Qyp:IL:=[jb 7 0 2,jc 8 7,D9 9 56 3,yq 10 55 8 9,ja 6 10]
abbrev Qyq:IL:=[ja 11 6,⟨some 12,.val (.mnx true (.t 11) (.c (.int .i64 0))),none⟩,ja 13 6,ym 14 13 0,ja 4 12,ja 5 14]
abbrev r28:RC:=jQ Qyo (jQ Qyp (jQ Qyq (.ret)))
abbrev o28:List RR:=[.tmp 4,.tmp 5]
theorem k28:CT 28 15 r28 o28:=ck Tryz.func28 Tryz.ntmps28 (by decide +kernel)
abbrev Qyr:IL:=[je 2 2 0,jh 4]
abbrev Qys:IL:=[ja 5 1,ym 6 5 0,ja 7 6,jg 8 1 7,jk 9 0 2 7,ju 10 9 7,ys 11 1 10 7,D8 12 8 11 7,jj 13 7 12,ja 14 13,zn 15 2 2 14,zh 16 57 15 14,yl 17 16 0 14,jj 18 14 17,ja 4 18]
abbrev r29:RC:=jQ Qyr (jQ Qys (.ret))
abbrev o29:List RR:=[.tmp 4]
theorem k29:CT 29 19 r29 o29:=ck Tryz.func29 Tryz.ntmps29 (by decide +kernel)
abbrev Qyt:IL:=[je 3 3 0,je 5 5 2,jd 6 0]
abbrev Qyu:IL:=[ja 8 1,yu 9 8 0,ja 10 9,jv 11 1 10,jo 12 0 3 10,js 13 12 10,ye 14 1 13 10,N9 15 11 14 10,jn 16 10 15]
abbrev Qyv:IL:=[jd 6 10]
abbrev Qyw:IL:=[jw 17 0 3 2 3,MT 18 0 2 17,jb 19 0 3,yb 20 0 3 19,ja 21 1,jl 22 3 20 21,yd 23 3 22,jw 24 0 5 7 5,⟨some 25,.call (.f 58) [(.t 18),(.t 23),(.t 24),(.c (.int .i64 1))],none⟩,ja 7 25]
abbrev Qyx:IL:=[ja 26 7,yc 27 26 0]
abbrev Qyy:IL:=[ja 28 7,ja 6 28]
abbrev Qyz:IL:=[jf 29 7 5,jr 30 59 29,yp 31 30 4096]
abbrev QyA:IL:=[jd 6 3]
abbrev QyB:IL:=[jd 6 0]
abbrev r30:RC:=jQ Qyt (.seq (jQ Qyu (.cond (.t 16) (jQ Qyv (.ret)) (.skip))) (.seq (jD Qyw (jQ Qyx (.cond (.t 27) (jQ Qyy (.ret)) (.skip)))) (.seq (jQ Qyz (.cond (.t 31) (jQ QyA (.ret)) (.skip))) (jQ QyB (.ret)))))
abbrev o30:List RR:=[.tmp 6]
theorem k30:CT 30 32 r30 o30:=ck Tryz.func30 Tryz.ntmps30 (by decide +kernel)
abbrev QyC:IL:=[je 3 3 0,je 5 5 2,yw 6]
abbrev QyD:IL:=[jb 12 0 3,jf 13 2 12,ja 14 1,jf 15 7 5,yh 16 60 13 14 15,yn 7 7,jq 7 7 16]
abbrev QyE:IL:=[yf 8]
abbrev QyF:IL:=[jb 17 6 7,jc 18 17,ja 9 18]
abbrev QyG:IL:=[jb 19 5 7,jc 20 19,ji 21 1 20,jd 22 0]
abbrev QyH:IL:=[jp 23 22 21]
abbrev QyI:IL:=[jl 24 8 20 22,jf 25 8 24,N7 11 11,jq 8 11 25]
abbrev QyJ:IL:=[ja 26 9,ji 27 1 26,yp 28 27 0,ja 29 28,jg 30 9 29,N8 31 4 30 0 29,jk 32 0 31 29,yo 33 32 29,jk 34 0 11 29,yz 35 0 11 34 29,D8 36 33 35 29,jj 37 29 36]
abbrev QyK:IL:=[ja 38 8,ja 39 9,⟨some 40,.val (.iaddr 4 none (.t 39) (.c (.int .i64 0))),none⟩,jf 41 4 40,MP 42 4 1 0 4 41,yr 43 4 40 53 38 42,ja 8 43]
abbrev QyL:IL:=[ja 44 9,⟨some 45,.val (.slc (some 4) (.t 44) (some (.c (.int .i64 1))) none none),none⟩,ja 9 45]
abbrev SQ:RC:=.seq (jD QyJ (jX 37 2)) (.block 3 (jQ QyK (.reg QyL)))
abbrev Qbx:IL:=[ja 46 8,jf 47 2 3,ja 48 1,jf 49 8 11,yh 50 35 47 48 49,yr 51 4 40 53 46 50,ja 8 51]
abbrev Qby:IL:=[jm 52 22 1,ja 22 52]
abbrev QyM:RC:=.gho (.drop 11) (jQ QyH (.seq (jX 23 0) (.seq (.block 1 (jQ QyI (.seq (.block 2 (.loop SQ)) (.reg Qbx)))) (.reg Qby))))
abbrev Qbz:IL:=[ja 53 8,ja 54 9,yr 55 4 40 53 53 54,jr 56 61 55,ja 6 56]
abbrev r31:RC:=jQ QyC (jQ QyD (jQ QyE (.gho (.vec 8 8 4) (jQ QyF (.seq (jQ QyG (.block 0 (.loop QyM))) (jQ Qbz (.ret)))))))
abbrev o31:List RR:=[.tmp 6]
theorem k31:CT 31 57 r31 o31:=ck Tryz.func31 Tryz.ntmps31 (by decide +kernel)
abbrev QyN:IL:=[je 3 3 0,je 5 5 2,yf 6]
abbrev QyO:IL:=[jb 10 0 3,jb 11 0 10,yb 12 0 3 11,ja 13 1,jl 14 3 12 13,yd 15 3 14,jb 16 0 5,yb 17 0 5 16,jy 18 66 15 17,ja 9 18,jx 19 9 0,jx 20 9 1,zd 7 7,yg 0 7 8 7 19,ja 8 20]
abbrev QyP:IL:=[ja 21 8,jz 22 21]
abbrev QyQ:IL:=[yf 6]
abbrev QyR:IL:=[jw 23 0 7 8 7,jr 24 67 23,jw 25 0 3 2 3,jw 26 0 7 8 7,jb 27 1 5,jw 28 0 5 7 27,⟨some 29,.call (.t 24) [(.t 25),(.t 26),(.t 28)],none⟩,ja 6 29]
abbrev r35:RC:=jQ QyN (jD QyO (.seq (jQ QyP (.cond (.t 22) (jQ QyQ (.ret)) (.skip))) (jD QyR (.ret))))
abbrev o35:List RR:=[.tmp 6]
theorem k35:CT 35 30 r35 o35:=ck Tryz.func35 Tryz.ntmps35 (by decide +kernel)
abbrev QyS:IL:=[jd 4 0]
abbrev QyT:IL:=[ja 6 0,ji 7 1 6,jd 8 0]
abbrev QyU:IL:=[jp 9 8 7]
abbrev QyV:IL:=[ja 10 8,ja 5 10]
abbrev QyW:IL:=[ja 11 1,ja 12 0,ja 13 5,jl 14 3 12 13,jf 15 3 14,Fa 16 11 15]
abbrev QyX:IL:=[ja 17 5,ja 4 17]
abbrev QyY:IL:=[jm 18 8 1,ja 8 18]
abbrev QyZ:RC:=jQ QyU (.seq (jX 9 0) (.seq (.block 1 (jQ QyV (jQ QyW (.cond (.t 16) (jQ QyX (.ret)) (.skip))))) (.reg QyY)))
abbrev Qy0:IL:=[jd 4 (-1)]
abbrev r55:RC:=jQ QyS (.seq (jQ QyT (.block 0 (.loop QyZ))) (jQ Qy0 (.ret)))
abbrev o55:List RR:=[.tmp 4]
theorem k55:CT 55 19 r55 o55:=ck Tryz.func55 Tryz.ntmps55 (by decide +kernel)
abbrev Qy1:IL:=[je 2 2 0,jh 3]
abbrev Qy2:IL:=[jb 4 0 2,jc 5 4,jc 6 1,MU 7 5 6,ja 3 7]
abbrev r56:RC:=jQ Qy1 (jQ Qy2 (.ret))
abbrev o56:List RR:=[.tmp 3]
theorem k56:CT 56 8 r56 o56:=ck Tryz.func56 Tryz.ntmps56 (by decide +kernel)
abbrev Qy3:IL:=[je 1 1 0,jd 2 0]
abbrev Qy4:IL:=[jf 4 2 1,jr 5 82 4,ja 3 5]
abbrev Qy5:IL:=[jd 2 3]
abbrev Qy6:IL:=[jf 7 2 1,jr 8 83 7,ja 6 8]
abbrev Qy7:IL:=[jd 2 8]
abbrev Qy8:IL:=[jf 10 2 1,jr 11 84 10,ja 9 11]
abbrev Qy9:IL:=[jd 2 11]
abbrev Qza:IL:=[jf 13 2 1,jr 14 85 13,ja 12 14]
abbrev Qzb:IL:=[jd 2 9]
abbrev Qzc:IL:=[jf 16 2 1,jr 17 86 16,ja 15 17]
abbrev QbB:IL:=[jd 2 6]
abbrev QbC:IL:=[jf 19 2 1,jr 20 87 19,ja 18 20]
abbrev QbD:IL:=[jd 2 1]
abbrev QbE:IL:=[jf 22 2 1,jr 23 88 22,ja 21 23]
abbrev QbF:IL:=[jd 2 19]
abbrev QbG:IL:=[jd 2 0]
abbrev r57:RC:=jQ Qy3 (.seq (.block 0 (jQ Qy4 (.cond (.t 3) (jQ Qy5 (.ret)) (jQ Qy6 (.cond (.t 6) (jQ Qy7 (.ret)) (jQ Qy8 (.cond (.t 9) (jQ Qy9 (.ret)) (jQ Qza (.cond (.t 12) (jQ Qzb (.ret)) (jQ Qzc (.cond (.t 15) (jQ QbB (.ret)) (jQ QbC (.cond (.t 18) (jQ QbD (.ret)) (jQ QbE (.cond (.t 21) (jQ QbF (.ret)) (.skip)))))))))))))))) (jQ QbG (.ret)))
abbrev o57:List RR:=[.tmp 2]
theorem k57:CT 57 24 r57 o57:=ck Tryz.func57 Tryz.ntmps57 (by decide +kernel)
abbrev Qzd:IL:=[je 4 4 0,je 5 5 1,je 6 6 2,jd 8 0]
abbrev Qze:IL:=[jb 17 0 6,jc 18 17,yc 19 18 10,ja 20 19,yv 21 7 6 20,ze 22 89 21 20,jn 23 20 22,ja 16 23]
abbrev Qzf:IL:=[jd 8 12]
abbrev Qzg:IL:=[ja 25 3,yp 26 25 16,ja 24 26]
abbrev Qzh:IL:=[jd 8 17]
abbrev Qzi:IL:=[jb 27 5 6,jc 28 27,ji 29 1 28,jd 30 0]
abbrev Qzj:IL:=[jp 31 30 29]
abbrev Qzk:IL:=[ja 32 30,ja 9 32]
abbrev Qzl:IL:=[jf 33 2 4,jf 34 3 5,jb 35 5 6,jc 36 35,ja 37 9,ja 38 3,⟨some 39,.call (.f 90) [(.t 33),(.t 34),(.t 36),(.t 37),(.t 38)],none⟩,ja 10 39]
abbrev Qzm:IL:=[ja 40 10,yc 41 40 0]
abbrev QbH:IL:=[ja 42 10,ja 8 42]
abbrev QbI:IL:=[jm 43 30 1,ja 30 43]
abbrev SR:RC:=jQ Qzj (.seq (jX 31 1) (.seq (.block 2 (jQ Qzk (jQ Qzl (jQ Qzm (.cond (.t 41) (jQ QbH (.ret)) (.skip)))))) (.reg QbI)))
abbrev QbJ:IL:=[jb 44 1 5,jc 45 44,ji 46 1 45,jd 47 0]
abbrev QbK:IL:=[jp 48 47 46]
abbrev QbL:IL:=[jl 49 8 45 47,jf 50 8 49,zd 12 12,jq 8 12 50]
abbrev QbM:IL:=[jb 51 3 12,jc 52 51,jt 53 52 1,ja 54 53,jk 55 5 6 54,ju 56 55 54,⟨some 57,.val (.mkfn (.func 92) [] [(.t 12)]),(some (54,true))⟩,⟨some 58,.callF (.f 91) [(.t 56),(.t 57)],(some (54,true))⟩,yy 59 58 54,jj 60 54 59]
abbrev QbN:IL:=[jd 8 14]
abbrev QbO:IL:=[jm 61 47 1,ja 47 61]
abbrev SS:RC:=.gho (.drop 12) (jQ QbK (.seq (jX 48 3) (.seq (.block 4 (jQ QbL (jQ QbM (.cond (.t 60) (jQ QbN (.ret)) (.skip))))) (.reg QbO))))
abbrev QbP:IL:=[jb 62 6 6,jc 63 62,ji 64 1 63,jd 65 0]
abbrev QbQ:IL:=[jp 66 65 64]
abbrev QbR:IL:=[jl 67 4 63 65,jf 68 4 67,zu 14 14,jq 4 14 68]
abbrev QbS:IL:=[jf 69 2 4,jf 70 3 5,jf 71 4 14,yh 72 93 69 70 71,ja 15 72]
abbrev QbT:IL:=[ja 73 15,yc 74 73 0]
abbrev QbU:IL:=[ja 75 15,ja 8 75]
abbrev QbV:IL:=[jm 76 65 1,ja 65 76]
abbrev SU:RC:=.gho (.drop 14) (jQ QbQ (.seq (jX 66 5) (.seq (.block 6 (jQ QbR (jQ QbS (jQ QbT (.cond (.t 74) (jQ QbU (.ret)) (.skip)))))) (.reg QbV))))
abbrev QbW:IL:=[jd 8 0]
abbrev r58:RC:=jQ Qzd (.seq (.block 0 (jQ Qze (.cond (.t 16) (jQ Qzf (.ret)) (jQ Qzg (.cond (.t 24) (jQ Qzh (.ret)) (.skip)))))) (.seq (jQ Qzi (.block 1 (.loop SR))) (.seq (jQ QbJ (.block 3 (.loop SS))) (.seq (jQ QbP (.block 5 (.loop SU))) (jQ QbW (.ret))))))
abbrev o58:List RR:=[.tmp 8]
theorem k58:CT 58 77 r58 o58:=ck Tryz.func58 Tryz.ntmps58 (by decide +kernel)
abbrev Qzn:IL:=[je 1 1 0,jd 2 0]
abbrev Qzo:IL:=[jb 6 6 1,jc 7 6,ji 8 1 7,⟨some 9,.val (.bin .num .add (.c (.int .i64 1)) (.t 8)),none⟩,ja 3 9]
abbrev Qzp:IL:=[jf 10 7 1,jr 11 94 10,ji 12 1 11,jd 13 0]
abbrev Qzq:IL:=[jp 14 13 12]
abbrev Qzr:IL:=[jl 15 7 11 13,jf 16 7 15,yn 5 5,jq 7 5 16]
abbrev Qzs:IL:=[ja 17 3,jf 18 7 5,jr 19 59 18,yi 20 17 19,ja 3 20]
abbrev Qzt:IL:=[jm 21 13 1,ja 13 21]
abbrev Qzu:RC:=.gho (.drop 5) (jQ Qzq (.seq (jX 14 0) (.seq (.block 1 (jQ Qzr (.reg Qzs))) (.reg Qzt))))
abbrev Qzv:IL:=[ja 22 3,ja 2 22]
abbrev r59:RC:=jQ Qzn (jQ Qzo (.seq (jQ Qzp (.block 0 (.loop Qzu))) (jQ Qzv (.ret))))
abbrev o59:List RR:=[.tmp 2]
theorem k59:CT 59 23 r59 o59:=ck Tryz.func59 Tryz.ntmps59 (by decide +kernel)
abbrev Qzw:IL:=[je 3 3 0,je 5 5 2,yn 6 6]
abbrev Qzx:IL:=[jb 14 6 5,jc 15 14,Vb 16 95 15,⟨some 17,.val (.build [.int .i64 0,.int .u64 0,.str [],.nils,.nils,.nils,.nils] [(0,1,(.c (.int .i64 10))),(6,1,(.t 16))]),none⟩,yn 7 7,jq 7 7 17]
abbrev Qzy:IL:=[ja 18 1,yu 19 18 0,ja 20 19,jv 21 1 20,jo 22 0 3 20,js 23 22 20,ye 24 1 23 20,N9 25 21 24 20,jn 26 20 25]
abbrev Qzz:IL:=[jf 27 7 7,jq 7 6 27]
abbrev QzA:IL:=[jb 28 5 5,jc 29 28,jr 30 96 29,ji 31 1 30,jd 32 0]
abbrev QzB:IL:=[jp 33 32 31]
abbrev QzC:IL:=[jl 34 8 30 32,jf 35 8 34,N7 9 9,jq 8 9 35]
abbrev QzD:IL:=[jb 37 0 3,yb 38 0 3 37,ja 39 1,jl 40 3 38 39,yd 41 3 40,jb 42 0 9,yb 43 0 9 42,jy 44 66 41 43,ja 36 44,jx 45 36 0,jx 46 36 1,zd 10 10,yg 0 10 8 10 45,ja 11 46]
abbrev QzE:IL:=[jb 47 3 10,jc 48 47,jt 49 48 3,ja 50 49,jo 51 3 10 50,js 52 51 50,yt 53 52 4 50,jn 54 50 53,ja 55 54,jo 56 3 10 55,js 57 56 55,yt 58 57 5 55,jn 59 55 58,ja 12 59]
abbrev QzF:IL:=[jf 60 2 3,jf 61 8 10,jb 62 1 9,jf 63 7 62,yh 64 97 60 61 63,yn 13 13,jq 7 13 64]
abbrev QbY:IL:=[ja 65 12,jz 66 65,ja 67 66,yv 68 7 13 67,ze 69 98 68 67,za 70 69 67,jn 71 67 70]
abbrev QbZ:IL:=[jb 72 5 7,jc 73 72,jb 74 0 9,jc 75 74,jf 76 7 13,⟨some 77,.val (.build [.int .i64 0,.int .i64 0,.int .u64 0,.str [],.nils,.nils,.nils,.nils] [(0,1,(.t 75)),(1,7,(.t 76))]),none⟩,⟨some 78,.bsl 8 1 [.int .i64 0,.int .i64 0,.int .u64 0,.str [],.nils,.nils,.nils,.nils] [(0,8,(.t 77))],none⟩,yr 79 8 136 55 73 78,jb 80 5 7,jq 1 80 79]
abbrev Qb0:IL:=[jm 81 32 1,ja 32 81]
abbrev QzG:RC:=.gho (.drop 13) (.gho (.drop 10) (.gho (.drop 9) (jQ QzB (.seq (jX 33 0) (.seq (.block 1 (jQ QzC (jD QzD (jQ QzE (jQ QzF (jQ QbY (.cond (.t 71) (.reg QbZ) (.skip)))))))) (.reg Qb0))))))
abbrev Qb1:IL:=[jb 82 6 7,jc 83 82,zx 84 99 83 100]
abbrev Qb2:IL:=[jf 85 7 7,jq 7 6 85]
abbrev r60:RC:=jQ Qzw (jQ Qzx (.gho (.vecc 7 5 1100 8) (.seq (jQ Qzy (.cond (.t 26) (jQ Qzz (.ret)) (.skip))) (.seq (jQ QzA (.block 0 (.loop QzG))) (jQ Qb1 (jQ Qb2 (.ret)))))))
abbrev o60:List RR:=[.cell 6 (some 7)]
theorem k60:CT 60 86 r60 o60:=ck Tryz.func60 Tryz.ntmps60 (by decide +kernel)
abbrev QzH:IL:=[yw 2]
abbrev QzI:IL:=[⟨some 3,.allocN 2141 [.nilp,.nils],none⟩]
abbrev QzJ:IL:=[ja 8 0,ji 9 1 8,jd 10 0]
abbrev QzK:IL:=[jp 11 10 9]
abbrev QzL:IL:=[jl 12 4 8 10,jf 13 4 12,zu 5 5,jq 4 5 13]
abbrev QzM:IL:=[jf 14 4 5,jr 15 102 14,jz 16 15]
abbrev QzN:IL:=[jb 18 0 5,jc 19 18,jb 20 1 5,jc 21 20,jy 22 103 19 21,ja 17 22,jx 23 17 0,jx 24 17 1,ja 6 23,ja 7 24]
abbrev QzO:IL:=[ja 25 6,yq 26 104 3 25]
abbrev Qb3:IL:=[jb 37 1 5,jc 38 37,jt 39 38 2,ja 36 39]
abbrev Qb4:IL:=[jb 40 2 5,jc 41 40,jr 42 105 41,yq 43 104 3 42]
abbrev Qb5:IL:=[jb 45 1 5,jc 46 45,jr 47 106 46,ja 44 47]
abbrev Qb6:IL:=[jb 48 2 5,jc 49 48,jr 50 107 49,yq 51 104 3 50]
abbrev QzP:IL:=[jb 27 3 5,jc 28 27,ji 29 0 28,MN 30 29,jr 31 107 30,yq 32 104 3 31]
abbrev QzQ:IL:=[jb 33 3 5,jc 34 33,yq 35 104 3 34]
abbrev Qb7:IL:=[jm 52 10 1,ja 10 52]
abbrev QzR:RC:=.gho (.drop 5) (jQ QzK (.seq (jX 11 0) (.seq (.block 1 (jQ QzL (.seq (jQ QzM (.cond (.t 16) (.exit 1) (.skip))) (jQ QzN (jQ QzO (.block 2 (jQ Qb3 (.cond (.t 36) (.reg Qb4) (jQ Qb5 (.cond (.t 44) (.reg Qb6) (jQ QzP (.reg QzQ)))))))))))) (.reg Qb7))))
abbrev Qb8:IL:=[Vb 53 108 3,ja 2 53]
abbrev r61:RC:=jQ QzH (jQ QzI (.gho (.vecc 2141 1 2005 1) (.seq (jQ QzJ (.block 0 (.loop QzR))) (jQ Qb8 (.ret)))))
abbrev o61:List RR:=[.tmp 2]
theorem k61:CT 61 54 r61 o61:=ck Tryz.func61 Tryz.ntmps61 (by decide +kernel)
abbrev QzS:IL:=[je 2 2 0,je 3 3 1,zd 4 4,jh 5]
abbrev QzT:IL:=[D9 6 113 3,⟨some 7,.val (.build [.nilf] [(0,1,(.t 6))]),none⟩,jf 8 3 2,yq 9 114 7 8,jx 10 9 0,jx 11 9 1,jq 8 4 10,ja 5 11]
abbrev r66:RC:=jQ QzS (jQ QzT (.ret))
abbrev o66:List RR:=[.cell 4 (some 8),.tmp 5]
theorem k66:CT 66 12 r66 o66:=ck Tryz.func66 Tryz.ntmps66 (by decide +kernel)
abbrev QzU:IL:=[je 1 1 0,⟨some 2,.val (.mov (.c (.nilf))),none⟩]
abbrev QzV:IL:=[jb 4 3 1,jc 5 4,jt 6 5 5,ja 3 6]
abbrev QzW:IL:=[⟨some 2,.val (.mov (.f 115)),none⟩]
abbrev QzX:IL:=[jf 8 8 1,jr 9 116 8,ja 7 9]
abbrev QzY:IL:=[⟨some 2,.val (.mov (.f 117)),none⟩]
abbrev QzZ:IL:=[jb 11 3 1,jc 12 11,jt 13 12 4,ja 10 13]
abbrev Qz0:IL:=[⟨some 2,.val (.mov (.f 118)),none⟩]
abbrev Qz1:IL:=[⟨some 2,.val (.mov (.f 119)),none⟩]
abbrev r67:RC:=jQ QzU (.seq (.block 0 (jQ QzV (.cond (.t 3) (jQ QzW (.ret)) (jQ QzX (.cond (.t 7) (jQ QzY (.ret)) (jQ QzZ (.cond (.t 10) (jQ Qz0 (.ret)) (.skip)))))))) (jQ Qz1 (.ret)))
abbrev o67:List RR:=[.tmp 2]
theorem k67:CT 67 14 r67 o67:=ck Tryz.func67 Tryz.ntmps67 (by decide +kernel)
abbrev Qz2:IL:=[je 1 1 0,jh 2]
abbrev Qz3:IL:=[jb 3 0 1,jc 4 3,ji 5 1 4,jb 6 1 1,jc 7 6,ji 8 1 7,⟨some 9,.val (.mnx true (.t 5) (.t 8)),none⟩,yp 10 9 64,ja 11 10,jo 12 0 1 11,js 13 12 11,zo 14 137 13 138 11,jn 15 11 14,ja 16 15,jo 17 1 1 16,js 18 17 16,zo 19 139 18 140 16,jn 20 16 19,ja 2 20]
abbrev r82:RC:=jQ Qz2 (jQ Qz3 (.ret))
abbrev o82:List RR:=[.tmp 2]
theorem k82:CT 82 21 r82 o82:=ck Tryz.func82 Tryz.ntmps82 (by decide +kernel)
abbrev Qz4:IL:=[je 1 1 0,jh 2]
abbrev Qz5:IL:=[jb 3 0 1,jc 4 3,zx 5 137 4 141,ja 6 5,jo 7 1 1 6,js 8 7 6,zo 9 139 8 146 6,jn 10 6 9,ja 2 10]
abbrev r83:RC:=jQ Qz4 (jQ Qz5 (.ret))
abbrev o83:List RR:=[.tmp 2]
theorem k83:CT 83 11 r83 o83:=ck Tryz.func83 Tryz.ntmps83 (by decide +kernel)
abbrev Qz6:IL:=[je 1 1 0,jh 2]
abbrev Qz7:IL:=[jb 3 0 1,jc 4 3,zx 5 149 4 150,jz 6 5,ja 7 6,jo 8 1 1 7,js 9 8 7,zo 10 151 9 152 7,za 11 10 7,jn 12 7 11,ja 13 12,jo 14 0 1 13,js 15 14 13,zo 16 137 15 153 13,jn 17 13 16,ja 18 17,jo 19 1 1 18,js 20 19 18,zo 21 139 20 156 18,jn 22 18 21,ja 2 22]
abbrev r84:RC:=jQ Qz6 (jQ Qz7 (.ret))
abbrev o84:List RR:=[.tmp 2]
theorem k84:CT 84 23 r84 o84:=ck Tryz.func84 Tryz.ntmps84 (by decide +kernel)
abbrev Qz8:IL:=[je 1 1 0,jh 2]
abbrev Qz9:IL:=[jb 3 0 1,jc 4 3,D9 5 159 1,yq 6 137 4 5,ja 7 6,jo 8 1 1 7,js 9 8 7,zo 10 139 9 163 7,jn 11 7 10,ja 2 11]
abbrev r85:RC:=jQ Qz8 (jQ Qz9 (.ret))
abbrev o85:List RR:=[.tmp 2]
theorem k85:CT 85 12 r85 o85:=ck Tryz.func85 Tryz.ntmps85 (by decide +kernel)
abbrev QAa:IL:=[je 1 1 0,jh 2]
abbrev QAb:IL:=[jb 3 0 1,jc 4 3,zx 5 137 4 166,ja 6 5,jo 7 1 1 6,js 8 7 6,zo 9 139 8 168 6,jn 10 6 9,ja 2 10]
abbrev r86:RC:=jQ QAa (jQ QAb (.ret))
abbrev o86:List RR:=[.tmp 2]
theorem k86:CT 86 11 r86 o86:=ck Tryz.func86 Tryz.ntmps86 (by decide +kernel)
abbrev QAc:IL:=[je 1 1 0,jh 2]
abbrev QAd:IL:=[jb 3 0 1,jc 4 3,D9 5 169 1,yq 6 137 4 5,ja 7 6,jo 8 1 1 7,js 9 8 7,zo 10 139 9 175 7,jn 11 7 10,ja 2 11]
abbrev r87:RC:=jQ QAc (jQ QAd (.ret))
abbrev o87:List RR:=[.tmp 2]
theorem k87:CT 87 12 r87 o87:=ck Tryz.func87 Tryz.ntmps87 (by decide +kernel)
abbrev QAe:IL:=[je 1 1 0,jh 2]
abbrev QAf:IL:=[jb 6 0 1,jc 7 6,ji 8 1 7,⟨some 9,.mk 9 4 1 1 [.bool false] (.t 8) (.t 8),none⟩,⟨some 3,.allocN 3 [.nils],none⟩,jq 1 3 9]
abbrev QAg:IL:=[jb 10 0 1,jc 11 10,ji 12 1 11,jd 13 0]
abbrev QAh:IL:=[jp 14 13 12]
abbrev QAi:IL:=[jb 15 0 1,jc 16 15,ji 17 1 16,jd 18 0]
abbrev QAj:IL:=[jp 19 18 17]
abbrev QAk:IL:=[ja 20 18,jl 21 3 16 18,jf 22 3 21,⟨some 5,.allocN 5 [.str [],.nils,.int .i64 0],none⟩,ja 4 20,jq 3 5 22]
abbrev QAl:IL:=[yb 23 0 3 3,ja 24 4,yb 25 0 3 3,ja 26 4,jl 27 1 25 26,zp 28 27,ja 29 28,jo 30 1 5 29,zk 31 0 5 30 29,⟨some 32,.val (.mkfn (.func 178) [] [(.t 3)]),(some (29,false))⟩,⟨some 33,.callK 0 3 (.f 143) [(.t 31),(.t 32)],(some (29,false))⟩,za 34 33 29,jn 35 29 34,jl 36 1 23 24,jq 1 36 35]
abbrev QAm:IL:=[jm 37 18 1,ja 18 37]
abbrev QAn:RC:=.gho (.drop 5) (jQ QAj (.seq (jX 19 2) (.seq (.block 3 (jQ QAk (.draw QAl))) (.reg QAm))))
abbrev QAo:IL:=[jm 38 13 1,ja 13 38]
abbrev QAp:RC:=.gho (.drop 5) (jQ QAh (.seq (jX 14 0) (.seq (.block 1 (jQ QAi (.block 2 (.loop QAn)))) (.reg QAo))))
abbrev Qb9:IL:=[jc 39 3,⟨some 40,.call (.f 179) [(.t 39),(.c (.bool false))],none⟩,ja 2 40]
abbrev r88:RC:=jQ QAe (jQ QAf (.seq (jQ QAg (.block 0 (.loop QAp))) (jQ Qb9 (.ret))))
abbrev o88:List RR:=[.tmp 2]
theorem k88:CT 88 41 r88 o88:=ck Tryz.func88 Tryz.ntmps88 (by decide +kernel)
abbrev QAq:IL:=[je 1 1 0,jh 2]
abbrev QAr:IL:=[jb 4 0 1,jc 5 4,jt 6 5 7,ja 7 6,jo 8 0 1 7,js 9 8 7,yt 10 9 8 7,jn 11 7 10,ja 3 11]
abbrev QAs:IL:=[jb 12 0 1,jc 13 12,yc 14 13 11,ja 15 14,jk 16 3 1 15,ju 17 16 15,ys 18 1 17 15,Bh 19 18 0 15,jj 20 15 19,ja 21 20,jo 22 0 1 21,js 23 22 21,Bg 24 23 12 21,jv 25 24 21,jk 26 4 1 25,ju 27 26 25,ys 28 1 27 25,Bh 29 28 0 25,yx 30 25 29 21,jn 31 21 30,ja 32 31,jo 33 0 1 32,js 34 33 32,Bg 35 34 10 32,jv 36 35 32,jk 37 5 1 36,ju 38 37 36,ys 39 1 38 36,jk 40 6 1 36,ju 41 40 36,ys 42 1 41 36,⟨some 43,.val (.bin .num .add (.t 39) (.t 42)),(some (36,true))⟩,Bh 44 43 0 36,yx 45 36 44 32,jn 46 32 45,ja 47 46,jo 48 1 1 47,js 49 48 47,⟨some 50,.val (.bin .num .neq (.t 49) (.c (.int .u64 0))),(some (47,false))⟩,jv 51 50 47,jg 52 3 51,jg 53 52 51,jo 54 0 1 53,js 55 54 53,⟨some 56,.val (.bin .num .geq (.t 55) (.c (.int .i64 10))),(some (53,false))⟩,jv 57 56 53,jk 58 0 1 57,ju 59 58 57,zf 60 59 12 57,yx 61 57 60 53,zg 62 53 61 51,yx 63 51 62 47,jn 64 47 63,ja 65 64,jo 66 2 1 65,js 67 66 65,⟨some 68,.val (.bin .str .neq (.t 67) (.c (.str []))),(some (65,false))⟩,jv 69 68 65,jg 70 3 69,yy 71 70 69,yx 72 69 71 65,jn 73 65 72,ja 2 73]
abbrev r89:RC:=jQ QAq (jQ QAr (jQ QAs (.ret)))
abbrev o89:List RR:=[.tmp 2]
theorem k89:CT 89 74 r89 o89:=ck Tryz.func89 Tryz.ntmps89 (by decide +kernel)
abbrev QAt:IL:=[je 5 5 0,je 6 6 1,jd 10 0]
abbrev QAu:IL:=[jw 18 0 6 3 6,ja 19 2,ja 20 3,jl 21 8 19 20,jb 22 0 21,zp 23 22,jy 24 66 18 23,ja 17 24,jx 25 17 0,jx 26 17 1,zd 11 11,yg 0 11 8 11 25,ja 12 26]
abbrev QAv:IL:=[ja 27 12,jz 28 27]
abbrev QAw:IL:=[jd 10 8]
abbrev QAx:IL:=[ja 29 2,ja 30 3,Fb 31 8 29 30,D9 32 180 11,yq 33 91 31 32]
abbrev QAy:IL:=[jd 10 9]
abbrev QAz:IL:=[ja 34 2,ja 35 3,Fb 36 8 34 35,ji 37 1 36,jd 38 0]
abbrev QAA:IL:=[jp 39 38 37]
abbrev QAB:IL:=[jl 40 8 36 38,jf 41 8 40,N7 14 14,jq 8 14 41]
abbrev QAC:IL:=[jf 43 3 6,jb 44 0 14,jc 45 44,jy 46 66 43 45,ja 42 46,jx 47 42 0,jx 48 42 1,zd 15 15,jq 8 15 47,ja 16 48]
abbrev Qca:IL:=[jb 49 7 11,jc 50 49,yc 51 50 (-1),ja 52 51,jk 53 7 15 52,ju 54 53 52,jk 55 7 11 52,ju 56 55 52,⟨some 57,.val (.bin .num .eql (.t 54) (.t 56)),(some (52,true))⟩,jj 58 52 57]
abbrev Qcb:IL:=[jd 10 15]
abbrev Qcc:IL:=[jm 59 38 1,ja 38 59]
abbrev QAD:RC:=.gho (.drop 15) (.gho (.drop 14) (jQ QAA (.seq (jX 39 0) (.seq (.block 1 (jQ QAB (jQ QAC (jQ Qca (.cond (.t 58) (jQ Qcb (.ret)) (.skip)))))) (.reg Qcc)))))
abbrev Qcd:IL:=[jw 60 0 5 2 5,jw 61 0 11 8 11,ja 62 2,ja 63 3,jl 64 8 62 63,jb 65 1 64,yd 66 7 65,ja 67 4,zl 68 181 60 61 66 67,ja 10 68]
abbrev r90:RC:=jQ QAt (jD QAu (.seq (jQ QAv (.cond (.t 28) (jQ QAw (.ret)) (.skip))) (.seq (jQ QAx (.cond (.t 33) (jQ QAy (.ret)) (.skip))) (.seq (jQ QAz (.block 0 (.loop QAD))) (jD Qcd (.ret))))))
abbrev o90:List RR:=[.tmp 10]
theorem k90:CT 90 69 r90 o90:=ck Tryz.func90 Tryz.ntmps90 (by decide +kernel)
abbrev QAE:IL:=[jh 4]
abbrev QAF:IL:=[ja 5 0,ja 6 1,yq 7 182 5 6,ym 8 7 0,ja 4 8]
abbrev r91:RC:=jQ QAE (jQ QAF (.ret))
abbrev o91:List RR:=[.tmp 4]
theorem k91:CT 91 9 r91 o91:=ck Tryz.func91 Tryz.ntmps91 (by decide +kernel)
abbrev QAG:IL:=[je 1 1 0,yf 2]
abbrev QAH:IL:=[jb 8 3 1,jc 9 8,Vb 10 184 9,ja 3 10]
abbrev QAI:IL:=[jb 11 4 1,jc 12 11,ji 13 1 12,jd 14 0]
abbrev QAJ:IL:=[jp 15 14 13]
abbrev QAK:IL:=[jl 16 14 12 14,jf 17 14 16,MV 5 5,jq 14 5 17]
abbrev QAL:IL:=[ja 18 3,jb 19 0 5,jf 20 7 19,jb 21 7 5,jf 22 7 21,⟨some 23,.bsl 7 2 [.int .i64 0,.int .u64 0,.str [],.nils,.nils,.nils,.nils] [(0,7,(.t 20)),(7,7,(.t 22))],none⟩,yr 24 7 128 32 18 23,ja 3 24]
abbrev QAM:IL:=[jm 25 14 1,ja 14 25]
abbrev QAN:RC:=.gho (.drop 5) (jQ QAJ (.seq (jX 15 0) (.seq (.block 1 (jQ QAK (.reg QAL))) (.reg QAM))))
abbrev QAO:IL:=[jb 26 5 1,jc 27 26,ji 28 1 27,jd 29 0]
abbrev QAP:IL:=[jp 30 29 28]
abbrev QAQ:IL:=[jl 31 8 27 29,jf 32 8 31,N7 7 7,jq 8 7 32]
abbrev Qce:IL:=[ja 33 3,jb 34 1 7,jf 35 7 34,⟨some 36,.bsl 7 1 [.int .i64 0,.int .u64 0,.str [],.nils,.nils,.nils,.nils] [(0,7,(.t 35))],none⟩,yr 37 7 128 32 33 36,ja 3 37]
abbrev Qcf:IL:=[jm 38 29 1,ja 29 38]
abbrev QAR:RC:=.gho (.drop 7) (jQ QAP (.seq (jX 30 2) (.seq (.block 3 (jQ QAQ (.reg Qce))) (.reg Qcf))))
abbrev Qcg:IL:=[ja 39 3,ja 2 39]
abbrev r94:RC:=jQ QAG (jQ QAH (.seq (jQ QAI (.block 0 (.loop QAN))) (.seq (jQ QAO (.block 2 (.loop QAR))) (jQ Qcg (.ret)))))
abbrev o94:List RR:=[.tmp 2]
theorem k94:CT 94 40 r94 o94:=ck Tryz.func94 Tryz.ntmps94 (by decide +kernel)
def Cj:IL:=[yf 2]
def Ck:IL:=[ja 3 0,⟨some 4,.isnil false (.t 3),none⟩]
def Cm:IL:=[yf 2]
def Cn:IL:=[⟨some 5,.bsl0 5 4,none⟩,ja 6 0,yr 7 4 40 53 5 6,ja 2 7]
def SX:RC:=jQ Cj (.seq (jQ Ck (.cond (.t 4) (jQ Cm (.gho (.vec 2 2 4) (.gho (.give 2 2 1 1000) (.ret)))) (.skip))) (jQ Cn (.gho (.give 2 5 1 1000) (.ret))))
def Vd:List RR:=[.tmp 2]
theorem k95:CT 95 8 SX Vd:=ck Tryz.func95 Tryz.ntmps95 (by decide +kernel)
abbrev QAS:IL:=[yf 2]
abbrev QAT:IL:=[ja 7 0,Vb 8 185 7,ja 3 8]
abbrev QAU:IL:=[ja 9 3,zx 10 186 9 187]
abbrev QAV:IL:=[yf 4]
abbrev QAW:IL:=[ja 11 3,ji 12 1 11,jd 13 0]
abbrev QAX:IL:=[jp 14 13 12]
abbrev QAY:IL:=[ja 15 13,jl 16 8 11 13,jf 17 8 16,N7 6 6,ja 5 15,jq 8 6 17]
abbrev QAZ:IL:=[ja 18 5,jm 19 18 1,ja 20 3,ji 21 1 20,zq 22 19 21,ja 23 22,jo 24 0 6 23,zk 25 0 6 24 23,jv 26 3 23,jv 27 5 23,jbh 28 27 1 23,zb 29 8 26 28 23,jo 30 0 29 23,Vc 31 30 23,zv 32 25 31 23,jn 33 23 32]
abbrev QA0:IL:=[ja 34 4,jf 35 8 6,⟨some 36,.bsl 8 1 [.int .i64 0,.int .i64 0,.int .u64 0,.str [],.nils,.nils,.nils,.nils] [(0,8,(.t 35))],none⟩,yr 37 8 136 55 34 36,ja 4 37]
abbrev QA1:IL:=[jm 38 13 1,ja 13 38]
abbrev QA2:RC:=.gho (.drop 6) (jQ QAX (.seq (jX 14 0) (.seq (.block 1 (jQ QAY (jD QAZ (.cond (.t 33) (.reg QA0) (.skip))))) (.reg QA1))))
abbrev Qci:IL:=[ja 39 4,ja 2 39]
abbrev r96:RC:=jQ QAS (jQ QAT (jQ QAU (jQ QAV (.gho (.vec 4 4 8) (.seq (jQ QAW (.block 0 (.loop QA2))) (jQ Qci (.ret)))))))
abbrev o96:List RR:=[.tmp 2]
theorem k96:CT 96 40 r96 o96:=ck Tryz.func96 Tryz.ntmps96 (by decide +kernel)
abbrev QA3:IL:=[je 3 3 0,je 4 4 1,je 5 5 2,yn 6 6]
abbrev QA4:IL:=[jb 13 3 4,jc 14 13]
abbrev QA5:IL:=[jt 16 14 4,ja 15 16]
abbrev QA6:IL:=[⟨some 17,.val (.build [.int .i64 0,.int .u64 0,.str [],.nils,.nils,.nils,.nils] [(0,1,(.c (.int .i64 11)))]),none⟩,yn 7 7,jq 7 7 17]
abbrev QA7:IL:=[jb 18 3 5,jc 19 18,ji 20 1 19,jd 21 0]
abbrev QA8:IL:=[jp 22 21 20]
abbrev QA9:IL:=[jl 23 7 19 21,jf 24 7 23,yn 9 9,jq 7 9 24]
abbrev QBa:IL:=[jb 25 3 7,yb 26 0 7 25,jw 27 0 3 2 3,jw 28 0 4 8 4,jw 29 0 9 7 9,yh 30 188 27 28 29,⟨some 31,.bsl 7 1 [.int .i64 0,.int .u64 0,.str [],.nils,.nils,.nils,.nils] [(0,7,(.t 30))],none⟩,yr 32 7 128 32 26 31,jb 33 3 7,yg 0 7 1 33 32]
abbrev QBb:IL:=[jm 34 21 1,ja 21 34]
abbrev QBc:RC:=.gho (.drop 9) (jQ QA8 (.seq (jX 22 1) (.seq (.block 2 (jQ QA9 (.draw QBa))) (.reg QBb))))
abbrev QBd:IL:=[jf 35 7 7,jq 7 6 35]
abbrev Qcj:IL:=[jt 37 14 5,ja 36 37]
abbrev Qck:IL:=[⟨some 38,.val (.build [.int .i64 0,.int .u64 0,.str [],.nils,.nils,.nils,.nils] [(0,1,(.c (.int .i64 12)))]),none⟩,yn 10 10,jq 7 10 38]
abbrev Qcl:IL:=[jb 39 4 5,jc 40 39,jr 41 189 40,ji 42 1 41,jd 43 0]
abbrev Qcm:IL:=[jp 44 43 42]
abbrev Qcn:IL:=[jl 45 14 41 43,jf 46 14 45,MV 12 12,jq 14 12 46]
abbrev Qco:IL:=[jb 47 4 10,yb 48 0 10 47,jb 49 0 12,jw 50 0 12 7 49,jr 51 50 50,jw 52 0 3 2 3,jw 53 0 4 8 4,jb 54 7 12,jw 55 0 12 7 54,yh 56 188 52 53 55,⟨some 57,.val (.build [.int .i64 0,.int .u64 0,.str [],.nils,.nils,.nils,.nils,.int .i64 0,.int .u64 0,.str [],.nils,.nils,.nils,.nils] [(0,7,(.t 51)),(7,7,(.t 56))]),none⟩,⟨some 58,.bsl 14 1 [.int .i64 0,.int .u64 0,.str [],.nils,.nils,.nils,.nils,.int .i64 0,.int .u64 0,.str [],.nils,.nils,.nils,.nils] [(0,14,(.t 57))],none⟩,yr 59 14 256 77 48 58,jb 60 4 10,yg 0 10 1 60 59]
abbrev Qcp:IL:=[jm 61 43 1,ja 43 61]
abbrev QBe:RC:=.gho (.drop 12) (jQ Qcm (.seq (jX 44 3) (.seq (.block 4 (jQ Qcn (.draw Qco))) (.reg Qcp))))
abbrev Qcq:IL:=[jf 62 7 10,jq 7 6 62]
abbrev Qcr:IL:=[jf 63 2 3,jf 64 8 4,jf 65 7 5,yh 66 188 63 64 65,jq 7 6 66]
abbrev r97:RC:=jQ QA3 (.seq (jQ QA4 (.block 0 (jQ QA5 (.cond (.t 15) (jQ QA6 (.gho (.vecc 7 3 1100 7) (.seq (jQ QA7 (.block 1 (.loop QBc))) (jQ QBd (.ret))))) (jQ Qcj (.cond (.t 36) (jQ Qck (.gho (.vecc 10 4 1101 14) (.seq (jQ Qcl (.block 3 (.loop QBe))) (jQ Qcq (.ret))))) (.skip))))))) (jQ Qcr (.ret)))
abbrev o97:List RR:=[.cell 6 (some 7)]
theorem SY:CT 97 67 r97 o97:=ck Tryz.func97 Tryz.ntmps97 (by decide +kernel)
abbrev QBf:IL:=[je 1 1 0,jh 2]
abbrev QBg:IL:=[jb 3 0 1,jc 4 3,jt 5 4 11,ja 6 5,jk 7 3 1 6,ju 8 7 6,ys 9 1 8 6,yl 10 9 0 6,jj 11 6 10,ja 12 11,jo 13 0 1 12,js 14 13 12,yt 15 14 12 12,jv 16 15 12,jk 17 4 1 16,ju 18 17 16,ys 19 1 18 16,yl 20 19 0 16,yx 21 16 20 12,jn 22 12 21,ja 23 22,yv 24 7 1 23,ze 25 190 24 23,jn 26 23 25,ja 2 26]
abbrev r98:RC:=jQ QBf (jQ QBg (.ret))
abbrev o98:List RR:=[.tmp 2]
theorem k98:CT 98 27 r98 o98:=ck Tryz.func98 Tryz.ntmps98 (by decide +kernel)
abbrev QBh:IL:=[ja 4 0,ja 5 0,ji 6 1 5,ja 7 1,⟨some 8,.callF (.f 191) [(.t 4),(.t 6),(.t 7)],none⟩]
abbrev r99:RC:=.reg QBh
abbrev o99:List RR:=[]
theorem k99:CT 99 9 r99 o99:=ck Tryz.func99 Tryz.ntmps99 (by decide +kernel)
abbrev Qcs:IL:=[jd 4 0]
abbrev Qct:IL:=[ja 7 0,jr 8 192 7,ja 5 8]
abbrev Qcu:IL:=[ja 9 1,jr 10 192 9,ja 6 10]
abbrev Qcv:IL:=[ja 11 5]
abbrev Qcw:IL:=[ja 12 6]
abbrev Qcx:IL:=[jd 4 0]
abbrev Qcy:IL:=[jd 4 (-1)]
abbrev Qcz:IL:=[ja 13 6]
abbrev QcA:IL:=[jd 4 1]
abbrev QcB:IL:=[ja 14 0,ja 15 1,jp 16 14 15]
abbrev Ee:IL:=[jd 4 (-1)]
abbrev Ef:IL:=[ja 17 0,ja 18 1,zy 19 17 18]
abbrev Eg:IL:=[jd 4 1]
abbrev Eh:IL:=[jd 4 0]
abbrev QcC:RC:=jQ Qcs (jQ Qct (jQ Qcu (.seq (jQ Qcv (.cond (.t 11) (.seq (jQ Qcw (.cond (.t 12) (jQ Qcx (.ret)) (.skip))) (jQ Qcy (.ret))) (.skip))) (.seq (jQ Qcz (.cond (.t 13) (jQ QcA (.ret)) (.skip))) (.seq (jQ QcB (.cond (.t 16) (jQ Ee (.ret)) (.skip))) (.seq (jQ Ef (.cond (.t 19) (jQ Eg (.ret)) (.skip))) (jQ Eh (.ret))))))))
abbrev QcD:List RR:=[.tmp 4]
theorem QcE:CT 101 20 QcC QcD:=ck Tryz.func101 Tryz.ntmps101 (by decide +kernel)
abbrev QcF:IL:=[je 1 1 0,jh 2]
abbrev QcG:IL:=[jb 6 0 1,jc 7 6,jb 8 1 1,jc 9 8,jy 10 103 7 9,ja 5 10,jx 11 5 0,jx 12 5 1,ja 3 11,ja 4 12]
abbrev QcH:IL:=[ja 13 4,yc 14 13 0]
abbrev QcI:IL:=[jh 2]
abbrev QcJ:IL:=[jb 15 1 1,jc 16 15,jr 17 106 16]
abbrev QcK:IL:=[jb 18 3 1,jc 19 18,⟨some 20,.val (.bin .str .eql (.t 19) (.c (.str []))),none⟩,ja 2 20]
abbrev QcL:IL:=[jb 21 2 1,jc 22 21,zz 23 22 0,ja 2 23]
abbrev QcM:RC:=jQ QcF (.seq (jQ QcG (jQ QcH (.cond (.t 14) (jQ QcI (.ret)) (.skip)))) (.seq (jQ QcJ (.cond (.t 17) (jQ QcK (.ret)) (.skip))) (jQ QcL (.ret))))
abbrev QcN:List RR:=[.tmp 2]
theorem QcO:CT 102 24 QcM QcN:=ck Tryz.func102 Tryz.ntmps102 (by decide +kernel)
abbrev QcP:IL:=[yw 4,jd 5 0]
abbrev QcQ:IL:=[ja 6 0,yu 7 6 1,ja 8 7,jv 9 0 8,yk 10 9 65535 8,jn 11 8 10,ja 12 11,jv 13 1 12,N3 14 13 0 12,jn 15 12 14,ja 16 15,jv 17 1 16,yk 18 17 6 16,jn 19 16 18]
abbrev QcR:IL:=[yw 4,jd 5 6]
abbrev QcS:IL:=[ja 20 0,⟨some 21,.val (.bin .num .mul (.t 20) (.c (.int .i64 8))),none⟩,ja 22 1,yi 23 21 22,MN 24 23,jr 25 107 24,ja 4 25,jd 5 0]
abbrev QcT:RC:=jQ QcP (.seq (jQ QcQ (.cond (.t 19) (jQ QcR (.ret)) (.skip))) (jQ QcS (.ret)))
abbrev QcU:List RR:=[.tmp 4,.tmp 5]
theorem QcV:CT 103 26 QcT QcU:=ck Tryz.func103 Tryz.ntmps103 (by decide +kernel)
abbrev QcW:IL:=[jd 4 0,⟨some 5,.val (.mov (.c (.nili))),none⟩]
abbrev QcX:IL:=[ja 6 0,Vb 7 193 6]
abbrev QcY:IL:=[ja 8 0,ja 9 0,Bi 10 9,jb 11 1 10,jc 12 11,ja 13 1,⟨some 14,.appS 5 (.t 12) (.t 13),none⟩,Bi 15 8,jb 16 1 15,jq 1 16 14]
abbrev QcZ:IL:=[ja 17 1,ji 18 0 17,ja 4 18,⟨some 5,.val (.mov (.c (.nili))),none⟩]
abbrev Qc0:RC:=jQ QcW (jQ QcX (jQ QcY (jQ QcZ (.ret))))
abbrev Qc1:List RR:=[.tmp 4,.tmp 5]
theorem Qc2:CT 104 19 Qc0 Qc1:=ck Tryz.func104 Tryz.ntmps104 (by decide +kernel)
abbrev Qc3:IL:=[jh 2]
abbrev Qc4:IL:=[ja 3 0,jt 4 3 0,ja 5 4,jv 6 0 5,yt 7 6 1 5,jn 8 5 7,ja 9 8,jv 10 0 9,yt 11 10 2 9,jn 12 9 11,ja 2 12]
abbrev Qc5:RC:=jQ Qc3 (jQ Qc4 (.ret))
abbrev Qc6:List RR:=[.tmp 2]
theorem Qc7:CT 106 13 Qc5 Qc6:=ck Tryz.func106 Tryz.ntmps106 (by decide +kernel)
abbrev Qc8:IL:=[yw 2]
abbrev Qc9:IL:=[yf 3]
abbrev Qda:IL:=[ja 4 0,⟨some 5,.val (.bin .num .geq (.t 4) (.c (.int .u64 128))),none⟩]
abbrev Qdb:IL:=[ja 6 3,ja 7 0,⟨some 8,.val (.cvi .u8 (.t 7)),none⟩,⟨some 9,.val (.bin .num .or (.t 8) (.c (.int .u8 128))),none⟩,⟨some 10,.bsl 1 1 [.int .u8 0] [(0,1,(.t 9))],none⟩,yr 11 1 1 5 6 10,ja 3 11]
abbrev Qdc:IL:=[ja 12 0,⟨some 13,.val (.bin .num .shr (.t 12) (.c (.int .u64 7))),none⟩,ja 0 13]
abbrev Qdd:RC:=.seq (jQ Qda (jX 5 0)) (.block 1 (jQ Qdb (.reg Qdc)))
abbrev Qde:IL:=[ja 14 3,ja 15 0,⟨some 16,.val (.cvi .u8 (.t 15)),none⟩,⟨some 17,.bsl 1 1 [.int .u8 0] [(0,1,(.t 16))],none⟩,yr 18 1 1 5 14 17,⟨some 19,.val (.b2s (.t 18)),none⟩,ja 2 19]
abbrev Qdf:RC:=jQ Qc8 (jQ Qc9 (.gho (.vec 3 3 1) (.seq (.block 0 (.loop Qdd)) (jQ Qde (.ret)))))
abbrev Qdg:List RR:=[.tmp 2]
theorem Qdh:CT 107 20 Qdf Qdg:=ck Tryz.func107 Tryz.ntmps107 (by decide +kernel)
abbrev Qdi:IL:=[yw 2]
abbrev Qdj:IL:=[ja 3 0,Bi 4 3,jb 5 1 4,⟨some 6,.val (.loado none (.t 5)),none⟩,⟨some 7,.usd (.t 6),none⟩,ja 8 0,Bi 9 8,jb 10 1 9,⟨some 11,.val (.loado none (.t 10)),none⟩,ji 12 1 11,⟨some 13,.ustr 5 (.t 7) (.t 12),none⟩,ja 2 13]
abbrev Qdk:RC:=jQ Qdi (jD Qdj (.ret))
abbrev Qdl:List RR:=[.tmp 2]
theorem Qdm:CT 108 14 Qdk Qdl:=ck Tryz.func108 Tryz.ntmps108 (by decide +kernel)
abbrev Qdn:IL:=[je 2 2 0,jh 3]
abbrev Qdo:IL:=[jb 4 0 2,jc 5 4,jc 6 1,zq 7 5 6,ja 3 7]
abbrev Qdp:RC:=jQ Qdn (jQ Qdo (.ret))
abbrev Qdq:List RR:=[.tmp 3]
theorem Qdr:CT 113 8 Qdp Qdq:=ck Tryz.func113 Tryz.ntmps113 (by decide +kernel)
abbrev Qds:IL:=[je 2 2 0,je 3 3 1,zd 4 4,jh 5]
abbrev Qdt:IL:=[jb 7 1 3,jc 8 7,jb 9 0 2,jc 10 9,yq 11 196 8 10,ja 6 11]
abbrev Qdu:IL:=[ja 12 6,yu 13 12 0]
abbrev Qdv:IL:=[⟨some 14,.val (.build [.int .i64 0,.str [],.str [],.int .i64 0,.int .i64 0,.int .i64 0,.int .i64 0,.int .i64 0] []),none⟩,jq 8 4 14,jh 5]
abbrev Qdw:IL:=[jb 15 1 3,jc 16 15,ja 17 6,jl 18 8 16 17,jf 19 8 18,jq 8 4 19,yj 5]
abbrev Qdx:RC:=jQ Qds (jQ Qdt (.seq (jQ Qdu (.cond (.t 13) (jQ Qdv (.ret)) (.skip))) (jQ Qdw (.ret))))
abbrev Qdy:List RR:=[.cell 4 (some 8),.tmp 5]
theorem Qdz:CT 114 20 Qdx Qdy:=ck Tryz.func114 Tryz.ntmps114 (by decide +kernel)
abbrev QdA:IL:=[je 1 1 0,jh 2]
abbrev QdB:IL:=[jb 3 3 1,jc 4 3,jt 5 4 4,ja 6 5,jk 7 5 1 6,ju 8 7 6,GF 9 8 1 6,jg 10 9 6,jk 11 5 1 10,ju 12 11 10,zf 13 12 6 10,⟨some 14,.val (.pick (.t 10) (.t 13) (.c (.bool false))),(some (6,true))⟩,jg 15 14 6,jo 16 5 1 15,js 17 16 15,yt 18 17 9 15,zg 19 15 18 6,jj 20 6 19,ja 2 20]
abbrev QdC:RC:=jQ QdA (jQ QdB (.ret))
abbrev QdD:List RR:=[.tmp 2]
theorem QdE:CT 116 21 QdC QdD:=ck Tryz.func116 Tryz.ntmps116 (by decide +kernel)
abbrev QdF:IL:=[je 3 3 0,je 4 4 1,je 5 5 2,yf 6]
abbrev QdG:IL:=[jf 13 8 4,zd 7 7,jq 8 7 13]
abbrev QdH:IL:=[jb 14 3 7,⟨none,.store 1 (.t 14) (.c (.int .i64 2)),none⟩]
abbrev QdI:IL:=[jf 15 8 7,jr 16 199 15,ja 8 16]
abbrev QdJ:IL:=[ja 17 8,⟨some 18,.val (.cvi .u8 (.t 17)),none⟩,⟨some 19,.bslv 19 1 1 [.int .u8 0] [(0,1,(.t 18))],none⟩,ja 9 19]
abbrev QdK:IL:=[jb 20 3 5,jc 21 20,ji 22 1 21,jd 23 0]
abbrev QdL:IL:=[jp 24 23 22]
abbrev QdM:IL:=[jl 25 7 21 23,jf 26 7 25,yn 11 11,jq 7 11 26]
abbrev QdN:IL:=[jf 27 7 11,jr 28 23 27,⟨some 29,.val (.fld 2 none (.t 28)),none⟩,ja 12 29]
abbrev QdO:IL:=[ja 30 8,jt 31 30 2]
abbrev Ei:IL:=[ja 32 9,ja 33 12,jr 34 105 33,⟨some 35,.appS 5 (.t 32) (.t 34),none⟩,ja 9 35]
abbrev Ej:IL:=[ja 36 9,ja 37 12,jr 38 107 37,⟨some 39,.appS 5 (.t 36) (.t 38),none⟩,ja 9 39]
abbrev Ek:IL:=[jm 40 23 1,ja 23 40]
abbrev QdP:RC:=.gho (.drop 11) (jQ QdL (.seq (jX 24 0) (.seq (.block 1 (jQ QdM (jQ QdN (jQ QdO (.cond (.t 31) (.reg Ei) (.reg Ej)))))) (.reg Ek))))
abbrev Em:IL:=[jb 41 0 4,jc 42 41,ja 43 9,⟨some 44,.val (.b2s (.t 43)),none⟩,⟨some 45,.val (.build [.int .i64 0,.int .i64 0,.int .u64 0,.str []] [(0,1,(.t 42)),(1,1,(.c (.int .i64 5))),(3,1,(.t 44))]),none⟩,MP 46 4 1 0 4 45,ja 6 46]
abbrev QdQ:RC:=jQ QdF (jQ QdG (jQ QdH (jQ QdI (jQ QdJ (.seq (jQ QdK (.block 0 (.loop QdP))) (jQ Em (.ret)))))))
abbrev QdR:List RR:=[.tmp 6]
theorem QdS:CT 117 47 QdQ QdR:=ck Tryz.func117 Tryz.ntmps117 (by decide +kernel)
abbrev QdT:IL:=[je 3 3 0,je 4 4 1,je 5 5 2,yf 6]
abbrev QdU:IL:=[jb 7 0 4,yb 8 0 4 7,jw 9 0 3 2 3,jw 10 0 4 8 4,jw 11 0 5 7 5,yh 12 198 9 10 11,jy 13 197 8 12,MP 14 4 1 0 4 13,ja 6 14]
abbrev QdV:RC:=jQ QdT (jD QdU (.ret))
abbrev QdW:List RR:=[.tmp 6]
theorem QdX:CT 119 15 QdV QdW:=ck Tryz.func119 Tryz.ntmps119 (by decide +kernel)
abbrev QdY:IL:=[jh 4]
abbrev QdZ:IL:=[ja 5 0,ja 6 1,yq 7 207 5 6,ja 4 7]
abbrev Qd0:RC:=jQ QdY (jQ QdZ (.ret))
abbrev Qd1:List RR:=[.tmp 4]
theorem Qd2:CT 137 8 Qd0 Qd1:=ck Tryz.func137 Tryz.ntmps137 (by decide +kernel)
abbrev Qd3:IL:=[je 1 1 0,jh 2]
abbrev Qd4:IL:=[jb 3 1 1,jc 4 3,ji 5 1 4,yp 6 5 64,ja 2 6]
abbrev Qd5:RC:=jQ Qd3 (jQ Qd4 (.ret))
abbrev Qd6:List RR:=[.tmp 2]
theorem Qd7:CT 138 7 Qd5 Qd6:=ck Tryz.func138 Tryz.ntmps138 (by decide +kernel)
abbrev Qd8:IL:=[jh 4]
abbrev Qd9:IL:=[ja 5 0,ja 6 1,yq 7 208 5 6,ja 4 7]
abbrev Qea:RC:=jQ Qd8 (jQ Qd9 (.ret))
abbrev Qeb:List RR:=[.tmp 4]
theorem Qec:CT 139 8 Qea Qeb:=ck Tryz.func139 Tryz.ntmps139 (by decide +kernel)
abbrev Qed:IL:=[je 1 1 0,jh 2]
abbrev Qee:IL:=[jb 3 0 1,jc 4 3,jr 5 142 4,jz 6 5,ja 7 6,jo 8 1 1 7,js 9 8 7,zo 10 143 9 144 7,jn 11 7 10,ja 2 11]
abbrev Qef:RC:=jQ Qed (jQ Qee (.ret))
abbrev Qeg:List RR:=[.tmp 2]
theorem Qeh:CT 141 12 Qef Qeg:=ck Tryz.func141 Tryz.ntmps141 (by decide +kernel)
abbrev Qei:IL:=[jh 2]
abbrev Qej:IL:=[ja 3 0,jr 4 209 3,ja 5 4,jg 6 0 5,⟨some 7,.call (.f 211) [(.t 6),(.c (.str [46]))],(some (5,true))⟩,⟨some 8,.callF (.f 210) [(.t 7),(.f 212)],(some (5,true))⟩,yy 9 8 5,jj 10 5 9,ja 2 10]
abbrev Qek:RC:=jQ Qei (jQ Qej (.ret))
abbrev Qel:List RR:=[.tmp 2]
theorem Qem:CT 142 11 Qek Qel:=ck Tryz.func142 Tryz.ntmps142 (by decide +kernel)
abbrev Qen:IL:=[jh 4]
abbrev Qeo:IL:=[ja 5 0,ja 6 1,yq 7 213 5 6,ja 4 7]
abbrev Qep:RC:=jQ Qen (jQ Qeo (.ret))
abbrev Qeq:List RR:=[.tmp 4]
theorem Qer:CT 143 8 Qep Qeq:=ck Tryz.func143 Tryz.ntmps143 (by decide +kernel)
abbrev Qes:IL:=[je 1 1 0,jh 2]
abbrev Qet:IL:=[jb 3 1 1,jc 4 3,jr 5 145 4,jz 6 5,ja 2 6]
abbrev Qeu:RC:=jQ Qes (jQ Qet (.ret))
abbrev Qev:List RR:=[.tmp 2]
theorem Qew:CT 144 7 Qeu Qev:=ck Tryz.func144 Tryz.ntmps144 (by decide +kernel)
abbrev Qex:IL:=[jh 2]
abbrev Qey:IL:=[ja 3 0,jr 4 214 3,ja 5 4,jg 6 0 5,zh 7 212 6 5,yy 8 7 5,jj 9 5 8,ja 2 9]
abbrev Qez:RC:=jQ Qex (jQ Qey (.ret))
abbrev QeA:List RR:=[.tmp 2]
theorem QeB:CT 145 10 Qez QeA:=ck Tryz.func145 Tryz.ntmps145 (by decide +kernel)
abbrev QeC:IL:=[jh 4]
abbrev QeD:IL:=[jd 5 1]
abbrev QeE:IL:=[ja 6 5,ja 7 0,ji 8 1 7,jp 9 6 8]
abbrev QeF:IL:=[ja 12 1,ja 13 0,ja 14 5,zi 15 14 1,jl 16 3 13 15,yd 17 3 16,ja 18 0,ja 19 5,jl 20 3 18 19,yd 21 3 20,⟨some 22,.callF (.t 12) [(.t 17),(.t 21)],none⟩,jz 23 22]
abbrev QeG:IL:=[jh 4]
abbrev QeH:IL:=[ja 10 5,jm 11 10 1,ja 5 11]
abbrev QeI:RC:=.seq (jQ QeE (jX 9 0)) (.seq (.block 1 (jD QeF (.cond (.t 23) (jQ QeG (.ret)) (.skip)))) (.reg QeH))
abbrev QeJ:IL:=[yj 4]
abbrev QeK:RC:=jQ QeC (.seq (jQ QeD (.block 0 (.loop QeI))) (jQ QeJ (.ret)))
abbrev QeL:List RR:=[.tmp 4]
theorem QeM:CT 149 24 QeK QeL:=ck Tryz.func149 Tryz.ntmps149 (by decide +kernel)
abbrev QeN:IL:=[jh 4]
abbrev QeO:IL:=[jd 5 1]
abbrev QeP:IL:=[ja 6 5,ja 7 0,ji 8 1 7,jp 9 6 8]
abbrev QeQ:IL:=[ja 12 1,ja 13 0,ja 14 5,zi 15 14 1,jl 16 5 13 15,yd 17 5 16,ja 18 0,ja 19 5,jl 20 5 18 19,yd 21 5 20,⟨some 22,.callF (.t 12) [(.t 17),(.t 21)],none⟩,jz 23 22]
abbrev QeR:IL:=[jh 4]
abbrev QeS:IL:=[ja 10 5,jm 11 10 1,ja 5 11]
abbrev QeT:RC:=.seq (jQ QeP (jX 9 0)) (.seq (.block 1 (jD QeQ (.cond (.t 23) (jQ QeR (.ret)) (.skip)))) (.reg QeS))
abbrev QeU:IL:=[yj 4]
abbrev QeV:RC:=jQ QeN (.seq (jQ QeO (.block 0 (.loop QeT))) (jQ QeU (.ret)))
abbrev QeW:List RR:=[.tmp 4]
theorem QeX:CT 151 24 QeV QeW:=ck Tryz.func151 Tryz.ntmps151 (by decide +kernel)
abbrev QeY:IL:=[je 1 1 0,jh 2]
abbrev QeZ:IL:=[jb 3 1 1,jc 4 3,zx 5 154 4 155,jz 6 5,ja 2 6]
abbrev Qe0:RC:=jQ QeY (jQ QeZ (.ret))
abbrev Qe1:List RR:=[.tmp 2]
theorem Qe2:CT 153 7 Qe0 Qe1:=ck Tryz.func153 Tryz.ntmps153 (by decide +kernel)
abbrev Qe3:IL:=[jh 4]
abbrev Qe4:IL:=[jd 5 1]
abbrev Qe5:IL:=[ja 6 5,ja 7 0,ji 8 1 7,jp 9 6 8]
abbrev Qe6:IL:=[ja 12 1,ja 13 0,ja 14 5,zi 15 14 1,jl 16 8 13 15,yd 17 8 16,ja 18 0,ja 19 5,jl 20 8 18 19,yd 21 8 20,⟨some 22,.callF (.t 12) [(.t 17),(.t 21)],none⟩,jz 23 22]
abbrev Qe7:IL:=[jh 4]
abbrev Qe8:IL:=[ja 10 5,jm 11 10 1,ja 5 11]
abbrev Qe9:RC:=.seq (jQ Qe5 (jX 9 0)) (.seq (.block 1 (jD Qe6 (.cond (.t 23) (jQ Qe7 (.ret)) (.skip)))) (.reg Qe8))
abbrev Qfa:IL:=[yj 4]
abbrev Qfb:RC:=jQ Qe3 (.seq (jQ Qe4 (.block 0 (.loop Qe9))) (jQ Qfa (.ret)))
abbrev Qfc:List RR:=[.tmp 4]
theorem Qfd:CT 154 24 Qfb Qfc:=ck Tryz.func154 Tryz.ntmps154 (by decide +kernel)
abbrev Qfe:IL:=[je 2 2 0,je 3 3 1,jh 4]
abbrev Qff:IL:=[jb 5 0 2,jc 6 5,jb 7 0 3,jc 8 7,jp 9 6 8,ja 4 9]
abbrev Qfg:RC:=jQ Qfe (jQ Qff (.ret))
abbrev Qfh:List RR:=[.tmp 4]
theorem Qfi:CT 155 10 Qfg Qfh:=ck Tryz.func155 Tryz.ntmps155 (by decide +kernel)
abbrev Qfj:IL:=[je 2 2 0,jh 3]
abbrev Qfk:IL:=[jb 4 1 1,jc 5 4,D9 6 160 2,yq 7 139 5 6,ja 8 7,jo 9 1 2 8,js 10 9 8,zo 11 161 10 162 8,jn 12 8 11,ja 3 12]
abbrev Qfl:RC:=jQ Qfj (jQ Qfk (.ret))
abbrev Qfm:List RR:=[.tmp 3]
theorem Qfn:CT 159 13 Qfl Qfm:=ck Tryz.func159 Tryz.ntmps159 (by decide +kernel)
abbrev Qfo:IL:=[je 3 3 1,jh 4]
abbrev Qfp:IL:=[ja 7 0,ji 8 1 7,jd 9 0]
abbrev Qfq:IL:=[jp 10 9 8]
abbrev Qfr:IL:=[ja 11 9,jl 12 8 7 9,jf 13 8 12,zd 6 6,ja 5 11,jq 8 6 13]
abbrev Qfs:IL:=[ja 14 0,ja 15 5,Fb 16 8 14 15,⟨some 17,.val (.mkfn (.func 216) [] [(.t 3),(.t 6)]),none⟩,yq 18 143 16 17]
abbrev Qft:IL:=[yj 4]
abbrev Qfu:IL:=[jm 19 9 1,ja 9 19]
abbrev Qfv:RC:=.gho (.drop 6) (jQ Qfq (.seq (jX 10 0) (.seq (.block 1 (jQ Qfr (jQ Qfs (.cond (.t 18) (jQ Qft (.ret)) (.skip))))) (.reg Qfu))))
abbrev Qfw:IL:=[jh 4]
abbrev Qfx:RC:=jQ Qfo (.seq (jQ Qfp (.block 0 (.loop Qfv))) (jQ Qfw (.ret)))
abbrev Qfy:List RR:=[.tmp 4]
theorem Qfz:CT 161 20 Qfx Qfy:=ck Tryz.func161 Tryz.ntmps161 (by decide +kernel)
abbrev QfA:IL:=[je 1 1 0,yw 2]
abbrev QfB:IL:=[jb 3 1 1,jc 4 3,ja 2 4]
abbrev QfC:RC:=jQ QfA (jQ QfB (.ret))
abbrev QfD:List RR:=[.tmp 2]
theorem QfE:CT 162 5 QfC QfD:=ck Tryz.func162 Tryz.ntmps162 (by decide +kernel)
abbrev QfF:IL:=[je 1 1 0,jh 2]
abbrev QfG:IL:=[jb 3 1 1,jc 4 3,zx 5 143 4 167,ja 2 5]
abbrev QfH:RC:=jQ QfF (jQ QfG (.ret))
abbrev QfI:List RR:=[.tmp 2]
theorem QfJ:CT 166 6 QfH QfI:=ck Tryz.func166 Tryz.ntmps166 (by decide +kernel)
abbrev QfK:IL:=[je 1 1 0,jh 2]
abbrev QfL:IL:=[jb 3 0 1,jc 4 3,yu 5 4 1,ja 6 5,jo 7 0 1 6,js 8 7 6,yk 9 8 65535 6,jn 10 6 9,ja 2 10]
abbrev QfM:RC:=jQ QfK (jQ QfL (.ret))
abbrev QfN:List RR:=[.tmp 2]
theorem QfO:CT 167 11 QfM QfN:=ck Tryz.func167 Tryz.ntmps167 (by decide +kernel)
abbrev QfP:IL:=[je 2 2 0,jh 3]
abbrev QfQ:IL:=[jf 4 3 2,jr 5 170 4,jz 6 5,ja 7 6,jo 8 1 2 7,js 9 8 7,⟨some 10,.val (.mkfn (.func 171) [] [(.t 1)]),(some (7,false))⟩,⟨some 11,.callF (.f 143) [(.t 9),(.t 10)],(some (7,false))⟩,jn 12 7 11,ja 3 12]
abbrev QfR:RC:=jQ QfP (jQ QfQ (.ret))
abbrev QfS:List RR:=[.tmp 3]
theorem QfT:CT 169 13 QfR QfS:=ck Tryz.func169 Tryz.ntmps169 (by decide +kernel)
abbrev QfU:IL:=[je 1 1 0,jh 2]
abbrev QfV:IL:=[jd 3 (-1),jd 4 (-1)]
abbrev QfW:IL:=[jb 7 1 1,jc 8 7,ji 9 1 8,jd 10 0]
abbrev QfX:IL:=[jp 11 10 9]
abbrev QfY:IL:=[jl 12 8 8 10,jf 13 8 12,zd 6 6,jq 8 6 13]
abbrev QfZ:IL:=[jb 14 7 6,jc 15 14,yc 16 15 (-1),ja 17 16,jk 18 3 6 17,ju 19 18 17,zs 20 19 2 17,jg 21 20 17,jo 22 7 6 21,js 23 22 21,jv 24 3 21,jbh 25 24 1 21,zv 26 23 25 21,jv 27 26 21,jk 28 7 6 27,ju 29 28 27,jg 30 4 27,⟨some 31,.val (.bin .num .neq (.t 29) (.t 30)),(some (27,true))⟩,yx 32 27 31 21,zg 33 21 32 17,jj 34 17 33]
abbrev Qf0:IL:=[jh 2]
abbrev Qf1:IL:=[ja 35 3,jb 36 7 6,yb 37 0 6 36,⟨some 38,.val (.mnx true (.t 35) (.t 37)),none⟩,jb 39 7 6,yb 40 0 6 39,ja 3 38,ja 4 40]
abbrev Qf2:IL:=[jm 41 10 1,ja 10 41]
abbrev Qf3:RC:=.gho (.drop 6) (jQ QfX (.seq (jX 11 0) (.seq (.block 1 (jQ QfY (.seq (jQ QfZ (.cond (.t 34) (jQ Qf0 (.ret)) (.skip))) (.draw Qf1)))) (.reg Qf2))))
abbrev Qf4:IL:=[jb 42 2 1,jc 43 42,ja 44 3,jm 45 44 1,zq 46 43 45,ja 2 46]
abbrev Qf5:RC:=jQ QfU (jQ QfV (.seq (jQ QfW (.block 0 (.loop Qf3))) (jQ Qf4 (.ret))))
abbrev Qf6:List RR:=[.tmp 2]
theorem Qf7:CT 170 47 Qf5 Qf6:=ck Tryz.func170 Tryz.ntmps170 (by decide +kernel)
abbrev Qf8:IL:=[je 2 2 0,jh 3]
abbrev Qf9:IL:=[jb 4 2 2,jc 5 4,jr 6 172 5,jz 7 6,ja 8 7,jo 9 2 2 8,js 10 9 8,ye 11 0 10 8,yk 12 11 4096 8,jn 13 8 12,ja 14 13,jo 15 3 2 14,js 16 15 14,N3 17 16 1 14,jn 18 14 17,ja 19 18,jo 20 3 2 19,js 21 20 19,yk 22 21 5 19,jn 23 19 22,ja 24 23,yv 25 8 2 24,ze 26 173 25 24,za 27 26 24,jn 28 24 27,ja 29 28,yv 30 2 1 29,yv 31 8 2 29,N5 32 174 30 31 29,za 33 32 29,jn 34 29 33,ja 3 34]
abbrev Qga:RC:=jQ Qf8 (jQ Qf9 (.ret))
abbrev Qgb:List RR:=[.tmp 3]
theorem Qgc:CT 171 35 Qga Qgb:=ck Tryz.func171 Tryz.ntmps171 (by decide +kernel)
abbrev Qgd:IL:=[jh 2]
abbrev Qge:IL:=[ja 3 0,jr 4 220 3,yu 5 4 0,ja 2 5]
abbrev Qgf:RC:=jQ Qgd (jQ Qge (.ret))
abbrev Qgg:List RR:=[.tmp 2]
theorem Qgh:CT 172 6 Qgf Qgg:=ck Tryz.func172 Tryz.ntmps172 (by decide +kernel)
abbrev Qgi:IL:=[je 1 1 0,jh 2]
abbrev Qgj:IL:=[jb 3 3 1,jc 4 3,yc 5 4 5]
abbrev Qgk:IL:=[jb 6 4 1,jc 7 6,jt 8 7 0,ja 2 8]
abbrev Qgl:IL:=[jb 9 4 1,jc 10 9,ym 11 10 1,ja 12 11,jk 13 4 1 12,ju 14 13 12,zf 15 14 7 12,jj 16 12 15,ja 17 16,jk 18 4 1 17,ju 19 18 17,zs 20 19 6 17,jj 21 17 20,ja 2 21]
abbrev Qgm:RC:=jQ Qgi (.seq (jQ Qgj (.cond (.t 5) (jQ Qgk (.ret)) (.skip))) (jQ Qgl (.ret)))
abbrev Qgn:List RR:=[.tmp 2]
theorem Qgo:CT 173 22 Qgm Qgn:=ck Tryz.func173 Tryz.ntmps173 (by decide +kernel)
abbrev Qgp:IL:=[je 2 2 0,je 3 3 1,jh 4]
abbrev Qgq:IL:=[jb 5 5 3,jc 6 5]
abbrev Qgr:IL:=[jt 8 6 10,ja 7 8]
abbrev Qgs:IL:=[jb 9 6 3,jc 10 9,ym 11 10 0,ja 12 11,jk 13 6 3 12,ju 14 13 12,jk 15 0 2 12,ju 16 15 12,ys 17 1 16 12,D8 18 14 17 12,jj 19 12 18,ja 20 19,jk 21 3 3 20,ju 22 21 20,zs 23 22 3 20,jj 24 20 23,ja 4 24]
abbrev Qgt:IL:=[jt 26 6 9,ja 25 26]
abbrev Qgu:IL:=[jb 27 6 3,jc 28 27,ym 29 28 0,ja 30 29,jk 31 6 3 30,ju 32 31 30,jk 33 1 2 30,ju 34 33 30,ys 35 1 34 30,D8 36 32 35 30,jj 37 30 36,ja 4 37]
abbrev Qgv:IL:=[jb 38 5 3,jc 39 38,jr 40 221 39,ja 41 40,jk 42 6 3 41,ju 43 42 41,yl 44 43 (-1) 41,jj 45 41 44,ja 4 45]
abbrev Qgw:RC:=jQ Qgp (.seq (jQ Qgq (.block 0 (jQ Qgr (.cond (.t 7) (jQ Qgs (.ret)) (jQ Qgt (.cond (.t 25) (jQ Qgu (.ret)) (.skip))))))) (jQ Qgv (.ret)))
abbrev Qgx:List RR:=[.tmp 4]
theorem Qgy:CT 174 46 Qgw Qgx:=ck Tryz.func174 Tryz.ntmps174 (by decide +kernel)
abbrev Qgz:IL:=[je 2 2 0,jh 3]
abbrev QgA:IL:=[jb 4 3 2,jc 5 4,jt 6 5 1,ja 7 6,jk 8 5 2 7,ju 9 8 7,yl 10 9 10 7,jj 11 7 10,ja 12 11,ju 13 1 12,jk 14 6 2 12,ju 15 14 12,ya 16 1 13 15 12,ju 17 16 12,yy 18 17 12,jj 19 12 18,ja 3 19]
abbrev QgB:RC:=jQ Qgz (jQ QgA (.ret))
abbrev QgC:List RR:=[.tmp 3]
theorem QgD:CT 178 20 QgB QgC:=ck Tryz.func178 Tryz.ntmps178 (by decide +kernel)
abbrev QgE:IL:=[jh 4]
abbrev QgF:IL:=[ja 5 0,ja 6 1,jy 7 223 5 6,ym 8 7 0,ja 4 8]
abbrev QgG:RC:=jQ QgE (jQ QgF (.ret))
abbrev QgH:List RR:=[.tmp 4]
theorem QgI:CT 179 9 QgG QgH:=ck Tryz.func179 Tryz.ntmps179 (by decide +kernel)
abbrev QgJ:IL:=[je 2 2 0,jh 3]
abbrev QgK:IL:=[jb 4 0 2,jc 5 4,jb 6 0 1,jc 7 6,zq 8 5 7,ja 3 8]
abbrev QgL:RC:=jQ QgJ (jQ QgK (.ret))
abbrev QgM:List RR:=[.tmp 3]
theorem QgN:CT 180 9 QgL QgM:=ck Tryz.func180 Tryz.ntmps180 (by decide +kernel)
abbrev QgO:IL:=[je 4 4 0,je 5 5 1,je 6 6 2,jd 8 0]
abbrev QgP:IL:=[jb 12 3 5,jc 13 12]
abbrev QgQ:IL:=[jt 15 13 4,ja 14 15]
abbrev QgR:IL:=[jb 16 0 6,jc 17 16,yc 18 17 11,ja 19 18,yv 20 7 6 19,ze 21 89 20 19,jn 22 19 21]
abbrev QgS:IL:=[jd 8 12]
abbrev QgT:IL:=[jb 23 3 6,jc 24 23,ji 25 1 24,jd 26 0]
abbrev QgU:IL:=[jp 27 26 25]
abbrev QgV:IL:=[jl 28 7 24 26,jf 29 7 28,yn 10 10,jq 7 10 29]
abbrev QgW:IL:=[jf 30 2 4,jf 31 8 5,jf 32 7 10,ja 33 3,zl 34 224 30 31 32 33,ja 11 34]
abbrev QgX:IL:=[ja 35 11,yc 36 35 0]
abbrev Eo:IL:=[ja 37 11,ja 8 37]
abbrev Ep:IL:=[jm 38 26 1,ja 26 38]
abbrev QgY:RC:=.gho (.drop 10) (jQ QgU (.seq (jX 27 1) (.seq (.block 2 (jQ QgV (jQ QgW (jQ QgX (.cond (.t 36) (jQ Eo (.ret)) (.skip)))))) (.reg Ep))))
abbrev Er:IL:=[jd 8 0]
abbrev Es:IL:=[jt 40 13 5,ja 39 40]
abbrev Et:IL:=[jb 41 0 6,jc 42 41,yc 43 42 12,ja 44 43,yv 45 7 6 44,ze 46 89 45 44,jn 47 44 46]
abbrev Eu:IL:=[jd 8 12]
abbrev Ex:IL:=[jf 48 2 4,jf 49 8 5,jb 50 4 6,jc 51 50,ja 52 3,zl 53 225 48 49 51 52,ja 8 53]
abbrev Ey:IL:=[jf 54 2 4,jf 55 8 5,jf 56 7 6,ja 57 3,zl 58 224 54 55 56 57,ja 8 58]
abbrev QgZ:RC:=jQ QgO (.seq (jQ QgP (.block 0 (jQ QgQ (.cond (.t 14) (.seq (jQ QgR (.cond (.t 22) (jQ QgS (.ret)) (.skip))) (.seq (jQ QgT (.block 1 (.loop QgY))) (jQ Er (.ret)))) (jQ Es (.cond (.t 39) (.seq (jQ Et (.cond (.t 47) (jQ Eu (.ret)) (.skip))) (jQ Ex (.ret))) (.skip))))))) (jQ Ey (.ret)))
abbrev Qg0:List RR:=[.tmp 8]
theorem Qg1:CT 181 59 QgZ Qg0:=ck Tryz.func181 Tryz.ntmps181 (by decide +kernel)
abbrev Qg2:IL:=[jd 4 0]
abbrev Qg3:IL:=[ja 6 0,ji 7 1 6,jd 8 0]
abbrev Qg4:IL:=[jp 9 8 7]
abbrev Qg5:IL:=[ja 10 8,ja 5 10]
abbrev Qg6:IL:=[ja 11 1,ja 12 0,ja 13 5,jl 14 8 12 13,jf 15 8 14,Fa 16 11 15]
abbrev Qg7:IL:=[ja 17 5,ja 4 17]
abbrev Qg8:IL:=[jm 18 8 1,ja 8 18]
abbrev Qg9:RC:=jQ Qg4 (.seq (jX 9 0) (.seq (.block 1 (jQ Qg5 (jQ Qg6 (.cond (.t 16) (jQ Qg7 (.ret)) (.skip))))) (.reg Qg8)))
abbrev Qha:IL:=[jd 4 (-1)]
abbrev Qhb:RC:=jQ Qg2 (.seq (jQ Qg3 (.block 0 (.loop Qg9))) (jQ Qha (.ret)))
abbrev Qhc:List RR:=[.tmp 4]
theorem Qhd:CT 182 19 Qhb Qhc:=ck Tryz.func182 Tryz.ntmps182 (by decide +kernel)
def Bl:IL:=[yf 2]
def Bm:IL:=[ja 3 0,⟨some 4,.isnil false (.t 3),none⟩]
def Bn:IL:=[yf 2]
def Bo:IL:=[⟨some 5,.bsl0 5 7,none⟩,ja 6 0,yr 7 7 128 32 5 6,ja 2 7]
def Co:RC:=jQ Bl (.seq (jQ Bm (.cond (.t 4) (jQ Bn (.gho (.vec 2 2 7) (.gho (.give 2 2 1 1000) (.ret)))) (.skip))) (jQ Bo (.gho (.give 2 5 1 1000) (.ret))))
def Dy:List RR:=[.tmp 2]
theorem RH:CT 184 8 Co Dy:=ck Tryz.func184 Tryz.ntmps184 (by decide +kernel)
def Bp:IL:=[yf 2]
def Bq:IL:=[ja 3 0,⟨some 4,.isnil false (.t 3),none⟩]
def Bs:IL:=[yf 2]
def Bu:IL:=[⟨some 5,.bsl0 5 8,none⟩,ja 6 0,yr 7 8 136 55 5 6,ja 2 7]
def Cq:RC:=jQ Bp (.seq (jQ Bq (.cond (.t 4) (jQ Bs (.gho (.vec 2 2 8) (.gho (.give 2 2 1 1000) (.ret)))) (.skip))) (jQ Bu (.gho (.give 2 5 1 1000) (.ret))))
def Dz:List RR:=[.tmp 2]
theorem RI:CT 185 8 Cq Dz:=ck Tryz.func185 Tryz.ntmps185 (by decide +kernel)
abbrev Qhe:IL:=[ja 4 0,ja 5 0,ji 6 1 5,ja 7 1,⟨some 8,.callF (.f 227) [(.t 4),(.t 6),(.t 7)],none⟩]
abbrev Qhf:RC:=.reg Qhe
abbrev Qhg:List RR:=[]
theorem QJR:CT 186 9 Qhf Qhg:=ck Tryz.func186 Tryz.ntmps186 (by decide +kernel)
abbrev Qhh:IL:=[je 2 2 0,je 3 3 1,jd 4 0]
abbrev Qhi:IL:=[jb 5 0 2,jc 6 5,jb 7 0 3,jc 8 7,jy 9 101 6 8,ja 4 9]
abbrev Qhj:RC:=jQ Qhh (jQ Qhi (.ret))
abbrev Qhk:List RR:=[.tmp 4]
theorem Qhl:CT 187 10 Qhj Qhk:=ck Tryz.func187 Tryz.ntmps187 (by decide +kernel)
abbrev Qhm:IL:=[je 3 3 0,je 4 4 1,je 5 5 2,yn 6 6]
abbrev Qhn:IL:=[jb 7 5 4,jc 8 7,jt 9 8 10]
abbrev Qho:IL:=[jf 10 2 3,jb 11 6 4,jc 12 11,jf 13 7 5,yh 14 60 10 12 13,jq 7 6 14]
abbrev Qhp:IL:=[jf 15 7 5,jr 16 50 15,jq 7 6 16]
abbrev Qhq:RC:=jQ Qhm (.seq (jQ Qhn (.cond (.t 9) (jQ Qho (.ret)) (.skip))) (jQ Qhp (.ret)))
abbrev Qhr:List RR:=[.cell 6 (some 7)]
theorem RJ:CT 188 17 Qhq Qhr:=ck Tryz.func188 Tryz.ntmps188 (by decide +kernel)
abbrev Qhs:IL:=[je 1 1 0,jh 2]
abbrev Qht:IL:=[jb 3 0 1,jc 4 3,jr 5 221 4,ja 6 5,zn 7 7 1 6,zh 8 233 7 6,jj 9 6 8,ja 10 9,jk 11 1 1 10,ju 12 11 10,⟨some 13,.val (.bin .num .eql (.t 12) (.c (.int .u64 0))),(some (10,true))⟩,jj 14 10 13,ja 15 14,jk 16 2 1 15,ju 17 16 15,⟨some 18,.val (.bin .str .eql (.t 17) (.c (.str []))),(some (15,true))⟩,jj 19 15 18,ja 2 19]
abbrev Qhu:RC:=jQ Qhs (jQ Qht (.ret))
abbrev Qhv:List RR:=[.tmp 2]
theorem Qhw:CT 190 20 Qhu Qhv:=ck Tryz.func190 Tryz.ntmps190 (by decide +kernel)
abbrev Qhx:IL:=[jd 6 20]
abbrev Qhy:IL:=[ja 10 6,jd 7 0,ja 8 10]
abbrev Qhz:IL:=[ja 11 8,ja 12 1,Bj 13 11 12]
abbrev QhA:IL:=[ja 14 0,ja 15 7,ja 16 8,ja 17 2,⟨some 18,.callF (.f 234) [(.t 14),(.t 15),(.t 16),(.t 17)],none⟩]
abbrev QhB:IL:=[ja 19 8,ja 7 19]
abbrev QhC:IL:=[ja 20 8,ja 21 6,yi 22 20 21,ja 8 22]
abbrev QhD:RC:=.seq (jQ Qhz (jX 13 0)) (.block 1 (jQ QhA (jQ QhB (.reg QhC))))
abbrev QhE:IL:=[ja 23 0,ja 24 7,ja 25 1,ja 26 2,⟨some 27,.callF (.f 234) [(.t 23),(.t 24),(.t 25),(.t 26)],none⟩]
abbrev QhF:IL:=[ja 28 6,ja 29 1,jp 30 28 29]
abbrev QhG:IL:=[ja 31 6,MX 32 2 31,jd 7 0,ja 8 32]
abbrev QhH:IL:=[ja 33 8,ja 34 1,Bj 35 33 34]
abbrev EA:IL:=[ja 36 0,ja 37 7,ja 38 7,ja 39 6,yi 40 38 39,ja 41 8,ja 42 2,⟨some 43,.callF (.f 235) [(.t 36),(.t 37),(.t 40),(.t 41),(.t 42)],none⟩]
abbrev EB:IL:=[ja 44 8,ja 7 44]
abbrev EC:IL:=[ja 45 8,ja 46 6,MX 47 2 46,yi 48 45 47,ja 8 48]
abbrev QhI:RC:=.seq (jQ QhH (jX 35 4)) (.block 5 (jQ EA (jQ EB (.reg EC))))
abbrev ED:IL:=[ja 49 7,ja 50 6,yi 51 49 50,ja 9 51]
abbrev EE:IL:=[ja 52 9,ja 53 1,jp 54 52 53]
abbrev EF:IL:=[ja 55 0,ja 56 7,ja 57 9,ja 58 1,ja 59 2,⟨some 60,.callF (.f 235) [(.t 55),(.t 56),(.t 57),(.t 58),(.t 59)],none⟩]
abbrev EG:IL:=[ja 61 6,⟨some 62,.val (.bin .num .mul (.t 61) (.c (.int .i64 2))),none⟩,ja 6 62]
abbrev QhJ:RC:=.seq (jQ QhF (jX 30 2)) (.block 3 (jQ QhG (.seq (.block 4 (.loop QhI)) (.seq (jQ ED (jQ EE (.cond (.t 54) (.reg EF) (.skip)))) (.reg EG)))))
abbrev QhK:RC:=jQ Qhx (jQ Qhy (.seq (.block 0 (.loop QhD)) (jQ QhE (.block 2 (.loop QhJ)))))
abbrev QhL:List RR:=[]
theorem QJS:CT 191 63 QhK QhL:=ck Tryz.func191 Tryz.ntmps191 (by decide +kernel)
abbrev QhM:IL:=[jh 2]
abbrev QhN:IL:=[ja 3 0,ja 4 0,zt 5 3 4,ja 2 5]
abbrev QhO:RC:=jQ QhM (jQ QhN (.ret))
abbrev QhP:List RR:=[.tmp 2]
theorem QhQ:CT 192 6 QhO QhP:=ck Tryz.func192 Tryz.ntmps192 (by decide +kernel)
abbrev QhR:IL:=[ja 2 0,Bi 3 2,jb 4 0 3,jc 5 4,⟨some 6,.val (.bin .ptr .eql (.t 5) (.c (.nilp))),none⟩]
abbrev QhS:IL:=[ja 7 0,ja 8 0,⟨some 9,.val (.toU (.t 8)),none⟩,⟨some 10,.val (.same (.t 9)),none⟩,⟨some 11,.val (.ofU 141 2 (.t 10)),none⟩,Bi 12 7,jb 13 0 12,jq 1 13 11]
abbrev QhT:IL:=[ja 14 0,Bi 15 14,jb 16 0 15,jc 17 16,ja 18 0,⟨some 19,.val (.bin .ptr .neq (.t 17) (.t 18)),none⟩]
abbrev QhU:RC:=jQ QhR (.cond (.t 6) (.reg QhS) (jQ QhT (.cond (.t 19) (.no) (.skip))))
abbrev QhV:List RR:=[]
theorem QhW:CT 193 20 QhU QhV:=ck Tryz.func193 Tryz.ntmps193 (by decide +kernel)
abbrev QhX:IL:=[jd 4 0]
abbrev QhY:IL:=[ja 6 0,ji 7 1 6,jd 8 0]
abbrev QhZ:IL:=[jp 9 8 7]
abbrev Qh0:IL:=[ja 10 8,ja 5 10]
abbrev Qh1:IL:=[ja 11 1,ja 12 0,ja 13 5,jl 14 8 12 13,jf 15 8 14,Fa 16 11 15]
abbrev Qh2:IL:=[ja 17 5,ja 4 17]
abbrev Qh3:IL:=[jm 18 8 1,ja 8 18]
abbrev Qh4:RC:=jQ QhZ (.seq (jX 9 0) (.seq (.block 1 (jQ Qh0 (jQ Qh1 (.cond (.t 16) (jQ Qh2 (.ret)) (.skip))))) (.reg Qh3)))
abbrev Qh5:IL:=[jd 4 (-1)]
abbrev Qh6:RC:=jQ QhX (.seq (jQ QhY (.block 0 (.loop Qh4))) (jQ Qh5 (.ret)))
abbrev Qh7:List RR:=[.tmp 4]
theorem RK:CT 196 19 Qh6 Qh7:=ck Tryz.func196 Tryz.ntmps196 (by decide +kernel)
abbrev Qh8:IL:=[je 3 3 1,zu 4 4]
abbrev Qh9:IL:=[ja 5 0,jb 6 0 3,jq 1 6 5]
abbrev Qia:IL:=[jf 7 4 3,jq 4 4 7]
abbrev Qib:RC:=jQ Qh8 (jQ Qh9 (jQ Qia (.ret)))
abbrev Qic:List RR:=[.cell 4 (some 4)]
theorem Qid:CT 197 8 Qib Qic:=ck Tryz.func197 Tryz.ntmps197 (by decide +kernel)
abbrev Qie:IL:=[je 3 3 0,je 4 4 1,je 5 5 2,zu 6 6]
abbrev Qif:IL:=[jb 7 5 4,jc 8 7,jt 9 8 10]
abbrev Qig:IL:=[jf 10 2 3,jb 11 6 4,jc 12 11,jf 13 7 5,yh 14 31 10 12 13,⟨some 15,.val (.build [.int .i64 0,.int .i64 0,.int .u64 0,.str []] [(1,1,(.c (.int .i64 4))),(3,1,(.t 14))]),none⟩,jq 4 6 15]
abbrev Qih:IL:=[jf 16 7 5,jr 17 23 16,jq 4 6 17]
abbrev Qii:RC:=jQ Qie (.seq (jQ Qif (.cond (.t 9) (jQ Qig (.ret)) (.skip))) (jQ Qih (.ret)))
abbrev Qij:List RR:=[.cell 6 (some 4)]
theorem RL:CT 198 18 Qii Qij:=ck Tryz.func198 Tryz.ntmps198 (by decide +kernel)
abbrev Qik:IL:=[je 1 1 0,jd 2 0]
abbrev Qil:IL:=[jb 4 3 1,jc 5 4,jt 6 5 5,ja 3 6]
abbrev Qim:IL:=[jd 2 6]
abbrev Qin:IL:=[jf 8 8 1,jr 9 116 8,ja 7 9]
abbrev Qio:IL:=[jd 2 5]
abbrev Qip:IL:=[jb 10 5 1,jc 11 10]
abbrev Qiq:IL:=[jt 13 11 1,ja 12 13]
abbrev Qir:IL:=[jt 14 11 4,ja 12 14]
abbrev Qis:IL:=[jt 15 11 5,ja 12 15]
abbrev Qit:IL:=[jt 16 11 9,ja 12 16]
abbrev EH:IL:=[jd 2 0]
abbrev EI:IL:=[jt 18 11 2,ja 17 18]
abbrev EJ:IL:=[jt 19 11 3,ja 17 19]
abbrev EK:IL:=[jd 2 1]
abbrev EL:IL:=[jt 21 11 6,ja 20 21]
abbrev EM:IL:=[jd 2 2]
abbrev EN:IL:=[jt 23 11 7,ja 22 23]
abbrev EO:IL:=[jt 24 11 8,ja 22 24]
abbrev EP:IL:=[jd 2 3]
abbrev EQ:IL:=[jt 26 11 10,ja 25 26]
abbrev ER:IL:=[jd 2 4]
abbrev ES:IL:=[jd 2 (-1)]
abbrev Qiu:RC:=jQ Qik (.seq (.block 0 (jQ Qil (.cond (.t 3) (jQ Qim (.ret)) (jQ Qin (.cond (.t 7) (jQ Qio (.ret)) (.skip)))))) (.seq (jQ Qip (.block 1 (.seq (jQ Qiq (.cond (.t 12) (.skip) (jQ Qir (.cond (.t 12) (.skip) (jQ Qis (.cond (.t 12) (.skip) (.reg Qit))))))) (.cond (.t 12) (jQ EH (.ret)) (.seq (jQ EI (.cond (.t 17) (.skip) (.reg EJ))) (.cond (.t 17) (jQ EK (.ret)) (jQ EL (.cond (.t 20) (jQ EM (.ret)) (.seq (jQ EN (.cond (.t 22) (.skip) (.reg EO))) (.cond (.t 22) (jQ EP (.ret)) (jQ EQ (.cond (.t 25) (jQ ER (.ret)) (.skip))))))))))))) (jQ ES (.ret))))
abbrev Qiv:List RR:=[.tmp 2]
theorem Qiw:CT 199 27 Qiu Qiv:=ck Tryz.func199 Tryz.ntmps199 (by decide +kernel)
abbrev Qix:IL:=[jh 4]
abbrev Qiy:IL:=[ja 5 0,ja 6 1,yq 7 55 5 6,ym 8 7 0,ja 4 8]
abbrev Qiz:RC:=jQ Qix (jQ Qiy (.ret))
abbrev QiA:List RR:=[.tmp 4]
theorem QiB:CT 207 9 Qiz QiA:=ck Tryz.func207 Tryz.ntmps207 (by decide +kernel)
abbrev QiC:IL:=[jh 4]
abbrev QiD:IL:=[ja 5 0,ja 6 1,yq 7 239 5 6,ym 8 7 0,ja 4 8]
abbrev QiE:RC:=jQ QiC (jQ QiD (.ret))
abbrev QiF:List RR:=[.tmp 4]
theorem QiG:CT 208 9 QiE QiF:=ck Tryz.func208 Tryz.ntmps208 (by decide +kernel)
abbrev QiH:IL:=[jh 2]
abbrev QiI:IL:=[ja 5 0,⟨some 6,.call (.f 211) [(.t 5),(.c (.str [46]))],none⟩,ji 7 1 6,jd 8 0]
abbrev QiJ:IL:=[jp 9 8 7]
abbrev QiK:IL:=[jl 10 1 6 8,jc 11 10,ja 4 11]
abbrev QiL:IL:=[ja 12 4,jr 13 214 12,jz 14 13]
abbrev QiM:IL:=[jh 2]
abbrev QiN:IL:=[jm 15 8 1,ja 8 15]
abbrev QiO:RC:=jQ QiJ (.seq (jX 9 0) (.seq (.block 1 (jQ QiK (jQ QiL (.cond (.t 14) (jQ QiM (.ret)) (.skip))))) (.reg QiN)))
abbrev QiP:IL:=[ja 16 0,ji 17 0 16,⟨some 18,.val (.bin .num .leq (.t 17) (.c (.int .i64 120))),none⟩,ja 2 18]
abbrev QiQ:RC:=jQ QiH (.seq (jQ QiI (.block 0 (.loop QiO))) (jQ QiP (.ret)))
abbrev QiR:List RR:=[.tmp 2]
theorem QiS:CT 209 19 QiQ QiR:=ck Tryz.func209 Tryz.ntmps209 (by decide +kernel)
abbrev QiT:IL:=[jh 4]
abbrev QiU:IL:=[ja 5 0,ja 6 1,yq 7 240 5 6,ym 8 7 0,ja 4 8]
abbrev QiV:RC:=jQ QiT (jQ QiU (.ret))
abbrev QiW:List RR:=[.tmp 4]
theorem QiX:CT 210 9 QiV QiW:=ck Tryz.func210 Tryz.ntmps210 (by decide +kernel)
abbrev QiY:IL:=[yf 4]
abbrev QiZ:IL:=[ja 5 0,ja 6 1,⟨some 7,.call (.f 241) [(.t 5),(.t 6),(.c (.int .i64 0)),(.c (.int .i64 (-1)))],none⟩,ja 4 7]
abbrev Qi0:RC:=jQ QiY (jQ QiZ (.ret))
abbrev Qi1:List RR:=[.tmp 4]
theorem Qi2:CT 211 8 Qi0 Qi1:=ck Tryz.func211 Tryz.ntmps211 (by decide +kernel)
abbrev Qi3:IL:=[jh 2]
abbrev Qi4:IL:=[ja 3 0]
abbrev Qi5:IL:=[⟨some 5,.val (.bin .str .eql (.t 3) (.c (.str [109,101,115,115,97,103,101]))),none⟩,ja 4 5]
abbrev Qi6:IL:=[⟨some 6,.val (.bin .str .eql (.t 3) (.c (.str [101,110,117,109]))),none⟩,ja 4 6]
abbrev Qi7:IL:=[⟨some 7,.val (.bin .str .eql (.t 3) (.c (.str [115,101,114,118,105,99,101]))),none⟩,ja 4 7]
abbrev Qi8:IL:=[⟨some 8,.val (.bin .str .eql (.t 3) (.c (.str [117,110,105,111,110]))),none⟩,ja 4 8]
abbrev Qi9:IL:=[⟨some 9,.val (.bin .str .eql (.t 3) (.c (.str [109,97,112]))),none⟩,ja 4 9]
abbrev Qja:IL:=[⟨some 10,.val (.bin .str .eql (.t 3) (.c (.str [108,105,115,116]))),none⟩,ja 4 10]
abbrev Qjb:IL:=[⟨some 11,.val (.bin .str .eql (.t 3) (.c (.str [114,101,113,117,105,114,101,100]))),none⟩,ja 4 11]
abbrev Qjc:IL:=[⟨some 12,.val (.bin .str .eql (.t 3) (.c (.str [111,112,116,105,111,110,97,108]))),none⟩,ja 4 12]
abbrev ET:IL:=[⟨some 13,.val (.bin .str .eql (.t 3) (.c (.str [112,108,97,105,110]))),none⟩,ja 4 13]
abbrev EU:IL:=[⟨some 14,.val (.bin .str .eql (.t 3) (.c (.str [100,101,102,97,117,108,116]))),none⟩,ja 4 14]
abbrev EV:IL:=[⟨some 15,.val (.bin .str .eql (.t 3) (.c (.str [114,101,115,101,114,118,101,100]))),none⟩,ja 4 15]
abbrev EX:IL:=[yj 2]
abbrev EY:IL:=[⟨some 17,.val (.bin .str .eql (.t 3) (.c (.str [105,109,112,111,114,116]))),none⟩,ja 16 17]
abbrev EZ:IL:=[⟨some 18,.val (.bin .str .eql (.t 3) (.c (.str [115,112,97,99,101]))),none⟩,ja 16 18]
abbrev E0:IL:=[⟨some 19,.val (.bin .str .eql (.t 3) (.c (.str [114,112,99]))),none⟩,ja 16 19]
abbrev E1:IL:=[⟨some 20,.val (.bin .str .eql (.t 3) (.c (.str [115,116,114,101,97,109]))),none⟩,ja 16 20]
abbrev E2:IL:=[⟨some 21,.val (.bin .str .eql (.t 3) (.c (.str [114,101,116,117,114,110,115]))),none⟩,ja 16 21]
abbrev E3:IL:=[⟨some 22,.val (.bin .str .eql (.t 3) (.c (.str [111,112,101,110]))),none⟩,ja 16 22]
abbrev E4:IL:=[⟨some 23,.val (.bin .str .eql (.t 3) (.c (.str [116,114,117,101]))),none⟩,ja 16 23]
abbrev E5:IL:=[⟨some 24,.val (.bin .str .eql (.t 3) (.c (.str [102,97,108,115,101]))),none⟩,ja 16 24]
abbrev E6:IL:=[⟨some 25,.val (.bin .str .eql (.t 3) (.c (.str [110,97,110]))),none⟩,ja 16 25]
abbrev E7:IL:=[⟨some 26,.val (.bin .str .eql (.t 3) (.c (.str [105,110,102]))),none⟩,ja 16 26]
abbrev E8:IL:=[yj 2]
abbrev E9:IL:=[jh 2]
abbrev Qjd:RC:=jQ Qi3 (.seq (jQ Qi4 (.block 0 (.seq (jQ Qi5 (.cond (.t 4) (.skip) (jQ Qi6 (.cond (.t 4) (.skip) (jQ Qi7 (.cond (.t 4) (.skip) (jQ Qi8 (.cond (.t 4) (.skip) (jQ Qi9 (.cond (.t 4) (.skip) (jQ Qja (.cond (.t 4) (.skip) (jQ Qjb (.cond (.t 4) (.skip) (jQ Qjc (.cond (.t 4) (.skip) (jQ ET (.cond (.t 4) (.skip) (jQ EU (.cond (.t 4) (.skip) (.reg EV))))))))))))))))))))) (.cond (.t 4) (jQ EX (.ret)) (.seq (jQ EY (.cond (.t 16) (.skip) (jQ EZ (.cond (.t 16) (.skip) (jQ E0 (.cond (.t 16) (.skip) (jQ E1 (.cond (.t 16) (.skip) (jQ E2 (.cond (.t 16) (.skip) (jQ E3 (.cond (.t 16) (.skip) (jQ E4 (.cond (.t 16) (.skip) (jQ E5 (.cond (.t 16) (.skip) (jQ E6 (.cond (.t 16) (.skip) (.reg E7))))))))))))))))))) (.cond (.t 16) (jQ E8 (.ret)) (.skip))))))) (jQ E9 (.ret)))
abbrev Qje:List RR:=[.tmp 2]
theorem RM:CT 212 27 Qjd Qje:=ck Tryz.func212 Tryz.ntmps212 (by decide +kernel)
abbrev Qjf:IL:=[jh 4]
abbrev Qjg:IL:=[ja 5 0,ja 6 1,yq 7 196 5 6,ym 8 7 0,ja 4 8]
abbrev Qjh:RC:=jQ Qjf (jQ Qjg (.ret))
abbrev Qji:List RR:=[.tmp 4]
theorem Qjj:CT 213 9 Qjh Qji:=ck Tryz.func213 Tryz.ntmps213 (by decide +kernel)
abbrev Qjk:IL:=[jh 2]
abbrev Qjl:IL:=[ja 6 0,⟨some 7,.rngs 7 (.t 6),none⟩]
abbrev Qjm:IL:=[⟨some 8,.nxts (.t 7),none⟩,jx 9 8 0]
abbrev Qjn:IL:=[jx 10 8 1,jx 11 8 2,ja 3 10,ja 4 11]
abbrev Qjo:IL:=[ja 12 4,jr 13 242 12,ja 5 13]
abbrev Qjp:IL:=[ja 14 5,jt 15 14 0,ja 16 15,jv 17 3 16,yt 18 17 0 16,jv 19 18 16,jg 20 5 19,zs 21 20 1 19,yx 22 19 21 16,jv 23 22 16,jg 24 5 23,zs 25 24 2 23,yx 26 23 25 16,jn 27 16 26]
abbrev Qjq:IL:=[jh 2]
abbrev Qjr:RC:=jQ Qjm (.seq (jX 9 0) (.block 1 (jQ Qjn (jQ Qjo (jQ Qjp (.cond (.t 27) (jQ Qjq (.ret)) (.skip)))))))
abbrev Qjs:IL:=[ja 28 0,ji 29 0 28,ym 30 29 1,ja 31 30,jg 32 0 31,ys 33 0 32 31,zf 34 33 40 31,jj 35 31 34,ja 2 35]
abbrev Qjt:RC:=jQ Qjk (.seq (jQ Qjl (.block 0 (.loop Qjr))) (jQ Qjs (.ret)))
abbrev Qju:List RR:=[.tmp 2]
theorem Qjv:CT 214 36 Qjt Qju:=ck Tryz.func214 Tryz.ntmps214 (by decide +kernel)
abbrev Qjw:IL:=[je 3 3 0,jh 4]
abbrev Qjx:IL:=[jc 5 1,jw 6 0 3 8 3,⟨some 7,.call (.t 5) [(.t 6)],none⟩,jc 8 1,jf 9 8 2,⟨some 10,.call (.t 8) [(.t 9)],none⟩,MU 11 7 10,ja 4 11]
abbrev Qjy:RC:=jQ Qjw (jD Qjx (.ret))
abbrev Qjz:List RR:=[.tmp 4]
theorem QjA:CT 216 12 Qjy Qjz:=ck Tryz.func216 Tryz.ntmps216 (by decide +kernel)
abbrev QjB:IL:=[jd 2 0]
abbrev QjC:IL:=[ja 5 0,⟨some 6,.rngs 6 (.t 5),none⟩]
abbrev QjD:IL:=[⟨some 7,.nxts (.t 6),none⟩,jx 8 7 0]
abbrev QjE:IL:=[jx 9 7 1,jx 10 7 2,ja 3 9,ja 4 10]
abbrev QjF:IL:=[ja 11 0,ja 12 3,ja 13 4,yh 14 246 11 12 13]
abbrev QjG:IL:=[ja 15 3,ja 2 15]
abbrev QjH:RC:=jQ QjD (.seq (jX 8 0) (.block 1 (jQ QjE (jQ QjF (.cond (.t 14) (jQ QjG (.ret)) (.skip))))))
abbrev QjI:IL:=[jd 2 (-1)]
abbrev QjJ:RC:=jQ QjB (.seq (jQ QjC (.block 0 (.loop QjH))) (jQ QjI (.ret)))
abbrev QjK:List RR:=[.tmp 2]
theorem QjL:CT 220 16 QjJ QjK:=ck Tryz.func220 Tryz.ntmps220 (by decide +kernel)
abbrev QjM:IL:=[jh 2]
abbrev QjN:IL:=[ja 3 0,ym 4 3 1,ja 5 4,jg 6 0 5,zf 7 6 9 5,jj 8 5 7,ja 2 8]
abbrev QjO:RC:=jQ QjM (jQ QjN (.ret))
abbrev QjP:List RR:=[.tmp 2]
theorem QjQ:CT 221 9 QjO QjP:=ck Tryz.func221 Tryz.ntmps221 (by decide +kernel)
abbrev QjR:IL:=[jd 4 0]
abbrev QjS:IL:=[ja 6 0,ji 7 1 6,jd 8 0]
abbrev QjT:IL:=[jp 9 8 7]
abbrev QjU:IL:=[ja 10 8,ja 5 10]
abbrev QjV:IL:=[ja 11 1,ja 12 0,ja 13 5,jl 14 1 12 13,jc 15 14,⟨some 16,.val (.bin .bool .eql (.t 11) (.t 15)),none⟩]
abbrev QjW:IL:=[ja 17 5,ja 4 17]
abbrev QjX:IL:=[jm 18 8 1,ja 8 18]
abbrev QjY:RC:=jQ QjT (.seq (jX 9 0) (.seq (.block 1 (jQ QjU (jQ QjV (.cond (.t 16) (jQ QjW (.ret)) (.skip))))) (.reg QjX)))
abbrev QjZ:IL:=[jd 4 (-1)]
abbrev Qj0:RC:=jQ QjR (.seq (jQ QjS (.block 0 (.loop QjY))) (jQ QjZ (.ret)))
abbrev Qj1:List RR:=[.tmp 4]
theorem Qj2:CT 223 19 Qj0 Qj1:=ck Tryz.func223 Tryz.ntmps223 (by decide +kernel)
abbrev Qj3:IL:=[je 4 4 0,je 5 5 1,je 6 6 2,jd 8 0]
abbrev Qj4:IL:=[jb 9 5 5,jc 10 9,jt 11 10 10]
abbrev Qj5:IL:=[jw 12 0 4 2 4,jb 13 0 4,jb 14 0 13,yb 15 0 4 14,jb 16 6 5,yb 17 0 5 16,jl 18 3 15 17,yd 19 3 18,jw 20 0 6 7 6,ja 21 3,jm 22 21 1,zl 23 58 12 19 20 22,ja 8 23]
abbrev Qj6:IL:=[jf 24 2 4,jb 25 5 5,jc 26 25,jb 27 6 5,jc 28 27,jf 29 7 6,zl 30 249 24 26 28 29,ja 8 30]
abbrev Qj7:RC:=jQ Qj3 (.seq (jQ Qj4 (.cond (.t 11) (jD Qj5 (.ret)) (.skip))) (jQ Qj6 (.ret)))
abbrev Qj8:List RR:=[.tmp 8]
theorem Qj9:CT 224 31 Qj7 Qj8:=ck Tryz.func224 Tryz.ntmps224 (by decide +kernel)
abbrev Qka:IL:=[jd 6 20]
abbrev Qkb:IL:=[ja 10 6,jd 7 0,ja 8 10]
abbrev Qkc:IL:=[ja 11 8,ja 12 1,Bj 13 11 12]
abbrev Qkd:IL:=[ja 14 0,ja 15 7,ja 16 8,ja 17 2,⟨some 18,.callF (.f 252) [(.t 14),(.t 15),(.t 16),(.t 17)],none⟩]
abbrev Qke:IL:=[ja 19 8,ja 7 19]
abbrev Qkf:IL:=[ja 20 8,ja 21 6,yi 22 20 21,ja 8 22]
abbrev Qkg:RC:=.seq (jQ Qkc (jX 13 0)) (.block 1 (jQ Qkd (jQ Qke (.reg Qkf))))
abbrev Qkh:IL:=[ja 23 0,ja 24 7,ja 25 1,ja 26 2,⟨some 27,.callF (.f 252) [(.t 23),(.t 24),(.t 25),(.t 26)],none⟩]
abbrev Qki:IL:=[ja 28 6,ja 29 1,jp 30 28 29]
abbrev Qkj:IL:=[ja 31 6,MX 32 2 31,jd 7 0,ja 8 32]
abbrev Qkk:IL:=[ja 33 8,ja 34 1,Bj 35 33 34]
abbrev Ia:IL:=[ja 36 0,ja 37 7,ja 38 7,ja 39 6,yi 40 38 39,ja 41 8,ja 42 2,⟨some 43,.callF (.f 253) [(.t 36),(.t 37),(.t 40),(.t 41),(.t 42)],none⟩]
abbrev Ib:IL:=[ja 44 8,ja 7 44]
abbrev Ic:IL:=[ja 45 8,ja 46 6,MX 47 2 46,yi 48 45 47,ja 8 48]
abbrev Qkl:RC:=.seq (jQ Qkk (jX 35 4)) (.block 5 (jQ Ia (jQ Ib (.reg Ic))))
abbrev Ie:IL:=[ja 49 7,ja 50 6,yi 51 49 50,ja 9 51]
abbrev Ig:IL:=[ja 52 9,ja 53 1,jp 54 52 53]
abbrev Ih:IL:=[ja 55 0,ja 56 7,ja 57 9,ja 58 1,ja 59 2,⟨some 60,.callF (.f 253) [(.t 55),(.t 56),(.t 57),(.t 58),(.t 59)],none⟩]
abbrev Ii:IL:=[ja 61 6,⟨some 62,.val (.bin .num .mul (.t 61) (.c (.int .i64 2))),none⟩,ja 6 62]
abbrev Qkm:RC:=.seq (jQ Qki (jX 30 2)) (.block 3 (jQ Qkj (.seq (.block 4 (.loop Qkl)) (.seq (jQ Ie (jQ Ig (.cond (.t 54) (.reg Ih) (.skip)))) (.reg Ii)))))
abbrev Qkn:RC:=jQ Qka (jQ Qkb (.seq (.block 0 (.loop Qkg)) (jQ Qkh (.block 2 (.loop Qkm)))))
abbrev Qko:List RR:=[]
theorem QJT:CT 227 63 Qkn Qko:=ck Tryz.func227 Tryz.ntmps227 (by decide +kernel)
abbrev Qkp:IL:=[je 1 1 0,jh 2]
abbrev Qkq:IL:=[jb 3 3 1,jc 4 3,ji 5 1 4,jb 6 4 1,jc 7 6,ji 8 1 7,yi 9 5 8,jb 10 5 1,jc 11 10,ji 12 1 11,yi 13 9 12,jb 14 6 1,jc 15 14,ji 16 1 15,yi 17 13 16,yp 18 17 0]
abbrev Qkr:IL:=[jh 2]
abbrev Qks:IL:=[jb 19 0 1,jc 20 19,jr 21 265 20]
abbrev Qkt:IL:=[jb 22 1 1,jc 23 22,zz 24 23 0,ja 2 24]
abbrev Qku:IL:=[jb 25 2 1,jc 26 25,⟨some 27,.val (.bin .str .eql (.t 26) (.c (.str []))),none⟩,ja 2 27]
abbrev Qkv:RC:=jQ Qkp (.seq (jQ Qkq (.cond (.t 18) (jQ Qkr (.ret)) (.skip))) (.seq (jQ Qks (.cond (.t 21) (jQ Qkt (.ret)) (.skip))) (jQ Qku (.ret))))
abbrev Qkw:List RR:=[.tmp 2]
theorem Qkx:CT 233 28 Qkv Qkw:=ck Tryz.func233 Tryz.ntmps233 (by decide +kernel)
abbrev Qky:IL:=[ja 10 1,jm 11 10 1,ja 8 11]
abbrev Qkz:IL:=[ja 12 8,ja 13 2,jp 14 12 13]
abbrev QkA:IL:=[ja 17 8,ja 9 17]
abbrev QkB:IL:=[ja 18 9,ja 19 1,zy 20 18 19,ja 21 20,jg 22 3 21,jg 23 0 21,jg 24 9 21,ya 25 4 23 24 21,GG 26 4 25 21,jg 27 0 21,jg 28 9 21,Fc 29 28 1 21,ya 30 4 27 29 21,GG 31 4 30 21,⟨some 32,.call (.t 22) [(.t 26),(.t 31)],(some (21,true))⟩,⟨some 33,.val (.bin .num .lss (.t 32) (.c (.int .i64 0))),(some (21,true))⟩,jj 34 21 33]
abbrev QkC:IL:=[ja 37 0,ja 38 9,ja 39 0,ja 40 9,zi 41 40 1,ja 42 0,ja 43 9,zi 44 43 1,jl 45 4 42 44,yd 46 4 45,ja 47 0,ja 48 9,jl 49 4 47 48,yd 50 4 49,jl 51 4 37 38,jq 4 51 46,jl 52 4 39 41,jq 4 52 50]
abbrev QkD:IL:=[ja 35 9,zi 36 35 1,ja 9 36]
abbrev QkE:RC:=.seq (jD QkB (jX 34 2)) (.seq (.block 3 (.draw QkC)) (.reg QkD))
abbrev QkF:IL:=[ja 15 8,jm 16 15 1,ja 8 16]
abbrev QkG:RC:=.seq (jQ Qkz (jX 14 0)) (.seq (.block 1 (jQ QkA (.block 2 (.loop QkE)))) (.reg QkF))
abbrev QkH:RC:=jQ Qky (.block 0 (.loop QkG))
abbrev QkI:List RR:=[]
theorem QJU:CT 234 53 QkH QkI:=ck Tryz.func234 Tryz.ntmps234 (by decide +kernel)
abbrev QkJ:IL:=[jd 4 0]
abbrev QkK:IL:=[ja 6 0,ji 7 1 6,jd 8 0]
abbrev QkL:IL:=[jp 9 8 7]
abbrev QkM:IL:=[ja 10 8,ja 5 10]
abbrev QkN:IL:=[ja 11 1,ja 12 0,ja 13 5,jl 14 5 12 13,jf 15 5 14,Fa 16 11 15]
abbrev QkO:IL:=[ja 17 5,ja 4 17]
abbrev QkP:IL:=[jm 18 8 1,ja 8 18]
abbrev QkQ:RC:=jQ QkL (.seq (jX 9 0) (.seq (.block 1 (jQ QkM (jQ QkN (.cond (.t 16) (jQ QkO (.ret)) (.skip))))) (.reg QkP)))
abbrev QkR:IL:=[jd 4 (-1)]
abbrev QkS:RC:=jQ QkJ (.seq (jQ QkK (.block 0 (.loop QkQ))) (jQ QkR (.ret)))
abbrev QkT:List RR:=[.tmp 4]
theorem QkU:CT 239 19 QkS QkT:=ck Tryz.func239 Tryz.ntmps239 (by decide +kernel)
abbrev QkV:IL:=[jd 4 0]
abbrev QkW:IL:=[ja 6 0,ji 7 1 6,jd 8 0]
abbrev QkX:IL:=[jp 9 8 7]
abbrev QkY:IL:=[ja 10 8,ja 5 10]
abbrev QkZ:IL:=[ja 11 1,ja 12 0,ja 13 5,jl 14 1 12 13,jc 15 14,Fa 16 11 15]
abbrev Qk0:IL:=[ja 17 5,ja 4 17]
abbrev Qk1:IL:=[jm 18 8 1,ja 8 18]
abbrev Qk2:RC:=jQ QkX (.seq (jX 9 0) (.seq (.block 1 (jQ QkY (jQ QkZ (.cond (.t 16) (jQ Qk0 (.ret)) (.skip))))) (.reg Qk1)))
abbrev Qk3:IL:=[jd 4 (-1)]
abbrev Qk4:RC:=jQ QkV (.seq (jQ QkW (.block 0 (.loop Qk2))) (jQ Qk3 (.ret)))
abbrev Qk5:List RR:=[.tmp 4]
theorem Qk6:CT 240 19 Qk4 Qk5:=ck Tryz.func240 Tryz.ntmps240 (by decide +kernel)
abbrev Qk7:IL:=[yf 8]
abbrev Qk8:IL:=[ja 12 3,jt 13 12 0]
abbrev Qk9:IL:=[yf 8]
abbrev Qla:IL:=[ja 14 1,⟨some 15,.val (.bin .str .eql (.t 14) (.c (.str []))),none⟩]
abbrev Qlb:IL:=[ja 16 0,ja 17 3,jy 18 269 16 17,ja 8 18]
abbrev Qlc:IL:=[ja 19 3,yu 20 19 0]
abbrev Qld:IL:=[ja 21 0,ja 22 1,jy 23 270 21 22,jm 24 23 1,ja 3 24]
abbrev Qle:IL:=[ja 25 3,ja 26 0,ji 27 0 26,jm 28 27 1,⟨some 29,.val (.mnx false (.t 25) (.t 28)),none⟩,ja 3 29]
abbrev Qlf:IL:=[ja 30 3,⟨some 31,.mk 31 9 1 16 [.str []] (.t 30) (.t 30),none⟩,ja 9 31]
abbrev Qlg:IL:=[ja 32 3,zi 33 32 1,ja 3 33]
abbrev Ij:IL:=[jd 10 0]
abbrev Ik:IL:=[ja 34 10,ja 35 3,jp 36 34 35]
abbrev Il:IL:=[ja 37 0,ja 38 1,jy 39 271 37 38,ja 11 39]
abbrev Im:IL:=[ja 40 11,yu 41 40 0]
abbrev Io:IL:=[ja 42 9,ja 43 10,ja 44 0,ja 45 11,ja 46 2,yi 47 45 46,⟨some 48,.val (.slc none (.t 44) none (some (.t 47)) none),none⟩,jl 49 1 42 43,jq 1 49 48]
abbrev Ip:IL:=[ja 50 0,ja 51 11,ja 52 1,ji 53 0 52,yi 54 51 53,MY 55 50 54,ja 0 55]
abbrev Iq:IL:=[ja 56 10,jm 57 56 1,ja 10 57]
abbrev Qlh:RC:=.seq (jQ Ik (jX 36 0)) (.block 1 (jQ Il (.seq (jQ Im (.cond (.t 41) (.exit 0) (.skip))) (jQ Io (jQ Ip (.reg Iq))))))
abbrev Ir:IL:=[ja 58 9,ja 59 10,ja 60 0,jl 61 1 58 59,jq 1 61 60]
abbrev Is:IL:=[ja 62 9,ja 63 10,jm 64 63 1,Fb 65 1 62 64,ja 8 65]
abbrev Qli:RC:=jQ Qk7 (.seq (jQ Qk8 (.cond (.t 13) (jQ Qk9 (.ret)) (.skip))) (.seq (jQ Qla (.cond (.t 15) (jQ Qlb (.ret)) (.skip))) (.seq (jQ Qlc (.cond (.t 20) (.reg Qld) (.skip))) (jQ Qle (jQ Qlf (jQ Qlg (jQ Ij (.seq (.block 0 (.loop Qlh)) (jQ Ir (jQ Is (.ret)))))))))))
abbrev Qlj:List RR:=[.tmp 8]
theorem Qlk:CT 241 66 Qli Qlj:=ck Tryz.func241 Tryz.ntmps241 (by decide +kernel)
abbrev Qll:IL:=[jd 2 0]
abbrev Qlm:IL:=[ja 4 0,⟨some 5,.val (.bin .num .geq (.t 4) (.c (.int .i32 97))),none⟩,ja 6 5,jg 7 0 6,⟨some 8,.val (.bin .num .leq (.t 7) (.c (.int .i32 122))),(some (6,true))⟩,jj 9 6 8,ja 3 9]
abbrev Qln:IL:=[jd 2 1]
abbrev Qlo:IL:=[ja 11 0,⟨some 12,.val (.bin .num .geq (.t 11) (.c (.int .i32 65))),none⟩,ja 13 12,jg 14 0 13,⟨some 15,.val (.bin .num .leq (.t 14) (.c (.int .i32 90))),(some (13,true))⟩,jj 16 13 15,ja 10 16]
abbrev Qlp:IL:=[jd 2 2]
abbrev Qlq:IL:=[ja 18 0,⟨some 19,.val (.bin .num .geq (.t 18) (.c (.int .i32 48))),none⟩,ja 20 19,jg 21 0 20,⟨some 22,.val (.bin .num .leq (.t 21) (.c (.int .i32 57))),(some (20,true))⟩,jj 23 20 22,ja 17 23]
abbrev Qlr:IL:=[jd 2 3]
abbrev Qls:IL:=[ja 25 0,⟨some 26,.val (.bin .num .eql (.t 25) (.c (.int .i32 95))),none⟩,ja 24 26]
abbrev Qlt:IL:=[jd 2 4]
abbrev Qlu:IL:=[jd 2 0]
abbrev Qlv:RC:=jQ Qll (.seq (.block 0 (jQ Qlm (.cond (.t 3) (jQ Qln (.ret)) (jQ Qlo (.cond (.t 10) (jQ Qlp (.ret)) (jQ Qlq (.cond (.t 17) (jQ Qlr (.ret)) (jQ Qls (.cond (.t 24) (jQ Qlt (.ret)) (.skip)))))))))) (jQ Qlu (.ret)))
abbrev Qlw:List RR:=[.tmp 2]
theorem Qlx:CT 242 27 Qlv Qlw:=ck Tryz.func242 Tryz.ntmps242 (by decide +kernel)
abbrev Qly:IL:=[je 4 4 0,je 7 7 3,jd 8 0]
abbrev Qlz:IL:=[jb 10 0 7,jc 11 10,ja 12 1,zt 13 11 12,ja 14 13,yv 15 7 7 14,ze 16 89 15 14,jn 17 14 16,ja 9 17]
abbrev QlA:IL:=[jd 8 12]
abbrev QlB:IL:=[jb 19 2 7,jc 20 19,ji 21 0 20,yp 22 21 4096,ja 18 22]
abbrev QlC:IL:=[jd 8 3]
abbrev QlD:IL:=[ja 24 1,jt 25 24 7,ja 26 25,jk 27 2 7 26,ju 28 27 26,zh 29 172 28 26,yy 30 29 26,jj 31 26 30,ja 23 31]
abbrev QlE:IL:=[jd 8 7]
abbrev QlF:IL:=[ja 33 1,jf 34 7 7,jy 35 275 33 34,jz 36 35,ja 32 36]
abbrev QlG:IL:=[jd 8 12]
abbrev QlH:IL:=[ja 38 1,jt 39 38 9,ja 40 39,jk 41 0 4 40,zn 42 2 41 40,jg 43 2 40,jk 44 1 7 40,ju 45 44 40,SO 46 183 42 43 45 40,yy 47 46 40,jj 48 40 47,ja 37 48]
abbrev It:IL:=[jd 8 16]
abbrev Iu:IL:=[jd 8 0]
abbrev QlI:RC:=jQ Qly (.seq (.block 0 (jQ Qlz (.cond (.t 9) (jQ QlA (.ret)) (jQ QlB (.cond (.t 18) (jQ QlC (.ret)) (jQ QlD (.cond (.t 23) (jQ QlE (.ret)) (jQ QlF (.cond (.t 32) (jQ QlG (.ret)) (jQ QlH (.cond (.t 37) (jQ It (.ret)) (.skip)))))))))))) (jQ Iu (.ret)))
abbrev QlJ:List RR:=[.tmp 8]
theorem QlK:CT 249 49 QlI QlJ:=ck Tryz.func249 Tryz.ntmps249 (by decide +kernel)
abbrev QlL:IL:=[ja 10 1,jm 11 10 1,ja 8 11]
abbrev QlM:IL:=[ja 12 8,ja 13 2,jp 14 12 13]
abbrev QlN:IL:=[ja 17 8,ja 9 17]
abbrev QlO:IL:=[ja 18 9,ja 19 1,zy 20 18 19,ja 21 20,jg 22 3 21,jg 23 0 21,jg 24 9 21,ya 25 8 23 24 21,GG 26 8 25 21,jg 27 0 21,jg 28 9 21,Fc 29 28 1 21,ya 30 8 27 29 21,GG 31 8 30 21,⟨some 32,.call (.t 22) [(.t 26),(.t 31)],(some (21,true))⟩,⟨some 33,.val (.bin .num .lss (.t 32) (.c (.int .i64 0))),(some (21,true))⟩,jj 34 21 33]
abbrev QlP:IL:=[ja 37 0,ja 38 9,ja 39 0,ja 40 9,zi 41 40 1,ja 42 0,ja 43 9,zi 44 43 1,jl 45 8 42 44,yd 46 8 45,ja 47 0,ja 48 9,jl 49 8 47 48,yd 50 8 49,jl 51 8 37 38,jq 8 51 46,jl 52 8 39 41,jq 8 52 50]
abbrev QlQ:IL:=[ja 35 9,zi 36 35 1,ja 9 36]
abbrev QlR:RC:=.seq (jD QlO (jX 34 2)) (.seq (.block 3 (.draw QlP)) (.reg QlQ))
abbrev QlS:IL:=[ja 15 8,jm 16 15 1,ja 8 16]
abbrev QlT:RC:=.seq (jQ QlM (jX 14 0)) (.seq (.block 1 (jQ QlN (.block 2 (.loop QlR)))) (.reg QlS))
abbrev QlU:RC:=jQ QlL (.block 0 (.loop QlT))
abbrev QlV:List RR:=[]
theorem QJV:CT 252 53 QlU QlV:=ck Tryz.func252 Tryz.ntmps252 (by decide +kernel)
abbrev QlW:IL:=[jh 2]
abbrev QlX:IL:=[ja 3 0,jt 4 3 7,ja 5 4,jv 6 0 5,yt 7 6 8 5,jn 8 5 7,ja 2 8]
abbrev QlY:RC:=jQ QlW (jQ QlX (.ret))
abbrev QlZ:List RR:=[.tmp 2]
theorem Ql0:CT 265 9 QlY QlZ:=ck Tryz.func265 Tryz.ntmps265 (by decide +kernel)
abbrev Ql1:IL:=[jd 4 0]
abbrev Ql2:IL:=[ja 7 1,ji 8 0 7,jt 9 8 0]
abbrev Ql3:IL:=[ja 10 0,jr 11 284 10,jm 12 11 1,ja 4 12]
abbrev Ql4:IL:=[ja 13 1,ji 14 0 13,jt 15 14 1]
abbrev Ql5:IL:=[ja 16 0,ja 17 1,⟨some 18,.val (.idx (.t 17) (.c (.int .i64 0))),none⟩,⟨some 19,.xb true 286 (.t 16) (.t 18),none⟩,ja 4 19]
abbrev Ql6:IL:=[jd 5 0]
abbrev Ql7:IL:=[ja 20 0,ja 21 1,jy 22 271 20 21,ja 6 22]
abbrev Ql8:IL:=[ja 23 6,jt 24 23 (-1)]
abbrev Ql9:IL:=[ja 25 5,ja 4 25]
abbrev Qma:IL:=[ja 26 5,jm 27 26 1,ja 5 27]
abbrev Iv:IL:=[ja 28 0,ja 29 6,ja 30 1,ji 31 0 30,yi 32 29 31,MY 33 28 32,ja 0 33]
abbrev Qmb:RC:=.block 1 (jQ Ql7 (.seq (jQ Ql8 (.cond (.t 24) (jQ Ql9 (.ret)) (.skip))) (jQ Qma (.reg Iv))))
abbrev Qmc:RC:=jQ Ql1 (.seq (jQ Ql2 (.cond (.t 9) (jQ Ql3 (.ret)) (.skip))) (.seq (jQ Ql4 (.cond (.t 15) (jQ Ql5 (.ret)) (.skip))) (jQ Ql6 (.block 0 (.loop Qmb)))))
abbrev Qmd:List RR:=[.tmp 4]
theorem Qme:CT 270 34 Qmc Qmd:=ck Tryz.func270 Tryz.ntmps270 (by decide +kernel)
abbrev Qmf:IL:=[jd 4 0]
abbrev Qmg:IL:=[ja 5 0,ja 6 1,jy 7 287 5 6,ja 4 7]
abbrev Qmh:RC:=jQ Qmf (jQ Qmg (.ret))
abbrev Qmi:List RR:=[.tmp 4]
theorem Qmj:CT 271 8 Qmh Qmi:=ck Tryz.func271 Tryz.ntmps271 (by decide +kernel)
abbrev Qmk:IL:=[je 3 3 1,jh 4]
abbrev Qml:IL:=[ja 5 0,jr 6 221 5,jz 7 6,ja 8 7,jo 9 0 3 8,js 10 9 8,jv 11 0 8,zv 12 10 11 8,jn 13 8 12,ja 14 13,yv 15 7 3 14,ze 16 233 15 14,za 17 16 14,jn 18 14 17,ja 19 18,jv 20 0 19,jo 21 1 3 19,js 22 21 19,N5 23 289 20 22 19,za 24 23 19,jn 25 19 24,ja 26 25,jo 27 2 3 26,js 28 27 26,ye 29 0 28 26,yk 30 29 4096 26,jn 31 26 30]
abbrev Qmm:IL:=[jh 4]
abbrev Qmn:IL:=[ja 32 0,yc 33 32 7,ja 34 33,jo 35 2 3 34,js 36 35 34,ze 37 172 36 34,jn 38 34 37,ja 4 38]
abbrev Qmo:RC:=jQ Qmk (.seq (jQ Qml (.cond (.t 31) (jQ Qmm (.ret)) (.skip))) (jQ Qmn (.ret)))
abbrev Qmp:List RR:=[.tmp 4]
theorem Qmq:CT 275 39 Qmo Qmp:=ck Tryz.func275 Tryz.ntmps275 (by decide +kernel)
def M5:IL:=[jd 4 0]
def M6:IL:=[ja 14 1,ji 15 0 14,ja 5 15]
def M7:IL:=[ja 17 5,jt 18 17 0,ja 19 18,jv 20 1 19,jv 21 0 19,⟨some 22,.val (.bin .str .eql (.t 20) (.t 21)),(some (19,false))⟩,jn 23 19 22,ja 16 23]
def M8:IL:=[jd 4 0]
def M9:IL:=[ja 25 5,jt 26 25 1,ja 24 26]
def Pa:IL:=[ja 27 0,ja 28 1,⟨some 29,.val (.idx (.t 28) (.c (.int .i64 0))),none⟩,jy 30 295 27 29,ja 4 30]
def Pb:IL:=[ja 32 5,ja 33 0,ji 34 0 33,⟨some 35,.val (.bin .num .geq (.t 32) (.t 34)),none⟩,ja 31 35]
def Pd:IL:=[jd 4 (-1)]
def Pe:IL:=[ja 45 0,ja 46 1,jy 47 296 45 46,ja 4 47]
def Iw:IL:=[ja 48 1,⟨some 49,.val (.idx (.t 48) (.c (.int .i64 0))),none⟩,ja 6 49]
def Ix:IL:=[ja 50 1,⟨some 51,.val (.idx (.t 50) (.c (.int .i64 1))),none⟩,ja 7 51]
def Iy:IL:=[jd 8 0]
def Iz:IL:=[ja 52 0,ji 53 0 52,ja 54 5,MQ 55 53 54,jm 56 55 1,ja 9 56]
def IA:IL:=[jd 10 0]
def IB:IL:=[ja 57 8,ja 58 9,jp 59 57 58]
def IC:IL:=[ja 60 0,ja 61 8,N6 62 60 61,ja 63 6,zt 64 62 63]
def ID:IL:=[ja 65 0,ja 66 8,jm 67 66 1,ja 68 9,⟨some 69,.val (.slc none (.t 65) (some (.t 67)) (some (.t 68)) none),none⟩,ja 70 6,jy 71 295 69 70,ja 11 71]
def IE:IL:=[ja 72 11,yu 73 72 0]
def IF:IL:=[jd 4 (-1)]
def IG:IL:=[ja 74 8,ja 75 11,jm 76 75 1,yi 77 74 76,ja 8 77]
def IH:IL:=[ja 78 0,ja 79 8,jm 80 79 1,N6 81 78 80,ja 82 7,zq 83 81 82,ja 84 83,jg 85 0 84,jg 86 8 84,jg 87 8 84,jg 88 5 84,⟨some 89,.val (.bin .num .add (.t 87) (.t 88)),(some (84,true))⟩,⟨some 90,.val (.slc none (.t 85) (some (.t 86)) (some (.t 89)) none),(some (84,true))⟩,jg 91 1 84,MS 92 90 91 84,jj 93 84 92]
def II:IL:=[ja 94 8,ja 4 94]
def IJ:IL:=[ja 95 8,jm 96 95 1,ja 8 96]
def IK:IL:=[ja 97 10,jm 98 97 1,ja 10 98]
def IM:IL:=[ja 108 0,ja 109 8,MY 110 108 109,ja 111 1,jy 112 296 110 111,ja 12 112]
def IN:IL:=[ja 113 12,ym 114 113 0]
def IP:IL:=[ja 115 12,ja 116 8,yi 117 115 116,ja 4 117]
def IQ:IL:=[jd 4 (-1)]
def IR:IL:=[ja 133 0,ja 134 8,MY 135 133 134,ja 136 1,jy 137 298 135 136,ja 13 137]
def IS:IL:=[ja 138 13,yu 139 138 0]
def IU:IL:=[jd 4 (-1)]
def IV:IL:=[ja 140 8,ja 141 13,yi 142 140 141,ja 4 142]
def Qmr:RC:=.seq (jQ IB (jX 59 1)) (.block 2 (.seq (jQ IC (.cond (.t 64) (jQ ID (.seq (jQ IE (.cond (.t 73) (jQ IF (.ret)) (.skip))) (.reg IG))) (.skip))) (.seq (jQ IH (.cond (.t 93) (jQ II (.ret)) (.skip))) (jQ IJ (jQ IK (.seq (.no) (.cond (.t 107) (jQ IM (.seq (jQ IN (.cond (.t 114) (jQ IP (.ret)) (.skip))) (jQ IQ (.ret)))) (.seq (.no) (.cond (.t 132) (jQ IR (.seq (jQ IS (.cond (.t 139) (jQ IU (.ret)) (.skip))) (jQ IV (.ret)))) (.skip))))))))))
def IW:IL:=[jd 4 (-1)]
def Cr:RC:=jQ M5 (jQ M6 (.seq (.block 0 (jQ M7 (.cond (.t 16) (jQ M8 (.ret)) (jQ M9 (.cond (.t 24) (jQ Pa (.ret)) (jQ Pb (.cond (.t 31) (jQ Pd (.ret)) (.seq (.no) (.cond (.t 36) (jQ Pe (.ret)) (.skip)))))))))) (jQ Iw (jQ Ix (jQ Iy (jQ Iz (jQ IA (.seq (.block 1 (.loop Qmr)) (jQ IW (.ret))))))))))
def RP:List RR:=[.tmp 4]
theorem Qms:CT 287 143 Cr RP:=ck Tryz.func287 Tryz.ntmps287 (by decide +kernel)
abbrev Qmt:IL:=[jh 4]
abbrev Qmu:IL:=[zj 5 4294967295]
abbrev Qmv:IL:=[ja 6 0]
abbrev Qmw:IL:=[jt 8 6 1,ja 7 8]
abbrev Qmx:IL:=[jt 10 6 2,ja 9 10]
abbrev Qmy:IL:=[jt 12 6 9,ja 11 12]
abbrev Qmz:IL:=[jt 14 6 4,ja 13 14]
abbrev QmA:IL:=[ja 15 1,⟨some 16,.val (.bin .num .leq (.t 15) (.c (.int .u64 1))),none⟩,ja 4 16]
abbrev QmB:IL:=[ja 17 1,ML 18 17,ym 19 18 (-2147483648),ja 20 19,jg 21 1 20,⟨some 22,.val (.cvi .i64 (.t 21)),(some (20,true))⟩,zf 23 22 2147483647 20,jj 24 20 23,ja 4 24]
abbrev QmC:IL:=[zj 5 2147483647]
abbrev IX:IL:=[ja 25 1,ja 26 5,Bj 27 25 26,ja 4 27]
abbrev IY:IL:=[yj 4]
abbrev QmD:RC:=jQ Qmt (jQ Qmu (.seq (jQ Qmv (.block 0 (.seq (.block 4 (.seq (.block 3 (.seq (.block 2 (.seq (.block 1 (.seq (.seq (jQ Qmw (.cond (.t 7) (.exit 1) (.skip))) (.seq (jQ Qmx (.cond (.t 9) (.exit 2) (.skip))) (.seq (jQ Qmy (.cond (.t 11) (.exit 3) (.skip))) (jQ Qmz (.cond (.t 13) (.exit 4) (.skip)))))) (.exit 0))) (.seq (jQ QmA (.ret)) (.exit 0)))) (.seq (jQ QmB (.ret)) (.exit 0)))) (.reg QmC))) (.seq (jQ IX (.ret)) (.exit 0))))) (jQ IY (.ret))))
abbrev QmE:List RR:=[.tmp 4]
theorem QmF:CT 289 28 QmD QmE:=ck Tryz.func289 Tryz.ntmps289 (by decide +kernel)
abbrev QmG:IL:=[jd 4 0]
abbrev QmH:IL:=[ja 5 0,ja 6 1,⟨some 7,.xb false 300 (.t 5) (.t 6),none⟩,ja 4 7]
abbrev QmI:RC:=jQ QmG (jQ QmH (.ret))
abbrev QmJ:List RR:=[.tmp 4]
theorem QmK:CT 295 8 QmI QmJ:=ck Tryz.func295 Tryz.ntmps295 (by decide +kernel)
def QmL:IL:=[je 3 3 0,je 5 5 2,jd 6 0]
def QmM:IL:=[ja 8 1,yu 9 8 0,ja 10 9,jv 11 1 10,jo 12 0 3 10,js 13 12 10,ye 14 1 13 10,N9 15 11 14 10,jn 16 10 15]
def QmN:IL:=[jd 6 10]
def QmO:IL:=[jf 17 2 3,ja 18 1,jf 19 7 5,⟨some 20,.call (.f 20) [(.t 17),(.t 18),(.t 19),(.c (.int .i64 1))],none⟩,ja 7 20]
def QmP:IL:=[ja 21 7,yc 22 21 0]
def QmQ:IL:=[ja 23 7,ja 6 23]
def QmR:IL:=[jf 24 7 5,jr 25 21 24,yp 26 25 4096]
def QmS:IL:=[jd 6 3]
def QmT:IL:=[jd 6 0]
def r7:RC:=jQ QmL (.seq (jQ QmM (.cond (.t 16) (jQ QmN (.ret)) (.skip))) (.seq (jQ QmO (jQ QmP (.cond (.t 22) (jQ QmQ (.ret)) (.skip)))) (.seq (jQ QmR (.cond (.t 26) (jQ QmS (.ret)) (.skip))) (jQ QmT (.ret)))))
def o7:List RR:=[.tmp 6]
theorem k7:CT 7 27 r7 o7:=ck Tryz.func7 Tryz.ntmps7 (by decide +kernel)
abbrev QJW:IL:=[je 3 3 0,je 5 5 2,yn 6 6]
abbrev QJX:IL:=[ja 12 1,yu 13 12 0,ja 14 13,jv 15 1 14,jo 16 0 3 14,js 17 16 14,ye 18 1 17 14,N9 19 15 18 14,jn 20 14 19]
abbrev QJY:IL:=[⟨some 21,.val (.build [.int .i64 0,.int .u64 0,.str [],.nils,.nils,.nils,.nils] []),none⟩,jq 7 6 21]
abbrev QJZ:IL:=[jb 22 6 5,jc 23 22,jr 24 25 23,⟨some 25,.val (.build [.int .i64 0,.int .u64 0,.str [],.nils,.nils,.nils,.nils] [(0,1,(.c (.int .i64 10))),(6,1,(.t 24))]),none⟩,yn 7 7,jq 7 7 25]
abbrev QJ0:IL:=[jd 8 0]
abbrev QJ1:IL:=[ja 26 8,jb 27 0 3,jc 28 27,ja 29 1,jl 30 3 28 29,jb 31 1 30,jc 32 31,ji 33 1 32,jp 34 26 33]
abbrev QJ2:IL:=[jb 37 0 3,jc 38 37,ja 39 1,jl 40 3 38 39,jb 41 1 40,jc 42 41,ja 43 8,jl 44 8 42 43,jf 45 8 44,zd 9 9,jq 8 9 45]
abbrev QJ3:IL:=[jd 10 0]
abbrev QJ4:IL:=[ja 46 10,jb 47 5 5,jc 48 47,ji 49 1 48,jp 50 46 49]
abbrev QBi:IL:=[jb 53 5 5,yb 54 0 5 53,ja 55 10,jl 56 8 54 55,jb 57 0 56,zp 58 57,jb 59 0 9,yb 60 0 9 59,zt 61 58 60]
abbrev QBj:IL:=[jw 62 0 3 2 3,jw 63 0 9 8 9,jb 64 5 5,yb 65 0 5 64,ja 66 10,jl 67 8 65 66,jb 68 1 67,yd 69 7 68,yh 70 26 62 63 69,yn 11 11,yg 0 11 7 11 70]
abbrev QBk:IL:=[jb 71 3 9,jc 72 71,yu 73 72 3,ja 74 73,yv 75 7 11 74,ze 76 27 75 74,za 77 76 74,jn 78 74 77]
abbrev QBl:IL:=[jb 79 5 7,jc 80 79,jb 81 0 9,jc 82 81,jf 83 7 11,⟨some 84,.val (.build [.int .i64 0,.int .i64 0,.int .u64 0,.str [],.nils,.nils,.nils,.nils] [(0,1,(.t 82)),(1,7,(.t 83))]),none⟩,⟨some 85,.bsl 8 1 [.int .i64 0,.int .i64 0,.int .u64 0,.str [],.nils,.nils,.nils,.nils] [(0,8,(.t 84))],none⟩,yr 86 8 136 55 80 85,jb 87 5 7,jq 1 87 86]
abbrev QBm:IL:=[ja 51 10,jm 52 51 1,ja 10 52]
abbrev QmU:RC:=.gho (.drop 11) (.seq (jQ QJ4 (jX 50 2)) (.seq (.block 3 (.seq (jD QBi (.cond (.t 61) (.exit 3) (.skip))) (jD QBj (jQ QBk (.cond (.t 78) (.reg QBl) (.skip)))))) (.reg QBm)))
abbrev QJ5:IL:=[ja 35 8,jm 36 35 1,ja 8 36]
abbrev QJ6:RC:=.gho (.drop 11) (.gho (.drop 9) (.seq (jQ QJ1 (jX 34 0)) (.seq (.block 1 (jQ QJ2 (jQ QJ3 (.block 2 (.loop QmU))))) (.reg QJ5))))
abbrev QBn:IL:=[jf 88 7 7,jq 7 6 88]
abbrev r9:RC:=jQ QJW (.seq (jQ QJX (.cond (.t 20) (jQ QJY (.ret)) (.skip))) (jQ QJZ (.gho (.vecc 7 5 1100 8) (.seq (jQ QJ0 (.block 0 (.loop QJ6))) (jQ QBn (.ret))))))
abbrev o9:List RR:=[.cell 6 (some 7)]
theorem k9:CT 9 89 r9 o9:=ck Tryz.func9 Tryz.ntmps9 (by decide +kernel)
end Go.Proofs.YtdhlbgejhcejcaaGreatDoor.Rc

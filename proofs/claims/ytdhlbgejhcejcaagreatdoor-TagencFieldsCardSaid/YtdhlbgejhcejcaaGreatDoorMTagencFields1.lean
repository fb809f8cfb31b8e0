/- Parts of the proof, in order. -/
import Derived.Deep.LoopGhost
import Derived.Scope
import Derived.Orders
import Derived.Defers
import Derived.Below
import Derived.ChangeSame
import Derived.ProofKit
import Derived.Test.YtdhlbgejhcejcaaGreatDoorProg
import Derived.Test.YtdhlbgejhcejcaaGreatDoorMTagencFields0

namespace Go.Proofs.YtdhlbgejhcejcaaGreatDoor.Am
open Go

def Qi (P:Program)(k:FuncId)(args:List AV)(v:AV):Prop:=WG P k args (· = v)

def YX (P:Program)(d:Option Nat)(op:RO)(st:St)(K:St→Prop):Prop :=
 match op with
 |.val vo=>∃x,Qq st.f st.m vo=some x∧K { st with f:=Qk st.f d x }
 |.allocN s z=>XG st.m s=true∧K { st with m:=Am.put st.m 0 s (.cells z),f:=Qk st.f d (.ptr 0 s 0) }
 |.boxN s r=>XG st.m s=true∧(r.ev st.f).cells.all AV.leaf=true∧K { st with m:=Am.put st.m 0 s (.cells (r.ev st.f).cells),f:=Qk st.f d (.ptr 0 s 0) }
 |.store n p r=>(r.ev st.f).cells.length=n∧(r.ev st.f).cells.all AV.leaf=true∧∃m',QX st.m (p.ev st.f) (r.ev st.f).cells=some m'∧K { st with m:=m',f:=Qk st.f d (.tup []) }
 |.app sz bytes el s r=>∃l site g n xs ys,s.ev st.f=.vec l site g 0 n false∧Qf st.m l site=.vec g sz xs∧XK site el=true∧n≤xs.length∧Q9 st.m (r.ev st.f)=some ys∧ys.all (fun e=>e.cells.length==sz)=true∧n+ys.length≤maxLen∧(n+ys.length)*bytes≤140737488355328∧
   K { st with m:=Am.put st.m l site (.vec (g+1) sz (xs.take n++ys)),f:=Qk st.f d (.vec l site (g+1) 0 (n+ys.length) false) }
 |.storev l s n p r=>(∃o,p.ev st.f=.ptr l s o)∧(r.ev st.f).cells.length=n∧(r.ev st.f).cells.all AV.leaf=true∧∃m',QX st.m (p.ev st.f) (r.ev st.f).cells=some m'∧K { st with m:=m',f:=Qk st.f d (.tup []) }
 |.call f args=>∃k fa fb ys v,f.ev st.f=.fn (.func k) fa fb∧AV.stillL false st.m (fa++args.map (RA.ev st.f)++fb)=some ys∧AV.rfL ys=true∧Qi P k ys v∧v.rf=true∧(AV.rfL (fa++args.map (RA.ev st.f)++fb)=true∨v.nl=true)∧K { st with f:=Qk st.f d v }
 |.callF f args=>∃k fa fb v m',f.ev st.f=.fn (.func k) fa fb∧Qh P k (fa++args.map (RA.ev st.f)++fb) st.m (fun x m=>x=v∧m=m')∧K { st with m:=m',f:=Qk st.f d v }
 |.bsl sz len z ps=>∃y,fill st.f ps (Xg z sz len)=some y∧AV.rfL y=true∧y.all AV.leaf=true∧K { st with f:=Qk st.f d (.list (XF sz len (y.map nn0))) }
 |.bslv site sz len z ps=>∃y,fill st.f ps (Xg z sz len)=some y∧AV.rfL y=true∧y.all AV.leaf=true∧Qt (Qf st.m 0 site)=true∧
   K { st with m:=Am.put st.m 0 site (.vec (QF st.m 0 site) sz (XF sz len (y.map nn0))),f:=Qk st.f d (.vec 0 site (QF st.m 0 site) 0 len false) }
 |.bsl0 site sz=>Qt (Qf st.m 0 site)=true∧K { st with m:=Am.put st.m 0 site (.vec (QF st.m 0 site) sz []),f:=Qk st.f d (.vec 0 site (QF st.m 0 site) 0 0 false) }
 |.isnil neg r=>∃ys,Q9 st.m (r.ev st.f)=some ys∧(r.ev st.f≠.nils→K { st with f:=Qk st.f d (.bool neg) })∧((r.ev st.f=.nils∨QK ys=[])→K { st with f:=Qk st.f d (.bool (!neg)) })
 |.callK l s f args=>∃k fa fb v m',f.ev st.f=.fn (.func k) fa fb∧Qh P k (fa++args.map (RA.ev st.f)++fb) st.m (fun x m=>x=v∧m=m')∧Qf m' l s=Qf st.m l s∧K { st with m:=m',f:=Qk st.f d v }
 |.xb cnt _ s c=>∃t b,s.ev st.f=.str t∧c.ev st.f=.int .u8 b∧K { st with f:=Qk st.f d (.int .i64 (H4 cnt t b)) }
 |.callR f args=>∃k fa fb ys R,f.ev st.f=.fn (.func k) fa fb∧AV.stillL false st.m (fa++args.map (RA.ev st.f)++fb)=some ys∧AV.rfL ys=true∧WG P k ys R∧(∀v,R v→v.rf=true∧(AV.rfL (fa++args.map (RA.ev st.f)++fb)=true∨v.nl=true))∧∀v,R v→K { st with f:=Qk st.f d v }
 |.rngs s r=>∃t,r.ev st.f=.str t∧XG st.m s=true∧K { st with m:=Am.put st.m 0 s (.iter (.str t) 0),f:=Qk st.f d (.ptr 0 s 0) }
 |.mkm s=>XG st.m s=true∧K { st with m:=Am.put st.m 0 s (.iter (.mp [] []) 0),f:=Qk st.f d (.mptr 0 s) }
 |.mput x i v=>∃l s ks vs p k,x.ev st.f=.mptr l s∧Qf st.m l s=.iter (.mp ks vs) p∧i.ev st.f=.str k∧(v.ev st.f).gr=true∧AV.grL vs=true∧ks.length=vs.length∧K { st with m:=Am.put st.m l s (.iter (.mp (X4 k (v.ev st.f) ks vs).1 (X4 k (v.ev st.f) ks vs).2) p),f:=Qk st.f d (.tup []) }
 |.nxts r=>∃l s t p,r.ev st.f=.ptr l s 0∧Qf st.m l s=.iter (.str t) p∧
   (p<t.length→K { st with m:=Am.put st.m l s (.iter (.str t) (p+(Xh t p).2)),f:=Qk st.f d (.tup [.bool true,.int .i64 (p:Nat),.int .i32 ((Xh t p).1:Nat)]) })∧(t.length≤p→K { st with f:=Qk st.f d (.tup [.bool false]) })
 |.appS el s r=>∃l site g n xs t,s.ev st.f=.vec l site g 0 n false∧Qf st.m l site=.vec g 1 xs∧XK site el=true∧n≤xs.length∧r.ev st.f=.str t∧n+t.length≤140737488355328∧
   K { st with m:=Am.put st.m l site (.vec (g+1) 1 (xs.take n++Qz t)),f:=Qk st.f d (.vec l site (g+1) 0 (n+t.length) false) }
 |.mk site _ sz bytes z l c=>∃(kl kc:IntKind) (n k:Nat),l.ev st.f=.int kl (n:Int)∧c.ev st.f=.int kc (k:Int)∧n≤k∧k≤9223372036854775807∧bytes*k≤281474976710656∧Qt (Qf st.m 0 site)=true∧
   K { st with m:=Am.put st.m 0 site (.vec (QF st.m 0 site) sz (List.replicate n (JI sz z))),f:=Qk st.f d (.vec 0 site (QF st.m 0 site) 0 n false) }
 |.usd r=>∃l s g n sz xs,2000≤s∧r.ev st.f=.vec l s g 0 n false∧Qf st.m l s=.vec g sz xs∧K { st with f:=Qk st.f d (if n=0 then .anyp else .vptr l s g 0 0) }
 |.ustr el p r=>(p.ev st.f=.anyp∧r.ev st.f=.int .i64 0∧K { st with f:=Qk st.f d (.str []) })∨
   ∃l g n xs s,p.ev st.f=.vptr l (el+2000) g 0 0∧r.ev st.f=.int .i64 ((n:Nat):Int)∧Qf st.m l (el+2000)=.vec g 1 xs∧n≤xs.length∧n≠0∧xs.take n=Qz s∧K { st with m:=Am.put st.m l (el+2000) (.vec (g+1) 1 []),f:=Qk st.f d (.str s) }

def XY (P:Program)(it:Item)(st:St)(K:St→Prop):Prop :=
 match it.g with
 |none=>YX P it.dst it.op st K
 |some (j,want)=>match st.f j with
  |.bool b=>(b=want→YX P it.dst it.op st K)∧(b=(!want)→K { st with f:=Qk st.f it.dst (.tup []) })
  |.tup l=>l=[]∧K { st with f:=Qk st.f it.dst (.tup []) }
  |_=>False

def QE (P:Program):List Item→St→(St→Prop)→Prop
 | [],st,K=>K st
 |it :: Qe,st,K=>XY P it st fun st'=>QE P Qe st' K

section
variable {P:Program}{N:Nat}

theorem C4 {d:Option Nat}{op:RO}{Qe:List Item}{st:St}{Q:St→Prop}(h:YX P d op st fun st'=>Qu P N Qe st' Q):Qu P N (⟨d,op,none⟩ :: Qe) st Q:=by
 cases op with
 |val vo=>obtain⟨x,hx,h⟩:=h;exact .val hx h
 |allocN s z=>exact .allocN h.1 h.2
 |boxN s r=>exact .boxN h.1 h.2.1 h.2.2
 |store n p r=>obtain⟨h1,h2,m',h3,h⟩:=h;exact .store h1 h2 h3 h
 |app sz bytes el s r=>obtain⟨l,site,g,n,xs,ys,h1,h2,ht,h3,h4,h5,h6,h7,h⟩:=h;exact .app h1 h2 ht h3 h4 h5 h6 h7 h
 |appS el s r=>obtain⟨l,site,g,n,xs,t,h1,h2,ht,h3,h4,h5,h⟩:=h;exact .appS h1 h2 ht h3 h4 h5 h
 |mk site el sz bytes z l c=>obtain⟨kl,kc,n,k,h1,h2,h3,h4,h5,h6,h⟩:=h;exact .mk h1 h2 h3 h4 h5 h6 h
 |usd r=>obtain⟨l,s,g,n,sz,xs,h0,h1,h2,h⟩:=h;exact .usd h0 h1 h2 h
 |ustr el p r=>
  rcases h with⟨h1,h2,h⟩|⟨l,g,n,xs,s,h1,h2,h3,h4,h5,h6,h⟩
  ·exact .ustr0 h1 h2 h
  ·exact .ustr h1 h2 h3 h4 h5 h6 h
 |storev l s n p r=>obtain⟨_,h1,h2,m',h3,h⟩:=h;exact .same (ro:=.store n p r) (fun _=>rfl) (.store h1 h2 h3 h)
 |call f args=>
  obtain⟨k,fa,fb,ys,v,hf,h1,h2,h3,h4,h5,h⟩:=h;exact .callPure hf h1 h2 h3 (fun x hx=>by subst hx;exact⟨h4,h5⟩) fun x hx=>by subst hx;exact h
 |callF f args=>
  obtain⟨k,fa,fb,v,m',hf,h1,h⟩:=h;exact .same (ro:=.call f args) (fun _=>rfl) (.callFull hf h1 fun x m hx _=>by obtain⟨rfl,rfl⟩:=hx;exact h)
 |bsl sz len z ps=>obtain⟨y,h1,h2,h3,h⟩:=h;exact .bsl h1 h2 h3 h
 |bslv site sz len z ps=>obtain⟨y,h1,h2,h3,h4,h⟩:=h;exact .bslv h1 h2 h3 h4 h
 |bsl0 site sz=>exact .bsl0 h.1 h.2
 |isnil neg r=>obtain⟨ys,h1,h2,h3⟩:=h;exact .isnil h1 h2 h3
 |callK l s f args=>
  obtain⟨k,fa,fb,v,m',hf,h1,_,h⟩:=h;exact .same (ro:=.call f args) (fun _=>rfl) (.callFull hf h1 fun x m hx _=>by obtain⟨rfl,rfl⟩:=hx;exact h)
 |xb cnt k s c=>obtain⟨t,b,h1,h2,h⟩:=h;exact .xb h1 h2 h
 |callR f args=>
  obtain⟨k,fa,fb,ys,R,hf,h1,h2,h3,h4,h⟩:=h;exact .same (ro:=.call f args) (fun _=>rfl) (.callPure hf h1 h2 h3 h4 h)
 |rngs s r=>obtain⟨t,h1,h2,h⟩:=h;exact .rngs h1 h2 h
 |nxts r=>obtain⟨l,s,t,p,h1,h2,h3,h4⟩:=h;exact .nxts h1 h2 h3 h4
 |mkm s=>obtain⟨h1,h⟩:=h;exact .mkm h1 h
 |mput x i v=>obtain⟨l,s,ks,vs,p,k,h1,h2,h3,h4,h5,h6,h⟩:=h;exact .mput h1 h2 h3 h4 h5 h6 h

theorem FN {it:Item}{Qe:List Item}{st:St}{Q:St→Prop}(h:XY P it st fun st'=>Qu P N Qe st' Q):Qu P N (it :: Qe) st Q:=by
 obtain⟨d,op,g⟩:=it;cases g with
 |none=>exact C4 h
 |some p=>
  obtain⟨j,want⟩:=p;simp only[XY]at h;split at h
  ·rename_i b hj;by_cases hb:b=want
   ·subst hb;exact .yes hj (C4 (h.1 rfl))
   ·have hb':b=!want:=by cases b<;>cases want<;>first|rfl|exact absurd rfl hb
    subst hb';exact .no (.inl hj) (h.2 rfl)
  ·rename_i l hj;obtain⟨rfl,h⟩:=h;exact .no (.inr hj) h
  ·exact h.elim

theorem FO {d:Option Nat}{op:RO}{st:St}{K K':St→Prop}(hk:∀s,K s→K' s)(h:YX P d op st K):YX P d op st K':=by
 cases op<;>simp only[YX]at h ⊢
 case val=>obtain⟨x,a,b⟩:=h;exact⟨x,a,hk _ b⟩
 case allocN=>exact⟨h.1,hk _ h.2⟩
 case boxN=>exact⟨h.1,h.2.1,hk _ h.2.2⟩
 case store=>obtain⟨h1,h2,m',h3,h⟩:=h;exact⟨h1,h2,m',h3,hk _ h⟩
 case app=>obtain⟨l,site,g,n,xs,ys,h1,h2,ht,h3,h4,h5,h6,h7,h⟩:=h;exact⟨l,site,g,n,xs,ys,h1,h2,ht,h3,h4,h5,h6,h7,hk _ h⟩
 case appS=>obtain⟨l,site,g,n,xs,t,h1,h2,ht,h3,h4,h5,h⟩:=h;exact⟨l,site,g,n,xs,t,h1,h2,ht,h3,h4,h5,hk _ h⟩
 case mk=>obtain⟨kl,kc,n,k,h1,h2,h3,h4,h5,h6,h⟩:=h;exact⟨kl,kc,n,k,h1,h2,h3,h4,h5,h6,hk _ h⟩
 case usd=>obtain⟨l,s,g,n,sz,xs,h0,h1,h2,h⟩:=h;exact⟨l,s,g,n,sz,xs,h0,h1,h2,hk _ h⟩
 case ustr=>
  rcases h with⟨h1,h2,h⟩|⟨l,g,n,xs,s,h1,h2,h3,h4,h5,h6,h⟩
  ·exact .inl ⟨h1,h2,hk _ h⟩
  ·exact .inr ⟨l,g,n,xs,s,h1,h2,h3,h4,h5,h6,hk _ h⟩
 case bsl=>obtain⟨y,h1,h2,h3,h⟩:=h;exact⟨y,h1,h2,h3,hk _ h⟩
 case bslv=>obtain⟨y,h1,h2,h3,h4,h⟩:=h;exact⟨y,h1,h2,h3,h4,hk _ h⟩
 case bsl0=>exact⟨h.1,hk _ h.2⟩
 case isnil=>obtain⟨ys,h1,h2,h3⟩:=h;exact⟨ys,h1,fun e=>hk _ (h2 e),fun e=>hk _ (h3 e)⟩
 case callK=>obtain⟨k,fa,fb,v,m',hf,h1,h2,h⟩:=h;exact⟨k,fa,fb,v,m',hf,h1,h2,hk _ h⟩
 case xb=>obtain⟨t,b,h1,h2,h⟩:=h;exact⟨t,b,h1,h2,hk _ h⟩
 case callR=>obtain⟨k,fa,fb,ys,R,hf,h1,h2,h3,h4,h⟩:=h;exact⟨k,fa,fb,ys,R,hf,h1,h2,h3,h4,fun v hv=>hk _ (h v hv)⟩
 case rngs=>obtain⟨t,h1,h2,h⟩:=h;exact⟨t,h1,h2,hk _ h⟩
 case mkm=>obtain⟨h1,h⟩:=h;exact⟨h1,hk _ h⟩
 case mput=>obtain⟨l,s,ks,vs,p,k,h1,h2,h3,h4,h5,h6,h⟩:=h;exact⟨l,s,ks,vs,p,k,h1,h2,h3,h4,h5,h6,hk _ h⟩
 case nxts=>obtain⟨l,s,t,p,h1,h2,h3,h4⟩:=h;exact⟨l,s,t,p,h1,h2,fun e=>hk _ (h3 e),fun e=>hk _ (h4 e)⟩
 case storev=>obtain⟨h0,h1,h2,m',h3,h⟩:=h;exact⟨h0,h1,h2,m',h3,hk _ h⟩
 case call=>obtain⟨k,fa,fb,ys,v,hf,h1,h2,h3,h4,h5,h⟩:=h;exact⟨k,fa,fb,ys,v,hf,h1,h2,h3,h4,h5,hk _ h⟩
 case callF=>obtain⟨k,fa,fb,v,m',hf,h1,h⟩:=h;exact⟨k,fa,fb,v,m',hf,h1,hk _ h⟩

theorem Yq {it:Item}{st:St}{K K':St→Prop}(hk:∀s,K s→K' s)(h:XY P it st K):XY P it st K':=by
 unfold XY at h ⊢;split at h
 ·exact FO hk h
 ·split at h
  ·exact⟨fun e=>FO hk (h.1 e),fun e=>hk _ (h.2 e)⟩
  ·exact⟨h.1,hk _ h.2⟩
  ·exact h.elim

theorem NP:∀ {Qe:List Item} {st:St} {Q:St→Prop},QE P Qe st Q→Qu P N Qe st Q
 | [],_,_,h=>.nil h
 |_ :: _,_,_,h=>FN (Yq (fun _ hs=>NP hs) h)

end

inductive GO where
 |vec (slot site sz:Nat)
 |drop (s:Nat)
 |vecc (s idx site sz:Nat)
 |pub (slot site:Nat)
 |give (slot site l S:Nat)
 |lst (slot:Nat)

def ZC (g:GO)(st:St):Option St :=
 match g with
 |.vec slot site sz=>match st.f slot with
  |.nils=>bif Qt (Qf st.m 0 site)then some { st with m:=Am.put st.m 0 site (.vec (QF st.m 0 site) sz []),f:=QH st.f slot (.vec 0 site (QF st.m 0 site) 0 0 false) } else none
  |_=>none
 |.drop s=>bif Ym st.m s then some (st.drop s)else none
 |.vecc s idx site sz=>match Qf st.m 0 s with
  |.cells xs=>match xs[idx]? with
   |some .nils=>bif Qt (Qf st.m 0 site) && !(Nat.beq site s)then some { st with m:=Am.put (Am.put st.m 0 site (.vec (QF st.m 0 site) sz [])) 0 s (.cells (xs.set idx (.vec 0 site (QF st.m 0 site) 0 0 false))) } else none
   |some _=>some st
   |none=>none
  |_=>none
 |.pub slot site=>match st.f slot with
  |.vec 0 s' g o n _=>match Qf st.m 0 site with
   |.vec g' sz xs=>bif Nat.beq s' site&&Nat.beq g g'&&Nat.ble (o+n) xs.length then some { st with m:=Am.put st.m 0 site (.vec (g+1) sz []),f:=QH st.f slot (.list ((xs.drop o).take n)) } else none
   |_=>none
  |.list _=>some st
  |_=>none
 |.give slot site l S=>match st.f slot with
  |.vec 0 s' g o n q=>match Qf st.m 0 site with
   |.vec g' sz xs=>bif Nat.beq s' site&&Nat.beq g g'&&Nat.blt l st.m.length && !(Nat.beq l 0)&&Qt (Qf st.m l S)&&Nat.blt S 2000 then some { st with m:=Am.put (Am.put st.m 0 site (.vec (g+1) sz [])) l S (.vec (QF st.m l S) sz xs),f:=QH st.f slot (.vec l S (QF st.m l S) o n q) } else none
   |_=>none
  |_=>none
 |.lst slot=>match st.f slot with
  |.nils=>some { st with f:=QH st.f slot (.list []) }
  |.list l=>some { st with f:=QH st.f slot (.list l) }
  |_=>none

inductive RC where
 |skip
 |reg (Qe:List Item)
 |draw (Qe:List Item)
 |seq (a b:RC)
 |cond (c:RA) (a b:RC)
 |block (id:Nat) (a:RC)
 |loop (a:RC)
 |exit (id:Nat)
 |scope (a:RC)
 |lab
 |ret
 |gho (g:GO) (a:RC)
 |no

def Ks (f:St→Prop)(Q:Exit→St→Prop):Exit→St→Prop
 |.normal,st=>f st
 |e,st=>Q e st
def Kb (id:Nat)(Q:Exit→St→Prop):Exit→St→Prop
 |.exit i,st=>if i=id then Q .normal st else Q (.exit i) st
 |e,st=>Q e st
def Kg (Q:Exit→St→Prop):Exit→St→Prop
 |.goto _,_=>False
 |e,st=>Q e st

def QG (P:Program):RC→St→(Exit→St→Prop)→Prop
 |.skip,st,Q=>Q .normal st
 |.reg Qe,st,Q=>QE P Qe st (Q .normal)
 |.draw Qe,st,Q=>QE P Qe st (Q .normal)
 |.seq a b,st,Q=>QG P a st (Ks (fun st'=>QG P b st' Q) Q)
 |.cond c a b,st,Q=>∃t,c.ev st.f=.bool t∧(t=true→QG P a st Q)∧(t=false→QG P b st Q)
 |.block id a,st,Q=>QG P a st (Kb id Q)
 |.loop a,st,Q=>∃(I:Nat→St→Prop) (n:Nat),I n st∧∀n st',I n st'→QG P a st' (Ks (fun s=>∃k,k<n∧I k s) Q)
 |.exit id,st,Q=>Q (.exit id) st
 |.scope a,st,Q=>QG P a st (Kg Q)
 |.lab,st,Q=>Q .normal st
 |.ret,st,Q=>Q .ret st
 |.gho g a,st,Q=>∃st',ZC g st=some st'∧QG P a st' Q
 |.no,_,_=>False

theorem Ua {G:Gh}{f:Fr}{a:Act}(hs:∀i,Rep G (f i) (a.tmps.getD i undef)){d:Nat}{x:AV}(hx:Rep G x (a.tmps.getD d undef)):∀i,Rep G (QH f d x i) (a.tmps.getD i undef):=by
 intro i;by_cases hi:i=d
 ·subst hi;rw[QS];exact hx
 ·rw[QO _ _ hi];exact hs i

theorem Rs {G:Gh}{B N:Nat}{st st':St}{a:Act}{w:World}(h:Rel G B N st a w){g:GO}(hg:ZC g st=some st'):∃G',Rel G' B N st' a w∧Ext 1 G w G' w:=by
 cases g with
 |vec slot site sz=>
  simp only[ZC]at hg;split at hg
  ·rename_i hn;cases hro:Qt (Qf st.m 0 site)with
   |false=>rw[hro]at hg;cases hg
   |true=>
    rw[hro]at hg;simp only[cond_true,QWF]at hg;subst hg;have hl:0<st.m.length:=QXC.2 h.ne;obtain⟨h1,h2⟩:=h.vecput (w':=w) (sz:=sz) (cap:=0) (b:=none) (ys:=[]) hl hro (JV h.mr hro) rfl rfl rfl (QWe _) (fun _ _ _=>rfl) (fun k e=>by cases e) ⟨by simp,rfl,rfl⟩ (.inl ⟨rfl,rfl⟩);refine⟨_,⟨h1.mr,h1.size,Ua h1.slots ?_,h1.ds,h1.base,h1.top,h1.ne⟩,h2⟩;have hs:=h.slots slot;rw[hn]at hs;generalize a.tmps.getD slot undef=v at hs;cases hs;exact .vec rfl (QWZ (by simp[Gh.row])) fun _=>.inl ⟨by simp[Gh.row],rfl,rfl,none,rfl,fun _=>rfl⟩
  ·cases hg
 |drop s=>
  simp only[ZC]at hg;cases hro:Ym st.m s with
  |false=>rw[hro]at hg;cases hg
  |true=>
   rw[hro]at hg;simp only[cond_true,QWF]at hg;subst hg;exact⟨_,h.drop s hro⟩
 |vecc s idx site sz=>
  simp only[ZC]at hg;split at hg
  ·rename_i xs hlk;split at hg
   ·rename_i hn;cases hro:(Qt (Qf st.m 0 site) && !(Nat.beq site s))with
    |false=>rw[hro]at hg;cases hg
    |true=>
     rw[hro]at hg;simp only[cond_true,QWF]at hg;subst hg;rw[QWE]at hro;have hne:s≠site:=fun e=>by
      have h2:=hro.2;rw[e]at h2;simp at h2
     have hl:0<st.m.length:=QXC.2 h.ne;obtain⟨h1,h2⟩:=h.vecput (w':=w) (sz:=sz) (cap:=0) (b:=none) (ys:=[]) hl hro.1 (JV h.mr hro.1) rfl rfl rfl (QWe _) (fun _ _ _=>rfl) (fun k e=>by cases e) ⟨by simp,rfl,rfl⟩ (.inl ⟨rfl,rfl⟩);have hlk':Qf (Am.put st.m 0 site (.vec (QF st.m 0 site) sz [])) 0 s=.cells xs:=by
      rw[Qx (.inr hne)];exact hlk
     obtain⟨b,cs,hb,hsoft,hrep⟩:=h1.mr.cells 0 s xs hlk';obtain⟨v,hv,hr⟩:=hrep.at_ hn;have hvn:v=.slice none 0 0:=by cases hr;rfl
     subst hvn;have hset:cs.toList.set idx (.slice none 0 0)=cs.toList:=by
      obtain⟨hi,he⟩:=QWg.1 hv;rw[←he,List.set_getElem_self]
     have hrep':=hrep.set idx (x:=.vec 0 site (QF st.m 0 site) 0 0 false) (v:=.slice none 0 0) (.vec rfl (QWZ (by simp[Gh.row,Gh.dn])) fun _=>.inl ⟨by simp[Gh.row,Gh.dn],rfl,rfl,none,rfl,fun _=>rfl⟩);rw[hset]at hrep';exact⟨_,⟨h1.mr.stored hlk' hb (Turned.refl b w) hsoft hrep',h1.size,h1.slots,h1.ds,h1.base,h1.top,J0 h1.ne⟩,h2⟩
   ·cases hg;exact⟨G,h,Ext.refl 1 G w⟩
   ·cases hg
  ·cases hg
 |pub slot site=>
  simp only[ZC]at hg;split at hg
  ·rename_i s' g o n q hs;split at hg
   ·rename_i g' sz xs hlk;cases hb:(Nat.beq s' site&&Nat.beq g g'&&Nat.ble (o+n) xs.length)with
    |false=>rw[hb]at hg;cases hg
    |true=>
     rw[hb]at hg;simp only[cond_true,QWF]at hg;subst hg;simp only[QWE]at hb;obtain⟨⟨b1,b2⟩,b3⟩:=hb;have e1:=QWc b1;have e2:=QWc b2;subst e1 e2;exact h.publish hs hlk (QXJ b3)
   ·cases hg
  ·cases hg;exact⟨G,h,Ext.refl 1 G w⟩
  ·cases hg
 |give slot site l S=>
  simp only[ZC]at hg;split at hg
  ·rename_i s' g o n q hs;split at hg
   ·rename_i g' sz xs hlk;cases hb:(Nat.beq s' site&&Nat.beq g g'&&Nat.blt l st.m.length && !(Nat.beq l 0)&&Qt (Qf st.m l S)&&Nat.blt S 2000)with
    |false=>rw[hb]at hg;cases hg
    |true=>
     rw[hb]at hg;simp only[cond_true,QWF]at hg;subst hg;simp only[QWE]at hb;obtain⟨⟨⟨⟨⟨b1,b2⟩,b3⟩,b4⟩,b5⟩,b6⟩:=hb;have e1:=QWc b1;have e2:=QWc b2;subst e1 e2;have b4':l≠0:=fun e=>by rw[e]at b4;simp at b4
     exact h.give hs hlk (QXJ b3) b4' b5 (QXJ b6)
   ·cases hg
  ·cases hg
 |lst slot=>
  simp only[ZC]at hg;split at hg
  ·rename_i hs;cases hg;refine⟨G,⟨h.mr,h.size,Ua h.slots ?_,h.ds,h.base,h.top,h.ne⟩,Ext.refl 1 G w⟩;have hr:=h.slots slot;rw[hs]at hr;exact hr.nn0
  ·rename_i l hs;cases hg;refine⟨G,⟨h.mr,h.size,Ua h.slots ?_,h.ds,h.base,h.top,h.ne⟩,Ext.refl 1 G w⟩;have hr:=h.slots slot;rw[hs]at hr;exact hr
  ·cases hg

def RA.sl:RA→List Nat
 |.t n=>[n]
 |_=>[]
def FP:Option RA→List Nat
 |some r=>r.sl
 |none=>[]
def VO.sl:VO→List Nat
 |.mov x=>x.sl
 |.pick c a b=>c.sl++(a.sl++b.sl)
 |.build _ ps=>ps.flatMap fun p=>p.2.2.sl
 |.load _ x=>x.sl
 |.loadv _ _ _ x=>x.sl
 |.loado _ x=>x.sl
 |.loadr _ x=>x.sl
 |.nilck x=>x.sl
 |.un _ x=>x.sl
 |.cvi _ x=>x.sl
 |.b2s x=>x.sl
 |.faddr _ x=>x.sl
 |.fld _ _ x=>x.sl
 |.ext x _=>x.sl
 |.len _ x=>x.sl
 |.bin _ _ x y=>x.sl++y.sl
 |.eqs _ _ x y=>x.sl++y.sl
 |.iaddr _ _ x y=>x.sl++y.sl
 |.idx x y=>x.sl++y.sl
 |.mnx _ x y=>x.sl++y.sl
 |.slc _ x lo hi mx=>x.sl++(FP lo++(FP hi++FP mx))
 |.slcp _ x lo hi mx=>x.sl++(FP lo++(FP hi++FP mx))
 |.mkfn _ a b=>a.flatMap RA.sl++b.flatMap RA.sl
 |.toU x=>x.sl
 |.ofU _ _ x=>x.sl
 |.same x=>x.sl
 |.mget _ _ x y=>x.sl++y.sl
 |.mgetp _ _ x y=>x.sl++y.sl
 |.mki _ x=>x.sl
 |.tas _ _ _ x=>x.sl
def RO.sl:RO→List Nat
 |.val v=>v.sl
 |.allocN _ _=>[]
 |.boxN _ r=>r.sl
 |.store _ p r=>p.sl++r.sl
 |.storev _ _ _ p r=>p.sl++r.sl
 |.app _ _ _ s r=>s.sl++r.sl
 |.appS _ s r=>s.sl++r.sl
 |.mk _ _ _ _ _ l c=>l.sl++c.sl
 |.usd r=>r.sl
 |.ustr _ p r=>p.sl++r.sl
 |.bsl _ _ _ ps=>ps.flatMap fun p=>p.2.2.sl
 |.call f rs=>f.sl++rs.flatMap RA.sl
 |.callF f rs=>f.sl++rs.flatMap RA.sl
 |.bslv _ _ _ _ ps=>ps.flatMap fun p=>p.2.2.sl
 |.bsl0 _ _=>[]
 |.isnil _ x=>x.sl
 |.callR f rs=>f.sl++rs.flatMap RA.sl
 |.xb _ _ s c=>s.sl++c.sl
 |.callK _ _ f rs=>f.sl++rs.flatMap RA.sl
 |.rngs _ r=>r.sl
 |.nxts r=>r.sl
 |.mkm _=>[]
 |.mput x y z=>x.sl++(y.sl++z.sl)
def Item.sl (it:Item):List Nat:=it.op.sl++(match it.g with|some (j,_)=>[j]|none=>[])

def ZA (l:List Nat)(f f':Fr):Prop:=∀t,t∈l→f t=f' t
theorem ZA.left {a b:List Nat}{f f':Fr}(h:ZA (a++b) f f'):ZA a f f':=fun t ht=>h t (List.mem_append_left _ ht)
theorem ZA.right {a b:List Nat}{f f':Fr}(h:ZA (a++b) f f'):ZA b f f':=fun t ht=>h t (List.mem_append_right _ ht)

theorem RA.ev_same {r:RA}{f f':Fr}(h:ZA r.sl f f'):r.ev f=r.ev f':=by
 cases r with
 |t n=>exact h n (by simp[RA.sl])
 |c x=>rfl
 |f k=>rfl

theorem Kt:∀ {rs:List RA} {f f':Fr},ZA (rs.flatMap RA.sl) f f'→rs.map (RA.ev f)=rs.map (RA.ev f')
 | [],_,_,_=>rfl
 |r :: rs,f,f',h=>by
  rw[QXK]at h;rw[QWM,QWM,RA.ev_same h.left,Kt h.right]

theorem WI {f f':Fr}:∀ {ps:List (Nat×Nat×RA)} {z:List AV},ZA (ps.flatMap fun p=>p.2.2.sl) f f'→fill f ps z=fill f' ps z
 | [],_,_=>rfl
 |(o,n,r) :: ps,z,h=>by
  rw[QXK]at h;simp only[fill,RA.ev_same h.left,WI h.right]

theorem Ku {f f':Fr}{d:Nat}{r:Option RA}(h:ZA (FP r) f f'):Zt f d r=Zt f' d r:=by
 cases r with
 |none=>rfl
 |some r=>simp only[Zt,RA.ev_same (r:=r) h]

theorem Rt {f f':Fr}{m:Qn}{vo:VO}(h:ZA vo.sl f f'):Qq f m vo=Qq f' m vo:=by
 cases vo with
 |mov x=>simp only[Qq,RA.ev_same (r:=x) h]
 |pick c a b=>simp only[Qq,RA.ev_same (r:=c) h.left,RA.ev_same (r:=a) h.right.left,RA.ev_same (r:=b) h.right.right]
 |build z ps=>simp only[Qq,WI (ps:=ps) h]
 |load k x=>simp only[Qq,RA.ev_same (r:=x) h]
 |loadv l s k x=>simp only[Qq,RA.ev_same (r:=x) h]
 |loado k x=>simp only[Qq,RA.ev_same (r:=x) h]
 |loadr k x=>simp only[Qq,RA.ev_same (r:=x) h]
 |nilck x=>simp only[Qq,RA.ev_same (r:=x) h]
 |un o x=>simp only[Qq,RA.ev_same (r:=x) h]
 |cvi k x=>simp only[Qq,RA.ev_same (r:=x) h]
 |b2s x=>simp only[Qq,RA.ev_same (r:=x) h]
 |faddr o x=>simp only[Qq,RA.ev_same (r:=x) h]
 |fld o k x=>simp only[Qq,RA.ev_same (r:=x) h]
 |ext x i=>simp only[Qq,RA.ev_same (r:=x) h]
 |toU x=>simp only[Qq,RA.ev_same (r:=x) h]
 |ofU t n x=>simp only[Qq,RA.ev_same (r:=x) h]
 |same x=>simp only[Qq,RA.ev_same (r:=x) h]
 |len k x=>simp only[Qq,RA.ev_same (r:=x) h]
 |bin t o x y=>simp only[Qq,RA.ev_same (r:=x) h.left,RA.ev_same (r:=y) h.right]
 |eqs n ks x y=>simp only[Qq,RA.ev_same (r:=x) h.left,RA.ev_same (r:=y) h.right]
 |iaddr sz len x y=>simp only[Qq,RA.ev_same (r:=x) h.left,RA.ev_same (r:=y) h.right]
 |idx x y=>simp only[Qq,RA.ev_same (r:=x) h.left,RA.ev_same (r:=y) h.right]
 |mget ok z x y=>simp only[Qq,RA.ev_same (r:=x) h.left,RA.ev_same (r:=y) h.right]
 |mgetp ok z x y=>simp only[Qq,RA.ev_same (r:=x) h.left,RA.ev_same (r:=y) h.right]
 |mki t x=>simp only[Qq,RA.ev_same (r:=x) h]
 |tas t ok z x=>simp only[Qq,RA.ev_same (r:=x) h]
 |mnx b x y=>simp only[Qq,RA.ev_same (r:=x) h.left,RA.ev_same (r:=y) h.right]
 |slc sz x lo hi mx=>
  have h1:=h.right.left;have h2:=h.right.right.left;have h3:=h.right.right.right;simp only[Qq,RA.ev_same (r:=x) h.left,Ku (r:=lo) h1,Ku (r:=hi) h2];cases mx with
  |none=>rfl
  |some r=>simp only[Ku (r:=some r) h3]
 |slcp sz x lo hi mx=>
  have h1:=h.right.left;have h2:=h.right.right.left;have h3:=h.right.right.right;simp only[Qq,RA.ev_same (r:=x) h.left,Ku (r:=lo) h1,Ku (r:=hi) h2];cases mx with
  |none=>rfl
  |some r=>simp only[Ku (r:=some r) h3]
 |mkfn fn a b=>simp only[Qq,Kt (rs:=a) h.left,Kt (rs:=b) h.right]

inductive MC where
 |no
 |shape
 |rows
 |cell (l s:Nat)
 |outer
 |all
 deriving DecidableEq

def VO.mc:VO→MC
 |.load _ _=>.all
 |.loadv l s _ _=>.cell l s
 |.loado _ _=>.outer
 |.loadr _ _=>.rows
 |.b2s _=>.rows
 |.nilck _=>.shape
 |.faddr _ _=>.shape
 |.len _ _=>.shape
 |.slc .. => .shape
 |.iaddr .. => .shape
 |.toU _=>.all
 |.ofU .. => .all
 |.mget .. => .all
 |_=>.no

def Ob.sh:Ob→Option (Nat×Nat)
 |.vec g z _=>some (g,z)
 |_=>Option.none
def Ob.row:Ob→Option (Nat×Nat×List AV)
 |.vec g z xs=>some (g,z,xs)
 |_=>Option.none

def Xi:MC→Qn→Qn→Prop
 |.no,_,_=>True
 |.shape,m,m'=>∀l s,(Qf m l s).sh=(Qf m' l s).sh
 |.rows,m,m'=>∀l s,(Qf m l s).row=(Qf m' l s).row
 |.cell l s,m,m'=>Qf m l s=Qf m' l s∨((Qf m l s).isRow=true∧(Qf m' l s).isRow=true)
 |.outer,m,m'=>∀l s,Qf m (l+1) s=Qf m' (l+1) s
 |.all,m,m'=>m=m'

theorem Xi.refl (c:MC)(m:Qn):Xi c m m:=by
 cases c<;>simp[Xi]

theorem Ub {m m':Qn}{l s:Nat}(h:(Qf m l s).sh=(Qf m' l s).sh):Wh m l s=Wh m' l s:=by
 unfold Wh;cases h1:Qf m l s<;>cases h2:Qf m' l s<;>rw[h1,h2]at h<;>simp_all[Ob.sh]

theorem VN {m m':Qn}(h:Xi .rows m m')(x:AV):Q9 m x=Q9 m' x:=by
 cases x with
 |vec l s g o n q=>
  have h:=h l s;simp only[Q9];cases h1:Qf m l s<;>cases h2:Qf m' l s<;>rw[h1,h2]at h<;>simp_all[Ob.row]
 |_=>rfl

theorem FQ {m m':Qn}(h:Xi .shape m m')(sz:Option Nat)(x:AV)(lo hi:Nat)(mx:Option Nat):Q1 m sz x lo hi mx=Q1 m' sz x lo hi mx:=by
 cases sz with
 |none=>rfl
 |some z=>
  cases x with
  |vec l s g o n q=>
   have h:=h l s;simp only[Q1];cases h1:Qf m l s<;>cases h2:Qf m' l s<;>rw[h1,h2]at h<;>simp_all[Ob.sh]
  |_=>rfl

theorem FR {m m':Qn}(h:Xi .shape m m')(sz:Nat)(len:Option Nat)(x:AV)(i:Int):Qb m sz len x i=Qb m' sz len x i:=by
 unfold Qb;cases len with
 |none=>
  cases x with
  |vec l s g o n q=>
   have h:=h l s;simp only;cases h1:Qf m l s<;>cases h2:Qf m' l s<;>rw[h1,h2]at h<;>simp_all[Ob.sh]
  |_=>rfl
 |some k=>rfl

def Ru (F:Nat→List AV→Option AV):Ob→Option AV
 |.vec g _ xs=>F g xs
 |_=>none

theorem C5 {o o':Ob}(h:o.row=o'.row)(F:Nat→List AV→Option AV):Ru F o=Ru F o':=by
  cases o<;>cases o'<;>simp only[Ob.row,QWF,QXL,reduceCtorEq]at h<;>first
    |rfl
    | (obtain⟨rfl,_,rfl⟩:=h
       rfl)

theorem H5 (m:Qn)(k:Option Nat)(l s g i o:Nat):Q8 m k (.vptr l s g i o)=Ru (fun g' xs=>if g=g' then match xs[i]? with
  |some e=>part e.cells o k
  |none=>none
 else none) (Qf m l s):=by
 simp only[Q8];cases Qf m l s<;>rfl

theorem AU {f:Fr}{m m':Qn}{vo:VO}(h:Xi vo.mc m m'):Qq f m vo=Qq f m' vo:=by
 cases vo<;>simp only[VO.mc]at h<;>try rfl
 case load k x=>have h:m=m':=h;subst h;rfl
 case toU x=>have h:m=m':=h;subst h;rfl
 case ofU t n x=>have h:m=m':=h;subst h;rfl
 case mget ok z x i=>have h:m=m':=h;subst h;rfl
 case loado k x=>
  have h:∀l s,Qf m (l+1) s=Qf m' (l+1) s:=h;simp only[Qq];split
  ·simp only[Q8,h]
  ·rfl
 case loadv l s k x=>
  have h:Qf m l s=Qf m' l s∨((Qf m l s).isRow=true∧(Qf m' l s).isRow=true):=h;simp only[Qq];split
  ·split
   ·rename_i hh;obtain⟨rfl,rfl⟩:=hh;rcases h with h|⟨h1,h2⟩
    ·simp only[Q8,h]
    ·simp only[Q8];cases e1:Qf m _ _<;>cases e2:Qf m' _ _<;>rw[e1]at h1<;>rw[e2]at h2<;>first|rfl|(simp[Ob.isRow]at h1;done)|(simp[Ob.isRow]at h2;done)
   ·rfl
  ·rfl
 case b2s x=>simp only[Qq,VN h]
 case loadr k x=>
  simp only[Qq];split
  ·rfl
  ·rename_i l s g i o e;have h4:(Qf m l s).row=(Qf m' l s).row:=h l s;rw[H5,H5,C5 h4]
  ·rfl
 case nilck x=>simp only[Qq,fun l s=>Ub (h l s)]
 case faddr o x=>simp only[Qq,fun l s=>Ub (h l s)]
 case len k x=>simp only[Qq,fun l s=>Ub (h l s)]
 case slc sz x lo hi mx=>simp only[Qq,FQ h]
 case iaddr sz len x i=>simp only[Qq,FR h]

mutual
theorem H6 {m m':Qn}(h:Xi .rows m m'):∀x:AV,x.still false m=x.still false m'
 |.vec l s g o n q=>by
   have h:=h l s;simp only[AV.still];cases h1:Qf m l s<;>cases h2:Qf m' l s<;>rw[h1,h2]at h<;>simp_all[Ob.row]
 |.agg l=>by simp only[AV.still,KI h l]
 |.tup l=>by simp only[AV.still,KI h l]
 |.iface t x=>by simp only[AV.still,H6 h x]
 |.top|.int .. | .bool _|.str _|.nils|.nilp|.nilf|.nili|.nilm|.anyp|.list _|.lcap _|.fn .. | .ptr .. | .vptr .. | .rptr _|.mp .. => rfl
 |.mptr l s=>by simp only[AV.still,QXM,QWz,if_false]
theorem KI {m m':Qn}(h:Xi .rows m m'):∀l:List AV,AV.stillL false m l=AV.stillL false m' l
 | []=>rfl
 |x :: l=>by simp only[AV.stillL,H6 h x,KI h l]
end

def RO.pure:RO→Bool
 |.val _=>true
 |.bsl .. => true
 |.call _ _=>true
 |.usd _=>true
 |_=>false

def RO.mc:RO→MC
 |.val v=>v.mc
 |.call _ _=>.rows
 |.usd _=>.rows
 |.bsl .. => .no
 |_=>.all

section
variable {P:Program}

def VP (P:Program)(op:RO)(st:St)(x:AV):Prop :=
 match op with
 |.val vo=>Qq st.f st.m vo=some x
 |.call f args=>∃k fa fb ys,f.ev st.f=.fn (.func k) fa fb∧AV.stillL false st.m (fa++args.map (RA.ev st.f)++fb)=some ys∧AV.rfL ys=true∧Qi P k ys x∧x.rf=true∧(AV.rfL (fa++args.map (RA.ev st.f)++fb)=true∨x.nl=true)
 |_=>False

def XZ (P:Program)(op:RO)(st:St)(x:AV)(m:Qn):Prop :=
 match op with
 |.val vo=>Qq st.f st.m vo=some x∧m=st.m
 |.call f args=>VP P (.call f args) st x∧m=st.m
 |.allocN s z=>XG st.m s=true∧x=.ptr 0 s 0∧m=Am.put st.m 0 s (.cells z)
 |.boxN s r=>XG st.m s=true∧(r.ev st.f).cells.all AV.leaf=true∧x=.ptr 0 s 0∧m=Am.put st.m 0 s (.cells (r.ev st.f).cells)
 |.store n p r=>(r.ev st.f).cells.length=n∧(r.ev st.f).cells.all AV.leaf=true∧QX st.m (p.ev st.f) (r.ev st.f).cells=some m∧x=.tup []
 |.storev l s n p r=>(∃o,p.ev st.f=.ptr l s o)∧(r.ev st.f).cells.length=n∧(r.ev st.f).cells.all AV.leaf=true∧QX st.m (p.ev st.f) (r.ev st.f).cells=some m∧x=.tup []
 |.app sz bytes el s r=>∃l site g n xs ys,s.ev st.f=.vec l site g 0 n false∧Qf st.m l site=.vec g sz xs∧XK site el=true∧n≤xs.length∧Q9 st.m (r.ev st.f)=some ys∧ys.all (fun e=>e.cells.length==sz)=true∧n+ys.length≤maxLen∧(n+ys.length)*bytes≤140737488355328∧
   x=.vec l site (g+1) 0 (n+ys.length) false∧m=Am.put st.m l site (.vec (g+1) sz (xs.take n++ys))
 |.bsl sz len z ps=>(∃y,fill st.f ps (Xg z sz len)=some y∧AV.rfL y=true∧y.all AV.leaf=true∧x=.list (XF sz len (y.map nn0)))∧m=st.m
 |.bslv site sz len z ps=>∃y,fill st.f ps (Xg z sz len)=some y∧AV.rfL y=true∧y.all AV.leaf=true∧Qt (Qf st.m 0 site)=true∧x=.vec 0 site (QF st.m 0 site) 0 len false∧m=Am.put st.m 0 site (.vec (QF st.m 0 site) sz (XF sz len (y.map nn0)))
 |.bsl0 site sz=>Qt (Qf st.m 0 site)=true∧x=.vec 0 site (QF st.m 0 site) 0 0 false∧m=Am.put st.m 0 site (.vec (QF st.m 0 site) sz [])
 |.callF f args=>∃k fa fb,f.ev st.f=.fn (.func k) fa fb∧Qh P k (fa++args.map (RA.ev st.f)++fb) st.m (fun y m'=>y=x∧m'=m)
 |.callK l s f args=>∃k fa fb,f.ev st.f=.fn (.func k) fa fb∧Qh P k (fa++args.map (RA.ev st.f)++fb) st.m (fun y m'=>y=x∧m'=m)∧Qf m l s=Qf st.m l s
 |.usd r=>(∃l s g n sz xs,2000≤s∧r.ev st.f=.vec l s g 0 n false∧Qf st.m l s=.vec g sz xs∧x=(if n=0 then .anyp else .vptr l s g 0 0))∧m=st.m
 |.ustr el p r=>(p.ev st.f=.anyp∧r.ev st.f=.int .i64 0∧x=.str []∧m=st.m)∨
   ∃l g n xs s,p.ev st.f=.vptr l (el+2000) g 0 0∧r.ev st.f=.int .i64 ((n:Nat):Int)∧Qf st.m l (el+2000)=.vec g 1 xs∧n≤xs.length∧n≠0∧xs.take n=Qz s∧x=.str s∧m=Am.put st.m l (el+2000) (.vec (g+1) 1 [])
 |_=>False

def RO.keeps:RO→Bool
 |.appS .. => false
 |.mk .. => false
 |.isnil .. => false
 |.callR .. => false
 |.xb .. => false
 |.rngs .. => false
 |.nxts .. => false
 |.mkm .. => false
 |.mput .. => false
 |_=>true

theorem FS {d:Option Nat}{op:RO}{st:St}{K:St→Prop}(hk:op.keeps=true):YX P d op st K↔∃x m,XZ P op st x m∧K { st with m:=m,f:=Qk st.f d x }:=by
 cases op<;>simp only[RO.keeps,QWz]at hk<;>simp only[YX,XZ,VP]
 case val=>exact⟨fun⟨x,h,k⟩=>⟨x,_,⟨h,rfl⟩,k⟩,fun⟨x,m,⟨h,e⟩,k⟩=>by subst e;exact⟨x,h,k⟩⟩
 case allocN=>exact⟨fun⟨h,k⟩=>⟨_,_,⟨h,rfl,rfl⟩,k⟩,fun⟨x,m,⟨h,e,e'⟩,k⟩=>by subst e e';exact⟨h,k⟩⟩
 case boxN=>exact⟨fun⟨h,h',k⟩=>⟨_,_,⟨h,h',rfl,rfl⟩,k⟩,fun⟨x,m,⟨h,h',e,e'⟩,k⟩=>by subst e e';exact⟨h,h',k⟩⟩
 case store=>exact⟨fun⟨h1,h2,m',h3,k⟩=>⟨_,m',⟨h1,h2,h3,rfl⟩,k⟩,fun⟨x,m,⟨h1,h2,h3,e⟩,k⟩=>by subst e;exact⟨h1,h2,m,h3,k⟩⟩
 case storev=>exact⟨fun⟨h0,h1,h2,m',h3,k⟩=>⟨_,m',⟨h0,h1,h2,h3,rfl⟩,k⟩,fun⟨x,m,⟨h0,h1,h2,h3,e⟩,k⟩=>by subst e;exact⟨h0,h1,h2,m,h3,k⟩⟩
 case app=>exact⟨fun⟨l,site,g,n,xs,ys,h1,h2,ht,h3,h4,h5,h6,h7,k⟩=>⟨_,_,⟨l,site,g,n,xs,ys,h1,h2,ht,h3,h4,h5,h6,h7,rfl,rfl⟩,k⟩,fun⟨x,m,⟨l,site,g,n,xs,ys,h1,h2,ht,h3,h4,h5,h6,h7,e,e'⟩,k⟩=>by subst e e';exact⟨l,site,g,n,xs,ys,h1,h2,ht,h3,h4,h5,h6,h7,k⟩⟩
 case call=>exact⟨fun⟨k,fa,fb,ys,v,h1,h2,h3,h4,h5,h6,kk⟩=>⟨v,_,⟨⟨k,fa,fb,ys,h1,h2,h3,h4,h5,h6⟩,rfl⟩,kk⟩,fun⟨x,m,⟨⟨k,fa,fb,ys,h1,h2,h3,h4,h5,h6⟩,e⟩,kk⟩=>by subst e;exact⟨k,fa,fb,ys,x,h1,h2,h3,h4,h5,h6,kk⟩⟩
 case usd=>exact⟨fun⟨l,s,g,n,sz,xs,h0,h1,h2,k⟩=>⟨_,_,⟨⟨l,s,g,n,sz,xs,h0,h1,h2,rfl⟩,rfl⟩,k⟩,fun⟨x,m,⟨⟨l,s,g,n,sz,xs,h0,h1,h2,e⟩,e'⟩,k⟩=>by subst e e';exact⟨l,s,g,n,sz,xs,h0,h1,h2,k⟩⟩
 case ustr=>
  constructor
  ·rintro(⟨h1,h2,k⟩|⟨l,g,n,xs,s,h1,h2,h3,h4,h5,h6,k⟩)
   ·exact⟨_,_,.inl ⟨h1,h2,rfl,rfl⟩,k⟩
   ·exact⟨_,_,.inr ⟨l,g,n,xs,s,h1,h2,h3,h4,h5,h6,rfl,rfl⟩,k⟩
  ·rintro⟨x,m,⟨h1,h2,e,e'⟩|⟨l,g,n,xs,s,h1,h2,h3,h4,h5,h6,e,e'⟩,k⟩
   ·subst e e';exact .inl ⟨h1,h2,k⟩
   ·subst e e';exact .inr ⟨l,g,n,xs,s,h1,h2,h3,h4,h5,h6,k⟩
 case bsl=>exact⟨fun⟨y,h1,h2,h3,k⟩=>⟨_,_,⟨⟨y,h1,h2,h3,rfl⟩,rfl⟩,k⟩,fun⟨x,m,⟨⟨y,h1,h2,h3,e⟩,e'⟩,k⟩=>by subst e e';exact⟨y,h1,h2,h3,k⟩⟩
 case bslv=>exact⟨fun⟨y,h1,h2,h3,h4,k⟩=>⟨_,_,⟨y,h1,h2,h3,h4,rfl,rfl⟩,k⟩,fun⟨x,m,⟨y,h1,h2,h3,h4,e,e'⟩,k⟩=>by subst e e';exact⟨y,h1,h2,h3,h4,k⟩⟩
 case bsl0=>exact⟨fun⟨h1,k⟩=>⟨_,_,⟨h1,rfl,rfl⟩,k⟩,fun⟨x,m,⟨h1,e,e'⟩,k⟩=>by subst e e';exact⟨h1,k⟩⟩
 case callK=>exact⟨fun⟨k,fa,fb,v,m',h1,h2,h3,kk⟩=>⟨v,m',⟨k,fa,fb,h1,h2,h3⟩,kk⟩,fun⟨x,m,⟨k,fa,fb,h1,h2,h3⟩,kk⟩=>⟨k,fa,fb,x,m,h1,h2,h3,kk⟩⟩
 case callF=>exact⟨fun⟨k,fa,fb,v,m',h1,h2,kk⟩=>⟨v,m',⟨k,fa,fb,h1,h2⟩,kk⟩,fun⟨x,m,⟨k,fa,fb,h1,h2⟩,kk⟩=>⟨k,fa,fb,x,m,h1,h2,kk⟩⟩

def Zu (P:Program)(it:Item)(st:St)(x:AV)(m:Qn):Prop :=
 match it.g with
 |none=>XZ P it.op st x m
 |some (j,want)=>match st.f j with
  |.bool b=>(b=want∧XZ P it.op st x m)∨(b=(!want)∧x=.tup []∧m=st.m)
  |.tup l=>l=[]∧x=.tup []∧m=st.m
  |_=>False

theorem Jp {it:Item}{st:St}{K:St→Prop}(hk:it.op.keeps=true):XY P it st K↔∃x m,Zu P it st x m∧K { st with m:=m,f:=Qk st.f it.dst x }:=by
 obtain⟨d,op,g⟩:=it;cases g with
 |none=>exact FS hk
 |some p=>
  obtain⟨j,want⟩:=p;simp only[XY,Zu];cases hj:st.f j with
  |bool b=>
   simp only;rw[FS hk]
   constructor
   ·intro⟨h1,h2⟩;by_cases hb:b=want
    ·obtain⟨x,m,h,k⟩:=h1 hb;exact⟨x,m,.inl ⟨hb,h⟩,k⟩
    ·have hb':b=!want:=by cases b<;>cases want<;>first|rfl|exact absurd rfl hb
     exact⟨_,_,.inr ⟨hb',rfl,rfl⟩,h2 hb'⟩
   ·rintro⟨x,m,⟨hb,h⟩|⟨hb,rfl,rfl⟩,k⟩
    ·exact⟨fun _=>⟨x,m,h,k⟩,fun e=>by rw[hb]at e;cases want<;>cases e⟩
    ·exact⟨fun e=>(by rw[hb]at e;cases want<;>cases e),fun _=>k⟩
  |tup l=>
   constructor
   ·rintro⟨h,k⟩;exact⟨_,_,⟨h,rfl,rfl⟩,k⟩
   ·rintro⟨x,m,⟨h,rfl,rfl⟩,k⟩;exact⟨h,k⟩
  |_=>exact⟨fun h=>h.elim,fun⟨_,_,h,_⟩=>h.elim⟩

theorem H7 {op:RO}{f f':Fr}{m m':Qn}{ds ds':List DF}{x:AV}(h:ZA op.sl f f')(k:XZ P op ⟨f,m,ds⟩ x m'):XZ P op ⟨f',m,ds'⟩ x m':=by
 cases op with
 |val vo=>simp only[XZ,Rt (vo:=vo) h]at k ⊢;exact k
 |call g args=>simp only[XZ,VP,RA.ev_same (r:=g) h.left,Kt (rs:=args) h.right]at k ⊢;exact k
 |callK l s g args=>simp only[XZ,RA.ev_same (r:=g) h.left,Kt (rs:=args) h.right]at k ⊢;exact k
 |callF g args=>simp only[XZ,RA.ev_same (r:=g) h.left,Kt (rs:=args) h.right]at k ⊢;exact k
 |allocN s z=>exact k
 |boxN s r=>simp only[XZ,RA.ev_same (r:=r) h]at k ⊢;exact k
 |store n p r=>simp only[XZ,RA.ev_same (r:=p) h.left,RA.ev_same (r:=r) h.right]at k ⊢;exact k
 |storev l s n p r=>simp only[XZ,RA.ev_same (r:=p) h.left,RA.ev_same (r:=r) h.right]at k ⊢;exact k
 |usd r=>simp only[XZ,RA.ev_same (r:=r) h]at k ⊢;exact k
 |ustr el p r=>simp only[XZ,RA.ev_same (r:=p) h.left,RA.ev_same (r:=r) h.right]at k ⊢;exact k
 |app sz bytes el s r=>simp only[XZ,RA.ev_same (r:=s) h.left,RA.ev_same (r:=r) h.right]at k ⊢;exact k
 |bsl sz len z ps=>simp only[XZ,WI (ps:=ps) h]at k ⊢;exact k
 |bslv site sz len z ps=>simp only[XZ,WI (ps:=ps) h]at k ⊢;exact k
 |bsl0 site sz=>exact k
 |_=>exact k.elim

theorem K3 {it:Item}{f f':Fr}{m m':Qn}{ds ds':List DF}{x:AV}(h:ZA it.sl f f')(k:Zu P it ⟨f,m,ds⟩ x m'):Zu P it ⟨f',m,ds'⟩ x m':=by
 obtain⟨d,op,g⟩:=it;cases g with
 |none=>exact H7 (ZA.left h) k
 |some p=>
  obtain⟨j,want⟩:=p;have hj:f j=f' j:=(ZA.right h) j (by simp);simp only[Zu]at k ⊢;rw[←hj];cases he:f j with
  |bool b=>rw[he]at k;exact k.imp (fun h1=>⟨h1.1,H7 (ZA.left h) h1.2⟩) id
  |tup l=>rw[he]at k;exact k
  |_=>rw[he]at k;exact k

theorem FT {op:RO}(hp:op.pure=true){f:Fr}{m m' m1:Qn}{ds ds':List DF}{x:AV}(h:Xi op.mc m m')(k:XZ P op ⟨f,m,ds⟩ x m1):m1=m∧XZ P op ⟨f,m',ds'⟩ x m':=by
 cases op with
 |bsl sz len z ps=>obtain⟨k,e⟩:=k;exact⟨e,k,rfl⟩
 |val vo=>obtain⟨k,e⟩:=k;exact⟨e,by rw[←AU (f:=f) h];exact k,rfl⟩
 |call g args=>
  obtain⟨⟨k,fa,fb,ys,h1,h2,h3,h4,h5,h6⟩,e⟩:=k;refine⟨e,⟨k,fa,fb,ys,h1,?_,h3,h4,h5,h6⟩,rfl⟩;rw[←KI h];exact h2
 |usd r=>
  obtain⟨⟨l,s,g,n,sz,xs,h0,h1,h2,h3⟩,e⟩:=k;refine⟨e,⟨l,s,g,n,sz,xs,h0,h1,?_,h3⟩,rfl⟩;have h4:(Qf m l s).row=(Qf m' l s).row:=h l s;have h2:Qf m l s=.vec g sz xs:=h2;show Qf m' l s=.vec g sz xs;rw[h2]at h4;cases hl:Qf m' l s with
  |vec g' sz' xs'=>rw[hl]at h4;simp only[Ob.row,QWF,QXL]at h4;obtain⟨rfl,rfl,rfl⟩:=h4;rfl
  |none=>rw[hl]at h4;cases h4
  |cells _=>rw[hl]at h4;cases h4
  |iter _ _=>rw[hl]at h4;cases h4
 |_=>cases hp

theorem Uc {it:Item}(hp:it.op.pure=true){f:Fr}{m m' m1:Qn}{ds ds':List DF}{x:AV}(h:Xi it.op.mc m m')(k:Zu P it ⟨f,m,ds⟩ x m1):m1=m∧Zu P it ⟨f,m',ds'⟩ x m':=by
 obtain⟨d,op,g⟩:=it;cases g with
 |none=>exact FT hp h k
 |some p=>
  obtain⟨j,want⟩:=p;simp only[Zu]at k ⊢;cases he:f j with
  |bool b=>
   rw[he]at k;rcases k with⟨h1,k⟩|⟨h1,h2,h3⟩
   ·obtain⟨a,b⟩:=FT hp h k;exact⟨a,.inl ⟨h1,b⟩⟩
   ·exact⟨h3,.inr ⟨h1,h2,trivial⟩⟩
  |tup l=>rw[he]at k;exact⟨k.2.2,k.1,k.2.1,trivial⟩
  |_=>rw[he]at k;exact k.elim

def RO.lets (op:RO)(c:MC):Bool :=
 match op with
 |.val _=>true
 |.call _ _=>true
 |.store .. => c == .no||c == .shape
 |.storev l s _ _ _=>match c with
  |.cell l' s'=>l' != l||s' != s
  |.outer=>l==0
  |.all=>false
  |_=>true
 |.allocN s _=>match c with
  |.cell l' s'=>l' != 0||s' != s
  |.all=>false
  |_=>true
 |.boxN s _=>match c with
  |.cell l' s'=>l' != 0||s' != s
  |.all=>false
  |_=>true
 |.app .. => match c with
  |.no=>true
  |.cell _ _=>true
  |_=>false
 |.bsl .. => true
 |.bslv s _ _ _ _=>match c with
  |.no=>true
  |.cell l' s'=>l' != 0||s' != s
  |.outer=>true
  |_=>false
 |.bsl0 s _=>match c with
  |.no=>true
  |.cell l' s'=>l' != 0||s' != s
  |.outer=>true
  |_=>false
 |.callF .. => c == .no
 |.callK l s _ _=>match c with
  |.no=>true
  |.cell l' s'=>l'==l&&s'==s
  |_=>false
 |.usd _=>true
 |.ustr .. => c == .no
 |_=>false

theorem W0 {m:Qn}{l s:Nat}{o o':Ob}(hl:Qf m l s=o)(ho:o.row=none)(ho':o'.row=none)(hlt:l<m.length){c:MC}(hc:match c with
  |.cell l' s'=>(l' != l||s' != s)=true
  |.outer=>(l==0)=true
  |.all=>False
  |_=>True):Xi c m (Am.put m l s o'):=by
 have key:∀l' s',(l'=l∧s'=s)∨Qf (Am.put m l s o') l' s'=Qf m l' s':=by
  intro l' s';by_cases hh:l'=l∧s'=s
  ·exact .inl hh
  ·exact .inr (Qx (by omega))
 have hsh:∀ {x:Ob},x.row=none→x.sh=none:=by intro x;cases x<;>simp[Ob.row,Ob.sh]
 cases c with
 |no=>trivial
 |shape=>
  intro l' s';rcases key l' s' with⟨rfl,rfl⟩|e
  ·rw[Qy hlt,hl,hsh ho,hsh ho']
  ·rw[e]
 |rows=>
  intro l' s';rcases key l' s' with⟨rfl,rfl⟩|e
  ·rw[Qy hlt,hl,ho,ho']
  ·rw[e]
 |cell l' s'=>
  show Qf m l' s'=Qf _ l' s'∨_;rcases key l' s' with⟨rfl,rfl⟩|e
  ·simp at hc
  ·exact .inl e.symm
 |outer=>
  intro l' s';have hc:l=0:=by simpa using hc
  exact(Qx (by omega)).symm
 |all=>exact hc.elim

theorem C6 {m:Qn}{s:Nat}(h:XG m s=true):Qf m 0 s=.none:=by
 unfold XG at h;split at h
 ·assumption
 ·cases h

end

theorem Xi.symm {c:MC}{m m':Qn}(h:Xi c m m'):Xi c m' m:=by
 cases c with
 |no=>trivial
 |shape=>exact fun l s=>(h l s).symm
 |rows=>exact fun l s=>(h l s).symm
 |cell l s=>exact Or.imp Eq.symm And.symm h
 |outer=>exact fun l s=>(h l s).symm
 |all=>exact Eq.symm h

theorem FU {m m':Qn}{p:AV}{ys:List AV}(h:QX m p ys=some m'):Xi .shape m m':=by
 cases p with
 |ptr l s o=>
  simp only[QX]at h;split at h
  ·rename_i xs hlk;split at h
   ·split at h
    ·cases h;exact W0 (c:=.shape) hlk rfl rfl (QZ (by rw[hlk];simp)) trivial
    ·cases h
   ·cases h
  ·cases h
 |vptr l s g i o=>
  simp only[QX]at h;split at h
  ·rename_i g' sz xs hlk;split at h
   ·rename_i hg;subst hg;split at h
    ·split at h
     ·cases h;intro l' s';by_cases hh:l'=l∧s'=s
      ·obtain⟨rfl,rfl⟩:=hh;rw[Qy (QZ (by rw[hlk];simp)),hlk];rfl
      ·rw[Qx (by omega)]
     ·cases h
    ·cases h
   ·cases h
  ·cases h
 |_=>simp[QX]at h

section
variable {P:Program}{N:Nat}

theorem FV {m:Qn}{s:Nat}{xs:List AV}(h:XG m s=true){c:MC}(hc:match c with
  |.cell l' s'=>(l' != 0||s' != s)=true
  |.all=>False
  |_=>True):Xi c m (Am.put m 0 s (.cells xs)):=by
 cases m with
 |nil=>exact Xi.refl c _
 |cons fr m=>exact W0 (C6 h) rfl rfl (by simp) (by cases c<;>first|exact hc|rfl)

theorem H8 {op:RO}{c:MC}(hc:op.lets c=true){st:St}{x:AV}{m:Qn}(h:XZ P op st x m):Xi c st.m m:=by
 cases op with
 |val vo=>rw[h.2];exact Xi.refl c _
 |call f args=>rw[h.2];exact Xi.refl c _
 |usd r=>rw[h.2];exact Xi.refl c _
 |callK l s f args=>
  obtain⟨_,_,_,_,_,he⟩:=h;cases c with
  |no=>trivial
  |cell l' s'=>
   simp only[RO.lets,QWE,QWm]at hc;obtain⟨rfl,rfl⟩:=hc;exact .inl he.symm
  |_=>simp[RO.lets]at hc
 |ustr el p r=>
  simp only[RO.lets,QWm]at hc;subst hc;trivial
 |store n p r=>
  simp only[RO.lets,QWk,QWm]at hc;rcases hc with rfl|rfl
  ·trivial
  ·exact FU h.2.2.1
 |storev l s n p r=>
  obtain⟨⟨o,ho⟩,h1,h2,h3,h4⟩:=h;rw[ho]at h3;simp only[QX]at h3;split at h3
  ·rename_i xs hlk;split at h3
   ·split at h3
    ·cases h3;refine W0 hlk rfl rfl (QZ (by rw[hlk];simp)) ?_;cases c<;>first|trivial|exact hc|cases hc
    ·cases h3
   ·cases h3
  ·cases h3
 |allocN s z=>
  rw[h.2.2];refine FV h.1 ?_;cases c<;>first|trivial|exact hc|cases hc
 |boxN s r=>
  rw[h.2.2.2];refine FV h.1 ?_;cases c<;>first|trivial|exact hc|cases hc
 |app sz bytes el s r=>
  obtain⟨l,site,g,n,xs,ys,_,hlk,_,_,_,_,_,_,_,rfl⟩:=h;cases c with
  |no=>trivial
  |cell l' s'=>
   show Qf st.m l' s'=Qf _ l' s'∨_;by_cases hh:l'=l∧s'=site
   ·obtain⟨rfl,rfl⟩:=hh;refine .inr ⟨by rw[hlk];rfl,?_⟩;rw[Qy (QZ (by rw[hlk];simp))];rfl
   ·exact .inl (Qx (by omega)).symm
  |_=>simp[RO.lets]at hc
 |bsl sz len z ps=>rw[h.2];exact Xi.refl c _
 |bslv site sz len z ps=>
  obtain⟨y,_,_,_,_,_,rfl⟩:=h;cases c with
  |no=>trivial
  |cell l' s'=>
   simp only[RO.lets,QWk,QWG]at hc;exact .inl (Qx (by omega)).symm
  |outer=>exact fun l' s'=>(Qx (.inl (Nat.succ_ne_zero l'))).symm
  |_=>simp[RO.lets]at hc
 |bsl0 site sz=>
  obtain⟨_,_,rfl⟩:=h;cases c with
  |no=>trivial
  |cell l' s'=>
   simp only[RO.lets,QWk,QWG]at hc;exact .inl (Qx (by omega)).symm
  |outer=>exact fun l' s'=>(Qx (.inl (Nat.succ_ne_zero l'))).symm
  |_=>simp[RO.lets]at hc
 |callF f args=>
  simp only[RO.lets,QWm]at hc;subst hc;trivial
 |_=>exact h.elim

theorem H9 {it:Item}{c:MC}(hc:it.op.lets c=true){st:St}{x:AV}{m:Qn}(h:Zu P it st x m):Xi c st.m m:=by
 obtain⟨d,op,g⟩:=it;cases g with
 |none=>exact H8 hc h
 |some p=>
  obtain⟨j,want⟩:=p;simp only[Zu]at h;cases he:st.f j with
  |bool b=>
   rw[he]at h;rcases h with⟨_,h⟩|⟨_,_,h⟩
   ·exact H8 hc h
   ·rw[h];exact Xi.refl c _
  |tup l=>rw[he]at h;rw[h.2.2];exact Xi.refl c _
  |_=>rw[he]at h;exact h.elim

def UG (a b:Item):Bool :=
  (match a.dst with
   |some d=>!(b.sl.contains d)&&b.dst != some d
   |none=>true) &&
  (match b.dst with
   |some d=>!(a.sl.contains d)
   |none=>true)

def FX (a b:Item):Bool :=
 match a.op,b.op,a.g,b.g with
 |.allocN s _,.allocN t _,none,none=>s != t
 |_,_,_,_=>false

def UH (a b:Item):Bool :=
 a.op.keeps&&b.op.keeps&&UG a b&&((a.op.pure&&b.op.lets a.op.mc)||(b.op.pure&&a.op.lets b.op.mc)||FX a b)

theorem FY {m:Qn}{s t:Nat}{o:Ob}(h:s≠t):XG (Am.put m 0 s o) t=XG m t:=by
 unfold XG;rw[Qx (.inr (Ne.symm h))]
theorem Rv {m:Qn}{s t:Nat}{o q:Ob}(h:s≠t):Am.put (Am.put m 0 s o) 0 t q=Am.put (Am.put m 0 t q) 0 s o:=by
 cases m with
 |nil=>rfl
 |cons fr m=>
  simp only[Am.put];congr 1
  funext i;by_cases h1:i=t
  ·subst h1;rw[QS,QO _ _ (Ne.symm h),QS]
  ·rw[QO _ _ h1];by_cases h2:i=s
   ·subst h2;rw[QS,QS]
   ·rw[QO _ _ h2,QO _ _ h2,QO _ _ h1]
theorem ND {a b:Item}(h:FX a b=true){st:St}{f:Fr}{x y:AV}{m m2:Qn}(ga:Zu P a st x m)(gb:Zu P b { st with m:=m,f:=f } y m2) :
  ∃m1,Zu P b st y m1∧∀f',Zu P a { st with m:=m1,f:=f' } x m2:=by
 obtain⟨da,oa,ga'⟩:=a;obtain⟨db,ob,gb'⟩:=b;unfold FX at h;dsimp only at h;split at h
 ·rename_i s z t w;have hne:s≠t:=by simpa using h
  obtain⟨h1,rfl,rfl⟩:=ga;obtain⟨h2,rfl,rfl⟩:=gb;dsimp only at h2;rw[FY hne]at h2;refine⟨_,⟨h2,rfl,rfl⟩,fun f'=>⟨?_,rfl,?_⟩⟩
  ·dsimp only;rw[FY (Ne.symm hne)];exact h1
  ·exact Rv hne
 ·cases h

theorem DP {l:List Nat}{f:Fr}{d:Option Nat}{x:AV}(h:∀k,d=some k→k∉l):ZA l f (Qk f d x):=by
 intro t ht;cases d with
 |none=>rfl
 |some k=>
  have:t≠k:=fun e=>h k rfl (e▸ht)
  show f t=QH f k x t;rw[QO _ _ this]

theorem C7 {f:Fr}{d e:Option Nat}{x y:AV}(h:∀k,d=some k→e≠some k):Qk (Qk f d x) e y=Qk (Qk f e y) d x:=by
 cases d with
 |none=>rfl
 |some d=>
  cases e with
  |none=>rfl
  |some e=>
   have hne:d≠e:=fun hh=>h d rfl (hh▸rfl)
   funext i;show QH (QH f d x) e y i=QH (QH f e y) d x i;by_cases h1:i=e
   ·subst h1;rw[QS,QO _ _ (Ne.symm hne),QS]
   ·rw[QO _ _ h1];by_cases h2:i=d
    ·subst h2;rw[QS,QS]
    ·rw[QO _ _ h2,QO _ _ h2,QO _ _ h1]

theorem VQ {a b:Item}(h:UG a b=true):(∀k,a.dst=some k→k∉b.sl)∧(∀k,a.dst=some k→b.dst≠some k)∧(∀k,b.dst=some k→k∉a.sl):=by
 unfold UG at h;simp only[QWE]at h;refine⟨fun k e=>?_,fun k e=>?_,fun k e=>?_⟩
 ·have:=h.1;rw[e]at this;simp at this;exact this.1
 ·have:=h.1;rw[e]at this;simp at this;exact this.2
 ·have:=h.2;rw[e]at this;simpa using this

theorem VR {a b:Item}(h:UH a b=true){st:St}{K:St→Prop}(k:XY P a st fun s=>XY P b s K):XY P b st fun s=>XY P a s K:=by
 unfold UH at h;simp only[QWE,QWk]at h;obtain⟨⟨⟨ka,kb⟩,hap⟩,hor⟩:=h;obtain⟨h1,h2,h3⟩:=VQ hap;rw[Jp ka]at k;obtain⟨x,m,ga,k⟩:=k;rw[Jp kb]at k;obtain⟨y,m2,gb,k⟩:=k;rw[Jp kb];have hs1:∀f:Fr,ZA b.sl f (Qk f a.dst x):=fun f=>DP h1
 have hs3:∀f:Fr,ZA a.sl f (Qk f b.dst y):=fun f=>DP h3
 have hsym:∀ {l f f'},ZA l f f'→ZA l f' f:=fun h t ht=>(h t ht).symm
 have hK:K { st with m:=m2,f:=Qk (Qk st.f b.dst y) a.dst x }:=by
  rw[←C7 h2];exact k
 rcases hor with(⟨pa,lb⟩|⟨pb,la⟩)|hf
 ·have e:m=st.m:=(Uc (m':=st.m) (ds':=st.ds) pa (Xi.refl _ _) ga).1;subst e;have gb':Zu P b st y m2:=K3 (hsym (hs1 st.f)) gb;refine⟨y,m2,gb',?_⟩;rw[Jp ka];have ga':Zu P a { st with m:=m2 } x m2:=(Uc pa (H9 lb gb') ga).2;exact⟨x,m2,K3 (hs3 st.f) ga',hK⟩
 ·have hag:=H9 la ga;obtain⟨e,gb1⟩:=Uc (m':=st.m) (ds':=st.ds) pb hag.symm gb;have e:m2=m:=e;subst e;have gb':Zu P b st y st.m:=K3 (hsym (hs1 st.f)) gb1;refine⟨y,st.m,gb',?_⟩;rw[Jp ka];exact⟨x,m2,K3 (hs3 st.f) ga,hK⟩
 ·obtain⟨m1,gb',ga'⟩:=ND hf ga gb;refine⟨y,m1,gb',?_⟩;rw[Jp ka];exact⟨x,m2,ga' _,hK⟩

theorem C8 {ops:Array Oper}{o:Oper}{i:Nat}(hi:ops[i]? = some o){it:Item}(hc:Y8 P N ops o it=true){st:St}{K:St→Prop}(h:XY P it st K){G:Gh}{B:Nat}{a:Act}{w:World}(hr:Rel G B N st a w){KK:Act→World→Prop}{QQ:Exit→Act→World→Prop}
  (hk:∀G' st' a' w',K st'→Rel G' B N st' a' w'→Ext 1 G w G' w'→KK a' w'):wpOp P ops QQ i KK a w:=by
 have h1:Qu P N [it] st K:=FN (Yq (fun _ hs=>Qu.nil hs) h);have h2:=h1 ops [o] (by simp[X5,hc]) G B a w hr (fun e a w=>match e with
  |.normal=>KK a w
  |e=>QQ e a w) (fun G' st' a' w' h1 h2 h3=>hk G' st' a' w' h1 h2 h3)
 unfold wpOp;simp only[hi];unfold wpList at h2;split
 ·rename_i hw;rw[QWJ hw]at h2;rcases h2 with h2|h2
  ·left
   unfold Oper.wp at h2 ⊢;generalize (execOp a.eval o).run P w=r at h2 ⊢;cases r with
   |ok n w'=>
    cases n<;>simp only[Oper.upon]at h2 ⊢<;>first
     |exact h2
     |exact Calls.mono h2 (fun e w'' he=>by cases e<;>exact he)
   |halt x w'=>cases x<;>simp only[Oper.upon]at h2 ⊢<;>exact h2
  ·exact .inr h2
 ·rename_i hw;rw[QWu hw]at h2;exact h2

def KT:Item:=⟨none,.val (.mov (.c .top)),none⟩
def Yr (Qe:List Item)(l:List Nat):List Item:=l.map fun i=>Qe.getD i KT

theorem C9 {Qe:List Item}{i:Nat}{post:List Nat}{Q:St→Prop}:∀ {pre:List Nat} {st:St},(∀p,p∈pre→UH (Qe.getD p KT) (Qe.getD i KT)=true)→
  QE P (Yr Qe (pre++i :: post)) st Q→XY P (Qe.getD i KT) st fun s=>QE P (Yr Qe (pre++post)) s Q
 | [],_,_,h=>h
 |p :: pre,st,hp,h=>by
  have h':XY P (Qe.getD p KT) st fun s=>QE P (Yr Qe (pre++i :: post)) s Q:=h
  have h2:=Yq (fun s hs=>C9 (fun q hq=>hp q (QWw _ hq)) hs) h';exact VR (hp p (QWy ..)) h2

inductive Bef (ops:Array Oper):Nat→Nat→Prop
 |one {i:Nat} {o:Oper} {e:Edge} (ho:ops[i]? = some o) (he:e∈o.after) (hb:Region.binds .any e=true):Bef ops e.on i
 |more {i p:Nat} {o:Oper} {e:Edge} (ho:ops[i]? = some o) (he:e∈o.after) (hb:Region.binds .any e=true) (h:Bef ops p e.on):Bef ops p i

def VS (acc:List Nat)(m:Nat)(e:Edge):Nat:=if Region.binds .any e then(m ||| 2 ^ e.on) ||| acc.getD e.on 0 else m
def Ma (acc:List Nat)(o:Oper):Nat:=o.after.toList.foldl (VS acc) 0
def VT:List Oper→List Nat→List Nat
 | [],acc=>acc
 |o :: os,acc=>VT os (acc++[Ma acc o])

theorem Ga {acc:List Nat}{p:Nat}:∀(l:List Edge) (m:Nat),(l.foldl (VS acc) m).testBit p=true→m.testBit p=true∨∃e∈l,Region.binds .any e=true∧(p=e.on∨(acc.getD e.on 0).testBit p=true)
 | [],m,h=>.inl h
 |e :: l,m,h=>by
  rw[List.foldl_cons]at h;rcases Ga l _ h with h1|⟨e',h1,h2,h3⟩
  ·unfold VS at h1;split at h1
   ·rename_i hb;rw[Nat.testBit_or,Nat.testBit_or,QWk,QWk]at h1;rcases h1 with(h1|h1)|h1
    ·exact .inl h1
    ·rw[Nat.testBit_two_pow]at h1;exact .inr ⟨e,QWy ..,hb,.inl (of_decide_eq_true h1).symm⟩
    ·exact .inr ⟨e,QWy ..,hb,.inr h1⟩
   ·exact .inl h1
  ·exact .inr ⟨e',QWw _ h1,h2,h3⟩

theorem FZ {ops:Array Oper}:∀(l:List Oper) (acc:List Nat),ops.toList=ops.toList.take acc.length++l→acc.length+l.length=ops.size→(∀i p,(acc.getD i 0).testBit p=true→Bef ops p i)→∀i p,((VT l acc).getD i 0).testBit p=true→Bef ops p i
 | [],acc,_,_,h=>h
 |o :: l,acc,e,hn,h=>by
  have hlen:acc.length<ops.toList.length:=by simp at hn ⊢;omega
  have hat:ops[acc.length]? = some o:=by
   rw[←QWH,e,QXH (by simp;omega)];simp;have:acc.length-min acc.length ops.size=0:=by simp at hlen;omega
   rw[this];rfl
  refine FZ l (acc++[Ma acc o]) ?_ (by simp at hn ⊢;omega) fun i p hb=>?_
  ·rw[QWS,QXN,QWA hlen,QWB];have:ops.toList[acc.length]=o:=by
    have:=QWh hlen;rw[QWH,hat]at this;cases this;rfl
   rw[this];exact e
  ·rw[List.getD_eq_getElem?_getD]at hb;by_cases hi:i<acc.length
   ·rw[QXG hi,←List.getD_eq_getElem?_getD]at hb;exact h i p hb
   ·by_cases hi2:i=acc.length
    ·subst hi2;rw[QXH (QWe _)]at hb;simp only[Nat.sub_self,QXi,QXr]at hb;rcases Ga _ _ hb with h1|⟨e',h1,h2,h3⟩
     ·simp at h1
     ·rcases h3 with rfl|h3
      ·exact .one hat (by simpa using h1) h2
      ·exact .more hat (by simpa using h1) h2 (h _ _ h3)
    ·rw[QXF (by simp;omega)]at hb;simp at hb

def Dk (ops:Array Oper)(Qe:List Item):Bool :=
 (List.range ops.size).all fun i=>match ops[i]? with
  |some o=>o.after.all (fun e=>!Region.binds .any e||decide (e.on<i))&&(List.range i).all fun p=>((VT ops.toList []).getD i 0).testBit p||UH (Qe.getD p KT) (Qe.getD i KT)
  |none=>true

theorem Bef.listed {ops:Array Oper}{L:Nat→Prop}(hcl:∀q,L q→∀o e,ops[q]? = some o→e∈o.after→Region.binds .any e=true→L e.on){p i:Nat}(h:Bef ops p i)(hi:∀o e,ops[i]? = some o→e∈o.after→Region.binds .any e=true→L e.on):L p:=by
 induction h with
 |one ho he hb=>exact hi _ _ ho he hb
 |more ho he hb _ ih=>exact ih (hcl _ (hi _ _ ho he hb))

def KL (n:Nat)(listed:Array Bool):List Nat:=(List.range n).filter fun i=>!listed.getD i true

theorem Hs {ops:Array Oper}:∀ {l:List Oper} {Qe:List Item},X5 P N ops l Qe=true→l.length=Qe.length∧∀(i:Nat) (o:Oper),l[i]? = some o→Y8 P N ops o (Qe.getD i KT)=true
 | [],Qe,h=>by
  cases Qe with
  |nil=>exact⟨rfl,by simp⟩
  |cons it Qe=>simp[X5]at h
 |o :: l,Qe,h=>by
  cases Qe with
  |nil=>simp[X5]at h
  |cons it Qe=>
   simp only[X5,QWE]at h;obtain⟨e,h2⟩:=Hs h.2;refine⟨by simp[e],fun i o' ho=>?_⟩;cases i with
   |zero=>simp at ho;subst ho;exact h.1
   |succ i=>simpa using h2 i o' (by simpa using ho)

theorem Rw {ops:Array Oper}{Qe:List Item}(hc:X5 P N ops ops.toList Qe=true)(hd:Dk ops Qe=true){B:Nat}{Q:St→Prop}{QQ:Exit→Act→World→Prop} :
  ∀(fuel:Nat) (listed:Array Bool),listed.size=ops.size→(∀q,listed.getD q false=true→∀o e,ops[q]? = some o→e∈o.after→Region.binds .any e=true→listed.getD e.on false=true)→(KL ops.size listed).length≤fuel→∀(st:St) (G:Gh) (a:Act) (w:World),QE P (Yr Qe (KL ops.size listed)) st Q→Rel G B N st a w→
   (∀G' st' a' w',Q st'→Rel G' B N st' a' w'→Ext 1 G w G' w'→QQ .normal a' w')→wpAny P .any ops QQ fuel listed a w:=by
 obtain⟨hlen,hcs⟩:=Hs hc;have hready:∀(listed:Array Bool) i,i∈Region.ready .any ops listed→i∈KL ops.size listed:=by
  intro listed i hi;obtain⟨h0,o,ho,_⟩:=mem_ready.1 hi;exact List.mem_filter.2 ⟨QXO.2 (QWn.1 ho).1,by simp[h0]⟩
 have hat:∀i,i<ops.size→∃o,ops[i]? = some o∧(∀e∈o.after,Region.binds .any e=true→e.on<i)∧∀p,p<i→Bef ops p i∨UH (Qe.getD p KT) (Qe.getD i KT)=true:=by
  intro i hi;refine⟨ops[i],QWx hi,?_⟩;have h1:=QWs.1 hd i (QXO.2 hi);rw[QWx hi]at h1;simp only[QWE]at h1;refine⟨fun e he hb=>?_,fun p hp=>?_⟩
  ·have h2:=Array.all_eq_true_iff_forall_mem.1 h1.1 e he
   simpa [hb]using h2
  ·have h2:=QWs.1 h1.2 p (QXO.2 hp);rw[QWk]at h2;rcases h2 with h2|h2
   ·exact .inl (FZ ops.toList [] (by simp) (by simp) (fun i p hb=>by simp at hb) i p h2)
   ·exact .inr h2
 -- the first that is left is ready
 have hfirst:∀(listed:Array Bool),listed.size=ops.size→Region.ready .any ops listed=[]→KL ops.size listed=[]:=by
  intro listed hsz hr;cases hu:KL ops.size listed with
  |nil=>rfl
  |cons i rest=>
   exfalso;have hpw:(KL ops.size listed).Pairwise (· < ·):=List.Pairwise.filter _ List.pairwise_lt_range;have hi:i∈KL ops.size listed:=by rw[hu];exact QWy ..
   obtain⟨hi1,hi2⟩:=List.mem_filter.1 hi;obtain⟨o,ho,h1,_⟩:=hat i (QXO.1 hi1);have:i∈Region.ready .any ops listed:=by
    refine mem_ready.2 ⟨by simpa using hi2,o,ho,fun e he hb=>?_⟩;have hlt:=h1 e he hb;cases hg:listed.getD e.on false with
    |true=>rfl
    |false=>
     have hin:e.on∈KL ops.size listed:=by
      refine List.mem_filter.2 ⟨QXO.2 (Nat.lt_trans hlt (QXO.1 hi1)),?_⟩;have hlt':e.on<listed.size:=by rw[hsz];exact Nat.lt_trans hlt (QXO.1 hi1)
      simp[QWx hlt']at hg ⊢;exact hg
     rw[hu]at hin hpw;rcases QXD.1 hin with e'|e'
     ·omega
     ·have:=(QXP.1 hpw).1 _ e';omega
   rw[hr]at this;cases this
 intro fuel
 induction fuel with
 |zero=>
  intro listed hsz hcl hl st G a w h hr hq;have hu:KL ops.size listed=[]:=QXl (by omega);refine⟨?_,?_⟩
  ·cases hx:Region.ready .any ops listed with
   |nil=>rfl
   |cons i r=>
    have:=hready listed i (by rw[hx];exact QWy ..);rw[hu]at this;cases this
  ·rw[hu]at h;exact hq G st a w h hr (Ext.refl 1 G w)
 |succ fuel ih=>
  intro listed hsz hcl hl st G a w h hr hq;refine⟨fun hx=>?_,fun i hi=>?_⟩
  ·rw[hfirst listed hsz hx]at h;exact hq G st a w h hr (Ext.refl 1 G w)
  ·have hiu:=hready listed i hi;obtain⟨pre,post,hsplit⟩:=List.append_of_mem hiu;have hpw:(KL ops.size listed).Pairwise (· < ·):=List.Pairwise.filter _ List.pairwise_lt_range;rw[hsplit]at h hpw;obtain⟨_,hp2,hp3⟩:=List.pairwise_append.1 hpw;obtain⟨hi1,hi2⟩:=List.mem_filter.1 hiu;obtain⟨o,ho,h1,h2⟩:=hat i (QXO.1 hi1);obtain⟨_,o',ho',h3⟩:=mem_ready.1 hi;rw[ho]at ho';cases ho';have hind:∀p,p∈pre→UH (Qe.getD p KT) (Qe.getD i KT)=true:=by
    intro p hp;rcases h2 p (hp3 p hp i (QWy ..))with hbef|h
    ·exfalso;have hl1:=hbef.listed (L:=fun q=>listed.getD q false=true) hcl (fun o2 e ho2 he hb=>by rw[ho]at ho2;cases ho2;exact h3 e he hb);have hpu:p∈KL ops.size listed:=by rw[hsplit];exact List.mem_append_left _ hp
     obtain⟨hr1,hr2⟩:=List.mem_filter.1 hpu;have hlt':p<listed.size:=by rw[hsz];exact QXO.1 hr1
     simp[QWx hlt']at hl1 hr2;rw[hl1]at hr2;cases hr2
    ·exact h
   have hb:=C9 (P:=P) hind h;have hnext:KL ops.size (listed.setIfInBounds i true)=pre++post:=by
    have e1:KL ops.size (listed.setIfInBounds i true)=(KL ops.size listed).filter fun j=>j != i:=by
     unfold KL;rw[List.filter_filter];refine List.filter_congr fun j hj=>?_
     by_cases hji:j=i
     ·subst hji;have hlt':j<listed.size:=by rw[hsz];exact QXO.1 hj
      simp[hlt']
     ·rw[getD_set_ne true (fun e=>hji e.symm)];simp[hji]
    rw[e1,hsplit,List.filter_append,List.filter_cons];have e2:pre.filter (fun j=>j != i)=pre:=List.filter_eq_self.2 fun j hj=>by
     have:=hp3 j hj i (QWy ..);simp;omega
    have e3:post.filter (fun j=>j != i)=post:=List.filter_eq_self.2 fun j hj=>by
     have:=(QXP.1 hp2).1 j hj;simp;omega
    rw[e2,e3];simp
   have hset:∀q,listed.getD q false=true→(listed.setIfInBounds i true).getD q false=true:=fun q hq'=>by
    by_cases hqi:q=i
    ·subst hqi;have hlt':q<listed.size:=by rw[hsz];exact QXO.1 hi1
     simp[hlt']
    ·rw[getD_set_ne false (fun e=>hqi e.symm)];exact hq'
   have hcl':∀q,(listed.setIfInBounds i true).getD q false=true→∀o e,ops[q]? = some o→e∈o.after→Region.binds .any e=true→(listed.setIfInBounds i true).getD e.on false=true:=fun q hq' o2 e ho2 he2 hb2=>by
    by_cases hqi:q=i
    ·subst hqi;rw[ho]at ho2;cases ho2;exact hset _ (h3 e he2 hb2)
    ·rw[getD_set_ne false (fun e=>hqi e.symm)]at hq';exact hset _ (hcl q hq' o2 e ho2 he2 hb2)
   refine C8 ho (hcs i o (by simpa using ho)) hb hr fun G' st' a' w' hk hr' he=>?_
   refine ih (listed.setIfInBounds i true) (by simpa using hsz) hcl' ?_ st' G' a' w' (by rw[hnext];exact hk) hr' fun G2 st2 a2 w2 hq2 hr2 he2=>hq G2 st2 a2 w2 hq2 hr2 (he.trans he2)
   rw[hnext];rw[hsplit]at hl;simp only[QWS,QWv]at hl ⊢;omega

theorem Mb {Qe:List Item}:Yr Qe (List.range Qe.length)=Qe:=by
 apply List.ext_getElem
 ·simp[Yr]
 ·intro i h1 h2;simp[Yr,h2]

theorem AW {ops:Array Oper}{Qe:List Item}(hm:P.follows .mixedOrders=true)(hc:X5 P N ops ops.toList Qe=true)(hd:Dk ops Qe=true){st:St}{Q:St→Prop}(h:QE P Qe st Q){G:Gh}{B:Nat}{a:Act}{w:World}(hr:Rel G B N st a w){QQ:Exit→Act→World→Prop}{id:Nat}
  (hq:∀G' st' a' w',Q st'→Rel G' B N st' a' w'→Ext 1 G w G' w'→QQ .normal a' w'):(Code.region id ops true).wp P QQ a w:=by
 refine wp_region_any hm ?_;have hlen:=(Hs hc).1;simp only[QWK]at hlen;have hu:KL ops.size (Array.replicate ops.size false)=List.range Qe.length:=by
  unfold KL;rw[hlen];refine List.filter_eq_self.2 fun i hi=>?_
  simp[QXO.1 hi]
 refine Rw hc hd ops.size (Array.replicate ops.size false) (by simp) (fun q hq'=>by rw[QWp]at hq';simp[Array.getElem?_replicate]at hq';split at hq'<;>cases hq') (by rw[hu];simp[hlen]) st G a _ (by rw[hu,Mb];exact h) hr.drew fun G' st' a' w' h1 h2 h3=>hq G' st' a' w' h1 h2 ((Ext.drew G w).trans h3)

end

def X7 (P:Program)(N:Nat):RC→Code→Bool
 |.gho _ r,c=>X7 P N r c
 |.no,_=>true
 |.skip,c=>match c with
  |.skip=>true
  |_=>false
 |.reg Qe,c=>match c with
  |.region _ ops false=>X5 P N ops ops.toList Qe
  |_=>false
 |.draw Qe,c=>match c with
  |.region _ ops true=>P.follows .mixedOrders&&X5 P N ops ops.toList Qe&&Dk ops Qe
  |_=>false
 |.seq a b,c=>match c with
  |.seq x y=>X7 P N a x&&X7 P N b y
  |_=>false
 |.cond r a b,c=>match c with
  |.cond o x y=>QJ o r&&X7 P N a x&&X7 P N b y
  |_=>false
 |.block i a,c=>match c with
  |.block j x=>i==j&&X7 P N a x
  |_=>false
 |.loop a,c=>match c with
  |.loop x=>X7 P N a x
  |_=>false
 |.exit i,c=>match c with
  |.exit j=>i==j
  |_=>false
 |.scope a,c=>match c with
  |.scope x=>X7 P N a x
  |_=>false
 |.lab,c=>match c with
  |.label _=>true
  |_=>false
 |.ret,c=>match c with
  |.ret=>true
  |_=>false

section
variable {P:Program}{N B:Nat}

theorem Mc:∀ {rc:RC} {c:Code} {st:St} {Q:Exit→St→Prop},QG P rc st Q→X7 P N rc c=true→∀ {G:Gh} {a:Act} {w:World},Rel G B N st a w→∀ {QQ:Exit→Act→World→Prop},
  (∀e G' st' a' w',Q e st'→Rel G' B N st' a' w'→Ext 1 G w G' w'→QQ e a' w')→c.wp P QQ a w:=by
 intro rc
 induction rc with
 |skip=>
  intro c st Q h hc G a w hr QQ hq;cases c<;>simp only[X7,QWz]at hc;exact wp_skip (hq _ _ _ _ _ h hr (Ext.refl 1 G w))
 |reg Qe=>
  intro c st Q h hc G a w hr QQ hq;cases c<;>simp only[X7,QWz]at hc;rename_i id ops d;cases d<;>simp only[QWz]at hc;refine wp_region_list ?_;exact NP (N:=N) h ops ops.toList hc G B a w hr QQ fun G' st' a' w' h1 h2 h3=>hq _ _ _ _ _ h1 h2 h3
 |draw Qe=>
  intro c st Q h hc G a w hr QQ hq;cases c<;>simp only[X7,QWz]at hc;rename_i id ops d;cases d<;>simp only[QWz,QWE]at hc;exact AW hc.1.1 hc.1.2 hc.2 h hr fun G' st' a' w' h1 h2 h3=>hq _ _ _ _ _ h1 h2 h3
 |seq x y ihx ihy=>
  intro c st Q h hc G a w hr QQ hq;cases c<;>simp only[X7,QWz,QWE]at hc;refine wp_seq (ihx h hc.1 hr fun e G' st' a' w' h1 h2 h3=>?_);cases e with
  |normal=>exact ihy h1 hc.2 h2 fun e G2 st2 a2 w2 k1 k2 k3=>hq _ _ _ _ _ k1 k2 (h3.trans k3)
  |_=>exact hq _ _ _ _ _ h1 h2 h3
 |cond r x y ihx ihy=>
  intro c st Q h hc G a w hr QQ hq;cases c<;>simp only[X7,QWz,QWE]at hc;rename_i o cx cy;obtain⟨t,ht,h1,h2⟩:=h;have hv:=Qs hr hc.1.1;rw[ht]at hv;have hv':a.eval o=.bool t:=by
   generalize a.eval o=v at hv;cases hv;rfl
  refine wp_cond_split hv' (fun e=>?_) (fun e=>?_)
  ·exact ihx (h1 e) hc.1.2 hr hq
  ·exact ihy (h2 e) hc.2 hr hq
 |block i x ih=>
  intro c st Q h hc G a w hr QQ hq;cases c<;>simp only[X7,QWz,QWE,QWm]at hc;obtain⟨rfl,hc⟩:=hc;refine wp_block (ih h hc hr fun e G' st' a' w' h1 h2 h3=>?_);cases e with
  |exit j=>
   simp only[Exit.inBlock];simp only[Kb]at h1;split
   ·rename_i hh;rw[QWJ hh]at h1;exact hq _ _ _ _ _ h1 h2 h3
   ·rename_i hh;rw[QWu hh]at h1;exact hq _ _ _ _ _ h1 h2 h3
  |_=>exact hq _ _ _ _ _ h1 h2 h3
 |loop x ih=>
  intro c st Q h hc G a w hr QQ hq;cases c<;>simp only[X7,QWz]at hc;obtain⟨I,n,h0,hI⟩:=h;refine wp_loop_ghost (fun k a' w'=>∃G' st',I k st'∧Rel G' B N st' a' w'∧Ext 1 G w G' w') n ⟨G,st,h0,hr,Ext.refl 1 G w⟩ ?_;rintro k a' w' ⟨G',st',i1,i2,i3⟩;refine ih (hI k st' i1) hc i2 fun e G2 st2 a2 w2 h1 h2 h3=>?_
  cases e with
  |normal=>
   obtain⟨k',hk,hi⟩:=h1;exact⟨k',hk,G2,st2,hi,h2,i3.trans h3⟩
  |_=>exact hq _ _ _ _ _ h1 h2 (i3.trans h3)
 |exit i=>
  intro c st Q h hc G a w hr QQ hq;cases c<;>simp only[X7,QWz,QWm]at hc;subst hc;exact wp_exit (hq _ _ _ _ _ h hr (Ext.refl 1 G w))
 |scope x ih=>
  intro c st Q h hc G a w hr QQ hq;cases c<;>simp only[X7,QWz]at hc;refine wp_scope_straight (ih h hc hr fun e G' st' a' w' h1 h2 h3=>?_);cases e with
  |goto l=>exact h1.elim
  |_=>exact hq _ _ _ _ _ h1 h2 h3
 |lab=>
  intro c st Q h hc G a w hr QQ hq;cases c<;>simp only[X7,QWz]at hc;exact wp_label (hq _ _ _ _ _ h hr (Ext.refl 1 G w))
 |ret=>
  intro c st Q h hc G a w hr QQ hq;cases c<;>simp only[X7,QWz]at hc;exact wp_ret (hq _ _ _ _ _ h hr (Ext.refl 1 G w))
 |gho g x ih=>
  intro c st Q h hc G a w hr QQ hq;obtain⟨st',hg,h⟩:=h;obtain⟨G',h1,h2⟩:=Rs hr hg;exact ih h hc h1 fun e G2 st2 a2 w2 k1 k2 k3=>hq _ _ _ _ _ k1 k2 (h2.trans k3)
 |no=>
  intro c st Q h;exact h.elim

theorem MR.out {G:Gh}{fr:Nat→Ob}{m:Qn}{w:World}(h:MR G (fr :: m) w){S:Nat→Prop}(hS:∀b,S b→(∃s,G.vm 0 s=some b)∨∃s,G.nm 0 s=some b):MR ((G.pub w S).dn 1) m w:=by
 have hnS:∀l s b,G.nm (l+1) s=some b→¬S b:=fun l s b e hs=>by
  rcases hS b hs with⟨s',e'⟩|⟨s',e'⟩
  ·exact h.inj3 _ _ _ _ _ e e'
  ·have:=(h.inj1 _ _ _ _ _ e e').1;omega
 have hvS:∀l s b,G.vm (l+1) s=some b→¬S b:=fun l s b e hs=>by
  rcases hS b hs with⟨s',e'⟩|⟨s',e'⟩
  ·have:=(h.inj2 _ _ _ _ _ e e').1;omega
  ·exact h.inj3 _ _ _ _ _ e' e
 have hgle:Gle G (G.pub w S):=Gh.pub_gle h.stab;refine⟨fun b o v e=>?_,fun l s xs e=>?_,fun l s b e=>?_,fun l s g sz xs e=>?_,fun l s b e=>?_,fun l s e=>?_,fun l s l' s' b e e'=>?_,fun l s l' s' b e e'=>?_,fun l s l' s' b e e'=>?_,fun l s t p e=>h.iter (l+1) s t p e⟩
 ·have e:(G.pub w S).stab b o=some v:=e;by_cases hs:S b
  ·rw[Gh.pub_in hs]at e;exact Fw e
  ·rw[Gh.pub_out hs]at e;exact h.stab b o v e
 ·obtain⟨b,cs,e',hc,hr⟩:=h.cells (l+1) s xs e;refine⟨b,cs,e',hc,?_⟩;rw[Gh.dn_dn];exact hr.mono (hgle.dn (l+1))
 ·obtain⟨h1,h2⟩:=h.nm (l+1) s b e;refine⟨h1,fun o=>?_⟩;show(G.pub w S).stab b o=none;rw[Gh.pub_out (hnS _ _ _ e)];exact h2 o
 ·obtain⟨a1,a2,a3,a4⟩:=h.vec (l+1) s g sz xs e;exact⟨a1,a2,a3,a4.imp id fun⟨b,e',r⟩=>⟨b,e',r.of rfl fun vs hv=>RepL.rfd (G:=G) (G':=(G.pub w S).dn 1) hgle.stab a3.rf hv⟩⟩
 ·obtain⟨h1,h2⟩:=h.vm (l+1) s b e;refine⟨h1,fun o=>?_⟩;show(G.pub w S).stab b o=none;rw[Gh.pub_out (hvS _ _ _ e)];exact h2 o
 ·exact h.gone (l+1) s e
 ·obtain⟨h1,h2⟩:=h.inj1 _ _ _ _ _ e e';exact⟨by omega,h2⟩
 ·obtain⟨h1,h2⟩:=h.inj2 _ _ _ _ _ e e';exact⟨by omega,h2⟩
 ·exact h.inj3 _ _ _ _ _ e e'

def Zo (rs:List RR)(n:Nat)(R:AV→Qn→Prop):Exit→St→Prop:=fun e st=>
 (e=.normal∨e=.ret)∧st.ds=[]∧∃x y fr m,Kr st rs=some x∧K2 st.m x=some y∧st.m=fr :: m∧m.length=n∧R y m

theorem NE {G:Gh}{args:List AV}{vs:List Value}(h:RepL G args vs){N:Nat}(i:Nat):Rep G.up (FI (AV.shL args) i) (((vs.toArray++Array.replicate (N-vs.toArray.size) undef):Array Value).getD i undef):=by
 have h':RepL G.up (AV.shL args) vs:=RepL.sh (G:=G.up) (by rw[Gh.up_dn];exact h);have hl:=h'.length;unfold FI;by_cases hi:i<vs.length
 ·obtain⟨x,e,hx⟩:=h'.back (QWh hi);rw[e];simp only[QXr,QWp];rw[Array.getElem?_append_left (by simpa using hi)]
  simpa [hi]using hx
 ·rw[QXF (by omega)];simp only[QXQ,QWp];rw[Array.getElem?_append_right (by simpa using hi)];cases hx:(Array.replicate (N-vs.toArray.size) undef)[i-vs.toArray.size]? with
  |none=>exact .tup .nil
  |some v=>
   have:=QWn.1 hx;obtain⟨_,h2⟩:=this;simp at h2;subst h2;exact .tup .nil

theorem DQ {fn:Func}{args:List AV}{m:Qn}{G:Gh}{w:World}{vs:List Value}(hvs:RepL G args vs)(hm:MR G m w)(hN:fn.ntmps=N)(ha:args.length≤N) :
  Rel G.up w.heap.size N (St.enter args m) { tmps:=vs.toArray++Array.replicate (fn.ntmps-vs.toArray.size) undef,defers:=[] } w:=by
 have hlen:=hvs.length;refine⟨hm.up,?_,fun i=>NE hvs i,.nil,fun s b e=>?_,QWe _,by simp[St.enter]⟩
 ·simp;omega
 ·rcases e with e|e<;>cases e

theorem NQ {fn:Func}{rs:List RR}{G G':Gh}{m m':Qn}{w w':World}{st':St}{a':Act}{fr:Nat→Ob}{x y:AV}{R:AV→Qn→Prop}(hr:Jw P fn.results.toList rs=true)(hr':Rel G' w.heap.size N st' a' w')(he:Ext 1 G.up w G' w')
  (hx:Kr st' rs=some x) (hy:K2 st'.m x=some y) (hst:st'.m=fr :: m') (hml:m'.length=m.length) (hR:R y m') :
  ∃v,(results fn a'.tmps).run P w'=.ok v w'∧(∃G'' x v' m'',(Ending.returned v)=.returned v'∧R x m''∧Rep G'' x v'∧MR G'' m'' w'∧Ext 0 G w G'' w'∧m''.length=m.length):=by
 obtain⟨v,hrun,hv⟩:=AR (P:=P) hr' hr hx
 let S:Nat→Prop:=fun b=>(∃s,G'.vm 0 s=some b)∨∃s,G'.nm 0 s=some b
 have hmr:=hr'.mr;have hSt:∀l s b,(true&&l != 0)=false→G'.vm l s=some b→S b:=by
  intro l s b hl e;have:l=0:=by simpa using hl
  subst this;exact .inl ⟨s,e⟩
 unfold K2 at hy;rw[Option.bind_eq_some_iff]at hy;obtain⟨z,hz,hy⟩:=hy;have hv2:=Rep.un (Hq hmr (own:=true) (S:=S) hSt (fun _ s b _ _ _ e _=>.inr ⟨s,e⟩) hv z hz) y hy;rw[hst]at hmr;have hout:=hmr.out (S:=S) (fun b hs=>hs);have hmine:∀b,((G'.pub w' S).dn 1).mine b→G'.mine b:=by
  rintro b (⟨l,s,e⟩|⟨l,s,e⟩)
  ·exact .inl ⟨l+1,s,e⟩
  ·exact .inr ⟨l+1,s,e⟩
 have hext:Ext 0 G w ((G'.pub w' S).dn 1) w':=by
  refine⟨he.os,he.tape,he.output,he.size,fun b o v e=>?_,fun l s _=>he.nm (l+1) s (by omega),fun l s=>he.vg (l+1) s,fun l s e=>he.vs (l+1) s e,fun b hb hnm=>?_,fun b hb=>?_,fun l s b e=>?_⟩
  ·exact(Gh.pub_gle (S:=S) hr'.mr.stab).stab b o v (he.stab b o v e)
  ·obtain⟨h1,h2⟩:=he.old b hb (fun hx=>hnm (Gh.up_mine.1 hx));refine⟨h1,fun o=>?_⟩;have hnS:¬S b:=by
    rintro(⟨s,e⟩|⟨s,e⟩)
    ·have:=hr'.base s b (.inr e);omega
    ·have:=hr'.base s b (.inl e);omega
   show(G'.pub w' S).stab b o=G.stab b o;rw[Gh.pub_out hnS];exact h2 o
  ·rcases he.mine b (hmine b hb)with h1|h1
   ·exact .inl (Gh.up_mine.1 h1)
   ·exact .inr h1
  ·rcases he.mv (l+1) s b e with⟨i,t,hi,h1⟩|h1
   ·cases i with
    |zero=>cases h1
    |succ i=>exact .inl ⟨i,t,by omega,h1⟩
   ·exact .inr h1
 exact⟨v,hrun,_,y,v,m',rfl,hR,hv2,hout,hext,hml⟩

theorem YY {k:FuncId} {fn:Func} {c:Code} {rc:RC} {rs:List RR} {args:List AV} {m:Qn} {R:AV→Qn→Prop} (hf:P.funcs[k]? = some fn) (hb:fn.body=some c) (hn:(fn.name == "runtime.NumGoroutine")=false) (hN:fn.ntmps=N) (hc:X7 P N rc c=true) (hr:Jw P fn.results.toList rs=true)
  (ha:args.length≤N) (h:QG P rc (St.enter args m) (Zo rs m.length R)):Qh P k args m R:=by
 refine⟨⟨fn,hf,hn,by rw[hb];rfl⟩,fun G w vs hvs hm=>?_⟩;refine calls_of_wp hf hb ?_;refine Mc h hc (DQ hvs hm hN ha) fun e G' st' a' w' hq hr' he=>?_
 obtain⟨hex,hds,x,y,fr,m',hx,hy,hst,hml,hR⟩:=hq;have hdef:a'.defers=[]:=by
  have:=hr'.ds;rw[hds]at this;cases hd:a'.defers with
  |nil=>rfl
  |cons d l=>rw[hd]at this;cases this
 have hfin:=NQ (R:=R) hr hr' he hx hy hst hml hR;rcases hex with rfl|rfl
 ·exact⟨hdef,hfin⟩
 ·exact⟨hdef,hfin⟩

def W8 (P:Program)(k:FuncId)(args:List AV)(m:Qn)(R:AV→Qn→Prop):Prop :=
 Yp P k∧∀(G:Gh) (w:World) (vs:List Value),RepL G args vs→MR G m w→∀u,CallsD P k ⟨vs⟩ u w fun e u' w'=>u'=u∧∃G' x v m',e=.returned v∧R x m'∧Rep G' x v∧MR G' m' w'∧Ext 0 G w G' w'∧m'.length=m.length

theorem Dl {k:FuncId} {fn:Func} {c:Code} {rc:RC} {rs:List RR} {args:List AV} {m:Qn} {R:AV→Qn→Prop} (hf:P.funcs[k]? = some fn) (hb:fn.body=some c) (hn:(fn.name == "runtime.NumGoroutine")=false) (hN:fn.ntmps=N) (hc:X7 P N rc c=true) (hr:Jw P fn.results.toList rs=true)
  (ha:args.length≤N) (h:QG P rc (St.enter args m) (Zo rs m.length R)):W8 P k args m R:=by
 refine⟨⟨fn,hf,hn,by rw[hb];rfl⟩,fun G w vs hvs hm u=>?_⟩;refine callsD_of_wp (R:=fun e w'=>∃G' x v m',e=.returned v∧R x m'∧Rep G' x v∧MR G' m' w'∧Ext 0 G w G' w'∧m'.length=m.length) hf hb ?_;refine Mc h hc (DQ hvs hm hN ha) fun e G' st' a' w' hq hr' he=>?_
 obtain⟨hex,hds,x,y,fr,m',hx,hy,hst,hml,hR⟩:=hq;have hdef:a'.defers=[]:=by
  have:=hr'.ds;rw[hds]at this;cases hd:a'.defers with
  |nil=>rfl
  |cons d l=>rw[hd]at this;cases this
 have hfin:=NQ (R:=R) hr hr' he hx hy hst hml hR;rcases hex with rfl|rfl
 ·exact⟨hdef,hfin⟩
 ·exact⟨hdef,hfin⟩

end

def CK (P:Program)(k N:Nat)(rc:RC)(rs:List RR):Prop :=
 ∃fn c, P.funcs[k]? = some fn∧fn.body=some c∧(fn.name == "runtime.NumGoroutine")=false∧fn.ntmps=N∧X7 P N rc c=true∧Jw P fn.results.toList rs=true
theorem CK.go {P:Program}{k N:Nat}{rc:RC}{rs:List RR}{args:List AV}{m:Qn}{R:AV→Qn→Prop}(h:CK P k N rc rs)(ha:args.length≤N)(w:QG P rc (St.enter args m) (Zo rs m.length R)):Qh P k args m R:=by
 obtain⟨fn,c,h1,h2,h3,h4,h5,h6⟩:=h;exact YY h1 h2 h3 h4 h5 h6 ha w
theorem ck {P:Program} {k N:Nat} {fn:Func} {rc:RC} {rs:List RR} (hf:P.funcs[k]? = some fn) (hN:fn.ntmps=N) (h:(fn.body.isSome && !(fn.name == "runtime.NumGoroutine")&&X7 P N rc (fn.body.getD .skip)&&Jw P fn.results.toList rs)=true):CK P k N rc rs := by
 simp only[QWE,QXe,Option.isSome_iff_exists]at h;obtain⟨⟨⟨⟨c,hc⟩,h1⟩,h2⟩,h3⟩:=h;rw[hc]at h2;exact⟨fn,c,hf,hc,h1,hN,h2,h3⟩
theorem CK.dd {P:Program}{k N:Nat}{rc:RC}{rs:List RR}{args:List AV}{m:Qn}{R:AV→Qn→Prop}(h:CK P k N rc rs)(ha:args.length≤N)(w:QG P rc (St.enter args m) (Zo rs m.length R)):W8 P k args m R:=by
 obtain⟨fn,c,h1,h2,h3,h4,h5,h6⟩:=h;exact Dl h1 h2 h3 h4 h5 h6 ha w
theorem CK.rl {P:Program}{k N:Nat}{rc:RC}{rs:List RR}{args:List AV}{R:AV→Prop}(h:CK P k N rc rs)(ha:args.length≤N)(w:QG P rc (St.enter args []) (Zo rs 0 fun x _=>R x)):WG P k args R:=h.go ha w
theorem CK.fn {P:Program}{k N:Nat}{rc:RC}{rs:List RR}{args:List AV}{v:AV}(h:CK P k N rc rs)(ha:args.length≤N)(w:QG P rc (St.enter args []) (Zo rs 0 fun x _=>x=v)):Qi P k args v:=h.go ha w

section
variable {P:Program}{f:Fr}{m:Qn}{ds:List DF}{K:St→Prop}{Q:Exit→St→Prop}{Qe:List Item}{d:Nat}

def Kc (P:Program)(b:RC)(Q:Exit→St→Prop):Exit→St→Prop:=Ks (fun st'=>QG P b st' Q) Q
def Kl (I:Nat→St→Prop)(n:Nat)(Q:Exit→St→Prop):Exit→St→Prop:=Ks (fun s=>∃k,k<n∧I k s) Q

theorem W9 {st:St}:QG P .skip st Q=Q .normal st:=id rfl
theorem QK4 {st:St}:QG P .no st Q=False:=id rfl
theorem SG {st:St}:QG P .lab st Q=Q .normal st:=id rfl
theorem SH {st:St}:QG P .ret st Q=Q .ret st:=id rfl
theorem Md {st:St}{i:Nat}:QG P (.exit i) st Q=Q (.exit i) st:=id rfl
theorem Ys {st:St}:QG P (.reg Qe) st Q=QE P Qe st (Q .normal):=id rfl
theorem Me {st:St}:QG P (.draw Qe) st Q=QE P Qe st (Q .normal):=id rfl
theorem Yt {st:St}{a b:RC}:QG P (.seq a b) st Q=QG P a st (Kc P b Q):=id rfl
theorem NR {st:St}{i:Nat}{a:RC}:QG P (.block i a) st Q=QG P a st (Kb i Q):=id rfl
theorem NS {st:St}{a:RC}:QG P (.scope a) st Q=QG P a st (Kg Q):=id rfl
def Dm:AV→Bool
 |.bool b=>b
 |_=>false
def Mf:AV→Prop
 |.bool _=>True
 |_=>False
theorem Mg (b:Bool):Dm (.bool b)=b:=id rfl
theorem SI (b:Bool):Mf (.bool b)=True:=id rfl
def Ht (P:Program)(v:AV)(a b:RC)(st:St)(Q:Exit→St→Prop):Prop:=Mf v∧(Dm v=true→QG P a st Q)∧(Dm v=false→QG P b st Q)
theorem Yu {a b:RC}{st:St}:Ht P (.bool true) a b st Q=QG P a st Q:=by simp[Ht,Mf,Dm]
theorem Kv {a b:RC}{st:St}:Ht P (.bool false) a b st Q=QG P b st Q:=by simp[Ht,Mf,Dm]
theorem QP {t:Bool}{a b:RC}{st:St}(h1:t=true→QG P a st Q)(h2:t=false→QG P b st Q):Ht P (.bool t) a b st Q:=⟨trivial,h1,h2⟩
theorem KM {c:RA}{a b:RC}:QG P (.cond c a b) ⟨f,m,ds⟩ Q=Ht P (c.ev f) a b ⟨f,m,ds⟩ Q:=by
 simp only[QG,Ht];generalize c.ev f=v;cases v<;>simp[Dm,Mf]

theorem ZG {b:RC}{st:St}:Kc P b Q .normal st=QG P b st Q:=id rfl
theorem Mh {b:RC}{st:St}{i:Nat}:Kc P b Q (.exit i) st=Q (.exit i) st:=id rfl
theorem Mi {b:RC}{st:St}:Kc P b Q .ret st=Q .ret st:=id rfl
theorem Mj {st:St}{i:Nat}:Kb i Q .normal st=Q .normal st:=id rfl
theorem Gb {st:St}{i j:Nat}:Kb i Q (.exit j) st=if j=i then Q .normal st else Q (.exit j) st:=id rfl
theorem Mk {st:St}{i:Nat}:Kb i Q .ret st=Q .ret st:=id rfl
theorem Ml {st:St}:Kg Q .normal st=Q .normal st:=id rfl
theorem Mm {st:St}{j:Nat}:Kg Q (.exit j) st=Q (.exit j) st:=id rfl
theorem Mn {st:St}:Kg Q .ret st=Q .ret st:=id rfl
theorem Mo {I:Nat→St→Prop}{n:Nat}{st:St}:Kl I n Q .normal st = ∃k,k<n∧I k st:=id rfl
theorem Mp {I:Nat→St→Prop}{n:Nat}{st:St}{j:Nat}:Kl I n Q (.exit j) st=Q (.exit j) st:=id rfl
theorem Mq {I:Nat→St→Prop}{n:Nat}{st:St}:Kl I n Q .ret st=Q .ret st:=id rfl

theorem Qc {a:RC}{st:St}(I:Nat→St→Prop)(n:Nat)(h0:I n st)(h:∀n st',I n st'→QG P a st' (Kl I n Q)):QG P (.loop a) st Q:=⟨I,n,h0,h⟩

theorem J5 {st:St}:QE P [] st K=K st:=id rfl
def XL (x:Option AV):AV:=x.getD .top
def Zv (x:Option AV):Prop:=x.isSome=true
theorem ZH (x:AV):XL (some x)=x:=id rfl
theorem J6 (x:AV):Zv (some x)=True:=by simp[Zv]
theorem J7 {vo:VO}:QE P (⟨some d,.val vo,none⟩ :: Qe) ⟨f,m,ds⟩ K=(Zv (Qq f m vo)∧QE P Qe ⟨QH f d (XL (Qq f m vo)),m,ds⟩ K):=by
 simp only[QE,XY,YX,Qk];generalize Qq f m vo=v;cases v<;>simp[XL,Zv]

def mget (x:Option Qn):Qn:=x.getD []
def NT (x:Option Qn):Prop:=x.isSome=true
theorem Qa0 (x:Qn):mget (some x)=x:=id rfl
theorem QxJ (x:Qn):NT (some x)=True:=by simp[NT]
theorem AX {n:Nat}{p r:RA}:QE P (⟨none,.store n p r,none⟩ :: Qe) ⟨f,m,ds⟩ K=((r.ev f).cells.length=n∧(r.ev f).cells.all AV.leaf=true∧NT (QX m (p.ev f) (r.ev f).cells)∧QE P Qe ⟨f,mget (QX m (p.ev f) (r.ev f).cells),ds⟩ K):=by
 simp only[QE,XY,YX,Qk];generalize QX m (p.ev f) (r.ev f).cells=v;cases v<;>simp[mget,NT]
def Rx (l s:Nat)(v:AV):Prop:=∃o,v=.ptr l s o
theorem Qa1 (l s o:Nat):Rx l s (.ptr l s o)=True:=eq_true ⟨o,rfl⟩
theorem Ry {l s n:Nat}{p r:RA}:QE P (⟨none,.storev l s n p r,none⟩ :: Qe) ⟨f,m,ds⟩ K=(Rx l s (p.ev f)∧(r.ev f).cells.length=n∧(r.ev f).cells.all AV.leaf=true∧NT (QX m (p.ev f) (r.ev f).cells)∧QE P Qe ⟨f,mget (QX m (p.ev f) (r.ev f).cells),ds⟩ K):=by
 simp only[QE,XY,YX,Qk,Rx];generalize QX m (p.ev f) (r.ev f).cells=v;cases v<;>simp[mget,NT]
theorem Rz {s:Nat}{z:List AV}:QE P (⟨some d,.allocN s z,none⟩ :: Qe) ⟨f,m,ds⟩ K=(XG m s=true∧QE P Qe ⟨QH f d (.ptr 0 s 0),Am.put m 0 s (.cells z),ds⟩ K):=id rfl
theorem Qa2 {s:Nat}{r:RA}:QE P (⟨some d,.boxN s r,none⟩ :: Qe) ⟨f,m,ds⟩ K=(XG m s=true∧(r.ev f).cells.all AV.leaf=true∧QE P Qe ⟨QH f d (.ptr 0 s 0),Am.put m 0 s (.cells (r.ev f).cells),ds⟩ K):=id rfl

theorem SJ {sz len:Nat}{z:List AV}{ps:List (Nat×Nat×RA)}{y:List AV}(hy:fill f ps (Xg z sz len)=some y)(h1:AV.rfL y=true)(h2:y.all AV.leaf=true):QE P (⟨some d,.bsl sz len z ps,none⟩ :: Qe) ⟨f,m,ds⟩ K=QE P Qe ⟨QH f d (.list (XF sz len (y.map nn0))),m,ds⟩ K:=by
 apply propext
 constructor
 ·rintro⟨y',h,_,_,k⟩;have h:fill f ps (Xg z sz len)=some y':=h;rw[hy]at h;cases h;exact k
 ·intro k;exact⟨y,hy,h1,h2,k⟩
theorem Qa3 {z:AV}{r:RA}{k:IntKind}{n:Int}(hr:r.ev f=.int k n):QE P (⟨some d,.bsl 1 1 [z] [(0,1,r)],none⟩ :: Qe) ⟨f,m,ds⟩ K=QE P Qe ⟨QH f d (.list [.int k n]),m,ds⟩ K:=by
 refine SJ (y:=[.int k n]) ?_ rfl rfl;simp[fill,hr,AV.cells,AV.leaf,Xg,List.range_succ,splice]

theorem DR {z:AV}{r:RA}{k:IntKind}{n:Int}(hr:r.ev f=.int k n)(h:QE P Qe ⟨QH f d (.list [.int k n]),m,ds⟩ K):QE P (⟨some d,.bsl 1 1 [z] [(0,1,r)],none⟩ :: Qe) ⟨f,m,ds⟩ K:=by
 rw[Qa3 hr];exact h

theorem Mr {sz:Nat}{z l:List AV}{r:RA}(hr:r.ev f=.agg l)(hl:l.length=sz)(h1:sz≠1)(hf:AV.rfL l=true)(hlf:l.all AV.leaf=true)(h:QE P Qe ⟨QH f d (.list [.agg (l.map nn0)]),m,ds⟩ K) :
  QE P (⟨some d,.bsl sz 1 z [(0,sz,r)],none⟩ :: Qe) ⟨f,m,ds⟩ K:=by
 have hz:(Xg z sz 1).length=sz:=by simp[Xg]
 have hy:fill f [(0,sz,r)] (Xg z sz 1)=some l:=by
  simp only[fill,hr,AV.cells,hl,hlf,QWW,hz,QWe,QXk,if_true,splice,QXp,QWD];rw[QWR (by omega),QXj]
 rw[SJ hy hf hlf];have hc:XF sz 1 (l.map nn0)=[.agg (l.map nn0)]:=by
  simp only[XF,QWu h1];rw[QWO (by rw[QXb];omega)]
 rw[hc];exact h

theorem W8.mono {k:FuncId}{args:List AV}{m:Qn}{R R':AV→Qn→Prop}(h:W8 P k args m R)(hr:∀x m',R x m'→R' x m'):W8 P k args m R' :=
 ⟨h.1,fun G w vs h1 h2 u c cs hu=>by
  obtain⟨e,u',w',fr,⟨h3,G',x,v,m',h4,h5,h6⟩,h7⟩:=h.2 G w vs h1 h2 u c cs hu;exact⟨e,u',w',fr,⟨h3,G',x,v,m',h4,hr _ _ h5,h6⟩,h7⟩⟩

theorem Zj {slot site sz:Nat}{a:RC}{fr:Nat→Ob}(h1:f slot=.nils)(h2:fr site=.none)(h:QG P a ⟨QH f slot (.vec 0 site 1 0 0 false),QH fr site (.vec 1 sz []) :: m,ds⟩ Q):QG P (.gho (.vec slot site sz) a) ⟨f,fr :: m,ds⟩ Q:=by
 refine⟨_,?_,h⟩;have e:Qf (fr :: m) 0 site=.none:=h2;simp[ZC,h1,e,Qt,QF,Am.put]

theorem WJ {fr:Nat→Ob}{site g sz n:Nat}{q:Bool}{xs:List AV}(hl:fr site=.vec g sz xs)(hn:n=xs.length):Q9 (fr :: m) (.vec 0 site g 0 n q)=some xs:=by
 subst hn;simp[Q9,Am.Qf,hl]

theorem QM {sz bytes el:Nat}{s r:RA}{site g n:Nat}{fr:Nat→Ob}{xs ys:List AV}(hs:s.ev f=.vec 0 site g 0 n false)(hl:fr site=.vec g sz xs)(ht:XK site el=true)(hn:n=xs.length)(hr:r.ev f=.list ys)(hz:ys.all (fun e=>e.cells.length==sz)=true)(hm:n+ys.length≤maxLen)(hb:(n+ys.length)*bytes≤140737488355328)
  (h:QE P Qe ⟨QH f d (.vec 0 site (g+1) 0 (n+ys.length) false),QH fr site (.vec (g+1) sz (xs++ys)) :: m,ds⟩ K):QE P (⟨some d,.app sz bytes el s r,none⟩ :: Qe) ⟨f,fr :: m,ds⟩ K:=by
 refine⟨0,site,g,n,xs,ys,hs,hl,ht,by omega,?_,hz,hm,hb,?_⟩
 ·show Q9 (fr :: m) (r.ev f)=some ys;rw[hr];rfl
 ·subst hn;rw[QXR];exact h

theorem Xr {k:Nat}{args:List RA}{ys:List AV}{v:AV}(hk:Qi P k ys v)(hy:AV.stillL false m (args.map (RA.ev f))=some ys)(h1:AV.rfL ys=true)(h2:v.rf=true)(h3:AV.rfL (args.map (RA.ev f))=true∨v.nl=true)(h:QE P Qe ⟨QH f d v,m,ds⟩ K) :
  QE P (⟨some d,.call (.f k) args,none⟩ :: Qe) ⟨f,m,ds⟩ K:=by
 refine⟨k,[],[],ys,v,rfl,?_,h1,hk,h2,?_,h⟩
 ·simpa using hy
 ·simpa using h3

theorem aC {k:Nat}{args:List RA}{ys:List AV}{v:AV}(hk:Qi P k ys v)(h:QE P Qe ⟨QH f d v,m,ds⟩ K)(hy:AV.stillL false m (args.map (RA.ev f))=some ys:=by rfl)(h1:AV.rfL ys=true:=by rfl)(h2:v.rf=true:=by rfl)(h3:AV.rfL (args.map (RA.ev f))=true∨v.nl=true:=by exact .inl rfl) :
  QE P (⟨some d,.call (.f k) args,none⟩ :: Qe) ⟨f,m,ds⟩ K:=Xr hk hy h1 h2 h3 h

theorem NU {cnt:Bool}{k:Nat}{s c:RA}{t:List UInt8}{b:Int}(hs:s.ev f=.str t)(hb:c.ev f=.int .u8 b)(h:QE P Qe ⟨QH f d (.int .i64 (H4 cnt t b)),m,ds⟩ K):QE P (⟨some d,.xb cnt k s c,none⟩ :: Qe) ⟨f,m,ds⟩ K :=
 ⟨t,b,hs,hb,h⟩

theorem Zw {k:Nat}{args:List RA}{ys:List AV}{R:AV→Prop}(hk:WG P k ys R)(hy:AV.stillL false m (args.map (RA.ev f))=some ys)(h1:AV.rfL ys=true)(h2:∀v,R v→v.rf=true∧(AV.rfL (args.map (RA.ev f))=true∨v.nl=true))(h:∀v,R v→QE P Qe ⟨QH f d v,m,ds⟩ K) :
  QE P (⟨some d,.callR (.f k) args,none⟩ :: Qe) ⟨f,m,ds⟩ K:=by
 refine⟨k,[],[],ys,R,rfl,?_,h1,hk,?_,h⟩
 ·simpa using hy
 ·simpa using h2

theorem DS {s:Nat}{r:RA}{fr:Nat→Ob}{t:List UInt8}(ht:r.ev f=.str t)(hn:fr s=.none)(h:QE P Qe ⟨QH f d (.ptr 0 s 0),QH fr s (.iter (.str t) 0) :: m,ds⟩ K) :
  QE P (⟨some d,.rngs s r,none⟩ :: Qe) ⟨f,fr :: m,ds⟩ K:=by
 refine⟨t,ht,?_,h⟩;show(match fr s with|.none=>true|_=>false)=true;rw[hn]

theorem DT {s p:Nat}{r:RA}{fr:Nat→Ob}{t:List UInt8}(hr:r.ev f=.ptr 0 s 0)(hl:fr s=.iter (.str t) p)
  (h1:p<t.length→QE P Qe ⟨QH f d (.tup [.bool true,.int .i64 (p:Nat),.int .i32 ((Xh t p).1:Nat)]),QH fr s (.iter (.str t) (p+(Xh t p).2)) :: m,ds⟩ K)
  (h2:t.length≤p→QE P Qe ⟨QH f d (.tup [.bool false]),fr :: m,ds⟩ K) :
  QE P (⟨some d,.nxts r,none⟩ :: Qe) ⟨f,fr :: m,ds⟩ K :=
 ⟨0,s,t,p,hr,hl,h1,h2⟩

theorem Qj {k:Nat}{args:List RA}{ys:List AV}{v:AV}{m':Qn}(hk:Qh P k ys m fun x m1=>x=v∧m1=m')(hy:args.map (RA.ev f)=ys)(h:QE P Qe ⟨QH f d v,m',ds⟩ K) :
  QE P (⟨some d,.callF (.f k) args,none⟩ :: Qe) ⟨f,m,ds⟩ K:=by
 refine⟨k,[],[],v,m',rfl,?_,h⟩;show Qh P k (args.map (RA.ev f)++[]) m fun x m1=>x=v∧m1=m'
 rw[QXj,hy];exact hk

theorem UI {site el sz bytes:Nat}{z:List AV}{l c:RA}{kl kc:IntKind}{n k:Nat}{fr:Nat→Ob}(hl:l.ev f=.int kl (n:Int))(hc:c.ev f=.int kc (k:Int))(hnk:n≤k)(hk:k≤9223372036854775807)(hb:bytes*k≤281474976710656)(hs:fr site=.none)
  (h:QE P Qe ⟨QH f d (.vec 0 site 1 0 n false),QH fr site (.vec 1 sz (List.replicate n (JI sz z))) :: m,ds⟩ K):QE P (⟨some d,.mk site el sz bytes z l c,none⟩ :: Qe) ⟨f,fr :: m,ds⟩ K:=by
 have e:Qf (fr :: m) 0 site=.none:=hs;refine⟨kl,kc,n,k,hl,hc,hnk,hk,hb,?_,?_⟩
 ·show Qt (Qf (fr :: m) 0 site)=true;rw[e];rfl
 ·have hg:QF (fr :: m) 0 site=1:=by unfold QF;rw[e]
  simp only[hg];exact h

theorem Ud {el:Nat}{s r:RA}{l site g n:Nat}{xs:List AV}{t:List UInt8}(hs:s.ev f=.vec l site g 0 n false)(hl:Qf m l site=.vec g 1 xs)(ht:XK site el=true)(hn:n=xs.length)(hr:r.ev f=.str t)(hm:n+t.length≤140737488355328)
  (h:QE P Qe ⟨QH f d (.vec l site (g+1) 0 (n+t.length) false),Am.put m l site (.vec (g+1) 1 (xs++Qz t)),ds⟩ K):QE P (⟨some d,.appS el s r,none⟩ :: Qe) ⟨f,m,ds⟩ K:=by
 subst hn;refine⟨l,site,g,_,xs,t,hs,hl,ht,QWe _,hr,hm,?_⟩;rw[QXR];exact h

theorem Ms {s:Nat}{a:RC}{fr:Nat→Ob}:QG P (.gho (.drop s) a) ⟨f,fr :: m,ds⟩ Q=((fr s).isRow=false∧QG P a ⟨fun i=>(f i).scrub s,QH (fun i=>(fr i).scrub s) s .none :: m,ds.map (DF.scrub s)⟩ Q):=by
 apply propext
 have hn:Ym (fr :: m) s=!(fr s).isRow:=by
  unfold Ym;show(match fr s with|.vec .. => false|_=>true)=_;cases fr s<;>rfl
 constructor
 ·rintro⟨st',h1,h2⟩;simp only[ZC,hn]at h1;cases hr:(fr s).isRow with
  |true=>rw[hr]at h1;cases h1
  |false=>rw[hr]at h1;cases h1;exact⟨rfl,h2⟩
 ·rintro⟨h1,h2⟩;refine⟨_,?_,h2⟩;simp only[ZC,hn,h1];rfl
theorem Mt (s:Nat):AV.top.scrub s=.top:=id rfl
theorem Mu (s:Nat)(k:IntKind)(n:Int):(AV.int k n).scrub s=.int k n:=id rfl
theorem VU (s:Nat)(b:Bool):(AV.bool b).scrub s=.bool b:=id rfl
theorem Mv (s:Nat)(b:List UInt8):(AV.str b).scrub s=.str b:=id rfl
theorem VV (s:Nat):AV.nils.scrub s=.nils:=id rfl
theorem VW (s:Nat):AV.nilp.scrub s=.nilp:=id rfl
theorem VX (s:Nat):AV.nili.scrub s=.nili:=id rfl
theorem VY (s:Nat):AV.nilf.scrub s=.nilf:=id rfl
theorem VZ (s:Nat)(l:List AV):(AV.list l).scrub s=.list l:=id rfl
theorem Mw (s l t g o n:Nat)(q:Bool):(AV.vec l t g o n q).scrub s=.vec l t g o n q:=id rfl
theorem Mx (s:Nat)(l:List AV):(AV.agg l).scrub s=.agg (AV.scrubL s l):=id rfl
theorem My (s:Nat)(l:List AV):(AV.tup l).scrub s=.tup (AV.scrubL s l):=id rfl
theorem Mz (s t o:Nat):(AV.ptr 0 t o).scrub s=bif Nat.beq t s then .top else .ptr 0 t o:=id rfl
theorem V0 (s l t o:Nat):(AV.ptr (l+1) t o).scrub s=.ptr (l+1) t o:=id rfl
theorem MA (s:Nat):AV.scrubL s []=[]:=id rfl
theorem V1 (s:Nat)(x:AV)(l:List AV):AV.scrubL s (x :: l)=x.scrub s :: AV.scrubL s l:=id rfl
theorem NF (s:Nat)(l:List AV):(Ob.cells l).scrub s=.cells (AV.scrubL s l):=id rfl
theorem MB (s g z:Nat)(l:List AV):(Ob.vec g z l).scrub s=.vec g z l:=id rfl
theorem V2 (s:Nat):Ob.none.scrub s=.none:=id rfl
theorem U9 (s:Nat)(o:Ob):(o.scrub s).isRow=o.isRow:=by cases o<;>rfl
theorem NG (l:List AV):(Ob.cells l).isRow=false:=id rfl
theorem V3:Ob.none.isRow=false:=id rfl

def ZI (P:Program)(v:AV)(w:Bool)(d:Option Nat)(ro:RO)(Qe:List Item)(st:St)(K:St→Prop):Prop :=
 match v with
 |.bool b=>(b=w→QE P (⟨d,ro,none⟩ :: Qe) st K)∧(b=(!w)→QE P Qe { st with f:=Qk st.f d (.tup []) } K)
 |.tup l=>l=[]∧QE P Qe { st with f:=Qk st.f d (.tup []) } K
 |_=>False
theorem Xl {b:Bool}{d:Option Nat}{ro:RO}{st:St}(h1:b=true→QE P (⟨d,ro,none⟩ :: Qe) st K)(h2:b=false→QE P Qe { st with f:=Qk st.f d (.tup []) } K):ZI P (.bool b) true d ro Qe st K:=⟨h1,h2⟩
theorem Xm {b:Bool}{d:Option Nat}{ro:RO}{st:St}(h1:b=false→QE P (⟨d,ro,none⟩ :: Qe) st K)(h2:b=true→QE P Qe { st with f:=Qk st.f d (.tup []) } K):ZI P (.bool b) false d ro Qe st K:=⟨h1,h2⟩
theorem Kw {d:Option Nat}{ro:RO}{st:St}:ZI P (.bool true) true d ro Qe st K=QE P (⟨d,ro,none⟩ :: Qe) st K:=by simp[ZI]
theorem F0 {d:Option Nat}{ro:RO}{st:St}:ZI P (.bool false) false d ro Qe st K=QE P (⟨d,ro,none⟩ :: Qe) st K:=by simp[ZI]
theorem DU {ro:RO}:ZI P (.bool true) false (some d) ro Qe ⟨f,m,ds⟩ K=QE P Qe ⟨QH f d (.tup []),m,ds⟩ K:=by simp[ZI,Qk]
theorem WK {ro:RO}:ZI P (.bool false) true (some d) ro Qe ⟨f,m,ds⟩ K=QE P Qe ⟨QH f d (.tup []),m,ds⟩ K:=by simp[ZI,Qk]
theorem F1 {ro:RO}{w:Bool}:ZI P (.tup []) w (some d) ro Qe ⟨f,m,ds⟩ K=QE P Qe ⟨QH f d (.tup []),m,ds⟩ K:=by simp[ZI,Qk]
theorem Gc {ro:RO}{st:St}:ZI P (.bool true) false none ro Qe st K=QE P Qe st K:=by simp[ZI,Qk]
theorem Ge {ro:RO}{st:St}:ZI P (.bool false) true none ro Qe st K=QE P Qe st K:=by simp[ZI,Qk]
theorem DV {ro:RO}{w:Bool}{st:St}:ZI P (.tup []) w none ro Qe st K=QE P Qe st K:=by simp[ZI,Qk]
theorem Ha {ro:RO}{j:Nat}{w:Bool}{d:Option Nat}:QE P (⟨d,ro,some (j,w)⟩ :: Qe) ⟨f,m,ds⟩ K=ZI P (f j) w d ro Qe ⟨f,m,ds⟩ K:=by
 simp only[QE,XY,ZI]
 all_goals(generalize f j=v;cases v<;>rfl)

theorem F2 {rs:List RR}{n:Nat}{R:AV→Qn→Prop}{fr:Nat→Ob}:Zo rs n R .ret ⟨f,fr :: m,ds⟩=(ds=[]∧Zv (Kr ⟨f,fr :: m,ds⟩ rs)∧Zv (K2 (fr :: m) (XL (Kr ⟨f,fr :: m,ds⟩ rs)))∧m.length=n∧R (XL (K2 (fr :: m) (XL (Kr ⟨f,fr :: m,ds⟩ rs)))) m):=by
 apply propext
 constructor
 ·rintro⟨_,h1,x,y,fr',m',h2,h3,h4,h5,h6⟩;cases h4;have h1:ds=[]:=h1;rw[h2,ZH,h3];exact⟨h1,rfl,rfl,h5,h6⟩
 ·rintro⟨h1,h2,h3,h4,h5⟩;generalize hv:Kr ⟨f,fr :: m,ds⟩ rs=v at h2 h3 h5;cases v with
  |none=>cases h2
  |some x=>
   rw[ZH]at h3 h5;cases hl:K2 (fr :: m) x with
   |none=>rw[hl]at h3;cases h3
   |some y=>
    rw[hl]at h5;exact⟨.inr rfl,h1,x,y,fr,m,hv,hl,rfl,h4,h5⟩
theorem F3 {rs:List RR}{n:Nat}{R:AV→Qn→Prop}{st:St}:Zo rs n R .normal st=Zo rs n R .ret st:=by
 simp[Zo]

theorem J8 {α:Type}(f:Nat→α)(d:Nat)(x:α)(i:Nat):QH f d x i=bif Nat.beq i d then x else f i:=id rfl
theorem Jc (a b:Nat):Nat.beq a b=(a==b):=by
 cases h:Nat.beq a b with
 |true=>rw[QWc h];simp
 |false=>have:=Nat.ne_of_beq_eq_false h;simp[this]
theorem JK {s idx site sz:Nat}{a:RC}{fr:Nat→Ob}{xs:List AV}(h1:fr s=.cells xs)(h2:xs[idx]? = some .nils)(h3:fr site=.none)(hne:Nat.beq site s=false)(h:QG P a ⟨f,QH (QH fr site (.vec 1 sz [])) s (.cells (xs.set idx (.vec 0 site 1 0 0 false))) :: m,ds⟩ Q):QG P (.gho (.vecc s idx site sz) a) ⟨f,fr :: m,ds⟩ Q:=by
 refine⟨_,?_,h⟩;have e1:Qf (fr :: m) 0 s=.cells xs:=h1;have e:Qf (fr :: m) 0 site=.none:=h3;simp[ZC,e1,h2,e,Qt,QF,Am.put,hne]
theorem Dn {α:Type}(f:Nat→α)(d:Nat)(x y:α):QH (QH f d x) d y=QH f d y:=by
 funext i;by_cases h:i=d
 ·subst h;rw[QS,QS]
 ·rw[QO _ _ h,QO _ _ h,QO _ _ h]
theorem F4 {α:Type}(f:Nat→α)(d e:Nat)(x y:α)(hde:d≠e):QH (QH f d x) e y=QH (QH f e y) d x:=by
 funext i;by_cases h:i=d
 ·subst h;rw[QS,QO _ _ hde,QS]
 ·by_cases h2:i=e
  ·subst h2;rw[QS,QO _ _ h,QS]
  ·rw[QO _ _ h2,QO _ _ h,QO _ _ h,QO _ _ h2]
theorem AY {α:Type}(f:Nat→α)(d:Nat)(x:α)(h:f d=x):QH f d x=f:=by
 funext i;by_cases hi:i=d
 ·subst hi;rw[QS,h]
 ·rw[QO _ _ hi]
theorem Ue (n:Nat):(RA.t n).ev f=f n:=id rfl
theorem DW (x:AV):(RA.c x).ev f=x:=id rfl
theorem e_f (k:Nat):(RA.f k).ev f=.fn (.func k) [] []:=id rfl

end

end Go.Proofs.YtdhlbgejhcejcaaGreatDoor.Am

namespace Go.Proofs.YtdhlbgejhcejcaaGreatDoor.Br
open Go Am Go.RowKit Go.WideShapes Go.ChangeShapes Go.ChangeAt

theorem F5 {P:Program}{k:FuncId}{args:List AV}{v:Bool}(h:Qi P k args (.bool v)){stab:Nat→Nat→Option SV}{w:World}(hs:∀b o u,stab b o=some u→rd w b o u){vs:List Value}(hr:RepL (Gh.bare stab) args vs) :
  Calls P k ⟨vs⟩ w fun e w'=>e=.returned (.bool v)∧Below w.heap.size w w' :=
 (h.2 (Gh.bare stab) w vs hr (MR.bare hs)).mono fun e w' ⟨G',x,u,m',he,hx,hu,_,hex,_⟩=>by
  subst hx;cases hu;exact⟨he,hex.os,hex.tape,hex.output,hex.size,fun b hb=>(hex.old b hb Gh.bare_mine).1⟩

theorem Qa4 {n:Int}(h:(Lit.int .i64 n).wf=true) : -9223372036854775808≤n:=by
 simp[Lit.wf,IntKind.min,IntKind.max,IntKind.bits,IntKind.signed]at h;omega
theorem Qa5 {n:Int}(h:(Lit.int .i64 n).wf=true):n<9223372036854775808:=by
 simp[Lit.wf,IntKind.min,IntKind.max,IntKind.bits,IntKind.signed]at h;omega
theorem F6 {n:Int}(h:(Lit.int .u64 n).wf=true):0≤n:=by
 simp[Lit.wf,IntKind.min,IntKind.max,IntKind.bits,IntKind.signed]at h;omega
theorem Gg {n:Int}(h:(Lit.int .u64 n).wf=true):n<18446744073709551616:=by
 simp[Lit.wf,IntKind.min,IntKind.max,IntKind.bits,IntKind.signed]at h;omega

section
variable {H:Type}{enc:TypeId×Value→H}{P:Program}
theorem Fv {f:Func}{s:ChangeSpec}{UG fresh handsOn again:Bool}{W W':World}{args:Array Value}{v:Value}{ds gs:List (DataW H)}{before pa pv:List MemPlace}
  (hW:DataW.Whole enc P f.params.toList s.vars UG W args.toList ds gs before)
  (hres:∀(b:Nat) (sp:Nat→Bool) (hd:Bool),DataW.TrodAll enc P W' b sp hd f.resultTypes.toList (v.resultList f.resultTypes.size) (s.fn H (ds++gs)).results [])
  (hargs:∀sp:Nat→Bool,(∀p∈before,sp p.block=true)→DataW.TrodAll enc P W' 0 sp true f.params.toList args.toList (s.fn H (ds++gs)).args pa)
  (hvars:∀sp:Nat→Bool,(∀p∈before,sp p.block=true)→DataW.TrodVars enc P W' sp s.vars (s.fn H (ds++gs)).vars pv)
  (hps:before=pa++pv) (hb:Below W.heap.size W W')
  (hok:∀(j:Nat) (t:TypeId) (r:Value),f.resultTypes[j]? = some t→(v.resultList f.resultTypes.size)[j]? = some r→Value.okWide P W' .any 0 t r) :
  s.post enc P f UG fresh handsOn again W args v W':=by
 have hlt:∀p∈before,p.block<W.heap.size:=fun p hp=>hW.lt p hp
 have hold:∀p∈before,(fun b=>decide (b<W.heap.size)) p.block=true:=fun p hp=>by simpa using hlt p hp
 refine⟨ds,gs,before,[],pa,pv,hW,hres _ _ _,hargs _ hold,hvars _ hold,World.keptBut_mono (fun p hp=>⟨hp,?_⟩) (hb.frame (·∈before)),fun _=>?_⟩
 ·rw[hps,QXz]at hp;exact Or.inr hp
 ·obtain⟨_,_,_,_,_,hz,hn⟩:=hW;refine⟨hok,_,_,([]++pa)++pv,⟨[]++pa,pv,trodAll_append (hargs _ (fun _ _=>rfl)) (hres _ _ _),hvars _ (fun _ _=>rfl),rfl,?_,?_⟩,?_⟩
  ·intro b off hp;have hin:MemPlace.cell b off∈before:=by rw[hps];simpa using hp
   rw[hb.frozen (hlt _ hin)];exact hz b off hin
  ·intro ha;have:=hn ha;rw[hps]at this
   simpa using this
  ·intro p hp _;rw[hps]
   simpa using hp
end

end Go.Proofs.YtdhlbgejhcejcaaGreatDoor.Br

namespace Go.Proofs.YtdhlbgejhcejcaaGreatDoor.Am
open Go

variable {P:Program}{f:Fr}{m:Qn}{ds:List DF}{Qe:List Item}{d:Nat}

theorem NV {Q:Exit→St→Prop}{a:RC}{slot site g sz n:Nat}{fr:Nat→Ob}{xs:List AV}(h1:f slot=.vec 0 site g 0 n false)(h2:fr site=.vec g sz xs)(hn:n≤xs.length)
  (h:QG P a ⟨QH f slot (.list (xs.take n)),QH fr site (.vec (g+1) sz []) :: m,ds⟩ Q):QG P (.gho (.pub slot site) a) ⟨f,fr :: m,ds⟩ Q:=by
 refine⟨_,?_,h⟩;have e:Qf (fr :: m) 0 site=.vec g sz xs:=h2;simp only[ZC,h1,e];rw[show Nat.beq site site=true from Nat.beq_refl site,show Nat.beq g g=true from Nat.beq_refl g,show Nat.ble (0+n) xs.length=true from Nat.ble_eq_true_of_le (by omega)];rfl

def Fy:List Nat→RC→RC
 | [],a=>a
 |s :: l,a=>.gho (.drop s) (Fy l a)
def V4:List Nat→AV→AV
 | [],x=>x
 |s :: l,x=>V4 l (x.scrub s)
def Gi:List Nat→Ob→Ob
 | [],x=>x
 |s :: l,x=>Gi l (x.scrub s)

theorem V5 (l:List Nat):Gi l .none=.none:=by
 induction l with
 |nil=>rfl
 |cons s l ih=>exact ih

theorem QN {Q:Exit→St→Prop}{a:RC}(l:List Nat):∀ {f:Fr} {fr:Nat→Ob},(∀s∈l,(fr s).isRow=false)→
  (∀f' fr',(∀i,f' i=V4 l (f i))→(∀i,i∉l→fr' i=Gi l (fr i))→(∀i∈l,fr' i=.none)→QG P a ⟨f',fr' :: m,[]⟩ Q)→QG P (Fy l a) ⟨f,fr :: m,[]⟩ Q:=by
 induction l with
 |nil=>intro f fr _ h;exact h f fr (fun _=>rfl) (fun _ _=>rfl) (fun _ h=>by cases h)
 |cons s l ih=>
  intro f fr hr h;show QG P (.gho (.drop s) (Fy l a)) _ _;rw[Ms];refine⟨hr s (by simp),?_⟩;show QG P (Fy l a) ⟨_,_ :: m,[]⟩ Q;refine ih ?_ ?_
  ·intro t ht;by_cases e:t=s
   ·subst e;rw[QS];rfl
   ·rw[QO _ _ e,U9];exact hr t (by simp[ht])
  ·intro f' fr' h1 h2 h3;refine h f' fr' h1 ?_ ?_
   ·intro i hi;rw[h2 i (fun h=>hi (QWw _ h)),QO _ _ (fun e=>hi (by rw[e];exact QWy))];rfl
   ·intro i hi;by_cases hl:i∈l
    ·exact h3 i hl
    ·have e:i=s:=by
      rcases QXD.1 hi with e|e
      ·exact e
      ·exact absurd e hl
     rw[h2 i hl,e,QS,V5]

def Xy:Ob→Nat
 |.vec g _ _=>g+1
 |_=>1

theorem JW {fr:Nat→Ob}{s:Nat}:QF (fr :: m) 0 s=Xy (fr s):=by
 unfold QF Xy;rfl

theorem Jq {K:St→Prop}{neg:Bool}{r:RA}{ys:List AV}(hr:r.ev f=.list ys)(h0:QE P Qe ⟨QH f d (.bool neg),m,ds⟩ K)(h1:ys=[]∨QK ys=[]→QE P Qe ⟨QH f d (.bool (!neg)),m,ds⟩ K):QE P (⟨some d,.isnil neg r,none⟩ :: Qe) ⟨f,m,ds⟩ K:=by
 refine⟨ys,?_,fun _=>h0,fun e=>h1 ?_⟩
 ·show Q9 m (r.ev f)=some ys;rw[hr];rfl
 ·rcases e with e|e
  ·have e:r.ev f=.nils:=e;rw[hr]at e;cases e
  ·exact .inr e

theorem ZN {K:St→Prop}{site sz:Nat}{fr:Nat→Ob}(hs:Qt (fr site)=true)
  (h:QE P Qe ⟨QH f d (.vec 0 site (Xy (fr site)) 0 0 false),QH fr site (.vec (Xy (fr site)) sz []) :: m,ds⟩ K):QE P (⟨some d,.bsl0 site sz,none⟩ :: Qe) ⟨f,fr :: m,ds⟩ K :=
 ⟨hs,h⟩

theorem DX {K:St→Prop}{site sz len:Nat}{z:List AV}{ps:List (Nat×Nat×RA)}{fr:Nat→Ob}{y:List AV}(hy:fill f ps (Xg z sz len)=some y)(h1:AV.rfL y=true)(h2:y.all AV.leaf=true)(hs:Qt (fr site)=true)
  (h:QE P Qe ⟨QH f d (.vec 0 site (Xy (fr site)) 0 len false),QH fr site (.vec (Xy (fr site)) sz (XF sz len (y.map nn0))) :: m,ds⟩ K):QE P (⟨some d,.bslv site sz len z ps,none⟩ :: Qe) ⟨f,fr :: m,ds⟩ K :=
 ⟨y,hy,h1,h2,hs,h⟩

theorem Gj {K:St→Prop}{site sz:Nat}{z l:List AV}{r:RA}{fr:Nat→Ob}(hr:r.ev f=.agg l)(hl:l.length=sz)(h1:sz≠1)(hf:AV.rfL l=true)(hlf:l.all AV.leaf=true)(hs:Qt (fr site)=true)
  (h:QE P Qe ⟨QH f d (.vec 0 site (Xy (fr site)) 0 1 false),QH fr site (.vec (Xy (fr site)) sz [.agg (l.map nn0)]) :: m,ds⟩ K):QE P (⟨some d,.bslv site sz 1 z [(0,sz,r)],none⟩ :: Qe) ⟨f,fr :: m,ds⟩ K:=by
 have hz:(Xg z sz 1).length=sz:=by simp[Xg]
 have hy:fill f [(0,sz,r)] (Xg z sz 1)=some l:=by
  simp only[fill,hr,AV.cells,hl,hlf,QWW,hz,QWe,QXk,if_true,splice,QXp,QWD];rw[QWR (by omega),QXj]
 have hc:XF sz 1 (l.map nn0)=[.agg (l.map nn0)]:=by
  simp only[XF,QWu h1];rw[QWO (by rw[QXb];omega)]
 refine DX hy hf hlf hs ?_;rw[hc];exact h

theorem X8 {Q:Exit→St→Prop}{a:RC}{slot site l S g sz o n:Nat}{q:Bool}{fr:Nat→Ob}{xs:List AV}(h1:f slot=.vec 0 site g o n q)(h2:fr site=.vec g sz xs)(hl:l<m.length)(hS:S<2000)(hr:Qt (Qf m l S)=true)
  (h:QG P a ⟨QH f slot (.vec (l+1) S (QF m l S) o n q),QH fr site (.vec (g+1) sz []) :: Am.put m l S (.vec (QF m l S) sz xs),ds⟩ Q):QG P (.gho (.give slot site (l+1) S) a) ⟨f,fr :: m,ds⟩ Q:=by
 refine⟨_,?_,h⟩;have e:Qf (fr :: m) 0 site=.vec g sz xs:=h2;have e1:Qt (Qf (fr :: m) (l+1) S)=true:=hr;have e2:QF (fr :: m) (l+1) S=QF m l S:=rfl;simp only[ZC,h1,e,e1,e2];rw[show Nat.beq site site=true from Nat.beq_refl site,show Nat.beq g g=true from Nat.beq_refl g,show Nat.blt (l+1) (fr :: m).length=true from Nat.ble_eq_true_of_le (by simp;omega),show Nat.blt S 2000=true from Nat.ble_eq_true_of_le hS];rfl

theorem F7 {Q:Exit→St→Prop}{a:RC}{slot:Nat}(h1:f slot=.nils)(h:QG P a ⟨QH f slot (.list []),m,ds⟩ Q):QG P (.gho (.lst slot) a) ⟨f,m,ds⟩ Q:=by
 refine⟨_,?_,h⟩;simp only[ZC,h1]

theorem XM {K:St→Prop}{k:Nat}{r:RA}{args:List RA}{fa fb ys:List AV}{v:AV}{m':Qn}(hr:r.ev f=.fn (.func k) fa fb)(hk:Qh P k ys m fun x m1=>x=v∧m1=m')(hy:fa++args.map (RA.ev f)++fb=ys)(h:QE P Qe ⟨QH f d v,m',ds⟩ K) :
  QE P (⟨some d,.callF r args,none⟩ :: Qe) ⟨f,m,ds⟩ K:=by
 refine⟨k,fa,fb,v,m',hr,?_,h⟩;show Qh P k (fa++args.map (RA.ev f)++fb) m fun x m1=>x=v∧m1=m'
 rw[hy];exact hk

theorem J9 {K:St→Prop}{k:Nat}{r:RA}{args:List RA}{fa fb ys:List AV}{v:AV}(hr:r.ev f=.fn (.func k) fa fb)(hk:Qi P k ys v)(hy:AV.stillL false m (fa++args.map (RA.ev f)++fb)=some ys)(h1:AV.rfL ys=true)(h2:v.rf=true)
  (h3:AV.rfL (fa++args.map (RA.ev f)++fb)=true∨v.nl=true) (h:QE P Qe ⟨QH f d v,m,ds⟩ K):QE P (⟨some d,.call r args,none⟩ :: Qe) ⟨f,m,ds⟩ K :=
 ⟨k,fa,fb,ys,v,hr,hy,h1,hk,h2,h3,h⟩

end Go.Proofs.YtdhlbgejhcejcaaGreatDoor.Am

namespace Go.Proofs.YtdhlbgejhcejcaaGreatDoor.Am
open Go

abbrev F8:=FuncId→Option (RC×List RR×Nat)

def Gk (P:Program)(T:F8):Prop :=
 ∀k c rs N, T k=some (c, rs, N)→∃fn body, P.funcs[k]? = some fn∧fn.body=some body∧(fn.name == "runtime.NumGoroutine")=false∧fn.ntmps=N∧X7 P N c body=true∧Jw P fn.results.toList rs=true

abbrev KW:=FuncId→List AV→Qn→Option (AV×Qn)

def Gl:Ob→Ob→Bool
 |.cells [.vec l s g o n q],.cells [.vec l' s' g' o' n' q']=>Nat.beq l l'&&Nat.beq s s'&&Nat.beq g g'&&Nat.beq o o'&&Nat.beq n n'&&q==q'
 |_,_=>false
theorem MD:∀ {a b:Ob},Gl a b=true→a=b:=by
 intro a b h;unfold Gl at h;split at h
 ·simp only[QWE,QWm]at h;obtain⟨⟨⟨⟨⟨h1,h2⟩,h3⟩,h4⟩,h5⟩,h6⟩:=h;rw[QWc h1,QWc h2,QWc h3,QWc h4,QWc h5,h6]
 ·cases h

def XC (call:KW)(d:Option Nat)(op:RO)(st:St):Option St :=
 match op with
 |.val vo=>match Qq st.f st.m vo with
  |some x=>some { st with f:=Qk st.f d x }
  |none=>none
 |.allocN s z=>bif XG st.m s then some { st with m:=Am.put st.m 0 s (.cells z),f:=Qk st.f d (.ptr 0 s 0) } else none
 |.boxN s r=>bif XG st.m s&&(r.ev st.f).cells.all AV.leaf then some { st with m:=Am.put st.m 0 s (.cells (r.ev st.f).cells),f:=Qk st.f d (.ptr 0 s 0) } else none
 |.store n p r=>bif Nat.beq (r.ev st.f).cells.length n&&(r.ev st.f).cells.all AV.leaf then match QX st.m (p.ev st.f) (r.ev st.f).cells with
   |some m'=>some { st with m:=m',f:=Qk st.f d (.tup []) }
   |none=>none
  else none
 |.storev l s n p r=>match p.ev st.f with
  |.ptr l' s' _=>bif Nat.beq l' l&&Nat.beq s' s&&Nat.beq (r.ev st.f).cells.length n&&(r.ev st.f).cells.all AV.leaf then match QX st.m (p.ev st.f) (r.ev st.f).cells with
    |some m'=>some { st with m:=m',f:=Qk st.f d (.tup []) }
    |none=>none
   else none
  |_=>none
 |.app sz bytes el s r=>match s.ev st.f with
  |.vec l site g 0 n false=>match Qf st.m l site with
   |.vec g' sz' xs=>match Q9 st.m (r.ev st.f)with
    |some ys=>bif Nat.beq g' g&&Nat.beq sz' sz&&XK site el&&Nat.ble n xs.length&&ys.all (fun e=>e.cells.length==sz)&&Nat.ble (n+ys.length) maxLen&&Nat.ble ((n+ys.length)*bytes) 140737488355328 then
      some { st with m:=Am.put st.m l site (.vec (g+1) sz (xs.take n++ys)),f:=Qk st.f d (.vec l site (g+1) 0 (n+ys.length) false) }
     else none
    |none=>none
   |_=>none
  |_=>none
 |.call f args=>match f.ev st.f with
  |.fn (.func k) fa fb=>match AV.stillL false st.m (fa++args.map (RA.ev st.f)++fb)with
   |some ys=>bif AV.rfL ys then match call k ys []with
     |some (v,_)=>bif v.rf&&(AV.rfL (fa++args.map (RA.ev st.f)++fb)||v.nl)then some { st with f:=Qk st.f d v } else none
     |none=>none
    else none
   |none=>none
  |_=>none
 |.callF f args=>match f.ev st.f with
  |.fn (.func k) fa fb=>match call k (fa++args.map (RA.ev st.f)++fb) st.m with
   |some (v,m')=>some { st with m:=m',f:=Qk st.f d v }
   |none=>none
  |_=>none
 |.bsl sz len z ps=>match fill st.f ps (Xg z sz len)with
  |some y=>bif AV.rfL y&&y.all AV.leaf then some { st with f:=Qk st.f d (.list (XF sz len (y.map nn0))) } else none
  |none=>none
 |.bslv site sz len z ps=>match fill st.f ps (Xg z sz len)with
  |some y=>bif AV.rfL y&&y.all AV.leaf&&Qt (Qf st.m 0 site)then some { st with m:=Am.put st.m 0 site (.vec (QF st.m 0 site) sz (XF sz len (y.map nn0))),f:=Qk st.f d (.vec 0 site (QF st.m 0 site) 0 len false) } else none
  |none=>none
 |.bsl0 site sz=>bif Qt (Qf st.m 0 site)then some { st with m:=Am.put st.m 0 site (.vec (QF st.m 0 site) sz []),f:=Qk st.f d (.vec 0 site (QF st.m 0 site) 0 0 false) } else none
 |.isnil neg r=>match r.ev st.f with
  |.nils=>some { st with f:=Qk st.f d (.bool (!neg)) }
  |.list l=>match QK l with
   |_ :: _=>some { st with f:=Qk st.f d (.bool neg) }
   | []=>none
  |_=>none
 |.callK l s f args=>match f.ev st.f with
  |.fn (.func k) fa fb=>match call k (fa++args.map (RA.ev st.f)++fb) st.m with
   |some (v,m')=>bif Gl (Qf m' l s) (Qf st.m l s)then some { st with m:=m',f:=Qk st.f d v } else none
   |none=>none
  |_=>none
 |.xb cnt _ s c=>match s.ev st.f,c.ev st.f with
  |.str t,.int .u8 b=>some { st with f:=Qk st.f d (.int .i64 (H4 cnt t b)) }
  |_,_=>none
 |.callR f args=>match f.ev st.f with
  |.fn (.func k) fa fb=>match AV.stillL false st.m (fa++args.map (RA.ev st.f)++fb)with
   |some ys=>bif AV.rfL ys then match call k ys []with
     |some (v,_)=>bif v.rf&&(AV.rfL (fa++args.map (RA.ev st.f)++fb)||v.nl)then some { st with f:=Qk st.f d v } else none
     |none=>none
    else none
   |none=>none
  |_=>none
 |.rngs s r=>match r.ev st.f with
  |.str t=>bif XG st.m s then some { st with m:=Am.put st.m 0 s (.iter (.str t) 0),f:=Qk st.f d (.ptr 0 s 0) } else none
  |_=>none
 |.nxts r=>match r.ev st.f with
  |.ptr l s 0=>match Qf st.m l s with
   |.iter (.str t) p=>bif Nat.blt p t.length then some { st with m:=Am.put st.m l s (.iter (.str t) (p+(Xh t p).2)),f:=Qk st.f d (.tup [.bool true,.int .i64 (p:Nat),.int .i32 ((Xh t p).1:Nat)]) } else some { st with f:=Qk st.f d (.tup [.bool false]) }
   |_=>none
  |_=>none
 |.mkm s=>bif XG st.m s then some { st with m:=Am.put st.m 0 s (.iter (.mp [] []) 0),f:=Qk st.f d (.mptr 0 s) } else none
 |.mput x i v=>match x.ev st.f with
  |.mptr l s=>match Qf st.m l s with
   |.iter (.mp ks vs) p=>match i.ev st.f with
    |.str k=>bif (v.ev st.f).gr&&AV.grL vs&&Nat.beq ks.length vs.length then some { st with m:=Am.put st.m l s (.iter (.mp (X4 k (v.ev st.f) ks vs).1 (X4 k (v.ev st.f) ks vs).2) p),f:=Qk st.f d (.tup []) } else none
    |_=>none
   |_=>none
  |_=>none
 |.appS el s r=>match s.ev st.f,r.ev st.f with
  |.vec l site g 0 n false,.str t=>match Qf st.m l site with
   |.vec g' 1 xs=>bif Nat.beq g' g&&XK site el&&Nat.ble n xs.length&&Nat.ble (n+t.length) 140737488355328 then
     some { st with m:=Am.put st.m l site (.vec (g+1) 1 (xs.take n++Qz t)),f:=Qk st.f d (.vec l site (g+1) 0 (n+t.length) false) }
    else none
   |_=>none
  |_,_=>none
 |.mk site _ sz bytes z l c=>match l.ev st.f,c.ev st.f with
  |.int _ (.ofNat n),.int _ (.ofNat k)=>bif Nat.ble n k&&Nat.ble k 9223372036854775807&&Nat.ble (bytes*k) 281474976710656&&Qt (Qf st.m 0 site)then
    some { st with m:=Am.put st.m 0 site (.vec (QF st.m 0 site) sz (List.replicate n (JI sz z))),f:=Qk st.f d (.vec 0 site (QF st.m 0 site) 0 n false) }
   else none
  |_,_=>none
 |.usd r=>match r.ev st.f with
  |.vec l s g 0 n false=>match Qf st.m l s with
   |.vec g' _ _=>bif Nat.beq g' g&&Nat.ble 2000 s then some { st with f:=Qk st.f d (if n=0 then .anyp else .vptr l s g 0 0) } else none
   |_=>none
  |_=>none
 |.ustr el p r=>match p.ev st.f,r.ev st.f with
  |.anyp,.int .i64 (.ofNat 0)=>some { st with f:=Qk st.f d (.str []) }
  |.vptr l s g 0 0,.int .i64 (.ofNat (n+1))=>match Qf st.m l s with
   |.vec g' 1 xs=>match bytesOf (xs.take (n+1))with
    |some t=>bif Nat.beq s (el+2000)&&Nat.beq g' g&&Nat.ble (n+1) xs.length&&isBytes (xs.take (n+1)) t then some { st with m:=Am.put st.m l (el+2000) (.vec (g+1) 1 []),f:=Qk st.f d (.str t) } else none
    |none=>none
   |_=>none
  |_,_=>none
where
  isBytes:List AV→List UInt8→Bool
  | [],[]=>true
  |.int .u8 (.ofNat n) :: l,b :: t=>Nat.beq n b.toNat&&isBytes l t
  |_,_=>false

def F9 (call:KW)(it:Item)(st:St):Option St :=
 match it.g with
 |none=>XC call it.dst it.op st
 |some (j,want)=>match st.f j with
  |.bool b=>bif b==want then XC call it.dst it.op st else some { st with f:=Qk st.f it.dst (.tup []) }
  |.tup []=>some { st with f:=Qk st.f it.dst (.tup []) }
  |_=>none

def Gm (call:KW):List Item→St→Option St
 | [],st=>some st
 |it :: Qe,st=>match F9 call it st with
  |some st'=>Gm call Qe st'
  |none=>none

def Gn (rs:List RR)(n:Nat)(r:Option (Exit×St)):Option (AV×Qn) :=
 match r with
 |some (.normal,st)=>fin st
 |some (.ret,st)=>fin st
 |_=>none
where
 fin (st:St):Option (AV×Qn):=match st.ds with
  | []=>match Kr st rs with
   |some x=>match K2 st.m x with
    |some y=>match st.m with
     |_ :: m=>bif Nat.beq m.length n then some (y,m)else none
     | []=>none
    |none=>none
   |none=>none
  |_=>none

def Ya (nat:KW)(T:F8)(body:RC→St→Option (Exit×St)):KW:=fun k args m=>
 match nat k args m with
 |some r=>some r
 |none=>match T k with
  |some (c,rs,N)=>bif Nat.ble args.length N then Gn rs m.length (body c (St.enter args m))else none
  |none=>none

def Z3 (nat:KW)(T:F8):Nat→RC→St→Option (Exit×St)
 |0,_,_=>none
 |n+1,c,st=>match c with
  |.skip=>some (.normal,st)
  |.reg Qe=>match Gm (Ya nat T (Z3 nat T n)) Qe st with
   |some st'=>some (.normal,st')
   |none=>none
  |.draw Qe=>match Gm (Ya nat T (Z3 nat T n)) Qe st with
   |some st'=>some (.normal,st')
   |none=>none
  |.seq a b=>match Z3 nat T n a st with
   |some (.normal,st')=>Z3 nat T n b st'
   |r=>r
  |.cond c a b=>match c.ev st.f with
   |.bool t=>bif t then Z3 nat T n a st else Z3 nat T n b st
   |_=>none
  |.block id a=>match Z3 nat T n a st with
   |some (.exit i,st')=>if i=id then some (.normal,st')else some (.exit i,st')
   |r=>r
  |.loop a=>match Z3 nat T n a st with
   |some (.normal,st')=>Z3 nat T n (.loop a) st'
   |r=>r
  |.exit id=>some (.exit id,st)
  |.scope a=>match Z3 nat T n a st with
   |some (.goto _,_)=>none
   |r=>r
  |.lab=>some (.normal,st)
  |.ret=>some (.ret,st)
  |.gho g a=>match ZC g st with
   |some st'=>Z3 nat T n a st'
   |none=>none
  |.no=>none

section
variable {P:Program}{T:F8}

def K4 (P:Program)(call:KW):Prop:=∀k args m v m',call k args m=some (v,m')→Qh P k args m fun x m1=>x=v∧m1=m'

theorem Gp:∀ {l:List AV} {t:List UInt8},XC.isBytes l t=true→l=Qz t
 | [],[],_=>rfl
 | [],_ :: _,h=>by simp[XC.isBytes]at h
 |.int .u8 (.ofNat n) :: l,b :: t,h=>by
  simp only[XC.isBytes,QWE]at h;rw[Gp h.2,QWc h.1];rfl
 |x :: l,[],h=>by
  unfold XC.isBytes at h;split at h<;>simp_all

theorem NW {call:KW}(hc:K4 P call){d:Option Nat}{op:RO}{st st':St}(h:XC call d op st=some st'){K:St→Prop}(hK:K st'):YX P d op st K:=by
 cases op with
 |val vo=>
  simp only[XC]at h;split at h
  ·rename_i x hx;cases h;exact⟨x,hx,hK⟩
  ·cases h
 |allocN s z=>
  simp only[XC]at h;cases h1:XG st.m s<;>rw[h1]at h<;>simp only[cond_true,cond_false,reduceCtorEq,QWF]at h;subst h;exact⟨h1,hK⟩
 |boxN s r=>
  simp only[XC]at h;cases h1:(XG st.m s&&(r.ev st.f).cells.all AV.leaf)<;>rw[h1]at h<;>simp only[cond_true,cond_false,reduceCtorEq,QWF]at h;rw[QWE]at h1;subst h;exact⟨h1.1,h1.2,hK⟩
 |store n p r=>
  simp only[XC]at h;cases h1:(Nat.beq (r.ev st.f).cells.length n&&(r.ev st.f).cells.all AV.leaf)<;>rw[h1]at h<;>simp only[cond_true,cond_false,reduceCtorEq]at h;rw[QWE]at h1;split at h
  ·rename_i m' hm;cases h;exact⟨QWc h1.1,h1.2,m',hm,hK⟩
  ·cases h
 |storev l s n p r=>
  simp only[XC]at h;split at h
  ·rename_i l' s' o hp;cases h1:(Nat.beq l' l&&Nat.beq s' s&&Nat.beq (r.ev st.f).cells.length n&&(r.ev st.f).cells.all AV.leaf)<;>rw[h1]at h<;>simp only[cond_true,cond_false,reduceCtorEq]at h;simp only[QWE]at h1;obtain⟨⟨⟨a1,a2⟩,a3⟩,a4⟩:=h1;have e1:=QWc a1;have e2:=QWc a2;subst e1 e2;split at h
   ·rename_i m' hm;cases h;exact⟨⟨o,hp⟩,QWc a3,a4,m',hm,hK⟩
   ·cases h
  ·cases h
 |app sz bytes el s r=>
  simp only[XC]at h;split at h
  ·rename_i l site g n hs;split at h
   ·rename_i g' sz' xs hl;split at h
    ·rename_i ys hy;cases h1:(Nat.beq g' g&&Nat.beq sz' sz&&XK site el&&Nat.ble n xs.length&&ys.all (fun e=>e.cells.length==sz)&&Nat.ble (n+ys.length) maxLen&&Nat.ble ((n+ys.length)*bytes) 140737488355328)<;>rw[h1]at h<;>simp only[cond_true,cond_false,reduceCtorEq,QWF]at h;simp only[QWE]at h1;obtain⟨⟨⟨⟨⟨⟨a1,a2⟩,a3⟩,a4⟩,a5⟩,a6⟩,a7⟩:=h1;have e1:=QWc a1;have e2:=QWc a2;subst e1 e2 h;exact⟨l,site,_,n,xs,ys,hs,hl,a3,QXJ a4,hy,a5,QXJ a6,QXJ a7,hK⟩
    ·cases h
   ·cases h
  ·cases h
 |call f args=>
  simp only[XC]at h;split at h
  ·rename_i k fa fb hf;split at h
   ·rename_i ys hy;cases h1:AV.rfL ys<;>rw[h1]at h<;>simp only[cond_true,cond_false,reduceCtorEq]at h;split at h
    ·rename_i v m' hv;cases h2:(v.rf&&(AV.rfL (fa++args.map (RA.ev st.f)++fb)||v.nl))<;>rw[h2]at h<;>simp only[cond_true,cond_false,reduceCtorEq,QWF]at h;rw[QWE,QWk]at h2;subst h;exact⟨k,fa,fb,ys,v,hf,hy,h1,(hc _ _ _ _ _ hv).mono (fun _ _ e=>e.1),h2.1,h2.2,hK⟩
    ·cases h
   ·cases h
  ·cases h
 |callF f args=>
  simp only[XC]at h;split at h
  ·rename_i k fa fb hf;split at h
   ·rename_i v m' hv;cases h;exact⟨k,fa,fb,v,m',hf,hc _ _ _ _ _ hv,hK⟩
   ·cases h
  ·cases h
 |bsl sz len z ps=>
  simp only[XC]at h;split at h
  ·rename_i y hy;cases h1:(AV.rfL y&&y.all AV.leaf)<;>rw[h1]at h<;>simp only[cond_true,cond_false,reduceCtorEq,QWF]at h;rw[QWE]at h1;subst h;exact⟨y,hy,h1.1,h1.2,hK⟩
  ·cases h
 |bslv site sz len z ps=>
  simp only[XC]at h;split at h
  ·rename_i y hy;cases h1:(AV.rfL y&&y.all AV.leaf&&Qt (Qf st.m 0 site))<;>rw[h1]at h<;>simp only[cond_true,cond_false,reduceCtorEq,QWF]at h;simp only[QWE]at h1;subst h;exact⟨y,hy,h1.1.1,h1.1.2,h1.2,hK⟩
  ·cases h
 |bsl0 site sz=>
  simp only[XC]at h;cases h1:Qt (Qf st.m 0 site)<;>rw[h1]at h<;>simp only[cond_true,cond_false,reduceCtorEq,QWF]at h;subst h;exact⟨h1,hK⟩
 |isnil neg r=>
  simp only[XC]at h;split at h
  ·rename_i hr;cases h;exact⟨[],by rw[hr];rfl,fun e=>absurd hr e,fun _=>hK⟩
  ·rename_i l hr;split at h
   ·rename_i z zs hf;cases h;exact⟨l,by rw[hr];rfl,fun _=>hK,fun e=>by
     rcases e with e|e
     ·rw[hr]at e;cases e
     ·rw[hf]at e;cases e⟩
   ·cases h
  ·cases h
 |callK l s f args=>
  simp only[XC]at h;split at h
  ·rename_i k fa fb hf;split at h
   ·rename_i v m' hv;cases he:Gl (Qf m' l s) (Qf st.m l s)<;>rw[he]at h<;>simp only[cond_true,cond_false,reduceCtorEq,QWF]at h;subst h;exact⟨k,fa,fb,v,m',hf,hc _ _ _ _ _ hv,MD he,hK⟩
   ·cases h
  ·cases h
 |xb cnt k s c=>
  simp only[XC]at h;split at h
  ·rename_i t b hs hb;cases h;exact⟨t,b,hs,hb,hK⟩
  ·cases h
 |callR f args=>
  simp only[XC]at h;split at h
  ·rename_i k fa fb hf;split at h
   ·rename_i ys hy;cases h1:AV.rfL ys<;>rw[h1]at h<;>simp only[cond_true,cond_false,reduceCtorEq]at h;split at h
    ·rename_i v m' hv;cases h2:(v.rf&&(AV.rfL (fa++args.map (RA.ev st.f)++fb)||v.nl))<;>rw[h2]at h<;>simp only[cond_true,cond_false,reduceCtorEq,QWF]at h;rw[QWE,QWk]at h2;subst h;exact⟨k,fa,fb,ys,(· = v),hf,hy,h1,(hc _ _ _ _ _ hv).mono (fun _ _ e=>e.1),fun x hx=>by subst hx;exact h2,fun x hx=>by subst hx;exact hK⟩
    ·cases h
   ·cases h
  ·cases h
 |rngs s r=>
  simp only[XC]at h;split at h
  ·rename_i t ht;cases h1:XG st.m s<;>rw[h1]at h<;>simp only[cond_true,cond_false,reduceCtorEq,QWF]at h;subst h;exact⟨t,ht,h1,hK⟩
  ·cases h
 |mkm s=>
  simp only[XC]at h;cases h1:XG st.m s<;>rw[h1]at h<;>simp only[cond_true,cond_false,reduceCtorEq,QWF]at h;subst h;exact⟨h1,hK⟩
 |mput x i v=>
  simp only[XC]at h;split at h
  ·rename_i l s hx;split at h
   ·rename_i ks vs p hl;split at h
    ·rename_i k hi;cases h1:((v.ev st.f).gr&&AV.grL vs&&Nat.beq ks.length vs.length)<;>rw[h1]at h<;>simp only[cond_true,cond_false,reduceCtorEq,QWF]at h;subst h;simp only[QWE]at h1;exact⟨l,s,ks,vs,p,k,hx,hl,hi,h1.1.1,h1.1.2,QWc h1.2,hK⟩
    ·cases h
   ·cases h
  ·cases h
 |nxts r=>
  simp only[XC]at h;split at h
  ·rename_i l s hr;split at h
   ·rename_i t p hl;refine⟨l,s,t,p,hr,hl,fun e=>?_,fun e=>?_⟩
    ·have hb:Nat.blt p t.length=true:=by simp[Nat.blt_eq,e]
     rw[hb]at h;cases h;exact hK
    ·have hb:Nat.blt p t.length=false:=by
      cases hb:Nat.blt p t.length with
      |false=>rfl
      |true=>rw[Nat.blt_eq]at hb;omega
     rw[hb]at h;cases h;exact hK
   ·cases h
  ·cases h
 |appS el s r=>
  simp only[XC]at h;split at h
  ·rename_i l site g n t hs hr;split at h
   ·rename_i g' xs hl;cases h1:(Nat.beq g' g&&XK site el&&Nat.ble n xs.length&&Nat.ble (n+t.length) 140737488355328)<;>rw[h1]at h<;>simp only[cond_true,cond_false,reduceCtorEq,QWF]at h;simp only[QWE]at h1;obtain⟨⟨⟨a1,a2⟩,a3⟩,a4⟩:=h1;have e1:=QWc a1;subst e1 h;exact⟨l,site,_,n,xs,t,hs,hl,a2,QXJ a3,hr,QXJ a4,hK⟩
   ·cases h
  ·cases h
 |mk site el sz bytes z l c=>
  simp only[XC]at h;split at h
  ·rename_i kl n kc k hl hcc;cases h1:(Nat.ble n k&&Nat.ble k 9223372036854775807&&Nat.ble (bytes*k) 281474976710656&&Qt (Qf st.m 0 site))<;>rw[h1]at h<;>simp only[cond_true,cond_false,reduceCtorEq,QWF]at h;simp only[QWE]at h1;obtain⟨⟨⟨a1,a2⟩,a3⟩,a4⟩:=h1;subst h;exact⟨kl,kc,n,k,hl,hcc,QXJ a1,QXJ a2,QXJ a3,a4,hK⟩
  ·cases h
 |usd r=>
  simp only[XC]at h;split at h
  ·rename_i l s g n hr;split at h
   ·rename_i g' sz xs hl;cases h1:(Nat.beq g' g&&Nat.ble 2000 s)<;>rw[h1]at h<;>simp only[cond_true,cond_false,reduceCtorEq,QWF]at h;simp only[QWE]at h1;have e1:=QWc h1.1;subst e1 h;exact⟨l,s,_,n,sz,xs,QXJ h1.2,hr,hl,hK⟩
   ·cases h
  ·cases h
 |ustr el p r=>
  simp only[XC]at h;split at h
  ·rename_i hp hr;cases h;exact .inl ⟨hp,hr,hK⟩
  ·rename_i l s g n hp hr;split at h
   ·rename_i g' xs hl;split at h
    ·rename_i t ht;cases h1:(Nat.beq s (el+2000)&&Nat.beq g' g&&Nat.ble (n+1) xs.length&&XC.isBytes (xs.take (n+1)) t)<;>rw[h1]at h<;>simp only[cond_true,cond_false,reduceCtorEq,QWF]at h;simp only[QWE]at h1;obtain⟨⟨⟨a1,a2⟩,a3⟩,a4⟩:=h1;have e1:=QWc a1;have e2:=QWc a2;subst e1 e2 h;exact .inr ⟨l,_,n+1,xs,t,hp,hr,hl,QXJ a3,Nat.succ_ne_zero n,Gp a4,hK⟩
    ·cases h
   ·cases h
  ·cases h

theorem ME {call:KW}(hc:K4 P call){it:Item}{st st':St}(h:F9 call it st=some st'){K:St→Prop}(hK:K st'):XY P it st K:=by
 obtain⟨d,op,g⟩:=it;cases g with
 |none=>exact NW (d:=d) hc h hK
 |some p=>
  obtain⟨j,want⟩:=p;simp only[F9]at h;simp only[XY];split at h
  ·rename_i b hj;simp only[hj];cases hb:(b==want)with
   |true=>
    rw[hb]at h;have e:b=want:=by simpa using hb
    exact⟨fun _=>NW hc h hK,fun e'=>by rw[e]at e';cases want<;>cases e'⟩
   |false=>
    rw[hb]at h;simp only[cond_false,QWF]at h;subst h;exact⟨fun e=>by rw[e]at hb;simp at hb,fun _=>hK⟩
  ·rename_i hj;cases h;simp only[hj];exact⟨trivial,hK⟩
  ·cases h

theorem Hu {call:KW}(hc:K4 P call):∀ {Qe:List Item} {st st':St},Gm call Qe st=some st'→∀ {K:St→Prop},K st'→QE P Qe st K
 | [],_,_,h,_,hK=>by cases h;exact hK
 |it :: Qe,st,st',h,K,hK=>by
  simp only[Gm]at h;split at h
  ·rename_i st1 h1;exact ME hc h1 (Hu hc h hK)
  ·cases h

theorem RD {rs:List RR}{n:Nat}{r:Option (Exit×St)}{v:AV}{m':Qn}(h:Gn rs n r=some (v,m')):∃e st,r=some (e,st)∧Zo rs n (fun x m1=>x=v∧m1=m') e st:=by
 have fin:∀ {e:Exit} {st:St},(e=.normal∨e=.ret)→Gn.fin rs n st=some (v,m')→Zo rs n (fun x m1=>x=v∧m1=m') e st:=by
  intro e st he h;unfold Gn.fin at h;split at h
  ·rename_i hds;split at h
   ·rename_i x hx;split at h
    ·rename_i y hy;split at h
     ·rename_i fr m hm;cases hb:Nat.beq m.length n with
      |false=>rw[hb]at h;cases h
      |true=>
       rw[hb]at h;simp only[cond_true,QWF,QXL]at h;exact⟨he,hds,x,y,fr,m,hx,hy,hm,QWc hb,h.1,h.2⟩
     ·cases h
    ·cases h
   ·cases h
  ·cases h
 unfold Gn at h;split at h
 ·exact⟨_,_,rfl,fin (.inl rfl) h⟩
 ·exact⟨_,_,rfl,fin (.inr rfl) h⟩
 ·cases h

theorem WL {nat:KW}(hN:K4 P nat)(hT:Gk P T){body:RC→St→Option (Exit×St)}(hb:∀c st e st',body c st=some (e,st')→∀Q:Exit→St→Prop,Q e st'→QG P c st Q):K4 P (Ya nat T body):=by
 intro k args m v m' h;unfold Ya at h;split at h
 ·rename_i r hr;cases h;exact hN _ _ _ _ _ hr
 split at h
 ·rename_i c rs N hk;cases hN:Nat.ble args.length N with
  |false=>rw[hN]at h;cases h
  |true=>
   rw[hN]at h;simp only[cond_true]at h;obtain⟨e,st,h1,h2⟩:=RD h;obtain⟨fn,cd,a1,a2,a3,a4,a5,a6⟩:=hT k c rs N hk;exact YY a1 a2 a3 a4 a5 a6 (QXJ hN) (hb _ _ _ _ h1 _ h2)
 ·cases h

theorem MF {nat:KW}(hN:K4 P nat)(hT:Gk P T):∀(n:Nat) (c:RC) (st:St) (e:Exit) (st':St),Z3 nat T n c st=some (e,st')→∀Q:Exit→St→Prop,Q e st'→QG P c st Q:=by
 intro n
 induction n using Nat.strongRecOn with
 |_ n ihs=>
 cases n with
 |zero=>intro c st e st' h;cases h
 |succ n=>
  intro c st e st' h Q hQ;have ih:=ihs n (Nat.lt_succ_self n);cases c with
  |skip=>cases h;exact hQ
  |reg Qe=>
   simp only[Z3]at h;split at h
   ·rename_i st1 h1;cases h;exact Hu (WL hN hT ih) h1 hQ
   ·cases h
  |draw Qe=>
   simp only[Z3]at h;split at h
   ·rename_i st1 h1;cases h;exact Hu (WL hN hT ih) h1 hQ
   ·cases h
  |seq a b=>
   simp only[Z3]at h;split at h
   ·rename_i st1 h1;exact ih _ _ _ _ h1 _ (ih _ _ _ _ h Q hQ)
   ·rename_i h1;refine ih _ _ _ _ h _ ?_;cases e with
    |normal=>exact absurd h (h1 st')
    |_=>exact hQ
  |cond c a b=>
   simp only[Z3]at h;split at h
   ·rename_i t ht;cases t with
    |true=>exact⟨true,ht,fun _=>ih _ _ _ _ h Q hQ,(fun e=>by cases e)⟩
    |false=>exact⟨false,ht,(fun e=>by cases e),fun _=>ih _ _ _ _ h Q hQ⟩
   ·cases h
  |block id a=>
   simp only[Z3]at h;split at h
   ·rename_i i st1 h1;refine ih _ _ _ _ h1 _ ?_;show if i=id then Q .normal st1 else Q (.exit i) st1
    split at h
    ·rename_i hi;cases h;rw[QWJ hi];exact hQ
    ·rename_i hi;cases h;rw[QWu hi];exact hQ
   ·rename_i h1;refine ih _ _ _ _ h _ ?_;cases e with
    |exit i=>exact absurd h (h1 i st')
    |_=>exact hQ
  |loop a=>
   refine⟨fun k s=>k≤n∧Z3 nat T (k+1) (.loop a) s=some (e,st'),n,⟨QWe _,h⟩,fun k s hh=>?_⟩;obtain⟨hk,hs⟩:=hh;simp only[Z3]at hs;split at hs
   ·rename_i st1 h1;refine ihs k (by omega) _ _ _ _ h1 _ ?_;show ∃j,j<k∧j≤n∧Z3 nat T (j+1) (.loop a) st1=some (e,st');cases k with
    |zero=>cases h1
    |succ j=>exact⟨j,Nat.lt_succ_self j,by omega,hs⟩
   ·rename_i h1;refine ihs k (by omega) _ _ _ _ hs _ ?_;cases e with
    |normal=>exact absurd hs (h1 st')
    |_=>exact hQ
  |exit id=>cases h;exact hQ
  |scope a=>
   simp only[Z3]at h;split at h
   ·cases h
   ·rename_i h1;refine ih _ _ _ _ h _ ?_;cases e with
    |goto i=>exact absurd h (h1 i st')
    |_=>exact hQ
  |lab=>cases h;exact hQ
  |ret=>cases h;exact hQ
  |gho g a=>
   simp only[Z3]at h;split at h
   ·rename_i st1 h1;exact⟨st1,h1,ih _ _ _ _ h Q hQ⟩
   ·cases h
  |no=>cases h

def evT (nat:KW)(T:F8)(n:Nat)(k:FuncId)(args:List AV):Bool :=
 match Ya nat T (Z3 nat T n) k args []with
 |some (.bool true,_)=>true
 |_=>false

theorem V6 {nat:KW}(hN:K4 P nat)(hT:Gk P T){n:Nat}{k:FuncId}{args:List AV}(h:evT nat T n k args=true):Qi P k args (.bool true):=by
 unfold evT at h;split at h
 ·rename_i m' h1;exact(WL hN hT (MF hN hT n) _ _ _ _ _ h1).mono fun _ _ e=>e.1
 ·cases h

end

set_option linter.defProp false in
def Qa:=(QXS (QXS (QXS (QXS (QXS (QXS (QXS (QXS @Am.Yt @Am.Ys) (QXS @Am.Me @Am.J5)) (QXS (QXS @Am.ZG @Am.Mh) (QXS @Am.Mi (QXS @Am.NR @Am.NS)))) (QXS (QXS (QXS @Am.W9 @Am.SG) (QXS @Am.SH @Am.Md)) (QXS (QXS @Am.Mj @Am.Gb) (QXS @Am.Mk (QXS @Am.Ml @Am.Mm))))) (QXS (QXS (QXS (QXS @Am.Mn @Am.Mo) (QXS @Am.Mp @Am.Mq)) (QXS (QXS @Am.KM @Am.Mg) (QXS @Am.SI (QXS @Am.DW @Am.Ue)))) (QXS (QXS (QXS @Am.e_f @Am.J7) (QXS @Am.ZH @Am.J6)) (QXS (QXS @Am.J8 @Am.Ha) (QXS @Am.Kw (QXS @Am.F0 @Am.DU)))))) (QXS (QXS (QXS (QXS (QXS @Am.WK @Am.F1) (QXS @Am.Gc @Am.Ge)) (QXS (QXS @Am.DV @Am.Yu) (QXS @Am.Kv (QXS @Am.F2 @Am.F3)))) (QXS (QXS (QXS @Am.Jc @Am.Qq.eq_1) (QXS @Am.Qq.eq_2 @Am.Qq.eq_3)) (QXS (QXS @Am.Qq.eq_4 @Am.Qq.eq_5) (QXS @Am.Qq.eq_6 (QXS @Am.Qq.eq_7 @Am.Qq.eq_8))))) (QXS (QXS (QXS (QXS @Am.Qq.eq_9 @Am.Qq.eq_10) (QXS @Am.Qq.eq_11 @Am.Qq.eq_12)) (QXS (QXS @Am.Qq.eq_13 @Am.Qq.eq_14) (QXS @Am.Qq.eq_15 (QXS @Am.Qq.eq_16 @Am.Qq.eq_17)))) (QXS (QXS (QXS @Am.Qq.eq_18 @Am.Qq.eq_19) (QXS @Am.Qq.eq_20 @Am.Qq.eq_21)) (QXS (QXS @Am.Qq.eq_22 @Am.Qq.eq_23) (QXS @Am.Qq.eq_24 (QXS @Am.Qq.eq_25 @Am.Qq.eq_26))))))) (QXS (QXS (QXS (QXS (QXS (QXS @Am.Qq.eq_27 @Am.Qq.eq_28) (QXS @Am.Qq.eq_29 @Am.Qq.eq_30)) (QXS (QXS @Am.Qq.eq_31 @Am.Qq.eq_32) (QXS @Am.Qq.eq_1 (QXS @Am.Qq.eq_1 @Am.Qq.eq_1)))) (QXS (QXS (QXS @Am.QT.eq_1 @Am.QT.eq_2) (QXS @Am.QT.eq_3 @Am.QT.eq_4)) (QXS (QXS @Am.QT.eq_5 @Am.QT.eq_6) (QXS @Am.QT.eq_7 (QXS @Am.QT.eq_8 @Am.QT.eq_9))))) (QXS (QXS (QXS (QXS @Am.QT.eq_10 @Am.QT.eq_11) (QXS @Am.QT.eq_12 @Am.QT.eq_13)) (QXS (QXS @Am.QT.eq_14 @Am.QT.eq_15) (QXS @Am.QT.eq_16 (QXS @Am.QT.eq_17 @Am.Q4.eq_1)))) (QXS (QXS (QXS @Am.Q4.eq_2 @Am.Q4.eq_3) (QXS @Am.Q4.eq_4 @Am.Q4.eq_5)) (QXS (QXS @Am.Q4.eq_6 @Am.Q4.eq_7) (QXS @Am.Q4.eq_8 (QXS @Am.Q4.eq_9 @Am.Q4.eq_10)))))) (QXS (QXS (QXS (QXS (QXS @Am.Q4.eq_11 @Am.Q4.eq_12) (QXS @Am.Q4.eq_13 @Am.Q4.eq_14)) (QXS (QXS @Am.Q4.eq_15 @Am.Q4.eq_16) (QXS @Am.Y5.eq_1 (QXS @Am.Y5.eq_2 @Am.Y5.eq_3)))) (QXS (QXS (QXS @Am.Y5.eq_4 @cond_true.{0}) (QXS @cond_true.{1} @cond_false.{0})) (QXS (QXS @cond_false.{1} @QW7) (QXS @and_true (QXS @QXi.{0} @QXn.{0}))))) (QXS (QXS (QXS (QXS @List.getElem?_nil.{0} @QXr.{0}) (QXS @QXQ.{0} @Am.St.enter.eq_1)) (QXS (QXS @Am.FI.eq_1 @Am.AV.shL.eq_1) (QXS @Am.AV.shL.eq_2 (QXS @Am.AV.sh.eq_1 @Am.AV.sh.eq_2)))) (QXS (QXS (QXS @Am.AV.sh.eq_3 @Am.AV.sh.eq_4) (QXS @Am.AV.sh.eq_5 @Am.AV.sh.eq_6)) (QXS (QXS @Am.AV.sh.eq_7 @Am.AV.sh.eq_8) (QXS @Am.AV.sh.eq_9 (QXS @Am.Kr.eq_1 @Am.Kr.eq_2)))))))) (QXS (QXS (QXS (QXS (QXS (QXS (QXS @Am.RR.ev.eq_1 @Am.RR.ev.eq_2) (QXS @Am.RR.evL.eq_1 @Am.RR.evL.eq_2)) (QXS (QXS @Am.K2.eq_1 @Am.AV.still.eq_1) (QXS @Am.AV.still.eq_2 (QXS @Am.AV.still.eq_3 @Am.AV.still.eq_4)))) (QXS (QXS (QXS @Am.AV.still.eq_5 @Am.AV.still.eq_6) (QXS @Am.AV.still.eq_7 @Am.AV.still.eq_8)) (QXS (QXS @Am.AV.stillL.eq_1 @Am.AV.stillL.eq_2) (QXS @Am.AV.un.eq_1 (QXS @Am.AV.un.eq_2 @Am.AV.un.eq_3))))) (QXS (QXS (QXS (QXS @Am.AV.un.eq_4 @Am.AV.un.eq_5) (QXS @Am.AV.un.eq_6 @Am.AV.un.eq_7)) (QXS (QXS @Am.AV.un.eq_8 @Am.AV.un.eq_9) (QXS @Am.AV.un.eq_10 (QXS @Am.AV.un.eq_11 @Am.AV.un.eq_12)))) (QXS (QXS (QXS @Am.AV.un.eq_13 @Am.AV.unL.eq_1) (QXS @Am.AV.unL.eq_2 @Option.bind_some.{0,0})) (QXS (QXS @QW6.{0,0} @if_true.{0}) (QXS @if_true.{1} (QXS @if_false.{0} @if_false.{1})))))) (QXS (QXS (QXS (QXS (QXS @QWz @Go.IntKind.bits.eq_1) (QXS @Go.IntKind.bits.eq_2 @Go.IntKind.bits.eq_3)) (QXS (QXS @Go.IntKind.bits.eq_4 @Go.IntKind.bits.eq_5) (QXS @Go.IntKind.bits.eq_6 (QXS @Go.IntKind.bits.eq_7 @Go.IntKind.bits.eq_8)))) (QXS (QXS (QXS @QXc.{0} @QWv.{0}) (QXS @QXT @QXu)) (QXS (QXS @forall_const.{1} @not_true_eq_false) (QXS @not_false_eq_true (QXS @Am.Dn @QXU))))) (QXS (QXS (QXS (QXS @QXo @Am.Wh.eq_1) (QXS @ne_eq.{1} @Nat.one_ne_zero)) (QXS (QXS @decide_true @decide_false) (QXS @Am.AX (QXS @Am.Ry @Am.Qa1)))) (QXS (QXS (QXS @Am.Rz @Am.Qa2) (QXS @Am.Qa0 @Am.QxJ)) (QXS (QXS @Am.XG.eq_1 @Am.AV.unNL.eq_1) (QXS @Am.AV.unNL.eq_2 (QXS @Am.AV.unNL_zero @Am.AV.shNL.eq_1))))))) (QXS (QXS (QXS (QXS (QXS (QXS @Am.AV.shNL.eq_2 @Am.AV.shN.eq_1) (QXS @Am.AV.shN.eq_2 @Am.splice.eq_1)) (QXS (QXS @Am.part.eq_1 @Am.part.eq_2) (QXS @Am.fill.eq_1 (QXS @Am.fill.eq_2 @Am.AV.leaf.eq_1)))) (QXS (QXS (QXS @Am.AV.leaf.eq_2 @Am.AV.leaf.eq_3) (QXS @Am.AV.leaf.eq_4 @QXs.{0})) (QXS (QXS @QXt.{0} @QWN.{0}) (QXS @QXp.{0} (QXS @List.take_nil.{0} @QWQ.{0}))))) (QXS (QXS (QXS (QXS @QWX.{0} @QXv.{0}) (QXS @QWD.{0} @QWC.{0})) (QXS (QXS @QXj.{0} @Am.Qd.eq_1) (QXS @QXk (QXS @Am.ZE.eq_1 @Am.ZE.eq_2)))) (QXS (QXS (QXS @Am.ZE.eq_3 @Am.ZE.eq_4) (QXS @Am.ZE.eq_5 @Am.ZE.eq_6)) (QXS (QXS @Am.Zt.eq_1 @Am.Zt.eq_2) (QXS @Am.Q1.eq_1 (QXS @Am.Q1.eq_2 @Am.Q1.eq_3)))))) (QXS (QXS (QXS (QXS (QXS @Am.Q1.eq_4 @Am.Q1.eq_5) (QXS @Am.Q1.eq_6 @Am.Q1.eq_7)) (QXS (QXS @Am.U3.eq_1 @Am.U3.eq_2) (QXS @Am.U3.eq_3 (QXS @Am.HP.eq_1 @Am.HP.eq_2)))) (QXS (QXS (QXS @Am.HP.eq_3 @Am.HP.eq_4) (QXS @Am.QK4 @Am.Ms)) (QXS (QXS @Am.Mt @Am.Mu) (QXS @Am.VU (QXS @Am.Mv @Am.VV))))) (QXS (QXS (QXS (QXS @Am.VW @Am.VX) (QXS @Am.VY @Am.VZ)) (QXS (QXS @Am.Mw @Am.Mx) (QXS @Am.My (QXS @Am.Mz @Am.V0)))) (QXS (QXS (QXS @Am.MA @Am.V1) (QXS @Am.NF @Am.MB)) (QXS (QXS @Am.V2 @Am.U9) (QXS @Am.NG (QXS @Am.V3 @QXh.{0,0})))))))))

set_option linter.defProp false in
def eEX:=(QXS (QXS (QXS @Am.QX.eq_1 (QXS @Am.QX.eq_2 @Am.QX.eq_3)) (QXS (QXS @Am.Q8.eq_1 @Am.Q8.eq_2) (QXS @Am.Q8.eq_3 @Am.Q8.eq_4))) (QXS (QXS (QXS @Am.Qf.eq_1 @Am.Qf.eq_2) (QXS @Am.Qf.eq_3 @Am.put.eq_1)) (QXS (QXS @Am.put.eq_2 @Am.put.eq_3) (QXS @Am.AV.cells.eq_1 @Am.AV.cells.eq_2))))

set_option linter.defProp false in
def eE := QXS Qa eEX

set_option linter.defProp false in
def ZU:=(QXS (QXS (QXS (QXS (QXS (QXS (QXS @Am.Yt (QXS @Am.Ys @Am.Me)) (QXS @Am.J5 (QXS @Am.ZG @Am.Mh))) (QXS (QXS @Am.Mi (QXS @Am.NR @Am.NS)) (QXS @Am.W9 (QXS @Am.SG @Am.SH)))) (QXS (QXS (QXS @Am.Md (QXS @Am.Mj @Am.Gb)) (QXS @Am.Mk (QXS @Am.Ml @Am.Mm))) (QXS (QXS @Am.Mn (QXS @Am.Mo @Am.Mp)) (QXS @Am.Mq (QXS @Am.KM @Am.Mg))))) (QXS (QXS (QXS (QXS @Am.SI (QXS @Am.DW @Am.Ue)) (QXS @Am.e_f (QXS @Am.J7 @Am.ZH))) (QXS (QXS @Am.J6 (QXS @Am.J8 @Am.Ha)) (QXS @Am.Kw (QXS @Am.F0 @Am.DU)))) (QXS (QXS (QXS @Am.WK (QXS @Am.F1 @Am.Gc)) (QXS @Am.Ge (QXS @Am.DV @Am.Yu))) (QXS (QXS @Am.Kv (QXS @Am.F2 @Am.F3)) (QXS (QXS @Am.Jc @Am.Qq.eq_1) (QXS @Am.Qq.eq_2 @Am.Qq.eq_3)))))) (QXS (QXS (QXS (QXS (QXS @Am.Qq.eq_4 (QXS @Am.Qq.eq_5 @Am.Qq.eq_6)) (QXS @Am.Qq.eq_7 (QXS @Am.Qq.eq_8 @Am.Qq.eq_9))) (QXS (QXS @Am.Qq.eq_10 (QXS @Am.Qq.eq_11 @Am.Qq.eq_12)) (QXS @Am.Qq.eq_13 (QXS @Am.Qq.eq_14 @Am.Qq.eq_15)))) (QXS (QXS (QXS @Am.Qq.eq_16 (QXS @Am.Qq.eq_17 @Am.Qq.eq_18)) (QXS @Am.Qq.eq_19 (QXS @Am.Qq.eq_20 @Am.Qq.eq_21))) (QXS (QXS @Am.Qq.eq_22 (QXS @Am.Qq.eq_23 @Am.Qq.eq_24)) (QXS @Am.Qq.eq_25 (QXS @Am.Qq.eq_26 @Am.Qq.eq_27))))) (QXS (QXS (QXS (QXS @Am.Qq.eq_28 (QXS @Am.Qq.eq_29 @Am.Qq.eq_30)) (QXS @Am.Qq.eq_31 (QXS @Am.Qq.eq_32 @Am.Qq.eq_1))) (QXS (QXS @Am.Qq.eq_1 (QXS @Am.Qq.eq_1 @Am.QT.eq_1)) (QXS @Am.QT.eq_2 (QXS @Am.QT.eq_3 @Am.QT.eq_4)))) (QXS (QXS (QXS @Am.QT.eq_5 (QXS @Am.QT.eq_6 @Am.QT.eq_7)) (QXS @Am.QT.eq_8 (QXS @Am.QT.eq_9 @Am.QT.eq_10))) (QXS (QXS @Am.QT.eq_11 (QXS @Am.QT.eq_12 @Am.QT.eq_13)) (QXS (QXS @Am.QT.eq_14 @Am.QT.eq_15) (QXS @Am.QT.eq_16 @Am.QT.eq_17))))))) (QXS (QXS (QXS (QXS (QXS (QXS @Am.Q4.eq_1 (QXS @Am.Q4.eq_2 @Am.Q4.eq_3)) (QXS @Am.Q4.eq_4 (QXS @Am.Q4.eq_5 @Am.Q4.eq_6))) (QXS (QXS @Am.Q4.eq_7 (QXS @Am.Q4.eq_8 @Am.Q4.eq_9)) (QXS @Am.Q4.eq_10 (QXS @Am.Q4.eq_11 @Am.Q4.eq_12)))) (QXS (QXS (QXS @Am.Q4.eq_13 (QXS @Am.Q4.eq_14 @Am.Q4.eq_15)) (QXS @Am.Q4.eq_16 (QXS @Am.Y5.eq_1 @Am.Y5.eq_2))) (QXS (QXS @Am.Y5.eq_3 (QXS @Am.Y5.eq_4 @cond_true.{0})) (QXS @cond_true.{1} (QXS @cond_false.{0} @cond_false.{1}))))) (QXS (QXS (QXS (QXS @QW7 (QXS @and_true @QXi.{0})) (QXS @QXn.{0} (QXS @List.getElem?_nil.{0} @QXr.{0}))) (QXS (QXS @QXQ.{0} (QXS @Am.St.enter.eq_1 @Am.FI.eq_1)) (QXS @Am.AV.shL.eq_1 (QXS @Am.AV.shL.eq_2 @Am.AV.sh.eq_1)))) (QXS (QXS (QXS @Am.AV.sh.eq_2 (QXS @Am.AV.sh.eq_3 @Am.AV.sh.eq_4)) (QXS @Am.AV.sh.eq_5 (QXS @Am.AV.sh.eq_6 @Am.AV.sh.eq_7))) (QXS (QXS @Am.AV.sh.eq_8 (QXS @Am.AV.sh.eq_9 @Am.Kr.eq_1)) (QXS (QXS @Am.Kr.eq_2 @Am.RR.ev.eq_1) (QXS @Am.RR.ev.eq_2 @Am.RR.evL.eq_1)))))) (QXS (QXS (QXS (QXS (QXS @Am.RR.evL.eq_2 (QXS @Am.K2.eq_1 @Am.AV.still.eq_1)) (QXS @Am.AV.still.eq_2 (QXS @Am.AV.still.eq_3 @Am.AV.still.eq_4))) (QXS (QXS @Am.AV.still.eq_5 (QXS @Am.AV.still.eq_6 @Am.AV.still.eq_7)) (QXS @Am.AV.still.eq_8 (QXS @Am.AV.stillL.eq_1 @Am.AV.stillL.eq_2)))) (QXS (QXS (QXS @Am.AV.un.eq_1 (QXS @Am.AV.un.eq_2 @Am.AV.un.eq_3)) (QXS @Am.AV.un.eq_4 (QXS @Am.AV.un.eq_5 @Am.AV.un.eq_6))) (QXS (QXS @Am.AV.un.eq_7 (QXS @Am.AV.un.eq_8 @Am.AV.un.eq_9)) (QXS @Am.AV.un.eq_10 (QXS @Am.AV.un.eq_11 @Am.AV.un.eq_12))))) (QXS (QXS (QXS (QXS @Am.AV.un.eq_13 (QXS @Am.AV.unL.eq_1 @Am.AV.unL.eq_2)) (QXS @Option.bind_some.{0,0} (QXS @QW6.{0,0} @if_true.{0}))) (QXS (QXS @if_true.{1} (QXS @if_false.{0} @if_false.{1})) (QXS @QWz (QXS @Go.IntKind.bits.eq_1 @Go.IntKind.bits.eq_2)))) (QXS (QXS (QXS @Go.IntKind.bits.eq_3 (QXS @Go.IntKind.bits.eq_4 @Go.IntKind.bits.eq_5)) (QXS @Go.IntKind.bits.eq_6 (QXS @Go.IntKind.bits.eq_7 @Go.IntKind.bits.eq_8))) (QXS (QXS @QXc.{0} (QXS @QWv.{0} @QXT)) (QXS (QXS @QXu @forall_const.{1}) (QXS @not_true_eq_false @not_false_eq_true))))))))

end Go.Proofs.YtdhlbgejhcejcaaGreatDoor.Am

namespace Go.Proofs.YtdhlbgejhcejcaaGreatDoor.Rc
open Go Am
abbrev ja (a b:Nat):Am.Item:=⟨some a,.val (.mov (.t b)),none⟩
abbrev jb (a b c:Nat):Am.Item:=⟨some a,.val (.faddr b (.t c)),none⟩
abbrev jc (a b:Nat):Am.Item:=⟨some a,.val (.load none (.t b)),none⟩
abbrev jd (a:Nat)(b:Int):Am.Item:=⟨some a,.val (.mov (.c (.int .i64 b))),none⟩
abbrev je (a b c:Nat):Am.Item:=⟨some a,.boxN b (.t c),none⟩
abbrev jf (a b c:Nat):Am.Item:=⟨some a,.val (.load (some b) (.t c)),none⟩
abbrev jg (a b c:Nat):Am.Item:=⟨some a,.val (.mov (.t b)),some (c,true)⟩
abbrev jh (a:Nat):Am.Item:=⟨some a,.val (.mov (.c (.bool false))),none⟩
abbrev ji (a b c:Nat):Am.Item:=⟨some a,.val (.len b (.t c)),none⟩
abbrev jj (a b c:Nat):Am.Item:=⟨some a,.val (.pick (.t b) (.t c) (.c (.bool false))),none⟩
abbrev jk (a b c d:Nat):Am.Item:=⟨some a,.val (.faddr b (.t c)),some (d,true)⟩
abbrev jl (a b c d:Nat):Am.Item:=⟨some a,.val (.iaddr b none (.t c) (.t d)),none⟩
abbrev jm (a b:Nat)(c:Int):Am.Item:=⟨some a,.val (.bin .num .add (.t b) (.c (.int .i64 c))),none⟩
abbrev jn (a b c d:Nat):Am.Item:=⟨some a,.val (.faddr b (.t c)),some (d,false)⟩
abbrev jo (a b c:Nat):Am.Item:=⟨some a,.val (.pick (.t b) (.c (.bool true)) (.t c)),none⟩
abbrev jp (a b c:Nat):Am.Item:=⟨some a,.val (.bin .num .lss (.t b) (.t c)),none⟩
abbrev jq (a b c:Nat):Am.Item:=⟨none,.store a (.t b) (.t c),none⟩
abbrev jr (a b c:Nat):Am.Item:=⟨some a,.call (.f b) [(.t c)],none⟩
abbrev js (a b:Nat)(c:Int):Am.Item:=⟨some a,.val (.bin .num .eql (.t b) (.c (.int .i64 c))),none⟩
abbrev jt (a b c:Nat):Am.Item:=⟨some a,.val (.load none (.t b)),some (c,false)⟩
abbrev ju (a b c:Nat):Am.Item:=⟨some a,.val (.load none (.t b)),some (c,true)⟩
abbrev jv (a b c:Nat):Am.Item:=⟨some a,.val (.mov (.t b)),some (c,false)⟩
abbrev jw (a b c d e:Nat):Am.Item:=⟨some a,.val (.loadv b c (some d) (.t e)),none⟩
abbrev jx (a b c:Nat):Am.Item:=⟨some a,.val (.ext (.t b) c),none⟩
abbrev jy (a b c d:Nat):Am.Item:=⟨some a,.call (.f b) [(.t c),(.t d)],none⟩
abbrev jz (a b:Nat):Am.Item:=⟨some a,.val (.un .not (.t b)),none⟩
abbrev ya (a b c d e:Nat):Am.Item:=⟨some a,.val (.iaddr b none (.t c) (.t d)),some (e,true)⟩
abbrev yb (a b c d:Nat):Am.Item:=⟨some a,.val (.loadv b c none (.t d)),none⟩
abbrev yc (a b:Nat)(c:Int):Am.Item:=⟨some a,.val (.bin .num .neq (.t b) (.c (.int .i64 c))),none⟩
abbrev yd (a b c:Nat):Am.Item:=⟨some a,.val (.loadr (some b) (.t c)),none⟩
abbrev ye (a b c d:Nat):Am.Item:=⟨some a,.val (.len b (.t c)),some (d,false)⟩
abbrev yf (a:Nat):Am.Item:=⟨some a,.val (.mov (.c (.nils))),none⟩
abbrev yg (a b c d e:Nat):Am.Item:=⟨none,.storev a b c (.t d) (.t e),none⟩
abbrev yh (a b c d e:Nat):Am.Item:=⟨some a,.call (.f b) [(.t c),(.t d),(.t e)],none⟩
abbrev yi (a b c:Nat):Am.Item:=⟨some a,.val (.bin .num .add (.t b) (.t c)),none⟩
abbrev yj (a:Nat):Am.Item:=⟨some a,.val (.mov (.c (.bool true))),none⟩
abbrev yk (a b:Nat):Am.Item:=⟨some a,.allocN b [.int .i64 0,.int .u64 0,.str [],.nils,.nils,.nils,.nils],none⟩
abbrev yl (a b:Nat)(c:Int)(d:Nat):Am.Item:=⟨some a,.val (.bin .num .eql (.t b) (.c (.int .i64 c))),some (d,true)⟩
abbrev ym (a b c:Nat):Am.Item:=⟨some a,.val (.loadr none (.t b)),some (c,true)⟩
abbrev yn (a b:Nat)(c:Int):Am.Item:=⟨some a,.val (.bin .num .gtr (.t b) (.c (.int .i64 c))),none⟩
abbrev yo (a b:Nat)(c:Int):Am.Item:=⟨some a,.val (.bin .num .geq (.t b) (.c (.int .i64 c))),none⟩
abbrev yp (a b c d e f:Nat):Am.Item:=⟨some a,.app b c d (.t e) (.t f),none⟩
abbrev yq (a b:Nat)(c:Int)(d:Nat):Am.Item:=⟨some a,.val (.bin .num .eql (.t b) (.c (.int .i64 c))),some (d,false)⟩
abbrev yr (a b:Nat)(c:Int)(d:Nat):Am.Item:=⟨some a,.val (.bin .num .gtr (.t b) (.c (.int .i64 c))),some (d,false)⟩
abbrev ys (a b c d:Nat):Am.Item:=⟨some a,.val (.len b (.t c)),some (d,true)⟩
abbrev yt (a b c d:Nat):Am.Item:=⟨some a,.callF (.f b) [(.t c),(.t d)],none⟩
abbrev yu (a b c d:Nat):Am.Item:=⟨some a,.val (.load (some b) (.t c)),some (d,false)⟩
abbrev yv (a:Nat):Am.Item:=⟨some a,.val (.mov (.c (.str []))),none⟩
abbrev yw (a b:Nat)(c:Int):Am.Item:=⟨some a,.val (.bin .num .lss (.t b) (.c (.int .i64 c))),none⟩
abbrev yx (a b c d:Nat):Am.Item:=⟨some a,.val (.pick (.t b) (.t c) (.c (.bool false))),some (d,false)⟩
abbrev yy (a b c d e:Nat):Am.Item:=⟨some a,.val (.loadv b c none (.t d)),some (e,true)⟩
abbrev yz (a b c d e:Nat):Am.Item:=⟨some a,.val (.iaddr b none (.t c) (.t d)),some (e,false)⟩
abbrev za (a b c:Nat):Am.Item:=⟨some a,.val (.un .not (.t b)),some (c,true)⟩
abbrev zb (a b c:Nat):Am.Item:=⟨some a,.val (.un .not (.t b)),some (c,false)⟩
abbrev zd (a b c d:Nat):Am.Item:=⟨some a,.call (.f b) [(.t c)],some (d,false)⟩
abbrev ze (a b:Nat)(c:Int)(d:Nat):Am.Item:=⟨some a,.val (.bin .num .leq (.t b) (.c (.int .i64 c))),some (d,true)⟩
abbrev zf (a b c d:Nat):Am.Item:=⟨some a,.val (.pick (.t b) (.c (.bool true)) (.t c)),some (d,true)⟩
abbrev zg (a b c d:Nat):Am.Item:=⟨some a,.call (.f b) [(.t c)],some (d,true)⟩
abbrev zh (a b:Nat):Am.Item:=⟨some a,.allocN b [.int .i64 0,.str [],.str [],.int .i64 0,.int .i64 0,.int .i64 0,.int .i64 0,.int .i64 0],none⟩
abbrev zi (a b:Nat)(c:Int):Am.Item:=⟨some a,.val (.bin .num .sub (.t b) (.c (.int .i64 c))),none⟩
abbrev zj (a:Nat)(b:Int):Am.Item:=⟨some a,.val (.mov (.c (.int .u64 b))),none⟩
abbrev zk (a b c d e:Nat):Am.Item:=⟨some a,.val (.loadv b c none (.t d)),some (e,false)⟩
abbrev zl (a b c d e f:Nat):Am.Item:=⟨some a,.call (.f b) [(.t c),(.t d),(.t e),(.t f)],none⟩
abbrev zm (a b:Nat):Am.Item:=⟨some a,.allocN b [.str [],.int .i64 0,.int .i64 0,.int .i64 0,.int .i64 0,.int .i64 0],none⟩
abbrev zn (a b c d e:Nat):Am.Item:=⟨some a,.callF (.f b) [(.t c),(.f d)],some (e,false)⟩
abbrev zo (a b:Nat):Am.Item:=⟨some a,.val (.loadr none (.t b)),none⟩
abbrev zp (a b c d:Nat):Am.Item:=⟨some a,.val (.load (some b) (.t c)),some (d,true)⟩
abbrev zq (a b c:Nat):Am.Item:=⟨some a,.val (.bin .num .neq (.t b) (.t c)),none⟩
abbrev zs (a b:Nat):Am.Item:=⟨some a,.allocN b [.int .i64 0,.int .i64 0,.int .u64 0,.str []],none⟩
abbrev zt (a b c:Nat):Am.Item:=⟨some a,.val (.bin .num .eql (.t b) (.t c)),none⟩
abbrev zu (a b c d:Nat):Am.Item:=⟨some a,.val (.bin .num .neq (.t b) (.t c)),some (d,false)⟩
abbrev zv (a b:Nat)(c:Int)(d:Nat):Am.Item:=⟨some a,.val (.bin .num .neq (.t b) (.c (.int .i64 c))),some (d,true)⟩
abbrev zw (a b:Nat)(c:Int)(d:Nat):Am.Item:=⟨some a,.val (.bin .num .add (.t b) (.c (.int .i64 c))),some (d,true)⟩
abbrev zx (a b c d:Nat):Am.Item:=⟨some a,.callF (.f b) [(.t c),(.f d)],none⟩
abbrev zy (a b c:Nat):Am.Item:=⟨some a,.val (.bin .num .gtr (.t b) (.t c)),none⟩
abbrev zz (a b:Nat)(c:Int):Am.Item:=⟨some a,.val (.bin .num .eql (.t b) (.c (.int .u64 c))),none⟩
abbrev Hb (a b c d e:Nat):Am.Item:=⟨some a,.call (.f b) [(.t c),(.t d)],some (e,true)⟩
abbrev Gq (a b:Nat):Am.Item:=⟨some a,.val (.cvi .i64 (.t b)),none⟩
abbrev Gr (a b c d:Nat):Am.Item:=⟨some a,.val (.bin .num .lss (.t b) (.t c)),some (d,true)⟩
abbrev Gs (a b:Nat)(c:Int)(d:Nat):Am.Item:=⟨some a,.val (.bin .num .geq (.t b) (.c (.int .i64 c))),some (d,true)⟩
abbrev Gt (a b c d:Nat):Am.Item:=⟨some a,.val (.loadr (some b) (.t c)),some (d,true)⟩
abbrev DY (a b:Nat):Am.Item:=⟨some a,.call (.f b) [],none⟩
abbrev DZ (a b c d e f:Nat):Am.Item:=⟨some a,.val (.loadv b c (some d) (.t e)),some (f,true)⟩
abbrev D0 (a b:Nat)(c:Int)(d:Nat):Am.Item:=⟨some a,.val (.bin .num .neq (.t b) (.c (.int .i64 c))),some (d,false)⟩
abbrev D1 (a b:Nat)(c:Int)(d:Nat):Am.Item:=⟨some a,.val (.bin .num .lss (.t b) (.c (.int .i64 c))),some (d,false)⟩
abbrev D2 (a b c d e:Nat):Am.Item:=⟨some a,.call (.f b) [(.t c),(.t d)],some (e,false)⟩
abbrev D3 (a b:Nat)(c:Int)(d:Nat):Am.Item:=⟨some a,.val (.bin .num .sub (.t b) (.c (.int .i64 c))),some (d,true)⟩
abbrev D4 (a b c:Nat):Am.Item:=⟨some a,.val (.idx (.t b) (.t c)),none⟩
abbrev Ba (a b:Nat):Am.Item:=⟨some a,.val (.cvi .u64 (.t b)),none⟩
abbrev Bb (a b c:Nat):Am.Item:=⟨some a,.val (.mkfn (.func b) [] [(.t c)]),none⟩
abbrev Bc (a b c:Nat):Am.Item:=⟨some a,.callF (.t b) [(.t c)],none⟩
abbrev Bd (a b c d:Nat):Am.Item:=⟨some a,.val (.slc (some b) (.t c) none (some (.t d)) none),none⟩
abbrev Be (a b:Nat):Am.Item:=⟨some a,.val (.nilck (.t b)),none⟩
abbrev Bf (a b c:Nat):Am.Item:=⟨some a,.val (.bin .num .leq (.t b) (.t c)),none⟩
abbrev Bg (a b c d:Nat):Am.Item:=⟨some a,.val (.bin .num .leq (.t b) (.t c)),some (d,true)⟩
abbrev Bh (a b c d:Nat)(e:Int)(f:Nat):Am.Item:=⟨some a,.call (.f b) [(.t c),(.t d),(.c (.int .i64 e))],some (f,true)⟩
abbrev NX (a b:Nat):Am.Item:=⟨some a,.allocN b [.int .i64 0,.int .i64 0,.int .u64 0,.str [],.nils,.nils,.nils,.nils],none⟩
abbrev NY (a b c:Nat)(d:Int)(e:Nat):Am.Item:=⟨some a,.val (.iaddr b none (.t c) (.c (.int .i64 d))),some (e,true)⟩
abbrev NZ (a b c d e f:Nat):Am.Item:=⟨some a,.bsl b c [.int .i64 0,.int .i64 0,.int .u64 0,.str []] [(d,e,(.t f))],none⟩
abbrev N0 (a b c:Nat):Am.Item:=⟨some a,.callF (.f b) [(.t c)],none⟩
abbrev N1 (a b:Nat)(c:Int)(d:Nat):Am.Item:=⟨some a,.val (.bin .num .gtr (.t b) (.c (.int .i64 c))),some (d,true)⟩
abbrev N2 (a b c:Nat):Am.Item:=⟨some a,.val (.loadr none (.t b)),some (c,false)⟩
abbrev N3 (a b c:Nat):Am.Item:=⟨some a,.val (.bin .num .sub (.t b) (.t c)),none⟩
abbrev MG (a b c:Nat):Am.Item:=⟨some a,.call (.f b) [],some (c,true)⟩
abbrev MH (a b c d:Nat):Am.Item:=⟨some a,.val (.bin .str .eql (.t b) (.t c)),some (d,true)⟩
abbrev MI (a b c d:Nat):Am.Item:=⟨some a,.val (.build [.nils,.nils] [(b,c,(.t d))]),none⟩
abbrev MJ (a b c d:Nat):Am.Item:=⟨some a,.val (.bin .num .geq (.t b) (.t c)),some (d,false)⟩
abbrev MK (a b c:Nat):Am.Item:=⟨some a,.val (.bin .str .eql (.t b) (.t c)),none⟩
abbrev ML (a b:Nat)(c:Int)(d:Nat):Am.Item:=⟨some a,.val (.bin .num .add (.t b) (.c (.int .i64 c))),some (d,false)⟩
abbrev MM (a:Nat)(b:Int)(c:Nat):Am.Item:=⟨some a,.val (.bin .num .mul (.c (.int .i64 b)) (.t c)),none⟩
abbrev MN (a b c:Nat):Am.Item:=⟨some a,.val (.slc none (.t b) (some (.t c)) none none),none⟩
abbrev MO (a b c d:Nat):Am.Item:=⟨some a,.val (.loadr (some b) (.t c)),some (d,false)⟩
abbrev MP (a b:Nat)(c:Int):Am.Item:=⟨some a,.val (.bin .num .lss (.t b) (.c (.int .u64 c))),none⟩
abbrev MQ (a b:Nat)(c:Int):Am.Item:=⟨some a,.val (.bin .num .eql (.t b) (.c (.int .u8 c))),none⟩
abbrev MS (a b c d:Nat):Am.Item:=⟨some a,.val (.idx (.t b) (.t c)),some (d,true)⟩
abbrev MT (a b c d e f:Nat):Am.Item:=⟨some a,.val (.loadv b c (some d) (.t e)),some (f,false)⟩
abbrev MU (a b:Nat)(c:Int):Am.Item:=⟨some a,.val (.bin .num .geq (.t b) (.c (.int .u8 c))),none⟩
abbrev MV (a b:Nat)(c:Int)(d:Nat):Am.Item:=⟨some a,.val (.bin .num .leq (.t b) (.c (.int .u8 c))),some (d,true)⟩
abbrev MX (a b c d e f:Nat):Am.Item:=⟨some a,.call (.f b) [(.t c),(.t d),(.t e)],some (f,false)⟩
abbrev jQ (g:List Am.Item)(c:RC):RC:=.seq (.reg g) c
abbrev jD (g:List Am.Item)(c:RC):RC:=.seq (.draw g) c
abbrev jX (a b:Nat):RC:=.cond (.t a) .skip (.exit b)
abbrev IL:=List Am.Item
abbrev CT (k n:Nat)(r:RC)(o:List RR):Prop:=CK Tryz.prog k n r o
def QK5:IL:=[jh 0]
def QK6:IL:=[⟨some 11,.val (.build [.int .i64 0,.int .u64 0,.str [],.nils,.nils,.nils,.nils] [(0,1,(.c (.int .i64 4))),(1,1,(.c (.int .u64 1)))]),none⟩,yk 1 1,jq 7 1 11]
def QK7:IL:=[⟨some 12,.val (.build [.int .i64 0,.int .u64 0,.str [],.nils,.nils,.nils,.nils] [(0,1,(.c (.int .i64 4))),(1,1,(.c (.int .u64 2)))]),none⟩,yk 2 2,jq 7 2 12]
def QK8:IL:=[jf 13 7 1,jf 14 7 2,⟨some 15,.bsl 7 2 [.int .i64 0,.int .u64 0,.str [],.nils,.nils,.nils,.nils] [(0,7,(.t 13)),(7,7,(.t 14))],none⟩,⟨some 16,.val (.build [.int .i64 0,.int .u64 0,.str [],.nils,.nils,.nils,.nils] [(0,1,(.c (.int .i64 11))),(3,1,(.t 15))]),none⟩,⟨some 17,.val (.build [.int .i64 0,.int .i64 0,.int .u64 0,.str [],.nils,.nils,.nils,.nils] [(0,1,(.c (.int .i64 3))),(1,7,(.t 16))]),none⟩,NX 3 3,jq 8 3 17]
def QK9:IL:=[⟨some 18,.val (.build [.int .i64 0,.int .u64 0,.str [],.nils,.nils,.nils,.nils] [(0,1,(.c (.int .i64 4))),(1,1,(.c (.int .u64 5)))]),none⟩,⟨some 19,.val (.build [.int .i64 0,.int .i64 0,.int .u64 0,.str [],.nils,.nils,.nils,.nils] [(0,1,(.c (.int .i64 1))),(1,7,(.t 18))]),none⟩,⟨some 20,.val (.build [.int .i64 0,.int .u64 0,.str [],.nils,.nils,.nils,.nils] [(0,1,(.c (.int .i64 2))),(1,1,(.c (.int .u64 18446744073709551615)))]),none⟩,⟨some 21,.val (.build [.int .i64 0,.int .i64 0,.int .u64 0,.str [],.nils,.nils,.nils,.nils] [(0,1,(.c (.int .i64 2))),(1,7,(.t 20))]),none⟩,jf 22 8 3,⟨some 23,.bsl 8 3 [.int .i64 0,.int .i64 0,.int .u64 0,.str [],.nils,.nils,.nils,.nils] [(0,8,(.t 19)),(8,8,(.t 21)),(16,8,(.t 22))],none⟩,⟨some 24,.val (.build [.int .i64 0,.int .u64 0,.str [],.nils,.nils,.nils,.nils] [(0,1,(.c (.int .i64 10))),(5,1,(.t 23))]),none⟩,yk 4 4,jq 7 4 24]
def QLa:IL:=[DY 26 22,jw 27 0 4 7 4,⟨some 28,.call (.f 10) [(.t 26),(.c (.str [97,46,77])),(.t 27)],none⟩,ja 25 28,jx 29 25 0,jx 30 25 1,ja 5 29,ja 6 30]
def QLb:IL:=[DY 32 22,jw 33 0 4 7 4,⟨some 34,.call (.f 10) [(.t 32),(.c (.str [97,46,78])),(.t 33)],none⟩,ja 31 34,jx 35 31 0,jx 36 31 1,ja 7 35,ja 8 36]
def QLc:IL:=[DY 37 22,jw 38 0 3 8 3,⟨some 39,.call (.f 16) [(.t 37),(.c (.int .i64 0)),(.t 38)],none⟩,ja 9 39]
def QLd:IL:=[⟨some 40,.val (.build [.int .i64 0,.int .u64 0,.str [],.nils,.nils,.nils,.nils] [(0,1,(.c (.int .i64 2))),(1,1,(.c (.int .u64 18446744073709551615)))]),none⟩,jr 41 23 40,zs 10 10,jq 4 10 41]
def QLe:IL:=[ja 42 5,⟨some 43,.val (.bin .str .eql (.t 42) (.c (.str [8,5,17,1,29,3,0,1,2]))),none⟩,ja 44 43,jg 45 6 44,yl 46 45 0 44,jj 47 44 46,ja 48 47,jg 49 8 48,yl 50 49 10 48,jj 51 48 50,ja 52 51,MG 53 22 52,DZ 54 0 4 7 4 52,⟨some 55,.call (.f 11) [(.t 53),(.c (.int .i64 0)),(.t 54)],(some (52,true))⟩,jg 56 5 52,MH 57 55 56 52,jj 58 52 57,ja 59 58,MG 60 22 59,DZ 61 0 4 7 4 59,⟨some 62,.call (.f 24) [(.t 60),(.c (.str [97,46,77])),(.t 61)],(some (59,true))⟩,yl 63 62 9 59,jj 64 59 63,ja 65 64,MG 66 22 65,DZ 67 0 4 7 4 65,⟨some 68,.call (.f 24) [(.t 66),(.c (.str [])),(.t 67)],(some (65,true))⟩,yl 69 68 (-1) 65,jj 70 65 69,ja 71 70,jg 72 9 71,ys 73 1 72 71,yl 74 73 1 71,jj 75 71 74,ja 76 75,jg 77 9 76,NY 78 4 77 0 76,jk 79 1 78 76,ym 80 79 76,yl 81 80 5 76,jj 82 76 81,ja 83 82,jg 84 9 83,NY 85 4 84 0 83,jk 86 3 85 83,ym 87 86 83,⟨some 88,.val (.bin .str .eql (.t 87) (.c (.str [0,1,2]))),(some (83,true))⟩,jj 89 83 88,ja 90 89,jk 91 1 10 90,yy 92 0 10 91 90,yl 93 92 1 90,jj 94 90 93,ja 95 94,jk 96 2 10 95,yy 97 0 10 96 95,⟨some 98,.val (.bin .num .eql (.t 97) (.c (.int .u64 1))),(some (95,true))⟩,jj 99 95 98,ja 0 99]
def r8:RC:=jQ QK5 (jQ QK6 (jQ QK7 (jQ QK8 (jQ QK9 (jD QLa (jD QLb (jD QLc (jQ QLd (jD QLe (.ret))))))))))
def o8:List RR:=[.tmp 0]
theorem k8:CT 8 100 r8 o8:=ck Tryz.func8 Tryz.ntmps8 (by decide +kernel)
abbrev QxK:IL:=[je 1 1 0,zs 2 2]
abbrev QxL:IL:=[jb 3 0 1,jc 4 3]
abbrev QxM:IL:=[js 6 4 1,ja 5 6]
abbrev QxN:IL:=[js 7 4 4,ja 5 7]
abbrev QxO:IL:=[js 8 4 5,ja 5 8]
abbrev QxP:IL:=[js 9 4 9,ja 5 9]
abbrev QxQ:IL:=[jb 10 1 1,jc 11 10,⟨some 12,.val (.build [.int .i64 0,.int .i64 0,.int .u64 0,.str []] [(1,1,(.c (.int .i64 0))),(2,1,(.t 11))]),none⟩,jq 4 2 12]
abbrev QxR:IL:=[js 14 4 2,ja 13 14]
abbrev QxS:IL:=[js 15 4 3,ja 13 15]
abbrev QxT:IL:=[jb 16 1 1,jc 17 16,Gq 18 17,jr 19 49 18,⟨some 20,.val (.build [.int .i64 0,.int .i64 0,.int .u64 0,.str []] [(1,1,(.c (.int .i64 1))),(2,1,(.t 19))]),none⟩,jq 4 2 20]
abbrev Qa7:IL:=[js 22 4 6,ja 21 22]
abbrev Qa8:IL:=[jf 23 7 1,jr 24 50 23,⟨some 25,.val (.fld 1 none (.t 24)),none⟩,⟨some 26,.val (.build [.int .i64 0,.int .i64 0,.int .u64 0,.str []] [(1,1,(.c (.int .i64 2))),(2,1,(.t 25))]),none⟩,jq 4 2 26]
abbrev Qa9:IL:=[js 28 4 7,ja 27 28]
abbrev Qba:IL:=[js 29 4 8,ja 27 29]
abbrev Qbb:IL:=[jb 30 2 1,jc 31 30,⟨some 32,.val (.build [.int .i64 0,.int .i64 0,.int .u64 0,.str []] [(1,1,(.c (.int .i64 3))),(3,1,(.t 31))]),none⟩,jq 4 2 32]
abbrev Qbc:IL:=[⟨some 33,.val (.build [.int .i64 0,.int .i64 0,.int .u64 0,.str []] []),none⟩,jq 4 2 33]
abbrev r23:RC:=jQ QxK (.seq (jQ QxL (.block 0 (.seq (jQ QxM (.cond (.t 5) (.skip) (jQ QxN (.cond (.t 5) (.skip) (jQ QxO (.cond (.t 5) (.skip) (.reg QxP))))))) (.cond (.t 5) (jQ QxQ (.ret)) (.seq (jQ QxR (.cond (.t 13) (.skip) (.reg QxS))) (.cond (.t 13) (jQ QxT (.ret)) (jQ Qa7 (.cond (.t 21) (jQ Qa8 (.ret)) (.seq (jQ Qa9 (.cond (.t 27) (.skip) (.reg Qba))) (.cond (.t 27) (jQ Qbb (.ret)) (.skip))))))))))) (jQ Qbc (.ret)))
abbrev o23:List RR:=[.cell 2 (some 4)]
theorem k23:CT 23 34 r23 o23:=ck Tryz.func23 Tryz.ntmps23 (by decide +kernel)
abbrev QxU:IL:=[je 3 3 0,je 5 5 2,yv 6,jd 7 0]
abbrev QxV:IL:=[jf 13 2 3,ja 14 1,jy 15 28 13 14,ja 12 15,jx 16 12 0,jx 17 12 1,ja 8 16,ja 9 17]
abbrev QxW:IL:=[ja 18 9,jz 19 18]
abbrev QxX:IL:=[yv 6,jd 7 10]
abbrev QxY:IL:=[jf 20 2 3,ja 21 8,jy 22 29 20 21,jz 23 22]
abbrev QxZ:IL:=[yv 6,jd 7 1]
abbrev Qx0:IL:=[jf 24 2 3,ja 25 8,jf 26 7 5,yh 27 30 24 25 26,ja 10 27]
abbrev Qx1:IL:=[ja 28 10,yc 29 28 0]
abbrev Qx2:IL:=[ja 30 10,yv 6,ja 7 30]
abbrev Qx3:IL:=[jf 31 2 3,MI 32 0 2 31,ja 33 8,jf 34 7 5,yh 35 31 32 33 34,ja 11 35]
abbrev Qbd:IL:=[ja 36 11,ji 37 0 36,yn 38 37 65536]
abbrev Qbe:IL:=[yv 6,jd 7 3]
abbrev Qbf:IL:=[ja 39 11,ja 6 39,jd 7 0]
abbrev r10:RC:=jQ QxU (jQ QxV (.seq (jQ QxW (.cond (.t 19) (jQ QxX (.ret)) (.skip))) (.seq (jQ QxY (.cond (.t 23) (jQ QxZ (.ret)) (.skip))) (.seq (jQ Qx0 (jQ Qx1 (.cond (.t 29) (jQ Qx2 (.ret)) (.skip)))) (jQ Qx3 (.seq (jQ Qbd (.cond (.t 38) (jQ Qbe (.ret)) (.skip))) (jQ Qbf (.ret))))))))
abbrev o10:List RR:=[.tmp 6,.tmp 7]
theorem k10:CT 10 40 r10 o10:=ck Tryz.func10 Tryz.ntmps10 (by decide +kernel)
abbrev Qx4:IL:=[⟨some 0,.allocN 0 [.nils,.nils],none⟩]
abbrev Qx5:IL:=[⟨some 1,.val (.build [.int .i64 0,.str [],.str [],.int .i64 0,.int .i64 0,.int .i64 0,.int .i64 0,.int .i64 0] [(0,1,(.c (.int .i64 1))),(1,1,(.c (.str [97]))),(3,1,(.c (.int .i64 3))),(5,1,(.c (.int .i64 4))),(6,1,(.c (.int .i64 (-1)))),(7,1,(.c (.int .i64 (-1))))]),none⟩,⟨some 2,.val (.build [.int .i64 0,.str [],.str [],.int .i64 0,.int .i64 0,.int .i64 0,.int .i64 0,.int .i64 0] [(0,1,(.c (.int .i64 2))),(1,1,(.c (.str [98]))),(3,1,(.c (.int .i64 2))),(5,1,(.c (.int .i64 2))),(6,1,(.c (.int .i64 (-1)))),(7,1,(.c (.int .i64 (-1))))]),none⟩,⟨some 3,.val (.build [.int .i64 0,.str [],.str [],.int .i64 0,.int .i64 0,.int .i64 0,.int .i64 0,.int .i64 0] [(0,1,(.c (.int .i64 3))),(1,1,(.c (.str [99]))),(3,1,(.c (.int .i64 4))),(5,1,(.c (.int .i64 4))),(6,1,(.c (.int .i64 (-1)))),(7,1,(.c (.int .i64 (-1))))]),none⟩,⟨some 4,.bsl 8 3 [.int .i64 0,.str [],.str [],.int .i64 0,.int .i64 0,.int .i64 0,.int .i64 0,.int .i64 0] [(0,8,(.t 1)),(8,8,(.t 2)),(16,8,(.t 3))],none⟩,⟨some 5,.val (.build [.str [],.nils,.int .i64 0] [(0,1,(.c (.str [97,46,77]))),(1,1,(.t 4))]),none⟩,⟨some 6,.bsl 3 1 [.str [],.nils,.int .i64 0] [(0,3,(.t 5))],none⟩,MI 7 0 1 6,jq 2 0 7]
abbrev r22:RC:=jQ Qx4 (jQ Qx5 (.ret))
abbrev o22:List RR:=[.cell 0 (some 2)]
theorem k22:CT 22 8 r22 o22:=ck Tryz.func22 Tryz.ntmps22 (by decide +kernel)
abbrev Qx6:IL:=[je 3 3 0,je 5 5 2,yf 6]
abbrev Qx7:IL:=[jf 7 2 3,ja 8 1,jy 9 29 7 8,jz 10 9]
abbrev Qx8:IL:=[yf 6]
abbrev Qx9:IL:=[jf 11 2 3,MI 12 0 2 11,ja 13 1,jf 14 8 5,yh 15 35 12 13 14,ja 6 15]
abbrev r16:RC:=jQ Qx6 (.seq (jQ Qx7 (.cond (.t 10) (jQ Qx8 (.ret)) (.skip))) (jQ Qx9 (.ret)))
abbrev o16:List RR:=[.tmp 6]
theorem k16:CT 16 16 r16 o16:=ck Tryz.func16 Tryz.ntmps16 (by decide +kernel)
abbrev Qya:IL:=[je 3 3 0,je 5 5 2,yv 6]
abbrev Qyb:IL:=[jf 7 2 3,ja 8 1,jy 9 29 7 8,jz 10 9]
abbrev Qyc:IL:=[yv 6]
abbrev Qyd:IL:=[jf 11 2 3,MI 12 0 2 11,ja 13 1,jf 14 7 5,yh 15 31 12 13 14,ja 6 15]
abbrev JX:RC:=jQ Qya (.seq (jQ Qyb (.cond (.t 10) (jQ Qyc (.ret)) (.skip))) (jQ Qyd (.ret)))
abbrev o11:List RR:=[.tmp 6]
theorem k11:CT 11 16 JX o11:=ck Tryz.func11 Tryz.ntmps11 (by decide +kernel)
abbrev Qye:IL:=[je 3 3 0,je 5 5 2,jd 6 0]
abbrev Qyf:IL:=[jf 10 2 3,ja 11 1,jf 12 7 5,yh 13 10 10 11 12,ja 9 13,jx 14 9 0,jx 15 9 1,ja 7 14,ja 8 15]
abbrev Qyg:IL:=[ja 16 8,yc 17 16 0]
abbrev Qyh:IL:=[jd 6 (-1)]
abbrev Qyi:IL:=[ja 18 7,ji 19 0 18,ja 6 19]
abbrev r24:RC:=jQ Qye (jQ Qyf (.seq (jQ Qyg (.cond (.t 17) (jQ Qyh (.ret)) (.skip))) (jQ Qyi (.ret))))
abbrev o24:List RR:=[.tmp 6]
theorem k24:CT 24 20 r24 o24:=ck Tryz.func24 Tryz.ntmps24 (by decide +kernel)
abbrev Qyj:IL:=[zj 2 0]
abbrev Qyk:IL:=[ja 3 0,Ba 4 3,⟨some 5,.val (.bin .num .shl (.t 4) (.c (.int .u64 1))),none⟩,ja 6 0,⟨some 7,.val (.bin .num .shr (.t 6) (.c (.int .u64 63))),none⟩,Ba 8 7,⟨some 9,.val (.bin .num .xor (.t 5) (.t 8)),none⟩,ja 2 9]
abbrev r49:RC:=jQ Qyj (jQ Qyk (.ret))
abbrev o49:List RR:=[.tmp 2]
theorem k49:CT 49 10 r49 o49:=ck Tryz.func49 Tryz.ntmps49 (by decide +kernel)
abbrev Qyl:IL:=[je 1 1 0,yk 2 2]
abbrev Qym:IL:=[jb 3 0 1,jc 4 3,js 5 4 6,ja 6 5,jk 7 1 1 6,ju 8 7 6,zg 9 77 8 6,yl 10 9 0 6,jj 11 6 10]
abbrev Qyn:IL:=[jb 12 1 1,⟨none,.store 1 (.t 12) (.c (.int .u64 9221120237041090560)),none⟩]
abbrev Qyo:IL:=[jf 13 7 1,jq 7 2 13]
abbrev r50:RC:=jQ Qyl (.seq (jQ Qym (.cond (.t 11) (.reg Qyn) (.skip))) (jQ Qyo (.ret)))
abbrev o50:List RR:=[.cell 2 (some 7)]
theorem k50:CT 50 14 r50 o50:=ck Tryz.func50 Tryz.ntmps50 (by decide +kernel)
abbrev Qyp:IL:=[je 2 2 0,je 3 3 1,jd 4 0,jh 5]
abbrev Qyq:IL:=[jb 7 0 2,jc 8 7,Bb 9 56 3,yt 10 55 8 9,ja 6 10]
abbrev Qyr:IL:=[ja 11 6,⟨some 12,.val (.mnx true (.t 11) (.c (.int .i64 0))),none⟩,ja 13 6,yo 14 13 0,ja 4 12,ja 5 14]
abbrev r28:RC:=jQ Qyp (jQ Qyq (jQ Qyr (.ret)))
abbrev o28:List RR:=[.tmp 4,.tmp 5]
theorem k28:CT 28 15 r28 o28:=ck Tryz.func28 Tryz.ntmps28 (by decide +kernel)
abbrev Qys:IL:=[je 2 2 0,jh 4]
abbrev Qyt:IL:=[ja 5 1,yo 6 5 0,ja 7 6,jg 8 1 7,jk 9 0 2 7,ju 10 9 7,ys 11 1 10 7,Gr 12 8 11 7,jj 13 7 12,ja 14 13,zp 15 2 2 14,zg 16 57 15 14,yl 17 16 0 14,jj 18 14 17,ja 4 18]
abbrev r29:RC:=jQ Qys (jQ Qyt (.ret))
abbrev o29:List RR:=[.tmp 4]
theorem k29:CT 29 19 r29 o29:=ck Tryz.func29 Tryz.ntmps29 (by decide +kernel)
abbrev Qyu:IL:=[je 3 3 0,je 5 5 2,jd 6 0]
abbrev Qyv:IL:=[ja 8 1,yw 9 8 0,ja 10 9,jv 11 1 10,jn 12 0 3 10,jt 13 12 10,ye 14 1 13 10,MJ 15 11 14 10,jo 16 10 15]
abbrev Qyw:IL:=[jd 6 10]
abbrev Qyx:IL:=[jw 17 0 3 2 3,MI 18 0 2 17,jb 19 0 3,yb 20 0 3 19,ja 21 1,jl 22 3 20 21,yd 23 3 22,jw 24 0 5 7 5,⟨some 25,.call (.f 58) [(.t 18),(.t 23),(.t 24),(.c (.int .i64 1))],none⟩,ja 7 25]
abbrev Qyy:IL:=[ja 26 7,yc 27 26 0]
abbrev Qyz:IL:=[ja 28 7,ja 6 28]
abbrev QyA:IL:=[jf 29 7 5,jr 30 59 29,yn 31 30 4096]
abbrev QyB:IL:=[jd 6 3]
abbrev QyC:IL:=[jd 6 0]
abbrev r30:RC:=jQ Qyu (.seq (jQ Qyv (.cond (.t 16) (jQ Qyw (.ret)) (.skip))) (.seq (jD Qyx (jQ Qyy (.cond (.t 27) (jQ Qyz (.ret)) (.skip)))) (.seq (jQ QyA (.cond (.t 31) (jQ QyB (.ret)) (.skip))) (jQ QyC (.ret)))))
abbrev o30:List RR:=[.tmp 6]
theorem k30:CT 30 32 r30 o30:=ck Tryz.func30 Tryz.ntmps30 (by decide +kernel)
abbrev QyD:IL:=[je 3 3 0,je 5 5 2,yv 6]
abbrev QyE:IL:=[jb 12 0 3,jf 13 2 12,ja 14 1,jf 15 7 5,yh 16 60 13 14 15,yk 7 7,jq 7 7 16]
abbrev QyF:IL:=[yf 8]
abbrev QyG:IL:=[jb 17 6 7,jc 18 17,ja 9 18]
abbrev QyH:IL:=[jb 19 5 7,jc 20 19,ji 21 1 20,jd 22 0]
abbrev QyI:IL:=[jp 23 22 21]
abbrev QyJ:IL:=[jl 24 8 20 22,jf 25 8 24,NX 11 11,jq 8 11 25]
abbrev QyK:IL:=[ja 26 9,ji 27 1 26,yn 28 27 0,ja 29 28,jg 30 9 29,NY 31 4 30 0 29,jk 32 0 31 29,ym 33 32 29,jk 34 0 11 29,yy 35 0 11 34 29,Gr 36 33 35 29,jj 37 29 36]
abbrev QyL:IL:=[ja 38 8,ja 39 9,⟨some 40,.val (.iaddr 4 none (.t 39) (.c (.int .i64 0))),none⟩,jf 41 4 40,NZ 42 4 1 0 4 41,yp 43 4 40 53 38 42,ja 8 43]
abbrev QyM:IL:=[ja 44 9,⟨some 45,.val (.slc (some 4) (.t 44) (some (.c (.int .i64 1))) none none),none⟩,ja 9 45]
abbrev SK:RC:=.seq (jD QyK (jX 37 2)) (.block 3 (jQ QyL (.reg QyM)))
abbrev Qbh:IL:=[ja 46 8,jf 47 2 3,ja 48 1,jf 49 8 11,yh 50 35 47 48 49,yp 51 4 40 53 46 50,ja 8 51]
abbrev Qbi:IL:=[jm 52 22 1,ja 22 52]
abbrev QyN:RC:=.gho (.drop 11) (jQ QyI (.seq (jX 23 0) (.seq (.block 1 (jQ QyJ (.seq (.block 2 (.loop SK)) (.reg Qbh)))) (.reg Qbi))))
abbrev Qbj:IL:=[ja 53 8,ja 54 9,yp 55 4 40 53 53 54,jr 56 61 55,ja 6 56]
abbrev r31:RC:=jQ QyD (jQ QyE (jQ QyF (.gho (.vec 8 8 4) (jQ QyG (.seq (jQ QyH (.block 0 (.loop QyN))) (jQ Qbj (.ret)))))))
abbrev o31:List RR:=[.tmp 6]
theorem k31:CT 31 57 r31 o31:=ck Tryz.func31 Tryz.ntmps31 (by decide +kernel)
abbrev QyO:IL:=[je 3 3 0,je 5 5 2,yf 6]
abbrev QyP:IL:=[jb 10 0 3,jb 11 0 10,yb 12 0 3 11,ja 13 1,jl 14 3 12 13,yd 15 3 14,jb 16 0 5,yb 17 0 5 16,jy 18 66 15 17,ja 9 18,jx 19 9 0,jx 20 9 1,zh 7 7,yg 0 7 8 7 19,ja 8 20]
abbrev QyQ:IL:=[ja 21 8,jz 22 21]
abbrev QyR:IL:=[yf 6]
abbrev QyS:IL:=[jw 23 0 7 8 7,jr 24 67 23,jw 25 0 3 2 3,jw 26 0 7 8 7,jb 27 1 5,jw 28 0 5 7 27,⟨some 29,.call (.t 24) [(.t 25),(.t 26),(.t 28)],none⟩,ja 6 29]
abbrev r35:RC:=jQ QyO (jD QyP (.seq (jQ QyQ (.cond (.t 22) (jQ QyR (.ret)) (.skip))) (jD QyS (.ret))))
abbrev o35:List RR:=[.tmp 6]
theorem k35:CT 35 30 r35 o35:=ck Tryz.func35 Tryz.ntmps35 (by decide +kernel)
abbrev QyT:IL:=[jd 4 0]
abbrev QyU:IL:=[ja 6 0,ji 7 1 6,jd 8 0]
abbrev QyV:IL:=[jp 9 8 7]
abbrev QyW:IL:=[ja 10 8,ja 5 10]
abbrev QyX:IL:=[ja 11 1,ja 12 0,ja 13 5,jl 14 3 12 13,jf 15 3 14,Bc 16 11 15]
abbrev QyY:IL:=[ja 17 5,ja 4 17]
abbrev QyZ:IL:=[jm 18 8 1,ja 8 18]
abbrev Qy0:RC:=jQ QyV (.seq (jX 9 0) (.seq (.block 1 (jQ QyW (jQ QyX (.cond (.t 16) (jQ QyY (.ret)) (.skip))))) (.reg QyZ)))
abbrev Qy1:IL:=[jd 4 (-1)]
abbrev r55:RC:=jQ QyT (.seq (jQ QyU (.block 0 (.loop Qy0))) (jQ Qy1 (.ret)))
abbrev o55:List RR:=[.tmp 4]
theorem k55:CT 55 19 r55 o55:=ck Tryz.func55 Tryz.ntmps55 (by decide +kernel)
abbrev Qy2:IL:=[je 2 2 0,jh 3]
abbrev Qy3:IL:=[jb 4 0 2,jc 5 4,jc 6 1,MK 7 5 6,ja 3 7]
abbrev r56:RC:=jQ Qy2 (jQ Qy3 (.ret))
abbrev o56:List RR:=[.tmp 3]
theorem k56:CT 56 8 r56 o56:=ck Tryz.func56 Tryz.ntmps56 (by decide +kernel)
abbrev Qy4:IL:=[je 1 1 0,jd 2 0]
abbrev Qy5:IL:=[jf 4 2 1,jr 5 82 4,ja 3 5]
abbrev Qy6:IL:=[jd 2 3]
abbrev Qy7:IL:=[jf 7 2 1,jr 8 83 7,ja 6 8]
abbrev Qy8:IL:=[jd 2 8]
abbrev Qy9:IL:=[jf 10 2 1,jr 11 84 10,ja 9 11]
abbrev Qza:IL:=[jd 2 11]
abbrev Qzb:IL:=[jf 13 2 1,jr 14 85 13,ja 12 14]
abbrev Qzc:IL:=[jd 2 9]
abbrev Qzd:IL:=[jf 16 2 1,jr 17 86 16,ja 15 17]
abbrev Qbk:IL:=[jd 2 6]
abbrev Qbl:IL:=[jf 19 2 1,jr 20 87 19,ja 18 20]
abbrev Qbm:IL:=[jd 2 1]
abbrev Qbn:IL:=[jf 22 2 1,jr 23 88 22,ja 21 23]
abbrev Qbo:IL:=[jd 2 19]
abbrev Qbp:IL:=[jd 2 0]
abbrev r57:RC:=jQ Qy4 (.seq (.block 0 (jQ Qy5 (.cond (.t 3) (jQ Qy6 (.ret)) (jQ Qy7 (.cond (.t 6) (jQ Qy8 (.ret)) (jQ Qy9 (.cond (.t 9) (jQ Qza (.ret)) (jQ Qzb (.cond (.t 12) (jQ Qzc (.ret)) (jQ Qzd (.cond (.t 15) (jQ Qbk (.ret)) (jQ Qbl (.cond (.t 18) (jQ Qbm (.ret)) (jQ Qbn (.cond (.t 21) (jQ Qbo (.ret)) (.skip)))))))))))))))) (jQ Qbp (.ret)))
abbrev o57:List RR:=[.tmp 2]
theorem k57:CT 57 24 r57 o57:=ck Tryz.func57 Tryz.ntmps57 (by decide +kernel)
abbrev Qze:IL:=[je 4 4 0,je 5 5 1,je 6 6 2,jd 8 0]
abbrev Qzf:IL:=[jb 17 0 6,jc 18 17,yc 19 18 10,ja 20 19,yu 21 7 6 20,zd 22 89 21 20,jo 23 20 22,ja 16 23]
abbrev Qzg:IL:=[jd 8 12]
abbrev Qzh:IL:=[ja 25 3,yn 26 25 16,ja 24 26]
abbrev Qzi:IL:=[jd 8 17]
abbrev Qzj:IL:=[jb 27 5 6,jc 28 27,ji 29 1 28,jd 30 0]
abbrev Qzk:IL:=[jp 31 30 29]
abbrev Qzl:IL:=[ja 32 30,ja 9 32]
abbrev Qzm:IL:=[jf 33 2 4,jf 34 3 5,jb 35 5 6,jc 36 35,ja 37 9,ja 38 3,⟨some 39,.call (.f 90) [(.t 33),(.t 34),(.t 36),(.t 37),(.t 38)],none⟩,ja 10 39]
abbrev Qzn:IL:=[ja 40 10,yc 41 40 0]
abbrev Qbq:IL:=[ja 42 10,ja 8 42]
abbrev Qbr:IL:=[jm 43 30 1,ja 30 43]
abbrev Qzo:RC:=jQ Qzk (.seq (jX 31 1) (.seq (.block 2 (jQ Qzl (jQ Qzm (jQ Qzn (.cond (.t 41) (jQ Qbq (.ret)) (.skip)))))) (.reg Qbr)))
abbrev Qbs:IL:=[jb 44 1 5,jc 45 44,ji 46 1 45,jd 47 0]
abbrev Qbt:IL:=[jp 48 47 46]
abbrev Qbu:IL:=[jl 49 8 45 47,jf 50 8 49,zh 12 12,jq 8 12 50]
abbrev Qbv:IL:=[jb 51 3 12,jc 52 51,js 53 52 1,ja 54 53,jk 55 5 6 54,ju 56 55 54,⟨some 57,.val (.mkfn (.func 92) [] [(.t 12)]),(some (54,true))⟩,⟨some 58,.callF (.f 91) [(.t 56),(.t 57)],(some (54,true))⟩,za 59 58 54,jj 60 54 59]
abbrev Qbw:IL:=[jd 8 14]
abbrev Qbx:IL:=[jm 61 47 1,ja 47 61]
abbrev Qzp:RC:=.gho (.drop 12) (jQ Qbt (.seq (jX 48 3) (.seq (.block 4 (jQ Qbu (jQ Qbv (.cond (.t 60) (jQ Qbw (.ret)) (.skip))))) (.reg Qbx))))
abbrev Qby:IL:=[jb 62 6 6,jc 63 62,ji 64 1 63,jd 65 0]
abbrev Qbz:IL:=[jp 66 65 64]
abbrev QbA:IL:=[jl 67 4 63 65,jf 68 4 67,zs 14 14,jq 4 14 68]
abbrev QbB:IL:=[jf 69 2 4,jf 70 3 5,jf 71 4 14,yh 72 93 69 70 71,ja 15 72]
abbrev QbC:IL:=[ja 73 15,yc 74 73 0]
abbrev QbD:IL:=[ja 75 15,ja 8 75]
abbrev QbE:IL:=[jm 76 65 1,ja 65 76]
abbrev Qzq:RC:=.gho (.drop 14) (jQ Qbz (.seq (jX 66 5) (.seq (.block 6 (jQ QbA (jQ QbB (jQ QbC (.cond (.t 74) (jQ QbD (.ret)) (.skip)))))) (.reg QbE))))
abbrev QbF:IL:=[jd 8 0]
abbrev r58:RC:=jQ Qze (.seq (.block 0 (jQ Qzf (.cond (.t 16) (jQ Qzg (.ret)) (jQ Qzh (.cond (.t 24) (jQ Qzi (.ret)) (.skip)))))) (.seq (jQ Qzj (.block 1 (.loop Qzo))) (.seq (jQ Qbs (.block 3 (.loop Qzp))) (.seq (jQ Qby (.block 5 (.loop Qzq))) (jQ QbF (.ret))))))
abbrev o58:List RR:=[.tmp 8]
theorem k58:CT 58 77 r58 o58:=ck Tryz.func58 Tryz.ntmps58 (by decide +kernel)
abbrev Qzr:IL:=[je 1 1 0,jd 2 0]
abbrev Qzs:IL:=[jb 6 6 1,jc 7 6,ji 8 1 7,⟨some 9,.val (.bin .num .add (.c (.int .i64 1)) (.t 8)),none⟩,ja 3 9]
abbrev Qzt:IL:=[jf 10 7 1,jr 11 94 10,ji 12 1 11,jd 13 0]
abbrev Qzu:IL:=[jp 14 13 12]
abbrev Qzv:IL:=[jl 15 7 11 13,jf 16 7 15,yk 5 5,jq 7 5 16]
abbrev Qzw:IL:=[ja 17 3,jf 18 7 5,jr 19 59 18,yi 20 17 19,ja 3 20]
abbrev Qzx:IL:=[jm 21 13 1,ja 13 21]
abbrev Qzy:RC:=.gho (.drop 5) (jQ Qzu (.seq (jX 14 0) (.seq (.block 1 (jQ Qzv (.reg Qzw))) (.reg Qzx))))
abbrev Qzz:IL:=[ja 22 3,ja 2 22]
abbrev r59:RC:=jQ Qzr (jQ Qzs (.seq (jQ Qzt (.block 0 (.loop Qzy))) (jQ Qzz (.ret))))
abbrev o59:List RR:=[.tmp 2]
theorem k59:CT 59 23 r59 o59:=ck Tryz.func59 Tryz.ntmps59 (by decide +kernel)
abbrev QzA:IL:=[je 3 3 0,je 5 5 2,yk 6 6]
abbrev QzB:IL:=[jb 14 6 5,jc 15 14,N0 16 95 15,⟨some 17,.val (.build [.int .i64 0,.int .u64 0,.str [],.nils,.nils,.nils,.nils] [(0,1,(.c (.int .i64 10))),(6,1,(.t 16))]),none⟩,yk 7 7,jq 7 7 17]
abbrev QzC:IL:=[ja 18 1,yw 19 18 0,ja 20 19,jv 21 1 20,jn 22 0 3 20,jt 23 22 20,ye 24 1 23 20,MJ 25 21 24 20,jo 26 20 25]
abbrev QzD:IL:=[jf 27 7 7,jq 7 6 27]
abbrev QzE:IL:=[jb 28 5 5,jc 29 28,jr 30 96 29,ji 31 1 30,jd 32 0]
abbrev QzF:IL:=[jp 33 32 31]
abbrev QzG:IL:=[jl 34 8 30 32,jf 35 8 34,NX 9 9,jq 8 9 35]
abbrev QzH:IL:=[jb 37 0 3,yb 38 0 3 37,ja 39 1,jl 40 3 38 39,yd 41 3 40,jb 42 0 9,yb 43 0 9 42,jy 44 66 41 43,ja 36 44,jx 45 36 0,jx 46 36 1,zh 10 10,yg 0 10 8 10 45,ja 11 46]
abbrev QzI:IL:=[jb 47 3 10,jc 48 47,js 49 48 3,ja 50 49,jn 51 3 10 50,jt 52 51 50,yq 53 52 4 50,jo 54 50 53,ja 55 54,jn 56 3 10 55,jt 57 56 55,yq 58 57 5 55,jo 59 55 58,ja 12 59]
abbrev QzJ:IL:=[jf 60 2 3,jf 61 8 10,jb 62 1 9,jf 63 7 62,yh 64 97 60 61 63,yk 13 13,jq 7 13 64]
abbrev QbG:IL:=[ja 65 12,jz 66 65,ja 67 66,yu 68 7 13 67,zd 69 98 68 67,zb 70 69 67,jo 71 67 70]
abbrev QbH:IL:=[jb 72 5 7,jc 73 72,jb 74 0 9,jc 75 74,jf 76 7 13,⟨some 77,.val (.build [.int .i64 0,.int .i64 0,.int .u64 0,.str [],.nils,.nils,.nils,.nils] [(0,1,(.t 75)),(1,7,(.t 76))]),none⟩,⟨some 78,.bsl 8 1 [.int .i64 0,.int .i64 0,.int .u64 0,.str [],.nils,.nils,.nils,.nils] [(0,8,(.t 77))],none⟩,yp 79 8 136 55 73 78,jb 80 5 7,jq 1 80 79]
abbrev QbI:IL:=[jm 81 32 1,ja 32 81]
abbrev QzK:RC:=.gho (.drop 13) (.gho (.drop 10) (.gho (.drop 9) (jQ QzF (.seq (jX 33 0) (.seq (.block 1 (jQ QzG (jD QzH (jQ QzI (jQ QzJ (jQ QbG (.cond (.t 71) (.reg QbH) (.skip)))))))) (.reg QbI))))))
abbrev QbJ:IL:=[jb 82 6 7,jc 83 82,zx 84 99 83 100]
abbrev QbK:IL:=[jf 85 7 7,jq 7 6 85]
abbrev r60:RC:=jQ QzA (jQ QzB (.gho (.vecc 7 5 1100 8) (.seq (jQ QzC (.cond (.t 26) (jQ QzD (.ret)) (.skip))) (.seq (jQ QzE (.block 0 (.loop QzK))) (jQ QbJ (jQ QbK (.ret)))))))
abbrev o60:List RR:=[.cell 6 (some 7)]
theorem k60:CT 60 86 r60 o60:=ck Tryz.func60 Tryz.ntmps60 (by decide +kernel)
abbrev QzL:IL:=[yv 2]
abbrev QzM:IL:=[⟨some 3,.allocN 2141 [.nilp,.nils],none⟩]
abbrev QzN:IL:=[ja 8 0,ji 9 1 8,jd 10 0]
abbrev QzO:IL:=[jp 11 10 9]
abbrev QzP:IL:=[jl 12 4 8 10,jf 13 4 12,zs 5 5,jq 4 5 13]
abbrev QzQ:IL:=[jf 14 4 5,jr 15 102 14,jz 16 15]
abbrev QzR:IL:=[jb 18 0 5,jc 19 18,jb 20 1 5,jc 21 20,jy 22 103 19 21,ja 17 22,jx 23 17 0,jx 24 17 1,ja 6 23,ja 7 24]
abbrev QzS:IL:=[ja 25 6,yt 26 104 3 25]
abbrev QbL:IL:=[jb 37 1 5,jc 38 37,js 39 38 2,ja 36 39]
abbrev QbM:IL:=[jb 40 2 5,jc 41 40,jr 42 105 41,yt 43 104 3 42]
abbrev QbN:IL:=[jb 45 1 5,jc 46 45,jr 47 106 46,ja 44 47]
abbrev QbO:IL:=[jb 48 2 5,jc 49 48,jr 50 107 49,yt 51 104 3 50]
abbrev QzT:IL:=[jb 27 3 5,jc 28 27,ji 29 0 28,Ba 30 29,jr 31 107 30,yt 32 104 3 31]
abbrev QzU:IL:=[jb 33 3 5,jc 34 33,yt 35 104 3 34]
abbrev QbP:IL:=[jm 52 10 1,ja 10 52]
abbrev QzV:RC:=.gho (.drop 5) (jQ QzO (.seq (jX 11 0) (.seq (.block 1 (jQ QzP (.seq (jQ QzQ (.cond (.t 16) (.exit 1) (.skip))) (jQ QzR (jQ QzS (.block 2 (jQ QbL (.cond (.t 36) (.reg QbM) (jQ QbN (.cond (.t 44) (.reg QbO) (jQ QzT (.reg QzU)))))))))))) (.reg QbP))))
abbrev QbQ:IL:=[N0 53 108 3,ja 2 53]
abbrev r61:RC:=jQ QzL (jQ QzM (.gho (.vecc 2141 1 2005 1) (.seq (jQ QzN (.block 0 (.loop QzV))) (jQ QbQ (.ret)))))
abbrev o61:List RR:=[.tmp 2]
theorem k61:CT 61 54 r61 o61:=ck Tryz.func61 Tryz.ntmps61 (by decide +kernel)
abbrev QzW:IL:=[je 2 2 0,je 3 3 1,zh 4 4,jh 5]
abbrev QzX:IL:=[Bb 6 113 3,⟨some 7,.val (.build [.nilf] [(0,1,(.t 6))]),none⟩,jf 8 3 2,yt 9 114 7 8,jx 10 9 0,jx 11 9 1,jq 8 4 10,ja 5 11]
abbrev r66:RC:=jQ QzW (jQ QzX (.ret))
abbrev o66:List RR:=[.cell 4 (some 8),.tmp 5]
theorem k66:CT 66 12 r66 o66:=ck Tryz.func66 Tryz.ntmps66 (by decide +kernel)
abbrev QzY:IL:=[je 1 1 0,⟨some 2,.val (.mov (.c (.nilf))),none⟩]
abbrev QzZ:IL:=[jb 4 3 1,jc 5 4,js 6 5 5,ja 3 6]
abbrev Qz0:IL:=[⟨some 2,.val (.mov (.f 115)),none⟩]
abbrev Qz1:IL:=[jf 8 8 1,jr 9 116 8,ja 7 9]
abbrev Qz2:IL:=[⟨some 2,.val (.mov (.f 117)),none⟩]
abbrev Qz3:IL:=[jb 11 3 1,jc 12 11,js 13 12 4,ja 10 13]
abbrev Qz4:IL:=[⟨some 2,.val (.mov (.f 118)),none⟩]
abbrev Qz5:IL:=[⟨some 2,.val (.mov (.f 119)),none⟩]
abbrev r67:RC:=jQ QzY (.seq (.block 0 (jQ QzZ (.cond (.t 3) (jQ Qz0 (.ret)) (jQ Qz1 (.cond (.t 7) (jQ Qz2 (.ret)) (jQ Qz3 (.cond (.t 10) (jQ Qz4 (.ret)) (.skip)))))))) (jQ Qz5 (.ret)))
abbrev o67:List RR:=[.tmp 2]
theorem k67:CT 67 14 r67 o67:=ck Tryz.func67 Tryz.ntmps67 (by decide +kernel)
abbrev Qz6:IL:=[je 1 1 0,jh 2]
abbrev Qz7:IL:=[jb 3 0 1,jc 4 3,ji 5 1 4,jb 6 1 1,jc 7 6,ji 8 1 7,⟨some 9,.val (.mnx true (.t 5) (.t 8)),none⟩,yn 10 9 64,ja 11 10,jn 12 0 1 11,jt 13 12 11,zn 14 137 13 138 11,jo 15 11 14,ja 16 15,jn 17 1 1 16,jt 18 17 16,zn 19 139 18 140 16,jo 20 16 19,ja 2 20]
abbrev r82:RC:=jQ Qz6 (jQ Qz7 (.ret))
abbrev o82:List RR:=[.tmp 2]
theorem k82:CT 82 21 r82 o82:=ck Tryz.func82 Tryz.ntmps82 (by decide +kernel)
abbrev Qz8:IL:=[je 1 1 0,jh 2]
abbrev Qz9:IL:=[jb 3 0 1,jc 4 3,zx 5 137 4 141,ja 6 5,jn 7 1 1 6,jt 8 7 6,zn 9 139 8 146 6,jo 10 6 9,ja 2 10]
abbrev r83:RC:=jQ Qz8 (jQ Qz9 (.ret))
abbrev o83:List RR:=[.tmp 2]
theorem k83:CT 83 11 r83 o83:=ck Tryz.func83 Tryz.ntmps83 (by decide +kernel)
abbrev QAa:IL:=[je 1 1 0,jh 2]
abbrev QAb:IL:=[jb 3 0 1,jc 4 3,zx 5 149 4 150,jz 6 5,ja 7 6,jn 8 1 1 7,jt 9 8 7,zn 10 151 9 152 7,zb 11 10 7,jo 12 7 11,ja 13 12,jn 14 0 1 13,jt 15 14 13,zn 16 137 15 153 13,jo 17 13 16,ja 18 17,jn 19 1 1 18,jt 20 19 18,zn 21 139 20 156 18,jo 22 18 21,ja 2 22]
abbrev r84:RC:=jQ QAa (jQ QAb (.ret))
abbrev o84:List RR:=[.tmp 2]
theorem k84:CT 84 23 r84 o84:=ck Tryz.func84 Tryz.ntmps84 (by decide +kernel)
abbrev QAc:IL:=[je 1 1 0,jh 2]
abbrev QAd:IL:=[jb 3 0 1,jc 4 3,Bb 5 159 1,yt 6 137 4 5,ja 7 6,jn 8 1 1 7,jt 9 8 7,zn 10 139 9 163 7,jo 11 7 10,ja 2 11]
abbrev r85:RC:=jQ QAc (jQ QAd (.ret))
abbrev o85:List RR:=[.tmp 2]
theorem k85:CT 85 12 r85 o85:=ck Tryz.func85 Tryz.ntmps85 (by decide +kernel)
abbrev QAe:IL:=[je 1 1 0,jh 2]
abbrev QAf:IL:=[jb 3 0 1,jc 4 3,zx 5 137 4 166,ja 6 5,jn 7 1 1 6,jt 8 7 6,zn 9 139 8 168 6,jo 10 6 9,ja 2 10]
abbrev r86:RC:=jQ QAe (jQ QAf (.ret))
abbrev o86:List RR:=[.tmp 2]
theorem k86:CT 86 11 r86 o86:=ck Tryz.func86 Tryz.ntmps86 (by decide +kernel)
abbrev QAg:IL:=[je 1 1 0,jh 2]
abbrev QAh:IL:=[jb 3 0 1,jc 4 3,Bb 5 169 1,yt 6 137 4 5,ja 7 6,jn 8 1 1 7,jt 9 8 7,zn 10 139 9 175 7,jo 11 7 10,ja 2 11]
abbrev r87:RC:=jQ QAg (jQ QAh (.ret))
abbrev o87:List RR:=[.tmp 2]
theorem k87:CT 87 12 r87 o87:=ck Tryz.func87 Tryz.ntmps87 (by decide +kernel)
abbrev QAi:IL:=[je 1 1 0,jh 2]
abbrev QAj:IL:=[jb 6 0 1,jc 7 6,ji 8 1 7,⟨some 9,.mk 9 4 1 1 [.bool false] (.t 8) (.t 8),none⟩,⟨some 3,.allocN 3 [.nils],none⟩,jq 1 3 9]
abbrev QAk:IL:=[jb 10 0 1,jc 11 10,ji 12 1 11,jd 13 0]
abbrev QAl:IL:=[jp 14 13 12]
abbrev QAm:IL:=[jb 15 0 1,jc 16 15,ji 17 1 16,jd 18 0]
abbrev QAn:IL:=[jp 19 18 17]
abbrev QAo:IL:=[ja 20 18,jl 21 3 16 18,jf 22 3 21,⟨some 5,.allocN 5 [.str [],.nils,.int .i64 0],none⟩,ja 4 20,jq 3 5 22]
abbrev QAp:IL:=[yb 23 0 3 3,ja 24 4,yb 25 0 3 3,ja 26 4,jl 27 1 25 26,zo 28 27,ja 29 28,jn 30 1 5 29,zk 31 0 5 30 29,⟨some 32,.val (.mkfn (.func 178) [] [(.t 3)]),(some (29,false))⟩,⟨some 33,.callK 0 3 (.f 143) [(.t 31),(.t 32)],(some (29,false))⟩,zb 34 33 29,jo 35 29 34,jl 36 1 23 24,jq 1 36 35]
abbrev QAq:IL:=[jm 37 18 1,ja 18 37]
abbrev QAr:RC:=.gho (.drop 5) (jQ QAn (.seq (jX 19 2) (.seq (.block 3 (jQ QAo (.draw QAp))) (.reg QAq))))
abbrev QAs:IL:=[jm 38 13 1,ja 13 38]
abbrev QAt:RC:=.gho (.drop 5) (jQ QAl (.seq (jX 14 0) (.seq (.block 1 (jQ QAm (.block 2 (.loop QAr)))) (.reg QAs))))
abbrev QbR:IL:=[jc 39 3,⟨some 40,.call (.f 179) [(.t 39),(.c (.bool false))],none⟩,ja 2 40]
abbrev r88:RC:=jQ QAi (jQ QAj (.seq (jQ QAk (.block 0 (.loop QAt))) (jQ QbR (.ret))))
abbrev o88:List RR:=[.tmp 2]
theorem k88:CT 88 41 r88 o88:=ck Tryz.func88 Tryz.ntmps88 (by decide +kernel)
abbrev QAu:IL:=[je 1 1 0,jh 2]
abbrev QAv:IL:=[jb 4 0 1,jc 5 4,js 6 5 7,ja 7 6,jn 8 0 1 7,jt 9 8 7,yq 10 9 8 7,jo 11 7 10,ja 3 11]
abbrev QAw:IL:=[jb 12 0 1,jc 13 12,yc 14 13 11,ja 15 14,jk 16 3 1 15,ju 17 16 15,ys 18 1 17 15,N1 19 18 0 15,jj 20 15 19,ja 21 20,jn 22 0 1 21,jt 23 22 21,D0 24 23 12 21,jv 25 24 21,jk 26 4 1 25,ju 27 26 25,ys 28 1 27 25,N1 29 28 0 25,yx 30 25 29 21,jo 31 21 30,ja 32 31,jn 33 0 1 32,jt 34 33 32,D0 35 34 10 32,jv 36 35 32,jk 37 5 1 36,ju 38 37 36,ys 39 1 38 36,jk 40 6 1 36,ju 41 40 36,ys 42 1 41 36,⟨some 43,.val (.bin .num .add (.t 39) (.t 42)),(some (36,true))⟩,N1 44 43 0 36,yx 45 36 44 32,jo 46 32 45,ja 47 46,jn 48 1 1 47,jt 49 48 47,⟨some 50,.val (.bin .num .neq (.t 49) (.c (.int .u64 0))),(some (47,false))⟩,jv 51 50 47,jg 52 3 51,jg 53 52 51,jn 54 0 1 53,jt 55 54 53,⟨some 56,.val (.bin .num .geq (.t 55) (.c (.int .i64 10))),(some (53,false))⟩,jv 57 56 53,jk 58 0 1 57,ju 59 58 57,ze 60 59 12 57,yx 61 57 60 53,zf 62 53 61 51,yx 63 51 62 47,jo 64 47 63,ja 65 64,jn 66 2 1 65,jt 67 66 65,⟨some 68,.val (.bin .str .neq (.t 67) (.c (.str []))),(some (65,false))⟩,jv 69 68 65,jg 70 3 69,za 71 70 69,yx 72 69 71 65,jo 73 65 72,ja 2 73]
abbrev r89:RC:=jQ QAu (jQ QAv (jQ QAw (.ret)))
abbrev o89:List RR:=[.tmp 2]
theorem k89:CT 89 74 r89 o89:=ck Tryz.func89 Tryz.ntmps89 (by decide +kernel)
abbrev QAx:IL:=[je 5 5 0,je 6 6 1,jd 10 0]
abbrev QAy:IL:=[jw 18 0 6 3 6,ja 19 2,ja 20 3,jl 21 8 19 20,jb 22 0 21,zo 23 22,jy 24 66 18 23,ja 17 24,jx 25 17 0,jx 26 17 1,zh 11 11,yg 0 11 8 11 25,ja 12 26]
abbrev QAz:IL:=[ja 27 12,jz 28 27]
abbrev QAA:IL:=[jd 10 8]
abbrev QAB:IL:=[ja 29 2,ja 30 3,Bd 31 8 29 30,Bb 32 180 11,yt 33 91 31 32]
abbrev QAC:IL:=[jd 10 9]
abbrev QAD:IL:=[ja 34 2,ja 35 3,Bd 36 8 34 35,ji 37 1 36,jd 38 0]
abbrev QAE:IL:=[jp 39 38 37]
abbrev QAF:IL:=[jl 40 8 36 38,jf 41 8 40,NX 14 14,jq 8 14 41]
abbrev QAG:IL:=[jf 43 3 6,jb 44 0 14,jc 45 44,jy 46 66 43 45,ja 42 46,jx 47 42 0,jx 48 42 1,zh 15 15,jq 8 15 47,ja 16 48]
abbrev QbS:IL:=[jb 49 7 11,jc 50 49,yc 51 50 (-1),ja 52 51,jk 53 7 15 52,ju 54 53 52,jk 55 7 11 52,ju 56 55 52,⟨some 57,.val (.bin .num .eql (.t 54) (.t 56)),(some (52,true))⟩,jj 58 52 57]
abbrev QbT:IL:=[jd 10 15]
abbrev QbU:IL:=[jm 59 38 1,ja 38 59]
abbrev QAH:RC:=.gho (.drop 15) (.gho (.drop 14) (jQ QAE (.seq (jX 39 0) (.seq (.block 1 (jQ QAF (jQ QAG (jQ QbS (.cond (.t 58) (jQ QbT (.ret)) (.skip)))))) (.reg QbU)))))
abbrev QbV:IL:=[jw 60 0 5 2 5,jw 61 0 11 8 11,ja 62 2,ja 63 3,jl 64 8 62 63,jb 65 1 64,yd 66 7 65,ja 67 4,zl 68 181 60 61 66 67,ja 10 68]
abbrev r90:RC:=jQ QAx (jD QAy (.seq (jQ QAz (.cond (.t 28) (jQ QAA (.ret)) (.skip))) (.seq (jQ QAB (.cond (.t 33) (jQ QAC (.ret)) (.skip))) (.seq (jQ QAD (.block 0 (.loop QAH))) (jD QbV (.ret))))))
abbrev o90:List RR:=[.tmp 10]
theorem k90:CT 90 69 r90 o90:=ck Tryz.func90 Tryz.ntmps90 (by decide +kernel)
abbrev QAI:IL:=[jh 4]
abbrev QAJ:IL:=[ja 5 0,ja 6 1,yt 7 182 5 6,yo 8 7 0,ja 4 8]
abbrev r91:RC:=jQ QAI (jQ QAJ (.ret))
abbrev o91:List RR:=[.tmp 4]
theorem k91:CT 91 9 r91 o91:=ck Tryz.func91 Tryz.ntmps91 (by decide +kernel)
abbrev QAK:IL:=[je 1 1 0,yf 2]
abbrev QAL:IL:=[jb 8 3 1,jc 9 8,N0 10 184 9,ja 3 10]
abbrev QAM:IL:=[jb 11 4 1,jc 12 11,ji 13 1 12,jd 14 0]
abbrev QAN:IL:=[jp 15 14 13]
abbrev QAO:IL:=[jl 16 14 12 14,jf 17 14 16,⟨some 5,.allocN 5 [.int .i64 0,.int .u64 0,.str [],.nils,.nils,.nils,.nils,.int .i64 0,.int .u64 0,.str [],.nils,.nils,.nils,.nils],none⟩,jq 14 5 17]
abbrev QAP:IL:=[ja 18 3,jb 19 0 5,jf 20 7 19,jb 21 7 5,jf 22 7 21,⟨some 23,.bsl 7 2 [.int .i64 0,.int .u64 0,.str [],.nils,.nils,.nils,.nils] [(0,7,(.t 20)),(7,7,(.t 22))],none⟩,yp 24 7 128 32 18 23,ja 3 24]
abbrev QAQ:IL:=[jm 25 14 1,ja 14 25]
abbrev QAR:RC:=.gho (.drop 5) (jQ QAN (.seq (jX 15 0) (.seq (.block 1 (jQ QAO (.reg QAP))) (.reg QAQ))))
abbrev QAS:IL:=[jb 26 5 1,jc 27 26,ji 28 1 27,jd 29 0]
abbrev QAT:IL:=[jp 30 29 28]
abbrev QAU:IL:=[jl 31 8 27 29,jf 32 8 31,NX 7 7,jq 8 7 32]
abbrev QbW:IL:=[ja 33 3,jb 34 1 7,jf 35 7 34,⟨some 36,.bsl 7 1 [.int .i64 0,.int .u64 0,.str [],.nils,.nils,.nils,.nils] [(0,7,(.t 35))],none⟩,yp 37 7 128 32 33 36,ja 3 37]
abbrev QbX:IL:=[jm 38 29 1,ja 29 38]
abbrev QAV:RC:=.gho (.drop 7) (jQ QAT (.seq (jX 30 2) (.seq (.block 3 (jQ QAU (.reg QbW))) (.reg QbX))))
abbrev QbY:IL:=[ja 39 3,ja 2 39]
abbrev r94:RC:=jQ QAK (jQ QAL (.seq (jQ QAM (.block 0 (.loop QAR))) (.seq (jQ QAS (.block 2 (.loop QAV))) (jQ QbY (.ret)))))
abbrev o94:List RR:=[.tmp 2]
theorem k94:CT 94 40 r94 o94:=ck Tryz.func94 Tryz.ntmps94 (by decide +kernel)
def V7:IL:=[yf 2]
def V8:IL:=[ja 3 0,⟨some 4,.isnil false (.t 3),none⟩]
def V9:IL:=[yf 2]
def Ca:IL:=[⟨some 5,.bsl0 5 4,none⟩,ja 6 0,yp 7 4 40 53 5 6,ja 2 7]
def SL:RC:=jQ V7 (.seq (jQ V8 (.cond (.t 4) (jQ V9 (.gho (.vec 2 2 4) (.gho (.give 2 2 1 1000) (.ret)))) (.skip))) (jQ Ca (.gho (.give 2 5 1 1000) (.ret))))
def N4:List RR:=[.tmp 2]
theorem k95:CT 95 8 SL N4:=ck Tryz.func95 Tryz.ntmps95 (by decide +kernel)
abbrev QAW:IL:=[yf 2]
abbrev QAX:IL:=[ja 7 0,N0 8 185 7,ja 3 8]
abbrev QAY:IL:=[ja 9 3,zx 10 186 9 187]
abbrev QAZ:IL:=[yf 4]
abbrev QA0:IL:=[ja 11 3,ji 12 1 11,jd 13 0]
abbrev QA1:IL:=[jp 14 13 12]
abbrev QA2:IL:=[ja 15 13,jl 16 8 11 13,jf 17 8 16,NX 6 6,ja 5 15,jq 8 6 17]
abbrev QA3:IL:=[ja 18 5,jm 19 18 1,ja 20 3,ji 21 1 20,zt 22 19 21,ja 23 22,jn 24 0 6 23,zk 25 0 6 24 23,jv 26 3 23,jv 27 5 23,ML 28 27 1 23,yz 29 8 26 28 23,jn 30 0 29 23,N2 31 30 23,zu 32 25 31 23,jo 33 23 32]
abbrev QA4:IL:=[ja 34 4,jf 35 8 6,⟨some 36,.bsl 8 1 [.int .i64 0,.int .i64 0,.int .u64 0,.str [],.nils,.nils,.nils,.nils] [(0,8,(.t 35))],none⟩,yp 37 8 136 55 34 36,ja 4 37]
abbrev QA5:IL:=[jm 38 13 1,ja 13 38]
abbrev QA6:RC:=.gho (.drop 6) (jQ QA1 (.seq (jX 14 0) (.seq (.block 1 (jQ QA2 (jD QA3 (.cond (.t 33) (.reg QA4) (.skip))))) (.reg QA5))))
abbrev Qb0:IL:=[ja 39 4,ja 2 39]
abbrev r96:RC:=jQ QAW (jQ QAX (jQ QAY (jQ QAZ (.gho (.vec 4 4 8) (.seq (jQ QA0 (.block 0 (.loop QA6))) (jQ Qb0 (.ret)))))))
abbrev o96:List RR:=[.tmp 2]
theorem k96:CT 96 40 r96 o96:=ck Tryz.func96 Tryz.ntmps96 (by decide +kernel)
abbrev QA7:IL:=[je 3 3 0,je 4 4 1,je 5 5 2,yk 6 6]
abbrev QA8:IL:=[jb 13 3 4,jc 14 13]
abbrev QA9:IL:=[js 16 14 4,ja 15 16]
abbrev QBa:IL:=[⟨some 17,.val (.build [.int .i64 0,.int .u64 0,.str [],.nils,.nils,.nils,.nils] [(0,1,(.c (.int .i64 11)))]),none⟩,yk 7 7,jq 7 7 17]
abbrev QBb:IL:=[jb 18 3 5,jc 19 18,ji 20 1 19,jd 21 0]
abbrev QBc:IL:=[jp 22 21 20]
abbrev QBd:IL:=[jl 23 7 19 21,jf 24 7 23,yk 9 9,jq 7 9 24]
abbrev QBe:IL:=[jb 25 3 7,yb 26 0 7 25,jw 27 0 3 2 3,jw 28 0 4 8 4,jw 29 0 9 7 9,yh 30 188 27 28 29,⟨some 31,.bsl 7 1 [.int .i64 0,.int .u64 0,.str [],.nils,.nils,.nils,.nils] [(0,7,(.t 30))],none⟩,yp 32 7 128 32 26 31,jb 33 3 7,yg 0 7 1 33 32]
abbrev QBf:IL:=[jm 34 21 1,ja 21 34]
abbrev QBg:RC:=.gho (.drop 9) (jQ QBc (.seq (jX 22 1) (.seq (.block 2 (jQ QBd (.draw QBe))) (.reg QBf))))
abbrev QBh:IL:=[jf 35 7 7,jq 7 6 35]
abbrev Qb1:IL:=[js 37 14 5,ja 36 37]
abbrev Qb2:IL:=[⟨some 38,.val (.build [.int .i64 0,.int .u64 0,.str [],.nils,.nils,.nils,.nils] [(0,1,(.c (.int .i64 12)))]),none⟩,yk 10 10,jq 7 10 38]
abbrev Qb3:IL:=[jb 39 4 5,jc 40 39,jr 41 189 40,ji 42 1 41,jd 43 0]
abbrev Qb4:IL:=[jp 44 43 42]
abbrev Qb5:IL:=[jl 45 14 41 43,jf 46 14 45,⟨some 12,.allocN 12 [.int .i64 0,.int .u64 0,.str [],.nils,.nils,.nils,.nils,.int .i64 0,.int .u64 0,.str [],.nils,.nils,.nils,.nils],none⟩,jq 14 12 46]
abbrev Qb6:IL:=[jb 47 4 10,yb 48 0 10 47,jb 49 0 12,jw 50 0 12 7 49,jr 51 50 50,jw 52 0 3 2 3,jw 53 0 4 8 4,jb 54 7 12,jw 55 0 12 7 54,yh 56 188 52 53 55,⟨some 57,.val (.build [.int .i64 0,.int .u64 0,.str [],.nils,.nils,.nils,.nils,.int .i64 0,.int .u64 0,.str [],.nils,.nils,.nils,.nils] [(0,7,(.t 51)),(7,7,(.t 56))]),none⟩,⟨some 58,.bsl 14 1 [.int .i64 0,.int .u64 0,.str [],.nils,.nils,.nils,.nils,.int .i64 0,.int .u64 0,.str [],.nils,.nils,.nils,.nils] [(0,14,(.t 57))],none⟩,yp 59 14 256 77 48 58,jb 60 4 10,yg 0 10 1 60 59]
abbrev Qb7:IL:=[jm 61 43 1,ja 43 61]
abbrev QBi:RC:=.gho (.drop 12) (jQ Qb4 (.seq (jX 44 3) (.seq (.block 4 (jQ Qb5 (.draw Qb6))) (.reg Qb7))))
abbrev Qb8:IL:=[jf 62 7 10,jq 7 6 62]
abbrev Qb9:IL:=[jf 63 2 3,jf 64 8 4,jf 65 7 5,yh 66 188 63 64 65,jq 7 6 66]
abbrev r97:RC:=jQ QA7 (.seq (jQ QA8 (.block 0 (jQ QA9 (.cond (.t 15) (jQ QBa (.gho (.vecc 7 3 1100 7) (.seq (jQ QBb (.block 1 (.loop QBg))) (jQ QBh (.ret))))) (jQ Qb1 (.cond (.t 36) (jQ Qb2 (.gho (.vecc 10 4 1101 14) (.seq (jQ Qb3 (.block 3 (.loop QBi))) (jQ Qb8 (.ret))))) (.skip))))))) (jQ Qb9 (.ret)))
abbrev o97:List RR:=[.cell 6 (some 7)]
theorem SM:CT 97 67 r97 o97:=ck Tryz.func97 Tryz.ntmps97 (by decide +kernel)
abbrev QBj:IL:=[je 1 1 0,jh 2]
abbrev QBk:IL:=[jb 3 0 1,jc 4 3,js 5 4 11,ja 6 5,jk 7 3 1 6,ju 8 7 6,ys 9 1 8 6,yl 10 9 0 6,jj 11 6 10,ja 12 11,jn 13 0 1 12,jt 14 13 12,yq 15 14 12 12,jv 16 15 12,jk 17 4 1 16,ju 18 17 16,ys 19 1 18 16,yl 20 19 0 16,yx 21 16 20 12,jo 22 12 21,ja 23 22,yu 24 7 1 23,zd 25 190 24 23,jo 26 23 25,ja 2 26]
abbrev r98:RC:=jQ QBj (jQ QBk (.ret))
abbrev o98:List RR:=[.tmp 2]
theorem k98:CT 98 27 r98 o98:=ck Tryz.func98 Tryz.ntmps98 (by decide +kernel)
abbrev QBl:IL:=[ja 4 0,ja 5 0,ji 6 1 5,ja 7 1,⟨some 8,.callF (.f 191) [(.t 4),(.t 6),(.t 7)],none⟩]
abbrev r99:RC:=.reg QBl
abbrev o99:List RR:=[]
theorem k99:CT 99 9 r99 o99:=ck Tryz.func99 Tryz.ntmps99 (by decide +kernel)
abbrev Qca:IL:=[jd 4 0]
abbrev Qcb:IL:=[ja 7 0,jr 8 192 7,ja 5 8]
abbrev Qcc:IL:=[ja 9 1,jr 10 192 9,ja 6 10]
abbrev Qcd:IL:=[ja 11 5]
abbrev Qce:IL:=[ja 12 6]
abbrev Qcf:IL:=[jd 4 0]
abbrev Qcg:IL:=[jd 4 (-1)]
abbrev Qch:IL:=[ja 13 6]
abbrev Qci:IL:=[jd 4 1]
abbrev Qcj:IL:=[ja 14 0,ja 15 1,jp 16 14 15]
abbrev AZ:IL:=[jd 4 (-1)]
abbrev A1:IL:=[ja 17 0,ja 18 1,zy 19 17 18]
abbrev A2:IL:=[jd 4 1]
abbrev A3:IL:=[jd 4 0]
abbrev Qck:RC:=jQ Qca (jQ Qcb (jQ Qcc (.seq (jQ Qcd (.cond (.t 11) (.seq (jQ Qce (.cond (.t 12) (jQ Qcf (.ret)) (.skip))) (jQ Qcg (.ret))) (.skip))) (.seq (jQ Qch (.cond (.t 13) (jQ Qci (.ret)) (.skip))) (.seq (jQ Qcj (.cond (.t 16) (jQ AZ (.ret)) (.skip))) (.seq (jQ A1 (.cond (.t 19) (jQ A2 (.ret)) (.skip))) (jQ A3 (.ret))))))))
abbrev Qcl:List RR:=[.tmp 4]
theorem Qcm:CT 101 20 Qck Qcl:=ck Tryz.func101 Tryz.ntmps101 (by decide +kernel)
abbrev Qcn:IL:=[je 1 1 0,jh 2]
abbrev Qco:IL:=[jb 6 0 1,jc 7 6,jb 8 1 1,jc 9 8,jy 10 103 7 9,ja 5 10,jx 11 5 0,jx 12 5 1,ja 3 11,ja 4 12]
abbrev Qcp:IL:=[ja 13 4,yc 14 13 0]
abbrev Qcq:IL:=[jh 2]
abbrev Qcr:IL:=[jb 15 1 1,jc 16 15,jr 17 106 16]
abbrev Qcs:IL:=[jb 18 3 1,jc 19 18,⟨some 20,.val (.bin .str .eql (.t 19) (.c (.str []))),none⟩,ja 2 20]
abbrev Qct:IL:=[jb 21 2 1,jc 22 21,zz 23 22 0,ja 2 23]
abbrev Qcu:RC:=jQ Qcn (.seq (jQ Qco (jQ Qcp (.cond (.t 14) (jQ Qcq (.ret)) (.skip)))) (.seq (jQ Qcr (.cond (.t 17) (jQ Qcs (.ret)) (.skip))) (jQ Qct (.ret))))
abbrev Qcv:List RR:=[.tmp 2]
theorem Qcw:CT 102 24 Qcu Qcv:=ck Tryz.func102 Tryz.ntmps102 (by decide +kernel)
abbrev Qcx:IL:=[yv 4,jd 5 0]
abbrev Qcy:IL:=[ja 6 0,yw 7 6 1,ja 8 7,jv 9 0 8,yr 10 9 65535 8,jo 11 8 10,ja 12 11,jv 13 1 12,D1 14 13 0 12,jo 15 12 14,ja 16 15,jv 17 1 16,yr 18 17 6 16,jo 19 16 18]
abbrev Qcz:IL:=[yv 4,jd 5 6]
abbrev QcA:IL:=[ja 20 0,⟨some 21,.val (.bin .num .mul (.t 20) (.c (.int .i64 8))),none⟩,ja 22 1,yi 23 21 22,Ba 24 23,jr 25 107 24,ja 4 25,jd 5 0]
abbrev QcB:RC:=jQ Qcx (.seq (jQ Qcy (.cond (.t 19) (jQ Qcz (.ret)) (.skip))) (jQ QcA (.ret)))
abbrev QcC:List RR:=[.tmp 4,.tmp 5]
theorem QcD:CT 103 26 QcB QcC:=ck Tryz.func103 Tryz.ntmps103 (by decide +kernel)
abbrev QcE:IL:=[jd 4 0,⟨some 5,.val (.mov (.c (.nili))),none⟩]
abbrev QcF:IL:=[ja 6 0,N0 7 193 6]
abbrev QcG:IL:=[ja 8 0,ja 9 0,Be 10 9,jb 11 1 10,jc 12 11,ja 13 1,⟨some 14,.appS 5 (.t 12) (.t 13),none⟩,Be 15 8,jb 16 1 15,jq 1 16 14]
abbrev QcH:IL:=[ja 17 1,ji 18 0 17,ja 4 18,⟨some 5,.val (.mov (.c (.nili))),none⟩]
abbrev QcI:RC:=jQ QcE (jQ QcF (jQ QcG (jQ QcH (.ret))))
abbrev QcJ:List RR:=[.tmp 4,.tmp 5]
theorem QcK:CT 104 19 QcI QcJ:=ck Tryz.func104 Tryz.ntmps104 (by decide +kernel)
abbrev QcL:IL:=[jh 2]
abbrev QcM:IL:=[ja 3 0,js 4 3 0,ja 5 4,jv 6 0 5,yq 7 6 1 5,jo 8 5 7,ja 9 8,jv 10 0 9,yq 11 10 2 9,jo 12 9 11,ja 2 12]
abbrev QcN:RC:=jQ QcL (jQ QcM (.ret))
abbrev QcO:List RR:=[.tmp 2]
theorem QcP:CT 106 13 QcN QcO:=ck Tryz.func106 Tryz.ntmps106 (by decide +kernel)
abbrev QcQ:IL:=[yv 2]
abbrev QcR:IL:=[yf 3]
abbrev QcS:IL:=[ja 4 0,⟨some 5,.val (.bin .num .geq (.t 4) (.c (.int .u64 128))),none⟩]
abbrev QcT:IL:=[ja 6 3,ja 7 0,⟨some 8,.val (.cvi .u8 (.t 7)),none⟩,⟨some 9,.val (.bin .num .or (.t 8) (.c (.int .u8 128))),none⟩,⟨some 10,.bsl 1 1 [.int .u8 0] [(0,1,(.t 9))],none⟩,yp 11 1 1 5 6 10,ja 3 11]
abbrev QcU:IL:=[ja 12 0,⟨some 13,.val (.bin .num .shr (.t 12) (.c (.int .u64 7))),none⟩,ja 0 13]
abbrev QcV:RC:=.seq (jQ QcS (jX 5 0)) (.block 1 (jQ QcT (.reg QcU)))
abbrev QcW:IL:=[ja 14 3,ja 15 0,⟨some 16,.val (.cvi .u8 (.t 15)),none⟩,⟨some 17,.bsl 1 1 [.int .u8 0] [(0,1,(.t 16))],none⟩,yp 18 1 1 5 14 17,⟨some 19,.val (.b2s (.t 18)),none⟩,ja 2 19]
abbrev QcX:RC:=jQ QcQ (jQ QcR (.gho (.vec 3 3 1) (.seq (.block 0 (.loop QcV)) (jQ QcW (.ret)))))
abbrev QcY:List RR:=[.tmp 2]
theorem QcZ:CT 107 20 QcX QcY:=ck Tryz.func107 Tryz.ntmps107 (by decide +kernel)
abbrev Qc0:IL:=[yv 2]
abbrev Qc1:IL:=[ja 3 0,Be 4 3,jb 5 1 4,⟨some 6,.val (.loado none (.t 5)),none⟩,⟨some 7,.usd (.t 6),none⟩,ja 8 0,Be 9 8,jb 10 1 9,⟨some 11,.val (.loado none (.t 10)),none⟩,ji 12 1 11,⟨some 13,.ustr 5 (.t 7) (.t 12),none⟩,ja 2 13]
abbrev Qc2:RC:=jQ Qc0 (jD Qc1 (.ret))
abbrev Qc3:List RR:=[.tmp 2]
theorem Qc4:CT 108 14 Qc2 Qc3:=ck Tryz.func108 Tryz.ntmps108 (by decide +kernel)
abbrev Qc5:IL:=[je 2 2 0,jh 3]
abbrev Qc6:IL:=[jb 4 0 2,jc 5 4,jc 6 1,zt 7 5 6,ja 3 7]
abbrev Qc7:RC:=jQ Qc5 (jQ Qc6 (.ret))
abbrev Qc8:List RR:=[.tmp 3]
theorem Qc9:CT 113 8 Qc7 Qc8:=ck Tryz.func113 Tryz.ntmps113 (by decide +kernel)
abbrev Qda:IL:=[je 2 2 0,je 3 3 1,zh 4 4,jh 5]
abbrev Qdb:IL:=[jb 7 1 3,jc 8 7,jb 9 0 2,jc 10 9,yt 11 196 8 10,ja 6 11]
abbrev Qdc:IL:=[ja 12 6,yw 13 12 0]
abbrev Qdd:IL:=[⟨some 14,.val (.build [.int .i64 0,.str [],.str [],.int .i64 0,.int .i64 0,.int .i64 0,.int .i64 0,.int .i64 0] []),none⟩,jq 8 4 14,jh 5]
abbrev Qde:IL:=[jb 15 1 3,jc 16 15,ja 17 6,jl 18 8 16 17,jf 19 8 18,jq 8 4 19,yj 5]
abbrev Qdf:RC:=jQ Qda (jQ Qdb (.seq (jQ Qdc (.cond (.t 13) (jQ Qdd (.ret)) (.skip))) (jQ Qde (.ret))))
abbrev Qdg:List RR:=[.cell 4 (some 8),.tmp 5]
theorem Qdh:CT 114 20 Qdf Qdg:=ck Tryz.func114 Tryz.ntmps114 (by decide +kernel)
abbrev Qdi:IL:=[je 1 1 0,jh 2]
abbrev Qdj:IL:=[jb 3 3 1,jc 4 3,js 5 4 4,ja 6 5,jk 7 5 1 6,ju 8 7 6,Gs 9 8 1 6,jg 10 9 6,jk 11 5 1 10,ju 12 11 10,ze 13 12 6 10,⟨some 14,.val (.pick (.t 10) (.t 13) (.c (.bool false))),(some (6,true))⟩,jg 15 14 6,jn 16 5 1 15,jt 17 16 15,yq 18 17 9 15,zf 19 15 18 6,jj 20 6 19,ja 2 20]
abbrev Qdk:RC:=jQ Qdi (jQ Qdj (.ret))
abbrev Qdl:List RR:=[.tmp 2]
theorem Qdm:CT 116 21 Qdk Qdl:=ck Tryz.func116 Tryz.ntmps116 (by decide +kernel)
abbrev Qdn:IL:=[je 3 3 0,je 4 4 1,je 5 5 2,yf 6]
abbrev Qdo:IL:=[jf 13 8 4,zh 7 7,jq 8 7 13]
abbrev Qdp:IL:=[jb 14 3 7,⟨none,.store 1 (.t 14) (.c (.int .i64 2)),none⟩]
abbrev Qdq:IL:=[jf 15 8 7,jr 16 199 15,ja 8 16]
abbrev Qdr:IL:=[ja 17 8,⟨some 18,.val (.cvi .u8 (.t 17)),none⟩,⟨some 19,.bslv 19 1 1 [.int .u8 0] [(0,1,(.t 18))],none⟩,ja 9 19]
abbrev Qds:IL:=[jb 20 3 5,jc 21 20,ji 22 1 21,jd 23 0]
abbrev Qdt:IL:=[jp 24 23 22]
abbrev Qdu:IL:=[jl 25 7 21 23,jf 26 7 25,yk 11 11,jq 7 11 26]
abbrev Qdv:IL:=[jf 27 7 11,jr 28 23 27,⟨some 29,.val (.fld 2 none (.t 28)),none⟩,ja 12 29]
abbrev Qdw:IL:=[ja 30 8,js 31 30 2]
abbrev A4:IL:=[ja 32 9,ja 33 12,jr 34 105 33,⟨some 35,.appS 5 (.t 32) (.t 34),none⟩,ja 9 35]
abbrev A5:IL:=[ja 36 9,ja 37 12,jr 38 107 37,⟨some 39,.appS 5 (.t 36) (.t 38),none⟩,ja 9 39]
abbrev A6:IL:=[jm 40 23 1,ja 23 40]
abbrev Qdx:RC:=.gho (.drop 11) (jQ Qdt (.seq (jX 24 0) (.seq (.block 1 (jQ Qdu (jQ Qdv (jQ Qdw (.cond (.t 31) (.reg A4) (.reg A5)))))) (.reg A6))))
abbrev A7:IL:=[jb 41 0 4,jc 42 41,ja 43 9,⟨some 44,.val (.b2s (.t 43)),none⟩,⟨some 45,.val (.build [.int .i64 0,.int .i64 0,.int .u64 0,.str []] [(0,1,(.t 42)),(1,1,(.c (.int .i64 5))),(3,1,(.t 44))]),none⟩,NZ 46 4 1 0 4 45,ja 6 46]
abbrev Qdy:RC:=jQ Qdn (jQ Qdo (jQ Qdp (jQ Qdq (jQ Qdr (.seq (jQ Qds (.block 0 (.loop Qdx))) (jQ A7 (.ret)))))))
abbrev Qdz:List RR:=[.tmp 6]
theorem QdA:CT 117 47 Qdy Qdz:=ck Tryz.func117 Tryz.ntmps117 (by decide +kernel)
abbrev QdB:IL:=[je 3 3 0,je 4 4 1,je 5 5 2,yf 6]
abbrev QdC:IL:=[jb 7 0 4,yb 8 0 4 7,jw 9 0 3 2 3,jw 10 0 4 8 4,jw 11 0 5 7 5,yh 12 198 9 10 11,jy 13 197 8 12,NZ 14 4 1 0 4 13,ja 6 14]
abbrev QdD:RC:=jQ QdB (jD QdC (.ret))
abbrev QdE:List RR:=[.tmp 6]
theorem QdF:CT 119 15 QdD QdE:=ck Tryz.func119 Tryz.ntmps119 (by decide +kernel)
abbrev QdG:IL:=[jh 4]
abbrev QdH:IL:=[ja 5 0,ja 6 1,yt 7 207 5 6,ja 4 7]
abbrev QdI:RC:=jQ QdG (jQ QdH (.ret))
abbrev QdJ:List RR:=[.tmp 4]
theorem QdK:CT 137 8 QdI QdJ:=ck Tryz.func137 Tryz.ntmps137 (by decide +kernel)
abbrev QdL:IL:=[je 1 1 0,jh 2]
abbrev QdM:IL:=[jb 3 1 1,jc 4 3,ji 5 1 4,yn 6 5 64,ja 2 6]
abbrev QdN:RC:=jQ QdL (jQ QdM (.ret))
abbrev QdO:List RR:=[.tmp 2]
theorem QdP:CT 138 7 QdN QdO:=ck Tryz.func138 Tryz.ntmps138 (by decide +kernel)
abbrev QdQ:IL:=[jh 4]
abbrev QdR:IL:=[ja 5 0,ja 6 1,yt 7 208 5 6,ja 4 7]
abbrev QdS:RC:=jQ QdQ (jQ QdR (.ret))
abbrev QdT:List RR:=[.tmp 4]
theorem QdU:CT 139 8 QdS QdT:=ck Tryz.func139 Tryz.ntmps139 (by decide +kernel)
abbrev QdV:IL:=[je 1 1 0,jh 2]
abbrev QdW:IL:=[jb 3 0 1,jc 4 3,jr 5 142 4,jz 6 5,ja 7 6,jn 8 1 1 7,jt 9 8 7,zn 10 143 9 144 7,jo 11 7 10,ja 2 11]
abbrev QdX:RC:=jQ QdV (jQ QdW (.ret))
abbrev QdY:List RR:=[.tmp 2]
theorem QdZ:CT 141 12 QdX QdY:=ck Tryz.func141 Tryz.ntmps141 (by decide +kernel)
abbrev Qd0:IL:=[jh 2]
abbrev Qd1:IL:=[ja 3 0,jr 4 209 3,ja 5 4,jg 6 0 5,⟨some 7,.call (.f 211) [(.t 6),(.c (.str [46]))],(some (5,true))⟩,⟨some 8,.callF (.f 210) [(.t 7),(.f 212)],(some (5,true))⟩,za 9 8 5,jj 10 5 9,ja 2 10]
abbrev Qd2:RC:=jQ Qd0 (jQ Qd1 (.ret))
abbrev Qd3:List RR:=[.tmp 2]
theorem Qd4:CT 142 11 Qd2 Qd3:=ck Tryz.func142 Tryz.ntmps142 (by decide +kernel)
abbrev Qd5:IL:=[jh 4]
abbrev Qd6:IL:=[ja 5 0,ja 6 1,yt 7 213 5 6,ja 4 7]
abbrev Qd7:RC:=jQ Qd5 (jQ Qd6 (.ret))
abbrev Qd8:List RR:=[.tmp 4]
theorem Qd9:CT 143 8 Qd7 Qd8:=ck Tryz.func143 Tryz.ntmps143 (by decide +kernel)
abbrev Qea:IL:=[je 1 1 0,jh 2]
abbrev Qeb:IL:=[jb 3 1 1,jc 4 3,jr 5 145 4,jz 6 5,ja 2 6]
abbrev Qec:RC:=jQ Qea (jQ Qeb (.ret))
abbrev Qed:List RR:=[.tmp 2]
theorem Qee:CT 144 7 Qec Qed:=ck Tryz.func144 Tryz.ntmps144 (by decide +kernel)
abbrev Qef:IL:=[jh 2]
abbrev Qeg:IL:=[ja 3 0,jr 4 214 3,ja 5 4,jg 6 0 5,zg 7 212 6 5,za 8 7 5,jj 9 5 8,ja 2 9]
abbrev Qeh:RC:=jQ Qef (jQ Qeg (.ret))
abbrev Qei:List RR:=[.tmp 2]
theorem Qej:CT 145 10 Qeh Qei:=ck Tryz.func145 Tryz.ntmps145 (by decide +kernel)
abbrev Qek:IL:=[jh 4]
abbrev Qel:IL:=[jd 5 1]
abbrev Qem:IL:=[ja 6 5,ja 7 0,ji 8 1 7,jp 9 6 8]
abbrev Qen:IL:=[ja 12 1,ja 13 0,ja 14 5,zi 15 14 1,jl 16 3 13 15,yd 17 3 16,ja 18 0,ja 19 5,jl 20 3 18 19,yd 21 3 20,⟨some 22,.callF (.t 12) [(.t 17),(.t 21)],none⟩,jz 23 22]
abbrev Qeo:IL:=[jh 4]
abbrev Qep:IL:=[ja 10 5,jm 11 10 1,ja 5 11]
abbrev Qeq:RC:=.seq (jQ Qem (jX 9 0)) (.seq (.block 1 (jD Qen (.cond (.t 23) (jQ Qeo (.ret)) (.skip)))) (.reg Qep))
abbrev Qer:IL:=[yj 4]
abbrev Qes:RC:=jQ Qek (.seq (jQ Qel (.block 0 (.loop Qeq))) (jQ Qer (.ret)))
abbrev Qet:List RR:=[.tmp 4]
theorem Qeu:CT 149 24 Qes Qet:=ck Tryz.func149 Tryz.ntmps149 (by decide +kernel)
abbrev Qev:IL:=[jh 4]
abbrev Qew:IL:=[jd 5 1]
abbrev Qex:IL:=[ja 6 5,ja 7 0,ji 8 1 7,jp 9 6 8]
abbrev Qey:IL:=[ja 12 1,ja 13 0,ja 14 5,zi 15 14 1,jl 16 5 13 15,yd 17 5 16,ja 18 0,ja 19 5,jl 20 5 18 19,yd 21 5 20,⟨some 22,.callF (.t 12) [(.t 17),(.t 21)],none⟩,jz 23 22]
abbrev Qez:IL:=[jh 4]
abbrev QeA:IL:=[ja 10 5,jm 11 10 1,ja 5 11]
abbrev QeB:RC:=.seq (jQ Qex (jX 9 0)) (.seq (.block 1 (jD Qey (.cond (.t 23) (jQ Qez (.ret)) (.skip)))) (.reg QeA))
abbrev QeC:IL:=[yj 4]
abbrev QeD:RC:=jQ Qev (.seq (jQ Qew (.block 0 (.loop QeB))) (jQ QeC (.ret)))
abbrev QeE:List RR:=[.tmp 4]
theorem QeF:CT 151 24 QeD QeE:=ck Tryz.func151 Tryz.ntmps151 (by decide +kernel)
abbrev QeG:IL:=[je 1 1 0,jh 2]
abbrev QeH:IL:=[jb 3 1 1,jc 4 3,zx 5 154 4 155,jz 6 5,ja 2 6]
abbrev QeI:RC:=jQ QeG (jQ QeH (.ret))
abbrev QeJ:List RR:=[.tmp 2]
theorem QeK:CT 153 7 QeI QeJ:=ck Tryz.func153 Tryz.ntmps153 (by decide +kernel)
abbrev QeL:IL:=[jh 4]
abbrev QeM:IL:=[jd 5 1]
abbrev QeN:IL:=[ja 6 5,ja 7 0,ji 8 1 7,jp 9 6 8]
abbrev QeO:IL:=[ja 12 1,ja 13 0,ja 14 5,zi 15 14 1,jl 16 8 13 15,yd 17 8 16,ja 18 0,ja 19 5,jl 20 8 18 19,yd 21 8 20,⟨some 22,.callF (.t 12) [(.t 17),(.t 21)],none⟩,jz 23 22]
abbrev QeP:IL:=[jh 4]
abbrev QeQ:IL:=[ja 10 5,jm 11 10 1,ja 5 11]
abbrev QeR:RC:=.seq (jQ QeN (jX 9 0)) (.seq (.block 1 (jD QeO (.cond (.t 23) (jQ QeP (.ret)) (.skip)))) (.reg QeQ))
abbrev QeS:IL:=[yj 4]
abbrev QeT:RC:=jQ QeL (.seq (jQ QeM (.block 0 (.loop QeR))) (jQ QeS (.ret)))
abbrev QeU:List RR:=[.tmp 4]
theorem QeV:CT 154 24 QeT QeU:=ck Tryz.func154 Tryz.ntmps154 (by decide +kernel)
abbrev QeW:IL:=[je 2 2 0,je 3 3 1,jh 4]
abbrev QeX:IL:=[jb 5 0 2,jc 6 5,jb 7 0 3,jc 8 7,jp 9 6 8,ja 4 9]
abbrev QeY:RC:=jQ QeW (jQ QeX (.ret))
abbrev QeZ:List RR:=[.tmp 4]
theorem Qe0:CT 155 10 QeY QeZ:=ck Tryz.func155 Tryz.ntmps155 (by decide +kernel)
abbrev Qe1:IL:=[je 2 2 0,jh 3]
abbrev Qe2:IL:=[jb 4 1 1,jc 5 4,Bb 6 160 2,yt 7 139 5 6,ja 8 7,jn 9 1 2 8,jt 10 9 8,zn 11 161 10 162 8,jo 12 8 11,ja 3 12]
abbrev Qe3:RC:=jQ Qe1 (jQ Qe2 (.ret))
abbrev Qe4:List RR:=[.tmp 3]
theorem Qe5:CT 159 13 Qe3 Qe4:=ck Tryz.func159 Tryz.ntmps159 (by decide +kernel)
abbrev Qe6:IL:=[je 3 3 1,jh 4]
abbrev Qe7:IL:=[ja 7 0,ji 8 1 7,jd 9 0]
abbrev Qe8:IL:=[jp 10 9 8]
abbrev Qe9:IL:=[ja 11 9,jl 12 8 7 9,jf 13 8 12,zh 6 6,ja 5 11,jq 8 6 13]
abbrev Qfa:IL:=[ja 14 0,ja 15 5,Bd 16 8 14 15,⟨some 17,.val (.mkfn (.func 216) [] [(.t 3),(.t 6)]),none⟩,yt 18 143 16 17]
abbrev Qfb:IL:=[yj 4]
abbrev Qfc:IL:=[jm 19 9 1,ja 9 19]
abbrev Qfd:RC:=.gho (.drop 6) (jQ Qe8 (.seq (jX 10 0) (.seq (.block 1 (jQ Qe9 (jQ Qfa (.cond (.t 18) (jQ Qfb (.ret)) (.skip))))) (.reg Qfc))))
abbrev Qfe:IL:=[jh 4]
abbrev Qff:RC:=jQ Qe6 (.seq (jQ Qe7 (.block 0 (.loop Qfd))) (jQ Qfe (.ret)))
abbrev Qfg:List RR:=[.tmp 4]
theorem Qfh:CT 161 20 Qff Qfg:=ck Tryz.func161 Tryz.ntmps161 (by decide +kernel)
abbrev Qfi:IL:=[je 1 1 0,yv 2]
abbrev Qfj:IL:=[jb 3 1 1,jc 4 3,ja 2 4]
abbrev Qfk:RC:=jQ Qfi (jQ Qfj (.ret))
abbrev Qfl:List RR:=[.tmp 2]
theorem Qfm:CT 162 5 Qfk Qfl:=ck Tryz.func162 Tryz.ntmps162 (by decide +kernel)
abbrev Qfn:IL:=[je 1 1 0,jh 2]
abbrev Qfo:IL:=[jb 3 1 1,jc 4 3,zx 5 143 4 167,ja 2 5]
abbrev Qfp:RC:=jQ Qfn (jQ Qfo (.ret))
abbrev Qfq:List RR:=[.tmp 2]
theorem Qfr:CT 166 6 Qfp Qfq:=ck Tryz.func166 Tryz.ntmps166 (by decide +kernel)
abbrev Qfs:IL:=[je 1 1 0,jh 2]
abbrev Qft:IL:=[jb 3 0 1,jc 4 3,yw 5 4 1,ja 6 5,jn 7 0 1 6,jt 8 7 6,yr 9 8 65535 6,jo 10 6 9,ja 2 10]
abbrev Qfu:RC:=jQ Qfs (jQ Qft (.ret))
abbrev Qfv:List RR:=[.tmp 2]
theorem Qfw:CT 167 11 Qfu Qfv:=ck Tryz.func167 Tryz.ntmps167 (by decide +kernel)
abbrev Qfx:IL:=[je 2 2 0,jh 3]
abbrev Qfy:IL:=[jf 4 3 2,jr 5 170 4,jz 6 5,ja 7 6,jn 8 1 2 7,jt 9 8 7,⟨some 10,.val (.mkfn (.func 171) [] [(.t 1)]),(some (7,false))⟩,⟨some 11,.callF (.f 143) [(.t 9),(.t 10)],(some (7,false))⟩,jo 12 7 11,ja 3 12]
abbrev Qfz:RC:=jQ Qfx (jQ Qfy (.ret))
abbrev QfA:List RR:=[.tmp 3]
theorem QfB:CT 169 13 Qfz QfA:=ck Tryz.func169 Tryz.ntmps169 (by decide +kernel)
abbrev QfC:IL:=[je 1 1 0,jh 2]
abbrev QfD:IL:=[jd 3 (-1),jd 4 (-1)]
abbrev QfE:IL:=[jb 7 1 1,jc 8 7,ji 9 1 8,jd 10 0]
abbrev QfF:IL:=[jp 11 10 9]
abbrev QfG:IL:=[jl 12 8 8 10,jf 13 8 12,zh 6 6,jq 8 6 13]
abbrev QfH:IL:=[jb 14 7 6,jc 15 14,yc 16 15 (-1),ja 17 16,jk 18 3 6 17,ju 19 18 17,zv 20 19 2 17,jg 21 20 17,jn 22 7 6 21,jt 23 22 21,jv 24 3 21,ML 25 24 1 21,zu 26 23 25 21,jv 27 26 21,jk 28 7 6 27,ju 29 28 27,jg 30 4 27,⟨some 31,.val (.bin .num .neq (.t 29) (.t 30)),(some (27,true))⟩,yx 32 27 31 21,zf 33 21 32 17,jj 34 17 33]
abbrev QfI:IL:=[jh 2]
abbrev QfJ:IL:=[ja 35 3,jb 36 7 6,yb 37 0 6 36,⟨some 38,.val (.mnx true (.t 35) (.t 37)),none⟩,jb 39 7 6,yb 40 0 6 39,ja 3 38,ja 4 40]
abbrev QfK:IL:=[jm 41 10 1,ja 10 41]
abbrev QfL:RC:=.gho (.drop 6) (jQ QfF (.seq (jX 11 0) (.seq (.block 1 (jQ QfG (.seq (jQ QfH (.cond (.t 34) (jQ QfI (.ret)) (.skip))) (.draw QfJ)))) (.reg QfK))))
abbrev QfM:IL:=[jb 42 2 1,jc 43 42,ja 44 3,jm 45 44 1,zt 46 43 45,ja 2 46]
abbrev QfN:RC:=jQ QfC (jQ QfD (.seq (jQ QfE (.block 0 (.loop QfL))) (jQ QfM (.ret))))
abbrev QfO:List RR:=[.tmp 2]
theorem QfP:CT 170 47 QfN QfO:=ck Tryz.func170 Tryz.ntmps170 (by decide +kernel)
abbrev QfQ:IL:=[je 2 2 0,jh 3]
abbrev QfR:IL:=[jb 4 2 2,jc 5 4,jr 6 172 5,jz 7 6,ja 8 7,jn 9 2 2 8,jt 10 9 8,ye 11 0 10 8,yr 12 11 4096 8,jo 13 8 12,ja 14 13,jn 15 3 2 14,jt 16 15 14,D1 17 16 1 14,jo 18 14 17,ja 19 18,jn 20 3 2 19,jt 21 20 19,yr 22 21 5 19,jo 23 19 22,ja 24 23,yu 25 8 2 24,zd 26 173 25 24,zb 27 26 24,jo 28 24 27,ja 29 28,yu 30 2 1 29,yu 31 8 2 29,D2 32 174 30 31 29,zb 33 32 29,jo 34 29 33,ja 3 34]
abbrev QfS:RC:=jQ QfQ (jQ QfR (.ret))
abbrev QfT:List RR:=[.tmp 3]
theorem QfU:CT 171 35 QfS QfT:=ck Tryz.func171 Tryz.ntmps171 (by decide +kernel)
abbrev QfV:IL:=[jh 2]
abbrev QfW:IL:=[ja 3 0,jr 4 220 3,yw 5 4 0,ja 2 5]
abbrev QfX:RC:=jQ QfV (jQ QfW (.ret))
abbrev QfY:List RR:=[.tmp 2]
theorem QfZ:CT 172 6 QfX QfY:=ck Tryz.func172 Tryz.ntmps172 (by decide +kernel)
abbrev Qf0:IL:=[je 1 1 0,jh 2]
abbrev Qf1:IL:=[jb 3 3 1,jc 4 3,yc 5 4 5]
abbrev Qf2:IL:=[jb 6 4 1,jc 7 6,js 8 7 0,ja 2 8]
abbrev Qf3:IL:=[jb 9 4 1,jc 10 9,yo 11 10 1,ja 12 11,jk 13 4 1 12,ju 14 13 12,ze 15 14 7 12,jj 16 12 15,ja 17 16,jk 18 4 1 17,ju 19 18 17,zv 20 19 6 17,jj 21 17 20,ja 2 21]
abbrev Qf4:RC:=jQ Qf0 (.seq (jQ Qf1 (.cond (.t 5) (jQ Qf2 (.ret)) (.skip))) (jQ Qf3 (.ret)))
abbrev Qf5:List RR:=[.tmp 2]
theorem Qf6:CT 173 22 Qf4 Qf5:=ck Tryz.func173 Tryz.ntmps173 (by decide +kernel)
abbrev Qf7:IL:=[je 2 2 0,je 3 3 1,jh 4]
abbrev Qf8:IL:=[jb 5 5 3,jc 6 5]
abbrev Qf9:IL:=[js 8 6 10,ja 7 8]
abbrev Qga:IL:=[jb 9 6 3,jc 10 9,yo 11 10 0,ja 12 11,jk 13 6 3 12,ju 14 13 12,jk 15 0 2 12,ju 16 15 12,ys 17 1 16 12,Gr 18 14 17 12,jj 19 12 18,ja 20 19,jk 21 3 3 20,ju 22 21 20,zv 23 22 3 20,jj 24 20 23,ja 4 24]
abbrev Qgb:IL:=[js 26 6 9,ja 25 26]
abbrev Qgc:IL:=[jb 27 6 3,jc 28 27,yo 29 28 0,ja 30 29,jk 31 6 3 30,ju 32 31 30,jk 33 1 2 30,ju 34 33 30,ys 35 1 34 30,Gr 36 32 35 30,jj 37 30 36,ja 4 37]
abbrev Qgd:IL:=[jb 38 5 3,jc 39 38,jr 40 221 39,ja 41 40,jk 42 6 3 41,ju 43 42 41,yl 44 43 (-1) 41,jj 45 41 44,ja 4 45]
abbrev Qge:RC:=jQ Qf7 (.seq (jQ Qf8 (.block 0 (jQ Qf9 (.cond (.t 7) (jQ Qga (.ret)) (jQ Qgb (.cond (.t 25) (jQ Qgc (.ret)) (.skip))))))) (jQ Qgd (.ret)))
abbrev Qgf:List RR:=[.tmp 4]
theorem Qgg:CT 174 46 Qge Qgf:=ck Tryz.func174 Tryz.ntmps174 (by decide +kernel)
abbrev Qgh:IL:=[je 2 2 0,jh 3]
abbrev Qgi:IL:=[jb 4 3 2,jc 5 4,js 6 5 1,ja 7 6,jk 8 5 2 7,ju 9 8 7,yl 10 9 10 7,jj 11 7 10,ja 12 11,ju 13 1 12,jk 14 6 2 12,ju 15 14 12,ya 16 1 13 15 12,ju 17 16 12,za 18 17 12,jj 19 12 18,ja 3 19]
abbrev Qgj:RC:=jQ Qgh (jQ Qgi (.ret))
abbrev Qgk:List RR:=[.tmp 3]
theorem Qgl:CT 178 20 Qgj Qgk:=ck Tryz.func178 Tryz.ntmps178 (by decide +kernel)
abbrev Qgm:IL:=[jh 4]
abbrev Qgn:IL:=[ja 5 0,ja 6 1,jy 7 223 5 6,yo 8 7 0,ja 4 8]
abbrev Qgo:RC:=jQ Qgm (jQ Qgn (.ret))
abbrev Qgp:List RR:=[.tmp 4]
theorem Qgq:CT 179 9 Qgo Qgp:=ck Tryz.func179 Tryz.ntmps179 (by decide +kernel)
abbrev Qgr:IL:=[je 2 2 0,jh 3]
abbrev Qgs:IL:=[jb 4 0 2,jc 5 4,jb 6 0 1,jc 7 6,zt 8 5 7,ja 3 8]
abbrev Qgt:RC:=jQ Qgr (jQ Qgs (.ret))
abbrev Qgu:List RR:=[.tmp 3]
theorem QLf:CT 180 9 Qgt Qgu:=ck Tryz.func180 Tryz.ntmps180 (by decide +kernel)
abbrev Qgv:IL:=[je 4 4 0,je 5 5 1,je 6 6 2,jd 8 0]
abbrev Qgw:IL:=[jb 12 3 5,jc 13 12]
abbrev Qgx:IL:=[js 15 13 4,ja 14 15]
abbrev Qgy:IL:=[jb 16 0 6,jc 17 16,yc 18 17 11,ja 19 18,yu 20 7 6 19,zd 21 89 20 19,jo 22 19 21]
abbrev Qgz:IL:=[jd 8 12]
abbrev QgA:IL:=[jb 23 3 6,jc 24 23,ji 25 1 24,jd 26 0]
abbrev QgB:IL:=[jp 27 26 25]
abbrev QgC:IL:=[jl 28 7 24 26,jf 29 7 28,yk 10 10,jq 7 10 29]
abbrev QgD:IL:=[jf 30 2 4,jf 31 8 5,jf 32 7 10,ja 33 3,zl 34 224 30 31 32 33,ja 11 34]
abbrev QgE:IL:=[ja 35 11,yc 36 35 0]
abbrev A8:IL:=[ja 37 11,ja 8 37]
abbrev A9:IL:=[jm 38 26 1,ja 26 38]
abbrev QgF:RC:=.gho (.drop 10) (jQ QgB (.seq (jX 27 1) (.seq (.block 2 (jQ QgC (jQ QgD (jQ QgE (.cond (.t 36) (jQ A8 (.ret)) (.skip)))))) (.reg A9))))
abbrev Ea:IL:=[jd 8 0]
abbrev Eb:IL:=[js 40 13 5,ja 39 40]
abbrev Ec:IL:=[jb 41 0 6,jc 42 41,yc 43 42 12,ja 44 43,yu 45 7 6 44,zd 46 89 45 44,jo 47 44 46]
abbrev Ed:IL:=[jd 8 12]
abbrev Ee:IL:=[jf 48 2 4,jf 49 8 5,jb 50 4 6,jc 51 50,ja 52 3,zl 53 225 48 49 51 52,ja 8 53]
abbrev Ef:IL:=[jf 54 2 4,jf 55 8 5,jf 56 7 6,ja 57 3,zl 58 224 54 55 56 57,ja 8 58]
abbrev QgG:RC:=jQ Qgv (.seq (jQ Qgw (.block 0 (jQ Qgx (.cond (.t 14) (.seq (jQ Qgy (.cond (.t 22) (jQ Qgz (.ret)) (.skip))) (.seq (jQ QgA (.block 1 (.loop QgF))) (jQ Ea (.ret)))) (jQ Eb (.cond (.t 39) (.seq (jQ Ec (.cond (.t 47) (jQ Ed (.ret)) (.skip))) (jQ Ee (.ret))) (.skip))))))) (jQ Ef (.ret)))
abbrev QgH:List RR:=[.tmp 8]
theorem QLg:CT 181 59 QgG QgH:=ck Tryz.func181 Tryz.ntmps181 (by decide +kernel)
abbrev QgI:IL:=[jd 4 0]
abbrev QgJ:IL:=[ja 6 0,ji 7 1 6,jd 8 0]
abbrev QgK:IL:=[jp 9 8 7]
abbrev QgL:IL:=[ja 10 8,ja 5 10]
abbrev QgM:IL:=[ja 11 1,ja 12 0,ja 13 5,jl 14 8 12 13,jf 15 8 14,Bc 16 11 15]
abbrev QgN:IL:=[ja 17 5,ja 4 17]
abbrev QgO:IL:=[jm 18 8 1,ja 8 18]
abbrev QgP:RC:=jQ QgK (.seq (jX 9 0) (.seq (.block 1 (jQ QgL (jQ QgM (.cond (.t 16) (jQ QgN (.ret)) (.skip))))) (.reg QgO)))
abbrev QgQ:IL:=[jd 4 (-1)]
abbrev QgR:RC:=jQ QgI (.seq (jQ QgJ (.block 0 (.loop QgP))) (jQ QgQ (.ret)))
abbrev QgS:List RR:=[.tmp 4]
theorem QLh:CT 182 19 QgR QgS:=ck Tryz.func182 Tryz.ntmps182 (by decide +kernel)
def MY:IL:=[yf 2]
def MZ:IL:=[ja 3 0,⟨some 4,.isnil false (.t 3),none⟩]
def M0:IL:=[yf 2]
def M1:IL:=[⟨some 5,.bsl0 5 7,none⟩,ja 6 0,yp 7 7 128 32 5 6,ja 2 7]
def RE:RC:=jQ MY (.seq (jQ MZ (.cond (.t 4) (jQ M0 (.gho (.vec 2 2 7) (.gho (.give 2 2 1 1000) (.ret)))) (.skip))) (jQ M1 (.gho (.give 2 5 1 1000) (.ret))))
def Cb:List RR:=[.tmp 2]
theorem QgT:CT 184 8 RE Cb:=ck Tryz.func184 Tryz.ntmps184 (by decide +kernel)
def Bi:IL:=[yf 2]
def Bj:IL:=[ja 3 0,⟨some 4,.isnil false (.t 3),none⟩]
def Bk:IL:=[yf 2]
def Bl:IL:=[⟨some 5,.bsl0 5 8,none⟩,ja 6 0,yp 7 8 136 55 5 6,ja 2 7]
def Cc:RC:=jQ Bi (.seq (jQ Bj (.cond (.t 4) (jQ Bk (.gho (.vec 2 2 8) (.gho (.give 2 2 1 1000) (.ret)))) (.skip))) (jQ Bl (.gho (.give 2 5 1 1000) (.ret))))
def Dp:List RR:=[.tmp 2]
theorem RF:CT 185 8 Cc Dp:=ck Tryz.func185 Tryz.ntmps185 (by decide +kernel)
abbrev QgU:IL:=[ja 4 0,ja 5 0,ji 6 1 5,ja 7 1,⟨some 8,.callF (.f 227) [(.t 4),(.t 6),(.t 7)],none⟩]
abbrev QgV:RC:=.reg QgU
abbrev QgW:List RR:=[]
theorem QLi:CT 186 9 QgV QgW:=ck Tryz.func186 Tryz.ntmps186 (by decide +kernel)
abbrev QgX:IL:=[je 2 2 0,je 3 3 1,jd 4 0]
abbrev QgY:IL:=[jb 5 0 2,jc 6 5,jb 7 0 3,jc 8 7,jy 9 101 6 8,ja 4 9]
abbrev QgZ:RC:=jQ QgX (jQ QgY (.ret))
abbrev Qg0:List RR:=[.tmp 4]
theorem Qg1:CT 187 10 QgZ Qg0:=ck Tryz.func187 Tryz.ntmps187 (by decide +kernel)
abbrev Qg2:IL:=[je 3 3 0,je 4 4 1,je 5 5 2,yk 6 6]
abbrev Qg3:IL:=[jb 7 5 4,jc 8 7,js 9 8 10]
abbrev Qg4:IL:=[jf 10 2 3,jb 11 6 4,jc 12 11,jf 13 7 5,yh 14 60 10 12 13,jq 7 6 14]
abbrev Qg5:IL:=[jf 15 7 5,jr 16 50 15,jq 7 6 16]
abbrev Qg6:RC:=jQ Qg2 (.seq (jQ Qg3 (.cond (.t 9) (jQ Qg4 (.ret)) (.skip))) (jQ Qg5 (.ret)))
abbrev Qg7:List RR:=[.cell 6 (some 7)]
theorem RG:CT 188 17 Qg6 Qg7:=ck Tryz.func188 Tryz.ntmps188 (by decide +kernel)
abbrev Qg8:IL:=[je 1 1 0,jh 2]
abbrev Qg9:IL:=[jb 3 0 1,jc 4 3,jr 5 221 4,ja 6 5,zp 7 7 1 6,zg 8 233 7 6,jj 9 6 8,ja 10 9,jk 11 1 1 10,ju 12 11 10,⟨some 13,.val (.bin .num .eql (.t 12) (.c (.int .u64 0))),(some (10,true))⟩,jj 14 10 13,ja 15 14,jk 16 2 1 15,ju 17 16 15,⟨some 18,.val (.bin .str .eql (.t 17) (.c (.str []))),(some (15,true))⟩,jj 19 15 18,ja 2 19]
abbrev Qha:RC:=jQ Qg8 (jQ Qg9 (.ret))
abbrev Qhb:List RR:=[.tmp 2]
theorem Qhc:CT 190 20 Qha Qhb:=ck Tryz.func190 Tryz.ntmps190 (by decide +kernel)
abbrev Qhd:IL:=[jd 6 20]
abbrev Qhe:IL:=[ja 10 6,jd 7 0,ja 8 10]
abbrev Qhf:IL:=[ja 11 8,ja 12 1,Bf 13 11 12]
abbrev Qhg:IL:=[ja 14 0,ja 15 7,ja 16 8,ja 17 2,⟨some 18,.callF (.f 234) [(.t 14),(.t 15),(.t 16),(.t 17)],none⟩]
abbrev Qhh:IL:=[ja 19 8,ja 7 19]
abbrev Qhi:IL:=[ja 20 8,ja 21 6,yi 22 20 21,ja 8 22]
abbrev Qhj:RC:=.seq (jQ Qhf (jX 13 0)) (.block 1 (jQ Qhg (jQ Qhh (.reg Qhi))))
abbrev Qhk:IL:=[ja 23 0,ja 24 7,ja 25 1,ja 26 2,⟨some 27,.callF (.f 234) [(.t 23),(.t 24),(.t 25),(.t 26)],none⟩]
abbrev Qhl:IL:=[ja 28 6,ja 29 1,jp 30 28 29]
abbrev Qhm:IL:=[ja 31 6,MM 32 2 31,jd 7 0,ja 8 32]
abbrev Qhn:IL:=[ja 33 8,ja 34 1,Bf 35 33 34]
abbrev Eg:IL:=[ja 36 0,ja 37 7,ja 38 7,ja 39 6,yi 40 38 39,ja 41 8,ja 42 2,⟨some 43,.callF (.f 235) [(.t 36),(.t 37),(.t 40),(.t 41),(.t 42)],none⟩]
abbrev Eh:IL:=[ja 44 8,ja 7 44]
abbrev Ei:IL:=[ja 45 8,ja 46 6,MM 47 2 46,yi 48 45 47,ja 8 48]
abbrev Qho:RC:=.seq (jQ Qhn (jX 35 4)) (.block 5 (jQ Eg (jQ Eh (.reg Ei))))
abbrev Ej:IL:=[ja 49 7,ja 50 6,yi 51 49 50,ja 9 51]
abbrev Ek:IL:=[ja 52 9,ja 53 1,jp 54 52 53]
abbrev Em:IL:=[ja 55 0,ja 56 7,ja 57 9,ja 58 1,ja 59 2,⟨some 60,.callF (.f 235) [(.t 55),(.t 56),(.t 57),(.t 58),(.t 59)],none⟩]
abbrev Eo:IL:=[ja 61 6,⟨some 62,.val (.bin .num .mul (.t 61) (.c (.int .i64 2))),none⟩,ja 6 62]
abbrev Qhp:RC:=.seq (jQ Qhl (jX 30 2)) (.block 3 (jQ Qhm (.seq (.block 4 (.loop Qho)) (.seq (jQ Ej (jQ Ek (.cond (.t 54) (.reg Em) (.skip)))) (.reg Eo)))))
abbrev Qhq:RC:=jQ Qhd (jQ Qhe (.seq (.block 0 (.loop Qhj)) (jQ Qhk (.block 2 (.loop Qhp)))))
abbrev Qhr:List RR:=[]
theorem QLj:CT 191 63 Qhq Qhr:=ck Tryz.func191 Tryz.ntmps191 (by decide +kernel)
abbrev Qhs:IL:=[jh 2]
abbrev Qht:IL:=[ja 3 0,ja 4 0,zq 5 3 4,ja 2 5]
abbrev Qhu:RC:=jQ Qhs (jQ Qht (.ret))
abbrev Qhv:List RR:=[.tmp 2]
theorem Qhw:CT 192 6 Qhu Qhv:=ck Tryz.func192 Tryz.ntmps192 (by decide +kernel)
abbrev Qhx:IL:=[ja 2 0,Be 3 2,jb 4 0 3,jc 5 4,⟨some 6,.val (.bin .ptr .eql (.t 5) (.c (.nilp))),none⟩]
abbrev Qhy:IL:=[ja 7 0,ja 8 0,⟨some 9,.val (.toU (.t 8)),none⟩,⟨some 10,.val (.same (.t 9)),none⟩,⟨some 11,.val (.ofU 141 2 (.t 10)),none⟩,Be 12 7,jb 13 0 12,jq 1 13 11]
abbrev Qhz:IL:=[ja 14 0,Be 15 14,jb 16 0 15,jc 17 16,ja 18 0,⟨some 19,.val (.bin .ptr .neq (.t 17) (.t 18)),none⟩]
abbrev QhA:RC:=jQ Qhx (.cond (.t 6) (.reg Qhy) (jQ Qhz (.cond (.t 19) (.no) (.skip))))
abbrev QhB:List RR:=[]
theorem QhC:CT 193 20 QhA QhB:=ck Tryz.func193 Tryz.ntmps193 (by decide +kernel)
abbrev QhD:IL:=[jd 4 0]
abbrev QhE:IL:=[ja 6 0,ji 7 1 6,jd 8 0]
abbrev QhF:IL:=[jp 9 8 7]
abbrev QhG:IL:=[ja 10 8,ja 5 10]
abbrev QhH:IL:=[ja 11 1,ja 12 0,ja 13 5,jl 14 8 12 13,jf 15 8 14,Bc 16 11 15]
abbrev QhI:IL:=[ja 17 5,ja 4 17]
abbrev QhJ:IL:=[jm 18 8 1,ja 8 18]
abbrev QhK:RC:=jQ QhF (.seq (jX 9 0) (.seq (.block 1 (jQ QhG (jQ QhH (.cond (.t 16) (jQ QhI (.ret)) (.skip))))) (.reg QhJ)))
abbrev QhL:IL:=[jd 4 (-1)]
abbrev QhM:RC:=jQ QhD (.seq (jQ QhE (.block 0 (.loop QhK))) (jQ QhL (.ret)))
abbrev QhN:List RR:=[.tmp 4]
theorem RH:CT 196 19 QhM QhN:=ck Tryz.func196 Tryz.ntmps196 (by decide +kernel)
abbrev QhO:IL:=[je 3 3 1,zs 4 4]
abbrev QhP:IL:=[ja 5 0,jb 6 0 3,jq 1 6 5]
abbrev QhQ:IL:=[jf 7 4 3,jq 4 4 7]
abbrev QhR:RC:=jQ QhO (jQ QhP (jQ QhQ (.ret)))
abbrev QhS:List RR:=[.cell 4 (some 4)]
theorem QhT:CT 197 8 QhR QhS:=ck Tryz.func197 Tryz.ntmps197 (by decide +kernel)
abbrev QhU:IL:=[je 3 3 0,je 4 4 1,je 5 5 2,zs 6 6]
abbrev QhV:IL:=[jb 7 5 4,jc 8 7,js 9 8 10]
abbrev QhW:IL:=[jf 10 2 3,jb 11 6 4,jc 12 11,jf 13 7 5,yh 14 31 10 12 13,⟨some 15,.val (.build [.int .i64 0,.int .i64 0,.int .u64 0,.str []] [(1,1,(.c (.int .i64 4))),(3,1,(.t 14))]),none⟩,jq 4 6 15]
abbrev QhX:IL:=[jf 16 7 5,jr 17 23 16,jq 4 6 17]
abbrev QhY:RC:=jQ QhU (.seq (jQ QhV (.cond (.t 9) (jQ QhW (.ret)) (.skip))) (jQ QhX (.ret)))
abbrev QhZ:List RR:=[.cell 6 (some 4)]
theorem RI:CT 198 18 QhY QhZ:=ck Tryz.func198 Tryz.ntmps198 (by decide +kernel)
abbrev Qh0:IL:=[je 1 1 0,jd 2 0]
abbrev Qh1:IL:=[jb 4 3 1,jc 5 4,js 6 5 5,ja 3 6]
abbrev Qh2:IL:=[jd 2 6]
abbrev Qh3:IL:=[jf 8 8 1,jr 9 116 8,ja 7 9]
abbrev Qh4:IL:=[jd 2 5]
abbrev Qh5:IL:=[jb 10 5 1,jc 11 10]
abbrev Qh6:IL:=[js 13 11 1,ja 12 13]
abbrev Qh7:IL:=[js 14 11 4,ja 12 14]
abbrev Qh8:IL:=[js 15 11 5,ja 12 15]
abbrev Qh9:IL:=[js 16 11 9,ja 12 16]
abbrev Ep:IL:=[jd 2 0]
abbrev Er:IL:=[js 18 11 2,ja 17 18]
abbrev Es:IL:=[js 19 11 3,ja 17 19]
abbrev Et:IL:=[jd 2 1]
abbrev Eu:IL:=[js 21 11 6,ja 20 21]
abbrev Ex:IL:=[jd 2 2]
abbrev Ey:IL:=[js 23 11 7,ja 22 23]
abbrev EA:IL:=[js 24 11 8,ja 22 24]
abbrev EB:IL:=[jd 2 3]
abbrev EC:IL:=[js 26 11 10,ja 25 26]
abbrev ED:IL:=[jd 2 4]
abbrev EE:IL:=[jd 2 (-1)]
abbrev Qia:RC:=jQ Qh0 (.seq (.block 0 (jQ Qh1 (.cond (.t 3) (jQ Qh2 (.ret)) (jQ Qh3 (.cond (.t 7) (jQ Qh4 (.ret)) (.skip)))))) (.seq (jQ Qh5 (.block 1 (.seq (jQ Qh6 (.cond (.t 12) (.skip) (jQ Qh7 (.cond (.t 12) (.skip) (jQ Qh8 (.cond (.t 12) (.skip) (.reg Qh9))))))) (.cond (.t 12) (jQ Ep (.ret)) (.seq (jQ Er (.cond (.t 17) (.skip) (.reg Es))) (.cond (.t 17) (jQ Et (.ret)) (jQ Eu (.cond (.t 20) (jQ Ex (.ret)) (.seq (jQ Ey (.cond (.t 22) (.skip) (.reg EA))) (.cond (.t 22) (jQ EB (.ret)) (jQ EC (.cond (.t 25) (jQ ED (.ret)) (.skip))))))))))))) (jQ EE (.ret))))
abbrev Qib:List RR:=[.tmp 2]
theorem Qic:CT 199 27 Qia Qib:=ck Tryz.func199 Tryz.ntmps199 (by decide +kernel)
abbrev Qid:IL:=[jh 4]
abbrev Qie:IL:=[ja 5 0,ja 6 1,yt 7 55 5 6,yo 8 7 0,ja 4 8]
abbrev Qif:RC:=jQ Qid (jQ Qie (.ret))
abbrev Qig:List RR:=[.tmp 4]
theorem Qih:CT 207 9 Qif Qig:=ck Tryz.func207 Tryz.ntmps207 (by decide +kernel)
abbrev Qii:IL:=[jh 4]
abbrev Qij:IL:=[ja 5 0,ja 6 1,yt 7 239 5 6,yo 8 7 0,ja 4 8]
abbrev Qik:RC:=jQ Qii (jQ Qij (.ret))
abbrev Qil:List RR:=[.tmp 4]
theorem Qim:CT 208 9 Qik Qil:=ck Tryz.func208 Tryz.ntmps208 (by decide +kernel)
abbrev Qin:IL:=[jh 2]
abbrev Qio:IL:=[ja 5 0,⟨some 6,.call (.f 211) [(.t 5),(.c (.str [46]))],none⟩,ji 7 1 6,jd 8 0]
abbrev Qip:IL:=[jp 9 8 7]
abbrev Qiq:IL:=[jl 10 1 6 8,jc 11 10,ja 4 11]
abbrev Qir:IL:=[ja 12 4,jr 13 214 12,jz 14 13]
abbrev Qis:IL:=[jh 2]
abbrev Qit:IL:=[jm 15 8 1,ja 8 15]
abbrev Qiu:RC:=jQ Qip (.seq (jX 9 0) (.seq (.block 1 (jQ Qiq (jQ Qir (.cond (.t 14) (jQ Qis (.ret)) (.skip))))) (.reg Qit)))
abbrev Qiv:IL:=[ja 16 0,ji 17 0 16,⟨some 18,.val (.bin .num .leq (.t 17) (.c (.int .i64 120))),none⟩,ja 2 18]
abbrev Qiw:RC:=jQ Qin (.seq (jQ Qio (.block 0 (.loop Qiu))) (jQ Qiv (.ret)))
abbrev Qix:List RR:=[.tmp 2]
theorem Qiy:CT 209 19 Qiw Qix:=ck Tryz.func209 Tryz.ntmps209 (by decide +kernel)
abbrev Qiz:IL:=[jh 4]
abbrev QiA:IL:=[ja 5 0,ja 6 1,yt 7 240 5 6,yo 8 7 0,ja 4 8]
abbrev QiB:RC:=jQ Qiz (jQ QiA (.ret))
abbrev QiC:List RR:=[.tmp 4]
theorem QiD:CT 210 9 QiB QiC:=ck Tryz.func210 Tryz.ntmps210 (by decide +kernel)
abbrev QiE:IL:=[yf 4]
abbrev QiF:IL:=[ja 5 0,ja 6 1,⟨some 7,.call (.f 241) [(.t 5),(.t 6),(.c (.int .i64 0)),(.c (.int .i64 (-1)))],none⟩,ja 4 7]
abbrev QiG:RC:=jQ QiE (jQ QiF (.ret))
abbrev QiH:List RR:=[.tmp 4]
theorem QiI:CT 211 8 QiG QiH:=ck Tryz.func211 Tryz.ntmps211 (by decide +kernel)
abbrev QiJ:IL:=[jh 2]
abbrev QiK:IL:=[ja 3 0]
abbrev QiL:IL:=[⟨some 5,.val (.bin .str .eql (.t 3) (.c (.str [109,101,115,115,97,103,101]))),none⟩,ja 4 5]
abbrev QiM:IL:=[⟨some 6,.val (.bin .str .eql (.t 3) (.c (.str [101,110,117,109]))),none⟩,ja 4 6]
abbrev QiN:IL:=[⟨some 7,.val (.bin .str .eql (.t 3) (.c (.str [115,101,114,118,105,99,101]))),none⟩,ja 4 7]
abbrev QiO:IL:=[⟨some 8,.val (.bin .str .eql (.t 3) (.c (.str [117,110,105,111,110]))),none⟩,ja 4 8]
abbrev QiP:IL:=[⟨some 9,.val (.bin .str .eql (.t 3) (.c (.str [109,97,112]))),none⟩,ja 4 9]
abbrev QiQ:IL:=[⟨some 10,.val (.bin .str .eql (.t 3) (.c (.str [108,105,115,116]))),none⟩,ja 4 10]
abbrev QiR:IL:=[⟨some 11,.val (.bin .str .eql (.t 3) (.c (.str [114,101,113,117,105,114,101,100]))),none⟩,ja 4 11]
abbrev QiS:IL:=[⟨some 12,.val (.bin .str .eql (.t 3) (.c (.str [111,112,116,105,111,110,97,108]))),none⟩,ja 4 12]
abbrev EF:IL:=[⟨some 13,.val (.bin .str .eql (.t 3) (.c (.str [112,108,97,105,110]))),none⟩,ja 4 13]
abbrev EG:IL:=[⟨some 14,.val (.bin .str .eql (.t 3) (.c (.str [100,101,102,97,117,108,116]))),none⟩,ja 4 14]
abbrev EH:IL:=[⟨some 15,.val (.bin .str .eql (.t 3) (.c (.str [114,101,115,101,114,118,101,100]))),none⟩,ja 4 15]
abbrev EI:IL:=[yj 2]
abbrev EJ:IL:=[⟨some 17,.val (.bin .str .eql (.t 3) (.c (.str [105,109,112,111,114,116]))),none⟩,ja 16 17]
abbrev EK:IL:=[⟨some 18,.val (.bin .str .eql (.t 3) (.c (.str [115,112,97,99,101]))),none⟩,ja 16 18]
abbrev EL:IL:=[⟨some 19,.val (.bin .str .eql (.t 3) (.c (.str [114,112,99]))),none⟩,ja 16 19]
abbrev EM:IL:=[⟨some 20,.val (.bin .str .eql (.t 3) (.c (.str [115,116,114,101,97,109]))),none⟩,ja 16 20]
abbrev EN:IL:=[⟨some 21,.val (.bin .str .eql (.t 3) (.c (.str [114,101,116,117,114,110,115]))),none⟩,ja 16 21]
abbrev EO:IL:=[⟨some 22,.val (.bin .str .eql (.t 3) (.c (.str [111,112,101,110]))),none⟩,ja 16 22]
abbrev EP:IL:=[⟨some 23,.val (.bin .str .eql (.t 3) (.c (.str [116,114,117,101]))),none⟩,ja 16 23]
abbrev EQ:IL:=[⟨some 24,.val (.bin .str .eql (.t 3) (.c (.str [102,97,108,115,101]))),none⟩,ja 16 24]
abbrev ER:IL:=[⟨some 25,.val (.bin .str .eql (.t 3) (.c (.str [110,97,110]))),none⟩,ja 16 25]
abbrev ES:IL:=[⟨some 26,.val (.bin .str .eql (.t 3) (.c (.str [105,110,102]))),none⟩,ja 16 26]
abbrev ET:IL:=[yj 2]
abbrev EU:IL:=[jh 2]
abbrev QiT:RC:=jQ QiJ (.seq (jQ QiK (.block 0 (.seq (jQ QiL (.cond (.t 4) (.skip) (jQ QiM (.cond (.t 4) (.skip) (jQ QiN (.cond (.t 4) (.skip) (jQ QiO (.cond (.t 4) (.skip) (jQ QiP (.cond (.t 4) (.skip) (jQ QiQ (.cond (.t 4) (.skip) (jQ QiR (.cond (.t 4) (.skip) (jQ QiS (.cond (.t 4) (.skip) (jQ EF (.cond (.t 4) (.skip) (jQ EG (.cond (.t 4) (.skip) (.reg EH))))))))))))))))))))) (.cond (.t 4) (jQ EI (.ret)) (.seq (jQ EJ (.cond (.t 16) (.skip) (jQ EK (.cond (.t 16) (.skip) (jQ EL (.cond (.t 16) (.skip) (jQ EM (.cond (.t 16) (.skip) (jQ EN (.cond (.t 16) (.skip) (jQ EO (.cond (.t 16) (.skip) (jQ EP (.cond (.t 16) (.skip) (jQ EQ (.cond (.t 16) (.skip) (jQ ER (.cond (.t 16) (.skip) (.reg ES))))))))))))))))))) (.cond (.t 16) (jQ ET (.ret)) (.skip))))))) (jQ EU (.ret)))
abbrev QiU:List RR:=[.tmp 2]
theorem RJ:CT 212 27 QiT QiU:=ck Tryz.func212 Tryz.ntmps212 (by decide +kernel)
abbrev QiV:IL:=[jh 4]
abbrev QiW:IL:=[ja 5 0,ja 6 1,yt 7 196 5 6,yo 8 7 0,ja 4 8]
abbrev QiX:RC:=jQ QiV (jQ QiW (.ret))
abbrev QiY:List RR:=[.tmp 4]
theorem QiZ:CT 213 9 QiX QiY:=ck Tryz.func213 Tryz.ntmps213 (by decide +kernel)
abbrev Qi0:IL:=[jh 2]
abbrev Qi1:IL:=[ja 6 0,⟨some 7,.rngs 7 (.t 6),none⟩]
abbrev Qi2:IL:=[⟨some 8,.nxts (.t 7),none⟩,jx 9 8 0]
abbrev Qi3:IL:=[jx 10 8 1,jx 11 8 2,ja 3 10,ja 4 11]
abbrev Qi4:IL:=[ja 12 4,jr 13 242 12,ja 5 13]
abbrev Qi5:IL:=[ja 14 5,js 15 14 0,ja 16 15,jv 17 3 16,yq 18 17 0 16,jv 19 18 16,jg 20 5 19,zv 21 20 1 19,yx 22 19 21 16,jv 23 22 16,jg 24 5 23,zv 25 24 2 23,yx 26 23 25 16,jo 27 16 26]
abbrev Qi6:IL:=[jh 2]
abbrev Qi7:RC:=jQ Qi2 (.seq (jX 9 0) (.block 1 (jQ Qi3 (jQ Qi4 (jQ Qi5 (.cond (.t 27) (jQ Qi6 (.ret)) (.skip)))))))
abbrev Qi8:IL:=[ja 28 0,ji 29 0 28,yo 30 29 1,ja 31 30,jg 32 0 31,ys 33 0 32 31,ze 34 33 40 31,jj 35 31 34,ja 2 35]
abbrev Qi9:RC:=jQ Qi0 (.seq (jQ Qi1 (.block 0 (.loop Qi7))) (jQ Qi8 (.ret)))
abbrev Qja:List RR:=[.tmp 2]
theorem Qjb:CT 214 36 Qi9 Qja:=ck Tryz.func214 Tryz.ntmps214 (by decide +kernel)
abbrev Qjc:IL:=[je 3 3 0,jh 4]
abbrev Qjd:IL:=[jc 5 1,jw 6 0 3 8 3,⟨some 7,.call (.t 5) [(.t 6)],none⟩,jc 8 1,jf 9 8 2,⟨some 10,.call (.t 8) [(.t 9)],none⟩,MK 11 7 10,ja 4 11]
abbrev Qje:RC:=jQ Qjc (jD Qjd (.ret))
abbrev Qjf:List RR:=[.tmp 4]
theorem Qjg:CT 216 12 Qje Qjf:=ck Tryz.func216 Tryz.ntmps216 (by decide +kernel)
abbrev Qjh:IL:=[jd 2 0]
abbrev Qji:IL:=[ja 5 0,⟨some 6,.rngs 6 (.t 5),none⟩]
abbrev Qjj:IL:=[⟨some 7,.nxts (.t 6),none⟩,jx 8 7 0]
abbrev Qjk:IL:=[jx 9 7 1,jx 10 7 2,ja 3 9,ja 4 10]
abbrev Qjl:IL:=[ja 11 0,ja 12 3,ja 13 4,yh 14 246 11 12 13]
abbrev Qjm:IL:=[ja 15 3,ja 2 15]
abbrev Qjn:RC:=jQ Qjj (.seq (jX 8 0) (.block 1 (jQ Qjk (jQ Qjl (.cond (.t 14) (jQ Qjm (.ret)) (.skip))))))
abbrev Qjo:IL:=[jd 2 (-1)]
abbrev Qjp:RC:=jQ Qjh (.seq (jQ Qji (.block 0 (.loop Qjn))) (jQ Qjo (.ret)))
abbrev Qjq:List RR:=[.tmp 2]
theorem Qjr:CT 220 16 Qjp Qjq:=ck Tryz.func220 Tryz.ntmps220 (by decide +kernel)
abbrev Qjs:IL:=[jh 2]
abbrev Qjt:IL:=[ja 3 0,yo 4 3 1,ja 5 4,jg 6 0 5,ze 7 6 9 5,jj 8 5 7,ja 2 8]
abbrev Qju:RC:=jQ Qjs (jQ Qjt (.ret))
abbrev Qjv:List RR:=[.tmp 2]
theorem Qjw:CT 221 9 Qju Qjv:=ck Tryz.func221 Tryz.ntmps221 (by decide +kernel)
abbrev Qjx:IL:=[jd 4 0]
abbrev Qjy:IL:=[ja 6 0,ji 7 1 6,jd 8 0]
abbrev Qjz:IL:=[jp 9 8 7]
abbrev QjA:IL:=[ja 10 8,ja 5 10]
abbrev QjB:IL:=[ja 11 1,ja 12 0,ja 13 5,jl 14 1 12 13,jc 15 14,⟨some 16,.val (.bin .bool .eql (.t 11) (.t 15)),none⟩]
abbrev QjC:IL:=[ja 17 5,ja 4 17]
abbrev QjD:IL:=[jm 18 8 1,ja 8 18]
abbrev QjE:RC:=jQ Qjz (.seq (jX 9 0) (.seq (.block 1 (jQ QjA (jQ QjB (.cond (.t 16) (jQ QjC (.ret)) (.skip))))) (.reg QjD)))
abbrev QjF:IL:=[jd 4 (-1)]
abbrev QjG:RC:=jQ Qjx (.seq (jQ Qjy (.block 0 (.loop QjE))) (jQ QjF (.ret)))
abbrev QjH:List RR:=[.tmp 4]
theorem QjI:CT 223 19 QjG QjH:=ck Tryz.func223 Tryz.ntmps223 (by decide +kernel)
abbrev QjJ:IL:=[je 4 4 0,je 5 5 1,je 6 6 2,jd 8 0]
abbrev QjK:IL:=[jb 9 5 5,jc 10 9,js 11 10 10]
abbrev QjL:IL:=[jw 12 0 4 2 4,jb 13 0 4,jb 14 0 13,yb 15 0 4 14,jb 16 6 5,yb 17 0 5 16,jl 18 3 15 17,yd 19 3 18,jw 20 0 6 7 6,ja 21 3,jm 22 21 1,zl 23 58 12 19 20 22,ja 8 23]
abbrev QjM:IL:=[jf 24 2 4,jb 25 5 5,jc 26 25,jb 27 6 5,jc 28 27,jf 29 7 6,zl 30 249 24 26 28 29,ja 8 30]
abbrev QjN:RC:=jQ QjJ (.seq (jQ QjK (.cond (.t 11) (jD QjL (.ret)) (.skip))) (jQ QjM (.ret)))
abbrev QjO:List RR:=[.tmp 8]
theorem QLk:CT 224 31 QjN QjO:=ck Tryz.func224 Tryz.ntmps224 (by decide +kernel)
abbrev QjP:IL:=[jd 6 20]
abbrev QjQ:IL:=[ja 10 6,jd 7 0,ja 8 10]
abbrev QjR:IL:=[ja 11 8,ja 12 1,Bf 13 11 12]
abbrev QjS:IL:=[ja 14 0,ja 15 7,ja 16 8,ja 17 2,⟨some 18,.callF (.f 252) [(.t 14),(.t 15),(.t 16),(.t 17)],none⟩]
abbrev QjT:IL:=[ja 19 8,ja 7 19]
abbrev QjU:IL:=[ja 20 8,ja 21 6,yi 22 20 21,ja 8 22]
abbrev QjV:RC:=.seq (jQ QjR (jX 13 0)) (.block 1 (jQ QjS (jQ QjT (.reg QjU))))
abbrev QjW:IL:=[ja 23 0,ja 24 7,ja 25 1,ja 26 2,⟨some 27,.callF (.f 252) [(.t 23),(.t 24),(.t 25),(.t 26)],none⟩]
abbrev QjX:IL:=[ja 28 6,ja 29 1,jp 30 28 29]
abbrev QjY:IL:=[ja 31 6,MM 32 2 31,jd 7 0,ja 8 32]
abbrev QjZ:IL:=[ja 33 8,ja 34 1,Bf 35 33 34]
abbrev EV:IL:=[ja 36 0,ja 37 7,ja 38 7,ja 39 6,yi 40 38 39,ja 41 8,ja 42 2,⟨some 43,.callF (.f 253) [(.t 36),(.t 37),(.t 40),(.t 41),(.t 42)],none⟩]
abbrev EX:IL:=[ja 44 8,ja 7 44]
abbrev EY:IL:=[ja 45 8,ja 46 6,MM 47 2 46,yi 48 45 47,ja 8 48]
abbrev Qj0:RC:=.seq (jQ QjZ (jX 35 4)) (.block 5 (jQ EV (jQ EX (.reg EY))))
abbrev EZ:IL:=[ja 49 7,ja 50 6,yi 51 49 50,ja 9 51]
abbrev E0:IL:=[ja 52 9,ja 53 1,jp 54 52 53]
abbrev E1:IL:=[ja 55 0,ja 56 7,ja 57 9,ja 58 1,ja 59 2,⟨some 60,.callF (.f 253) [(.t 55),(.t 56),(.t 57),(.t 58),(.t 59)],none⟩]
abbrev E2:IL:=[ja 61 6,⟨some 62,.val (.bin .num .mul (.t 61) (.c (.int .i64 2))),none⟩,ja 6 62]
abbrev Qj1:RC:=.seq (jQ QjX (jX 30 2)) (.block 3 (jQ QjY (.seq (.block 4 (.loop Qj0)) (.seq (jQ EZ (jQ E0 (.cond (.t 54) (.reg E1) (.skip)))) (.reg E2)))))
abbrev Qj2:RC:=jQ QjP (jQ QjQ (.seq (.block 0 (.loop QjV)) (jQ QjW (.block 2 (.loop Qj1)))))
abbrev Qj3:List RR:=[]
theorem QLl:CT 227 63 Qj2 Qj3:=ck Tryz.func227 Tryz.ntmps227 (by decide +kernel)
abbrev Qj4:IL:=[je 1 1 0,jh 2]
abbrev Qj5:IL:=[jb 3 3 1,jc 4 3,ji 5 1 4,jb 6 4 1,jc 7 6,ji 8 1 7,yi 9 5 8,jb 10 5 1,jc 11 10,ji 12 1 11,yi 13 9 12,jb 14 6 1,jc 15 14,ji 16 1 15,yi 17 13 16,yn 18 17 0]
abbrev Qj6:IL:=[jh 2]
abbrev Qj7:IL:=[jb 19 0 1,jc 20 19,jr 21 265 20]
abbrev Qj8:IL:=[jb 22 1 1,jc 23 22,zz 24 23 0,ja 2 24]
abbrev Qj9:IL:=[jb 25 2 1,jc 26 25,⟨some 27,.val (.bin .str .eql (.t 26) (.c (.str []))),none⟩,ja 2 27]
abbrev Qka:RC:=jQ Qj4 (.seq (jQ Qj5 (.cond (.t 18) (jQ Qj6 (.ret)) (.skip))) (.seq (jQ Qj7 (.cond (.t 21) (jQ Qj8 (.ret)) (.skip))) (jQ Qj9 (.ret))))
abbrev Qkb:List RR:=[.tmp 2]
theorem Qkc:CT 233 28 Qka Qkb:=ck Tryz.func233 Tryz.ntmps233 (by decide +kernel)
abbrev Qkd:IL:=[ja 10 1,jm 11 10 1,ja 8 11]
abbrev Qke:IL:=[ja 12 8,ja 13 2,jp 14 12 13]
abbrev Qkf:IL:=[ja 17 8,ja 9 17]
abbrev Qkg:IL:=[ja 18 9,ja 19 1,zy 20 18 19,ja 21 20,jg 22 3 21,jg 23 0 21,jg 24 9 21,ya 25 4 23 24 21,Gt 26 4 25 21,jg 27 0 21,jg 28 9 21,D3 29 28 1 21,ya 30 4 27 29 21,Gt 31 4 30 21,⟨some 32,.call (.t 22) [(.t 26),(.t 31)],(some (21,true))⟩,⟨some 33,.val (.bin .num .lss (.t 32) (.c (.int .i64 0))),(some (21,true))⟩,jj 34 21 33]
abbrev Qkh:IL:=[ja 37 0,ja 38 9,ja 39 0,ja 40 9,zi 41 40 1,ja 42 0,ja 43 9,zi 44 43 1,jl 45 4 42 44,yd 46 4 45,ja 47 0,ja 48 9,jl 49 4 47 48,yd 50 4 49,jl 51 4 37 38,jq 4 51 46,jl 52 4 39 41,jq 4 52 50]
abbrev Qki:IL:=[ja 35 9,zi 36 35 1,ja 9 36]
abbrev Qkj:RC:=.seq (jD Qkg (jX 34 2)) (.seq (.block 3 (.draw Qkh)) (.reg Qki))
abbrev Qkk:IL:=[ja 15 8,jm 16 15 1,ja 8 16]
abbrev Qkl:RC:=.seq (jQ Qke (jX 14 0)) (.seq (.block 1 (jQ Qkf (.block 2 (.loop Qkj)))) (.reg Qkk))
abbrev Qkm:RC:=jQ Qkd (.block 0 (.loop Qkl))
abbrev Qkn:List RR:=[]
theorem QLm:CT 234 53 Qkm Qkn:=ck Tryz.func234 Tryz.ntmps234 (by decide +kernel)
abbrev Qko:IL:=[jd 4 0]
abbrev Qkp:IL:=[ja 6 0,ji 7 1 6,jd 8 0]
abbrev Qkq:IL:=[jp 9 8 7]
abbrev Qkr:IL:=[ja 10 8,ja 5 10]
abbrev Qks:IL:=[ja 11 1,ja 12 0,ja 13 5,jl 14 5 12 13,jf 15 5 14,Bc 16 11 15]
abbrev Qkt:IL:=[ja 17 5,ja 4 17]
abbrev Qku:IL:=[jm 18 8 1,ja 8 18]
abbrev Qkv:RC:=jQ Qkq (.seq (jX 9 0) (.seq (.block 1 (jQ Qkr (jQ Qks (.cond (.t 16) (jQ Qkt (.ret)) (.skip))))) (.reg Qku)))
abbrev Qkw:IL:=[jd 4 (-1)]
abbrev Qkx:RC:=jQ Qko (.seq (jQ Qkp (.block 0 (.loop Qkv))) (jQ Qkw (.ret)))
abbrev Qky:List RR:=[.tmp 4]
theorem Qkz:CT 239 19 Qkx Qky:=ck Tryz.func239 Tryz.ntmps239 (by decide +kernel)
abbrev QkA:IL:=[jd 4 0]
abbrev QkB:IL:=[ja 6 0,ji 7 1 6,jd 8 0]
abbrev QkC:IL:=[jp 9 8 7]
abbrev QkD:IL:=[ja 10 8,ja 5 10]
abbrev QkE:IL:=[ja 11 1,ja 12 0,ja 13 5,jl 14 1 12 13,jc 15 14,Bc 16 11 15]
abbrev QkF:IL:=[ja 17 5,ja 4 17]
abbrev QkG:IL:=[jm 18 8 1,ja 8 18]
abbrev QkH:RC:=jQ QkC (.seq (jX 9 0) (.seq (.block 1 (jQ QkD (jQ QkE (.cond (.t 16) (jQ QkF (.ret)) (.skip))))) (.reg QkG)))
abbrev QkI:IL:=[jd 4 (-1)]
abbrev QkJ:RC:=jQ QkA (.seq (jQ QkB (.block 0 (.loop QkH))) (jQ QkI (.ret)))
abbrev QkK:List RR:=[.tmp 4]
theorem QkL:CT 240 19 QkJ QkK:=ck Tryz.func240 Tryz.ntmps240 (by decide +kernel)
abbrev QkM:IL:=[yf 8]
abbrev QkN:IL:=[ja 12 3,js 13 12 0]
abbrev QkO:IL:=[yf 8]
abbrev QkP:IL:=[ja 14 1,⟨some 15,.val (.bin .str .eql (.t 14) (.c (.str []))),none⟩]
abbrev QkQ:IL:=[ja 16 0,ja 17 3,jy 18 269 16 17,ja 8 18]
abbrev QkR:IL:=[ja 19 3,yw 20 19 0]
abbrev QkS:IL:=[ja 21 0,ja 22 1,jy 23 270 21 22,jm 24 23 1,ja 3 24]
abbrev QkT:IL:=[ja 25 3,ja 26 0,ji 27 0 26,jm 28 27 1,⟨some 29,.val (.mnx false (.t 25) (.t 28)),none⟩,ja 3 29]
abbrev QkU:IL:=[ja 30 3,⟨some 31,.mk 31 9 1 16 [.str []] (.t 30) (.t 30),none⟩,ja 9 31]
abbrev QkV:IL:=[ja 32 3,zi 33 32 1,ja 3 33]
abbrev E3:IL:=[jd 10 0]
abbrev E4:IL:=[ja 34 10,ja 35 3,jp 36 34 35]
abbrev E5:IL:=[ja 37 0,ja 38 1,jy 39 271 37 38,ja 11 39]
abbrev E6:IL:=[ja 40 11,yw 41 40 0]
abbrev E7:IL:=[ja 42 9,ja 43 10,ja 44 0,ja 45 11,ja 46 2,yi 47 45 46,⟨some 48,.val (.slc none (.t 44) none (some (.t 47)) none),none⟩,jl 49 1 42 43,jq 1 49 48]
abbrev E8:IL:=[ja 50 0,ja 51 11,ja 52 1,ji 53 0 52,yi 54 51 53,MN 55 50 54,ja 0 55]
abbrev E9:IL:=[ja 56 10,jm 57 56 1,ja 10 57]
abbrev QkW:RC:=.seq (jQ E4 (jX 36 0)) (.block 1 (jQ E5 (.seq (jQ E6 (.cond (.t 41) (.exit 0) (.skip))) (jQ E7 (jQ E8 (.reg E9))))))
abbrev Ia:IL:=[ja 58 9,ja 59 10,ja 60 0,jl 61 1 58 59,jq 1 61 60]
abbrev Ib:IL:=[ja 62 9,ja 63 10,jm 64 63 1,Bd 65 1 62 64,ja 8 65]
abbrev QkX:RC:=jQ QkM (.seq (jQ QkN (.cond (.t 13) (jQ QkO (.ret)) (.skip))) (.seq (jQ QkP (.cond (.t 15) (jQ QkQ (.ret)) (.skip))) (.seq (jQ QkR (.cond (.t 20) (.reg QkS) (.skip))) (jQ QkT (jQ QkU (jQ QkV (jQ E3 (.seq (.block 0 (.loop QkW)) (jQ Ia (jQ Ib (.ret)))))))))))
abbrev QkY:List RR:=[.tmp 8]
theorem QkZ:CT 241 66 QkX QkY:=ck Tryz.func241 Tryz.ntmps241 (by decide +kernel)
abbrev Qk0:IL:=[jd 2 0]
abbrev Qk1:IL:=[ja 4 0,⟨some 5,.val (.bin .num .geq (.t 4) (.c (.int .i32 97))),none⟩,ja 6 5,jg 7 0 6,⟨some 8,.val (.bin .num .leq (.t 7) (.c (.int .i32 122))),(some (6,true))⟩,jj 9 6 8,ja 3 9]
abbrev Qk2:IL:=[jd 2 1]
abbrev Qk3:IL:=[ja 11 0,⟨some 12,.val (.bin .num .geq (.t 11) (.c (.int .i32 65))),none⟩,ja 13 12,jg 14 0 13,⟨some 15,.val (.bin .num .leq (.t 14) (.c (.int .i32 90))),(some (13,true))⟩,jj 16 13 15,ja 10 16]
abbrev Qk4:IL:=[jd 2 2]
abbrev Qk5:IL:=[ja 18 0,⟨some 19,.val (.bin .num .geq (.t 18) (.c (.int .i32 48))),none⟩,ja 20 19,jg 21 0 20,⟨some 22,.val (.bin .num .leq (.t 21) (.c (.int .i32 57))),(some (20,true))⟩,jj 23 20 22,ja 17 23]
abbrev Qk6:IL:=[jd 2 3]
abbrev Qk7:IL:=[ja 25 0,⟨some 26,.val (.bin .num .eql (.t 25) (.c (.int .i32 95))),none⟩,ja 24 26]
abbrev Qk8:IL:=[jd 2 4]
abbrev Qk9:IL:=[jd 2 0]
abbrev Qla:RC:=jQ Qk0 (.seq (.block 0 (jQ Qk1 (.cond (.t 3) (jQ Qk2 (.ret)) (jQ Qk3 (.cond (.t 10) (jQ Qk4 (.ret)) (jQ Qk5 (.cond (.t 17) (jQ Qk6 (.ret)) (jQ Qk7 (.cond (.t 24) (jQ Qk8 (.ret)) (.skip)))))))))) (jQ Qk9 (.ret)))
abbrev Qlb:List RR:=[.tmp 2]
theorem Qlc:CT 242 27 Qla Qlb:=ck Tryz.func242 Tryz.ntmps242 (by decide +kernel)
abbrev Qld:IL:=[je 4 4 0,je 7 7 3,jd 8 0]
abbrev Qle:IL:=[jb 10 0 7,jc 11 10,ja 12 1,zq 13 11 12,ja 14 13,yu 15 7 7 14,zd 16 89 15 14,jo 17 14 16,ja 9 17]
abbrev Qlf:IL:=[jd 8 12]
abbrev Qlg:IL:=[jb 19 2 7,jc 20 19,ji 21 0 20,yn 22 21 4096,ja 18 22]
abbrev Qlh:IL:=[jd 8 3]
abbrev Qli:IL:=[ja 24 1,js 25 24 7,ja 26 25,jk 27 2 7 26,ju 28 27 26,zg 29 172 28 26,za 30 29 26,jj 31 26 30,ja 23 31]
abbrev Qlj:IL:=[jd 8 7]
abbrev Qlk:IL:=[ja 33 1,jf 34 7 7,jy 35 275 33 34,jz 36 35,ja 32 36]
abbrev Qll:IL:=[jd 8 12]
abbrev Qlm:IL:=[ja 38 1,js 39 38 9,ja 40 39,jk 41 0 4 40,zp 42 2 41 40,jg 43 2 40,jk 44 1 7 40,ju 45 44 40,⟨some 46,.call (.f 183) [(.t 42),(.t 43),(.t 45)],(some (40,true))⟩,za 47 46 40,jj 48 40 47,ja 37 48]
abbrev Ic:IL:=[jd 8 16]
abbrev Ie:IL:=[jd 8 0]
abbrev Qln:RC:=jQ Qld (.seq (.block 0 (jQ Qle (.cond (.t 9) (jQ Qlf (.ret)) (jQ Qlg (.cond (.t 18) (jQ Qlh (.ret)) (jQ Qli (.cond (.t 23) (jQ Qlj (.ret)) (jQ Qlk (.cond (.t 32) (jQ Qll (.ret)) (jQ Qlm (.cond (.t 37) (jQ Ic (.ret)) (.skip)))))))))))) (jQ Ie (.ret)))
abbrev Qlo:List RR:=[.tmp 8]
theorem QLn:CT 249 49 Qln Qlo:=ck Tryz.func249 Tryz.ntmps249 (by decide +kernel)
abbrev Qlp:IL:=[ja 10 1,jm 11 10 1,ja 8 11]
abbrev Qlq:IL:=[ja 12 8,ja 13 2,jp 14 12 13]
abbrev Qlr:IL:=[ja 17 8,ja 9 17]
abbrev Qls:IL:=[ja 18 9,ja 19 1,zy 20 18 19,ja 21 20,jg 22 3 21,jg 23 0 21,jg 24 9 21,ya 25 8 23 24 21,Gt 26 8 25 21,jg 27 0 21,jg 28 9 21,D3 29 28 1 21,ya 30 8 27 29 21,Gt 31 8 30 21,⟨some 32,.call (.t 22) [(.t 26),(.t 31)],(some (21,true))⟩,⟨some 33,.val (.bin .num .lss (.t 32) (.c (.int .i64 0))),(some (21,true))⟩,jj 34 21 33]
abbrev Qlt:IL:=[ja 37 0,ja 38 9,ja 39 0,ja 40 9,zi 41 40 1,ja 42 0,ja 43 9,zi 44 43 1,jl 45 8 42 44,yd 46 8 45,ja 47 0,ja 48 9,jl 49 8 47 48,yd 50 8 49,jl 51 8 37 38,jq 8 51 46,jl 52 8 39 41,jq 8 52 50]
abbrev Qlu:IL:=[ja 35 9,zi 36 35 1,ja 9 36]
abbrev Qlv:RC:=.seq (jD Qls (jX 34 2)) (.seq (.block 3 (.draw Qlt)) (.reg Qlu))
abbrev Qlw:IL:=[ja 15 8,jm 16 15 1,ja 8 16]
abbrev Qlx:RC:=.seq (jQ Qlq (jX 14 0)) (.seq (.block 1 (jQ Qlr (.block 2 (.loop Qlv)))) (.reg Qlw))
abbrev Qly:RC:=jQ Qlp (.block 0 (.loop Qlx))
abbrev Qlz:List RR:=[]
theorem QLo:CT 252 53 Qly Qlz:=ck Tryz.func252 Tryz.ntmps252 (by decide +kernel)
abbrev QlA:IL:=[jh 2]
abbrev QlB:IL:=[ja 3 0,js 4 3 7,ja 5 4,jv 6 0 5,yq 7 6 8 5,jo 8 5 7,ja 2 8]
abbrev QlC:RC:=jQ QlA (jQ QlB (.ret))
abbrev QlD:List RR:=[.tmp 2]
theorem QlE:CT 265 9 QlC QlD:=ck Tryz.func265 Tryz.ntmps265 (by decide +kernel)
abbrev QlF:IL:=[jd 4 0]
abbrev QlG:IL:=[ja 7 1,ji 8 0 7,js 9 8 0]
abbrev QlH:IL:=[ja 10 0,jr 11 284 10,jm 12 11 1,ja 4 12]
abbrev QlI:IL:=[ja 13 1,ji 14 0 13,js 15 14 1]
abbrev QlJ:IL:=[ja 16 0,ja 17 1,⟨some 18,.val (.idx (.t 17) (.c (.int .i64 0))),none⟩,⟨some 19,.xb true 286 (.t 16) (.t 18),none⟩,ja 4 19]
abbrev QlK:IL:=[jd 5 0]
abbrev QlL:IL:=[ja 20 0,ja 21 1,jy 22 271 20 21,ja 6 22]
abbrev QlM:IL:=[ja 23 6,js 24 23 (-1)]
abbrev QlN:IL:=[ja 25 5,ja 4 25]
abbrev QlO:IL:=[ja 26 5,jm 27 26 1,ja 5 27]
abbrev Ig:IL:=[ja 28 0,ja 29 6,ja 30 1,ji 31 0 30,yi 32 29 31,MN 33 28 32,ja 0 33]
abbrev QlP:RC:=.block 1 (jQ QlL (.seq (jQ QlM (.cond (.t 24) (jQ QlN (.ret)) (.skip))) (jQ QlO (.reg Ig))))
abbrev QlQ:RC:=jQ QlF (.seq (jQ QlG (.cond (.t 9) (jQ QlH (.ret)) (.skip))) (.seq (jQ QlI (.cond (.t 15) (jQ QlJ (.ret)) (.skip))) (jQ QlK (.block 0 (.loop QlP)))))
abbrev QlR:List RR:=[.tmp 4]
theorem QlS:CT 270 34 QlQ QlR:=ck Tryz.func270 Tryz.ntmps270 (by decide +kernel)
abbrev QlT:IL:=[jd 4 0]
abbrev QlU:IL:=[ja 5 0,ja 6 1,jy 7 287 5 6,ja 4 7]
abbrev QlV:RC:=jQ QlT (jQ QlU (.ret))
abbrev QlW:List RR:=[.tmp 4]
theorem QlX:CT 271 8 QlV QlW:=ck Tryz.func271 Tryz.ntmps271 (by decide +kernel)
abbrev QlY:IL:=[je 3 3 1,jh 4]
abbrev QlZ:IL:=[ja 5 0,jr 6 221 5,jz 7 6,ja 8 7,jn 9 0 3 8,jt 10 9 8,jv 11 0 8,zu 12 10 11 8,jo 13 8 12,ja 14 13,yu 15 7 3 14,zd 16 233 15 14,zb 17 16 14,jo 18 14 17,ja 19 18,jv 20 0 19,jn 21 1 3 19,jt 22 21 19,D2 23 289 20 22 19,zb 24 23 19,jo 25 19 24,ja 26 25,jn 27 2 3 26,jt 28 27 26,ye 29 0 28 26,yr 30 29 4096 26,jo 31 26 30]
abbrev Ql0:IL:=[jh 4]
abbrev Ql1:IL:=[ja 32 0,yc 33 32 7,ja 34 33,jn 35 2 3 34,jt 36 35 34,zd 37 172 36 34,jo 38 34 37,ja 4 38]
abbrev Ql2:RC:=jQ QlY (.seq (jQ QlZ (.cond (.t 31) (jQ Ql0 (.ret)) (.skip))) (jQ Ql1 (.ret)))
abbrev Ql3:List RR:=[.tmp 4]
theorem Ql4:CT 275 39 Ql2 Ql3:=ck Tryz.func275 Tryz.ntmps275 (by decide +kernel)
def M2:IL:=[jd 4 0]
def M3:IL:=[ja 14 1,ji 15 0 14,ja 5 15]
def M4:IL:=[ja 17 5,js 18 17 0,ja 19 18,jv 20 1 19,jv 21 0 19,⟨some 22,.val (.bin .str .eql (.t 20) (.t 21)),(some (19,false))⟩,jo 23 19 22,ja 16 23]
def M5:IL:=[jd 4 0]
def M6:IL:=[ja 25 5,js 26 25 1,ja 24 26]
def M7:IL:=[ja 27 0,ja 28 1,⟨some 29,.val (.idx (.t 28) (.c (.int .i64 0))),none⟩,jy 30 295 27 29,ja 4 30]
def M8:IL:=[ja 32 5,ja 33 0,ji 34 0 33,⟨some 35,.val (.bin .num .geq (.t 32) (.t 34)),none⟩,ja 31 35]
def M9:IL:=[jd 4 (-1)]
def Pa:IL:=[ja 45 0,ja 46 1,jy 47 296 45 46,ja 4 47]
def Ih:IL:=[ja 48 1,⟨some 49,.val (.idx (.t 48) (.c (.int .i64 0))),none⟩,ja 6 49]
def Ii:IL:=[ja 50 1,⟨some 51,.val (.idx (.t 50) (.c (.int .i64 1))),none⟩,ja 7 51]
def Ij:IL:=[jd 8 0]
def Ik:IL:=[ja 52 0,ji 53 0 52,ja 54 5,N3 55 53 54,jm 56 55 1,ja 9 56]
def Il:IL:=[jd 10 0]
def Im:IL:=[ja 57 8,ja 58 9,jp 59 57 58]
def Io:IL:=[ja 60 0,ja 61 8,D4 62 60 61,ja 63 6,zq 64 62 63]
def Ip:IL:=[ja 65 0,ja 66 8,jm 67 66 1,ja 68 9,⟨some 69,.val (.slc none (.t 65) (some (.t 67)) (some (.t 68)) none),none⟩,ja 70 6,jy 71 295 69 70,ja 11 71]
def Iq:IL:=[ja 72 11,yw 73 72 0]
def Ir:IL:=[jd 4 (-1)]
def Is:IL:=[ja 74 8,ja 75 11,jm 76 75 1,yi 77 74 76,ja 8 77]
def It:IL:=[ja 78 0,ja 79 8,jm 80 79 1,D4 81 78 80,ja 82 7,zt 83 81 82,ja 84 83,jg 85 0 84,jg 86 8 84,jg 87 8 84,jg 88 5 84,⟨some 89,.val (.bin .num .add (.t 87) (.t 88)),(some (84,true))⟩,⟨some 90,.val (.slc none (.t 85) (some (.t 86)) (some (.t 89)) none),(some (84,true))⟩,jg 91 1 84,MH 92 90 91 84,jj 93 84 92]
def Iu:IL:=[ja 94 8,ja 4 94]
def Iv:IL:=[ja 95 8,jm 96 95 1,ja 8 96]
def Iw:IL:=[ja 97 10,jm 98 97 1,ja 10 98]
def Ix:IL:=[ja 108 0,ja 109 8,MN 110 108 109,ja 111 1,jy 112 296 110 111,ja 12 112]
def Iy:IL:=[ja 113 12,yo 114 113 0]
def Iz:IL:=[ja 115 12,ja 116 8,yi 117 115 116,ja 4 117]
def IA:IL:=[jd 4 (-1)]
def IB:IL:=[ja 133 0,ja 134 8,MN 135 133 134,ja 136 1,jy 137 298 135 136,ja 13 137]
def IC:IL:=[ja 138 13,yw 139 138 0]
def ID:IL:=[jd 4 (-1)]
def IE:IL:=[ja 140 8,ja 141 13,yi 142 140 141,ja 4 142]
def Ql5:RC:=.seq (jQ Im (jX 59 1)) (.block 2 (.seq (jQ Io (.cond (.t 64) (jQ Ip (.seq (jQ Iq (.cond (.t 73) (jQ Ir (.ret)) (.skip))) (.reg Is))) (.skip))) (.seq (jQ It (.cond (.t 93) (jQ Iu (.ret)) (.skip))) (jQ Iv (jQ Iw (.seq (.no) (.cond (.t 107) (jQ Ix (.seq (jQ Iy (.cond (.t 114) (jQ Iz (.ret)) (.skip))) (jQ IA (.ret)))) (.seq (.no) (.cond (.t 132) (jQ IB (.seq (jQ IC (.cond (.t 139) (jQ ID (.ret)) (.skip))) (jQ IE (.ret)))) (.skip))))))))))
def IF:IL:=[jd 4 (-1)]
def Cd:RC:=jQ M2 (jQ M3 (.seq (.block 0 (jQ M4 (.cond (.t 16) (jQ M5 (.ret)) (jQ M6 (.cond (.t 24) (jQ M7 (.ret)) (jQ M8 (.cond (.t 31) (jQ M9 (.ret)) (.seq (.no) (.cond (.t 36) (jQ Pa (.ret)) (.skip)))))))))) (jQ Ih (jQ Ii (jQ Ij (jQ Ik (jQ Il (.seq (.block 1 (.loop Ql5)) (jQ IF (.ret))))))))))
def RK:List RR:=[.tmp 4]
theorem Ql6:CT 287 143 Cd RK:=ck Tryz.func287 Tryz.ntmps287 (by decide +kernel)
abbrev Ql7:IL:=[jh 4]
abbrev Ql8:IL:=[zj 5 4294967295]
abbrev Ql9:IL:=[ja 6 0]
abbrev Qma:IL:=[js 8 6 1,ja 7 8]
abbrev Qmb:IL:=[js 10 6 2,ja 9 10]
abbrev Qmc:IL:=[js 12 6 9,ja 11 12]
abbrev Qmd:IL:=[js 14 6 4,ja 13 14]
abbrev Qme:IL:=[ja 15 1,⟨some 16,.val (.bin .num .leq (.t 15) (.c (.int .u64 1))),none⟩,ja 4 16]
abbrev Qmf:IL:=[ja 17 1,Gq 18 17,yo 19 18 (-2147483648),ja 20 19,jg 21 1 20,⟨some 22,.val (.cvi .i64 (.t 21)),(some (20,true))⟩,ze 23 22 2147483647 20,jj 24 20 23,ja 4 24]
abbrev Qmg:IL:=[zj 5 2147483647]
abbrev IG:IL:=[ja 25 1,ja 26 5,Bf 27 25 26,ja 4 27]
abbrev IH:IL:=[yj 4]
abbrev Qmh:RC:=jQ Ql7 (jQ Ql8 (.seq (jQ Ql9 (.block 0 (.seq (.block 4 (.seq (.block 3 (.seq (.block 2 (.seq (.block 1 (.seq (.seq (jQ Qma (.cond (.t 7) (.exit 1) (.skip))) (.seq (jQ Qmb (.cond (.t 9) (.exit 2) (.skip))) (.seq (jQ Qmc (.cond (.t 11) (.exit 3) (.skip))) (jQ Qmd (.cond (.t 13) (.exit 4) (.skip)))))) (.exit 0))) (.seq (jQ Qme (.ret)) (.exit 0)))) (.seq (jQ Qmf (.ret)) (.exit 0)))) (.reg Qmg))) (.seq (jQ IG (.ret)) (.exit 0))))) (jQ IH (.ret))))
abbrev Qmi:List RR:=[.tmp 4]
theorem Qmj:CT 289 28 Qmh Qmi:=ck Tryz.func289 Tryz.ntmps289 (by decide +kernel)
abbrev Qmk:IL:=[jd 4 0]
abbrev Qml:IL:=[ja 5 0,ja 6 1,⟨some 7,.xb false 300 (.t 5) (.t 6),none⟩,ja 4 7]
abbrev Qmm:RC:=jQ Qmk (jQ Qml (.ret))
abbrev Qmn:List RR:=[.tmp 4]
theorem Qmo:CT 295 8 Qmm Qmn:=ck Tryz.func295 Tryz.ntmps295 (by decide +kernel)
def Qmp:IL:=[je 3 3 0,je 5 5 2,jd 6 0]
def Qmq:IL:=[ja 8 1,yw 9 8 0,ja 10 9,jv 11 1 10,jn 12 0 3 10,jt 13 12 10,ye 14 1 13 10,MJ 15 11 14 10,jo 16 10 15]
def Qmr:IL:=[jd 6 10]
def Qms:IL:=[jf 17 2 3,ja 18 1,jf 19 7 5,⟨some 20,.call (.f 20) [(.t 17),(.t 18),(.t 19),(.c (.int .i64 1))],none⟩,ja 7 20]
def Qmt:IL:=[ja 21 7,yc 22 21 0]
def Qmu:IL:=[ja 23 7,ja 6 23]
def Qmv:IL:=[jf 24 7 5,jr 25 21 24,yn 26 25 4096]
def Qmw:IL:=[jd 6 3]
def Qmx:IL:=[jd 6 0]
def r7:RC:=jQ Qmp (.seq (jQ Qmq (.cond (.t 16) (jQ Qmr (.ret)) (.skip))) (.seq (jQ Qms (jQ Qmt (.cond (.t 22) (jQ Qmu (.ret)) (.skip)))) (.seq (jQ Qmv (.cond (.t 26) (jQ Qmw (.ret)) (.skip))) (jQ Qmx (.ret)))))
def o7:List RR:=[.tmp 6]
theorem k7:CT 7 27 r7 o7:=ck Tryz.func7 Tryz.ntmps7 (by decide +kernel)
abbrev QLp:IL:=[je 3 3 0,je 5 5 2,yk 6 6]
abbrev QLq:IL:=[ja 12 1,yw 13 12 0,ja 14 13,jv 15 1 14,jn 16 0 3 14,jt 17 16 14,ye 18 1 17 14,MJ 19 15 18 14,jo 20 14 19]
abbrev QLr:IL:=[⟨some 21,.val (.build [.int .i64 0,.int .u64 0,.str [],.nils,.nils,.nils,.nils] []),none⟩,jq 7 6 21]
abbrev QLs:IL:=[jb 22 6 5,jc 23 22,jr 24 25 23,⟨some 25,.val (.build [.int .i64 0,.int .u64 0,.str [],.nils,.nils,.nils,.nils] [(0,1,(.c (.int .i64 10))),(6,1,(.t 24))]),none⟩,yk 7 7,jq 7 7 25]
abbrev QLt:IL:=[jd 8 0]
abbrev QLu:IL:=[ja 26 8,jb 27 0 3,jc 28 27,ja 29 1,jl 30 3 28 29,jb 31 1 30,jc 32 31,ji 33 1 32,jp 34 26 33]
abbrev QLv:IL:=[jb 37 0 3,jc 38 37,ja 39 1,jl 40 3 38 39,jb 41 1 40,jc 42 41,ja 43 8,jl 44 8 42 43,jf 45 8 44,zh 9 9,jq 8 9 45]
abbrev QLw:IL:=[jd 10 0]
abbrev QLx:IL:=[ja 46 10,jb 47 5 5,jc 48 47,ji 49 1 48,jp 50 46 49]
abbrev QBm:IL:=[jb 53 5 5,yb 54 0 5 53,ja 55 10,jl 56 8 54 55,jb 57 0 56,zo 58 57,jb 59 0 9,yb 60 0 9 59,zq 61 58 60]
abbrev QBn:IL:=[jw 62 0 3 2 3,jw 63 0 9 8 9,jb 64 5 5,yb 65 0 5 64,ja 66 10,jl 67 8 65 66,jb 68 1 67,yd 69 7 68,yh 70 26 62 63 69,yk 11 11,yg 0 11 7 11 70]
abbrev QBo:IL:=[jb 71 3 9,jc 72 71,yw 73 72 3,ja 74 73,yu 75 7 11 74,zd 76 27 75 74,zb 77 76 74,jo 78 74 77]
abbrev QBp:IL:=[jb 79 5 7,jc 80 79,jb 81 0 9,jc 82 81,jf 83 7 11,⟨some 84,.val (.build [.int .i64 0,.int .i64 0,.int .u64 0,.str [],.nils,.nils,.nils,.nils] [(0,1,(.t 82)),(1,7,(.t 83))]),none⟩,⟨some 85,.bsl 8 1 [.int .i64 0,.int .i64 0,.int .u64 0,.str [],.nils,.nils,.nils,.nils] [(0,8,(.t 84))],none⟩,yp 86 8 136 55 80 85,jb 87 5 7,jq 1 87 86]
abbrev QBq:IL:=[ja 51 10,jm 52 51 1,ja 10 52]
abbrev Qmy:RC:=.gho (.drop 11) (.seq (jQ QLx (jX 50 2)) (.seq (.block 3 (.seq (jD QBm (.cond (.t 61) (.exit 3) (.skip))) (jD QBn (jQ QBo (.cond (.t 78) (.reg QBp) (.skip)))))) (.reg QBq)))
abbrev QLy:IL:=[ja 35 8,jm 36 35 1,ja 8 36]
abbrev QLz:RC:=.gho (.drop 11) (.gho (.drop 9) (.seq (jQ QLu (jX 34 0)) (.seq (.block 1 (jQ QLv (jQ QLw (.block 2 (.loop Qmy))))) (.reg QLy))))
abbrev QBr:IL:=[jf 88 7 7,jq 7 6 88]
abbrev r9:RC:=jQ QLp (.seq (jQ QLq (.cond (.t 20) (jQ QLr (.ret)) (.skip))) (jQ QLs (.gho (.vecc 7 5 1100 8) (.seq (jQ QLt (.block 0 (.loop QLz))) (jQ QBr (.ret))))))
abbrev o9:List RR:=[.cell 6 (some 7)]
theorem k9:CT 9 89 r9 o9:=ck Tryz.func9 Tryz.ntmps9 (by decide +kernel)
end Go.Proofs.YtdhlbgejhcejcaaGreatDoor.Rc

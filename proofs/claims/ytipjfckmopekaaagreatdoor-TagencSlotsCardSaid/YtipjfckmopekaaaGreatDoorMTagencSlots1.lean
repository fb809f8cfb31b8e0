/- Parts of the proof, in order. -/
import Derived.Deep.LoopGhost
import Derived.Scope
import Derived.Orders
import Derived.Defers
import Derived.Below
import Derived.ChangeSame
import Derived.ProofKit
import Derived.Test.YtipjfckmopekaaaGreatDoorProg
import Derived.Test.YtipjfckmopekaaaGreatDoorMTagencSlots0

namespace Go.Proofs.YtipjfckmopekaaaGreatDoor.Am
open Go

def Qj (P:Program)(k:FuncId)(args:List AV)(v:AV):Prop:=WH P k args (· = v)

def YW (P:Program)(d:Option Nat)(op:RO)(st:St)(K:St→Prop):Prop :=
 match op with
 |.val vo=>∃x,Qs st.f st.m vo=some x∧K { st with f:=Qo st.f d x }
 |.allocN s z=>XE st.m s=true∧K { st with m:=Am.put st.m 0 s (.cells z),f:=Qo st.f d (.ptr 0 s 0) }
 |.boxN s r=>XE st.m s=true∧(r.ev st.f).cells.all AV.leaf=true∧K { st with m:=Am.put st.m 0 s (.cells (r.ev st.f).cells),f:=Qo st.f d (.ptr 0 s 0) }
 |.store n p r=>(r.ev st.f).cells.length=n∧(r.ev st.f).cells.all AV.leaf=true∧∃m',QV st.m (p.ev st.f) (r.ev st.f).cells=some m'∧K { st with m:=m',f:=Qo st.f d (.tup []) }
 |.app sz bytes el s r=>∃l site g n xs ys,s.ev st.f=.vec l site g 0 n false∧Qg st.m l site=.vec g sz xs∧XI site el=true∧n≤xs.length∧Q4 st.m (r.ev st.f)=some ys∧ys.all (fun e=>e.cells.length==sz)=true∧n+ys.length≤maxLen∧(n+ys.length)*bytes≤140737488355328∧
   K { st with m:=Am.put st.m l site (.vec (g+1) sz (xs.take n++ys)),f:=Qo st.f d (.vec l site (g+1) 0 (n+ys.length) false) }
 |.storev l s n p r=>(∃o,p.ev st.f=.ptr l s o)∧(r.ev st.f).cells.length=n∧(r.ev st.f).cells.all AV.leaf=true∧∃m',QV st.m (p.ev st.f) (r.ev st.f).cells=some m'∧K { st with m:=m',f:=Qo st.f d (.tup []) }
 |.call f args=>∃k fa fb ys v,f.ev st.f=.fn (.func k) fa fb∧AV.stillL false st.m (fa++args.map (RA.ev st.f)++fb)=some ys∧AV.rfL ys=true∧Qj P k ys v∧v.rf=true∧(AV.rfL (fa++args.map (RA.ev st.f)++fb)=true∨v.nl=true)∧K { st with f:=Qo st.f d v }
 |.callF f args=>∃k fa fb v m',f.ev st.f=.fn (.func k) fa fb∧Qi P k (fa++args.map (RA.ev st.f)++fb) st.m (fun x m=>x=v∧m=m')∧K { st with m:=m',f:=Qo st.f d v }
 |.bsl sz len z ps=>∃y,fill st.f ps (XC z sz len)=some y∧AV.rfL y=true∧y.all AV.leaf=true∧K { st with f:=Qo st.f d (.list (XP sz len (y.map nn0))) }
 |.bslv site sz len z ps=>∃y,fill st.f ps (XC z sz len)=some y∧AV.rfL y=true∧y.all AV.leaf=true∧Qv (Qg st.m 0 site)=true∧
   K { st with m:=Am.put st.m 0 site (.vec (QD st.m 0 site) sz (XP sz len (y.map nn0))),f:=Qo st.f d (.vec 0 site (QD st.m 0 site) 0 len false) }
 |.bsl0 site sz=>Qv (Qg st.m 0 site)=true∧K { st with m:=Am.put st.m 0 site (.vec (QD st.m 0 site) sz []),f:=Qo st.f d (.vec 0 site (QD st.m 0 site) 0 0 false) }
 |.isnil neg r=>∃ys,Q4 st.m (r.ev st.f)=some ys∧(r.ev st.f≠.nils→K { st with f:=Qo st.f d (.bool neg) })∧((r.ev st.f=.nils∨QN ys=[])→K { st with f:=Qo st.f d (.bool (!neg)) })
 |.callK l s f args=>∃k fa fb v m',f.ev st.f=.fn (.func k) fa fb∧Qi P k (fa++args.map (RA.ev st.f)++fb) st.m (fun x m=>x=v∧m=m')∧Qg m' l s=Qg st.m l s∧K { st with m:=m',f:=Qo st.f d v }
 |.xb cnt _ s c=>∃t b,s.ev st.f=.str t∧c.ev st.f=.int .u8 b∧K { st with f:=Qo st.f d (.int .i64 (HX cnt t b)) }
 |.callR f args=>∃k fa fb ys R,f.ev st.f=.fn (.func k) fa fb∧AV.stillL false st.m (fa++args.map (RA.ev st.f)++fb)=some ys∧AV.rfL ys=true∧WH P k ys R∧(∀v,R v→v.rf=true∧(AV.rfL (fa++args.map (RA.ev st.f)++fb)=true∨v.nl=true))∧∀v,R v→K { st with f:=Qo st.f d v }
 |.rngs s r=>∃t,r.ev st.f=.str t∧XE st.m s=true∧K { st with m:=Am.put st.m 0 s (.iter (.str t) 0),f:=Qo st.f d (.ptr 0 s 0) }
 |.mkm s=>XE st.m s=true∧K { st with m:=Am.put st.m 0 s (.iter (.mp [] []) 0),f:=Qo st.f d (.mptr 0 s) }
 |.mput x i v=>∃l s ks vs p k,x.ev st.f=.mptr l s∧Qg st.m l s=.iter (.mp ks vs) p∧i.ev st.f=.str k∧(v.ev st.f).gr=true∧AV.grL vs=true∧ks.length=vs.length∧K { st with m:=Am.put st.m l s (.iter (.mp (XW k (v.ev st.f) ks vs).1 (XW k (v.ev st.f) ks vs).2) p),f:=Qo st.f d (.tup []) }
 |.nxts r=>∃l s t p,r.ev st.f=.ptr l s 0∧Qg st.m l s=.iter (.str t) p∧
   (p<t.length→K { st with m:=Am.put st.m l s (.iter (.str t) (p+(Xi t p).2)),f:=Qo st.f d (.tup [.bool true,.int .i64 (p:Nat),.int .i32 ((Xi t p).1:Nat)]) })∧(t.length≤p→K { st with f:=Qo st.f d (.tup [.bool false]) })
 |.appS el s r=>∃l site g n xs t,s.ev st.f=.vec l site g 0 n false∧Qg st.m l site=.vec g 1 xs∧XI site el=true∧n≤xs.length∧r.ev st.f=.str t∧n+t.length≤140737488355328∧
   K { st with m:=Am.put st.m l site (.vec (g+1) 1 (xs.take n++QB t)),f:=Qo st.f d (.vec l site (g+1) 0 (n+t.length) false) }
 |.mk site _ sz bytes z l c=>∃(kl kc:IntKind) (n k:Nat),l.ev st.f=.int kl (n:Int)∧c.ev st.f=.int kc (k:Int)∧n≤k∧k≤9223372036854775807∧bytes*k≤281474976710656∧Qv (Qg st.m 0 site)=true∧
   K { st with m:=Am.put st.m 0 site (.vec (QD st.m 0 site) sz (List.replicate n (JH sz z))),f:=Qo st.f d (.vec 0 site (QD st.m 0 site) 0 n false) }
 |.usd r=>∃l s g n sz xs,2000≤s∧r.ev st.f=.vec l s g 0 n false∧Qg st.m l s=.vec g sz xs∧K { st with f:=Qo st.f d (if n=0 then .anyp else .vptr l s g 0 0) }
 |.ustr el p r=>(p.ev st.f=.anyp∧r.ev st.f=.int .i64 0∧K { st with f:=Qo st.f d (.str []) })∨
   ∃l g n xs s,p.ev st.f=.vptr l (el+2000) g 0 0∧r.ev st.f=.int .i64 ((n:Nat):Int)∧Qg st.m l (el+2000)=.vec g 1 xs∧n≤xs.length∧n≠0∧xs.take n=QB s∧K { st with m:=Am.put st.m l (el+2000) (.vec (g+1) 1 []),f:=Qo st.f d (.str s) }

def XS (P:Program)(it:Item)(st:St)(K:St→Prop):Prop :=
 match it.g with
 |none=>YW P it.dst it.op st K
 |some (j,want)=>match st.f j with
  |.bool b=>(b=want→YW P it.dst it.op st K)∧(b=(!want)→K { st with f:=Qo st.f it.dst (.tup []) })
  |.tup l=>l=[]∧K { st with f:=Qo st.f it.dst (.tup []) }
  |_=>False

def QF (P:Program):List Item→St→(St→Prop)→Prop
 | [],st,K=>K st
 |it :: Qf,st,K=>XS P it st fun st'=>QF P Qf st' K

section
variable {P:Program}{N:Nat}

theorem CB {d:Option Nat}{op:RO}{Qf:List Item}{st:St}{Q:St→Prop}(h:YW P d op st fun st'=>Qx P N Qf st' Q):Qx P N (⟨d,op,none⟩ :: Qf) st Q:=by
 cases op with
 |val vo=>obtain⟨x,hx,h⟩:=h;exact .val hx h
 |allocN s z=>exact .allocN h.1 h.2
 |boxN s r=>exact .boxN h.1 h.2.1 h.2.2
 |store n p r=>obtain⟨h1,h2,m',h3,h⟩:=h;exact .store h1 h2 h3 h
 |app sz bytes el s r=>obtain⟨l,site,g,n,xs,ys,h1,h2,ht,h3,h4,h5,h6,h7,h⟩:=h;exact .app h1 h2 ht h3 h4 h5 h6 h7 h
 |appS el s r=>obtain⟨l,site,g,n,xs,t,h1,h2,ht,h3,h4,h5,h⟩:=h;exact .appS h1 h2 ht h3 h4 h5 h
 |mk site el sz bytes z l c=>obtain⟨kl,kc,n,k,h1,h2,h3,h4,h5,h6,h⟩:=h;exact .mk h1 h2 h3 h4 h5 h6 h
 |usd r=>obtain⟨l,s,g,n,sz,xs,h0,h1,h2,h⟩:=h;exact .usd h0 h1 h2 h
 |ustr el p r=>
  rcases h with⟨h1,h2,h⟩|⟨l,g,n,xs,s,h1,h2,h3,h4,h5,h6,h⟩
  ·exact .ustr0 h1 h2 h
  ·exact .ustr h1 h2 h3 h4 h5 h6 h
 |storev l s n p r=>obtain⟨_,h1,h2,m',h3,h⟩:=h;exact .same (ro:=.store n p r) (fun _=>rfl) (.store h1 h2 h3 h)
 |call f args=>
  obtain⟨k,fa,fb,ys,v,hf,h1,h2,h3,h4,h5,h⟩:=h;exact .callPure hf h1 h2 h3 (fun x hx=>by subst hx;exact⟨h4,h5⟩) fun x hx=>by subst hx;exact h
 |callF f args=>
  obtain⟨k,fa,fb,v,m',hf,h1,h⟩:=h;exact .same (ro:=.call f args) (fun _=>rfl) (.callFull hf h1 fun x m hx _=>by obtain⟨rfl,rfl⟩:=hx;exact h)
 |bsl sz len z ps=>obtain⟨y,h1,h2,h3,h⟩:=h;exact .bsl h1 h2 h3 h
 |bslv site sz len z ps=>obtain⟨y,h1,h2,h3,h4,h⟩:=h;exact .bslv h1 h2 h3 h4 h
 |bsl0 site sz=>exact .bsl0 h.1 h.2
 |isnil neg r=>obtain⟨ys,h1,h2,h3⟩:=h;exact .isnil h1 h2 h3
 |callK l s f args=>
  obtain⟨k,fa,fb,v,m',hf,h1,_,h⟩:=h;exact .same (ro:=.call f args) (fun _=>rfl) (.callFull hf h1 fun x m hx _=>by obtain⟨rfl,rfl⟩:=hx;exact h)
 |xb cnt k s c=>obtain⟨t,b,h1,h2,h⟩:=h;exact .xb h1 h2 h
 |callR f args=>
  obtain⟨k,fa,fb,ys,R,hf,h1,h2,h3,h4,h⟩:=h;exact .same (ro:=.call f args) (fun _=>rfl) (.callPure hf h1 h2 h3 h4 h)
 |rngs s r=>obtain⟨t,h1,h2,h⟩:=h;exact .rngs h1 h2 h
 |nxts r=>obtain⟨l,s,t,p,h1,h2,h3,h4⟩:=h;exact .nxts h1 h2 h3 h4
 |mkm s=>obtain⟨h1,h⟩:=h;exact .mkm h1 h
 |mput x i v=>obtain⟨l,s,ks,vs,p,k,h1,h2,h3,h4,h5,h6,h⟩:=h;exact .mput h1 h2 h3 h4 h5 h6 h

theorem Fs {it:Item}{Qf:List Item}{st:St}{Q:St→Prop}(h:XS P it st fun st'=>Qx P N Qf st' Q):Qx P N (it :: Qf) st Q:=by
 obtain⟨d,op,g⟩:=it;cases g with
 |none=>exact CB h
 |some p=>
  obtain⟨j,want⟩:=p;simp only[XS]at h;split at h
  ·rename_i b hj;by_cases hb:b=want
   ·subst hb;exact .yes hj (CB (h.1 rfl))
   ·have hb':b=!want:=by cases b<;>cases want<;>first|rfl|exact absurd rfl hb
    subst hb';exact .no (.inl hj) (h.2 rfl)
  ·rename_i l hj;obtain⟨rfl,h⟩:=h;exact .no (.inr hj) h
  ·exact h.elim

theorem Ft {d:Option Nat}{op:RO}{st:St}{K K':St→Prop}(hk:∀s,K s→K' s)(h:YW P d op st K):YW P d op st K':=by
 cases op<;>simp only[YW]at h ⊢
 case val=>obtain⟨x,a,b⟩:=h;exact⟨x,a,hk _ b⟩
 case allocN=>exact⟨h.1,hk _ h.2⟩
 case boxN=>exact⟨h.1,h.2.1,hk _ h.2.2⟩
 case store=>obtain⟨h1,h2,m',h3,h⟩:=h;exact⟨h1,h2,m',h3,hk _ h⟩
 case app=>obtain⟨l,site,g,n,xs,ys,h1,h2,ht,h3,h4,h5,h6,h7,h⟩:=h;exact⟨l,site,g,n,xs,ys,h1,h2,ht,h3,h4,h5,h6,h7,hk _ h⟩
 case appS=>obtain⟨l,site,g,n,xs,t,h1,h2,ht,h3,h4,h5,h⟩:=h;exact⟨l,site,g,n,xs,t,h1,h2,ht,h3,h4,h5,hk _ h⟩
 case mk=>obtain⟨kl,kc,n,k,h1,h2,h3,h4,h5,h6,h⟩:=h;exact⟨kl,kc,n,k,h1,h2,h3,h4,h5,h6,hk _ h⟩
 case usd=>obtain⟨l,s,g,n,sz,xs,h0,h1,h2,h⟩:=h;exact⟨l,s,g,n,sz,xs,h0,h1,h2,hk _ h⟩
 case ustr=>
  rcases h with⟨h1,h2,h⟩|⟨l,g,n,xs,s,h1,h2,h3,h4,h5,h6,h⟩
  ·exact .inl ⟨h1,h2,hk _ h⟩
  ·exact .inr ⟨l,g,n,xs,s,h1,h2,h3,h4,h5,h6,hk _ h⟩
 case bsl=>obtain⟨y,h1,h2,h3,h⟩:=h;exact⟨y,h1,h2,h3,hk _ h⟩
 case bslv=>obtain⟨y,h1,h2,h3,h4,h⟩:=h;exact⟨y,h1,h2,h3,h4,hk _ h⟩
 case bsl0=>exact⟨h.1,hk _ h.2⟩
 case isnil=>obtain⟨ys,h1,h2,h3⟩:=h;exact⟨ys,h1,fun e=>hk _ (h2 e),fun e=>hk _ (h3 e)⟩
 case callK=>obtain⟨k,fa,fb,v,m',hf,h1,h2,h⟩:=h;exact⟨k,fa,fb,v,m',hf,h1,h2,hk _ h⟩
 case xb=>obtain⟨t,b,h1,h2,h⟩:=h;exact⟨t,b,h1,h2,hk _ h⟩
 case callR=>obtain⟨k,fa,fb,ys,R,hf,h1,h2,h3,h4,h⟩:=h;exact⟨k,fa,fb,ys,R,hf,h1,h2,h3,h4,fun v hv=>hk _ (h v hv)⟩
 case rngs=>obtain⟨t,h1,h2,h⟩:=h;exact⟨t,h1,h2,hk _ h⟩
 case mkm=>obtain⟨h1,h⟩:=h;exact⟨h1,hk _ h⟩
 case mput=>obtain⟨l,s,ks,vs,p,k,h1,h2,h3,h4,h5,h6,h⟩:=h;exact⟨l,s,ks,vs,p,k,h1,h2,h3,h4,h5,h6,hk _ h⟩
 case nxts=>obtain⟨l,s,t,p,h1,h2,h3,h4⟩:=h;exact⟨l,s,t,p,h1,h2,fun e=>hk _ (h3 e),fun e=>hk _ (h4 e)⟩
 case storev=>obtain⟨h0,h1,h2,m',h3,h⟩:=h;exact⟨h0,h1,h2,m',h3,hk _ h⟩
 case call=>obtain⟨k,fa,fb,ys,v,hf,h1,h2,h3,h4,h5,h⟩:=h;exact⟨k,fa,fb,ys,v,hf,h1,h2,h3,h4,h5,hk _ h⟩
 case callF=>obtain⟨k,fa,fb,v,m',hf,h1,h⟩:=h;exact⟨k,fa,fb,v,m',hf,h1,hk _ h⟩

theorem Yq {it:Item}{st:St}{K K':St→Prop}(hk:∀s,K s→K' s)(h:XS P it st K):XS P it st K':=by
 unfold XS at h ⊢;split at h
 ·exact Ft hk h
 ·split at h
  ·exact⟨fun e=>Ft hk (h.1 e),fun e=>hk _ (h.2 e)⟩
  ·exact⟨h.1,hk _ h.2⟩
  ·exact h.elim

theorem No:∀ {Qf:List Item} {st:St} {Q:St→Prop},QF P Qf st Q→Qx P N Qf st Q
 | [],_,_,h=>.nil h
 |_ :: _,_,_,h=>Fs (Yq (fun _ hs=>No hs) h)

end

inductive GO where
 |vec (slot site sz:Nat)
 |drop (s:Nat)
 |vecc (s idx site sz:Nat)
 |pub (slot site:Nat)
 |give (slot site l S:Nat)
 |lst (slot:Nat)

def Zy (g:GO)(st:St):Option St :=
 match g with
 |.vec slot site sz=>match st.f slot with
  |.nils=>bif Qv (Qg st.m 0 site)then some { st with m:=Am.put st.m 0 site (.vec (QD st.m 0 site) sz []),f:=QJ st.f slot (.vec 0 site (QD st.m 0 site) 0 0 false) } else none
  |_=>none
 |.drop s=>bif Ym st.m s then some (st.drop s)else none
 |.vecc s idx site sz=>match Qg st.m 0 s with
  |.cells xs=>match xs[idx]? with
   |some .nils=>bif Qv (Qg st.m 0 site) && !(Nat.beq site s)then some { st with m:=Am.put (Am.put st.m 0 site (.vec (QD st.m 0 site) sz [])) 0 s (.cells (xs.set idx (.vec 0 site (QD st.m 0 site) 0 0 false))) } else none
   |some _=>some st
   |none=>none
  |_=>none
 |.pub slot site=>match st.f slot with
  |.vec 0 s' g o n _=>match Qg st.m 0 site with
   |.vec g' sz xs=>bif Nat.beq s' site&&Nat.beq g g'&&Nat.ble (o+n) xs.length then some { st with m:=Am.put st.m 0 site (.vec (g+1) sz []),f:=QJ st.f slot (.list ((xs.drop o).take n)) } else none
   |_=>none
  |.list _=>some st
  |_=>none
 |.give slot site l S=>match st.f slot with
  |.vec 0 s' g o n q=>match Qg st.m 0 site with
   |.vec g' sz xs=>bif Nat.beq s' site&&Nat.beq g g'&&Nat.blt l st.m.length && !(Nat.beq l 0)&&Qv (Qg st.m l S)&&Nat.blt S 2000 then some { st with m:=Am.put (Am.put st.m 0 site (.vec (g+1) sz [])) l S (.vec (QD st.m l S) sz xs),f:=QJ st.f slot (.vec l S (QD st.m l S) o n q) } else none
   |_=>none
  |_=>none
 |.lst slot=>match st.f slot with
  |.nils=>some { st with f:=QJ st.f slot (.list []) }
  |.list l=>some { st with f:=QJ st.f slot (.list l) }
  |_=>none

inductive RC where
 |skip
 |reg (Qf:List Item)
 |draw (Qf:List Item)
 |seq (a b:RC)
 |cond (c:RA) (a b:RC)
 |block (id:Nat) (a:RC)
 |loop (a:RC)
 |exit (id:Nat)
 |scope (a:RC)
 |lab
 |ret
 |gho (g:GO) (a:RC)
 |no

def Ks (f:St→Prop)(Q:Exit→St→Prop):Exit→St→Prop
 |.normal,st=>f st
 |e,st=>Q e st
def Kb (id:Nat)(Q:Exit→St→Prop):Exit→St→Prop
 |.exit i,st=>if i=id then Q .normal st else Q (.exit i) st
 |e,st=>Q e st
def Kg (Q:Exit→St→Prop):Exit→St→Prop
 |.goto _,_=>False
 |e,st=>Q e st

def QH (P:Program):RC→St→(Exit→St→Prop)→Prop
 |.skip,st,Q=>Q .normal st
 |.reg Qf,st,Q=>QF P Qf st (Q .normal)
 |.draw Qf,st,Q=>QF P Qf st (Q .normal)
 |.seq a b,st,Q=>QH P a st (Ks (fun st'=>QH P b st' Q) Q)
 |.cond c a b,st,Q=>∃t,c.ev st.f=.bool t∧(t=true→QH P a st Q)∧(t=false→QH P b st Q)
 |.block id a,st,Q=>QH P a st (Kb id Q)
 |.loop a,st,Q=>∃(I:Nat→St→Prop) (n:Nat),I n st∧∀n st',I n st'→QH P a st' (Ks (fun s=>∃k,k<n∧I k s) Q)
 |.exit id,st,Q=>Q (.exit id) st
 |.scope a,st,Q=>QH P a st (Kg Q)
 |.lab,st,Q=>Q .normal st
 |.ret,st,Q=>Q .ret st
 |.gho g a,st,Q=>∃st',Zy g st=some st'∧QH P a st' Q
 |.no,_,_=>False

theorem Y7 {G:Gh}{f:Fr}{a:Act}(hs:∀i,Rep G (f i) (a.tmps.getD i undef)){d:Nat}{x:AV}(hx:Rep G x (a.tmps.getD d undef)):∀i,Rep G (QJ f d x i) (a.tmps.getD i undef):=by
 intro i;by_cases hi:i=d
 ·subst hi;rw[QR];exact hx
 ·rw[QS _ _ hi];exact hs i

theorem PU {G:Gh}{B N:Nat}{st st':St}{a:Act}{w:World}(h:Rel G B N st a w){g:GO}(hg:Zy g st=some st'):∃G',Rel G' B N st' a w∧Ext 1 G w G' w:=by
 cases g with
 |vec slot site sz=>
  simp only[Zy]at hg;split at hg
  ·rename_i hn;cases hro:Qv (Qg st.m 0 site)with
   |false=>rw[hro]at hg;cases hg
   |true=>
    rw[hro]at hg;simp only[cond_true,QWc]at hg;subst hg;have hl:0<st.m.length:=QW8.2 h.ne;obtain⟨h1,h2⟩:=h.vecput (w':=w) (sz:=sz) (cap:=0) (b:=none) (ys:=[]) hl hro (JR h.mr hro) rfl rfl rfl (QVL _) (fun _ _ _=>rfl) (fun k e=>by cases e) ⟨by simp,rfl,rfl⟩ (.inl ⟨rfl,rfl⟩);refine⟨_,⟨h1.mr,h1.size,Y7 h1.slots ?_,h1.ds,h1.base,h1.top,h1.ne⟩,h2⟩;have hs:=h.slots slot;rw[hn]at hs;generalize a.tmps.getD slot undef=v at hs;cases hs;exact .vec rfl (QWw (by simp[Gh.row])) fun _=>.inl ⟨by simp[Gh.row],rfl,rfl,none,rfl,fun _=>rfl⟩
  ·cases hg
 |drop s=>
  simp only[Zy]at hg;cases hro:Ym st.m s with
  |false=>rw[hro]at hg;cases hg
  |true=>
   rw[hro]at hg;simp only[cond_true,QWc]at hg;subst hg;exact⟨_,h.drop s hro⟩
 |vecc s idx site sz=>
  simp only[Zy]at hg;split at hg
  ·rename_i xs hlk;split at hg
   ·rename_i hn;cases hro:(Qv (Qg st.m 0 site) && !(Nat.beq site s))with
    |false=>rw[hro]at hg;cases hg
    |true=>
     rw[hro]at hg;simp only[cond_true,QWc]at hg;subst hg;rw[QWb]at hro;have hne:s≠site:=fun e=>by
      have h2:=hro.2;rw[e]at h2;simp at h2
     have hl:0<st.m.length:=QW8.2 h.ne;obtain⟨h1,h2⟩:=h.vecput (w':=w) (sz:=sz) (cap:=0) (b:=none) (ys:=[]) hl hro.1 (JR h.mr hro.1) rfl rfl rfl (QVL _) (fun _ _ _=>rfl) (fun k e=>by cases e) ⟨by simp,rfl,rfl⟩ (.inl ⟨rfl,rfl⟩);have hlk':Qg (Am.put st.m 0 site (.vec (QD st.m 0 site) sz [])) 0 s=.cells xs:=by
      rw[Qz (.inr hne)];exact hlk
     obtain⟨b,cs,hb,hsoft,hrep⟩:=h1.mr.cells 0 s xs hlk';obtain⟨v,hv,hr⟩:=hrep.at_ hn;have hvn:v=.slice none 0 0:=by cases hr;rfl
     subst hvn;have hset:cs.toList.set idx (.slice none 0 0)=cs.toList:=by
      obtain⟨hi,he⟩:=QVN.1 hv;rw[←he,List.set_getElem_self]
     have hrep':=hrep.set idx (x:=.vec 0 site (QD st.m 0 site) 0 0 false) (v:=.slice none 0 0) (.vec rfl (QWw (by simp[Gh.row,Gh.dn])) fun _=>.inl ⟨by simp[Gh.row,Gh.dn],rfl,rfl,none,rfl,fun _=>rfl⟩);rw[hset]at hrep';exact⟨_,⟨h1.mr.stored hlk' hb (Turned.refl b w) hsoft hrep',h1.size,h1.slots,h1.ds,h1.base,h1.top,J0 h1.ne⟩,h2⟩
   ·cases hg;exact⟨G,h,Ext.refl 1 G w⟩
   ·cases hg
  ·cases hg
 |pub slot site=>
  simp only[Zy]at hg;split at hg
  ·rename_i s' g o n q hs;split at hg
   ·rename_i g' sz xs hlk;cases hb:(Nat.beq s' site&&Nat.beq g g'&&Nat.ble (o+n) xs.length)with
    |false=>rw[hb]at hg;cases hg
    |true=>
     rw[hb]at hg;simp only[cond_true,QWc]at hg;subst hg;simp only[QWb]at hb;obtain⟨⟨b1,b2⟩,b3⟩:=hb;have e1:=QVJ b1;have e2:=QVJ b2;subst e1 e2;exact h.publish hs hlk (QXf b3)
   ·cases hg
  ·cases hg;exact⟨G,h,Ext.refl 1 G w⟩
  ·cases hg
 |give slot site l S=>
  simp only[Zy]at hg;split at hg
  ·rename_i s' g o n q hs;split at hg
   ·rename_i g' sz xs hlk;cases hb:(Nat.beq s' site&&Nat.beq g g'&&Nat.blt l st.m.length && !(Nat.beq l 0)&&Qv (Qg st.m l S)&&Nat.blt S 2000)with
    |false=>rw[hb]at hg;cases hg
    |true=>
     rw[hb]at hg;simp only[cond_true,QWc]at hg;subst hg;simp only[QWb]at hb;obtain⟨⟨⟨⟨⟨b1,b2⟩,b3⟩,b4⟩,b5⟩,b6⟩:=hb;have e1:=QVJ b1;have e2:=QVJ b2;subst e1 e2;have b4':l≠0:=fun e=>by rw[e]at b4;simp at b4
     exact h.give hs hlk (QXf b3) b4' b5 (QXf b6)
   ·cases hg
  ·cases hg
 |lst slot=>
  simp only[Zy]at hg;split at hg
  ·rename_i hs;cases hg;refine⟨G,⟨h.mr,h.size,Y7 h.slots ?_,h.ds,h.base,h.top,h.ne⟩,Ext.refl 1 G w⟩;have hr:=h.slots slot;rw[hs]at hr;exact hr.nn0
  ·rename_i l hs;cases hg;refine⟨G,⟨h.mr,h.size,Y7 h.slots ?_,h.ds,h.base,h.top,h.ne⟩,Ext.refl 1 G w⟩;have hr:=h.slots slot;rw[hs]at hr;exact hr
  ·cases hg

def RA.sl:RA→List Nat
 |.t n=>[n]
 |_=>[]
def Fu:Option RA→List Nat
 |some r=>r.sl
 |none=>[]
def VO.sl:VO→List Nat
 |.mov x=>x.sl
 |.pick c a b=>c.sl++(a.sl++b.sl)
 |.build _ ps=>ps.flatMap fun p=>p.2.2.sl
 |.load _ x=>x.sl
 |.loadv _ _ _ x=>x.sl
 |.loado _ x=>x.sl
 |.loadr _ x=>x.sl
 |.nilck x=>x.sl
 |.un _ x=>x.sl
 |.cvi _ x=>x.sl
 |.b2s x=>x.sl
 |.faddr _ x=>x.sl
 |.fld _ _ x=>x.sl
 |.ext x _=>x.sl
 |.len _ x=>x.sl
 |.bin _ _ x y=>x.sl++y.sl
 |.eqs _ _ x y=>x.sl++y.sl
 |.iaddr _ _ x y=>x.sl++y.sl
 |.idx x y=>x.sl++y.sl
 |.mnx _ x y=>x.sl++y.sl
 |.slc _ x lo hi mx=>x.sl++(Fu lo++(Fu hi++Fu mx))
 |.slcp _ x lo hi mx=>x.sl++(Fu lo++(Fu hi++Fu mx))
 |.mkfn _ a b=>a.flatMap RA.sl++b.flatMap RA.sl
 |.toU x=>x.sl
 |.ofU _ _ x=>x.sl
 |.same x=>x.sl
 |.mget _ _ x y=>x.sl++y.sl
 |.mgetp _ _ x y=>x.sl++y.sl
 |.mki _ x=>x.sl
 |.tas _ _ _ x=>x.sl
def RO.sl:RO→List Nat
 |.val v=>v.sl
 |.allocN _ _=>[]
 |.boxN _ r=>r.sl
 |.store _ p r=>p.sl++r.sl
 |.storev _ _ _ p r=>p.sl++r.sl
 |.app _ _ _ s r=>s.sl++r.sl
 |.appS _ s r=>s.sl++r.sl
 |.mk _ _ _ _ _ l c=>l.sl++c.sl
 |.usd r=>r.sl
 |.ustr _ p r=>p.sl++r.sl
 |.bsl _ _ _ ps=>ps.flatMap fun p=>p.2.2.sl
 |.call f rs=>f.sl++rs.flatMap RA.sl
 |.callF f rs=>f.sl++rs.flatMap RA.sl
 |.bslv _ _ _ _ ps=>ps.flatMap fun p=>p.2.2.sl
 |.bsl0 _ _=>[]
 |.isnil _ x=>x.sl
 |.callR f rs=>f.sl++rs.flatMap RA.sl
 |.xb _ _ s c=>s.sl++c.sl
 |.callK _ _ f rs=>f.sl++rs.flatMap RA.sl
 |.rngs _ r=>r.sl
 |.nxts r=>r.sl
 |.mkm _=>[]
 |.mput x y z=>x.sl++(y.sl++z.sl)
def Item.sl (it:Item):List Nat:=it.op.sl++(match it.g with|some (j,_)=>[j]|none=>[])

def Zu (l:List Nat)(f f':Fr):Prop:=∀t,t∈l→f t=f' t
theorem Zu.left {a b:List Nat}{f f':Fr}(h:Zu (a++b) f f'):Zu a f f':=fun t ht=>h t (List.mem_append_left _ ht)
theorem Zu.right {a b:List Nat}{f f':Fr}(h:Zu (a++b) f f'):Zu b f f':=fun t ht=>h t (List.mem_append_right _ ht)

theorem RA.ev_same {r:RA}{f f':Fr}(h:Zu r.sl f f'):r.ev f=r.ev f':=by
 cases r with
 |t n=>exact h n (by simp[RA.sl])
 |c x=>rfl
 |f k=>rfl

theorem Kp:∀ {rs:List RA} {f f':Fr},Zu (rs.flatMap RA.sl) f f'→rs.map (RA.ev f)=rs.map (RA.ev f')
 | [],_,_,_=>rfl
 |r :: rs,f,f',h=>by
  rw[QXg]at h;rw[QWj,QWj,RA.ev_same h.left,Kp h.right]

theorem WJ {f f':Fr}:∀ {ps:List (Nat×Nat×RA)} {z:List AV},Zu (ps.flatMap fun p=>p.2.2.sl) f f'→fill f ps z=fill f' ps z
 | [],_,_=>rfl
 |(o,n,r) :: ps,z,h=>by
  rw[QXg]at h;simp only[fill,RA.ev_same h.left,WJ h.right]

theorem Kq {f f':Fr}{d:Nat}{r:Option RA}(h:Zu (Fu r) f f'):ZJ f d r=ZJ f' d r:=by
 cases r with
 |none=>rfl
 |some r=>simp only[ZJ,RA.ev_same (r:=r) h]

theorem PV {f f':Fr}{m:Qq}{vo:VO}(h:Zu vo.sl f f'):Qs f m vo=Qs f' m vo:=by
 cases vo with
 |mov x=>simp only[Qs,RA.ev_same (r:=x) h]
 |pick c a b=>simp only[Qs,RA.ev_same (r:=c) h.left,RA.ev_same (r:=a) h.right.left,RA.ev_same (r:=b) h.right.right]
 |build z ps=>simp only[Qs,WJ (ps:=ps) h]
 |load k x=>simp only[Qs,RA.ev_same (r:=x) h]
 |loadv l s k x=>simp only[Qs,RA.ev_same (r:=x) h]
 |loado k x=>simp only[Qs,RA.ev_same (r:=x) h]
 |loadr k x=>simp only[Qs,RA.ev_same (r:=x) h]
 |nilck x=>simp only[Qs,RA.ev_same (r:=x) h]
 |un o x=>simp only[Qs,RA.ev_same (r:=x) h]
 |cvi k x=>simp only[Qs,RA.ev_same (r:=x) h]
 |b2s x=>simp only[Qs,RA.ev_same (r:=x) h]
 |faddr o x=>simp only[Qs,RA.ev_same (r:=x) h]
 |fld o k x=>simp only[Qs,RA.ev_same (r:=x) h]
 |ext x i=>simp only[Qs,RA.ev_same (r:=x) h]
 |toU x=>simp only[Qs,RA.ev_same (r:=x) h]
 |ofU t n x=>simp only[Qs,RA.ev_same (r:=x) h]
 |same x=>simp only[Qs,RA.ev_same (r:=x) h]
 |len k x=>simp only[Qs,RA.ev_same (r:=x) h]
 |bin t o x y=>simp only[Qs,RA.ev_same (r:=x) h.left,RA.ev_same (r:=y) h.right]
 |eqs n ks x y=>simp only[Qs,RA.ev_same (r:=x) h.left,RA.ev_same (r:=y) h.right]
 |iaddr sz len x y=>simp only[Qs,RA.ev_same (r:=x) h.left,RA.ev_same (r:=y) h.right]
 |idx x y=>simp only[Qs,RA.ev_same (r:=x) h.left,RA.ev_same (r:=y) h.right]
 |mget ok z x y=>simp only[Qs,RA.ev_same (r:=x) h.left,RA.ev_same (r:=y) h.right]
 |mgetp ok z x y=>simp only[Qs,RA.ev_same (r:=x) h.left,RA.ev_same (r:=y) h.right]
 |mki t x=>simp only[Qs,RA.ev_same (r:=x) h]
 |tas t ok z x=>simp only[Qs,RA.ev_same (r:=x) h]
 |mnx b x y=>simp only[Qs,RA.ev_same (r:=x) h.left,RA.ev_same (r:=y) h.right]
 |slc sz x lo hi mx=>
  have h1:=h.right.left;have h2:=h.right.right.left;have h3:=h.right.right.right;simp only[Qs,RA.ev_same (r:=x) h.left,Kq (r:=lo) h1,Kq (r:=hi) h2];cases mx with
  |none=>rfl
  |some r=>simp only[Kq (r:=some r) h3]
 |slcp sz x lo hi mx=>
  have h1:=h.right.left;have h2:=h.right.right.left;have h3:=h.right.right.right;simp only[Qs,RA.ev_same (r:=x) h.left,Kq (r:=lo) h1,Kq (r:=hi) h2];cases mx with
  |none=>rfl
  |some r=>simp only[Kq (r:=some r) h3]
 |mkfn fn a b=>simp only[Qs,Kp (rs:=a) h.left,Kp (rs:=b) h.right]

inductive MC where
 |no
 |shape
 |rows
 |cell (l s:Nat)
 |outer
 |all
 deriving DecidableEq

def VO.mc:VO→MC
 |.load _ _=>.all
 |.loadv l s _ _=>.cell l s
 |.loado _ _=>.outer
 |.loadr _ _=>.rows
 |.b2s _=>.rows
 |.nilck _=>.shape
 |.faddr _ _=>.shape
 |.len _ _=>.shape
 |.slc .. => .shape
 |.iaddr .. => .shape
 |.toU _=>.all
 |.ofU .. => .all
 |.mget .. => .all
 |_=>.no

def Ob.sh:Ob→Option (Nat×Nat)
 |.vec g z _=>some (g,z)
 |_=>Option.none
def Ob.row:Ob→Option (Nat×Nat×List AV)
 |.vec g z xs=>some (g,z,xs)
 |_=>Option.none

def Xj:MC→Qq→Qq→Prop
 |.no,_,_=>True
 |.shape,m,m'=>∀l s,(Qg m l s).sh=(Qg m' l s).sh
 |.rows,m,m'=>∀l s,(Qg m l s).row=(Qg m' l s).row
 |.cell l s,m,m'=>Qg m l s=Qg m' l s∨((Qg m l s).isRow=true∧(Qg m' l s).isRow=true)
 |.outer,m,m'=>∀l s,Qg m (l+1) s=Qg m' (l+1) s
 |.all,m,m'=>m=m'

theorem Xj.refl (c:MC)(m:Qq):Xj c m m:=by
 cases c<;>simp[Xj]

theorem Y8 {m m':Qq}{l s:Nat}(h:(Qg m l s).sh=(Qg m' l s).sh):Wl m l s=Wl m' l s:=by
 unfold Wl;cases h1:Qg m l s<;>cases h2:Qg m' l s<;>rw[h1,h2]at h<;>simp_all[Ob.sh]

theorem Vn {m m':Qq}(h:Xj .rows m m')(x:AV):Q4 m x=Q4 m' x:=by
 cases x with
 |vec l s g o n q=>
  have h:=h l s;simp only[Q4];cases h1:Qg m l s<;>cases h2:Qg m' l s<;>rw[h1,h2]at h<;>simp_all[Ob.row]
 |_=>rfl

theorem Fv {m m':Qq}(h:Xj .shape m m')(sz:Option Nat)(x:AV)(lo hi:Nat)(mx:Option Nat):Q5 m sz x lo hi mx=Q5 m' sz x lo hi mx:=by
 cases sz with
 |none=>rfl
 |some z=>
  cases x with
  |vec l s g o n q=>
   have h:=h l s;simp only[Q5];cases h1:Qg m l s<;>cases h2:Qg m' l s<;>rw[h1,h2]at h<;>simp_all[Ob.sh]
  |_=>rfl

theorem Fw {m m':Qq}(h:Xj .shape m m')(sz:Nat)(len:Option Nat)(x:AV)(i:Int):Qc m sz len x i=Qc m' sz len x i:=by
 unfold Qc;cases len with
 |none=>
  cases x with
  |vec l s g o n q=>
   have h:=h l s;simp only;cases h1:Qg m l s<;>cases h2:Qg m' l s<;>rw[h1,h2]at h<;>simp_all[Ob.sh]
  |_=>rfl
 |some k=>rfl

def PW (F:Nat→List AV→Option AV):Ob→Option AV
 |.vec g _ xs=>F g xs
 |_=>none

theorem CC {o o':Ob}(h:o.row=o'.row)(F:Nat→List AV→Option AV):PW F o=PW F o':=by
  cases o<;>cases o'<;>simp only[Ob.row,QWc,Prod.mk.injEq,reduceCtorEq]at h<;>first
    |rfl
    | (obtain⟨rfl,_,rfl⟩:=h
       rfl)

theorem HY (m:Qq)(k:Option Nat)(l s g i o:Nat):Q9 m k (.vptr l s g i o)=PW (fun g' xs=>if g=g' then match xs[i]? with
  |some e=>part e.cells o k
  |none=>none
 else none) (Qg m l s):=by
 simp only[Q9];cases Qg m l s<;>rfl

theorem Ai {f:Fr}{m m':Qq}{vo:VO}(h:Xj vo.mc m m'):Qs f m vo=Qs f m' vo:=by
 cases vo<;>simp only[VO.mc]at h<;>try rfl
 case load k x=>have h:m=m':=h;subst h;rfl
 case toU x=>have h:m=m':=h;subst h;rfl
 case ofU t n x=>have h:m=m':=h;subst h;rfl
 case mget ok z x i=>have h:m=m':=h;subst h;rfl
 case loado k x=>
  have h:∀l s,Qg m (l+1) s=Qg m' (l+1) s:=h;simp only[Qs];split
  ·simp only[Q9,h]
  ·rfl
 case loadv l s k x=>
  have h:Qg m l s=Qg m' l s∨((Qg m l s).isRow=true∧(Qg m' l s).isRow=true):=h;simp only[Qs];split
  ·split
   ·rename_i hh;obtain⟨rfl,rfl⟩:=hh;rcases h with h|⟨h1,h2⟩
    ·simp only[Q9,h]
    ·simp only[Q9];cases e1:Qg m _ _<;>cases e2:Qg m' _ _<;>rw[e1]at h1<;>rw[e2]at h2<;>first|rfl|(simp[Ob.isRow]at h1;done)|(simp[Ob.isRow]at h2;done)
   ·rfl
  ·rfl
 case b2s x=>simp only[Qs,Vn h]
 case loadr k x=>
  simp only[Qs];split
  ·rfl
  ·rename_i l s g i o e;have h4:(Qg m l s).row=(Qg m' l s).row:=h l s;rw[HY,HY,CC h4]
  ·rfl
 case nilck x=>simp only[Qs,fun l s=>Y8 (h l s)]
 case faddr o x=>simp only[Qs,fun l s=>Y8 (h l s)]
 case len k x=>simp only[Qs,fun l s=>Y8 (h l s)]
 case slc sz x lo hi mx=>simp only[Qs,Fv h]
 case iaddr sz len x i=>simp only[Qs,Fw h]

mutual
theorem HZ {m m':Qq}(h:Xj .rows m m'):∀x:AV,x.still false m=x.still false m'
 |.vec l s g o n q=>by
   have h:=h l s;simp only[AV.still];cases h1:Qg m l s<;>cases h2:Qg m' l s<;>rw[h1,h2]at h<;>simp_all[Ob.row]
 |.agg l=>by simp only[AV.still,KC h l]
 |.tup l=>by simp only[AV.still,KC h l]
 |.iface t x=>by simp only[AV.still,HZ h x]
 |.top|.int .. | .bool _|.str _|.nils|.nilp|.nilf|.nili|.nilm|.anyp|.list _|.lcap _|.fn .. | .ptr .. | .vptr .. | .rptr _|.mp .. => rfl
 |.mptr l s=>by simp only[AV.still,QXh,QV6,if_false]
theorem KC {m m':Qq}(h:Xj .rows m m'):∀l:List AV,AV.stillL false m l=AV.stillL false m' l
 | []=>rfl
 |x :: l=>by simp only[AV.stillL,HZ h x,KC h l]
end

def RO.pure:RO→Bool
 |.val _=>true
 |.bsl .. => true
 |.call _ _=>true
 |.usd _=>true
 |_=>false

def RO.mc:RO→MC
 |.val v=>v.mc
 |.call _ _=>.rows
 |.usd _=>.rows
 |.bsl .. => .no
 |_=>.all

section
variable {P:Program}

def Vo (P:Program)(op:RO)(st:St)(x:AV):Prop :=
 match op with
 |.val vo=>Qs st.f st.m vo=some x
 |.call f args=>∃k fa fb ys,f.ev st.f=.fn (.func k) fa fb∧AV.stillL false st.m (fa++args.map (RA.ev st.f)++fb)=some ys∧AV.rfL ys=true∧Qj P k ys x∧x.rf=true∧(AV.rfL (fa++args.map (RA.ev st.f)++fb)=true∨x.nl=true)
 |_=>False

def XT (P:Program)(op:RO)(st:St)(x:AV)(m:Qq):Prop :=
 match op with
 |.val vo=>Qs st.f st.m vo=some x∧m=st.m
 |.call f args=>Vo P (.call f args) st x∧m=st.m
 |.allocN s z=>XE st.m s=true∧x=.ptr 0 s 0∧m=Am.put st.m 0 s (.cells z)
 |.boxN s r=>XE st.m s=true∧(r.ev st.f).cells.all AV.leaf=true∧x=.ptr 0 s 0∧m=Am.put st.m 0 s (.cells (r.ev st.f).cells)
 |.store n p r=>(r.ev st.f).cells.length=n∧(r.ev st.f).cells.all AV.leaf=true∧QV st.m (p.ev st.f) (r.ev st.f).cells=some m∧x=.tup []
 |.storev l s n p r=>(∃o,p.ev st.f=.ptr l s o)∧(r.ev st.f).cells.length=n∧(r.ev st.f).cells.all AV.leaf=true∧QV st.m (p.ev st.f) (r.ev st.f).cells=some m∧x=.tup []
 |.app sz bytes el s r=>∃l site g n xs ys,s.ev st.f=.vec l site g 0 n false∧Qg st.m l site=.vec g sz xs∧XI site el=true∧n≤xs.length∧Q4 st.m (r.ev st.f)=some ys∧ys.all (fun e=>e.cells.length==sz)=true∧n+ys.length≤maxLen∧(n+ys.length)*bytes≤140737488355328∧
   x=.vec l site (g+1) 0 (n+ys.length) false∧m=Am.put st.m l site (.vec (g+1) sz (xs.take n++ys))
 |.bsl sz len z ps=>(∃y,fill st.f ps (XC z sz len)=some y∧AV.rfL y=true∧y.all AV.leaf=true∧x=.list (XP sz len (y.map nn0)))∧m=st.m
 |.bslv site sz len z ps=>∃y,fill st.f ps (XC z sz len)=some y∧AV.rfL y=true∧y.all AV.leaf=true∧Qv (Qg st.m 0 site)=true∧x=.vec 0 site (QD st.m 0 site) 0 len false∧m=Am.put st.m 0 site (.vec (QD st.m 0 site) sz (XP sz len (y.map nn0)))
 |.bsl0 site sz=>Qv (Qg st.m 0 site)=true∧x=.vec 0 site (QD st.m 0 site) 0 0 false∧m=Am.put st.m 0 site (.vec (QD st.m 0 site) sz [])
 |.callF f args=>∃k fa fb,f.ev st.f=.fn (.func k) fa fb∧Qi P k (fa++args.map (RA.ev st.f)++fb) st.m (fun y m'=>y=x∧m'=m)
 |.callK l s f args=>∃k fa fb,f.ev st.f=.fn (.func k) fa fb∧Qi P k (fa++args.map (RA.ev st.f)++fb) st.m (fun y m'=>y=x∧m'=m)∧Qg m l s=Qg st.m l s
 |.usd r=>(∃l s g n sz xs,2000≤s∧r.ev st.f=.vec l s g 0 n false∧Qg st.m l s=.vec g sz xs∧x=(if n=0 then .anyp else .vptr l s g 0 0))∧m=st.m
 |.ustr el p r=>(p.ev st.f=.anyp∧r.ev st.f=.int .i64 0∧x=.str []∧m=st.m)∨
   ∃l g n xs s,p.ev st.f=.vptr l (el+2000) g 0 0∧r.ev st.f=.int .i64 ((n:Nat):Int)∧Qg st.m l (el+2000)=.vec g 1 xs∧n≤xs.length∧n≠0∧xs.take n=QB s∧x=.str s∧m=Am.put st.m l (el+2000) (.vec (g+1) 1 [])
 |_=>False

def RO.keeps:RO→Bool
 |.appS .. => false
 |.mk .. => false
 |.isnil .. => false
 |.callR .. => false
 |.xb .. => false
 |.rngs .. => false
 |.nxts .. => false
 |.mkm .. => false
 |.mput .. => false
 |_=>true

theorem Fx {d:Option Nat}{op:RO}{st:St}{K:St→Prop}(hk:op.keeps=true):YW P d op st K↔∃x m,XT P op st x m∧K { st with m:=m,f:=Qo st.f d x }:=by
 cases op<;>simp only[RO.keeps,QV6]at hk<;>simp only[YW,XT,Vo]
 case val=>exact⟨fun⟨x,h,k⟩=>⟨x,_,⟨h,rfl⟩,k⟩,fun⟨x,m,⟨h,e⟩,k⟩=>by subst e;exact⟨x,h,k⟩⟩
 case allocN=>exact⟨fun⟨h,k⟩=>⟨_,_,⟨h,rfl,rfl⟩,k⟩,fun⟨x,m,⟨h,e,e'⟩,k⟩=>by subst e e';exact⟨h,k⟩⟩
 case boxN=>exact⟨fun⟨h,h',k⟩=>⟨_,_,⟨h,h',rfl,rfl⟩,k⟩,fun⟨x,m,⟨h,h',e,e'⟩,k⟩=>by subst e e';exact⟨h,h',k⟩⟩
 case store=>exact⟨fun⟨h1,h2,m',h3,k⟩=>⟨_,m',⟨h1,h2,h3,rfl⟩,k⟩,fun⟨x,m,⟨h1,h2,h3,e⟩,k⟩=>by subst e;exact⟨h1,h2,m,h3,k⟩⟩
 case storev=>exact⟨fun⟨h0,h1,h2,m',h3,k⟩=>⟨_,m',⟨h0,h1,h2,h3,rfl⟩,k⟩,fun⟨x,m,⟨h0,h1,h2,h3,e⟩,k⟩=>by subst e;exact⟨h0,h1,h2,m,h3,k⟩⟩
 case app=>exact⟨fun⟨l,site,g,n,xs,ys,h1,h2,ht,h3,h4,h5,h6,h7,k⟩=>⟨_,_,⟨l,site,g,n,xs,ys,h1,h2,ht,h3,h4,h5,h6,h7,rfl,rfl⟩,k⟩,fun⟨x,m,⟨l,site,g,n,xs,ys,h1,h2,ht,h3,h4,h5,h6,h7,e,e'⟩,k⟩=>by subst e e';exact⟨l,site,g,n,xs,ys,h1,h2,ht,h3,h4,h5,h6,h7,k⟩⟩
 case call=>exact⟨fun⟨k,fa,fb,ys,v,h1,h2,h3,h4,h5,h6,kk⟩=>⟨v,_,⟨⟨k,fa,fb,ys,h1,h2,h3,h4,h5,h6⟩,rfl⟩,kk⟩,fun⟨x,m,⟨⟨k,fa,fb,ys,h1,h2,h3,h4,h5,h6⟩,e⟩,kk⟩=>by subst e;exact⟨k,fa,fb,ys,x,h1,h2,h3,h4,h5,h6,kk⟩⟩
 case usd=>exact⟨fun⟨l,s,g,n,sz,xs,h0,h1,h2,k⟩=>⟨_,_,⟨⟨l,s,g,n,sz,xs,h0,h1,h2,rfl⟩,rfl⟩,k⟩,fun⟨x,m,⟨⟨l,s,g,n,sz,xs,h0,h1,h2,e⟩,e'⟩,k⟩=>by subst e e';exact⟨l,s,g,n,sz,xs,h0,h1,h2,k⟩⟩
 case ustr=>
  constructor
  ·rintro(⟨h1,h2,k⟩|⟨l,g,n,xs,s,h1,h2,h3,h4,h5,h6,k⟩)
   ·exact⟨_,_,.inl ⟨h1,h2,rfl,rfl⟩,k⟩
   ·exact⟨_,_,.inr ⟨l,g,n,xs,s,h1,h2,h3,h4,h5,h6,rfl,rfl⟩,k⟩
  ·rintro⟨x,m,⟨h1,h2,e,e'⟩|⟨l,g,n,xs,s,h1,h2,h3,h4,h5,h6,e,e'⟩,k⟩
   ·subst e e';exact .inl ⟨h1,h2,k⟩
   ·subst e e';exact .inr ⟨l,g,n,xs,s,h1,h2,h3,h4,h5,h6,k⟩
 case bsl=>exact⟨fun⟨y,h1,h2,h3,k⟩=>⟨_,_,⟨⟨y,h1,h2,h3,rfl⟩,rfl⟩,k⟩,fun⟨x,m,⟨⟨y,h1,h2,h3,e⟩,e'⟩,k⟩=>by subst e e';exact⟨y,h1,h2,h3,k⟩⟩
 case bslv=>exact⟨fun⟨y,h1,h2,h3,h4,k⟩=>⟨_,_,⟨y,h1,h2,h3,h4,rfl,rfl⟩,k⟩,fun⟨x,m,⟨y,h1,h2,h3,h4,e,e'⟩,k⟩=>by subst e e';exact⟨y,h1,h2,h3,h4,k⟩⟩
 case bsl0=>exact⟨fun⟨h1,k⟩=>⟨_,_,⟨h1,rfl,rfl⟩,k⟩,fun⟨x,m,⟨h1,e,e'⟩,k⟩=>by subst e e';exact⟨h1,k⟩⟩
 case callK=>exact⟨fun⟨k,fa,fb,v,m',h1,h2,h3,kk⟩=>⟨v,m',⟨k,fa,fb,h1,h2,h3⟩,kk⟩,fun⟨x,m,⟨k,fa,fb,h1,h2,h3⟩,kk⟩=>⟨k,fa,fb,x,m,h1,h2,h3,kk⟩⟩
 case callF=>exact⟨fun⟨k,fa,fb,v,m',h1,h2,kk⟩=>⟨v,m',⟨k,fa,fb,h1,h2⟩,kk⟩,fun⟨x,m,⟨k,fa,fb,h1,h2⟩,kk⟩=>⟨k,fa,fb,x,m,h1,h2,kk⟩⟩

def Zp (P:Program)(it:Item)(st:St)(x:AV)(m:Qq):Prop :=
 match it.g with
 |none=>XT P it.op st x m
 |some (j,want)=>match st.f j with
  |.bool b=>(b=want∧XT P it.op st x m)∨(b=(!want)∧x=.tup []∧m=st.m)
  |.tup l=>l=[]∧x=.tup []∧m=st.m
  |_=>False

theorem Jo {it:Item}{st:St}{K:St→Prop}(hk:it.op.keeps=true):XS P it st K↔∃x m,Zp P it st x m∧K { st with m:=m,f:=Qo st.f it.dst x }:=by
 obtain⟨d,op,g⟩:=it;cases g with
 |none=>exact Fx hk
 |some p=>
  obtain⟨j,want⟩:=p;simp only[XS,Zp];cases hj:st.f j with
  |bool b=>
   simp only;rw[Fx hk]
   constructor
   ·intro⟨h1,h2⟩;by_cases hb:b=want
    ·obtain⟨x,m,h,k⟩:=h1 hb;exact⟨x,m,.inl ⟨hb,h⟩,k⟩
    ·have hb':b=!want:=by cases b<;>cases want<;>first|rfl|exact absurd rfl hb
     exact⟨_,_,.inr ⟨hb',rfl,rfl⟩,h2 hb'⟩
   ·rintro⟨x,m,⟨hb,h⟩|⟨hb,rfl,rfl⟩,k⟩
    ·exact⟨fun _=>⟨x,m,h,k⟩,fun e=>by rw[hb]at e;cases want<;>cases e⟩
    ·exact⟨fun e=>(by rw[hb]at e;cases want<;>cases e),fun _=>k⟩
  |tup l=>
   constructor
   ·rintro⟨h,k⟩;exact⟨_,_,⟨h,rfl,rfl⟩,k⟩
   ·rintro⟨x,m,⟨h,rfl,rfl⟩,k⟩;exact⟨h,k⟩
  |_=>exact⟨fun h=>h.elim,fun⟨_,_,h,_⟩=>h.elim⟩

theorem H1 {op:RO}{f f':Fr}{m m':Qq}{ds ds':List DF}{x:AV}(h:Zu op.sl f f')(k:XT P op ⟨f,m,ds⟩ x m'):XT P op ⟨f',m,ds'⟩ x m':=by
 cases op with
 |val vo=>simp only[XT,PV (vo:=vo) h]at k ⊢;exact k
 |call g args=>simp only[XT,Vo,RA.ev_same (r:=g) h.left,Kp (rs:=args) h.right]at k ⊢;exact k
 |callK l s g args=>simp only[XT,RA.ev_same (r:=g) h.left,Kp (rs:=args) h.right]at k ⊢;exact k
 |callF g args=>simp only[XT,RA.ev_same (r:=g) h.left,Kp (rs:=args) h.right]at k ⊢;exact k
 |allocN s z=>exact k
 |boxN s r=>simp only[XT,RA.ev_same (r:=r) h]at k ⊢;exact k
 |store n p r=>simp only[XT,RA.ev_same (r:=p) h.left,RA.ev_same (r:=r) h.right]at k ⊢;exact k
 |storev l s n p r=>simp only[XT,RA.ev_same (r:=p) h.left,RA.ev_same (r:=r) h.right]at k ⊢;exact k
 |usd r=>simp only[XT,RA.ev_same (r:=r) h]at k ⊢;exact k
 |ustr el p r=>simp only[XT,RA.ev_same (r:=p) h.left,RA.ev_same (r:=r) h.right]at k ⊢;exact k
 |app sz bytes el s r=>simp only[XT,RA.ev_same (r:=s) h.left,RA.ev_same (r:=r) h.right]at k ⊢;exact k
 |bsl sz len z ps=>simp only[XT,WJ (ps:=ps) h]at k ⊢;exact k
 |bslv site sz len z ps=>simp only[XT,WJ (ps:=ps) h]at k ⊢;exact k
 |bsl0 site sz=>exact k
 |_=>exact k.elim

theorem K6 {it:Item}{f f':Fr}{m m':Qq}{ds ds':List DF}{x:AV}(h:Zu it.sl f f')(k:Zp P it ⟨f,m,ds⟩ x m'):Zp P it ⟨f',m,ds'⟩ x m':=by
 obtain⟨d,op,g⟩:=it;cases g with
 |none=>exact H1 (Zu.left h) k
 |some p=>
  obtain⟨j,want⟩:=p;have hj:f j=f' j:=(Zu.right h) j (by simp);simp only[Zp]at k ⊢;rw[←hj];cases he:f j with
  |bool b=>rw[he]at k;exact k.imp (fun h1=>⟨h1.1,H1 (Zu.left h) h1.2⟩) id
  |tup l=>rw[he]at k;exact k
  |_=>rw[he]at k;exact k

theorem Fy {op:RO}(hp:op.pure=true){f:Fr}{m m' m1:Qq}{ds ds':List DF}{x:AV}(h:Xj op.mc m m')(k:XT P op ⟨f,m,ds⟩ x m1):m1=m∧XT P op ⟨f,m',ds'⟩ x m':=by
 cases op with
 |bsl sz len z ps=>obtain⟨k,e⟩:=k;exact⟨e,k,rfl⟩
 |val vo=>obtain⟨k,e⟩:=k;exact⟨e,by rw[←Ai (f:=f) h];exact k,rfl⟩
 |call g args=>
  obtain⟨⟨k,fa,fb,ys,h1,h2,h3,h4,h5,h6⟩,e⟩:=k;refine⟨e,⟨k,fa,fb,ys,h1,?_,h3,h4,h5,h6⟩,rfl⟩;rw[←KC h];exact h2
 |usd r=>
  obtain⟨⟨l,s,g,n,sz,xs,h0,h1,h2,h3⟩,e⟩:=k;refine⟨e,⟨l,s,g,n,sz,xs,h0,h1,?_,h3⟩,rfl⟩;have h4:(Qg m l s).row=(Qg m' l s).row:=h l s;have h2:Qg m l s=.vec g sz xs:=h2;show Qg m' l s=.vec g sz xs;rw[h2]at h4;cases hl:Qg m' l s with
  |vec g' sz' xs'=>rw[hl]at h4;simp only[Ob.row,QWc,Prod.mk.injEq]at h4;obtain⟨rfl,rfl,rfl⟩:=h4;rfl
  |none=>rw[hl]at h4;cases h4
  |cells _=>rw[hl]at h4;cases h4
  |iter _ _=>rw[hl]at h4;cases h4
 |_=>cases hp

theorem Y9 {it:Item}(hp:it.op.pure=true){f:Fr}{m m' m1:Qq}{ds ds':List DF}{x:AV}(h:Xj it.op.mc m m')(k:Zp P it ⟨f,m,ds⟩ x m1):m1=m∧Zp P it ⟨f,m',ds'⟩ x m':=by
 obtain⟨d,op,g⟩:=it;cases g with
 |none=>exact Fy hp h k
 |some p=>
  obtain⟨j,want⟩:=p;simp only[Zp]at k ⊢;cases he:f j with
  |bool b=>
   rw[he]at k;rcases k with⟨h1,k⟩|⟨h1,h2,h3⟩
   ·obtain⟨a,b⟩:=Fy hp h k;exact⟨a,.inl ⟨h1,b⟩⟩
   ·exact⟨h3,.inr ⟨h1,h2,trivial⟩⟩
  |tup l=>rw[he]at k;exact⟨k.2.2,k.1,k.2.1,trivial⟩
  |_=>rw[he]at k;exact k.elim

def RO.lets (op:RO)(c:MC):Bool :=
 match op with
 |.val _=>true
 |.call _ _=>true
 |.store .. => c == .no||c == .shape
 |.storev l s _ _ _=>match c with
  |.cell l' s'=>l' != l||s' != s
  |.outer=>l==0
  |.all=>false
  |_=>true
 |.allocN s _=>match c with
  |.cell l' s'=>l' != 0||s' != s
  |.all=>false
  |_=>true
 |.boxN s _=>match c with
  |.cell l' s'=>l' != 0||s' != s
  |.all=>false
  |_=>true
 |.app .. => match c with
  |.no=>true
  |.cell _ _=>true
  |_=>false
 |.bsl .. => true
 |.bslv s _ _ _ _=>match c with
  |.no=>true
  |.cell l' s'=>l' != 0||s' != s
  |.outer=>true
  |_=>false
 |.bsl0 s _=>match c with
  |.no=>true
  |.cell l' s'=>l' != 0||s' != s
  |.outer=>true
  |_=>false
 |.callF .. => c == .no
 |.callK l s _ _=>match c with
  |.no=>true
  |.cell l' s'=>l'==l&&s'==s
  |_=>false
 |.usd _=>true
 |.ustr .. => c == .no
 |_=>false

theorem WZ {m:Qq}{l s:Nat}{o o':Ob}(hl:Qg m l s=o)(ho:o.row=none)(ho':o'.row=none)(hlt:l<m.length){c:MC}(hc:match c with
  |.cell l' s'=>(l' != l||s' != s)=true
  |.outer=>(l==0)=true
  |.all=>False
  |_=>True):Xj c m (Am.put m l s o'):=by
 have key:∀l' s',(l'=l∧s'=s)∨Qg (Am.put m l s o') l' s'=Qg m l' s':=by
  intro l' s';by_cases hh:l'=l∧s'=s
  ·exact .inl hh
  ·exact .inr (Qz (by omega))
 have hsh:∀ {x:Ob},x.row=none→x.sh=none:=by intro x;cases x<;>simp[Ob.row,Ob.sh]
 cases c with
 |no=>trivial
 |shape=>
  intro l' s';rcases key l' s' with⟨rfl,rfl⟩|e
  ·rw[QA hlt,hl,hsh ho,hsh ho']
  ·rw[e]
 |rows=>
  intro l' s';rcases key l' s' with⟨rfl,rfl⟩|e
  ·rw[QA hlt,hl,ho,ho']
  ·rw[e]
 |cell l' s'=>
  show Qg m l' s'=Qg _ l' s'∨_;rcases key l' s' with⟨rfl,rfl⟩|e
  ·simp at hc
  ·exact .inl e.symm
 |outer=>
  intro l' s';have hc:l=0:=by simpa using hc
  exact(Qz (by omega)).symm
 |all=>exact hc.elim

theorem CD {m:Qq}{s:Nat}(h:XE m s=true):Qg m 0 s=.none:=by
 unfold XE at h;split at h
 ·assumption
 ·cases h

end

theorem Xj.symm {c:MC}{m m':Qq}(h:Xj c m m'):Xj c m' m:=by
 cases c with
 |no=>trivial
 |shape=>exact fun l s=>(h l s).symm
 |rows=>exact fun l s=>(h l s).symm
 |cell l s=>exact Or.imp Eq.symm And.symm h
 |outer=>exact fun l s=>(h l s).symm
 |all=>exact Eq.symm h

theorem Fz {m m':Qq}{p:AV}{ys:List AV}(h:QV m p ys=some m'):Xj .shape m m':=by
 cases p with
 |ptr l s o=>
  simp only[QV]at h;split at h
  ·rename_i xs hlk;split at h
   ·split at h
    ·cases h;exact WZ (c:=.shape) hlk rfl rfl (QX (by rw[hlk];simp)) trivial
    ·cases h
   ·cases h
  ·cases h
 |vptr l s g i o=>
  simp only[QV]at h;split at h
  ·rename_i g' sz xs hlk;split at h
   ·rename_i hg;subst hg;split at h
    ·split at h
     ·cases h;intro l' s';by_cases hh:l'=l∧s'=s
      ·obtain⟨rfl,rfl⟩:=hh;rw[QA (QX (by rw[hlk];simp)),hlk];rfl
      ·rw[Qz (by omega)]
     ·cases h
    ·cases h
   ·cases h
  ·cases h
 |_=>simp[QV]at h

section
variable {P:Program}{N:Nat}

theorem FA {m:Qq}{s:Nat}{xs:List AV}(h:XE m s=true){c:MC}(hc:match c with
  |.cell l' s'=>(l' != 0||s' != s)=true
  |.all=>False
  |_=>True):Xj c m (Am.put m 0 s (.cells xs)):=by
 cases m with
 |nil=>exact Xj.refl c _
 |cons fr m=>exact WZ (CD h) rfl rfl (by simp) (by cases c<;>first|exact hc|rfl)

theorem H2 {op:RO}{c:MC}(hc:op.lets c=true){st:St}{x:AV}{m:Qq}(h:XT P op st x m):Xj c st.m m:=by
 cases op with
 |val vo=>rw[h.2];exact Xj.refl c _
 |call f args=>rw[h.2];exact Xj.refl c _
 |usd r=>rw[h.2];exact Xj.refl c _
 |callK l s f args=>
  obtain⟨_,_,_,_,_,he⟩:=h;cases c with
  |no=>trivial
  |cell l' s'=>
   simp only[RO.lets,QWb,QVT]at hc;obtain⟨rfl,rfl⟩:=hc;exact .inl he.symm
  |_=>simp[RO.lets]at hc
 |ustr el p r=>
  simp only[RO.lets,QVT]at hc;subst hc;trivial
 |store n p r=>
  simp only[RO.lets,QVR,QVT]at hc;rcases hc with rfl|rfl
  ·trivial
  ·exact Fz h.2.2.1
 |storev l s n p r=>
  obtain⟨⟨o,ho⟩,h1,h2,h3,h4⟩:=h;rw[ho]at h3;simp only[QV]at h3;split at h3
  ·rename_i xs hlk;split at h3
   ·split at h3
    ·cases h3;refine WZ hlk rfl rfl (QX (by rw[hlk];simp)) ?_;cases c<;>first|trivial|exact hc|cases hc
    ·cases h3
   ·cases h3
  ·cases h3
 |allocN s z=>
  rw[h.2.2];refine FA h.1 ?_;cases c<;>first|trivial|exact hc|cases hc
 |boxN s r=>
  rw[h.2.2.2];refine FA h.1 ?_;cases c<;>first|trivial|exact hc|cases hc
 |app sz bytes el s r=>
  obtain⟨l,site,g,n,xs,ys,_,hlk,_,_,_,_,_,_,_,rfl⟩:=h;cases c with
  |no=>trivial
  |cell l' s'=>
   show Qg st.m l' s'=Qg _ l' s'∨_;by_cases hh:l'=l∧s'=site
   ·obtain⟨rfl,rfl⟩:=hh;refine .inr ⟨by rw[hlk];rfl,?_⟩;rw[QA (QX (by rw[hlk];simp))];rfl
   ·exact .inl (Qz (by omega)).symm
  |_=>simp[RO.lets]at hc
 |bsl sz len z ps=>rw[h.2];exact Xj.refl c _
 |bslv site sz len z ps=>
  obtain⟨y,_,_,_,_,_,rfl⟩:=h;cases c with
  |no=>trivial
  |cell l' s'=>
   simp only[RO.lets,QVR,QWd]at hc;exact .inl (Qz (by omega)).symm
  |outer=>exact fun l' s'=>(Qz (.inl (Nat.succ_ne_zero l'))).symm
  |_=>simp[RO.lets]at hc
 |bsl0 site sz=>
  obtain⟨_,_,rfl⟩:=h;cases c with
  |no=>trivial
  |cell l' s'=>
   simp only[RO.lets,QVR,QWd]at hc;exact .inl (Qz (by omega)).symm
  |outer=>exact fun l' s'=>(Qz (.inl (Nat.succ_ne_zero l'))).symm
  |_=>simp[RO.lets]at hc
 |callF f args=>
  simp only[RO.lets,QVT]at hc;subst hc;trivial
 |_=>exact h.elim

theorem H3 {it:Item}{c:MC}(hc:it.op.lets c=true){st:St}{x:AV}{m:Qq}(h:Zp P it st x m):Xj c st.m m:=by
 obtain⟨d,op,g⟩:=it;cases g with
 |none=>exact H2 hc h
 |some p=>
  obtain⟨j,want⟩:=p;simp only[Zp]at h;cases he:st.f j with
  |bool b=>
   rw[he]at h;rcases h with⟨_,h⟩|⟨_,_,h⟩
   ·exact H2 hc h
   ·rw[h];exact Xj.refl c _
  |tup l=>rw[he]at h;rw[h.2.2];exact Xj.refl c _
  |_=>rw[he]at h;exact h.elim

def UE (a b:Item):Bool :=
  (match a.dst with
   |some d=>!(b.sl.contains d)&&b.dst != some d
   |none=>true) &&
  (match b.dst with
   |some d=>!(a.sl.contains d)
   |none=>true)

def FB (a b:Item):Bool :=
 match a.op,b.op,a.g,b.g with
 |.allocN s _,.allocN t _,none,none=>s != t
 |_,_,_,_=>false

def UF (a b:Item):Bool :=
 a.op.keeps&&b.op.keeps&&UE a b&&((a.op.pure&&b.op.lets a.op.mc)||(b.op.pure&&a.op.lets b.op.mc)||FB a b)

theorem FC {m:Qq}{s t:Nat}{o:Ob}(h:s≠t):XE (Am.put m 0 s o) t=XE m t:=by
 unfold XE;rw[Qz (.inr (Ne.symm h))]
theorem PX {m:Qq}{s t:Nat}{o q:Ob}(h:s≠t):Am.put (Am.put m 0 s o) 0 t q=Am.put (Am.put m 0 t q) 0 s o:=by
 cases m with
 |nil=>rfl
 |cons fr m=>
  simp only[Am.put];congr 1
  funext i;by_cases h1:i=t
  ·subst h1;rw[QR,QS _ _ (Ne.symm h),QR]
  ·rw[QS _ _ h1];by_cases h2:i=s
   ·subst h2;rw[QR,QR]
   ·rw[QS _ _ h2,QS _ _ h2,QS _ _ h1]
theorem Nb {a b:Item}(h:FB a b=true){st:St}{f:Fr}{x y:AV}{m m2:Qq}(ga:Zp P a st x m)(gb:Zp P b { st with m:=m,f:=f } y m2) :
  ∃m1,Zp P b st y m1∧∀f',Zp P a { st with m:=m1,f:=f' } x m2:=by
 obtain⟨da,oa,ga'⟩:=a;obtain⟨db,ob,gb'⟩:=b;unfold FB at h;dsimp only at h;split at h
 ·rename_i s z t w;have hne:s≠t:=by simpa using h
  obtain⟨h1,rfl,rfl⟩:=ga;obtain⟨h2,rfl,rfl⟩:=gb;dsimp only at h2;rw[FC hne]at h2;refine⟨_,⟨h2,rfl,rfl⟩,fun f'=>⟨?_,rfl,?_⟩⟩
  ·dsimp only;rw[FC (Ne.symm hne)];exact h1
  ·exact PX hne
 ·cases h

theorem DG {l:List Nat}{f:Fr}{d:Option Nat}{x:AV}(h:∀k,d=some k→k∉l):Zu l f (Qo f d x):=by
 intro t ht;cases d with
 |none=>rfl
 |some k=>
  have:t≠k:=fun e=>h k rfl (e▸ht)
  show f t=QJ f k x t;rw[QS _ _ this]

theorem CE {f:Fr}{d e:Option Nat}{x y:AV}(h:∀k,d=some k→e≠some k):Qo (Qo f d x) e y=Qo (Qo f e y) d x:=by
 cases d with
 |none=>rfl
 |some d=>
  cases e with
  |none=>rfl
  |some e=>
   have hne:d≠e:=fun hh=>h d rfl (hh▸rfl)
   funext i;show QJ (QJ f d x) e y i=QJ (QJ f e y) d x i;by_cases h1:i=e
   ·subst h1;rw[QR,QS _ _ (Ne.symm hne),QR]
   ·rw[QS _ _ h1];by_cases h2:i=d
    ·subst h2;rw[QR,QR]
    ·rw[QS _ _ h2,QS _ _ h2,QS _ _ h1]

theorem Vq {a b:Item}(h:UE a b=true):(∀k,a.dst=some k→k∉b.sl)∧(∀k,a.dst=some k→b.dst≠some k)∧(∀k,b.dst=some k→k∉a.sl):=by
 unfold UE at h;simp only[QWb]at h;refine⟨fun k e=>?_,fun k e=>?_,fun k e=>?_⟩
 ·have:=h.1;rw[e]at this;simp at this;exact this.1
 ·have:=h.1;rw[e]at this;simp at this;exact this.2
 ·have:=h.2;rw[e]at this;simpa using this

theorem Vr {a b:Item}(h:UF a b=true){st:St}{K:St→Prop}(k:XS P a st fun s=>XS P b s K):XS P b st fun s=>XS P a s K:=by
 unfold UF at h;simp only[QWb,QVR]at h;obtain⟨⟨⟨ka,kb⟩,hap⟩,hor⟩:=h;obtain⟨h1,h2,h3⟩:=Vq hap;rw[Jo ka]at k;obtain⟨x,m,ga,k⟩:=k;rw[Jo kb]at k;obtain⟨y,m2,gb,k⟩:=k;rw[Jo kb];have hs1:∀f:Fr,Zu b.sl f (Qo f a.dst x):=fun f=>DG h1
 have hs3:∀f:Fr,Zu a.sl f (Qo f b.dst y):=fun f=>DG h3
 have hsym:∀ {l f f'},Zu l f f'→Zu l f' f:=fun h t ht=>(h t ht).symm
 have hK:K { st with m:=m2,f:=Qo (Qo st.f b.dst y) a.dst x }:=by
  rw[←CE h2];exact k
 rcases hor with(⟨pa,lb⟩|⟨pb,la⟩)|hf
 ·have e:m=st.m:=(Y9 (m':=st.m) (ds':=st.ds) pa (Xj.refl _ _) ga).1;subst e;have gb':Zp P b st y m2:=K6 (hsym (hs1 st.f)) gb;refine⟨y,m2,gb',?_⟩;rw[Jo ka];have ga':Zp P a { st with m:=m2 } x m2:=(Y9 pa (H3 lb gb') ga).2;exact⟨x,m2,K6 (hs3 st.f) ga',hK⟩
 ·have hag:=H3 la ga;obtain⟨e,gb1⟩:=Y9 (m':=st.m) (ds':=st.ds) pb hag.symm gb;have e:m2=m:=e;subst e;have gb':Zp P b st y st.m:=K6 (hsym (hs1 st.f)) gb1;refine⟨y,st.m,gb',?_⟩;rw[Jo ka];exact⟨x,m2,K6 (hs3 st.f) ga,hK⟩
 ·obtain⟨m1,gb',ga'⟩:=Nb hf ga gb;refine⟨y,m1,gb',?_⟩;rw[Jo ka];exact⟨x,m2,ga' _,hK⟩

theorem CF {ops:Array Oper}{o:Oper}{i:Nat}(hi:ops[i]? = some o){it:Item}(hc:Y5 P N ops o it=true){st:St}{K:St→Prop}(h:XS P it st K){G:Gh}{B:Nat}{a:Act}{w:World}(hr:Rel G B N st a w){KK:Act→World→Prop}{QQ:Exit→Act→World→Prop}
  (hk:∀G' st' a' w',K st'→Rel G' B N st' a' w'→Ext 1 G w G' w'→KK a' w'):wpOp P ops QQ i KK a w:=by
 have h1:Qx P N [it] st K:=Fs (Yq (fun _ hs=>Qx.nil hs) h);have h2:=h1 ops [o] (by simp[XX,hc]) G B a w hr (fun e a w=>match e with
  |.normal=>KK a w
  |e=>QQ e a w) (fun G' st' a' w' h1 h2 h3=>hk G' st' a' w' h1 h2 h3)
 unfold wpOp;simp only[hi];unfold wpList at h2;split
 ·rename_i hw;rw[QWg hw]at h2;rcases h2 with h2|h2
  ·left
   unfold Oper.wp at h2 ⊢;generalize (execOp a.eval o).run P w=r at h2 ⊢;cases r with
   |ok n w'=>
    cases n<;>simp only[Oper.upon]at h2 ⊢<;>first
     |exact h2
     |exact Calls.mono h2 (fun e w'' he=>by cases e<;>exact he)
   |halt x w'=>cases x<;>simp only[Oper.upon]at h2 ⊢<;>exact h2
  ·exact .inr h2
 ·rename_i hw;rw[QV1 hw]at h2;exact h2

def KQ:Item:=⟨none,.val (.mov (.c .top)),none⟩
def Yr (Qf:List Item)(l:List Nat):List Item:=l.map fun i=>Qf.getD i KQ

theorem CG {Qf:List Item}{i:Nat}{post:List Nat}{Q:St→Prop}:∀ {pre:List Nat} {st:St},(∀p,p∈pre→UF (Qf.getD p KQ) (Qf.getD i KQ)=true)→
  QF P (Yr Qf (pre++i :: post)) st Q→XS P (Qf.getD i KQ) st fun s=>QF P (Yr Qf (pre++post)) s Q
 | [],_,_,h=>h
 |p :: pre,st,hp,h=>by
  have h':XS P (Qf.getD p KQ) st fun s=>QF P (Yr Qf (pre++i :: post)) s Q:=h
  have h2:=Yq (fun s hs=>CG (fun q hq=>hp q (QV3 _ hq)) hs) h';exact Vr (hp p (QV5 ..)) h2

inductive Bef (ops:Array Oper):Nat→Nat→Prop
 |one {i:Nat} {o:Oper} {e:Edge} (ho:ops[i]? = some o) (he:e∈o.after) (hb:Region.binds .any e=true):Bef ops e.on i
 |more {i p:Nat} {o:Oper} {e:Edge} (ho:ops[i]? = some o) (he:e∈o.after) (hb:Region.binds .any e=true) (h:Bef ops p e.on):Bef ops p i

def Vs (acc:List Nat)(m:Nat)(e:Edge):Nat:=if Region.binds .any e then(m ||| 2 ^ e.on) ||| acc.getD e.on 0 else m
def CH (acc:List Nat)(o:Oper):Nat:=o.after.toList.foldl (Vs acc) 0
def Vt:List Oper→List Nat→List Nat
 | [],acc=>acc
 |o :: os,acc=>Vt os (acc++[CH acc o])

theorem H4 {acc:List Nat}{p:Nat}:∀(l:List Edge) (m:Nat),(l.foldl (Vs acc) m).testBit p=true→m.testBit p=true∨∃e∈l,Region.binds .any e=true∧(p=e.on∨(acc.getD e.on 0).testBit p=true)
 | [],m,h=>.inl h
 |e :: l,m,h=>by
  rw[List.foldl_cons]at h;rcases H4 l _ h with h1|⟨e',h1,h2,h3⟩
  ·unfold Vs at h1;split at h1
   ·rename_i hb;rw[Nat.testBit_or,Nat.testBit_or,QVR,QVR]at h1;rcases h1 with(h1|h1)|h1
    ·exact .inl h1
    ·rw[Nat.testBit_two_pow]at h1;exact .inr ⟨e,QV5 ..,hb,.inl (of_decide_eq_true h1).symm⟩
    ·exact .inr ⟨e,QV5 ..,hb,.inr h1⟩
   ·exact .inl h1
  ·exact .inr ⟨e',QV3 _ h1,h2,h3⟩

theorem FD {ops:Array Oper}:∀(l:List Oper) (acc:List Nat),ops.toList=ops.toList.take acc.length++l→acc.length+l.length=ops.size→(∀i p,(acc.getD i 0).testBit p=true→Bef ops p i)→∀i p,((Vt l acc).getD i 0).testBit p=true→Bef ops p i
 | [],acc,_,_,h=>h
 |o :: l,acc,e,hn,h=>by
  have hlen:acc.length<ops.toList.length:=by simp at hn ⊢;omega
  have hat:ops[acc.length]? = some o:=by
   rw[←QWe,e,QXd (by simp;omega)];simp;have:acc.length-min acc.length ops.size=0:=by simp at hlen;omega
   rw[this];rfl
  refine FD l (acc++[CH acc o]) ?_ (by simp at hn ⊢;omega) fun i p hb=>?_
  ·rw[QWp,QXi,QV7 hlen,QV8];have:ops.toList[acc.length]=o:=by
    have:=QVO hlen;rw[QWe,hat]at this;cases this;rfl
   rw[this];exact e
  ·rw[List.getD_eq_getElem?_getD]at hb;by_cases hi:i<acc.length
   ·rw[QXc hi,←List.getD_eq_getElem?_getD]at hb;exact h i p hb
   ·by_cases hi2:i=acc.length
    ·subst hi2;rw[QXd (QVL _)]at hb;simp only[Nat.sub_self,QWP,QWX]at hb;rcases H4 _ _ hb with h1|⟨e',h1,h2,h3⟩
     ·simp at h1
     ·rcases h3 with rfl|h3
      ·exact .one hat (by simpa using h1) h2
      ·exact .more hat (by simpa using h1) h2 (h _ _ h3)
    ·rw[QXb (by simp;omega)]at hb;simp at hb

def G9 (ops:Array Oper)(Qf:List Item):Bool :=
 (List.range ops.size).all fun i=>match ops[i]? with
  |some o=>o.after.all (fun e=>!Region.binds .any e||decide (e.on<i))&&(List.range i).all fun p=>((Vt ops.toList []).getD i 0).testBit p||UF (Qf.getD p KQ) (Qf.getD i KQ)
  |none=>true

theorem Bef.listed {ops:Array Oper}{L:Nat→Prop}(hcl:∀q,L q→∀o e,ops[q]? = some o→e∈o.after→Region.binds .any e=true→L e.on){p i:Nat}(h:Bef ops p i)(hi:∀o e,ops[i]? = some o→e∈o.after→Region.binds .any e=true→L e.on):L p:=by
 induction h with
 |one ho he hb=>exact hi _ _ ho he hb
 |more ho he hb _ ih=>exact ih (hcl _ (hi _ _ ho he hb))

def KE (n:Nat)(listed:Array Bool):List Nat:=(List.range n).filter fun i=>!listed.getD i true

theorem Hp {ops:Array Oper}:∀ {l:List Oper} {Qf:List Item},XX P N ops l Qf=true→l.length=Qf.length∧∀(i:Nat) (o:Oper),l[i]? = some o→Y5 P N ops o (Qf.getD i KQ)=true
 | [],Qf,h=>by
  cases Qf with
  |nil=>exact⟨rfl,by simp⟩
  |cons it Qf=>simp[XX]at h
 |o :: l,Qf,h=>by
  cases Qf with
  |nil=>simp[XX]at h
  |cons it Qf=>
   simp only[XX,QWb]at h;obtain⟨e,h2⟩:=Hp h.2;refine⟨by simp[e],fun i o' ho=>?_⟩;cases i with
   |zero=>simp at ho;subst ho;exact h.1
   |succ i=>simpa using h2 i o' (by simpa using ho)

theorem PY {ops:Array Oper}{Qf:List Item}(hc:XX P N ops ops.toList Qf=true)(hd:G9 ops Qf=true){B:Nat}{Q:St→Prop}{QQ:Exit→Act→World→Prop} :
  ∀(fuel:Nat) (listed:Array Bool),listed.size=ops.size→(∀q,listed.getD q false=true→∀o e,ops[q]? = some o→e∈o.after→Region.binds .any e=true→listed.getD e.on false=true)→(KE ops.size listed).length≤fuel→∀(st:St) (G:Gh) (a:Act) (w:World),QF P (Yr Qf (KE ops.size listed)) st Q→Rel G B N st a w→
   (∀G' st' a' w',Q st'→Rel G' B N st' a' w'→Ext 1 G w G' w'→QQ .normal a' w')→wpAny P .any ops QQ fuel listed a w:=by
 obtain⟨hlen,hcs⟩:=Hp hc;have hready:∀(listed:Array Bool) i,i∈Region.ready .any ops listed→i∈KE ops.size listed:=by
  intro listed i hi;obtain⟨h0,o,ho,_⟩:=mem_ready.1 hi;exact List.mem_filter.2 ⟨QXj.2 (QVU.1 ho).1,by simp[h0]⟩
 have hat:∀i,i<ops.size→∃o,ops[i]? = some o∧(∀e∈o.after,Region.binds .any e=true→e.on<i)∧∀p,p<i→Bef ops p i∨UF (Qf.getD p KQ) (Qf.getD i KQ)=true:=by
  intro i hi;refine⟨ops[i],QV4 hi,?_⟩;have h1:=QVZ.1 hd i (QXj.2 hi);rw[QV4 hi]at h1;simp only[QWb]at h1;refine⟨fun e he hb=>?_,fun p hp=>?_⟩
  ·have h2:=Array.all_eq_true_iff_forall_mem.1 h1.1 e he
   simpa [hb]using h2
  ·have h2:=QVZ.1 h1.2 p (QXj.2 hp);rw[QVR]at h2;rcases h2 with h2|h2
   ·exact .inl (FD ops.toList [] (by simp) (by simp) (fun i p hb=>by simp at hb) i p h2)
   ·exact .inr h2
 -- the first that is left is ready
 have hfirst:∀(listed:Array Bool),listed.size=ops.size→Region.ready .any ops listed=[]→KE ops.size listed=[]:=by
  intro listed hsz hr;cases hu:KE ops.size listed with
  |nil=>rfl
  |cons i rest=>
   exfalso;have hpw:(KE ops.size listed).Pairwise (· < ·):=List.Pairwise.filter _ List.pairwise_lt_range;have hi:i∈KE ops.size listed:=by rw[hu];exact QV5 ..
   obtain⟨hi1,hi2⟩:=List.mem_filter.1 hi;obtain⟨o,ho,h1,_⟩:=hat i (QXj.1 hi1);have:i∈Region.ready .any ops listed:=by
    refine mem_ready.2 ⟨by simpa using hi2,o,ho,fun e he hb=>?_⟩;have hlt:=h1 e he hb;cases hg:listed.getD e.on false with
    |true=>rfl
    |false=>
     have hin:e.on∈KE ops.size listed:=by
      refine List.mem_filter.2 ⟨QXj.2 (Nat.lt_trans hlt (QXj.1 hi1)),?_⟩;have hlt':e.on<listed.size:=by rw[hsz];exact Nat.lt_trans hlt (QXj.1 hi1)
      simp[QV4 hlt']at hg ⊢;exact hg
     rw[hu]at hin hpw;rcases QW9.1 hin with e'|e'
     ·omega
     ·have:=(QXk.1 hpw).1 _ e';omega
   rw[hr]at this;cases this
 intro fuel
 induction fuel with
 |zero=>
  intro listed hsz hcl hl st G a w h hr hq;have hu:KE ops.size listed=[]:=QWR (by omega);refine⟨?_,?_⟩
  ·cases hx:Region.ready .any ops listed with
   |nil=>rfl
   |cons i r=>
    have:=hready listed i (by rw[hx];exact QV5 ..);rw[hu]at this;cases this
  ·rw[hu]at h;exact hq G st a w h hr (Ext.refl 1 G w)
 |succ fuel ih=>
  intro listed hsz hcl hl st G a w h hr hq;refine⟨fun hx=>?_,fun i hi=>?_⟩
  ·rw[hfirst listed hsz hx]at h;exact hq G st a w h hr (Ext.refl 1 G w)
  ·have hiu:=hready listed i hi;obtain⟨pre,post,hsplit⟩:=List.append_of_mem hiu;have hpw:(KE ops.size listed).Pairwise (· < ·):=List.Pairwise.filter _ List.pairwise_lt_range;rw[hsplit]at h hpw;obtain⟨_,hp2,hp3⟩:=List.pairwise_append.1 hpw;obtain⟨hi1,hi2⟩:=List.mem_filter.1 hiu;obtain⟨o,ho,h1,h2⟩:=hat i (QXj.1 hi1);obtain⟨_,o',ho',h3⟩:=mem_ready.1 hi;rw[ho]at ho';cases ho';have hind:∀p,p∈pre→UF (Qf.getD p KQ) (Qf.getD i KQ)=true:=by
    intro p hp;rcases h2 p (hp3 p hp i (QV5 ..))with hbef|h
    ·exfalso;have hl1:=hbef.listed (L:=fun q=>listed.getD q false=true) hcl (fun o2 e ho2 he hb=>by rw[ho]at ho2;cases ho2;exact h3 e he hb);have hpu:p∈KE ops.size listed:=by rw[hsplit];exact List.mem_append_left _ hp
     obtain⟨hr1,hr2⟩:=List.mem_filter.1 hpu;have hlt':p<listed.size:=by rw[hsz];exact QXj.1 hr1
     simp[QV4 hlt']at hl1 hr2;rw[hl1]at hr2;cases hr2
    ·exact h
   have hb:=CG (P:=P) hind h;have hnext:KE ops.size (listed.setIfInBounds i true)=pre++post:=by
    have e1:KE ops.size (listed.setIfInBounds i true)=(KE ops.size listed).filter fun j=>j != i:=by
     unfold KE;rw[List.filter_filter];refine List.filter_congr fun j hj=>?_
     by_cases hji:j=i
     ·subst hji;have hlt':j<listed.size:=by rw[hsz];exact QXj.1 hj
      simp[hlt']
     ·rw[getD_set_ne true (fun e=>hji e.symm)];simp[hji]
    rw[e1,hsplit,List.filter_append,List.filter_cons];have e2:pre.filter (fun j=>j != i)=pre:=List.filter_eq_self.2 fun j hj=>by
     have:=hp3 j hj i (QV5 ..);simp;omega
    have e3:post.filter (fun j=>j != i)=post:=List.filter_eq_self.2 fun j hj=>by
     have:=(QXk.1 hp2).1 j hj;simp;omega
    rw[e2,e3];simp
   have hset:∀q,listed.getD q false=true→(listed.setIfInBounds i true).getD q false=true:=fun q hq'=>by
    by_cases hqi:q=i
    ·subst hqi;have hlt':q<listed.size:=by rw[hsz];exact QXj.1 hi1
     simp[hlt']
    ·rw[getD_set_ne false (fun e=>hqi e.symm)];exact hq'
   have hcl':∀q,(listed.setIfInBounds i true).getD q false=true→∀o e,ops[q]? = some o→e∈o.after→Region.binds .any e=true→(listed.setIfInBounds i true).getD e.on false=true:=fun q hq' o2 e ho2 he2 hb2=>by
    by_cases hqi:q=i
    ·subst hqi;rw[ho]at ho2;cases ho2;exact hset _ (h3 e he2 hb2)
    ·rw[getD_set_ne false (fun e=>hqi e.symm)]at hq';exact hset _ (hcl q hq' o2 e ho2 he2 hb2)
   refine CF ho (hcs i o (by simpa using ho)) hb hr fun G' st' a' w' hk hr' he=>?_
   refine ih (listed.setIfInBounds i true) (by simpa using hsz) hcl' ?_ st' G' a' w' (by rw[hnext];exact hk) hr' fun G2 st2 a2 w2 hq2 hr2 he2=>hq G2 st2 a2 w2 hq2 hr2 (he.trans he2)
   rw[hnext];rw[hsplit]at hl;simp only[QWp,QV2]at hl ⊢;omega

theorem CI {Qf:List Item}:Yr Qf (List.range Qf.length)=Qf:=by
 apply List.ext_getElem
 ·simp[Yr]
 ·intro i h1 h2;simp[Yr,h2]

theorem Aj {ops:Array Oper}{Qf:List Item}(hm:P.follows .mixedOrders=true)(hc:XX P N ops ops.toList Qf=true)(hd:G9 ops Qf=true){st:St}{Q:St→Prop}(h:QF P Qf st Q){G:Gh}{B:Nat}{a:Act}{w:World}(hr:Rel G B N st a w){QQ:Exit→Act→World→Prop}{id:Nat}
  (hq:∀G' st' a' w',Q st'→Rel G' B N st' a' w'→Ext 1 G w G' w'→QQ .normal a' w'):(Code.region id ops true).wp P QQ a w:=by
 refine wp_region_any hm ?_;have hlen:=(Hp hc).1;simp only[QWh]at hlen;have hu:KE ops.size (Array.replicate ops.size false)=List.range Qf.length:=by
  unfold KE;rw[hlen];refine List.filter_eq_self.2 fun i hi=>?_
  simp[QXj.1 hi]
 refine PY hc hd ops.size (Array.replicate ops.size false) (by simp) (fun q hq'=>by rw[QVW]at hq';simp[Array.getElem?_replicate]at hq';split at hq'<;>cases hq') (by rw[hu];simp[hlen]) st G a _ (by rw[hu,CI];exact h) hr.drew fun G' st' a' w' h1 h2 h3=>hq G' st' a' w' h1 h2 ((Ext.drew G w).trans h3)

end

def XZ (P:Program)(N:Nat):RC→Code→Bool
 |.gho _ r,c=>XZ P N r c
 |.no,_=>true
 |.skip,c=>match c with
  |.skip=>true
  |_=>false
 |.reg Qf,c=>match c with
  |.region _ ops false=>XX P N ops ops.toList Qf
  |_=>false
 |.draw Qf,c=>match c with
  |.region _ ops true=>P.follows .mixedOrders&&XX P N ops ops.toList Qf&&G9 ops Qf
  |_=>false
 |.seq a b,c=>match c with
  |.seq x y=>XZ P N a x&&XZ P N b y
  |_=>false
 |.cond r a b,c=>match c with
  |.cond o x y=>QM o r&&XZ P N a x&&XZ P N b y
  |_=>false
 |.block i a,c=>match c with
  |.block j x=>i==j&&XZ P N a x
  |_=>false
 |.loop a,c=>match c with
  |.loop x=>XZ P N a x
  |_=>false
 |.exit i,c=>match c with
  |.exit j=>i==j
  |_=>false
 |.scope a,c=>match c with
  |.scope x=>XZ P N a x
  |_=>false
 |.lab,c=>match c with
  |.label _=>true
  |_=>false
 |.ret,c=>match c with
  |.ret=>true
  |_=>false

section
variable {P:Program}{N B:Nat}

theorem CJ:∀ {rc:RC} {c:Code} {st:St} {Q:Exit→St→Prop},QH P rc st Q→XZ P N rc c=true→∀ {G:Gh} {a:Act} {w:World},Rel G B N st a w→∀ {QQ:Exit→Act→World→Prop},
  (∀e G' st' a' w',Q e st'→Rel G' B N st' a' w'→Ext 1 G w G' w'→QQ e a' w')→c.wp P QQ a w:=by
 intro rc
 induction rc with
 |skip=>
  intro c st Q h hc G a w hr QQ hq;cases c<;>simp only[XZ,QV6]at hc;exact wp_skip (hq _ _ _ _ _ h hr (Ext.refl 1 G w))
 |reg Qf=>
  intro c st Q h hc G a w hr QQ hq;cases c<;>simp only[XZ,QV6]at hc;rename_i id ops d;cases d<;>simp only[QV6]at hc;refine wp_region_list ?_;exact No (N:=N) h ops ops.toList hc G B a w hr QQ fun G' st' a' w' h1 h2 h3=>hq _ _ _ _ _ h1 h2 h3
 |draw Qf=>
  intro c st Q h hc G a w hr QQ hq;cases c<;>simp only[XZ,QV6]at hc;rename_i id ops d;cases d<;>simp only[QV6,QWb]at hc;exact Aj hc.1.1 hc.1.2 hc.2 h hr fun G' st' a' w' h1 h2 h3=>hq _ _ _ _ _ h1 h2 h3
 |seq x y ihx ihy=>
  intro c st Q h hc G a w hr QQ hq;cases c<;>simp only[XZ,QV6,QWb]at hc;refine wp_seq (ihx h hc.1 hr fun e G' st' a' w' h1 h2 h3=>?_);cases e with
  |normal=>exact ihy h1 hc.2 h2 fun e G2 st2 a2 w2 k1 k2 k3=>hq _ _ _ _ _ k1 k2 (h3.trans k3)
  |_=>exact hq _ _ _ _ _ h1 h2 h3
 |cond r x y ihx ihy=>
  intro c st Q h hc G a w hr QQ hq;cases c<;>simp only[XZ,QV6,QWb]at hc;rename_i o cx cy;obtain⟨t,ht,h1,h2⟩:=h;have hv:=Qu hr hc.1.1;rw[ht]at hv;have hv':a.eval o=.bool t:=by
   generalize a.eval o=v at hv;cases hv;rfl
  refine wp_cond_split hv' (fun e=>?_) (fun e=>?_)
  ·exact ihx (h1 e) hc.1.2 hr hq
  ·exact ihy (h2 e) hc.2 hr hq
 |block i x ih=>
  intro c st Q h hc G a w hr QQ hq;cases c<;>simp only[XZ,QV6,QWb,QVT]at hc;obtain⟨rfl,hc⟩:=hc;refine wp_block (ih h hc hr fun e G' st' a' w' h1 h2 h3=>?_);cases e with
  |exit j=>
   simp only[Exit.inBlock];simp only[Kb]at h1;split
   ·rename_i hh;rw[QWg hh]at h1;exact hq _ _ _ _ _ h1 h2 h3
   ·rename_i hh;rw[QV1 hh]at h1;exact hq _ _ _ _ _ h1 h2 h3
  |_=>exact hq _ _ _ _ _ h1 h2 h3
 |loop x ih=>
  intro c st Q h hc G a w hr QQ hq;cases c<;>simp only[XZ,QV6]at hc;obtain⟨I,n,h0,hI⟩:=h;refine wp_loop_ghost (fun k a' w'=>∃G' st',I k st'∧Rel G' B N st' a' w'∧Ext 1 G w G' w') n ⟨G,st,h0,hr,Ext.refl 1 G w⟩ ?_;rintro k a' w' ⟨G',st',i1,i2,i3⟩;refine ih (hI k st' i1) hc i2 fun e G2 st2 a2 w2 h1 h2 h3=>?_
  cases e with
  |normal=>
   obtain⟨k',hk,hi⟩:=h1;exact⟨k',hk,G2,st2,hi,h2,i3.trans h3⟩
  |_=>exact hq _ _ _ _ _ h1 h2 (i3.trans h3)
 |exit i=>
  intro c st Q h hc G a w hr QQ hq;cases c<;>simp only[XZ,QV6,QVT]at hc;subst hc;exact wp_exit (hq _ _ _ _ _ h hr (Ext.refl 1 G w))
 |scope x ih=>
  intro c st Q h hc G a w hr QQ hq;cases c<;>simp only[XZ,QV6]at hc;refine wp_scope_straight (ih h hc hr fun e G' st' a' w' h1 h2 h3=>?_);cases e with
  |goto l=>exact h1.elim
  |_=>exact hq _ _ _ _ _ h1 h2 h3
 |lab=>
  intro c st Q h hc G a w hr QQ hq;cases c<;>simp only[XZ,QV6]at hc;exact wp_label (hq _ _ _ _ _ h hr (Ext.refl 1 G w))
 |ret=>
  intro c st Q h hc G a w hr QQ hq;cases c<;>simp only[XZ,QV6]at hc;exact wp_ret (hq _ _ _ _ _ h hr (Ext.refl 1 G w))
 |gho g x ih=>
  intro c st Q h hc G a w hr QQ hq;obtain⟨st',hg,h⟩:=h;obtain⟨G',h1,h2⟩:=PU hr hg;exact ih h hc h1 fun e G2 st2 a2 w2 k1 k2 k3=>hq _ _ _ _ _ k1 k2 (h2.trans k3)
 |no=>
  intro c st Q h;exact h.elim

theorem MR.out {G:Gh}{fr:Nat→Ob}{m:Qq}{w:World}(h:MR G (fr :: m) w){S:Nat→Prop}(hS:∀b,S b→(∃s,G.vm 0 s=some b)∨∃s,G.nm 0 s=some b):MR ((G.pub w S).dn 1) m w:=by
 have hnS:∀l s b,G.nm (l+1) s=some b→¬S b:=fun l s b e hs=>by
  rcases hS b hs with⟨s',e'⟩|⟨s',e'⟩
  ·exact h.inj3 _ _ _ _ _ e e'
  ·have:=(h.inj1 _ _ _ _ _ e e').1;omega
 have hvS:∀l s b,G.vm (l+1) s=some b→¬S b:=fun l s b e hs=>by
  rcases hS b hs with⟨s',e'⟩|⟨s',e'⟩
  ·have:=(h.inj2 _ _ _ _ _ e e').1;omega
  ·exact h.inj3 _ _ _ _ _ e' e
 have hgle:Gle G (G.pub w S):=Gh.pub_gle h.stab;refine⟨fun b o v e=>?_,fun l s xs e=>?_,fun l s b e=>?_,fun l s g sz xs e=>?_,fun l s b e=>?_,fun l s e=>?_,fun l s l' s' b e e'=>?_,fun l s l' s' b e e'=>?_,fun l s l' s' b e e'=>?_,fun l s t p e=>h.iter (l+1) s t p e⟩
 ·have e:(G.pub w S).stab b o=some v:=e;by_cases hs:S b
  ·rw[Gh.pub_in hs]at e;exact D8 e
  ·rw[Gh.pub_out hs]at e;exact h.stab b o v e
 ·obtain⟨b,cs,e',hc,hr⟩:=h.cells (l+1) s xs e;refine⟨b,cs,e',hc,?_⟩;rw[Gh.dn_dn];exact hr.mono (hgle.dn (l+1))
 ·obtain⟨h1,h2⟩:=h.nm (l+1) s b e;refine⟨h1,fun o=>?_⟩;show(G.pub w S).stab b o=none;rw[Gh.pub_out (hnS _ _ _ e)];exact h2 o
 ·obtain⟨a1,a2,a3,a4⟩:=h.vec (l+1) s g sz xs e;exact⟨a1,a2,a3,a4.imp id fun⟨b,e',r⟩=>⟨b,e',r.of rfl fun vs hv=>RepL.rfd (G:=G) (G':=(G.pub w S).dn 1) hgle.stab a3.rf hv⟩⟩
 ·obtain⟨h1,h2⟩:=h.vm (l+1) s b e;refine⟨h1,fun o=>?_⟩;show(G.pub w S).stab b o=none;rw[Gh.pub_out (hvS _ _ _ e)];exact h2 o
 ·exact h.gone (l+1) s e
 ·obtain⟨h1,h2⟩:=h.inj1 _ _ _ _ _ e e';exact⟨by omega,h2⟩
 ·obtain⟨h1,h2⟩:=h.inj2 _ _ _ _ _ e e';exact⟨by omega,h2⟩
 ·exact h.inj3 _ _ _ _ _ e e'

def Zi (rs:List RR)(n:Nat)(R:AV→Qq→Prop):Exit→St→Prop:=fun e st=>
 (e=.normal∨e=.ret)∧st.ds=[]∧∃x y fr m,Ko st rs=some x∧K5 st.m x=some y∧st.m=fr :: m∧m.length=n∧R y m

theorem Nc {G:Gh}{args:List AV}{vs:List Value}(h:RepL G args vs){N:Nat}(i:Nat):Rep G.up (Fl (AV.shL args) i) (((vs.toArray++Array.replicate (N-vs.toArray.size) undef):Array Value).getD i undef):=by
 have h':RepL G.up (AV.shL args) vs:=RepL.sh (G:=G.up) (by rw[Gh.up_dn];exact h);have hl:=h'.length;unfold Fl;by_cases hi:i<vs.length
 ·obtain⟨x,e,hx⟩:=h'.back (QVO hi);rw[e];simp only[QWX,QVW];rw[Array.getElem?_append_left (by simpa using hi)]
  simpa [hi]using hx
 ·rw[QXb (by omega)];simp only[QXl,QVW];rw[Array.getElem?_append_right (by simpa using hi)];cases hx:(Array.replicate (N-vs.toArray.size) undef)[i-vs.toArray.size]? with
  |none=>exact .tup .nil
  |some v=>
   have:=QVU.1 hx;obtain⟨_,h2⟩:=this;simp at h2;subst h2;exact .tup .nil

theorem DH {fn:Func}{args:List AV}{m:Qq}{G:Gh}{w:World}{vs:List Value}(hvs:RepL G args vs)(hm:MR G m w)(hN:fn.ntmps=N)(ha:args.length≤N) :
  Rel G.up w.heap.size N (St.enter args m) { tmps:=vs.toArray++Array.replicate (fn.ntmps-vs.toArray.size) undef,defers:=[] } w:=by
 have hlen:=hvs.length;refine⟨hm.up,?_,fun i=>Nc hvs i,.nil,fun s b e=>?_,QVL _,by simp[St.enter]⟩
 ·simp;omega
 ·rcases e with e|e<;>cases e

theorem Np {fn:Func}{rs:List RR}{G G':Gh}{m m':Qq}{w w':World}{st':St}{a':Act}{fr:Nat→Ob}{x y:AV}{R:AV→Qq→Prop}(hr:Jw P fn.results.toList rs=true)(hr':Rel G' w.heap.size N st' a' w')(he:Ext 1 G.up w G' w')
  (hx:Ko st' rs=some x) (hy:K5 st'.m x=some y) (hst:st'.m=fr :: m') (hml:m'.length=m.length) (hR:R y m') :
  ∃v,(results fn a'.tmps).run P w'=.ok v w'∧(∃G'' x v' m'',(Ending.returned v)=.returned v'∧R x m''∧Rep G'' x v'∧MR G'' m'' w'∧Ext 0 G w G'' w'∧m''.length=m.length):=by
 obtain⟨v,hrun,hv⟩:=Af (P:=P) hr' hr hx
 let S:Nat→Prop:=fun b=>(∃s,G'.vm 0 s=some b)∨∃s,G'.nm 0 s=some b
 have hmr:=hr'.mr;have hSt:∀l s b,(true&&l != 0)=false→G'.vm l s=some b→S b:=by
  intro l s b hl e;have:l=0:=by simpa using hl
  subst this;exact .inl ⟨s,e⟩
 unfold K5 at hy;rw[Option.bind_eq_some_iff]at hy;obtain⟨z,hz,hy⟩:=hy;have hv2:=Rep.un (Hn hmr (own:=true) (S:=S) hSt (fun _ s b _ _ _ e _=>.inr ⟨s,e⟩) hv z hz) y hy;rw[hst]at hmr;have hout:=hmr.out (S:=S) (fun b hs=>hs);have hmine:∀b,((G'.pub w' S).dn 1).mine b→G'.mine b:=by
  rintro b (⟨l,s,e⟩|⟨l,s,e⟩)
  ·exact .inl ⟨l+1,s,e⟩
  ·exact .inr ⟨l+1,s,e⟩
 have hext:Ext 0 G w ((G'.pub w' S).dn 1) w':=by
  refine⟨he.os,he.tape,he.output,he.size,fun b o v e=>?_,fun l s _=>he.nm (l+1) s (by omega),fun l s=>he.vg (l+1) s,fun l s e=>he.vs (l+1) s e,fun b hb hnm=>?_,fun b hb=>?_,fun l s b e=>?_⟩
  ·exact(Gh.pub_gle (S:=S) hr'.mr.stab).stab b o v (he.stab b o v e)
  ·obtain⟨h1,h2⟩:=he.old b hb (fun hx=>hnm (Gh.up_mine.1 hx));refine⟨h1,fun o=>?_⟩;have hnS:¬S b:=by
    rintro(⟨s,e⟩|⟨s,e⟩)
    ·have:=hr'.base s b (.inr e);omega
    ·have:=hr'.base s b (.inl e);omega
   show(G'.pub w' S).stab b o=G.stab b o;rw[Gh.pub_out hnS];exact h2 o
  ·rcases he.mine b (hmine b hb)with h1|h1
   ·exact .inl (Gh.up_mine.1 h1)
   ·exact .inr h1
  ·rcases he.mv (l+1) s b e with⟨i,t,hi,h1⟩|h1
   ·cases i with
    |zero=>cases h1
    |succ i=>exact .inl ⟨i,t,by omega,h1⟩
   ·exact .inr h1
 exact⟨v,hrun,_,y,v,m',rfl,hR,hv2,hout,hext,hml⟩

theorem YX {k:FuncId} {fn:Func} {c:Code} {rc:RC} {rs:List RR} {args:List AV} {m:Qq} {R:AV→Qq→Prop} (hf:P.funcs[k]? = some fn) (hb:fn.body=some c) (hn:(fn.name == "runtime.NumGoroutine")=false) (hN:fn.ntmps=N) (hc:XZ P N rc c=true) (hr:Jw P fn.results.toList rs=true)
  (ha:args.length≤N) (h:QH P rc (St.enter args m) (Zi rs m.length R)):Qi P k args m R:=by
 refine⟨⟨fn,hf,hn,by rw[hb];rfl⟩,fun G w vs hvs hm=>?_⟩;refine calls_of_wp hf hb ?_;refine CJ h hc (DH hvs hm hN ha) fun e G' st' a' w' hq hr' he=>?_
 obtain⟨hex,hds,x,y,fr,m',hx,hy,hst,hml,hR⟩:=hq;have hdef:a'.defers=[]:=by
  have:=hr'.ds;rw[hds]at this;cases hd:a'.defers with
  |nil=>rfl
  |cons d l=>rw[hd]at this;cases this
 have hfin:=Np (R:=R) hr hr' he hx hy hst hml hR;rcases hex with rfl|rfl
 ·exact⟨hdef,hfin⟩
 ·exact⟨hdef,hfin⟩

def W6 (P:Program)(k:FuncId)(args:List AV)(m:Qq)(R:AV→Qq→Prop):Prop :=
 Yp P k∧∀(G:Gh) (w:World) (vs:List Value),RepL G args vs→MR G m w→∀u,CallsD P k ⟨vs⟩ u w fun e u' w'=>u'=u∧∃G' x v m',e=.returned v∧R x m'∧Rep G' x v∧MR G' m' w'∧Ext 0 G w G' w'∧m'.length=m.length

theorem Da {k:FuncId} {fn:Func} {c:Code} {rc:RC} {rs:List RR} {args:List AV} {m:Qq} {R:AV→Qq→Prop} (hf:P.funcs[k]? = some fn) (hb:fn.body=some c) (hn:(fn.name == "runtime.NumGoroutine")=false) (hN:fn.ntmps=N) (hc:XZ P N rc c=true) (hr:Jw P fn.results.toList rs=true)
  (ha:args.length≤N) (h:QH P rc (St.enter args m) (Zi rs m.length R)):W6 P k args m R:=by
 refine⟨⟨fn,hf,hn,by rw[hb];rfl⟩,fun G w vs hvs hm u=>?_⟩;refine callsD_of_wp (R:=fun e w'=>∃G' x v m',e=.returned v∧R x m'∧Rep G' x v∧MR G' m' w'∧Ext 0 G w G' w'∧m'.length=m.length) hf hb ?_;refine CJ h hc (DH hvs hm hN ha) fun e G' st' a' w' hq hr' he=>?_
 obtain⟨hex,hds,x,y,fr,m',hx,hy,hst,hml,hR⟩:=hq;have hdef:a'.defers=[]:=by
  have:=hr'.ds;rw[hds]at this;cases hd:a'.defers with
  |nil=>rfl
  |cons d l=>rw[hd]at this;cases this
 have hfin:=Np (R:=R) hr hr' he hx hy hst hml hR;rcases hex with rfl|rfl
 ·exact⟨hdef,hfin⟩
 ·exact⟨hdef,hfin⟩

end

def CK (P:Program)(k N:Nat)(rc:RC)(rs:List RR):Prop :=
 ∃fn c, P.funcs[k]? = some fn∧fn.body=some c∧(fn.name == "runtime.NumGoroutine")=false∧fn.ntmps=N∧XZ P N rc c=true∧Jw P fn.results.toList rs=true
theorem CK.go {P:Program}{k N:Nat}{rc:RC}{rs:List RR}{args:List AV}{m:Qq}{R:AV→Qq→Prop}(h:CK P k N rc rs)(ha:args.length≤N)(w:QH P rc (St.enter args m) (Zi rs m.length R)):Qi P k args m R:=by
 obtain⟨fn,c,h1,h2,h3,h4,h5,h6⟩:=h;exact YX h1 h2 h3 h4 h5 h6 ha w
theorem ck {P:Program} {k N:Nat} {fn:Func} {rc:RC} {rs:List RR} (hf:P.funcs[k]? = some fn) (hN:fn.ntmps=N) (h:(fn.body.isSome && !(fn.name == "runtime.NumGoroutine")&&XZ P N rc (fn.body.getD .skip)&&Jw P fn.results.toList rs)=true):CK P k N rc rs := by
 simp only[QWb,QWL,Option.isSome_iff_exists]at h;obtain⟨⟨⟨⟨c,hc⟩,h1⟩,h2⟩,h3⟩:=h;rw[hc]at h2;exact⟨fn,c,hf,hc,h1,hN,h2,h3⟩
theorem CK.dd {P:Program}{k N:Nat}{rc:RC}{rs:List RR}{args:List AV}{m:Qq}{R:AV→Qq→Prop}(h:CK P k N rc rs)(ha:args.length≤N)(w:QH P rc (St.enter args m) (Zi rs m.length R)):W6 P k args m R:=by
 obtain⟨fn,c,h1,h2,h3,h4,h5,h6⟩:=h;exact Da h1 h2 h3 h4 h5 h6 ha w
theorem CK.rl {P:Program}{k N:Nat}{rc:RC}{rs:List RR}{args:List AV}{R:AV→Prop}(h:CK P k N rc rs)(ha:args.length≤N)(w:QH P rc (St.enter args []) (Zi rs 0 fun x _=>R x)):WH P k args R:=h.go ha w
theorem CK.fn {P:Program}{k N:Nat}{rc:RC}{rs:List RR}{args:List AV}{v:AV}(h:CK P k N rc rs)(ha:args.length≤N)(w:QH P rc (St.enter args []) (Zi rs 0 fun x _=>x=v)):Qj P k args v:=h.go ha w

section
variable {P:Program}{f:Fr}{m:Qq}{ds:List DF}{K:St→Prop}{Q:Exit→St→Prop}{Qf:List Item}{d:Nat}

def Kc (P:Program)(b:RC)(Q:Exit→St→Prop):Exit→St→Prop:=Ks (fun st'=>QH P b st' Q) Q
def Kl (I:Nat→St→Prop)(n:Nat)(Q:Exit→St→Prop):Exit→St→Prop:=Ks (fun s=>∃k,k<n∧I k s) Q

theorem W7 {st:St}:QH P .skip st Q=Q .normal st:=id rfl
theorem QKy {st:St}:QH P .no st Q=False:=id rfl
theorem R2 {st:St}:QH P .lab st Q=Q .normal st:=id rfl
theorem R3 {st:St}:QH P .ret st Q=Q .ret st:=id rfl
theorem CL {st:St}{i:Nat}:QH P (.exit i) st Q=Q (.exit i) st:=id rfl
theorem Ys {st:St}:QH P (.reg Qf) st Q=QF P Qf st (Q .normal):=id rfl
theorem CM {st:St}:QH P (.draw Qf) st Q=QF P Qf st (Q .normal):=id rfl
theorem Yt {st:St}{a b:RC}:QH P (.seq a b) st Q=QH P a st (Kc P b Q):=id rfl
theorem Nq {st:St}{i:Nat}{a:RC}:QH P (.block i a) st Q=QH P a st (Kb i Q):=id rfl
theorem Nr {st:St}{a:RC}:QH P (.scope a) st Q=QH P a st (Kg Q):=id rfl
def Db:AV→Bool
 |.bool b=>b
 |_=>false
def CN:AV→Prop
 |.bool _=>True
 |_=>False
theorem CO (b:Bool):Db (.bool b)=b:=id rfl
theorem R4 (b:Bool):CN (.bool b)=True:=id rfl
def Hq (P:Program)(v:AV)(a b:RC)(st:St)(Q:Exit→St→Prop):Prop:=CN v∧(Db v=true→QH P a st Q)∧(Db v=false→QH P b st Q)
theorem Yu {a b:RC}{st:St}:Hq P (.bool true) a b st Q=QH P a st Q:=by simp[Hq,CN,Db]
theorem Kr {a b:RC}{st:St}:Hq P (.bool false) a b st Q=QH P b st Q:=by simp[Hq,CN,Db]
theorem Q1 {t:Bool}{a b:RC}{st:St}(h1:t=true→QH P a st Q)(h2:t=false→QH P b st Q):Hq P (.bool t) a b st Q:=⟨trivial,h1,h2⟩
theorem KF {c:RA}{a b:RC}:QH P (.cond c a b) ⟨f,m,ds⟩ Q=Hq P (c.ev f) a b ⟨f,m,ds⟩ Q:=by
 simp only[QH,Hq];generalize c.ev f=v;cases v<;>simp[Db,CN]

theorem ZD {b:RC}{st:St}:Kc P b Q .normal st=QH P b st Q:=id rfl
theorem CP {b:RC}{st:St}{i:Nat}:Kc P b Q (.exit i) st=Q (.exit i) st:=id rfl
theorem CQ {b:RC}{st:St}:Kc P b Q .ret st=Q .ret st:=id rfl
theorem CR {st:St}{i:Nat}:Kb i Q .normal st=Q .normal st:=id rfl
theorem H5 {st:St}{i j:Nat}:Kb i Q (.exit j) st=if j=i then Q .normal st else Q (.exit j) st:=id rfl
theorem CS {st:St}{i:Nat}:Kb i Q .ret st=Q .ret st:=id rfl
theorem CU {st:St}:Kg Q .normal st=Q .normal st:=id rfl
theorem CV {st:St}{j:Nat}:Kg Q (.exit j) st=Q (.exit j) st:=id rfl
theorem CW {st:St}:Kg Q .ret st=Q .ret st:=id rfl
theorem CX {I:Nat→St→Prop}{n:Nat}{st:St}:Kl I n Q .normal st = ∃k,k<n∧I k st:=id rfl
theorem CY {I:Nat→St→Prop}{n:Nat}{st:St}{j:Nat}:Kl I n Q (.exit j) st=Q (.exit j) st:=id rfl
theorem CZ {I:Nat→St→Prop}{n:Nat}{st:St}:Kl I n Q .ret st=Q .ret st:=id rfl

theorem Qd {a:RC}{st:St}(I:Nat→St→Prop)(n:Nat)(h0:I n st)(h:∀n st',I n st'→QH P a st' (Kl I n Q)):QH P (.loop a) st Q:=⟨I,n,h0,h⟩

theorem J5 {st:St}:QF P [] st K=K st:=id rfl
def Xq (x:Option AV):AV:=x.getD .top
def X8 (x:Option AV):Prop:=x.isSome=true
theorem ZE (x:AV):Xq (some x)=x:=id rfl
theorem J6 (x:AV):X8 (some x)=True:=by simp[X8]
theorem J7 {vo:VO}:QF P (⟨some d,.val vo,none⟩ :: Qf) ⟨f,m,ds⟩ K=(X8 (Qs f m vo)∧QF P Qf ⟨QJ f d (Xq (Qs f m vo)),m,ds⟩ K):=by
 simp only[QF,XS,YW,Qo];generalize Qs f m vo=v;cases v<;>simp[Xq,X8]

def mget (x:Option Qq):Qq:=x.getD []
def Ns (x:Option Qq):Prop:=x.isSome=true
theorem Qaq (x:Qq):mget (some x)=x:=id rfl
theorem Qxz (x:Qq):Ns (some x)=True:=by simp[Ns]
theorem Ak {n:Nat}{p r:RA}:QF P (⟨none,.store n p r,none⟩ :: Qf) ⟨f,m,ds⟩ K=((r.ev f).cells.length=n∧(r.ev f).cells.all AV.leaf=true∧Ns (QV m (p.ev f) (r.ev f).cells)∧QF P Qf ⟨f,mget (QV m (p.ev f) (r.ev f).cells),ds⟩ K):=by
 simp only[QF,XS,YW,Qo];generalize QV m (p.ev f) (r.ev f).cells=v;cases v<;>simp[mget,Ns]
def PZ (l s:Nat)(v:AV):Prop:=∃o,v=.ptr l s o
theorem Qar (l s o:Nat):PZ l s (.ptr l s o)=True:=eq_true ⟨o,rfl⟩
theorem P0 {l s n:Nat}{p r:RA}:QF P (⟨none,.storev l s n p r,none⟩ :: Qf) ⟨f,m,ds⟩ K=(PZ l s (p.ev f)∧(r.ev f).cells.length=n∧(r.ev f).cells.all AV.leaf=true∧Ns (QV m (p.ev f) (r.ev f).cells)∧QF P Qf ⟨f,mget (QV m (p.ev f) (r.ev f).cells),ds⟩ K):=by
 simp only[QF,XS,YW,Qo,PZ];generalize QV m (p.ev f) (r.ev f).cells=v;cases v<;>simp[mget,Ns]
theorem P1 {s:Nat}{z:List AV}:QF P (⟨some d,.allocN s z,none⟩ :: Qf) ⟨f,m,ds⟩ K=(XE m s=true∧QF P Qf ⟨QJ f d (.ptr 0 s 0),Am.put m 0 s (.cells z),ds⟩ K):=id rfl
theorem Qas {s:Nat}{r:RA}:QF P (⟨some d,.boxN s r,none⟩ :: Qf) ⟨f,m,ds⟩ K=(XE m s=true∧(r.ev f).cells.all AV.leaf=true∧QF P Qf ⟨QJ f d (.ptr 0 s 0),Am.put m 0 s (.cells (r.ev f).cells),ds⟩ K):=id rfl

theorem QxA {sz len:Nat}{z:List AV}{ps:List (Nat×Nat×RA)}{y:List AV}(hy:fill f ps (XC z sz len)=some y)(h1:AV.rfL y=true)(h2:y.all AV.leaf=true):QF P (⟨some d,.bsl sz len z ps,none⟩ :: Qf) ⟨f,m,ds⟩ K=QF P Qf ⟨QJ f d (.list (XP sz len (y.map nn0))),m,ds⟩ K:=by
 apply propext
 constructor
 ·rintro⟨y',h,_,_,k⟩;have h:fill f ps (XC z sz len)=some y':=h;rw[hy]at h;cases h;exact k
 ·intro k;exact⟨y,hy,h1,h2,k⟩
theorem Qat {z:AV}{r:RA}{k:IntKind}{n:Int}(hr:r.ev f=.int k n):QF P (⟨some d,.bsl 1 1 [z] [(0,1,r)],none⟩ :: Qf) ⟨f,m,ds⟩ K=QF P Qf ⟨QJ f d (.list [.int k n]),m,ds⟩ K:=by
 refine QxA (y:=[.int k n]) ?_ rfl rfl;simp[fill,hr,AV.cells,AV.leaf,XC,List.range_succ,splice]

theorem JS {z:AV}{r:RA}{k:IntKind}{n:Int}(hr:r.ev f=.int k n)(h:QF P Qf ⟨QJ f d (.list [.int k n]),m,ds⟩ K):QF P (⟨some d,.bsl 1 1 [z] [(0,1,r)],none⟩ :: Qf) ⟨f,m,ds⟩ K:=by
 rw[Qat hr];exact h

theorem W6.mono {k:FuncId}{args:List AV}{m:Qq}{R R':AV→Qq→Prop}(h:W6 P k args m R)(hr:∀x m',R x m'→R' x m'):W6 P k args m R' :=
 ⟨h.1,fun G w vs h1 h2 u c cs hu=>by
  obtain⟨e,u',w',fr,⟨h3,G',x,v,m',h4,h5,h6⟩,h7⟩:=h.2 G w vs h1 h2 u c cs hu;exact⟨e,u',w',fr,⟨h3,G',x,v,m',h4,hr _ _ h5,h6⟩,h7⟩⟩

theorem XL {slot site sz:Nat}{a:RC}{fr:Nat→Ob}(h1:f slot=.nils)(h2:fr site=.none)(h:QH P a ⟨QJ f slot (.vec 0 site 1 0 0 false),QJ fr site (.vec 1 sz []) :: m,ds⟩ Q):QH P (.gho (.vec slot site sz) a) ⟨f,fr :: m,ds⟩ Q:=by
 refine⟨_,?_,h⟩;have e:Qg (fr :: m) 0 site=.none:=h2;simp[Zy,h1,e,Qv,QD,Am.put]

theorem JT {fr:Nat→Ob}{site g sz n:Nat}{q:Bool}{xs:List AV}(hl:fr site=.vec g sz xs)(hn:n=xs.length):Q4 (fr :: m) (.vec 0 site g 0 n q)=some xs:=by
 subst hn;simp[Q4,Am.Qg,hl]

theorem QI {sz bytes el:Nat}{s r:RA}{site g n:Nat}{fr:Nat→Ob}{xs ys:List AV}(hs:s.ev f=.vec 0 site g 0 n false)(hl:fr site=.vec g sz xs)(ht:XI site el=true)(hn:n=xs.length)(hr:r.ev f=.list ys)(hz:ys.all (fun e=>e.cells.length==sz)=true)(hm:n+ys.length≤maxLen)(hb:(n+ys.length)*bytes≤140737488355328)
  (h:QF P Qf ⟨QJ f d (.vec 0 site (g+1) 0 (n+ys.length) false),QJ fr site (.vec (g+1) sz (xs++ys)) :: m,ds⟩ K):QF P (⟨some d,.app sz bytes el s r,none⟩ :: Qf) ⟨f,fr :: m,ds⟩ K:=by
 refine⟨0,site,g,n,xs,ys,hs,hl,ht,by omega,?_,hz,hm,hb,?_⟩
 ·show Q4 (fr :: m) (r.ev f)=some ys;rw[hr];rfl
 ·subst hn;rw[QXm];exact h

theorem Qb {k:Nat}{args:List RA}{ys:List AV}{v:AV}(hk:Qj P k ys v)(hy:AV.stillL false m (args.map (RA.ev f))=some ys)(h1:AV.rfL ys=true)(h2:v.rf=true)(h3:AV.rfL (args.map (RA.ev f))=true∨v.nl=true)(h:QF P Qf ⟨QJ f d v,m,ds⟩ K) :
  QF P (⟨some d,.call (.f k) args,none⟩ :: Qf) ⟨f,m,ds⟩ K:=by
 refine⟨k,[],[],ys,v,rfl,?_,h1,hk,h2,?_,h⟩
 ·simpa using hy
 ·simpa using h3

theorem Nt {cnt:Bool}{k:Nat}{s c:RA}{t:List UInt8}{b:Int}(hs:s.ev f=.str t)(hb:c.ev f=.int .u8 b)(h:QF P Qf ⟨QJ f d (.int .i64 (HX cnt t b)),m,ds⟩ K):QF P (⟨some d,.xb cnt k s c,none⟩ :: Qf) ⟨f,m,ds⟩ K :=
 ⟨t,b,hs,hb,h⟩

theorem Zq {k:Nat}{args:List RA}{ys:List AV}{R:AV→Prop}(hk:WH P k ys R)(hy:AV.stillL false m (args.map (RA.ev f))=some ys)(h1:AV.rfL ys=true)(h2:∀v,R v→v.rf=true∧(AV.rfL (args.map (RA.ev f))=true∨v.nl=true))(h:∀v,R v→QF P Qf ⟨QJ f d v,m,ds⟩ K) :
  QF P (⟨some d,.callR (.f k) args,none⟩ :: Qf) ⟨f,m,ds⟩ K:=by
 refine⟨k,[],[],ys,R,rfl,?_,h1,hk,?_,h⟩
 ·simpa using hy
 ·simpa using h2

theorem DI {s:Nat}{r:RA}{fr:Nat→Ob}{t:List UInt8}(ht:r.ev f=.str t)(hn:fr s=.none)(h:QF P Qf ⟨QJ f d (.ptr 0 s 0),QJ fr s (.iter (.str t) 0) :: m,ds⟩ K) :
  QF P (⟨some d,.rngs s r,none⟩ :: Qf) ⟨f,fr :: m,ds⟩ K:=by
 refine⟨t,ht,?_,h⟩;show(match fr s with|.none=>true|_=>false)=true;rw[hn]

theorem DJ {s p:Nat}{r:RA}{fr:Nat→Ob}{t:List UInt8}(hr:r.ev f=.ptr 0 s 0)(hl:fr s=.iter (.str t) p)
  (h1:p<t.length→QF P Qf ⟨QJ f d (.tup [.bool true,.int .i64 (p:Nat),.int .i32 ((Xi t p).1:Nat)]),QJ fr s (.iter (.str t) (p+(Xi t p).2)) :: m,ds⟩ K)
  (h2:t.length≤p→QF P Qf ⟨QJ f d (.tup [.bool false]),fr :: m,ds⟩ K) :
  QF P (⟨some d,.nxts r,none⟩ :: Qf) ⟨f,fr :: m,ds⟩ K :=
 ⟨0,s,t,p,hr,hl,h1,h2⟩

theorem Qk {k:Nat}{args:List RA}{ys:List AV}{v:AV}{m':Qq}(hk:Qi P k ys m fun x m1=>x=v∧m1=m')(hy:args.map (RA.ev f)=ys)(h:QF P Qf ⟨QJ f d v,m',ds⟩ K) :
  QF P (⟨some d,.callF (.f k) args,none⟩ :: Qf) ⟨f,m,ds⟩ K:=by
 refine⟨k,[],[],v,m',rfl,?_,h⟩;show Qi P k (args.map (RA.ev f)++[]) m fun x m1=>x=v∧m1=m'
 rw[QWQ,hy];exact hk

theorem UG {site el sz bytes:Nat}{z:List AV}{l c:RA}{kl kc:IntKind}{n k:Nat}{fr:Nat→Ob}(hl:l.ev f=.int kl (n:Int))(hc:c.ev f=.int kc (k:Int))(hnk:n≤k)(hk:k≤9223372036854775807)(hb:bytes*k≤281474976710656)(hs:fr site=.none)
  (h:QF P Qf ⟨QJ f d (.vec 0 site 1 0 n false),QJ fr site (.vec 1 sz (List.replicate n (JH sz z))) :: m,ds⟩ K):QF P (⟨some d,.mk site el sz bytes z l c,none⟩ :: Qf) ⟨f,fr :: m,ds⟩ K:=by
 have e:Qg (fr :: m) 0 site=.none:=hs;refine⟨kl,kc,n,k,hl,hc,hnk,hk,hb,?_,?_⟩
 ·show Qv (Qg (fr :: m) 0 site)=true;rw[e];rfl
 ·have hg:QD (fr :: m) 0 site=1:=by unfold QD;rw[e]
  simp only[hg];exact h

theorem Ua {el:Nat}{s r:RA}{l site g n:Nat}{xs:List AV}{t:List UInt8}(hs:s.ev f=.vec l site g 0 n false)(hl:Qg m l site=.vec g 1 xs)(ht:XI site el=true)(hn:n=xs.length)(hr:r.ev f=.str t)(hm:n+t.length≤140737488355328)
  (h:QF P Qf ⟨QJ f d (.vec l site (g+1) 0 (n+t.length) false),Am.put m l site (.vec (g+1) 1 (xs++QB t)),ds⟩ K):QF P (⟨some d,.appS el s r,none⟩ :: Qf) ⟨f,m,ds⟩ K:=by
 subst hn;refine⟨l,site,g,_,xs,t,hs,hl,ht,QVL _,hr,hm,?_⟩;rw[QXm];exact h

theorem C0 {s:Nat}{a:RC}{fr:Nat→Ob}:QH P (.gho (.drop s) a) ⟨f,fr :: m,ds⟩ Q=((fr s).isRow=false∧QH P a ⟨fun i=>(f i).scrub s,QJ (fun i=>(fr i).scrub s) s .none :: m,ds.map (DF.scrub s)⟩ Q):=by
 apply propext
 have hn:Ym (fr :: m) s=!(fr s).isRow:=by
  unfold Ym;show(match fr s with|.vec .. => false|_=>true)=_;cases fr s<;>rfl
 constructor
 ·rintro⟨st',h1,h2⟩;simp only[Zy,hn]at h1;cases hr:(fr s).isRow with
  |true=>rw[hr]at h1;cases h1
  |false=>rw[hr]at h1;cases h1;exact⟨rfl,h2⟩
 ·rintro⟨h1,h2⟩;refine⟨_,?_,h2⟩;simp only[Zy,hn,h1];rfl
theorem C1 (s:Nat):AV.top.scrub s=.top:=id rfl
theorem C2 (s:Nat)(k:IntKind)(n:Int):(AV.int k n).scrub s=.int k n:=id rfl
theorem Vu (s:Nat)(b:Bool):(AV.bool b).scrub s=.bool b:=id rfl
theorem C3 (s:Nat)(b:List UInt8):(AV.str b).scrub s=.str b:=id rfl
theorem Vv (s:Nat):AV.nils.scrub s=.nils:=id rfl
theorem Vw (s:Nat):AV.nilp.scrub s=.nilp:=id rfl
theorem Vx (s:Nat):AV.nili.scrub s=.nili:=id rfl
theorem Vy (s:Nat):AV.nilf.scrub s=.nilf:=id rfl
theorem Vz (s:Nat)(l:List AV):(AV.list l).scrub s=.list l:=id rfl
theorem C4 (s l t g o n:Nat)(q:Bool):(AV.vec l t g o n q).scrub s=.vec l t g o n q:=id rfl
theorem C5 (s:Nat)(l:List AV):(AV.agg l).scrub s=.agg (AV.scrubL s l):=id rfl
theorem C6 (s:Nat)(l:List AV):(AV.tup l).scrub s=.tup (AV.scrubL s l):=id rfl
theorem C7 (s t o:Nat):(AV.ptr 0 t o).scrub s=bif Nat.beq t s then .top else .ptr 0 t o:=id rfl
theorem VA (s l t o:Nat):(AV.ptr (l+1) t o).scrub s=.ptr (l+1) t o:=id rfl
theorem C8 (s:Nat):AV.scrubL s []=[]:=id rfl
theorem VB (s:Nat)(x:AV)(l:List AV):AV.scrubL s (x :: l)=x.scrub s :: AV.scrubL s l:=id rfl
theorem Nd (s:Nat)(l:List AV):(Ob.cells l).scrub s=.cells (AV.scrubL s l):=id rfl
theorem C9 (s g z:Nat)(l:List AV):(Ob.vec g z l).scrub s=.vec g z l:=id rfl
theorem VC (s:Nat):Ob.none.scrub s=.none:=id rfl
theorem U5 (s:Nat)(o:Ob):(o.scrub s).isRow=o.isRow:=by cases o<;>rfl
theorem Nf (l:List AV):(Ob.cells l).isRow=false:=id rfl
theorem VD:Ob.none.isRow=false:=id rfl

def ZF (P:Program)(v:AV)(w:Bool)(d:Option Nat)(ro:RO)(Qf:List Item)(st:St)(K:St→Prop):Prop :=
 match v with
 |.bool b=>(b=w→QF P (⟨d,ro,none⟩ :: Qf) st K)∧(b=(!w)→QF P Qf { st with f:=Qo st.f d (.tup []) } K)
 |.tup l=>l=[]∧QF P Qf { st with f:=Qo st.f d (.tup []) } K
 |_=>False
theorem Xz {b:Bool}{d:Option Nat}{ro:RO}{st:St}(h1:b=true→QF P (⟨d,ro,none⟩ :: Qf) st K)(h2:b=false→QF P Qf { st with f:=Qo st.f d (.tup []) } K):ZF P (.bool b) true d ro Qf st K:=⟨h1,h2⟩
theorem XA {b:Bool}{d:Option Nat}{ro:RO}{st:St}(h1:b=false→QF P (⟨d,ro,none⟩ :: Qf) st K)(h2:b=true→QF P Qf { st with f:=Qo st.f d (.tup []) } K):ZF P (.bool b) false d ro Qf st K:=⟨h1,h2⟩
theorem Kt {d:Option Nat}{ro:RO}{st:St}:ZF P (.bool true) true d ro Qf st K=QF P (⟨d,ro,none⟩ :: Qf) st K:=by simp[ZF]
theorem FE {d:Option Nat}{ro:RO}{st:St}:ZF P (.bool false) false d ro Qf st K=QF P (⟨d,ro,none⟩ :: Qf) st K:=by simp[ZF]
theorem DK {ro:RO}:ZF P (.bool true) false (some d) ro Qf ⟨f,m,ds⟩ K=QF P Qf ⟨QJ f d (.tup []),m,ds⟩ K:=by simp[ZF,Qo]
theorem WK {ro:RO}:ZF P (.bool false) true (some d) ro Qf ⟨f,m,ds⟩ K=QF P Qf ⟨QJ f d (.tup []),m,ds⟩ K:=by simp[ZF,Qo]
theorem FF {ro:RO}{w:Bool}:ZF P (.tup []) w (some d) ro Qf ⟨f,m,ds⟩ K=QF P Qf ⟨QJ f d (.tup []),m,ds⟩ K:=by simp[ZF,Qo]
theorem H6 {ro:RO}{st:St}:ZF P (.bool true) false none ro Qf st K=QF P Qf st K:=by simp[ZF,Qo]
theorem H7 {ro:RO}{st:St}:ZF P (.bool false) true none ro Qf st K=QF P Qf st K:=by simp[ZF,Qo]
theorem DL {ro:RO}{w:Bool}{st:St}:ZF P (.tup []) w none ro Qf st K=QF P Qf st K:=by simp[ZF,Qo]
theorem U6 {ro:RO}{j:Nat}{w:Bool}{d:Option Nat}:QF P (⟨d,ro,some (j,w)⟩ :: Qf) ⟨f,m,ds⟩ K=ZF P (f j) w d ro Qf ⟨f,m,ds⟩ K:=by
 simp only[QF,XS,ZF]
 all_goals(generalize f j=v;cases v<;>rfl)

theorem FG {rs:List RR}{n:Nat}{R:AV→Qq→Prop}{fr:Nat→Ob}:Zi rs n R .ret ⟨f,fr :: m,ds⟩=(ds=[]∧X8 (Ko ⟨f,fr :: m,ds⟩ rs)∧X8 (K5 (fr :: m) (Xq (Ko ⟨f,fr :: m,ds⟩ rs)))∧m.length=n∧R (Xq (K5 (fr :: m) (Xq (Ko ⟨f,fr :: m,ds⟩ rs)))) m):=by
 apply propext
 constructor
 ·rintro⟨_,h1,x,y,fr',m',h2,h3,h4,h5,h6⟩;cases h4;have h1:ds=[]:=h1;rw[h2,ZE,h3];exact⟨h1,rfl,rfl,h5,h6⟩
 ·rintro⟨h1,h2,h3,h4,h5⟩;generalize hv:Ko ⟨f,fr :: m,ds⟩ rs=v at h2 h3 h5;cases v with
  |none=>cases h2
  |some x=>
   rw[ZE]at h3 h5;cases hl:K5 (fr :: m) x with
   |none=>rw[hl]at h3;cases h3
   |some y=>
    rw[hl]at h5;exact⟨.inr rfl,h1,x,y,fr,m,hv,hl,rfl,h4,h5⟩
theorem FH {rs:List RR}{n:Nat}{R:AV→Qq→Prop}{st:St}:Zi rs n R .normal st=Zi rs n R .ret st:=by
 simp[Zi]

theorem J8 {α:Type}(f:Nat→α)(d:Nat)(x:α)(i:Nat):QJ f d x i=bif Nat.beq i d then x else f i:=id rfl
theorem Jb (a b:Nat):Nat.beq a b=(a==b):=by
 cases h:Nat.beq a b with
 |true=>rw[QVJ h];simp
 |false=>have:=Nat.ne_of_beq_eq_false h;simp[this]
theorem JJ {s idx site sz:Nat}{a:RC}{fr:Nat→Ob}{xs:List AV}(h1:fr s=.cells xs)(h2:xs[idx]? = some .nils)(h3:fr site=.none)(hne:Nat.beq site s=false)(h:QH P a ⟨f,QJ (QJ fr site (.vec 1 sz [])) s (.cells (xs.set idx (.vec 0 site 1 0 0 false))) :: m,ds⟩ Q):QH P (.gho (.vecc s idx site sz) a) ⟨f,fr :: m,ds⟩ Q:=by
 refine⟨_,?_,h⟩;have e1:Qg (fr :: m) 0 s=.cells xs:=h1;have e:Qg (fr :: m) 0 site=.none:=h3;simp[Zy,e1,h2,e,Qv,QD,Am.put,hne]
theorem Dc {α:Type}(f:Nat→α)(d:Nat)(x y:α):QJ (QJ f d x) d y=QJ f d y:=by
 funext i;by_cases h:i=d
 ·subst h;rw[QR,QR]
 ·rw[QS _ _ h,QS _ _ h,QS _ _ h]
theorem FI {α:Type}(f:Nat→α)(d e:Nat)(x y:α)(hde:d≠e):QJ (QJ f d x) e y=QJ (QJ f e y) d x:=by
 funext i;by_cases h:i=d
 ·subst h;rw[QR,QS _ _ hde,QR]
 ·by_cases h2:i=e
  ·subst h2;rw[QR,QS _ _ h,QR]
  ·rw[QS _ _ h2,QS _ _ h,QS _ _ h,QS _ _ h2]
theorem Al {α:Type}(f:Nat→α)(d:Nat)(x:α)(h:f d=x):QJ f d x=f:=by
 funext i;by_cases hi:i=d
 ·subst hi;rw[QR,h]
 ·rw[QS _ _ hi]
theorem Ub (n:Nat):(RA.t n).ev f=f n:=id rfl
theorem DM (x:AV):(RA.c x).ev f=x:=id rfl
theorem e_f (k:Nat):(RA.f k).ev f=.fn (.func k) [] []:=id rfl

end

end Go.Proofs.YtipjfckmopekaaaGreatDoor.Am

namespace Go.Proofs.YtipjfckmopekaaaGreatDoor.Br
open Go Am Go.RowKit Go.WideShapes Go.ChangeShapes Go.ChangeAt

theorem FJ {P:Program}{k:FuncId}{args:List AV}{v:Bool}(h:Qj P k args (.bool v)){stab:Nat→Nat→Option SV}{w:World}(hs:∀b o u,stab b o=some u→rd w b o u){vs:List Value}(hr:RepL (Gh.bare stab) args vs) :
  Calls P k ⟨vs⟩ w fun e w'=>e=.returned (.bool v)∧Below w.heap.size w w' :=
 (h.2 (Gh.bare stab) w vs hr (MR.bare hs)).mono fun e w' ⟨G',x,u,m',he,hx,hu,_,hex,_⟩=>by
  subst hx;cases hu;exact⟨he,hex.os,hex.tape,hex.output,hex.size,fun b hb=>(hex.old b hb Gh.bare_mine).1⟩

theorem Qau {n:Int}(h:(Lit.int .i64 n).wf=true) : -9223372036854775808≤n:=by
 simp[Lit.wf,IntKind.min,IntKind.max,IntKind.bits,IntKind.signed]at h;omega
theorem Qav {n:Int}(h:(Lit.int .i64 n).wf=true):n<9223372036854775808:=by
 simp[Lit.wf,IntKind.min,IntKind.max,IntKind.bits,IntKind.signed]at h;omega
theorem FK {n:Int}(h:(Lit.int .u64 n).wf=true):0≤n:=by
 simp[Lit.wf,IntKind.min,IntKind.max,IntKind.bits,IntKind.signed]at h;omega
theorem H8 {n:Int}(h:(Lit.int .u64 n).wf=true):n<18446744073709551616:=by
 simp[Lit.wf,IntKind.min,IntKind.max,IntKind.bits,IntKind.signed]at h;omega

section
variable {H:Type}{ZV:TypeId×Value→H}{P:Program}
theorem D7 {f:Func}{s:ChangeSpec}{UE fresh handsOn again:Bool}{W W':World}{args:Array Value}{v:Value}{ds gs:List (DataW H)}{before pa pv:List MemPlace}
  (hW:DataW.Whole ZV P f.params.toList s.vars UE W args.toList ds gs before)
  (hres:∀(b:Nat) (sp:Nat→Bool) (hd:Bool),DataW.TrodAll ZV P W' b sp hd f.resultTypes.toList (v.resultList f.resultTypes.size) (s.fn H (ds++gs)).results [])
  (hargs:∀sp:Nat→Bool,(∀p∈before,sp p.block=true)→DataW.TrodAll ZV P W' 0 sp true f.params.toList args.toList (s.fn H (ds++gs)).args pa)
  (hvars:∀sp:Nat→Bool,(∀p∈before,sp p.block=true)→DataW.TrodVars ZV P W' sp s.vars (s.fn H (ds++gs)).vars pv)
  (hps:before=pa++pv) (hb:Below W.heap.size W W')
  (hok:∀(j:Nat) (t:TypeId) (r:Value),f.resultTypes[j]? = some t→(v.resultList f.resultTypes.size)[j]? = some r→Value.okWide P W' .any 0 t r) :
  s.post ZV P f UE fresh handsOn again W args v W':=by
 have hlt:∀p∈before,p.block<W.heap.size:=fun p hp=>hW.lt p hp
 have hold:∀p∈before,(fun b=>decide (b<W.heap.size)) p.block=true:=fun p hp=>by simpa using hlt p hp
 refine⟨ds,gs,before,[],pa,pv,hW,hres _ _ _,hargs _ hold,hvars _ hold,World.keptBut_mono (fun p hp=>⟨hp,?_⟩) (hb.frame (·∈before)),fun _=>?_⟩
 ·rw[hps,QW5]at hp;exact Or.inr hp
 ·obtain⟨_,_,_,_,_,hz,hn⟩:=hW;refine⟨hok,_,_,([]++pa)++pv,⟨[]++pa,pv,trodAll_append (hargs _ (fun _ _=>rfl)) (hres _ _ _),hvars _ (fun _ _=>rfl),rfl,?_,?_⟩,?_⟩
  ·intro b off hp;have hin:MemPlace.cell b off∈before:=by rw[hps];simpa using hp
   rw[hb.frozen (hlt _ hin)];exact hz b off hin
  ·intro ha;have:=hn ha;rw[hps]at this
   simpa using this
  ·intro p hp _;rw[hps]
   simpa using hp
end

end Go.Proofs.YtipjfckmopekaaaGreatDoor.Br

namespace Go.Proofs.YtipjfckmopekaaaGreatDoor.Am
open Go

variable {P:Program}{f:Fr}{m:Qq}{ds:List DF}{Qf:List Item}{d:Nat}

theorem Nu {Q:Exit→St→Prop}{a:RC}{slot site g sz n:Nat}{fr:Nat→Ob}{xs:List AV}(h1:f slot=.vec 0 site g 0 n false)(h2:fr site=.vec g sz xs)(hn:n≤xs.length)
  (h:QH P a ⟨QJ f slot (.list (xs.take n)),QJ fr site (.vec (g+1) sz []) :: m,ds⟩ Q):QH P (.gho (.pub slot site) a) ⟨f,fr :: m,ds⟩ Q:=by
 refine⟨_,?_,h⟩;have e:Qg (fr :: m) 0 site=.vec g sz xs:=h2;simp only[Zy,h1,e];rw[show Nat.beq site site=true from Nat.beq_refl site,show Nat.beq g g=true from Nat.beq_refl g,show Nat.ble (0+n) xs.length=true from Nat.ble_eq_true_of_le (by omega)];rfl

def Fa:List Nat→RC→RC
 | [],a=>a
 |s :: l,a=>.gho (.drop s) (Fa l a)
def VE:List Nat→AV→AV
 | [],x=>x
 |s :: l,x=>VE l (x.scrub s)
def H9:List Nat→Ob→Ob
 | [],x=>x
 |s :: l,x=>H9 l (x.scrub s)

theorem VF (l:List Nat):H9 l .none=.none:=by
 induction l with
 |nil=>rfl
 |cons s l ih=>exact ih

theorem QO {Q:Exit→St→Prop}{a:RC}(l:List Nat):∀ {f:Fr} {fr:Nat→Ob},(∀s∈l,(fr s).isRow=false)→
  (∀f' fr',(∀i,f' i=VE l (f i))→(∀i,i∉l→fr' i=H9 l (fr i))→(∀i∈l,fr' i=.none)→QH P a ⟨f',fr' :: m,[]⟩ Q)→QH P (Fa l a) ⟨f,fr :: m,[]⟩ Q:=by
 induction l with
 |nil=>intro f fr _ h;exact h f fr (fun _=>rfl) (fun _ _=>rfl) (fun _ h=>by cases h)
 |cons s l ih=>
  intro f fr hr h;show QH P (.gho (.drop s) (Fa l a)) _ _;rw[C0];refine⟨hr s (by simp),?_⟩;show QH P (Fa l a) ⟨_,_ :: m,[]⟩ Q;refine ih ?_ ?_
  ·intro t ht;by_cases e:t=s
   ·subst e;rw[QR];rfl
   ·rw[QS _ _ e,U5];exact hr t (by simp[ht])
  ·intro f' fr' h1 h2 h3;refine h f' fr' h1 ?_ ?_
   ·intro i hi;rw[h2 i (fun h=>hi (QV3 _ h)),QS _ _ (fun e=>hi (by rw[e];exact QV5))];rfl
   ·intro i hi;by_cases hl:i∈l
    ·exact h3 i hl
    ·have e:i=s:=by
      rcases QW9.1 hi with e|e
      ·exact e
      ·exact absurd e hl
     rw[h2 i hl,e,QR,VF]

def Xr:Ob→Nat
 |.vec g _ _=>g+1
 |_=>1

theorem JU {fr:Nat→Ob}{s:Nat}:QD (fr :: m) 0 s=Xr (fr s):=by
 unfold QD Xr;rfl

theorem Jp {K:St→Prop}{neg:Bool}{r:RA}{ys:List AV}(hr:r.ev f=.list ys)(h0:QF P Qf ⟨QJ f d (.bool neg),m,ds⟩ K)(h1:ys=[]∨QN ys=[]→QF P Qf ⟨QJ f d (.bool (!neg)),m,ds⟩ K):QF P (⟨some d,.isnil neg r,none⟩ :: Qf) ⟨f,m,ds⟩ K:=by
 refine⟨ys,?_,fun _=>h0,fun e=>h1 ?_⟩
 ·show Q4 m (r.ev f)=some ys;rw[hr];rfl
 ·rcases e with e|e
  ·have e:r.ev f=.nils:=e;rw[hr]at e;cases e
  ·exact .inr e

theorem ZL {K:St→Prop}{site sz:Nat}{fr:Nat→Ob}(hs:Qv (fr site)=true)
  (h:QF P Qf ⟨QJ f d (.vec 0 site (Xr (fr site)) 0 0 false),QJ fr site (.vec (Xr (fr site)) sz []) :: m,ds⟩ K):QF P (⟨some d,.bsl0 site sz,none⟩ :: Qf) ⟨f,fr :: m,ds⟩ K :=
 ⟨hs,h⟩

theorem DN {K:St→Prop}{site sz len:Nat}{z:List AV}{ps:List (Nat×Nat×RA)}{fr:Nat→Ob}{y:List AV}(hy:fill f ps (XC z sz len)=some y)(h1:AV.rfL y=true)(h2:y.all AV.leaf=true)(hs:Qv (fr site)=true)
  (h:QF P Qf ⟨QJ f d (.vec 0 site (Xr (fr site)) 0 len false),QJ fr site (.vec (Xr (fr site)) sz (XP sz len (y.map nn0))) :: m,ds⟩ K):QF P (⟨some d,.bslv site sz len z ps,none⟩ :: Qf) ⟨f,fr :: m,ds⟩ K :=
 ⟨y,hy,h1,h2,hs,h⟩

theorem Ga {K:St→Prop}{site sz:Nat}{z l:List AV}{r:RA}{fr:Nat→Ob}(hr:r.ev f=.agg l)(hl:l.length=sz)(h1:sz≠1)(hf:AV.rfL l=true)(hlf:l.all AV.leaf=true)(hs:Qv (fr site)=true)
  (h:QF P Qf ⟨QJ f d (.vec 0 site (Xr (fr site)) 0 1 false),QJ fr site (.vec (Xr (fr site)) sz [.agg (l.map nn0)]) :: m,ds⟩ K):QF P (⟨some d,.bslv site sz 1 z [(0,sz,r)],none⟩ :: Qf) ⟨f,fr :: m,ds⟩ K:=by
 have hz:(XC z sz 1).length=sz:=by simp[XC]
 have hy:fill f [(0,sz,r)] (XC z sz 1)=some l:=by
  simp only[fill,hr,AV.cells,hl,hlf,QWt,hz,QVL,and_self,if_true,splice,QWV,QWa];rw[QWo (by omega),QWQ]
 have hc:XP sz 1 (l.map nn0)=[.agg (l.map nn0)]:=by
  simp only[XP,QV1 h1];rw[QWl (by rw[QWI];omega)]
 refine DN hy hf hlf hs ?_;rw[hc];exact h

theorem X0 {Q:Exit→St→Prop}{a:RC}{slot site l S g sz o n:Nat}{q:Bool}{fr:Nat→Ob}{xs:List AV}(h1:f slot=.vec 0 site g o n q)(h2:fr site=.vec g sz xs)(hl:l<m.length)(hS:S<2000)(hr:Qv (Qg m l S)=true)
  (h:QH P a ⟨QJ f slot (.vec (l+1) S (QD m l S) o n q),QJ fr site (.vec (g+1) sz []) :: Am.put m l S (.vec (QD m l S) sz xs),ds⟩ Q):QH P (.gho (.give slot site (l+1) S) a) ⟨f,fr :: m,ds⟩ Q:=by
 refine⟨_,?_,h⟩;have e:Qg (fr :: m) 0 site=.vec g sz xs:=h2;have e1:Qv (Qg (fr :: m) (l+1) S)=true:=hr;have e2:QD (fr :: m) (l+1) S=QD m l S:=rfl;simp only[Zy,h1,e,e1,e2];rw[show Nat.beq site site=true from Nat.beq_refl site,show Nat.beq g g=true from Nat.beq_refl g,show Nat.blt (l+1) (fr :: m).length=true from Nat.ble_eq_true_of_le (by simp;omega),show Nat.blt S 2000=true from Nat.ble_eq_true_of_le hS];rfl

theorem FL {Q:Exit→St→Prop}{a:RC}{slot:Nat}(h1:f slot=.nils)(h:QH P a ⟨QJ f slot (.list []),m,ds⟩ Q):QH P (.gho (.lst slot) a) ⟨f,m,ds⟩ Q:=by
 refine⟨_,?_,h⟩;simp only[Zy,h1]

theorem XJ {K:St→Prop}{k:Nat}{r:RA}{args:List RA}{fa fb ys:List AV}{v:AV}{m':Qq}(hr:r.ev f=.fn (.func k) fa fb)(hk:Qi P k ys m fun x m1=>x=v∧m1=m')(hy:fa++args.map (RA.ev f)++fb=ys)(h:QF P Qf ⟨QJ f d v,m',ds⟩ K) :
  QF P (⟨some d,.callF r args,none⟩ :: Qf) ⟨f,m,ds⟩ K:=by
 refine⟨k,fa,fb,v,m',hr,?_,h⟩;show Qi P k (fa++args.map (RA.ev f)++fb) m fun x m1=>x=v∧m1=m'
 rw[hy];exact hk

theorem J9 {K:St→Prop}{k:Nat}{r:RA}{args:List RA}{fa fb ys:List AV}{v:AV}(hr:r.ev f=.fn (.func k) fa fb)(hk:Qj P k ys v)(hy:AV.stillL false m (fa++args.map (RA.ev f)++fb)=some ys)(h1:AV.rfL ys=true)(h2:v.rf=true)
  (h3:AV.rfL (fa++args.map (RA.ev f)++fb)=true∨v.nl=true) (h:QF P Qf ⟨QJ f d v,m,ds⟩ K):QF P (⟨some d,.call r args,none⟩ :: Qf) ⟨f,m,ds⟩ K :=
 ⟨k,fa,fb,ys,v,hr,hy,h1,hk,h2,h3,h⟩

end Go.Proofs.YtipjfckmopekaaaGreatDoor.Am

namespace Go.Proofs.YtipjfckmopekaaaGreatDoor.Am
open Go

abbrev FM:=FuncId→Option (RC×List RR×Nat)

def Gb (P:Program)(T:FM):Prop :=
 ∀k c rs N, T k=some (c, rs, N)→∃fn body, P.funcs[k]? = some fn∧fn.body=some body∧(fn.name == "runtime.NumGoroutine")=false∧fn.ntmps=N∧XZ P N c body=true∧Jw P fn.results.toList rs=true

abbrev KV:=FuncId→List AV→Qq→Option (AV×Qq)

def Gc:Ob→Ob→Bool
 |.cells [.vec l s g o n q],.cells [.vec l' s' g' o' n' q']=>Nat.beq l l'&&Nat.beq s s'&&Nat.beq g g'&&Nat.beq o o'&&Nat.beq n n'&&q==q'
 |_,_=>false
theorem Ma:∀ {a b:Ob},Gc a b=true→a=b:=by
 intro a b h;unfold Gc at h;split at h
 ·simp only[QWb,QVT]at h;obtain⟨⟨⟨⟨⟨h1,h2⟩,h3⟩,h4⟩,h5⟩,h6⟩:=h;rw[QVJ h1,QVJ h2,QVJ h3,QVJ h4,QVJ h5,h6]
 ·cases h

def Xw (call:KV)(d:Option Nat)(op:RO)(st:St):Option St :=
 match op with
 |.val vo=>match Qs st.f st.m vo with
  |some x=>some { st with f:=Qo st.f d x }
  |none=>none
 |.allocN s z=>bif XE st.m s then some { st with m:=Am.put st.m 0 s (.cells z),f:=Qo st.f d (.ptr 0 s 0) } else none
 |.boxN s r=>bif XE st.m s&&(r.ev st.f).cells.all AV.leaf then some { st with m:=Am.put st.m 0 s (.cells (r.ev st.f).cells),f:=Qo st.f d (.ptr 0 s 0) } else none
 |.store n p r=>bif Nat.beq (r.ev st.f).cells.length n&&(r.ev st.f).cells.all AV.leaf then match QV st.m (p.ev st.f) (r.ev st.f).cells with
   |some m'=>some { st with m:=m',f:=Qo st.f d (.tup []) }
   |none=>none
  else none
 |.storev l s n p r=>match p.ev st.f with
  |.ptr l' s' _=>bif Nat.beq l' l&&Nat.beq s' s&&Nat.beq (r.ev st.f).cells.length n&&(r.ev st.f).cells.all AV.leaf then match QV st.m (p.ev st.f) (r.ev st.f).cells with
    |some m'=>some { st with m:=m',f:=Qo st.f d (.tup []) }
    |none=>none
   else none
  |_=>none
 |.app sz bytes el s r=>match s.ev st.f with
  |.vec l site g 0 n false=>match Qg st.m l site with
   |.vec g' sz' xs=>match Q4 st.m (r.ev st.f)with
    |some ys=>bif Nat.beq g' g&&Nat.beq sz' sz&&XI site el&&Nat.ble n xs.length&&ys.all (fun e=>e.cells.length==sz)&&Nat.ble (n+ys.length) maxLen&&Nat.ble ((n+ys.length)*bytes) 140737488355328 then
      some { st with m:=Am.put st.m l site (.vec (g+1) sz (xs.take n++ys)),f:=Qo st.f d (.vec l site (g+1) 0 (n+ys.length) false) }
     else none
    |none=>none
   |_=>none
  |_=>none
 |.call f args=>match f.ev st.f with
  |.fn (.func k) fa fb=>match AV.stillL false st.m (fa++args.map (RA.ev st.f)++fb)with
   |some ys=>bif AV.rfL ys then match call k ys []with
     |some (v,_)=>bif v.rf&&(AV.rfL (fa++args.map (RA.ev st.f)++fb)||v.nl)then some { st with f:=Qo st.f d v } else none
     |none=>none
    else none
   |none=>none
  |_=>none
 |.callF f args=>match f.ev st.f with
  |.fn (.func k) fa fb=>match call k (fa++args.map (RA.ev st.f)++fb) st.m with
   |some (v,m')=>some { st with m:=m',f:=Qo st.f d v }
   |none=>none
  |_=>none
 |.bsl sz len z ps=>match fill st.f ps (XC z sz len)with
  |some y=>bif AV.rfL y&&y.all AV.leaf then some { st with f:=Qo st.f d (.list (XP sz len (y.map nn0))) } else none
  |none=>none
 |.bslv site sz len z ps=>match fill st.f ps (XC z sz len)with
  |some y=>bif AV.rfL y&&y.all AV.leaf&&Qv (Qg st.m 0 site)then some { st with m:=Am.put st.m 0 site (.vec (QD st.m 0 site) sz (XP sz len (y.map nn0))),f:=Qo st.f d (.vec 0 site (QD st.m 0 site) 0 len false) } else none
  |none=>none
 |.bsl0 site sz=>bif Qv (Qg st.m 0 site)then some { st with m:=Am.put st.m 0 site (.vec (QD st.m 0 site) sz []),f:=Qo st.f d (.vec 0 site (QD st.m 0 site) 0 0 false) } else none
 |.isnil neg r=>match r.ev st.f with
  |.nils=>some { st with f:=Qo st.f d (.bool (!neg)) }
  |.list l=>match QN l with
   |_ :: _=>some { st with f:=Qo st.f d (.bool neg) }
   | []=>none
  |_=>none
 |.callK l s f args=>match f.ev st.f with
  |.fn (.func k) fa fb=>match call k (fa++args.map (RA.ev st.f)++fb) st.m with
   |some (v,m')=>bif Gc (Qg m' l s) (Qg st.m l s)then some { st with m:=m',f:=Qo st.f d v } else none
   |none=>none
  |_=>none
 |.xb cnt _ s c=>match s.ev st.f,c.ev st.f with
  |.str t,.int .u8 b=>some { st with f:=Qo st.f d (.int .i64 (HX cnt t b)) }
  |_,_=>none
 |.callR f args=>match f.ev st.f with
  |.fn (.func k) fa fb=>match AV.stillL false st.m (fa++args.map (RA.ev st.f)++fb)with
   |some ys=>bif AV.rfL ys then match call k ys []with
     |some (v,_)=>bif v.rf&&(AV.rfL (fa++args.map (RA.ev st.f)++fb)||v.nl)then some { st with f:=Qo st.f d v } else none
     |none=>none
    else none
   |none=>none
  |_=>none
 |.rngs s r=>match r.ev st.f with
  |.str t=>bif XE st.m s then some { st with m:=Am.put st.m 0 s (.iter (.str t) 0),f:=Qo st.f d (.ptr 0 s 0) } else none
  |_=>none
 |.nxts r=>match r.ev st.f with
  |.ptr l s 0=>match Qg st.m l s with
   |.iter (.str t) p=>bif Nat.blt p t.length then some { st with m:=Am.put st.m l s (.iter (.str t) (p+(Xi t p).2)),f:=Qo st.f d (.tup [.bool true,.int .i64 (p:Nat),.int .i32 ((Xi t p).1:Nat)]) } else some { st with f:=Qo st.f d (.tup [.bool false]) }
   |_=>none
  |_=>none
 |.mkm s=>bif XE st.m s then some { st with m:=Am.put st.m 0 s (.iter (.mp [] []) 0),f:=Qo st.f d (.mptr 0 s) } else none
 |.mput x i v=>match x.ev st.f with
  |.mptr l s=>match Qg st.m l s with
   |.iter (.mp ks vs) p=>match i.ev st.f with
    |.str k=>bif (v.ev st.f).gr&&AV.grL vs&&Nat.beq ks.length vs.length then some { st with m:=Am.put st.m l s (.iter (.mp (XW k (v.ev st.f) ks vs).1 (XW k (v.ev st.f) ks vs).2) p),f:=Qo st.f d (.tup []) } else none
    |_=>none
   |_=>none
  |_=>none
 |.appS el s r=>match s.ev st.f,r.ev st.f with
  |.vec l site g 0 n false,.str t=>match Qg st.m l site with
   |.vec g' 1 xs=>bif Nat.beq g' g&&XI site el&&Nat.ble n xs.length&&Nat.ble (n+t.length) 140737488355328 then
     some { st with m:=Am.put st.m l site (.vec (g+1) 1 (xs.take n++QB t)),f:=Qo st.f d (.vec l site (g+1) 0 (n+t.length) false) }
    else none
   |_=>none
  |_,_=>none
 |.mk site _ sz bytes z l c=>match l.ev st.f,c.ev st.f with
  |.int _ (.ofNat n),.int _ (.ofNat k)=>bif Nat.ble n k&&Nat.ble k 9223372036854775807&&Nat.ble (bytes*k) 281474976710656&&Qv (Qg st.m 0 site)then
    some { st with m:=Am.put st.m 0 site (.vec (QD st.m 0 site) sz (List.replicate n (JH sz z))),f:=Qo st.f d (.vec 0 site (QD st.m 0 site) 0 n false) }
   else none
  |_,_=>none
 |.usd r=>match r.ev st.f with
  |.vec l s g 0 n false=>match Qg st.m l s with
   |.vec g' _ _=>bif Nat.beq g' g&&Nat.ble 2000 s then some { st with f:=Qo st.f d (if n=0 then .anyp else .vptr l s g 0 0) } else none
   |_=>none
  |_=>none
 |.ustr el p r=>match p.ev st.f,r.ev st.f with
  |.anyp,.int .i64 (.ofNat 0)=>some { st with f:=Qo st.f d (.str []) }
  |.vptr l s g 0 0,.int .i64 (.ofNat (n+1))=>match Qg st.m l s with
   |.vec g' 1 xs=>match bytesOf (xs.take (n+1))with
    |some t=>bif Nat.beq s (el+2000)&&Nat.beq g' g&&Nat.ble (n+1) xs.length&&isBytes (xs.take (n+1)) t then some { st with m:=Am.put st.m l (el+2000) (.vec (g+1) 1 []),f:=Qo st.f d (.str t) } else none
    |none=>none
   |_=>none
  |_,_=>none
where
  isBytes:List AV→List UInt8→Bool
  | [],[]=>true
  |.int .u8 (.ofNat n) :: l,b :: t=>Nat.beq n b.toNat&&isBytes l t
  |_,_=>false

def FN (call:KV)(it:Item)(st:St):Option St :=
 match it.g with
 |none=>Xw call it.dst it.op st
 |some (j,want)=>match st.f j with
  |.bool b=>bif b==want then Xw call it.dst it.op st else some { st with f:=Qo st.f it.dst (.tup []) }
  |.tup []=>some { st with f:=Qo st.f it.dst (.tup []) }
  |_=>none

def Ge (call:KV):List Item→St→Option St
 | [],st=>some st
 |it :: Qf,st=>match FN call it st with
  |some st'=>Ge call Qf st'
  |none=>none

def Gf (rs:List RR)(n:Nat)(r:Option (Exit×St)):Option (AV×Qq) :=
 match r with
 |some (.normal,st)=>fin st
 |some (.ret,st)=>fin st
 |_=>none
where
 fin (st:St):Option (AV×Qq):=match st.ds with
  | []=>match Ko st rs with
   |some x=>match K5 st.m x with
    |some y=>match st.m with
     |_ :: m=>bif Nat.beq m.length n then some (y,m)else none
     | []=>none
    |none=>none
   |none=>none
  |_=>none

def W8 (nat:KV)(T:FM)(body:RC→St→Option (Exit×St)):KV:=fun k args m=>
 match nat k args m with
 |some r=>some r
 |none=>match T k with
  |some (c,rs,N)=>bif Nat.ble args.length N then Gf rs m.length (body c (St.enter args m))else none
  |none=>none

def Z2 (nat:KV)(T:FM):Nat→RC→St→Option (Exit×St)
 |0,_,_=>none
 |n+1,c,st=>match c with
  |.skip=>some (.normal,st)
  |.reg Qf=>match Ge (W8 nat T (Z2 nat T n)) Qf st with
   |some st'=>some (.normal,st')
   |none=>none
  |.draw Qf=>match Ge (W8 nat T (Z2 nat T n)) Qf st with
   |some st'=>some (.normal,st')
   |none=>none
  |.seq a b=>match Z2 nat T n a st with
   |some (.normal,st')=>Z2 nat T n b st'
   |r=>r
  |.cond c a b=>match c.ev st.f with
   |.bool t=>bif t then Z2 nat T n a st else Z2 nat T n b st
   |_=>none
  |.block id a=>match Z2 nat T n a st with
   |some (.exit i,st')=>if i=id then some (.normal,st')else some (.exit i,st')
   |r=>r
  |.loop a=>match Z2 nat T n a st with
   |some (.normal,st')=>Z2 nat T n (.loop a) st'
   |r=>r
  |.exit id=>some (.exit id,st)
  |.scope a=>match Z2 nat T n a st with
   |some (.goto _,_)=>none
   |r=>r
  |.lab=>some (.normal,st)
  |.ret=>some (.ret,st)
  |.gho g a=>match Zy g st with
   |some st'=>Z2 nat T n a st'
   |none=>none
  |.no=>none

section
variable {P:Program}{T:FM}

def K7 (P:Program)(call:KV):Prop:=∀k args m v m',call k args m=some (v,m')→Qi P k args m fun x m1=>x=v∧m1=m'

theorem Gg:∀ {l:List AV} {t:List UInt8},Xw.isBytes l t=true→l=QB t
 | [],[],_=>rfl
 | [],_ :: _,h=>by simp[Xw.isBytes]at h
 |.int .u8 (.ofNat n) :: l,b :: t,h=>by
  simp only[Xw.isBytes,QWb]at h;rw[Gg h.2,QVJ h.1];rfl
 |x :: l,[],h=>by
  unfold Xw.isBytes at h;split at h<;>simp_all

theorem Nv {call:KV}(hc:K7 P call){d:Option Nat}{op:RO}{st st':St}(h:Xw call d op st=some st'){K:St→Prop}(hK:K st'):YW P d op st K:=by
 cases op with
 |val vo=>
  simp only[Xw]at h;split at h
  ·rename_i x hx;cases h;exact⟨x,hx,hK⟩
  ·cases h
 |allocN s z=>
  simp only[Xw]at h;cases h1:XE st.m s<;>rw[h1]at h<;>simp only[cond_true,cond_false,reduceCtorEq,QWc]at h;subst h;exact⟨h1,hK⟩
 |boxN s r=>
  simp only[Xw]at h;cases h1:(XE st.m s&&(r.ev st.f).cells.all AV.leaf)<;>rw[h1]at h<;>simp only[cond_true,cond_false,reduceCtorEq,QWc]at h;rw[QWb]at h1;subst h;exact⟨h1.1,h1.2,hK⟩
 |store n p r=>
  simp only[Xw]at h;cases h1:(Nat.beq (r.ev st.f).cells.length n&&(r.ev st.f).cells.all AV.leaf)<;>rw[h1]at h<;>simp only[cond_true,cond_false,reduceCtorEq]at h;rw[QWb]at h1;split at h
  ·rename_i m' hm;cases h;exact⟨QVJ h1.1,h1.2,m',hm,hK⟩
  ·cases h
 |storev l s n p r=>
  simp only[Xw]at h;split at h
  ·rename_i l' s' o hp;cases h1:(Nat.beq l' l&&Nat.beq s' s&&Nat.beq (r.ev st.f).cells.length n&&(r.ev st.f).cells.all AV.leaf)<;>rw[h1]at h<;>simp only[cond_true,cond_false,reduceCtorEq]at h;simp only[QWb]at h1;obtain⟨⟨⟨a1,a2⟩,a3⟩,a4⟩:=h1;have e1:=QVJ a1;have e2:=QVJ a2;subst e1 e2;split at h
   ·rename_i m' hm;cases h;exact⟨⟨o,hp⟩,QVJ a3,a4,m',hm,hK⟩
   ·cases h
  ·cases h
 |app sz bytes el s r=>
  simp only[Xw]at h;split at h
  ·rename_i l site g n hs;split at h
   ·rename_i g' sz' xs hl;split at h
    ·rename_i ys hy;cases h1:(Nat.beq g' g&&Nat.beq sz' sz&&XI site el&&Nat.ble n xs.length&&ys.all (fun e=>e.cells.length==sz)&&Nat.ble (n+ys.length) maxLen&&Nat.ble ((n+ys.length)*bytes) 140737488355328)<;>rw[h1]at h<;>simp only[cond_true,cond_false,reduceCtorEq,QWc]at h;simp only[QWb]at h1;obtain⟨⟨⟨⟨⟨⟨a1,a2⟩,a3⟩,a4⟩,a5⟩,a6⟩,a7⟩:=h1;have e1:=QVJ a1;have e2:=QVJ a2;subst e1 e2 h;exact⟨l,site,_,n,xs,ys,hs,hl,a3,QXf a4,hy,a5,QXf a6,QXf a7,hK⟩
    ·cases h
   ·cases h
  ·cases h
 |call f args=>
  simp only[Xw]at h;split at h
  ·rename_i k fa fb hf;split at h
   ·rename_i ys hy;cases h1:AV.rfL ys<;>rw[h1]at h<;>simp only[cond_true,cond_false,reduceCtorEq]at h;split at h
    ·rename_i v m' hv;cases h2:(v.rf&&(AV.rfL (fa++args.map (RA.ev st.f)++fb)||v.nl))<;>rw[h2]at h<;>simp only[cond_true,cond_false,reduceCtorEq,QWc]at h;rw[QWb,QVR]at h2;subst h;exact⟨k,fa,fb,ys,v,hf,hy,h1,(hc _ _ _ _ _ hv).mono (fun _ _ e=>e.1),h2.1,h2.2,hK⟩
    ·cases h
   ·cases h
  ·cases h
 |callF f args=>
  simp only[Xw]at h;split at h
  ·rename_i k fa fb hf;split at h
   ·rename_i v m' hv;cases h;exact⟨k,fa,fb,v,m',hf,hc _ _ _ _ _ hv,hK⟩
   ·cases h
  ·cases h
 |bsl sz len z ps=>
  simp only[Xw]at h;split at h
  ·rename_i y hy;cases h1:(AV.rfL y&&y.all AV.leaf)<;>rw[h1]at h<;>simp only[cond_true,cond_false,reduceCtorEq,QWc]at h;rw[QWb]at h1;subst h;exact⟨y,hy,h1.1,h1.2,hK⟩
  ·cases h
 |bslv site sz len z ps=>
  simp only[Xw]at h;split at h
  ·rename_i y hy;cases h1:(AV.rfL y&&y.all AV.leaf&&Qv (Qg st.m 0 site))<;>rw[h1]at h<;>simp only[cond_true,cond_false,reduceCtorEq,QWc]at h;simp only[QWb]at h1;subst h;exact⟨y,hy,h1.1.1,h1.1.2,h1.2,hK⟩
  ·cases h
 |bsl0 site sz=>
  simp only[Xw]at h;cases h1:Qv (Qg st.m 0 site)<;>rw[h1]at h<;>simp only[cond_true,cond_false,reduceCtorEq,QWc]at h;subst h;exact⟨h1,hK⟩
 |isnil neg r=>
  simp only[Xw]at h;split at h
  ·rename_i hr;cases h;exact⟨[],by rw[hr];rfl,fun e=>absurd hr e,fun _=>hK⟩
  ·rename_i l hr;split at h
   ·rename_i z zs hf;cases h;exact⟨l,by rw[hr];rfl,fun _=>hK,fun e=>by
     rcases e with e|e
     ·rw[hr]at e;cases e
     ·rw[hf]at e;cases e⟩
   ·cases h
  ·cases h
 |callK l s f args=>
  simp only[Xw]at h;split at h
  ·rename_i k fa fb hf;split at h
   ·rename_i v m' hv;cases he:Gc (Qg m' l s) (Qg st.m l s)<;>rw[he]at h<;>simp only[cond_true,cond_false,reduceCtorEq,QWc]at h;subst h;exact⟨k,fa,fb,v,m',hf,hc _ _ _ _ _ hv,Ma he,hK⟩
   ·cases h
  ·cases h
 |xb cnt k s c=>
  simp only[Xw]at h;split at h
  ·rename_i t b hs hb;cases h;exact⟨t,b,hs,hb,hK⟩
  ·cases h
 |callR f args=>
  simp only[Xw]at h;split at h
  ·rename_i k fa fb hf;split at h
   ·rename_i ys hy;cases h1:AV.rfL ys<;>rw[h1]at h<;>simp only[cond_true,cond_false,reduceCtorEq]at h;split at h
    ·rename_i v m' hv;cases h2:(v.rf&&(AV.rfL (fa++args.map (RA.ev st.f)++fb)||v.nl))<;>rw[h2]at h<;>simp only[cond_true,cond_false,reduceCtorEq,QWc]at h;rw[QWb,QVR]at h2;subst h;exact⟨k,fa,fb,ys,(· = v),hf,hy,h1,(hc _ _ _ _ _ hv).mono (fun _ _ e=>e.1),fun x hx=>by subst hx;exact h2,fun x hx=>by subst hx;exact hK⟩
    ·cases h
   ·cases h
  ·cases h
 |rngs s r=>
  simp only[Xw]at h;split at h
  ·rename_i t ht;cases h1:XE st.m s<;>rw[h1]at h<;>simp only[cond_true,cond_false,reduceCtorEq,QWc]at h;subst h;exact⟨t,ht,h1,hK⟩
  ·cases h
 |mkm s=>
  simp only[Xw]at h;cases h1:XE st.m s<;>rw[h1]at h<;>simp only[cond_true,cond_false,reduceCtorEq,QWc]at h;subst h;exact⟨h1,hK⟩
 |mput x i v=>
  simp only[Xw]at h;split at h
  ·rename_i l s hx;split at h
   ·rename_i ks vs p hl;split at h
    ·rename_i k hi;cases h1:((v.ev st.f).gr&&AV.grL vs&&Nat.beq ks.length vs.length)<;>rw[h1]at h<;>simp only[cond_true,cond_false,reduceCtorEq,QWc]at h;subst h;simp only[QWb]at h1;exact⟨l,s,ks,vs,p,k,hx,hl,hi,h1.1.1,h1.1.2,QVJ h1.2,hK⟩
    ·cases h
   ·cases h
  ·cases h
 |nxts r=>
  simp only[Xw]at h;split at h
  ·rename_i l s hr;split at h
   ·rename_i t p hl;refine⟨l,s,t,p,hr,hl,fun e=>?_,fun e=>?_⟩
    ·have hb:Nat.blt p t.length=true:=by simp[Nat.blt_eq,e]
     rw[hb]at h;cases h;exact hK
    ·have hb:Nat.blt p t.length=false:=by
      cases hb:Nat.blt p t.length with
      |false=>rfl
      |true=>rw[Nat.blt_eq]at hb;omega
     rw[hb]at h;cases h;exact hK
   ·cases h
  ·cases h
 |appS el s r=>
  simp only[Xw]at h;split at h
  ·rename_i l site g n t hs hr;split at h
   ·rename_i g' xs hl;cases h1:(Nat.beq g' g&&XI site el&&Nat.ble n xs.length&&Nat.ble (n+t.length) 140737488355328)<;>rw[h1]at h<;>simp only[cond_true,cond_false,reduceCtorEq,QWc]at h;simp only[QWb]at h1;obtain⟨⟨⟨a1,a2⟩,a3⟩,a4⟩:=h1;have e1:=QVJ a1;subst e1 h;exact⟨l,site,_,n,xs,t,hs,hl,a2,QXf a3,hr,QXf a4,hK⟩
   ·cases h
  ·cases h
 |mk site el sz bytes z l c=>
  simp only[Xw]at h;split at h
  ·rename_i kl n kc k hl hcc;cases h1:(Nat.ble n k&&Nat.ble k 9223372036854775807&&Nat.ble (bytes*k) 281474976710656&&Qv (Qg st.m 0 site))<;>rw[h1]at h<;>simp only[cond_true,cond_false,reduceCtorEq,QWc]at h;simp only[QWb]at h1;obtain⟨⟨⟨a1,a2⟩,a3⟩,a4⟩:=h1;subst h;exact⟨kl,kc,n,k,hl,hcc,QXf a1,QXf a2,QXf a3,a4,hK⟩
  ·cases h
 |usd r=>
  simp only[Xw]at h;split at h
  ·rename_i l s g n hr;split at h
   ·rename_i g' sz xs hl;cases h1:(Nat.beq g' g&&Nat.ble 2000 s)<;>rw[h1]at h<;>simp only[cond_true,cond_false,reduceCtorEq,QWc]at h;simp only[QWb]at h1;have e1:=QVJ h1.1;subst e1 h;exact⟨l,s,_,n,sz,xs,QXf h1.2,hr,hl,hK⟩
   ·cases h
  ·cases h
 |ustr el p r=>
  simp only[Xw]at h;split at h
  ·rename_i hp hr;cases h;exact .inl ⟨hp,hr,hK⟩
  ·rename_i l s g n hp hr;split at h
   ·rename_i g' xs hl;split at h
    ·rename_i t ht;cases h1:(Nat.beq s (el+2000)&&Nat.beq g' g&&Nat.ble (n+1) xs.length&&Xw.isBytes (xs.take (n+1)) t)<;>rw[h1]at h<;>simp only[cond_true,cond_false,reduceCtorEq,QWc]at h;simp only[QWb]at h1;obtain⟨⟨⟨a1,a2⟩,a3⟩,a4⟩:=h1;have e1:=QVJ a1;have e2:=QVJ a2;subst e1 e2 h;exact .inr ⟨l,_,n+1,xs,t,hp,hr,hl,QXf a3,Nat.succ_ne_zero n,Gg a4,hK⟩
    ·cases h
   ·cases h
  ·cases h

theorem Mb {call:KV}(hc:K7 P call){it:Item}{st st':St}(h:FN call it st=some st'){K:St→Prop}(hK:K st'):XS P it st K:=by
 obtain⟨d,op,g⟩:=it;cases g with
 |none=>exact Nv (d:=d) hc h hK
 |some p=>
  obtain⟨j,want⟩:=p;simp only[FN]at h;simp only[XS];split at h
  ·rename_i b hj;simp only[hj];cases hb:(b==want)with
   |true=>
    rw[hb]at h;have e:b=want:=by simpa using hb
    exact⟨fun _=>Nv hc h hK,fun e'=>by rw[e]at e';cases want<;>cases e'⟩
   |false=>
    rw[hb]at h;simp only[cond_false,QWc]at h;subst h;exact⟨fun e=>by rw[e]at hb;simp at hb,fun _=>hK⟩
  ·rename_i hj;cases h;simp only[hj];exact⟨trivial,hK⟩
  ·cases h

theorem Hr {call:KV}(hc:K7 P call):∀ {Qf:List Item} {st st':St},Ge call Qf st=some st'→∀ {K:St→Prop},K st'→QF P Qf st K
 | [],_,_,h,_,hK=>by cases h;exact hK
 |it :: Qf,st,st',h,K,hK=>by
  simp only[Ge]at h;split at h
  ·rename_i st1 h1;exact Mb hc h1 (Hr hc h hK)
  ·cases h

theorem P2 {rs:List RR}{n:Nat}{r:Option (Exit×St)}{v:AV}{m':Qq}(h:Gf rs n r=some (v,m')):∃e st,r=some (e,st)∧Zi rs n (fun x m1=>x=v∧m1=m') e st:=by
 have fin:∀ {e:Exit} {st:St},(e=.normal∨e=.ret)→Gf.fin rs n st=some (v,m')→Zi rs n (fun x m1=>x=v∧m1=m') e st:=by
  intro e st he h;unfold Gf.fin at h;split at h
  ·rename_i hds;split at h
   ·rename_i x hx;split at h
    ·rename_i y hy;split at h
     ·rename_i fr m hm;cases hb:Nat.beq m.length n with
      |false=>rw[hb]at h;cases h
      |true=>
       rw[hb]at h;simp only[cond_true,QWc,Prod.mk.injEq]at h;exact⟨he,hds,x,y,fr,m,hx,hy,hm,QVJ hb,h.1,h.2⟩
     ·cases h
    ·cases h
   ·cases h
  ·cases h
 unfold Gf at h;split at h
 ·exact⟨_,_,rfl,fin (.inl rfl) h⟩
 ·exact⟨_,_,rfl,fin (.inr rfl) h⟩
 ·cases h

theorem WL {nat:KV}(hN:K7 P nat)(hT:Gb P T){body:RC→St→Option (Exit×St)}(hb:∀c st e st',body c st=some (e,st')→∀Q:Exit→St→Prop,Q e st'→QH P c st Q):K7 P (W8 nat T body):=by
 intro k args m v m' h;unfold W8 at h;split at h
 ·rename_i r hr;cases h;exact hN _ _ _ _ _ hr
 split at h
 ·rename_i c rs N hk;cases hN:Nat.ble args.length N with
  |false=>rw[hN]at h;cases h
  |true=>
   rw[hN]at h;simp only[cond_true]at h;obtain⟨e,st,h1,h2⟩:=P2 h;obtain⟨fn,cd,a1,a2,a3,a4,a5,a6⟩:=hT k c rs N hk;exact YX a1 a2 a3 a4 a5 a6 (QXf hN) (hb _ _ _ _ h1 _ h2)
 ·cases h

theorem Mc {nat:KV}(hN:K7 P nat)(hT:Gb P T):∀(n:Nat) (c:RC) (st:St) (e:Exit) (st':St),Z2 nat T n c st=some (e,st')→∀Q:Exit→St→Prop,Q e st'→QH P c st Q:=by
 intro n
 induction n using Nat.strongRecOn with
 |_ n ihs=>
 cases n with
 |zero=>intro c st e st' h;cases h
 |succ n=>
  intro c st e st' h Q hQ;have ih:=ihs n (Nat.lt_succ_self n);cases c with
  |skip=>cases h;exact hQ
  |reg Qf=>
   simp only[Z2]at h;split at h
   ·rename_i st1 h1;cases h;exact Hr (WL hN hT ih) h1 hQ
   ·cases h
  |draw Qf=>
   simp only[Z2]at h;split at h
   ·rename_i st1 h1;cases h;exact Hr (WL hN hT ih) h1 hQ
   ·cases h
  |seq a b=>
   simp only[Z2]at h;split at h
   ·rename_i st1 h1;exact ih _ _ _ _ h1 _ (ih _ _ _ _ h Q hQ)
   ·rename_i h1;refine ih _ _ _ _ h _ ?_;cases e with
    |normal=>exact absurd h (h1 st')
    |_=>exact hQ
  |cond c a b=>
   simp only[Z2]at h;split at h
   ·rename_i t ht;cases t with
    |true=>exact⟨true,ht,fun _=>ih _ _ _ _ h Q hQ,(fun e=>by cases e)⟩
    |false=>exact⟨false,ht,(fun e=>by cases e),fun _=>ih _ _ _ _ h Q hQ⟩
   ·cases h
  |block id a=>
   simp only[Z2]at h;split at h
   ·rename_i i st1 h1;refine ih _ _ _ _ h1 _ ?_;show if i=id then Q .normal st1 else Q (.exit i) st1
    split at h
    ·rename_i hi;cases h;rw[QWg hi];exact hQ
    ·rename_i hi;cases h;rw[QV1 hi];exact hQ
   ·rename_i h1;refine ih _ _ _ _ h _ ?_;cases e with
    |exit i=>exact absurd h (h1 i st')
    |_=>exact hQ
  |loop a=>
   refine⟨fun k s=>k≤n∧Z2 nat T (k+1) (.loop a) s=some (e,st'),n,⟨QVL _,h⟩,fun k s hh=>?_⟩;obtain⟨hk,hs⟩:=hh;simp only[Z2]at hs;split at hs
   ·rename_i st1 h1;refine ihs k (by omega) _ _ _ _ h1 _ ?_;show ∃j,j<k∧j≤n∧Z2 nat T (j+1) (.loop a) st1=some (e,st');cases k with
    |zero=>cases h1
    |succ j=>exact⟨j,Nat.lt_succ_self j,by omega,hs⟩
   ·rename_i h1;refine ihs k (by omega) _ _ _ _ hs _ ?_;cases e with
    |normal=>exact absurd hs (h1 st')
    |_=>exact hQ
  |exit id=>cases h;exact hQ
  |scope a=>
   simp only[Z2]at h;split at h
   ·cases h
   ·rename_i h1;refine ih _ _ _ _ h _ ?_;cases e with
    |goto i=>exact absurd h (h1 i st')
    |_=>exact hQ
  |lab=>cases h;exact hQ
  |ret=>cases h;exact hQ
  |gho g a=>
   simp only[Z2]at h;split at h
   ·rename_i st1 h1;exact⟨st1,h1,ih _ _ _ _ h Q hQ⟩
   ·cases h
  |no=>cases h

def evT (nat:KV)(T:FM)(n:Nat)(k:FuncId)(args:List AV):Bool :=
 match W8 nat T (Z2 nat T n) k args []with
 |some (.bool true,_)=>true
 |_=>false

theorem VG {nat:KV}(hN:K7 P nat)(hT:Gb P T){n:Nat}{k:FuncId}{args:List AV}(h:evT nat T n k args=true):Qj P k args (.bool true):=by
 unfold evT at h;split at h
 ·rename_i m' h1;exact(WL hN hT (Mc hN hT n) _ _ _ _ _ h1).mono fun _ _ e=>e.1
 ·cases h

end

set_option linter.defProp false in
def Qa:=(QXn (QXn (QXn (QXn (QXn (QXn (QXn (QXn @Am.Yt @Am.Ys) (QXn @Am.CM @Am.J5)) (QXn (QXn @Am.ZD @Am.CP) (QXn @Am.CQ (QXn @Am.Nq @Am.Nr)))) (QXn (QXn (QXn @Am.W7 @Am.R2) (QXn @Am.R3 @Am.CL)) (QXn (QXn @Am.CR @Am.H5) (QXn @Am.CS (QXn @Am.CU @Am.CV))))) (QXn (QXn (QXn (QXn @Am.CW @Am.CX) (QXn @Am.CY @Am.CZ)) (QXn (QXn @Am.KF @Am.CO) (QXn @Am.R4 (QXn @Am.DM @Am.Ub)))) (QXn (QXn (QXn @Am.e_f @Am.J7) (QXn @Am.ZE @Am.J6)) (QXn (QXn @Am.J8 @Am.U6) (QXn @Am.Kt (QXn @Am.FE @Am.DK)))))) (QXn (QXn (QXn (QXn (QXn @Am.WK @Am.FF) (QXn @Am.H6 @Am.H7)) (QXn (QXn @Am.DL @Am.Yu) (QXn @Am.Kr (QXn @Am.FG @Am.FH)))) (QXn (QXn (QXn @Am.Jb @Am.Qs.eq_1) (QXn @Am.Qs.eq_2 @Am.Qs.eq_3)) (QXn (QXn @Am.Qs.eq_4 @Am.Qs.eq_5) (QXn @Am.Qs.eq_6 (QXn @Am.Qs.eq_7 @Am.Qs.eq_8))))) (QXn (QXn (QXn (QXn @Am.Qs.eq_9 @Am.Qs.eq_10) (QXn @Am.Qs.eq_11 @Am.Qs.eq_12)) (QXn (QXn @Am.Qs.eq_13 @Am.Qs.eq_14) (QXn @Am.Qs.eq_15 (QXn @Am.Qs.eq_16 @Am.Qs.eq_17)))) (QXn (QXn (QXn @Am.Qs.eq_18 @Am.Qs.eq_19) (QXn @Am.Qs.eq_20 @Am.Qs.eq_21)) (QXn (QXn @Am.Qs.eq_22 @Am.Qs.eq_23) (QXn @Am.Qs.eq_24 (QXn @Am.Qs.eq_25 @Am.Qs.eq_26))))))) (QXn (QXn (QXn (QXn (QXn (QXn @Am.Qs.eq_27 @Am.Qs.eq_28) (QXn @Am.Qs.eq_29 @Am.Qs.eq_30)) (QXn (QXn @Am.Qs.eq_31 @Am.Qs.eq_32) (QXn @Am.Qs.eq_1 (QXn @Am.Qs.eq_1 @Am.Qs.eq_1)))) (QXn (QXn (QXn @Am.QU.eq_1 @Am.QU.eq_2) (QXn @Am.QU.eq_3 @Am.QU.eq_4)) (QXn (QXn @Am.QU.eq_5 @Am.QU.eq_6) (QXn @Am.QU.eq_7 (QXn @Am.QU.eq_8 @Am.QU.eq_9))))) (QXn (QXn (QXn (QXn @Am.QU.eq_10 @Am.QU.eq_11) (QXn @Am.QU.eq_12 @Am.QU.eq_13)) (QXn (QXn @Am.QU.eq_14 @Am.QU.eq_15) (QXn @Am.QU.eq_16 (QXn @Am.QU.eq_17 @Am.Q0.eq_1)))) (QXn (QXn (QXn @Am.Q0.eq_2 @Am.Q0.eq_3) (QXn @Am.Q0.eq_4 @Am.Q0.eq_5)) (QXn (QXn @Am.Q0.eq_6 @Am.Q0.eq_7) (QXn @Am.Q0.eq_8 (QXn @Am.Q0.eq_9 @Am.Q0.eq_10)))))) (QXn (QXn (QXn (QXn (QXn @Am.Q0.eq_11 @Am.Q0.eq_12) (QXn @Am.Q0.eq_13 @Am.Q0.eq_14)) (QXn (QXn @Am.Q0.eq_15 @Am.Q0.eq_16) (QXn @Am.Y0.eq_1 (QXn @Am.Y0.eq_2 @Am.Y0.eq_3)))) (QXn (QXn (QXn @Am.Y0.eq_4 @cond_true.{0}) (QXn @cond_true.{1} @cond_false.{0})) (QXn (QXn @cond_false.{1} @QWE) (QXn @and_true (QXn @QWP.{0} @QWT.{0}))))) (QXn (QXn (QXn (QXn @List.getElem?_nil.{0} @QWX.{0}) (QXn @QXl.{0} @Am.St.enter.eq_1)) (QXn (QXn @Am.Fl.eq_1 @Am.AV.shL.eq_1) (QXn @Am.AV.shL.eq_2 (QXn @Am.AV.sh.eq_1 @Am.AV.sh.eq_2)))) (QXn (QXn (QXn @Am.AV.sh.eq_3 @Am.AV.sh.eq_4) (QXn @Am.AV.sh.eq_5 @Am.AV.sh.eq_6)) (QXn (QXn @Am.AV.sh.eq_7 @Am.AV.sh.eq_8) (QXn @Am.AV.sh.eq_9 (QXn @Am.Ko.eq_1 @Am.Ko.eq_2)))))))) (QXn (QXn (QXn (QXn (QXn (QXn (QXn @Am.RR.ev.eq_1 @Am.RR.ev.eq_2) (QXn @Am.RR.evL.eq_1 @Am.RR.evL.eq_2)) (QXn (QXn @Am.K5.eq_1 @Am.AV.still.eq_1) (QXn @Am.AV.still.eq_2 (QXn @Am.AV.still.eq_3 @Am.AV.still.eq_4)))) (QXn (QXn (QXn @Am.AV.still.eq_5 @Am.AV.still.eq_6) (QXn @Am.AV.still.eq_7 @Am.AV.still.eq_8)) (QXn (QXn @Am.AV.stillL.eq_1 @Am.AV.stillL.eq_2) (QXn @Am.AV.un.eq_1 (QXn @Am.AV.un.eq_2 @Am.AV.un.eq_3))))) (QXn (QXn (QXn (QXn @Am.AV.un.eq_4 @Am.AV.un.eq_5) (QXn @Am.AV.un.eq_6 @Am.AV.un.eq_7)) (QXn (QXn @Am.AV.un.eq_8 @Am.AV.un.eq_9) (QXn @Am.AV.un.eq_10 (QXn @Am.AV.un.eq_11 @Am.AV.un.eq_12)))) (QXn (QXn (QXn @Am.AV.un.eq_13 @Am.AV.unL.eq_1) (QXn @Am.AV.unL.eq_2 @Option.bind_some.{0,0})) (QXn (QXn @QWD.{0,0} @if_true.{0}) (QXn @if_true.{1} (QXn @if_false.{0} @if_false.{1})))))) (QXn (QXn (QXn (QXn (QXn @QV6 @Go.IntKind.bits.eq_1) (QXn @Go.IntKind.bits.eq_2 @Go.IntKind.bits.eq_3)) (QXn (QXn @Go.IntKind.bits.eq_4 @Go.IntKind.bits.eq_5) (QXn @Go.IntKind.bits.eq_6 (QXn @Go.IntKind.bits.eq_7 @Go.IntKind.bits.eq_8)))) (QXn (QXn (QXn @QWJ.{0} @QV2.{0}) (QXn @QXo @QW0)) (QXn (QXn @forall_const.{1} @not_true_eq_false) (QXn @not_false_eq_true (QXn @Am.Dc @QXp))))) (QXn (QXn (QXn (QXn @QWU @Am.Wl.eq_1) (QXn @ne_eq.{1} @Nat.one_ne_zero)) (QXn (QXn @decide_true @decide_false) (QXn @Am.Ak (QXn @Am.P0 @Am.Qar)))) (QXn (QXn (QXn @Am.P1 @Am.Qas) (QXn @Am.Qaq @Am.Qxz)) (QXn (QXn @Am.XE.eq_1 @Am.AV.unNL.eq_1) (QXn @Am.AV.unNL.eq_2 (QXn @Am.AV.unNL_zero @Am.AV.shNL.eq_1))))))) (QXn (QXn (QXn (QXn (QXn (QXn @Am.AV.shNL.eq_2 @Am.AV.shN.eq_1) (QXn @Am.AV.shN.eq_2 @Am.splice.eq_1)) (QXn (QXn @Am.part.eq_1 @Am.part.eq_2) (QXn @Am.fill.eq_1 (QXn @Am.fill.eq_2 @Am.AV.leaf.eq_1)))) (QXn (QXn (QXn @Am.AV.leaf.eq_2 @Am.AV.leaf.eq_3) (QXn @Am.AV.leaf.eq_4 @QWY.{0})) (QXn (QXn @QWZ.{0} @QWk.{0}) (QXn @QWV.{0} (QXn @List.take_nil.{0} @QWn.{0}))))) (QXn (QXn (QXn (QXn @QWu.{0} @QW1.{0}) (QXn @QWa.{0} @QV9.{0})) (QXn (QXn @QWQ.{0} @Am.Qe.eq_1) (QXn @and_self (QXn @Am.ZB.eq_1 @Am.ZB.eq_2)))) (QXn (QXn (QXn @Am.ZB.eq_3 @Am.ZB.eq_4) (QXn @Am.ZB.eq_5 @Am.ZB.eq_6)) (QXn (QXn @Am.ZJ.eq_1 @Am.ZJ.eq_2) (QXn @Am.Q5.eq_1 (QXn @Am.Q5.eq_2 @Am.Q5.eq_3)))))) (QXn (QXn (QXn (QXn (QXn @Am.Q5.eq_4 @Am.Q5.eq_5) (QXn @Am.Q5.eq_6 @Am.Q5.eq_7)) (QXn (QXn @Am.UZ.eq_1 @Am.UZ.eq_2) (QXn @Am.UZ.eq_3 (QXn @Am.HJ.eq_1 @Am.HJ.eq_2)))) (QXn (QXn (QXn @Am.HJ.eq_3 @Am.HJ.eq_4) (QXn @Am.QKy @Am.C0)) (QXn (QXn @Am.C1 @Am.C2) (QXn @Am.Vu (QXn @Am.C3 @Am.Vv))))) (QXn (QXn (QXn (QXn @Am.Vw @Am.Vx) (QXn @Am.Vy @Am.Vz)) (QXn (QXn @Am.C4 @Am.C5) (QXn @Am.C6 (QXn @Am.C7 @Am.VA)))) (QXn (QXn (QXn @Am.C8 @Am.VB) (QXn @Am.Nd @Am.C9)) (QXn (QXn @Am.VC @Am.U5) (QXn @Am.Nf (QXn @Am.VD @QWO.{0,0})))))))))

set_option linter.defProp false in
def eEX:=(QXn (QXn (QXn @Am.QV.eq_1 (QXn @Am.QV.eq_2 @Am.QV.eq_3)) (QXn (QXn @Am.Q9.eq_1 @Am.Q9.eq_2) (QXn @Am.Q9.eq_3 @Am.Q9.eq_4))) (QXn (QXn (QXn @Am.Qg.eq_1 @Am.Qg.eq_2) (QXn @Am.Qg.eq_3 @Am.put.eq_1)) (QXn (QXn @Am.put.eq_2 @Am.put.eq_3) (QXn @Am.AV.cells.eq_1 @Am.AV.cells.eq_2))))

set_option linter.defProp false in
def eE := QXn Qa eEX

set_option linter.defProp false in
def Ka:=(QXn (QXn (QXn (QXn (QXn (QXn (QXn @Am.Yt (QXn @Am.Ys @Am.CM)) (QXn @Am.J5 (QXn @Am.ZD @Am.CP))) (QXn (QXn @Am.CQ (QXn @Am.Nq @Am.Nr)) (QXn @Am.W7 (QXn @Am.R2 @Am.R3)))) (QXn (QXn (QXn @Am.CL (QXn @Am.CR @Am.H5)) (QXn @Am.CS (QXn @Am.CU @Am.CV))) (QXn (QXn @Am.CW (QXn @Am.CX @Am.CY)) (QXn @Am.CZ (QXn @Am.KF @Am.CO))))) (QXn (QXn (QXn (QXn @Am.R4 (QXn @Am.DM @Am.Ub)) (QXn @Am.e_f (QXn @Am.J7 @Am.ZE))) (QXn (QXn @Am.J6 (QXn @Am.J8 @Am.U6)) (QXn @Am.Kt (QXn @Am.FE @Am.DK)))) (QXn (QXn (QXn @Am.WK (QXn @Am.FF @Am.H6)) (QXn @Am.H7 (QXn @Am.DL @Am.Yu))) (QXn (QXn @Am.Kr (QXn @Am.FG @Am.FH)) (QXn (QXn @Am.Jb @Am.Qs.eq_1) (QXn @Am.Qs.eq_2 @Am.Qs.eq_3)))))) (QXn (QXn (QXn (QXn (QXn @Am.Qs.eq_4 (QXn @Am.Qs.eq_5 @Am.Qs.eq_6)) (QXn @Am.Qs.eq_7 (QXn @Am.Qs.eq_8 @Am.Qs.eq_9))) (QXn (QXn @Am.Qs.eq_10 (QXn @Am.Qs.eq_11 @Am.Qs.eq_12)) (QXn @Am.Qs.eq_13 (QXn @Am.Qs.eq_14 @Am.Qs.eq_15)))) (QXn (QXn (QXn @Am.Qs.eq_16 (QXn @Am.Qs.eq_17 @Am.Qs.eq_18)) (QXn @Am.Qs.eq_19 (QXn @Am.Qs.eq_20 @Am.Qs.eq_21))) (QXn (QXn @Am.Qs.eq_22 (QXn @Am.Qs.eq_23 @Am.Qs.eq_24)) (QXn @Am.Qs.eq_25 (QXn @Am.Qs.eq_26 @Am.Qs.eq_27))))) (QXn (QXn (QXn (QXn @Am.Qs.eq_28 (QXn @Am.Qs.eq_29 @Am.Qs.eq_30)) (QXn @Am.Qs.eq_31 (QXn @Am.Qs.eq_32 @Am.Qs.eq_1))) (QXn (QXn @Am.Qs.eq_1 (QXn @Am.Qs.eq_1 @Am.QU.eq_1)) (QXn @Am.QU.eq_2 (QXn @Am.QU.eq_3 @Am.QU.eq_4)))) (QXn (QXn (QXn @Am.QU.eq_5 (QXn @Am.QU.eq_6 @Am.QU.eq_7)) (QXn @Am.QU.eq_8 (QXn @Am.QU.eq_9 @Am.QU.eq_10))) (QXn (QXn @Am.QU.eq_11 (QXn @Am.QU.eq_12 @Am.QU.eq_13)) (QXn (QXn @Am.QU.eq_14 @Am.QU.eq_15) (QXn @Am.QU.eq_16 @Am.QU.eq_17))))))) (QXn (QXn (QXn (QXn (QXn (QXn @Am.Q0.eq_1 (QXn @Am.Q0.eq_2 @Am.Q0.eq_3)) (QXn @Am.Q0.eq_4 (QXn @Am.Q0.eq_5 @Am.Q0.eq_6))) (QXn (QXn @Am.Q0.eq_7 (QXn @Am.Q0.eq_8 @Am.Q0.eq_9)) (QXn @Am.Q0.eq_10 (QXn @Am.Q0.eq_11 @Am.Q0.eq_12)))) (QXn (QXn (QXn @Am.Q0.eq_13 (QXn @Am.Q0.eq_14 @Am.Q0.eq_15)) (QXn @Am.Q0.eq_16 (QXn @Am.Y0.eq_1 @Am.Y0.eq_2))) (QXn (QXn @Am.Y0.eq_3 (QXn @Am.Y0.eq_4 @cond_true.{0})) (QXn @cond_true.{1} (QXn @cond_false.{0} @cond_false.{1}))))) (QXn (QXn (QXn (QXn @QWE (QXn @and_true @QWP.{0})) (QXn @QWT.{0} (QXn @List.getElem?_nil.{0} @QWX.{0}))) (QXn (QXn @QXl.{0} (QXn @Am.St.enter.eq_1 @Am.Fl.eq_1)) (QXn @Am.AV.shL.eq_1 (QXn @Am.AV.shL.eq_2 @Am.AV.sh.eq_1)))) (QXn (QXn (QXn @Am.AV.sh.eq_2 (QXn @Am.AV.sh.eq_3 @Am.AV.sh.eq_4)) (QXn @Am.AV.sh.eq_5 (QXn @Am.AV.sh.eq_6 @Am.AV.sh.eq_7))) (QXn (QXn @Am.AV.sh.eq_8 (QXn @Am.AV.sh.eq_9 @Am.Ko.eq_1)) (QXn (QXn @Am.Ko.eq_2 @Am.RR.ev.eq_1) (QXn @Am.RR.ev.eq_2 @Am.RR.evL.eq_1)))))) (QXn (QXn (QXn (QXn (QXn @Am.RR.evL.eq_2 (QXn @Am.K5.eq_1 @Am.AV.still.eq_1)) (QXn @Am.AV.still.eq_2 (QXn @Am.AV.still.eq_3 @Am.AV.still.eq_4))) (QXn (QXn @Am.AV.still.eq_5 (QXn @Am.AV.still.eq_6 @Am.AV.still.eq_7)) (QXn @Am.AV.still.eq_8 (QXn @Am.AV.stillL.eq_1 @Am.AV.stillL.eq_2)))) (QXn (QXn (QXn @Am.AV.un.eq_1 (QXn @Am.AV.un.eq_2 @Am.AV.un.eq_3)) (QXn @Am.AV.un.eq_4 (QXn @Am.AV.un.eq_5 @Am.AV.un.eq_6))) (QXn (QXn @Am.AV.un.eq_7 (QXn @Am.AV.un.eq_8 @Am.AV.un.eq_9)) (QXn @Am.AV.un.eq_10 (QXn @Am.AV.un.eq_11 @Am.AV.un.eq_12))))) (QXn (QXn (QXn (QXn @Am.AV.un.eq_13 (QXn @Am.AV.unL.eq_1 @Am.AV.unL.eq_2)) (QXn @Option.bind_some.{0,0} (QXn @QWD.{0,0} @if_true.{0}))) (QXn (QXn @if_true.{1} (QXn @if_false.{0} @if_false.{1})) (QXn @QV6 (QXn @Go.IntKind.bits.eq_1 @Go.IntKind.bits.eq_2)))) (QXn (QXn (QXn @Go.IntKind.bits.eq_3 (QXn @Go.IntKind.bits.eq_4 @Go.IntKind.bits.eq_5)) (QXn @Go.IntKind.bits.eq_6 (QXn @Go.IntKind.bits.eq_7 @Go.IntKind.bits.eq_8))) (QXn (QXn @QWJ.{0} (QXn @QV2.{0} @QXo)) (QXn (QXn @QW0 @forall_const.{1}) (QXn @not_true_eq_false @not_false_eq_true))))))))

end Go.Proofs.YtipjfckmopekaaaGreatDoor.Am

namespace Go.Proofs.YtipjfckmopekaaaGreatDoor.Rc
open Go Am
abbrev ja (a b:Nat):Am.Item:=⟨some a,.val (.mov (.t b)),none⟩
abbrev jb (a b c:Nat):Am.Item:=⟨some a,.val (.faddr b (.t c)),none⟩
abbrev jc (a b:Nat):Am.Item:=⟨some a,.val (.load none (.t b)),none⟩
abbrev jd (a:Nat)(b:Int):Am.Item:=⟨some a,.val (.mov (.c (.int .i64 b))),none⟩
abbrev je (a b c:Nat):Am.Item:=⟨some a,.boxN b (.t c),none⟩
abbrev jf (a b c:Nat):Am.Item:=⟨some a,.val (.load (some b) (.t c)),none⟩
abbrev jg (a b c:Nat):Am.Item:=⟨some a,.val (.mov (.t b)),some (c,true)⟩
abbrev jh (a:Nat):Am.Item:=⟨some a,.val (.mov (.c (.bool false))),none⟩
abbrev ji (a b c:Nat):Am.Item:=⟨some a,.val (.len b (.t c)),none⟩
abbrev jj (a b c:Nat):Am.Item:=⟨some a,.val (.pick (.t b) (.t c) (.c (.bool false))),none⟩
abbrev jk (a b c d:Nat):Am.Item:=⟨some a,.val (.iaddr b none (.t c) (.t d)),none⟩
abbrev jl (a b c d:Nat):Am.Item:=⟨some a,.val (.faddr b (.t c)),some (d,true)⟩
abbrev jm (a b:Nat)(c:Int):Am.Item:=⟨some a,.val (.bin .num .add (.t b) (.c (.int .i64 c))),none⟩
abbrev jn (a b c:Nat):Am.Item:=⟨some a,.val (.bin .num .lss (.t b) (.t c)),none⟩
abbrev jo (a b c:Nat):Am.Item:=⟨some a,.val (.pick (.t b) (.c (.bool true)) (.t c)),none⟩
abbrev jp (a b c d:Nat):Am.Item:=⟨some a,.val (.faddr b (.t c)),some (d,false)⟩
abbrev jq (a b:Nat)(c:Int):Am.Item:=⟨some a,.val (.bin .num .eql (.t b) (.c (.int .i64 c))),none⟩
abbrev jr (a b c:Nat):Am.Item:=⟨some a,.call (.f b) [(.t c)],none⟩
abbrev js (a b c:Nat):Am.Item:=⟨none,.store a (.t b) (.t c),none⟩
abbrev jt (a b c:Nat):Am.Item:=⟨some a,.val (.load none (.t b)),some (c,false)⟩
abbrev ju (a b c:Nat):Am.Item:=⟨some a,.val (.load none (.t b)),some (c,true)⟩
abbrev jv (a b c:Nat):Am.Item:=⟨some a,.val (.mov (.t b)),some (c,false)⟩
abbrev jw (a b c d e:Nat):Am.Item:=⟨some a,.val (.loadv b c (some d) (.t e)),none⟩
abbrev jx (a b c:Nat):Am.Item:=⟨some a,.val (.ext (.t b) c),none⟩
abbrev jy (a b c d:Nat):Am.Item:=⟨some a,.call (.f b) [(.t c),(.t d)],none⟩
abbrev jz (a b:Nat):Am.Item:=⟨some a,.val (.un .not (.t b)),none⟩
abbrev ya (a b c:Nat):Am.Item:=⟨some a,.val (.loadr (some b) (.t c)),none⟩
abbrev yb (a b c d:Nat):Am.Item:=⟨some a,.val (.loadv b c none (.t d)),none⟩
abbrev yc (a b c d e:Nat):Am.Item:=⟨some a,.val (.iaddr b none (.t c) (.t d)),some (e,true)⟩
abbrev yd (a b c d e:Nat):Am.Item:=⟨some a,.call (.f b) [(.t c),(.t d),(.t e)],none⟩
abbrev ye (a:Nat):Am.Item:=⟨some a,.val (.mov (.c (.nils))),none⟩
abbrev yf (a b c d:Nat):Am.Item:=⟨some a,.val (.len b (.t c)),some (d,false)⟩
abbrev yg (a b:Nat)(c:Int):Am.Item:=⟨some a,.val (.bin .num .neq (.t b) (.c (.int .i64 c))),none⟩
abbrev yh (a b c d e f:Nat):Am.Item:=⟨some a,.app b c d (.t e) (.t f),none⟩
abbrev yi (a:Nat):Am.Item:=⟨some a,.val (.mov (.c (.str []))),none⟩
abbrev yj (a b c:Nat):Am.Item:=⟨some a,.val (.bin .num .add (.t b) (.t c)),none⟩
abbrev yk (a b:Nat)(c:Int)(d:Nat):Am.Item:=⟨some a,.val (.bin .num .gtr (.t b) (.c (.int .i64 c))),some (d,false)⟩
abbrev yl (a:Nat):Am.Item:=⟨some a,.val (.mov (.c (.bool true))),none⟩
abbrev ym (a b:Nat)(c:Int)(d:Nat):Am.Item:=⟨some a,.val (.bin .num .eql (.t b) (.c (.int .i64 c))),some (d,true)⟩
abbrev yn (a b:Nat)(c:Int):Am.Item:=⟨some a,.val (.bin .num .geq (.t b) (.c (.int .i64 c))),none⟩
abbrev yo (a b:Nat)(c:Int):Am.Item:=⟨some a,.val (.bin .num .lss (.t b) (.c (.int .i64 c))),none⟩
abbrev yp (a b c:Nat):Am.Item:=⟨some a,.val (.loadr none (.t b)),some (c,true)⟩
abbrev yq (a b:Nat)(c:Int):Am.Item:=⟨some a,.val (.bin .num .gtr (.t b) (.c (.int .i64 c))),none⟩
abbrev yr (a b c d:Nat):Am.Item:=⟨some a,.callF (.f b) [(.t c),(.t d)],none⟩
abbrev ys (a b:Nat)(c:Int)(d:Nat):Am.Item:=⟨some a,.val (.bin .num .eql (.t b) (.c (.int .i64 c))),some (d,false)⟩
abbrev yt (a b c d:Nat):Am.Item:=⟨some a,.val (.len b (.t c)),some (d,true)⟩
abbrev yu (a b:Nat):Am.Item:=⟨some a,.allocN b [.int .i64 0,.int .u64 0,.str [],.nils,.nils,.nils,.nils],none⟩
abbrev yv (a b c d:Nat):Am.Item:=⟨some a,.val (.load (some b) (.t c)),some (d,false)⟩
abbrev yw (a b c d:Nat):Am.Item:=⟨some a,.val (.pick (.t b) (.t c) (.c (.bool false))),some (d,false)⟩
abbrev yx (a b c:Nat):Am.Item:=⟨some a,.val (.un .not (.t b)),some (c,true)⟩
abbrev yy (a b:Nat)(c:Int)(d:Nat):Am.Item:=⟨some a,.val (.bin .num .leq (.t b) (.c (.int .i64 c))),some (d,true)⟩
abbrev yz (a b c d e:Nat):Am.Item:=⟨some a,.val (.iaddr b none (.t c) (.t d)),some (e,false)⟩
abbrev za (a b:Nat)(c:Int):Am.Item:=⟨some a,.val (.bin .num .sub (.t b) (.c (.int .i64 c))),none⟩
abbrev zb (a b c d e:Nat):Am.Item:=⟨some a,.val (.loadv b c none (.t d)),some (e,true)⟩
abbrev zd (a b:Nat):Am.Item:=⟨some a,.allocN b [.int .i64 0,.str [],.str [],.int .i64 0,.int .i64 0,.int .i64 0,.int .i64 0,.int .i64 0],none⟩
abbrev ze (a b c:Nat):Am.Item:=⟨some a,.val (.un .not (.t b)),some (c,false)⟩
abbrev zf (a b c d:Nat):Am.Item:=⟨some a,.val (.pick (.t b) (.c (.bool true)) (.t c)),some (d,true)⟩
abbrev zg (a b c:Nat):Am.Item:=⟨some a,.val (.bin .num .sub (.t b) (.t c)),none⟩
abbrev zh (a b c d:Nat):Am.Item:=⟨some a,.call (.f b) [(.t c)],some (d,true)⟩
abbrev zi (a b c d:Nat):Am.Item:=⟨some a,.call (.f b) [(.t c)],some (d,false)⟩
abbrev zj (a b c d e f:Nat):Am.Item:=⟨some a,.call (.f b) [(.t c),(.t d),(.t e),(.t f)],none⟩
abbrev zk (a b c d:Nat):Am.Item:=⟨some a,.val (.load (some b) (.t c)),some (d,true)⟩
abbrev zl (a b c d e:Nat):Am.Item:=⟨some a,.val (.loadv b c none (.t d)),some (e,false)⟩
abbrev zm (a b c:Nat):Am.Item:=⟨some a,.val (.bin .num .eql (.t b) (.t c)),none⟩
abbrev zn (a b:Nat):Am.Item:=⟨some a,.allocN b [.int .i64 0,.int .i64 0,.int .u64 0,.str []],none⟩
abbrev zo (a b:Nat):Am.Item:=⟨some a,.val (.cvi .u64 (.t b)),none⟩
abbrev zp (a b c d e:Nat):Am.Item:=⟨none,.storev a b c (.t d) (.t e),none⟩
abbrev zq (a b c d e:Nat):Am.Item:=⟨some a,.callF (.f b) [(.t c),(.f d)],some (e,false)⟩
abbrev zs (a b c:Nat):Am.Item:=⟨some a,.val (.bin .num .neq (.t b) (.t c)),none⟩
abbrev zt (a b c d e f:Nat):Am.Item:=⟨some a,.val (.loadv b c (some d) (.t e)),some (f,true)⟩
abbrev zu (a b c d:Nat):Am.Item:=⟨some a,.val (.bin .num .lss (.t b) (.t c)),some (d,true)⟩
abbrev zv (a b:Nat)(c:Int)(d:Nat):Am.Item:=⟨some a,.val (.bin .num .neq (.t b) (.c (.int .i64 c))),some (d,true)⟩
abbrev zw (a b c d e f:Nat):Am.Item:=⟨some a,.bsl b c [.int .i64 0,.int .i64 0,.int .u64 0,.str []] [(d,e,(.t f))],none⟩
abbrev zx (a b:Nat):Am.Item:=⟨some a,.val (.loadr none (.t b)),none⟩
abbrev zy (a b:Nat)(c:Int)(d:Nat):Am.Item:=⟨some a,.val (.bin .num .add (.t b) (.c (.int .i64 c))),some (d,true)⟩
abbrev zz (a b:Nat):Am.Item:=⟨some a,.call (.f b) [],none⟩
abbrev Nw (a b:Nat):Am.Item:=⟨some a,.val (.cvi .i64 (.t b)),none⟩
abbrev U7 (a b c d:Nat):Am.Item:=⟨some a,.callF (.f b) [(.t c),(.f d)],none⟩
abbrev U8 (a b c d:Nat):Am.Item:=⟨some a,.val (.bin .num .neq (.t b) (.t c)),some (d,false)⟩
abbrev FO (a b c:Nat):Am.Item:=⟨some a,.val (.bin .num .gtr (.t b) (.t c)),none⟩
abbrev U9 (a b:Nat)(c:Int)(d:Nat):Am.Item:=⟨some a,.val (.bin .num .geq (.t b) (.c (.int .i64 c))),some (d,true)⟩
abbrev R5 (a b c d e f g:Nat):Am.Item:=⟨some a,.callF (.f b) [(.t c),(.t d),(.t e),(.t f),(.t g)],none⟩
abbrev Gi (a b:Nat)(c:Int):Am.Item:=⟨some a,.val (.bin .num .eql (.t b) (.c (.int .u64 c))),none⟩
abbrev Gj (a b c d:Nat):Am.Item:=⟨some a,.val (.loadr (some b) (.t c)),some (d,true)⟩
abbrev Gk (a b c d e:Nat):Am.Item:=⟨some a,.call (.f b) [(.t c),(.t d)],some (e,true)⟩
abbrev FP (a b c:Nat):Am.Item:=⟨some a,.val (.mkfn (.func b) [] [(.t c)]),none⟩
abbrev FQ (a b c d:Nat):Am.Item:=⟨some a,.val (.bin .num .geq (.t b) (.t c)),some (d,false)⟩
abbrev FR (a b c:Nat):Am.Item:=⟨some a,.callF (.t b) [(.t c)],none⟩
abbrev FS (a b c d:Nat):Am.Item:=⟨some a,.val (.slc (some b) (.t c) none (some (.t d)) none),none⟩
abbrev DO (a b:Nat):Am.Item:=⟨some a,.val (.cvi .u8 (.t b)),none⟩
abbrev DP (a b:Nat)(c:Int)(d:Nat):Am.Item:=⟨some a,.val (.bin .num .sub (.t b) (.c (.int .i64 c))),some (d,true)⟩
abbrev FT (a b c d e f:Nat):Am.Item:=⟨some a,.call (.f b) [(.t c),(.t d),(.t e)],some (f,true)⟩
abbrev DQ (a b c:Nat):Am.Item:=⟨some a,.val (.bin .str .add (.t b) (.t c)),none⟩
abbrev FU (a b c:Nat):Am.Item:=⟨some a,.call (.f b) [],some (c,true)⟩
abbrev Nx (a b c:Nat):Am.Item:=⟨some a,.val (.bin .str .eql (.t b) (.t c)),none⟩
abbrev Ny (a b:Nat)(c:Int)(d:Nat):Am.Item:=⟨some a,.val (.bin .num .gtr (.t b) (.c (.int .i64 c))),some (d,true)⟩
abbrev Nz (a b:Nat)(c:Int)(d:Nat):Am.Item:=⟨some a,.val (.bin .num .lss (.t b) (.c (.int .i64 c))),some (d,false)⟩
abbrev FV (a b:Nat):Am.Item:=⟨some a,.val (.nilck (.t b)),none⟩
abbrev FX (a b c:Nat):Am.Item:=⟨some a,.val (.bin .num .leq (.t b) (.t c)),none⟩
abbrev FY (a b c d:Nat)(e:Int)(f:Nat):Am.Item:=⟨some a,.call (.f b) [(.t c),(.t d),(.c (.int .i64 e))],some (f,true)⟩
abbrev NA (a b:Nat):Am.Item:=⟨some a,.allocN b [.int .i64 0,.int .i64 0,.int .u64 0,.str [],.nils,.nils,.nils,.nils],none⟩
abbrev NB (a b c:Nat)(d:Int)(e:Nat):Am.Item:=⟨some a,.val (.iaddr b none (.t c) (.c (.int .i64 d))),some (e,true)⟩
abbrev NC (a:Nat)(b:Int):Am.Item:=⟨some a,.val (.mov (.c (.int .u64 b))),none⟩
abbrev jbb (a b:Nat)(c:Int):Am.Item:=⟨some a,.val (.bin .num .shr (.t b) (.c (.int .u64 c))),none⟩
abbrev ND (a b c:Nat):Am.Item:=⟨some a,.callF (.f b) [(.t c)],none⟩
abbrev NE (a b:Nat)(c:Int)(d:Nat):Am.Item:=⟨some a,.val (.bin .num .neq (.t b) (.c (.int .i64 c))),some (d,false)⟩
abbrev NF (a b c:Nat):Am.Item:=⟨some a,.val (.loadr none (.t b)),some (c,false)⟩
abbrev NG (a b c d e f:Nat):Am.Item:=⟨some a,.bsl b c [.int .u8 0] [(d,e,(.t f))],none⟩
abbrev NH (a b:Nat):Am.Item:=⟨some a,.val (.b2s (.t b)),none⟩
abbrev NI (a b c d e:Nat):Am.Item:=⟨some a,.call (.f b) [(.t c),(.t d)],some (e,false)⟩
abbrev NJ (a b c:Nat):Am.Item:=⟨some a,.val (.idx (.t b) (.t c)),none⟩
abbrev Md (a b c d:Nat):Am.Item:=⟨some a,.val (.bin .str .eql (.t b) (.t c)),some (d,true)⟩
abbrev Me (a b:Nat)(c:Int)(d:Nat):Am.Item:=⟨some a,.val (.bin .num .eql (.t b) (.c (.int .u64 c))),some (d,true)⟩
abbrev Mf (a b c d:Nat):Am.Item:=⟨some a,.val (.build [.nils,.nils] [(b,c,(.t d))]),none⟩
abbrev Mg (a b c d:Nat):Am.Item:=⟨some a,.val (.bin .num .eql (.t b) (.t c)),some (d,true)⟩
abbrev R6 (a b:Nat):Am.Item:=⟨some a,.allocN b [.int .i64 0,.int .u64 0,.str [],.nils,.nils,.nils,.nils,.int .i64 0,.int .u64 0,.str [],.nils,.nils,.nils,.nils],none⟩
abbrev Mh (a:Nat)(b:Int)(c:Nat):Am.Item:=⟨some a,.val (.bin .num .mul (.c (.int .i64 b)) (.t c)),none⟩
abbrev Mi (a b c:Nat):Am.Item:=⟨some a,.val (.slc none (.t b) (some (.t c)) none none),none⟩
abbrev Mj (a b c d:Nat):Am.Item:=⟨some a,.val (.loadr (some b) (.t c)),some (d,false)⟩
abbrev Mk (a b c d:Nat):Am.Item:=⟨some a,.val (.bin .num .leq (.t b) (.t c)),some (d,true)⟩
abbrev Ml (a b:Nat)(c:Int):Am.Item:=⟨some a,.val (.bin .num .eql (.t b) (.c (.int .u8 c))),none⟩
abbrev Mm (a b c d:Nat):Am.Item:=⟨some a,.val (.idx (.t b) (.t c)),some (d,true)⟩
abbrev Mn (a b:Nat)(c:Int):Am.Item:=⟨some a,.val (.bin .num .geq (.t b) (.c (.int .u8 c))),none⟩
abbrev Mo (a b:Nat)(c:Int)(d:Nat):Am.Item:=⟨some a,.val (.bin .num .leq (.t b) (.c (.int .u8 c))),some (d,true)⟩
abbrev Mp (a b c:Nat):Am.Item:=⟨some a,.callR (.f b) [(.t c)],none⟩
abbrev jQ (g:List Am.Item)(c:RC):RC:=.seq (.reg g) c
abbrev jD (g:List Am.Item)(c:RC):RC:=.seq (.draw g) c
abbrev jX (a b:Nat):RC:=.cond (.t a) .skip (.exit b)
abbrev IL:=List Am.Item
abbrev CT (k n:Nat)(r:RC)(o:List RR):Prop:=CK Tryz.prog k n r o
abbrev QKz:IL:=[jh 0]
abbrev QKA:IL:=[⟨some 11,.val (.build [.int .i64 0,.int .u64 0,.str [],.nils,.nils,.nils,.nils] [(0,1,(.c (.int .i64 4))),(1,1,(.c (.int .u64 1)))]),none⟩,yu 1 1,js 7 1 11]
abbrev QKB:IL:=[⟨some 12,.val (.build [.int .i64 0,.int .u64 0,.str [],.nils,.nils,.nils,.nils] [(0,1,(.c (.int .i64 4))),(1,1,(.c (.int .u64 2)))]),none⟩,yu 2 2,js 7 2 12]
abbrev QKC:IL:=[jf 13 7 1,jf 14 7 2,⟨some 15,.bsl 7 2 [.int .i64 0,.int .u64 0,.str [],.nils,.nils,.nils,.nils] [(0,7,(.t 13)),(7,7,(.t 14))],none⟩,⟨some 16,.val (.build [.int .i64 0,.int .u64 0,.str [],.nils,.nils,.nils,.nils] [(0,1,(.c (.int .i64 11))),(3,1,(.t 15))]),none⟩,⟨some 17,.val (.build [.int .i64 0,.int .i64 0,.int .u64 0,.str [],.nils,.nils,.nils,.nils] [(0,1,(.c (.int .i64 3))),(1,7,(.t 16))]),none⟩,NA 3 3,js 8 3 17]
abbrev QKD:IL:=[⟨some 18,.val (.build [.int .i64 0,.int .u64 0,.str [],.nils,.nils,.nils,.nils] [(0,1,(.c (.int .i64 4))),(1,1,(.c (.int .u64 5)))]),none⟩,⟨some 19,.val (.build [.int .i64 0,.int .i64 0,.int .u64 0,.str [],.nils,.nils,.nils,.nils] [(0,1,(.c (.int .i64 1))),(1,7,(.t 18))]),none⟩,⟨some 20,.val (.build [.int .i64 0,.int .u64 0,.str [],.nils,.nils,.nils,.nils] [(0,1,(.c (.int .i64 2))),(1,1,(.c (.int .u64 18446744073709551615)))]),none⟩,⟨some 21,.val (.build [.int .i64 0,.int .i64 0,.int .u64 0,.str [],.nils,.nils,.nils,.nils] [(0,1,(.c (.int .i64 2))),(1,7,(.t 20))]),none⟩,jf 22 8 3,⟨some 23,.bsl 8 3 [.int .i64 0,.int .i64 0,.int .u64 0,.str [],.nils,.nils,.nils,.nils] [(0,8,(.t 19)),(8,8,(.t 21)),(16,8,(.t 22))],none⟩,⟨some 24,.val (.build [.int .i64 0,.int .u64 0,.str [],.nils,.nils,.nils,.nils] [(0,1,(.c (.int .i64 10))),(5,1,(.t 23))]),none⟩,yu 4 4,js 7 4 24]
abbrev QKE:IL:=[zz 26 24,jw 27 0 4 7 4,⟨some 28,.call (.f 10) [(.t 26),(.c (.str [97,46,77])),(.t 27)],none⟩,ja 25 28,jx 29 25 0,jx 30 25 1,ja 5 29,ja 6 30]
abbrev QKF:IL:=[zz 32 24,jw 33 0 4 7 4,⟨some 34,.call (.f 10) [(.t 32),(.c (.str [97,46,78])),(.t 33)],none⟩,ja 31 34,jx 35 31 0,jx 36 31 1,ja 7 35,ja 8 36]
abbrev QKG:IL:=[zz 37 24,jw 38 0 3 8 3,⟨some 39,.call (.f 19) [(.t 37),(.c (.int .i64 0)),(.t 38)],none⟩,ja 9 39]
abbrev QKH:IL:=[⟨some 40,.val (.build [.int .i64 0,.int .u64 0,.str [],.nils,.nils,.nils,.nils] [(0,1,(.c (.int .i64 2))),(1,1,(.c (.int .u64 18446744073709551615)))]),none⟩,jr 41 25 40,zn 10 10,js 4 10 41]
abbrev QKI:IL:=[ja 42 5,⟨some 43,.val (.bin .str .eql (.t 42) (.c (.str [8,5,17,1,29,3,0,1,2]))),none⟩,ja 44 43,jg 45 6 44,ym 46 45 0 44,jj 47 44 46,ja 48 47,jg 49 8 48,ym 50 49 10 48,jj 51 48 50,ja 52 51,FU 53 24 52,zt 54 0 4 7 4 52,⟨some 55,.call (.f 15) [(.t 53),(.c (.int .i64 0)),(.t 54)],(some (52,true))⟩,jg 56 5 52,Md 57 55 56 52,jj 58 52 57,ja 59 58,FU 60 24 59,zt 61 0 4 7 4 59,⟨some 62,.call (.f 12) [(.t 60),(.c (.str [97,46,77])),(.t 61)],(some (59,true))⟩,ym 63 62 9 59,jj 64 59 63,ja 65 64,FU 66 24 65,zt 67 0 4 7 4 65,⟨some 68,.call (.f 12) [(.t 66),(.c (.str [])),(.t 67)],(some (65,true))⟩,ym 69 68 (-1) 65,jj 70 65 69,ja 71 70,jg 72 9 71,yt 73 1 72 71,ym 74 73 1 71,jj 75 71 74,ja 76 75,jg 77 9 76,NB 78 4 77 0 76,jl 79 1 78 76,yp 80 79 76,ym 81 80 5 76,jj 82 76 81,ja 83 82,jg 84 9 83,NB 85 4 84 0 83,jl 86 3 85 83,yp 87 86 83,⟨some 88,.val (.bin .str .eql (.t 87) (.c (.str [0,1,2]))),(some (83,true))⟩,jj 89 83 88,ja 90 89,jl 91 1 10 90,zb 92 0 10 91 90,ym 93 92 1 90,jj 94 90 93,ja 95 94,jl 96 2 10 95,zb 97 0 10 96 95,Me 98 97 1 95,jj 99 95 98,ja 0 99]
abbrev r9:RC:=jQ QKz (jQ QKA (jQ QKB (jQ QKC (jQ QKD (jD QKE (jD QKF (jD QKG (jQ QKH (jD QKI (.ret))))))))))
abbrev o9:List RR:=[.tmp 0]
theorem k9:CT 9 100 r9 o9:=ck Tryz.func9 Tryz.ntmps9 (by decide +kernel)
abbrev QxB:IL:=[je 1 1 0,zn 2 2]
abbrev QxC:IL:=[jb 3 0 1,jc 4 3]
abbrev QxD:IL:=[jq 6 4 1,ja 5 6]
abbrev QxE:IL:=[jq 7 4 4,ja 5 7]
abbrev QxF:IL:=[jq 8 4 5,ja 5 8]
abbrev QxG:IL:=[jq 9 4 9,ja 5 9]
abbrev QxH:IL:=[jb 10 1 1,jc 11 10,⟨some 12,.val (.build [.int .i64 0,.int .i64 0,.int .u64 0,.str []] [(1,1,(.c (.int .i64 0))),(2,1,(.t 11))]),none⟩,js 4 2 12]
abbrev QxI:IL:=[jq 14 4 2,ja 13 14]
abbrev QxJ:IL:=[jq 15 4 3,ja 13 15]
abbrev QxK:IL:=[jb 16 1 1,jc 17 16,Nw 18 17,jr 19 50 18,⟨some 20,.val (.build [.int .i64 0,.int .i64 0,.int .u64 0,.str []] [(1,1,(.c (.int .i64 1))),(2,1,(.t 19))]),none⟩,js 4 2 20]
abbrev Qax:IL:=[jq 22 4 6,ja 21 22]
abbrev Qay:IL:=[jf 23 7 1,jr 24 51 23,⟨some 25,.val (.fld 1 none (.t 24)),none⟩,⟨some 26,.val (.build [.int .i64 0,.int .i64 0,.int .u64 0,.str []] [(1,1,(.c (.int .i64 2))),(2,1,(.t 25))]),none⟩,js 4 2 26]
abbrev Qaz:IL:=[jq 28 4 7,ja 27 28]
abbrev QaA:IL:=[jq 29 4 8,ja 27 29]
abbrev QaB:IL:=[jb 30 2 1,jc 31 30,⟨some 32,.val (.build [.int .i64 0,.int .i64 0,.int .u64 0,.str []] [(1,1,(.c (.int .i64 3))),(3,1,(.t 31))]),none⟩,js 4 2 32]
abbrev QaC:IL:=[⟨some 33,.val (.build [.int .i64 0,.int .i64 0,.int .u64 0,.str []] []),none⟩,js 4 2 33]
abbrev r25:RC:=jQ QxB (.seq (jQ QxC (.block 0 (.seq (jQ QxD (.cond (.t 5) (.skip) (jQ QxE (.cond (.t 5) (.skip) (jQ QxF (.cond (.t 5) (.skip) (.reg QxG))))))) (.cond (.t 5) (jQ QxH (.ret)) (.seq (jQ QxI (.cond (.t 13) (.skip) (.reg QxJ))) (.cond (.t 13) (jQ QxK (.ret)) (jQ Qax (.cond (.t 21) (jQ Qay (.ret)) (.seq (jQ Qaz (.cond (.t 27) (.skip) (.reg QaA))) (.cond (.t 27) (jQ QaB (.ret)) (.skip))))))))))) (jQ QaC (.ret)))
abbrev o25:List RR:=[.cell 2 (some 4)]
theorem k25:CT 25 34 r25 o25:=ck Tryz.func25 Tryz.ntmps25 (by decide +kernel)
abbrev QxL:IL:=[je 3 3 0,je 5 5 2,yi 6,jd 7 0]
abbrev QxM:IL:=[jf 13 2 3,ja 14 1,jy 15 26 13 14,ja 12 15,jx 16 12 0,jx 17 12 1,ja 8 16,ja 9 17]
abbrev QxN:IL:=[ja 18 9,jz 19 18]
abbrev QxO:IL:=[yi 6,jd 7 10]
abbrev QxP:IL:=[jf 20 2 3,ja 21 8,jy 22 27 20 21,jz 23 22]
abbrev QxQ:IL:=[yi 6,jd 7 1]
abbrev QxR:IL:=[jf 24 2 3,ja 25 8,jf 26 7 5,yd 27 28 24 25 26,ja 10 27]
abbrev QxS:IL:=[ja 28 10,yg 29 28 0]
abbrev QxT:IL:=[ja 30 10,yi 6,ja 7 30]
abbrev QxU:IL:=[jf 31 2 3,Mf 32 0 2 31,ja 33 8,jf 34 7 5,yd 35 29 32 33 34,ja 11 35]
abbrev QaD:IL:=[ja 36 11,ji 37 0 36,yq 38 37 65536]
abbrev QaE:IL:=[yi 6,jd 7 3]
abbrev QaF:IL:=[ja 39 11,ja 6 39,jd 7 0]
abbrev r10:RC:=jQ QxL (jQ QxM (.seq (jQ QxN (.cond (.t 19) (jQ QxO (.ret)) (.skip))) (.seq (jQ QxP (.cond (.t 23) (jQ QxQ (.ret)) (.skip))) (.seq (jQ QxR (jQ QxS (.cond (.t 29) (jQ QxT (.ret)) (.skip)))) (jQ QxU (.seq (jQ QaD (.cond (.t 38) (jQ QaE (.ret)) (.skip))) (jQ QaF (.ret))))))))
abbrev o10:List RR:=[.tmp 6,.tmp 7]
theorem k10:CT 10 40 r10 o10:=ck Tryz.func10 Tryz.ntmps10 (by decide +kernel)
abbrev QxV:IL:=[⟨some 0,.allocN 0 [.nils,.nils],none⟩]
abbrev QxW:IL:=[⟨some 1,.val (.build [.int .i64 0,.str [],.str [],.int .i64 0,.int .i64 0,.int .i64 0,.int .i64 0,.int .i64 0] [(0,1,(.c (.int .i64 1))),(1,1,(.c (.str [97]))),(3,1,(.c (.int .i64 3))),(5,1,(.c (.int .i64 4))),(6,1,(.c (.int .i64 (-1)))),(7,1,(.c (.int .i64 (-1))))]),none⟩,⟨some 2,.val (.build [.int .i64 0,.str [],.str [],.int .i64 0,.int .i64 0,.int .i64 0,.int .i64 0,.int .i64 0] [(0,1,(.c (.int .i64 2))),(1,1,(.c (.str [98]))),(3,1,(.c (.int .i64 2))),(5,1,(.c (.int .i64 2))),(6,1,(.c (.int .i64 (-1)))),(7,1,(.c (.int .i64 (-1))))]),none⟩,⟨some 3,.val (.build [.int .i64 0,.str [],.str [],.int .i64 0,.int .i64 0,.int .i64 0,.int .i64 0,.int .i64 0] [(0,1,(.c (.int .i64 3))),(1,1,(.c (.str [99]))),(3,1,(.c (.int .i64 4))),(5,1,(.c (.int .i64 4))),(6,1,(.c (.int .i64 (-1)))),(7,1,(.c (.int .i64 (-1))))]),none⟩,⟨some 4,.bsl 8 3 [.int .i64 0,.str [],.str [],.int .i64 0,.int .i64 0,.int .i64 0,.int .i64 0,.int .i64 0] [(0,8,(.t 1)),(8,8,(.t 2)),(16,8,(.t 3))],none⟩,⟨some 5,.val (.build [.str [],.nils,.int .i64 0] [(0,1,(.c (.str [97,46,77]))),(1,1,(.t 4))]),none⟩,⟨some 6,.bsl 3 1 [.str [],.nils,.int .i64 0] [(0,3,(.t 5))],none⟩,Mf 7 0 1 6,js 2 0 7]
abbrev r24:RC:=jQ QxV (jQ QxW (.ret))
abbrev o24:List RR:=[.cell 0 (some 2)]
theorem k24:CT 24 8 r24 o24:=ck Tryz.func24 Tryz.ntmps24 (by decide +kernel)
abbrev QxX:IL:=[je 3 3 0,je 5 5 2,ye 6]
abbrev QxY:IL:=[jf 7 2 3,ja 8 1,jy 9 27 7 8,jz 10 9]
abbrev QxZ:IL:=[ye 6]
abbrev Qx0:IL:=[jf 11 2 3,Mf 12 0 2 11,ja 13 1,jf 14 8 5,yd 15 37 12 13 14,ja 6 15]
abbrev r19:RC:=jQ QxX (.seq (jQ QxY (.cond (.t 10) (jQ QxZ (.ret)) (.skip))) (jQ Qx0 (.ret)))
abbrev o19:List RR:=[.tmp 6]
theorem k19:CT 19 16 r19 o19:=ck Tryz.func19 Tryz.ntmps19 (by decide +kernel)
abbrev Qx1:IL:=[je 3 3 0,je 5 5 2,yi 6]
abbrev Qx2:IL:=[jf 7 2 3,ja 8 1,jy 9 27 7 8,jz 10 9]
abbrev Qx3:IL:=[yi 6]
abbrev Qx4:IL:=[jf 11 2 3,Mf 12 0 2 11,ja 13 1,jf 14 7 5,yd 15 29 12 13 14,ja 6 15]
abbrev r15:RC:=jQ Qx1 (.seq (jQ Qx2 (.cond (.t 10) (jQ Qx3 (.ret)) (.skip))) (jQ Qx4 (.ret)))
abbrev o15:List RR:=[.tmp 6]
theorem k15:CT 15 16 r15 o15:=ck Tryz.func15 Tryz.ntmps15 (by decide +kernel)
abbrev Qx5:IL:=[je 3 3 0,je 5 5 2,jd 6 0]
abbrev Qx6:IL:=[jf 10 2 3,ja 11 1,jf 12 7 5,yd 13 10 10 11 12,ja 9 13,jx 14 9 0,jx 15 9 1,ja 7 14,ja 8 15]
abbrev Qx7:IL:=[ja 16 8,yg 17 16 0]
abbrev Qx8:IL:=[jd 6 (-1)]
abbrev Qx9:IL:=[ja 18 7,ji 19 0 18,ja 6 19]
abbrev WM:RC:=jQ Qx5 (jQ Qx6 (.seq (jQ Qx7 (.cond (.t 17) (jQ Qx8 (.ret)) (.skip))) (jQ Qx9 (.ret))))
abbrev o12:List RR:=[.tmp 6]
theorem k12:CT 12 20 WM o12:=ck Tryz.func12 Tryz.ntmps12 (by decide +kernel)
abbrev Qya:IL:=[NC 2 0]
abbrev Qyb:IL:=[ja 3 0,zo 4 3,⟨some 5,.val (.bin .num .shl (.t 4) (.c (.int .u64 1))),none⟩,ja 6 0,jbb 7 6 63,zo 8 7,⟨some 9,.val (.bin .num .xor (.t 5) (.t 8)),none⟩,ja 2 9]
abbrev r50:RC:=jQ Qya (jQ Qyb (.ret))
abbrev o50:List RR:=[.tmp 2]
theorem k50:CT 50 10 r50 o50:=ck Tryz.func50 Tryz.ntmps50 (by decide +kernel)
abbrev Qyc:IL:=[je 1 1 0,yu 2 2]
abbrev Qyd:IL:=[jb 3 0 1,jc 4 3,jq 5 4 6,ja 6 5,jl 7 1 1 6,ju 8 7 6,zh 9 82 8 6,ym 10 9 0 6,jj 11 6 10]
abbrev Qye:IL:=[jb 12 1 1,⟨none,.store 1 (.t 12) (.c (.int .u64 9221120237041090560)),none⟩]
abbrev Qyf:IL:=[jf 13 7 1,js 7 2 13]
abbrev r51:RC:=jQ Qyc (.seq (jQ Qyd (.cond (.t 11) (.reg Qye) (.skip))) (jQ Qyf (.ret)))
abbrev o51:List RR:=[.cell 2 (some 7)]
theorem k51:CT 51 14 r51 o51:=ck Tryz.func51 Tryz.ntmps51 (by decide +kernel)
abbrev Qyg:IL:=[je 2 2 0,je 3 3 1,jd 4 0,jh 5]
abbrev Qyh:IL:=[jb 7 0 2,jc 8 7,FP 9 53 3,yr 10 52 8 9,ja 6 10]
abbrev Qyi:IL:=[ja 11 6,⟨some 12,.val (.mnx true (.t 11) (.c (.int .i64 0))),none⟩,ja 13 6,yn 14 13 0,ja 4 12,ja 5 14]
abbrev r26:RC:=jQ Qyg (jQ Qyh (jQ Qyi (.ret)))
abbrev o26:List RR:=[.tmp 4,.tmp 5]
theorem k26:CT 26 15 r26 o26:=ck Tryz.func26 Tryz.ntmps26 (by decide +kernel)
abbrev Qyj:IL:=[je 2 2 0,jh 4]
abbrev Qyk:IL:=[ja 5 1,yn 6 5 0,ja 7 6,jg 8 1 7,jl 9 0 2 7,ju 10 9 7,yt 11 1 10 7,zu 12 8 11 7,jj 13 7 12,ja 14 13,zk 15 2 2 14,zh 16 54 15 14,ym 17 16 0 14,jj 18 14 17,ja 4 18]
abbrev r27:RC:=jQ Qyj (jQ Qyk (.ret))
abbrev o27:List RR:=[.tmp 4]
theorem k27:CT 27 19 r27 o27:=ck Tryz.func27 Tryz.ntmps27 (by decide +kernel)
abbrev Qyl:IL:=[je 3 3 0,je 5 5 2,jd 6 0]
abbrev Qym:IL:=[ja 8 1,yo 9 8 0,ja 10 9,jv 11 1 10,jp 12 0 3 10,jt 13 12 10,yf 14 1 13 10,FQ 15 11 14 10,jo 16 10 15]
abbrev Qyn:IL:=[jd 6 10]
abbrev Qyo:IL:=[jw 17 0 3 2 3,Mf 18 0 2 17,jb 19 0 3,yb 20 0 3 19,ja 21 1,jk 22 3 20 21,ya 23 3 22,jw 24 0 5 7 5,⟨some 25,.call (.f 55) [(.t 18),(.t 23),(.t 24),(.c (.int .i64 1))],none⟩,ja 7 25]
abbrev Qyp:IL:=[ja 26 7,yg 27 26 0]
abbrev Qyq:IL:=[ja 28 7,ja 6 28]
abbrev Qyr:IL:=[jf 29 7 5,jr 30 56 29,yq 31 30 4096]
abbrev Qys:IL:=[jd 6 3]
abbrev Qyt:IL:=[jd 6 0]
abbrev r28:RC:=jQ Qyl (.seq (jQ Qym (.cond (.t 16) (jQ Qyn (.ret)) (.skip))) (.seq (jD Qyo (jQ Qyp (.cond (.t 27) (jQ Qyq (.ret)) (.skip)))) (.seq (jQ Qyr (.cond (.t 31) (jQ Qys (.ret)) (.skip))) (jQ Qyt (.ret)))))
abbrev o28:List RR:=[.tmp 6]
theorem k28:CT 28 32 r28 o28:=ck Tryz.func28 Tryz.ntmps28 (by decide +kernel)
abbrev Qyu:IL:=[je 3 3 0,je 5 5 2,yi 6]
abbrev Qyv:IL:=[jb 12 0 3,jf 13 2 12,ja 14 1,jf 15 7 5,yd 16 57 13 14 15,yu 7 7,js 7 7 16]
abbrev Qyw:IL:=[ye 8]
abbrev Qyx:IL:=[jb 17 6 7,jc 18 17,ja 9 18]
abbrev Qyy:IL:=[jb 19 5 7,jc 20 19,ji 21 1 20,jd 22 0]
abbrev Qyz:IL:=[jn 23 22 21]
abbrev QyA:IL:=[jk 24 8 20 22,jf 25 8 24,NA 11 11,js 8 11 25]
abbrev QyB:IL:=[ja 26 9,ji 27 1 26,yq 28 27 0,ja 29 28,jg 30 9 29,NB 31 4 30 0 29,jl 32 0 31 29,yp 33 32 29,jl 34 0 11 29,zb 35 0 11 34 29,zu 36 33 35 29,jj 37 29 36]
abbrev QyC:IL:=[ja 38 8,ja 39 9,⟨some 40,.val (.iaddr 4 none (.t 39) (.c (.int .i64 0))),none⟩,jf 41 4 40,zw 42 4 1 0 4 41,yh 43 4 40 52 38 42,ja 8 43]
abbrev QyD:IL:=[ja 44 9,⟨some 45,.val (.slc (some 4) (.t 44) (some (.c (.int .i64 1))) none none),none⟩,ja 9 45]
abbrev R7:RC:=.seq (jD QyB (jX 37 2)) (.block 3 (jQ QyC (.reg QyD)))
abbrev QaH:IL:=[ja 46 8,jf 47 2 3,ja 48 1,jf 49 8 11,yd 50 37 47 48 49,yh 51 4 40 52 46 50,ja 8 51]
abbrev QaJ:IL:=[jm 52 22 1,ja 22 52]
abbrev QyE:RC:=.gho (.drop 11) (jQ Qyz (.seq (jX 23 0) (.seq (.block 1 (jQ QyA (.seq (.block 2 (.loop R7)) (.reg QaH)))) (.reg QaJ))))
abbrev QaK:IL:=[ja 53 8,ja 54 9,yh 55 4 40 52 53 54,jr 56 58 55,ja 6 56]
abbrev r29:RC:=jQ Qyu (jQ Qyv (jQ Qyw (.gho (.vec 8 8 4) (jQ Qyx (.seq (jQ Qyy (.block 0 (.loop QyE))) (jQ QaK (.ret)))))))
abbrev o29:List RR:=[.tmp 6]
theorem k29:CT 29 57 r29 o29:=ck Tryz.func29 Tryz.ntmps29 (by decide +kernel)
abbrev QyF:IL:=[je 3 3 0,je 5 5 2,ye 6]
abbrev QyG:IL:=[jb 10 0 3,jb 11 0 10,yb 12 0 3 11,ja 13 1,jk 14 3 12 13,ya 15 3 14,jb 16 0 5,yb 17 0 5 16,jy 18 72 15 17,ja 9 18,jx 19 9 0,jx 20 9 1,zd 7 7,zp 0 7 8 7 19,ja 8 20]
abbrev QyH:IL:=[ja 21 8,jz 22 21]
abbrev QyI:IL:=[ye 6]
abbrev QyJ:IL:=[jw 23 0 7 8 7,jr 24 73 23,jw 25 0 3 2 3,jw 26 0 7 8 7,jb 27 1 5,jw 28 0 5 7 27,⟨some 29,.call (.t 24) [(.t 25),(.t 26),(.t 28)],none⟩,ja 6 29]
abbrev R8:RC:=jQ QyF (jD QyG (.seq (jQ QyH (.cond (.t 22) (jQ QyI (.ret)) (.skip))) (jD QyJ (.ret))))
abbrev o37:List RR:=[.tmp 6]
theorem k37:CT 37 30 R8 o37:=ck Tryz.func37 Tryz.ntmps37 (by decide +kernel)
abbrev QyK:IL:=[jd 4 0]
abbrev QyL:IL:=[ja 6 0,ji 7 1 6,jd 8 0]
abbrev QyM:IL:=[jn 9 8 7]
abbrev QyN:IL:=[ja 10 8,ja 5 10]
abbrev QyO:IL:=[ja 11 1,ja 12 0,ja 13 5,jk 14 3 12 13,jf 15 3 14,FR 16 11 15]
abbrev QyP:IL:=[ja 17 5,ja 4 17]
abbrev QyQ:IL:=[jm 18 8 1,ja 8 18]
abbrev QyR:RC:=jQ QyM (.seq (jX 9 0) (.seq (.block 1 (jQ QyN (jQ QyO (.cond (.t 16) (jQ QyP (.ret)) (.skip))))) (.reg QyQ)))
abbrev QyS:IL:=[jd 4 (-1)]
abbrev r52:RC:=jQ QyK (.seq (jQ QyL (.block 0 (.loop QyR))) (jQ QyS (.ret)))
abbrev o52:List RR:=[.tmp 4]
theorem k52:CT 52 19 r52 o52:=ck Tryz.func52 Tryz.ntmps52 (by decide +kernel)
abbrev QyT:IL:=[je 2 2 0,jh 3]
abbrev QyU:IL:=[jb 4 0 2,jc 5 4,jc 6 1,Nx 7 5 6,ja 3 7]
abbrev r53:RC:=jQ QyT (jQ QyU (.ret))
abbrev o53:List RR:=[.tmp 3]
theorem k53:CT 53 8 r53 o53:=ck Tryz.func53 Tryz.ntmps53 (by decide +kernel)
abbrev QyV:IL:=[je 1 1 0,jd 2 0]
abbrev QyW:IL:=[jf 4 2 1,jr 5 83 4,ja 3 5]
abbrev QyX:IL:=[jd 2 3]
abbrev QyY:IL:=[jf 7 2 1,jr 8 84 7,ja 6 8]
abbrev QyZ:IL:=[jd 2 8]
abbrev Qy0:IL:=[jf 10 2 1,jr 11 85 10,ja 9 11]
abbrev Qy1:IL:=[jd 2 11]
abbrev Qy2:IL:=[jf 13 2 1,jr 14 86 13,ja 12 14]
abbrev Qy3:IL:=[jd 2 9]
abbrev Qy4:IL:=[jf 16 2 1,jr 17 87 16,ja 15 17]
abbrev QaL:IL:=[jd 2 6]
abbrev QaM:IL:=[jf 19 2 1,jr 20 88 19,ja 18 20]
abbrev QaN:IL:=[jd 2 1]
abbrev QaO:IL:=[jf 22 2 1,jr 23 89 22,ja 21 23]
abbrev QaP:IL:=[jd 2 19]
abbrev QaQ:IL:=[jd 2 0]
abbrev r54:RC:=jQ QyV (.seq (.block 0 (jQ QyW (.cond (.t 3) (jQ QyX (.ret)) (jQ QyY (.cond (.t 6) (jQ QyZ (.ret)) (jQ Qy0 (.cond (.t 9) (jQ Qy1 (.ret)) (jQ Qy2 (.cond (.t 12) (jQ Qy3 (.ret)) (jQ Qy4 (.cond (.t 15) (jQ QaL (.ret)) (jQ QaM (.cond (.t 18) (jQ QaN (.ret)) (jQ QaO (.cond (.t 21) (jQ QaP (.ret)) (.skip)))))))))))))))) (jQ QaQ (.ret)))
abbrev o54:List RR:=[.tmp 2]
theorem k54:CT 54 24 r54 o54:=ck Tryz.func54 Tryz.ntmps54 (by decide +kernel)
abbrev Qy5:IL:=[je 4 4 0,je 5 5 1,je 6 6 2,jd 8 0]
abbrev Qy6:IL:=[jb 17 0 6,jc 18 17,yg 19 18 10,ja 20 19,yv 21 7 6 20,zi 22 90 21 20,jo 23 20 22,ja 16 23]
abbrev Qy7:IL:=[jd 8 12]
abbrev Qy8:IL:=[ja 25 3,yq 26 25 16,ja 24 26]
abbrev Qy9:IL:=[jd 8 17]
abbrev Qza:IL:=[jb 27 5 6,jc 28 27,ji 29 1 28,jd 30 0]
abbrev Qzb:IL:=[jn 31 30 29]
abbrev Qzc:IL:=[ja 32 30,ja 9 32]
abbrev Qzd:IL:=[jf 33 2 4,jf 34 3 5,jb 35 5 6,jc 36 35,ja 37 9,ja 38 3,⟨some 39,.call (.f 91) [(.t 33),(.t 34),(.t 36),(.t 37),(.t 38)],none⟩,ja 10 39]
abbrev Qze:IL:=[ja 40 10,yg 41 40 0]
abbrev QaR:IL:=[ja 42 10,ja 8 42]
abbrev QaS:IL:=[jm 43 30 1,ja 30 43]
abbrev Qzf:RC:=jQ Qzb (.seq (jX 31 1) (.seq (.block 2 (jQ Qzc (jQ Qzd (jQ Qze (.cond (.t 41) (jQ QaR (.ret)) (.skip)))))) (.reg QaS)))
abbrev QaT:IL:=[jb 44 1 5,jc 45 44,ji 46 1 45,jd 47 0]
abbrev QaU:IL:=[jn 48 47 46]
abbrev QaV:IL:=[jk 49 8 45 47,jf 50 8 49,zd 12 12,js 8 12 50]
abbrev QaW:IL:=[jb 51 3 12,jc 52 51,jq 53 52 1,ja 54 53,jl 55 5 6 54,ju 56 55 54,⟨some 57,.val (.mkfn (.func 93) [] [(.t 12)]),(some (54,true))⟩,⟨some 58,.callF (.f 92) [(.t 56),(.t 57)],(some (54,true))⟩,yx 59 58 54,jj 60 54 59]
abbrev QaX:IL:=[jd 8 14]
abbrev QaY:IL:=[jm 61 47 1,ja 47 61]
abbrev Qzg:RC:=.gho (.drop 12) (jQ QaU (.seq (jX 48 3) (.seq (.block 4 (jQ QaV (jQ QaW (.cond (.t 60) (jQ QaX (.ret)) (.skip))))) (.reg QaY))))
abbrev QaZ:IL:=[jb 62 6 6,jc 63 62,ji 64 1 63,jd 65 0]
abbrev Qa0:IL:=[jn 66 65 64]
abbrev Qa1:IL:=[jk 67 4 63 65,jf 68 4 67,zn 14 14,js 4 14 68]
abbrev Qa2:IL:=[jf 69 2 4,jf 70 3 5,jf 71 4 14,yd 72 94 69 70 71,ja 15 72]
abbrev Qa3:IL:=[ja 73 15,yg 74 73 0]
abbrev Qa4:IL:=[ja 75 15,ja 8 75]
abbrev Qa5:IL:=[jm 76 65 1,ja 65 76]
abbrev Qzh:RC:=.gho (.drop 14) (jQ Qa0 (.seq (jX 66 5) (.seq (.block 6 (jQ Qa1 (jQ Qa2 (jQ Qa3 (.cond (.t 74) (jQ Qa4 (.ret)) (.skip)))))) (.reg Qa5))))
abbrev Qa6:IL:=[jd 8 0]
abbrev r55:RC:=jQ Qy5 (.seq (.block 0 (jQ Qy6 (.cond (.t 16) (jQ Qy7 (.ret)) (jQ Qy8 (.cond (.t 24) (jQ Qy9 (.ret)) (.skip)))))) (.seq (jQ Qza (.block 1 (.loop Qzf))) (.seq (jQ QaT (.block 3 (.loop Qzg))) (.seq (jQ QaZ (.block 5 (.loop Qzh))) (jQ Qa6 (.ret))))))
abbrev o55:List RR:=[.tmp 8]
theorem k55:CT 55 77 r55 o55:=ck Tryz.func55 Tryz.ntmps55 (by decide +kernel)
abbrev Qzi:IL:=[je 1 1 0,jd 2 0]
abbrev Qzj:IL:=[jb 6 6 1,jc 7 6,ji 8 1 7,⟨some 9,.val (.bin .num .add (.c (.int .i64 1)) (.t 8)),none⟩,ja 3 9]
abbrev Qzk:IL:=[jf 10 7 1,jr 11 95 10,ji 12 1 11,jd 13 0]
abbrev Qzl:IL:=[jn 14 13 12]
abbrev Qzm:IL:=[jk 15 7 11 13,jf 16 7 15,yu 5 5,js 7 5 16]
abbrev Qzn:IL:=[ja 17 3,jf 18 7 5,jr 19 56 18,yj 20 17 19,ja 3 20]
abbrev Qzo:IL:=[jm 21 13 1,ja 13 21]
abbrev Qzp:RC:=.gho (.drop 5) (jQ Qzl (.seq (jX 14 0) (.seq (.block 1 (jQ Qzm (.reg Qzn))) (.reg Qzo))))
abbrev Qzq:IL:=[ja 22 3,ja 2 22]
abbrev r56:RC:=jQ Qzi (jQ Qzj (.seq (jQ Qzk (.block 0 (.loop Qzp))) (jQ Qzq (.ret))))
abbrev o56:List RR:=[.tmp 2]
theorem k56:CT 56 23 r56 o56:=ck Tryz.func56 Tryz.ntmps56 (by decide +kernel)
abbrev Qzr:IL:=[je 3 3 0,je 5 5 2,yu 6 6]
abbrev Qzs:IL:=[jb 14 6 5,jc 15 14,ND 16 96 15,⟨some 17,.val (.build [.int .i64 0,.int .u64 0,.str [],.nils,.nils,.nils,.nils] [(0,1,(.c (.int .i64 10))),(6,1,(.t 16))]),none⟩,yu 7 7,js 7 7 17]
abbrev Qzt:IL:=[ja 18 1,yo 19 18 0,ja 20 19,jv 21 1 20,jp 22 0 3 20,jt 23 22 20,yf 24 1 23 20,FQ 25 21 24 20,jo 26 20 25]
abbrev Qzu:IL:=[jf 27 7 7,js 7 6 27]
abbrev Qzv:IL:=[jb 28 5 5,jc 29 28,jr 30 97 29,ji 31 1 30,jd 32 0]
abbrev Qzw:IL:=[jn 33 32 31]
abbrev Qzx:IL:=[jk 34 8 30 32,jf 35 8 34,NA 9 9,js 8 9 35]
abbrev Qzy:IL:=[jb 37 0 3,yb 38 0 3 37,ja 39 1,jk 40 3 38 39,ya 41 3 40,jb 42 0 9,yb 43 0 9 42,jy 44 72 41 43,ja 36 44,jx 45 36 0,jx 46 36 1,zd 10 10,zp 0 10 8 10 45,ja 11 46]
abbrev Qzz:IL:=[jb 47 3 10,jc 48 47,jq 49 48 3,ja 50 49,jp 51 3 10 50,jt 52 51 50,ys 53 52 4 50,jo 54 50 53,ja 55 54,jp 56 3 10 55,jt 57 56 55,ys 58 57 5 55,jo 59 55 58,ja 12 59]
abbrev QzA:IL:=[jf 60 2 3,jf 61 8 10,jb 62 1 9,jf 63 7 62,yd 64 98 60 61 63,yu 13 13,js 7 13 64]
abbrev Qa7:IL:=[ja 65 12,jz 66 65,ja 67 66,yv 68 7 13 67,zi 69 99 68 67,ze 70 69 67,jo 71 67 70]
abbrev Qa8:IL:=[jb 72 5 7,jc 73 72,jb 74 0 9,jc 75 74,jf 76 7 13,⟨some 77,.val (.build [.int .i64 0,.int .i64 0,.int .u64 0,.str [],.nils,.nils,.nils,.nils] [(0,1,(.t 75)),(1,7,(.t 76))]),none⟩,⟨some 78,.bsl 8 1 [.int .i64 0,.int .i64 0,.int .u64 0,.str [],.nils,.nils,.nils,.nils] [(0,8,(.t 77))],none⟩,yh 79 8 136 47 73 78,jb 80 5 7,js 1 80 79]
abbrev Qa9:IL:=[jm 81 32 1,ja 32 81]
abbrev QzB:RC:=.gho (.drop 13) (.gho (.drop 10) (.gho (.drop 9) (jQ Qzw (.seq (jX 33 0) (.seq (.block 1 (jQ Qzx (jD Qzy (jQ Qzz (jQ QzA (jQ Qa7 (.cond (.t 71) (.reg Qa8) (.skip)))))))) (.reg Qa9))))))
abbrev Qba:IL:=[jb 82 6 7,jc 83 82,U7 84 100 83 101]
abbrev Qbb:IL:=[jf 85 7 7,js 7 6 85]
abbrev r57:RC:=jQ Qzr (jQ Qzs (.gho (.vecc 7 5 1100 8) (.seq (jQ Qzt (.cond (.t 26) (jQ Qzu (.ret)) (.skip))) (.seq (jQ Qzv (.block 0 (.loop QzB))) (jQ Qba (jQ Qbb (.ret)))))))
abbrev o57:List RR:=[.cell 6 (some 7)]
theorem k57:CT 57 86 r57 o57:=ck Tryz.func57 Tryz.ntmps57 (by decide +kernel)
abbrev QzC:IL:=[yi 2]
abbrev QzD:IL:=[⟨some 3,.allocN 2128 [.nilp,.nils],none⟩]
abbrev QzE:IL:=[ja 8 0,ji 9 1 8,jd 10 0]
abbrev QzF:IL:=[jn 11 10 9]
abbrev QzG:IL:=[jk 12 4 8 10,jf 13 4 12,zn 5 5,js 4 5 13]
abbrev QzH:IL:=[jf 14 4 5,jr 15 103 14,jz 16 15]
abbrev QzI:IL:=[jb 18 0 5,jc 19 18,jb 20 1 5,jc 21 20,jy 22 104 19 21,ja 17 22,jx 23 17 0,jx 24 17 1,ja 6 23,ja 7 24]
abbrev QzJ:IL:=[ja 25 6,yr 26 105 3 25]
abbrev Qbc:IL:=[jb 37 1 5,jc 38 37,jq 39 38 2,ja 36 39]
abbrev Qbd:IL:=[jb 40 2 5,jc 41 40,jr 42 106 41,yr 43 105 3 42]
abbrev Qbe:IL:=[jb 45 1 5,jc 46 45,jr 47 107 46,ja 44 47]
abbrev Qbf:IL:=[jb 48 2 5,jc 49 48,jr 50 108 49,yr 51 105 3 50]
abbrev QzK:IL:=[jb 27 3 5,jc 28 27,ji 29 0 28,zo 30 29,jr 31 108 30,yr 32 105 3 31]
abbrev QzL:IL:=[jb 33 3 5,jc 34 33,yr 35 105 3 34]
abbrev Qbg:IL:=[jm 52 10 1,ja 10 52]
abbrev QzM:RC:=.gho (.drop 5) (jQ QzF (.seq (jX 11 0) (.seq (.block 1 (jQ QzG (.seq (jQ QzH (.cond (.t 16) (.exit 1) (.skip))) (jQ QzI (jQ QzJ (.block 2 (jQ Qbc (.cond (.t 36) (.reg Qbd) (jQ Qbe (.cond (.t 44) (.reg Qbf) (jQ QzK (.reg QzL)))))))))))) (.reg Qbg))))
abbrev Qbh:IL:=[ND 53 109 3,ja 2 53]
abbrev r58:RC:=jQ QzC (jQ QzD (.gho (.vecc 2128 1 2005 1) (.seq (jQ QzE (.block 0 (.loop QzM))) (jQ Qbh (.ret)))))
abbrev o58:List RR:=[.tmp 2]
theorem k58:CT 58 54 r58 o58:=ck Tryz.func58 Tryz.ntmps58 (by decide +kernel)
abbrev QzN:IL:=[je 2 2 0,je 3 3 1,zd 4 4,jh 5]
abbrev QzO:IL:=[FP 6 116 3,⟨some 7,.val (.build [.nilf] [(0,1,(.t 6))]),none⟩,jf 8 3 2,yr 9 117 7 8,jx 10 9 0,jx 11 9 1,js 8 4 10,ja 5 11]
abbrev r72:RC:=jQ QzN (jQ QzO (.ret))
abbrev o72:List RR:=[.cell 4 (some 8),.tmp 5]
theorem k72:CT 72 12 r72 o72:=ck Tryz.func72 Tryz.ntmps72 (by decide +kernel)
abbrev QzP:IL:=[je 1 1 0,⟨some 2,.val (.mov (.c (.nilf))),none⟩]
abbrev QzQ:IL:=[jb 4 3 1,jc 5 4,jq 6 5 5,ja 3 6]
abbrev QzR:IL:=[⟨some 2,.val (.mov (.f 118)),none⟩]
abbrev QzS:IL:=[jf 8 8 1,jr 9 119 8,ja 7 9]
abbrev QzT:IL:=[⟨some 2,.val (.mov (.f 120)),none⟩]
abbrev QzU:IL:=[jb 11 3 1,jc 12 11,jq 13 12 4,ja 10 13]
abbrev QzV:IL:=[⟨some 2,.val (.mov (.f 121)),none⟩]
abbrev QzW:IL:=[⟨some 2,.val (.mov (.f 122)),none⟩]
abbrev r73:RC:=jQ QzP (.seq (.block 0 (jQ QzQ (.cond (.t 3) (jQ QzR (.ret)) (jQ QzS (.cond (.t 7) (jQ QzT (.ret)) (jQ QzU (.cond (.t 10) (jQ QzV (.ret)) (.skip)))))))) (jQ QzW (.ret)))
abbrev o73:List RR:=[.tmp 2]
theorem k73:CT 73 14 r73 o73:=ck Tryz.func73 Tryz.ntmps73 (by decide +kernel)
abbrev QzX:IL:=[je 1 1 0,jh 2]
abbrev QzY:IL:=[jb 3 0 1,jc 4 3,ji 5 1 4,jb 6 1 1,jc 7 6,ji 8 1 7,⟨some 9,.val (.mnx true (.t 5) (.t 8)),none⟩,yq 10 9 64,ja 11 10,jp 12 0 1 11,jt 13 12 11,zq 14 133 13 134 11,jo 15 11 14,ja 16 15,jp 17 1 1 16,jt 18 17 16,zq 19 135 18 136 16,jo 20 16 19,ja 2 20]
abbrev r83:RC:=jQ QzX (jQ QzY (.ret))
abbrev o83:List RR:=[.tmp 2]
theorem k83:CT 83 21 r83 o83:=ck Tryz.func83 Tryz.ntmps83 (by decide +kernel)
abbrev QzZ:IL:=[je 1 1 0,jh 2]
abbrev Qz0:IL:=[jb 3 0 1,jc 4 3,U7 5 133 4 137,ja 6 5,jp 7 1 1 6,jt 8 7 6,zq 9 135 8 142 6,jo 10 6 9,ja 2 10]
abbrev r84:RC:=jQ QzZ (jQ Qz0 (.ret))
abbrev o84:List RR:=[.tmp 2]
theorem k84:CT 84 11 r84 o84:=ck Tryz.func84 Tryz.ntmps84 (by decide +kernel)
abbrev Qz1:IL:=[je 1 1 0,jh 2]
abbrev Qz2:IL:=[jb 3 0 1,jc 4 3,U7 5 145 4 146,jz 6 5,ja 7 6,jp 8 1 1 7,jt 9 8 7,zq 10 147 9 148 7,ze 11 10 7,jo 12 7 11,ja 13 12,jp 14 0 1 13,jt 15 14 13,zq 16 133 15 149 13,jo 17 13 16,ja 18 17,jp 19 1 1 18,jt 20 19 18,zq 21 135 20 152 18,jo 22 18 21,ja 2 22]
abbrev r85:RC:=jQ Qz1 (jQ Qz2 (.ret))
abbrev o85:List RR:=[.tmp 2]
theorem k85:CT 85 23 r85 o85:=ck Tryz.func85 Tryz.ntmps85 (by decide +kernel)
abbrev Qz3:IL:=[je 1 1 0,jh 2]
abbrev Qz4:IL:=[jb 3 0 1,jc 4 3,FP 5 155 1,yr 6 133 4 5,ja 7 6,jp 8 1 1 7,jt 9 8 7,zq 10 135 9 159 7,jo 11 7 10,ja 2 11]
abbrev r86:RC:=jQ Qz3 (jQ Qz4 (.ret))
abbrev o86:List RR:=[.tmp 2]
theorem k86:CT 86 12 r86 o86:=ck Tryz.func86 Tryz.ntmps86 (by decide +kernel)
abbrev Qz5:IL:=[je 1 1 0,jh 2]
abbrev Qz6:IL:=[jb 3 0 1,jc 4 3,U7 5 133 4 162,ja 6 5,jp 7 1 1 6,jt 8 7 6,zq 9 135 8 164 6,jo 10 6 9,ja 2 10]
abbrev r87:RC:=jQ Qz5 (jQ Qz6 (.ret))
abbrev o87:List RR:=[.tmp 2]
theorem k87:CT 87 11 r87 o87:=ck Tryz.func87 Tryz.ntmps87 (by decide +kernel)
abbrev Qz7:IL:=[je 1 1 0,jh 2]
abbrev Qz8:IL:=[jb 3 0 1,jc 4 3,FP 5 165 1,yr 6 133 4 5,ja 7 6,jp 8 1 1 7,jt 9 8 7,zq 10 135 9 171 7,jo 11 7 10,ja 2 11]
abbrev r88:RC:=jQ Qz7 (jQ Qz8 (.ret))
abbrev o88:List RR:=[.tmp 2]
theorem k88:CT 88 12 r88 o88:=ck Tryz.func88 Tryz.ntmps88 (by decide +kernel)
abbrev Qz9:IL:=[je 1 1 0,jh 2]
abbrev QAa:IL:=[jb 6 0 1,jc 7 6,ji 8 1 7,⟨some 9,.mk 9 4 1 1 [.bool false] (.t 8) (.t 8),none⟩,⟨some 3,.allocN 3 [.nils],none⟩,js 1 3 9]
abbrev QAb:IL:=[jb 10 0 1,jc 11 10,ji 12 1 11,jd 13 0]
abbrev QAc:IL:=[jn 14 13 12]
abbrev QAd:IL:=[jb 15 0 1,jc 16 15,ji 17 1 16,jd 18 0]
abbrev QAe:IL:=[jn 19 18 17]
abbrev QAf:IL:=[ja 20 18,jk 21 3 16 18,jf 22 3 21,⟨some 5,.allocN 5 [.str [],.nils,.int .i64 0],none⟩,ja 4 20,js 3 5 22]
abbrev QAg:IL:=[yb 23 0 3 3,ja 24 4,yb 25 0 3 3,ja 26 4,jk 27 1 25 26,zx 28 27,ja 29 28,jp 30 1 5 29,zl 31 0 5 30 29,⟨some 32,.val (.mkfn (.func 174) [] [(.t 3)]),(some (29,false))⟩,⟨some 33,.callK 0 3 (.f 139) [(.t 31),(.t 32)],(some (29,false))⟩,ze 34 33 29,jo 35 29 34,jk 36 1 23 24,js 1 36 35]
abbrev QAh:IL:=[jm 37 18 1,ja 18 37]
abbrev QAi:RC:=.gho (.drop 5) (jQ QAe (.seq (jX 19 2) (.seq (.block 3 (jQ QAf (.draw QAg))) (.reg QAh))))
abbrev QAj:IL:=[jm 38 13 1,ja 13 38]
abbrev QAk:RC:=.gho (.drop 5) (jQ QAc (.seq (jX 14 0) (.seq (.block 1 (jQ QAd (.block 2 (.loop QAi)))) (.reg QAj))))
abbrev Qbi:IL:=[jc 39 3,⟨some 40,.call (.f 175) [(.t 39),(.c (.bool false))],none⟩,ja 2 40]
abbrev r89:RC:=jQ Qz9 (jQ QAa (.seq (jQ QAb (.block 0 (.loop QAk))) (jQ Qbi (.ret))))
abbrev o89:List RR:=[.tmp 2]
theorem k89:CT 89 41 r89 o89:=ck Tryz.func89 Tryz.ntmps89 (by decide +kernel)
abbrev QAl:IL:=[je 1 1 0,jh 2]
abbrev QAm:IL:=[jb 4 0 1,jc 5 4,jq 6 5 7,ja 7 6,jp 8 0 1 7,jt 9 8 7,ys 10 9 8 7,jo 11 7 10,ja 3 11]
abbrev QAn:IL:=[jb 12 0 1,jc 13 12,yg 14 13 11,ja 15 14,jl 16 3 1 15,ju 17 16 15,yt 18 1 17 15,Ny 19 18 0 15,jj 20 15 19,ja 21 20,jp 22 0 1 21,jt 23 22 21,NE 24 23 12 21,jv 25 24 21,jl 26 4 1 25,ju 27 26 25,yt 28 1 27 25,Ny 29 28 0 25,yw 30 25 29 21,jo 31 21 30,ja 32 31,jp 33 0 1 32,jt 34 33 32,NE 35 34 10 32,jv 36 35 32,jl 37 5 1 36,ju 38 37 36,yt 39 1 38 36,jl 40 6 1 36,ju 41 40 36,yt 42 1 41 36,⟨some 43,.val (.bin .num .add (.t 39) (.t 42)),(some (36,true))⟩,Ny 44 43 0 36,yw 45 36 44 32,jo 46 32 45,ja 47 46,jp 48 1 1 47,jt 49 48 47,⟨some 50,.val (.bin .num .neq (.t 49) (.c (.int .u64 0))),(some (47,false))⟩,jv 51 50 47,jg 52 3 51,jg 53 52 51,jp 54 0 1 53,jt 55 54 53,⟨some 56,.val (.bin .num .geq (.t 55) (.c (.int .i64 10))),(some (53,false))⟩,jv 57 56 53,jl 58 0 1 57,ju 59 58 57,yy 60 59 12 57,yw 61 57 60 53,zf 62 53 61 51,yw 63 51 62 47,jo 64 47 63,ja 65 64,jp 66 2 1 65,jt 67 66 65,⟨some 68,.val (.bin .str .neq (.t 67) (.c (.str []))),(some (65,false))⟩,jv 69 68 65,jg 70 3 69,yx 71 70 69,yw 72 69 71 65,jo 73 65 72,ja 2 73]
abbrev r90:RC:=jQ QAl (jQ QAm (jQ QAn (.ret)))
abbrev o90:List RR:=[.tmp 2]
theorem k90:CT 90 74 r90 o90:=ck Tryz.func90 Tryz.ntmps90 (by decide +kernel)
abbrev QAo:IL:=[je 5 5 0,je 6 6 1,jd 10 0]
abbrev QAp:IL:=[jw 18 0 6 3 6,ja 19 2,ja 20 3,jk 21 8 19 20,jb 22 0 21,zx 23 22,jy 24 72 18 23,ja 17 24,jx 25 17 0,jx 26 17 1,zd 11 11,zp 0 11 8 11 25,ja 12 26]
abbrev QAq:IL:=[ja 27 12,jz 28 27]
abbrev QAr:IL:=[jd 10 8]
abbrev QAs:IL:=[ja 29 2,ja 30 3,FS 31 8 29 30,FP 32 176 11,yr 33 92 31 32]
abbrev QAt:IL:=[jd 10 9]
abbrev QAu:IL:=[ja 34 2,ja 35 3,FS 36 8 34 35,ji 37 1 36,jd 38 0]
abbrev QAv:IL:=[jn 39 38 37]
abbrev QAw:IL:=[jk 40 8 36 38,jf 41 8 40,NA 14 14,js 8 14 41]
abbrev QAx:IL:=[jf 43 3 6,jb 44 0 14,jc 45 44,jy 46 72 43 45,ja 42 46,jx 47 42 0,jx 48 42 1,zd 15 15,js 8 15 47,ja 16 48]
abbrev Qbj:IL:=[jb 49 7 11,jc 50 49,yg 51 50 (-1),ja 52 51,jl 53 7 15 52,ju 54 53 52,jl 55 7 11 52,ju 56 55 52,Mg 57 54 56 52,jj 58 52 57]
abbrev Qbk:IL:=[jd 10 15]
abbrev Qbl:IL:=[jm 59 38 1,ja 38 59]
abbrev QAy:RC:=.gho (.drop 15) (.gho (.drop 14) (jQ QAv (.seq (jX 39 0) (.seq (.block 1 (jQ QAw (jQ QAx (jQ Qbj (.cond (.t 58) (jQ Qbk (.ret)) (.skip)))))) (.reg Qbl)))))
abbrev Qbm:IL:=[jw 60 0 5 2 5,jw 61 0 11 8 11,ja 62 2,ja 63 3,jk 64 8 62 63,jb 65 1 64,ya 66 7 65,ja 67 4,zj 68 177 60 61 66 67,ja 10 68]
abbrev r91:RC:=jQ QAo (jD QAp (.seq (jQ QAq (.cond (.t 28) (jQ QAr (.ret)) (.skip))) (.seq (jQ QAs (.cond (.t 33) (jQ QAt (.ret)) (.skip))) (.seq (jQ QAu (.block 0 (.loop QAy))) (jD Qbm (.ret))))))
abbrev o91:List RR:=[.tmp 10]
theorem k91:CT 91 69 r91 o91:=ck Tryz.func91 Tryz.ntmps91 (by decide +kernel)
abbrev QAz:IL:=[jh 4]
abbrev QAA:IL:=[ja 5 0,ja 6 1,yr 7 178 5 6,yn 8 7 0,ja 4 8]
abbrev r92:RC:=jQ QAz (jQ QAA (.ret))
abbrev o92:List RR:=[.tmp 4]
theorem k92:CT 92 9 r92 o92:=ck Tryz.func92 Tryz.ntmps92 (by decide +kernel)
abbrev QAB:IL:=[je 1 1 0,ye 2]
abbrev QAC:IL:=[jb 8 3 1,jc 9 8,ND 10 180 9,ja 3 10]
abbrev QAD:IL:=[jb 11 4 1,jc 12 11,ji 13 1 12,jd 14 0]
abbrev QAE:IL:=[jn 15 14 13]
abbrev QAF:IL:=[jk 16 14 12 14,jf 17 14 16,R6 5 5,js 14 5 17]
abbrev QAG:IL:=[ja 18 3,jb 19 0 5,jf 20 7 19,jb 21 7 5,jf 22 7 21,⟨some 23,.bsl 7 2 [.int .i64 0,.int .u64 0,.str [],.nils,.nils,.nils,.nils] [(0,7,(.t 20)),(7,7,(.t 22))],none⟩,yh 24 7 128 32 18 23,ja 3 24]
abbrev QAH:IL:=[jm 25 14 1,ja 14 25]
abbrev QAI:RC:=.gho (.drop 5) (jQ QAE (.seq (jX 15 0) (.seq (.block 1 (jQ QAF (.reg QAG))) (.reg QAH))))
abbrev QAJ:IL:=[jb 26 5 1,jc 27 26,ji 28 1 27,jd 29 0]
abbrev QAK:IL:=[jn 30 29 28]
abbrev QAL:IL:=[jk 31 8 27 29,jf 32 8 31,NA 7 7,js 8 7 32]
abbrev Qbn:IL:=[ja 33 3,jb 34 1 7,jf 35 7 34,⟨some 36,.bsl 7 1 [.int .i64 0,.int .u64 0,.str [],.nils,.nils,.nils,.nils] [(0,7,(.t 35))],none⟩,yh 37 7 128 32 33 36,ja 3 37]
abbrev Qbo:IL:=[jm 38 29 1,ja 29 38]
abbrev QAM:RC:=.gho (.drop 7) (jQ QAK (.seq (jX 30 2) (.seq (.block 3 (jQ QAL (.reg Qbn))) (.reg Qbo))))
abbrev Qbp:IL:=[ja 39 3,ja 2 39]
abbrev r95:RC:=jQ QAB (jQ QAC (.seq (jQ QAD (.block 0 (.loop QAI))) (.seq (jQ QAJ (.block 2 (.loop QAM))) (jQ Qbp (.ret)))))
abbrev o95:List RR:=[.tmp 2]
theorem k95:CT 95 40 r95 o95:=ck Tryz.func95 Tryz.ntmps95 (by decide +kernel)
def VH:IL:=[ye 2]
def VI:IL:=[ja 3 0,⟨some 4,.isnil false (.t 3),none⟩]
def VJ:IL:=[ye 2]
def VK:IL:=[⟨some 5,.bsl0 5 4,none⟩,ja 6 0,yh 7 4 40 52 5 6,ja 2 7]
def R9:RC:=jQ VH (.seq (jQ VI (.cond (.t 4) (jQ VJ (.gho (.vec 2 2 4) (.gho (.give 2 2 1 1000) (.ret)))) (.skip))) (jQ VK (.gho (.give 2 5 1 1000) (.ret))))
def NK:List RR:=[.tmp 2]
theorem k96:CT 96 8 R9 NK:=ck Tryz.func96 Tryz.ntmps96 (by decide +kernel)
abbrev QAN:IL:=[ye 2]
abbrev QAO:IL:=[ja 7 0,ND 8 181 7,ja 3 8]
abbrev QAP:IL:=[ja 9 3,U7 10 182 9 183]
abbrev QAQ:IL:=[ye 4]
abbrev QAR:IL:=[ja 11 3,ji 12 1 11,jd 13 0]
abbrev QAS:IL:=[jn 14 13 12]
abbrev QAT:IL:=[ja 15 13,jk 16 8 11 13,jf 17 8 16,NA 6 6,ja 5 15,js 8 6 17]
abbrev QAU:IL:=[ja 18 5,jm 19 18 1,ja 20 3,ji 21 1 20,zm 22 19 21,ja 23 22,jp 24 0 6 23,zl 25 0 6 24 23,jv 26 3 23,jv 27 5 23,⟨some 28,.val (.bin .num .add (.t 27) (.c (.int .i64 1))),(some (23,false))⟩,yz 29 8 26 28 23,jp 30 0 29 23,NF 31 30 23,U8 32 25 31 23,jo 33 23 32]
abbrev QAV:IL:=[ja 34 4,jf 35 8 6,⟨some 36,.bsl 8 1 [.int .i64 0,.int .i64 0,.int .u64 0,.str [],.nils,.nils,.nils,.nils] [(0,8,(.t 35))],none⟩,yh 37 8 136 47 34 36,ja 4 37]
abbrev QAW:IL:=[jm 38 13 1,ja 13 38]
abbrev QAX:RC:=.gho (.drop 6) (jQ QAS (.seq (jX 14 0) (.seq (.block 1 (jQ QAT (jD QAU (.cond (.t 33) (.reg QAV) (.skip))))) (.reg QAW))))
abbrev Qbr:IL:=[ja 39 4,ja 2 39]
abbrev r97:RC:=jQ QAN (jQ QAO (jQ QAP (jQ QAQ (.gho (.vec 4 4 8) (.seq (jQ QAR (.block 0 (.loop QAX))) (jQ Qbr (.ret)))))))
abbrev o97:List RR:=[.tmp 2]
theorem k97:CT 97 40 r97 o97:=ck Tryz.func97 Tryz.ntmps97 (by decide +kernel)
abbrev QAY:IL:=[je 3 3 0,je 4 4 1,je 5 5 2,yu 6 6]
abbrev QAZ:IL:=[jb 13 3 4,jc 14 13]
abbrev QA0:IL:=[jq 16 14 4,ja 15 16]
abbrev QA1:IL:=[⟨some 17,.val (.build [.int .i64 0,.int .u64 0,.str [],.nils,.nils,.nils,.nils] [(0,1,(.c (.int .i64 11)))]),none⟩,yu 7 7,js 7 7 17]
abbrev QA2:IL:=[jb 18 3 5,jc 19 18,ji 20 1 19,jd 21 0]
abbrev QA3:IL:=[jn 22 21 20]
abbrev QA4:IL:=[jk 23 7 19 21,jf 24 7 23,yu 9 9,js 7 9 24]
abbrev QA5:IL:=[jb 25 3 7,yb 26 0 7 25,jw 27 0 3 2 3,jw 28 0 4 8 4,jw 29 0 9 7 9,yd 30 184 27 28 29,⟨some 31,.bsl 7 1 [.int .i64 0,.int .u64 0,.str [],.nils,.nils,.nils,.nils] [(0,7,(.t 30))],none⟩,yh 32 7 128 32 26 31,jb 33 3 7,zp 0 7 1 33 32]
abbrev QA6:IL:=[jm 34 21 1,ja 21 34]
abbrev QA7:RC:=.gho (.drop 9) (jQ QA3 (.seq (jX 22 1) (.seq (.block 2 (jQ QA4 (.draw QA5))) (.reg QA6))))
abbrev QA8:IL:=[jf 35 7 7,js 7 6 35]
abbrev Qbs:IL:=[jq 37 14 5,ja 36 37]
abbrev Qbt:IL:=[⟨some 38,.val (.build [.int .i64 0,.int .u64 0,.str [],.nils,.nils,.nils,.nils] [(0,1,(.c (.int .i64 12)))]),none⟩,yu 10 10,js 7 10 38]
abbrev Qbu:IL:=[jb 39 4 5,jc 40 39,jr 41 185 40,ji 42 1 41,jd 43 0]
abbrev Qbv:IL:=[jn 44 43 42]
abbrev Qbw:IL:=[jk 45 14 41 43,jf 46 14 45,R6 12 12,js 14 12 46]
abbrev Qbx:IL:=[jb 47 4 10,yb 48 0 10 47,jb 49 0 12,jw 50 0 12 7 49,jr 51 51 50,jw 52 0 3 2 3,jw 53 0 4 8 4,jb 54 7 12,jw 55 0 12 7 54,yd 56 184 52 53 55,⟨some 57,.val (.build [.int .i64 0,.int .u64 0,.str [],.nils,.nils,.nils,.nils,.int .i64 0,.int .u64 0,.str [],.nils,.nils,.nils,.nils] [(0,7,(.t 51)),(7,7,(.t 56))]),none⟩,⟨some 58,.bsl 14 1 [.int .i64 0,.int .u64 0,.str [],.nils,.nils,.nils,.nils,.int .i64 0,.int .u64 0,.str [],.nils,.nils,.nils,.nils] [(0,14,(.t 57))],none⟩,yh 59 14 256 75 48 58,jb 60 4 10,zp 0 10 1 60 59]
abbrev Qby:IL:=[jm 61 43 1,ja 43 61]
abbrev QA9:RC:=.gho (.drop 12) (jQ Qbv (.seq (jX 44 3) (.seq (.block 4 (jQ Qbw (.draw Qbx))) (.reg Qby))))
abbrev Qbz:IL:=[jf 62 7 10,js 7 6 62]
abbrev QbA:IL:=[jf 63 2 3,jf 64 8 4,jf 65 7 5,yd 66 184 63 64 65,js 7 6 66]
abbrev r98:RC:=jQ QAY (.seq (jQ QAZ (.block 0 (jQ QA0 (.cond (.t 15) (jQ QA1 (.gho (.vecc 7 3 1100 7) (.seq (jQ QA2 (.block 1 (.loop QA7))) (jQ QA8 (.ret))))) (jQ Qbs (.cond (.t 36) (jQ Qbt (.gho (.vecc 10 4 1101 14) (.seq (jQ Qbu (.block 3 (.loop QA9))) (jQ Qbz (.ret))))) (.skip))))))) (jQ QbA (.ret)))
abbrev o98:List RR:=[.cell 6 (some 7)]
theorem Sa:CT 98 67 r98 o98:=ck Tryz.func98 Tryz.ntmps98 (by decide +kernel)
abbrev QBa:IL:=[je 1 1 0,jh 2]
abbrev QBb:IL:=[jb 3 0 1,jc 4 3,jq 5 4 11,ja 6 5,jl 7 3 1 6,ju 8 7 6,yt 9 1 8 6,ym 10 9 0 6,jj 11 6 10,ja 12 11,jp 13 0 1 12,jt 14 13 12,ys 15 14 12 12,jv 16 15 12,jl 17 4 1 16,ju 18 17 16,yt 19 1 18 16,ym 20 19 0 16,yw 21 16 20 12,jo 22 12 21,ja 23 22,yv 24 7 1 23,zi 25 186 24 23,jo 26 23 25,ja 2 26]
abbrev r99:RC:=jQ QBa (jQ QBb (.ret))
abbrev o99:List RR:=[.tmp 2]
theorem k99:CT 99 27 r99 o99:=ck Tryz.func99 Tryz.ntmps99 (by decide +kernel)
abbrev QbB:IL:=[ja 4 0,ja 5 0,ji 6 1 5,ja 7 1,⟨some 8,.callF (.f 187) [(.t 4),(.t 6),(.t 7)],none⟩]
abbrev QbC:RC:=.reg QbB
abbrev QbD:List RR:=[]
theorem QKJ:CT 100 9 QbC QbD:=ck Tryz.func100 Tryz.ntmps100 (by decide +kernel)
abbrev QbE:IL:=[jd 4 0]
abbrev QbF:IL:=[ja 7 0,jr 8 188 7,ja 5 8]
abbrev QbG:IL:=[ja 9 1,jr 10 188 9,ja 6 10]
abbrev QbH:IL:=[ja 11 5]
abbrev QbI:IL:=[ja 12 6]
abbrev QbJ:IL:=[jd 4 0]
abbrev QbK:IL:=[jd 4 (-1)]
abbrev QbL:IL:=[ja 13 6]
abbrev QbM:IL:=[jd 4 1]
abbrev QbN:IL:=[ja 14 0,ja 15 1,jn 16 14 15]
abbrev An:IL:=[jd 4 (-1)]
abbrev Ao:IL:=[ja 17 0,ja 18 1,FO 19 17 18]
abbrev Ap:IL:=[jd 4 1]
abbrev Aq:IL:=[jd 4 0]
abbrev QbO:RC:=jQ QbE (jQ QbF (jQ QbG (.seq (jQ QbH (.cond (.t 11) (.seq (jQ QbI (.cond (.t 12) (jQ QbJ (.ret)) (.skip))) (jQ QbK (.ret))) (.skip))) (.seq (jQ QbL (.cond (.t 13) (jQ QbM (.ret)) (.skip))) (.seq (jQ QbN (.cond (.t 16) (jQ An (.ret)) (.skip))) (.seq (jQ Ao (.cond (.t 19) (jQ Ap (.ret)) (.skip))) (jQ Aq (.ret))))))))
abbrev QbP:List RR:=[.tmp 4]
theorem QbQ:CT 102 20 QbO QbP:=ck Tryz.func102 Tryz.ntmps102 (by decide +kernel)
abbrev QbR:IL:=[je 1 1 0,jh 2]
abbrev QbS:IL:=[jb 6 0 1,jc 7 6,jb 8 1 1,jc 9 8,jy 10 104 7 9,ja 5 10,jx 11 5 0,jx 12 5 1,ja 3 11,ja 4 12]
abbrev QbT:IL:=[ja 13 4,yg 14 13 0]
abbrev QbU:IL:=[jh 2]
abbrev QbV:IL:=[jb 15 1 1,jc 16 15,jr 17 107 16]
abbrev QbW:IL:=[jb 18 3 1,jc 19 18,⟨some 20,.val (.bin .str .eql (.t 19) (.c (.str []))),none⟩,ja 2 20]
abbrev QbX:IL:=[jb 21 2 1,jc 22 21,Gi 23 22 0,ja 2 23]
abbrev QbY:RC:=jQ QbR (.seq (jQ QbS (jQ QbT (.cond (.t 14) (jQ QbU (.ret)) (.skip)))) (.seq (jQ QbV (.cond (.t 17) (jQ QbW (.ret)) (.skip))) (jQ QbX (.ret))))
abbrev QbZ:List RR:=[.tmp 2]
theorem Qb0:CT 103 24 QbY QbZ:=ck Tryz.func103 Tryz.ntmps103 (by decide +kernel)
abbrev Qb1:IL:=[yi 4,jd 5 0]
abbrev Qb2:IL:=[ja 6 0,yo 7 6 1,ja 8 7,jv 9 0 8,yk 10 9 65535 8,jo 11 8 10,ja 12 11,jv 13 1 12,Nz 14 13 0 12,jo 15 12 14,ja 16 15,jv 17 1 16,yk 18 17 6 16,jo 19 16 18]
abbrev Qb3:IL:=[yi 4,jd 5 6]
abbrev Qb4:IL:=[ja 20 0,⟨some 21,.val (.bin .num .mul (.t 20) (.c (.int .i64 8))),none⟩,ja 22 1,yj 23 21 22,zo 24 23,jr 25 108 24,ja 4 25,jd 5 0]
abbrev Qb5:RC:=jQ Qb1 (.seq (jQ Qb2 (.cond (.t 19) (jQ Qb3 (.ret)) (.skip))) (jQ Qb4 (.ret)))
abbrev Qb6:List RR:=[.tmp 4,.tmp 5]
theorem Qb7:CT 104 26 Qb5 Qb6:=ck Tryz.func104 Tryz.ntmps104 (by decide +kernel)
abbrev Qb8:IL:=[jd 4 0,⟨some 5,.val (.mov (.c (.nili))),none⟩]
abbrev Qb9:IL:=[ja 6 0,ND 7 189 6]
abbrev Qca:IL:=[ja 8 0,ja 9 0,FV 10 9,jb 11 1 10,jc 12 11,ja 13 1,⟨some 14,.appS 5 (.t 12) (.t 13),none⟩,FV 15 8,jb 16 1 15,js 1 16 14]
abbrev Qcb:IL:=[ja 17 1,ji 18 0 17,ja 4 18,⟨some 5,.val (.mov (.c (.nili))),none⟩]
abbrev Qcc:RC:=jQ Qb8 (jQ Qb9 (jQ Qca (jQ Qcb (.ret))))
abbrev Qcd:List RR:=[.tmp 4,.tmp 5]
theorem Qce:CT 105 19 Qcc Qcd:=ck Tryz.func105 Tryz.ntmps105 (by decide +kernel)
abbrev Qcf:IL:=[jh 2]
abbrev Qcg:IL:=[ja 3 0,jq 4 3 0,ja 5 4,jv 6 0 5,ys 7 6 1 5,jo 8 5 7,ja 9 8,jv 10 0 9,ys 11 10 2 9,jo 12 9 11,ja 2 12]
abbrev Qch:RC:=jQ Qcf (jQ Qcg (.ret))
abbrev Qci:List RR:=[.tmp 2]
theorem Qcj:CT 107 13 Qch Qci:=ck Tryz.func107 Tryz.ntmps107 (by decide +kernel)
abbrev Qck:IL:=[yi 2]
abbrev Qcl:IL:=[ye 3]
abbrev Qcm:IL:=[ja 4 0,⟨some 5,.val (.bin .num .geq (.t 4) (.c (.int .u64 128))),none⟩]
abbrev Qcn:IL:=[ja 6 3,ja 7 0,DO 8 7,⟨some 9,.val (.bin .num .or (.t 8) (.c (.int .u8 128))),none⟩,NG 10 1 1 0 1 9,yh 11 1 1 5 6 10,ja 3 11]
abbrev Qco:IL:=[ja 12 0,jbb 13 12 7,ja 0 13]
abbrev Qcp:RC:=.seq (jQ Qcm (jX 5 0)) (.block 1 (jQ Qcn (.reg Qco)))
abbrev Qcq:IL:=[ja 14 3,ja 15 0,DO 16 15,NG 17 1 1 0 1 16,yh 18 1 1 5 14 17,NH 19 18,ja 2 19]
abbrev Qcr:RC:=jQ Qck (jQ Qcl (.gho (.vec 3 3 1) (.seq (.block 0 (.loop Qcp)) (jQ Qcq (.ret)))))
abbrev Qcs:List RR:=[.tmp 2]
theorem Qct:CT 108 20 Qcr Qcs:=ck Tryz.func108 Tryz.ntmps108 (by decide +kernel)
abbrev Qcu:IL:=[yi 2]
abbrev Qcv:IL:=[ja 3 0,FV 4 3,jb 5 1 4,⟨some 6,.val (.loado none (.t 5)),none⟩,⟨some 7,.usd (.t 6),none⟩,ja 8 0,FV 9 8,jb 10 1 9,⟨some 11,.val (.loado none (.t 10)),none⟩,ji 12 1 11,⟨some 13,.ustr 5 (.t 7) (.t 12),none⟩,ja 2 13]
abbrev Qcw:RC:=jQ Qcu (jD Qcv (.ret))
abbrev Qcx:List RR:=[.tmp 2]
theorem Qcy:CT 109 14 Qcw Qcx:=ck Tryz.func109 Tryz.ntmps109 (by decide +kernel)
abbrev Qcz:IL:=[je 2 2 0,jh 3]
abbrev QcA:IL:=[jb 4 0 2,jc 5 4,jc 6 1,zm 7 5 6,ja 3 7]
abbrev QcB:RC:=jQ Qcz (jQ QcA (.ret))
abbrev QcC:List RR:=[.tmp 3]
theorem QcD:CT 116 8 QcB QcC:=ck Tryz.func116 Tryz.ntmps116 (by decide +kernel)
abbrev QcE:IL:=[je 2 2 0,je 3 3 1,zd 4 4,jh 5]
abbrev QcF:IL:=[jb 7 1 3,jc 8 7,jb 9 0 2,jc 10 9,yr 11 195 8 10,ja 6 11]
abbrev QcG:IL:=[ja 12 6,yo 13 12 0]
abbrev QcH:IL:=[⟨some 14,.val (.build [.int .i64 0,.str [],.str [],.int .i64 0,.int .i64 0,.int .i64 0,.int .i64 0,.int .i64 0] []),none⟩,js 8 4 14,jh 5]
abbrev QcI:IL:=[jb 15 1 3,jc 16 15,ja 17 6,jk 18 8 16 17,jf 19 8 18,js 8 4 19,yl 5]
abbrev QcJ:RC:=jQ QcE (jQ QcF (.seq (jQ QcG (.cond (.t 13) (jQ QcH (.ret)) (.skip))) (jQ QcI (.ret))))
abbrev QcK:List RR:=[.cell 4 (some 8),.tmp 5]
theorem QcL:CT 117 20 QcJ QcK:=ck Tryz.func117 Tryz.ntmps117 (by decide +kernel)
abbrev QcM:IL:=[je 1 1 0,jh 2]
abbrev QcN:IL:=[jb 3 3 1,jc 4 3,jq 5 4 4,ja 6 5,jl 7 5 1 6,ju 8 7 6,U9 9 8 1 6,jg 10 9 6,jl 11 5 1 10,ju 12 11 10,yy 13 12 6 10,⟨some 14,.val (.pick (.t 10) (.t 13) (.c (.bool false))),(some (6,true))⟩,jg 15 14 6,jp 16 5 1 15,jt 17 16 15,ys 18 17 9 15,zf 19 15 18 6,jj 20 6 19,ja 2 20]
abbrev QcO:RC:=jQ QcM (jQ QcN (.ret))
abbrev QcP:List RR:=[.tmp 2]
theorem QcQ:CT 119 21 QcO QcP:=ck Tryz.func119 Tryz.ntmps119 (by decide +kernel)
abbrev QcR:IL:=[je 3 3 0,je 4 4 1,je 5 5 2,ye 6]
abbrev QcS:IL:=[jf 13 8 4,zd 7 7,js 8 7 13]
abbrev QcT:IL:=[jb 14 3 7,⟨none,.store 1 (.t 14) (.c (.int .i64 2)),none⟩]
abbrev QcU:IL:=[jf 15 8 7,jr 16 198 15,ja 8 16]
abbrev QcV:IL:=[ja 17 8,DO 18 17,⟨some 19,.bslv 19 1 1 [.int .u8 0] [(0,1,(.t 18))],none⟩,ja 9 19]
abbrev QcW:IL:=[jb 20 3 5,jc 21 20,ji 22 1 21,jd 23 0]
abbrev QcX:IL:=[jn 24 23 22]
abbrev QcY:IL:=[jk 25 7 21 23,jf 26 7 25,yu 11 11,js 7 11 26]
abbrev QcZ:IL:=[jf 27 7 11,jr 28 25 27,⟨some 29,.val (.fld 2 none (.t 28)),none⟩,ja 12 29]
abbrev Qc0:IL:=[ja 30 8,jq 31 30 2]
abbrev Ar:IL:=[ja 32 9,ja 33 12,jr 34 106 33,⟨some 35,.appS 5 (.t 32) (.t 34),none⟩,ja 9 35]
abbrev As:IL:=[ja 36 9,ja 37 12,jr 38 108 37,⟨some 39,.appS 5 (.t 36) (.t 38),none⟩,ja 9 39]
abbrev Au:IL:=[jm 40 23 1,ja 23 40]
abbrev Qc1:RC:=.gho (.drop 11) (jQ QcX (.seq (jX 24 0) (.seq (.block 1 (jQ QcY (jQ QcZ (jQ Qc0 (.cond (.t 31) (.reg Ar) (.reg As)))))) (.reg Au))))
abbrev Av:IL:=[jb 41 0 4,jc 42 41,ja 43 9,NH 44 43,⟨some 45,.val (.build [.int .i64 0,.int .i64 0,.int .u64 0,.str []] [(0,1,(.t 42)),(1,1,(.c (.int .i64 5))),(3,1,(.t 44))]),none⟩,zw 46 4 1 0 4 45,ja 6 46]
abbrev Qc2:RC:=jQ QcR (jQ QcS (jQ QcT (jQ QcU (jQ QcV (.seq (jQ QcW (.block 0 (.loop Qc1))) (jQ Av (.ret)))))))
abbrev Qc3:List RR:=[.tmp 6]
theorem Qc4:CT 120 47 Qc2 Qc3:=ck Tryz.func120 Tryz.ntmps120 (by decide +kernel)
abbrev Qc5:IL:=[je 3 3 0,je 4 4 1,je 5 5 2,ye 6]
abbrev Qc6:IL:=[jb 7 0 4,yb 8 0 4 7,jw 9 0 3 2 3,jw 10 0 4 8 4,jw 11 0 5 7 5,yd 12 197 9 10 11,jy 13 196 8 12,zw 14 4 1 0 4 13,ja 6 14]
abbrev Qc7:RC:=jQ Qc5 (jD Qc6 (.ret))
abbrev Qc8:List RR:=[.tmp 6]
theorem Qc9:CT 122 15 Qc7 Qc8:=ck Tryz.func122 Tryz.ntmps122 (by decide +kernel)
abbrev Qda:IL:=[jh 4]
abbrev Qdb:IL:=[ja 5 0,ja 6 1,yr 7 203 5 6,ja 4 7]
abbrev Qdc:RC:=jQ Qda (jQ Qdb (.ret))
abbrev Qdd:List RR:=[.tmp 4]
theorem Qde:CT 133 8 Qdc Qdd:=ck Tryz.func133 Tryz.ntmps133 (by decide +kernel)
abbrev Qdf:IL:=[je 1 1 0,jh 2]
abbrev Qdg:IL:=[jb 3 1 1,jc 4 3,ji 5 1 4,yq 6 5 64,ja 2 6]
abbrev Qdh:RC:=jQ Qdf (jQ Qdg (.ret))
abbrev Qdi:List RR:=[.tmp 2]
theorem Qdj:CT 134 7 Qdh Qdi:=ck Tryz.func134 Tryz.ntmps134 (by decide +kernel)
abbrev Qdk:IL:=[jh 4]
abbrev Qdl:IL:=[ja 5 0,ja 6 1,yr 7 204 5 6,ja 4 7]
abbrev Qdm:RC:=jQ Qdk (jQ Qdl (.ret))
abbrev Qdn:List RR:=[.tmp 4]
theorem Qdo:CT 135 8 Qdm Qdn:=ck Tryz.func135 Tryz.ntmps135 (by decide +kernel)
abbrev Qdp:IL:=[je 1 1 0,jh 2]
abbrev Qdq:IL:=[jb 3 0 1,jc 4 3,jr 5 138 4,jz 6 5,ja 7 6,jp 8 1 1 7,jt 9 8 7,zq 10 139 9 140 7,jo 11 7 10,ja 2 11]
abbrev Qdr:RC:=jQ Qdp (jQ Qdq (.ret))
abbrev Qds:List RR:=[.tmp 2]
theorem Qdt:CT 137 12 Qdr Qds:=ck Tryz.func137 Tryz.ntmps137 (by decide +kernel)
abbrev Qdu:IL:=[jh 2]
abbrev Qdv:IL:=[ja 3 0,jr 4 205 3,ja 5 4,jg 6 0 5,⟨some 7,.call (.f 207) [(.t 6),(.c (.str [46]))],(some (5,true))⟩,⟨some 8,.callF (.f 206) [(.t 7),(.f 208)],(some (5,true))⟩,yx 9 8 5,jj 10 5 9,ja 2 10]
abbrev Qdw:RC:=jQ Qdu (jQ Qdv (.ret))
abbrev Qdx:List RR:=[.tmp 2]
theorem Qdy:CT 138 11 Qdw Qdx:=ck Tryz.func138 Tryz.ntmps138 (by decide +kernel)
abbrev Qdz:IL:=[jh 4]
abbrev QdA:IL:=[ja 5 0,ja 6 1,yr 7 209 5 6,ja 4 7]
abbrev QdB:RC:=jQ Qdz (jQ QdA (.ret))
abbrev QdC:List RR:=[.tmp 4]
theorem QdD:CT 139 8 QdB QdC:=ck Tryz.func139 Tryz.ntmps139 (by decide +kernel)
abbrev QdE:IL:=[je 1 1 0,jh 2]
abbrev QdF:IL:=[jb 3 1 1,jc 4 3,jr 5 141 4,jz 6 5,ja 2 6]
abbrev QdG:RC:=jQ QdE (jQ QdF (.ret))
abbrev QdH:List RR:=[.tmp 2]
theorem QdI:CT 140 7 QdG QdH:=ck Tryz.func140 Tryz.ntmps140 (by decide +kernel)
abbrev QdJ:IL:=[jh 2]
abbrev QdK:IL:=[ja 3 0,jr 4 210 3,ja 5 4,jg 6 0 5,zh 7 208 6 5,yx 8 7 5,jj 9 5 8,ja 2 9]
abbrev QdL:RC:=jQ QdJ (jQ QdK (.ret))
abbrev QdM:List RR:=[.tmp 2]
theorem QdN:CT 141 10 QdL QdM:=ck Tryz.func141 Tryz.ntmps141 (by decide +kernel)
abbrev QdO:IL:=[jh 4]
abbrev QdP:IL:=[jd 5 1]
abbrev QdQ:IL:=[ja 6 5,ja 7 0,ji 8 1 7,jn 9 6 8]
abbrev QdR:IL:=[ja 12 1,ja 13 0,ja 14 5,za 15 14 1,jk 16 3 13 15,ya 17 3 16,ja 18 0,ja 19 5,jk 20 3 18 19,ya 21 3 20,⟨some 22,.callF (.t 12) [(.t 17),(.t 21)],none⟩,jz 23 22]
abbrev QdS:IL:=[jh 4]
abbrev QdT:IL:=[ja 10 5,jm 11 10 1,ja 5 11]
abbrev QdU:RC:=.seq (jQ QdQ (jX 9 0)) (.seq (.block 1 (jD QdR (.cond (.t 23) (jQ QdS (.ret)) (.skip)))) (.reg QdT))
abbrev QdV:IL:=[yl 4]
abbrev QdW:RC:=jQ QdO (.seq (jQ QdP (.block 0 (.loop QdU))) (jQ QdV (.ret)))
abbrev QdX:List RR:=[.tmp 4]
theorem QdY:CT 145 24 QdW QdX:=ck Tryz.func145 Tryz.ntmps145 (by decide +kernel)
abbrev QdZ:IL:=[jh 4]
abbrev Qd0:IL:=[jd 5 1]
abbrev Qd1:IL:=[ja 6 5,ja 7 0,ji 8 1 7,jn 9 6 8]
abbrev Qd2:IL:=[ja 12 1,ja 13 0,ja 14 5,za 15 14 1,jk 16 5 13 15,ya 17 5 16,ja 18 0,ja 19 5,jk 20 5 18 19,ya 21 5 20,⟨some 22,.callF (.t 12) [(.t 17),(.t 21)],none⟩,jz 23 22]
abbrev Qd3:IL:=[jh 4]
abbrev Qd4:IL:=[ja 10 5,jm 11 10 1,ja 5 11]
abbrev Qd5:RC:=.seq (jQ Qd1 (jX 9 0)) (.seq (.block 1 (jD Qd2 (.cond (.t 23) (jQ Qd3 (.ret)) (.skip)))) (.reg Qd4))
abbrev Qd6:IL:=[yl 4]
abbrev Qd7:RC:=jQ QdZ (.seq (jQ Qd0 (.block 0 (.loop Qd5))) (jQ Qd6 (.ret)))
abbrev Qd8:List RR:=[.tmp 4]
theorem Qd9:CT 147 24 Qd7 Qd8:=ck Tryz.func147 Tryz.ntmps147 (by decide +kernel)
abbrev Qea:IL:=[je 1 1 0,jh 2]
abbrev Qeb:IL:=[jb 3 1 1,jc 4 3,U7 5 150 4 151,jz 6 5,ja 2 6]
abbrev Qec:RC:=jQ Qea (jQ Qeb (.ret))
abbrev Qed:List RR:=[.tmp 2]
theorem Qee:CT 149 7 Qec Qed:=ck Tryz.func149 Tryz.ntmps149 (by decide +kernel)
abbrev Qef:IL:=[jh 4]
abbrev Qeg:IL:=[jd 5 1]
abbrev Qeh:IL:=[ja 6 5,ja 7 0,ji 8 1 7,jn 9 6 8]
abbrev Qei:IL:=[ja 12 1,ja 13 0,ja 14 5,za 15 14 1,jk 16 8 13 15,ya 17 8 16,ja 18 0,ja 19 5,jk 20 8 18 19,ya 21 8 20,⟨some 22,.callF (.t 12) [(.t 17),(.t 21)],none⟩,jz 23 22]
abbrev Qej:IL:=[jh 4]
abbrev Qek:IL:=[ja 10 5,jm 11 10 1,ja 5 11]
abbrev Qel:RC:=.seq (jQ Qeh (jX 9 0)) (.seq (.block 1 (jD Qei (.cond (.t 23) (jQ Qej (.ret)) (.skip)))) (.reg Qek))
abbrev Qem:IL:=[yl 4]
abbrev Qen:RC:=jQ Qef (.seq (jQ Qeg (.block 0 (.loop Qel))) (jQ Qem (.ret)))
abbrev Qeo:List RR:=[.tmp 4]
theorem Qep:CT 150 24 Qen Qeo:=ck Tryz.func150 Tryz.ntmps150 (by decide +kernel)
abbrev Qeq:IL:=[je 2 2 0,je 3 3 1,jh 4]
abbrev Qer:IL:=[jb 5 0 2,jc 6 5,jb 7 0 3,jc 8 7,jn 9 6 8,ja 4 9]
abbrev Qes:RC:=jQ Qeq (jQ Qer (.ret))
abbrev Qet:List RR:=[.tmp 4]
theorem Qeu:CT 151 10 Qes Qet:=ck Tryz.func151 Tryz.ntmps151 (by decide +kernel)
abbrev Qev:IL:=[je 2 2 0,jh 3]
abbrev Qew:IL:=[jb 4 1 1,jc 5 4,FP 6 156 2,yr 7 135 5 6,ja 8 7,jp 9 1 2 8,jt 10 9 8,zq 11 157 10 158 8,jo 12 8 11,ja 3 12]
abbrev Qex:RC:=jQ Qev (jQ Qew (.ret))
abbrev Qey:List RR:=[.tmp 3]
theorem Qez:CT 155 13 Qex Qey:=ck Tryz.func155 Tryz.ntmps155 (by decide +kernel)
abbrev QeA:IL:=[je 3 3 1,jh 4]
abbrev QeB:IL:=[ja 7 0,ji 8 1 7,jd 9 0]
abbrev QeC:IL:=[jn 10 9 8]
abbrev QeD:IL:=[ja 11 9,jk 12 8 7 9,jf 13 8 12,zd 6 6,ja 5 11,js 8 6 13]
abbrev QeE:IL:=[ja 14 0,ja 15 5,FS 16 8 14 15,⟨some 17,.val (.mkfn (.func 212) [] [(.t 3),(.t 6)]),none⟩,yr 18 139 16 17]
abbrev QeF:IL:=[yl 4]
abbrev QeG:IL:=[jm 19 9 1,ja 9 19]
abbrev QeH:RC:=.gho (.drop 6) (jQ QeC (.seq (jX 10 0) (.seq (.block 1 (jQ QeD (jQ QeE (.cond (.t 18) (jQ QeF (.ret)) (.skip))))) (.reg QeG))))
abbrev QeI:IL:=[jh 4]
abbrev QeJ:RC:=jQ QeA (.seq (jQ QeB (.block 0 (.loop QeH))) (jQ QeI (.ret)))
abbrev QeK:List RR:=[.tmp 4]
theorem QeL:CT 157 20 QeJ QeK:=ck Tryz.func157 Tryz.ntmps157 (by decide +kernel)
abbrev QeM:IL:=[je 1 1 0,yi 2]
abbrev QeN:IL:=[jb 3 1 1,jc 4 3,ja 2 4]
abbrev QeO:RC:=jQ QeM (jQ QeN (.ret))
abbrev QeP:List RR:=[.tmp 2]
theorem QeQ:CT 158 5 QeO QeP:=ck Tryz.func158 Tryz.ntmps158 (by decide +kernel)
abbrev QeR:IL:=[je 1 1 0,jh 2]
abbrev QeS:IL:=[jb 3 1 1,jc 4 3,U7 5 139 4 163,ja 2 5]
abbrev QeT:RC:=jQ QeR (jQ QeS (.ret))
abbrev QeU:List RR:=[.tmp 2]
theorem QeV:CT 162 6 QeT QeU:=ck Tryz.func162 Tryz.ntmps162 (by decide +kernel)
abbrev QeW:IL:=[je 1 1 0,jh 2]
abbrev QeX:IL:=[jb 3 0 1,jc 4 3,yo 5 4 1,ja 6 5,jp 7 0 1 6,jt 8 7 6,yk 9 8 65535 6,jo 10 6 9,ja 2 10]
abbrev QeY:RC:=jQ QeW (jQ QeX (.ret))
abbrev QeZ:List RR:=[.tmp 2]
theorem Qe0:CT 163 11 QeY QeZ:=ck Tryz.func163 Tryz.ntmps163 (by decide +kernel)
abbrev Qe1:IL:=[je 2 2 0,jh 3]
abbrev Qe2:IL:=[jf 4 3 2,jr 5 166 4,jz 6 5,ja 7 6,jp 8 1 2 7,jt 9 8 7,⟨some 10,.val (.mkfn (.func 167) [] [(.t 1)]),(some (7,false))⟩,⟨some 11,.callF (.f 139) [(.t 9),(.t 10)],(some (7,false))⟩,jo 12 7 11,ja 3 12]
abbrev Qe3:RC:=jQ Qe1 (jQ Qe2 (.ret))
abbrev Qe4:List RR:=[.tmp 3]
theorem Qe5:CT 165 13 Qe3 Qe4:=ck Tryz.func165 Tryz.ntmps165 (by decide +kernel)
abbrev Qe6:IL:=[je 1 1 0,jh 2]
abbrev Qe7:IL:=[jd 3 (-1),jd 4 (-1)]
abbrev Qe8:IL:=[jb 7 1 1,jc 8 7,ji 9 1 8,jd 10 0]
abbrev Qe9:IL:=[jn 11 10 9]
abbrev Qfa:IL:=[jk 12 8 8 10,jf 13 8 12,zd 6 6,js 8 6 13]
abbrev Qfb:IL:=[jb 14 7 6,jc 15 14,yg 16 15 (-1),ja 17 16,jl 18 3 6 17,ju 19 18 17,zv 20 19 2 17,jg 21 20 17,jp 22 7 6 21,jt 23 22 21,jv 24 3 21,⟨some 25,.val (.bin .num .add (.t 24) (.c (.int .i64 1))),(some (21,false))⟩,U8 26 23 25 21,jv 27 26 21,jl 28 7 6 27,ju 29 28 27,jg 30 4 27,⟨some 31,.val (.bin .num .neq (.t 29) (.t 30)),(some (27,true))⟩,yw 32 27 31 21,zf 33 21 32 17,jj 34 17 33]
abbrev Qfc:IL:=[jh 2]
abbrev Qfd:IL:=[ja 35 3,jb 36 7 6,yb 37 0 6 36,⟨some 38,.val (.mnx true (.t 35) (.t 37)),none⟩,jb 39 7 6,yb 40 0 6 39,ja 3 38,ja 4 40]
abbrev Qfe:IL:=[jm 41 10 1,ja 10 41]
abbrev Qff:RC:=.gho (.drop 6) (jQ Qe9 (.seq (jX 11 0) (.seq (.block 1 (jQ Qfa (.seq (jQ Qfb (.cond (.t 34) (jQ Qfc (.ret)) (.skip))) (.draw Qfd)))) (.reg Qfe))))
abbrev Qfg:IL:=[jb 42 2 1,jc 43 42,ja 44 3,jm 45 44 1,zm 46 43 45,ja 2 46]
abbrev Qfh:RC:=jQ Qe6 (jQ Qe7 (.seq (jQ Qe8 (.block 0 (.loop Qff))) (jQ Qfg (.ret))))
abbrev Qfi:List RR:=[.tmp 2]
theorem Qfj:CT 166 47 Qfh Qfi:=ck Tryz.func166 Tryz.ntmps166 (by decide +kernel)
abbrev Qfk:IL:=[je 2 2 0,jh 3]
abbrev Qfl:IL:=[jb 4 2 2,jc 5 4,jr 6 168 5,jz 7 6,ja 8 7,jp 9 2 2 8,jt 10 9 8,yf 11 0 10 8,yk 12 11 4096 8,jo 13 8 12,ja 14 13,jp 15 3 2 14,jt 16 15 14,Nz 17 16 1 14,jo 18 14 17,ja 19 18,jp 20 3 2 19,jt 21 20 19,yk 22 21 5 19,jo 23 19 22,ja 24 23,yv 25 8 2 24,zi 26 169 25 24,ze 27 26 24,jo 28 24 27,ja 29 28,yv 30 2 1 29,yv 31 8 2 29,NI 32 170 30 31 29,ze 33 32 29,jo 34 29 33,ja 3 34]
abbrev Qfm:RC:=jQ Qfk (jQ Qfl (.ret))
abbrev Qfn:List RR:=[.tmp 3]
theorem Qfo:CT 167 35 Qfm Qfn:=ck Tryz.func167 Tryz.ntmps167 (by decide +kernel)
abbrev Qfp:IL:=[jh 2]
abbrev Qfq:IL:=[ja 3 0,jr 4 216 3,yo 5 4 0,ja 2 5]
abbrev Qfr:RC:=jQ Qfp (jQ Qfq (.ret))
abbrev Qfs:List RR:=[.tmp 2]
theorem Qft:CT 168 6 Qfr Qfs:=ck Tryz.func168 Tryz.ntmps168 (by decide +kernel)
abbrev Qfu:IL:=[je 1 1 0,jh 2]
abbrev Qfv:IL:=[jb 3 3 1,jc 4 3,yg 5 4 5]
abbrev Qfw:IL:=[jb 6 4 1,jc 7 6,jq 8 7 0,ja 2 8]
abbrev Qfx:IL:=[jb 9 4 1,jc 10 9,yn 11 10 1,ja 12 11,jl 13 4 1 12,ju 14 13 12,yy 15 14 7 12,jj 16 12 15,ja 17 16,jl 18 4 1 17,ju 19 18 17,zv 20 19 6 17,jj 21 17 20,ja 2 21]
abbrev Qfy:RC:=jQ Qfu (.seq (jQ Qfv (.cond (.t 5) (jQ Qfw (.ret)) (.skip))) (jQ Qfx (.ret)))
abbrev Qfz:List RR:=[.tmp 2]
theorem QfA:CT 169 22 Qfy Qfz:=ck Tryz.func169 Tryz.ntmps169 (by decide +kernel)
abbrev QfB:IL:=[je 2 2 0,je 3 3 1,jh 4]
abbrev QfC:IL:=[jb 5 5 3,jc 6 5]
abbrev QfD:IL:=[jq 8 6 10,ja 7 8]
abbrev QfE:IL:=[jb 9 6 3,jc 10 9,yn 11 10 0,ja 12 11,jl 13 6 3 12,ju 14 13 12,jl 15 0 2 12,ju 16 15 12,yt 17 1 16 12,zu 18 14 17 12,jj 19 12 18,ja 20 19,jl 21 3 3 20,ju 22 21 20,zv 23 22 3 20,jj 24 20 23,ja 4 24]
abbrev QfF:IL:=[jq 26 6 9,ja 25 26]
abbrev QfG:IL:=[jb 27 6 3,jc 28 27,yn 29 28 0,ja 30 29,jl 31 6 3 30,ju 32 31 30,jl 33 1 2 30,ju 34 33 30,yt 35 1 34 30,zu 36 32 35 30,jj 37 30 36,ja 4 37]
abbrev QfH:IL:=[jb 38 5 3,jc 39 38,jr 40 217 39,ja 41 40,jl 42 6 3 41,ju 43 42 41,ym 44 43 (-1) 41,jj 45 41 44,ja 4 45]
abbrev QfI:RC:=jQ QfB (.seq (jQ QfC (.block 0 (jQ QfD (.cond (.t 7) (jQ QfE (.ret)) (jQ QfF (.cond (.t 25) (jQ QfG (.ret)) (.skip))))))) (jQ QfH (.ret)))
abbrev QfJ:List RR:=[.tmp 4]
theorem QfK:CT 170 46 QfI QfJ:=ck Tryz.func170 Tryz.ntmps170 (by decide +kernel)
abbrev QfL:IL:=[je 2 2 0,jh 3]
abbrev QfM:IL:=[jb 4 3 2,jc 5 4,jq 6 5 1,ja 7 6,jl 8 5 2 7,ju 9 8 7,ym 10 9 10 7,jj 11 7 10,ja 12 11,ju 13 1 12,jl 14 6 2 12,ju 15 14 12,yc 16 1 13 15 12,ju 17 16 12,yx 18 17 12,jj 19 12 18,ja 3 19]
abbrev QfN:RC:=jQ QfL (jQ QfM (.ret))
abbrev QfO:List RR:=[.tmp 3]
theorem QfP:CT 174 20 QfN QfO:=ck Tryz.func174 Tryz.ntmps174 (by decide +kernel)
abbrev QfQ:IL:=[jh 4]
abbrev QfR:IL:=[ja 5 0,ja 6 1,jy 7 219 5 6,yn 8 7 0,ja 4 8]
abbrev QfS:RC:=jQ QfQ (jQ QfR (.ret))
abbrev QfT:List RR:=[.tmp 4]
theorem QfU:CT 175 9 QfS QfT:=ck Tryz.func175 Tryz.ntmps175 (by decide +kernel)
abbrev QfV:IL:=[je 2 2 0,jh 3]
abbrev QfW:IL:=[jb 4 0 2,jc 5 4,jb 6 0 1,jc 7 6,zm 8 5 7,ja 3 8]
abbrev QfX:RC:=jQ QfV (jQ QfW (.ret))
abbrev QfY:List RR:=[.tmp 3]
theorem QKK:CT 176 9 QfX QfY:=ck Tryz.func176 Tryz.ntmps176 (by decide +kernel)
abbrev QfZ:IL:=[je 4 4 0,je 5 5 1,je 6 6 2,jd 8 0]
abbrev Qf0:IL:=[jb 12 3 5,jc 13 12]
abbrev Qf1:IL:=[jq 15 13 4,ja 14 15]
abbrev Qf2:IL:=[jb 16 0 6,jc 17 16,yg 18 17 11,ja 19 18,yv 20 7 6 19,zi 21 90 20 19,jo 22 19 21]
abbrev Qf3:IL:=[jd 8 12]
abbrev Qf4:IL:=[jb 23 3 6,jc 24 23,ji 25 1 24,jd 26 0]
abbrev Qf5:IL:=[jn 27 26 25]
abbrev Qf6:IL:=[jk 28 7 24 26,jf 29 7 28,yu 10 10,js 7 10 29]
abbrev Qf7:IL:=[jf 30 2 4,jf 31 8 5,jf 32 7 10,ja 33 3,zj 34 220 30 31 32 33,ja 11 34]
abbrev Qf8:IL:=[ja 35 11,yg 36 35 0]
abbrev Aw:IL:=[ja 37 11,ja 8 37]
abbrev Ax:IL:=[jm 38 26 1,ja 26 38]
abbrev Qf9:RC:=.gho (.drop 10) (jQ Qf5 (.seq (jX 27 1) (.seq (.block 2 (jQ Qf6 (jQ Qf7 (jQ Qf8 (.cond (.t 36) (jQ Aw (.ret)) (.skip)))))) (.reg Ax))))
abbrev Ay:IL:=[jd 8 0]
abbrev Az:IL:=[jq 40 13 5,ja 39 40]
abbrev AA:IL:=[jb 41 0 6,jc 42 41,yg 43 42 12,ja 44 43,yv 45 7 6 44,zi 46 90 45 44,jo 47 44 46]
abbrev AB:IL:=[jd 8 12]
abbrev AC:IL:=[jf 48 2 4,jf 49 8 5,jb 50 4 6,jc 51 50,ja 52 3,zj 53 221 48 49 51 52,ja 8 53]
abbrev AD:IL:=[jf 54 2 4,jf 55 8 5,jf 56 7 6,ja 57 3,zj 58 220 54 55 56 57,ja 8 58]
abbrev Qga:RC:=jQ QfZ (.seq (jQ Qf0 (.block 0 (jQ Qf1 (.cond (.t 14) (.seq (jQ Qf2 (.cond (.t 22) (jQ Qf3 (.ret)) (.skip))) (.seq (jQ Qf4 (.block 1 (.loop Qf9))) (jQ Ay (.ret)))) (jQ Az (.cond (.t 39) (.seq (jQ AA (.cond (.t 47) (jQ AB (.ret)) (.skip))) (jQ AC (.ret))) (.skip))))))) (jQ AD (.ret)))
abbrev Qgb:List RR:=[.tmp 8]
theorem QKL:CT 177 59 Qga Qgb:=ck Tryz.func177 Tryz.ntmps177 (by decide +kernel)
abbrev Qgc:IL:=[jd 4 0]
abbrev Qgd:IL:=[ja 6 0,ji 7 1 6,jd 8 0]
abbrev Qge:IL:=[jn 9 8 7]
abbrev Qgf:IL:=[ja 10 8,ja 5 10]
abbrev Qgg:IL:=[ja 11 1,ja 12 0,ja 13 5,jk 14 8 12 13,jf 15 8 14,FR 16 11 15]
abbrev Qgh:IL:=[ja 17 5,ja 4 17]
abbrev Qgi:IL:=[jm 18 8 1,ja 8 18]
abbrev Qgj:RC:=jQ Qge (.seq (jX 9 0) (.seq (.block 1 (jQ Qgf (jQ Qgg (.cond (.t 16) (jQ Qgh (.ret)) (.skip))))) (.reg Qgi)))
abbrev Qgk:IL:=[jd 4 (-1)]
abbrev Qgl:RC:=jQ Qgc (.seq (jQ Qgd (.block 0 (.loop Qgj))) (jQ Qgk (.ret)))
abbrev Qgm:List RR:=[.tmp 4]
theorem QKM:CT 178 19 Qgl Qgm:=ck Tryz.func178 Tryz.ntmps178 (by decide +kernel)
def Mq:IL:=[ye 2]
def Mr:IL:=[ja 3 0,⟨some 4,.isnil false (.t 3),none⟩]
def Ms:IL:=[ye 2]
def Mt:IL:=[⟨some 5,.bsl0 5 7,none⟩,ja 6 0,yh 7 7 128 32 5 6,ja 2 7]
def P3:RC:=jQ Mq (.seq (jQ Mr (.cond (.t 4) (jQ Ms (.gho (.vec 2 2 7) (.gho (.give 2 2 1 1000) (.ret)))) (.skip))) (jQ Mt (.gho (.give 2 5 1 1000) (.ret))))
def VL:List RR:=[.tmp 2]
theorem Qgn:CT 180 8 P3 VL:=ck Tryz.func180 Tryz.ntmps180 (by decide +kernel)
def FZ:IL:=[ye 2]
def F0:IL:=[ja 3 0,⟨some 4,.isnil false (.t 3),none⟩]
def F1:IL:=[ye 2]
def F2:IL:=[⟨some 5,.bsl0 5 8,none⟩,ja 6 0,yh 7 8 136 47 5 6,ja 2 7]
def VM:RC:=jQ FZ (.seq (jQ F0 (.cond (.t 4) (jQ F1 (.gho (.vec 2 2 8) (.gho (.give 2 2 1 1000) (.ret)))) (.skip))) (jQ F2 (.gho (.give 2 5 1 1000) (.ret))))
def Dd:List RR:=[.tmp 2]
theorem P4:CT 181 8 VM Dd:=ck Tryz.func181 Tryz.ntmps181 (by decide +kernel)
abbrev Qgo:IL:=[ja 4 0,ja 5 0,ji 6 1 5,ja 7 1,⟨some 8,.callF (.f 223) [(.t 4),(.t 6),(.t 7)],none⟩]
abbrev Qgp:RC:=.reg Qgo
abbrev Qgq:List RR:=[]
theorem QKN:CT 182 9 Qgp Qgq:=ck Tryz.func182 Tryz.ntmps182 (by decide +kernel)
abbrev Qgr:IL:=[je 2 2 0,je 3 3 1,jd 4 0]
abbrev Qgs:IL:=[jb 5 0 2,jc 6 5,jb 7 0 3,jc 8 7,jy 9 102 6 8,ja 4 9]
abbrev Qgt:RC:=jQ Qgr (jQ Qgs (.ret))
abbrev Qgu:List RR:=[.tmp 4]
theorem Qgv:CT 183 10 Qgt Qgu:=ck Tryz.func183 Tryz.ntmps183 (by decide +kernel)
abbrev Qgw:IL:=[je 3 3 0,je 4 4 1,je 5 5 2,yu 6 6]
abbrev Qgx:IL:=[jb 7 5 4,jc 8 7,jq 9 8 10]
abbrev Qgy:IL:=[jf 10 2 3,jb 11 6 4,jc 12 11,jf 13 7 5,yd 14 57 10 12 13,js 7 6 14]
abbrev Qgz:IL:=[jf 15 7 5,jr 16 51 15,js 7 6 16]
abbrev QgA:RC:=jQ Qgw (.seq (jQ Qgx (.cond (.t 9) (jQ Qgy (.ret)) (.skip))) (jQ Qgz (.ret)))
abbrev QgB:List RR:=[.cell 6 (some 7)]
theorem P5:CT 184 17 QgA QgB:=ck Tryz.func184 Tryz.ntmps184 (by decide +kernel)
abbrev QgC:IL:=[je 1 1 0,jh 2]
abbrev QgD:IL:=[jb 3 0 1,jc 4 3,jr 5 217 4,ja 6 5,zk 7 7 1 6,zh 8 229 7 6,jj 9 6 8,ja 10 9,jl 11 1 1 10,ju 12 11 10,Me 13 12 0 10,jj 14 10 13,ja 15 14,jl 16 2 1 15,ju 17 16 15,⟨some 18,.val (.bin .str .eql (.t 17) (.c (.str []))),(some (15,true))⟩,jj 19 15 18,ja 2 19]
abbrev QgE:RC:=jQ QgC (jQ QgD (.ret))
abbrev QgF:List RR:=[.tmp 2]
theorem QgG:CT 186 20 QgE QgF:=ck Tryz.func186 Tryz.ntmps186 (by decide +kernel)
def QgH:IL:=[jd 6 20]
def QgI:IL:=[ja 10 6,jd 7 0,ja 8 10]
def QgJ:IL:=[ja 11 8,ja 12 1,FX 13 11 12]
def QgK:IL:=[ja 14 0,ja 15 7,ja 16 8,ja 17 2,⟨some 18,.callF (.f 230) [(.t 14),(.t 15),(.t 16),(.t 17)],none⟩]
def QgL:IL:=[ja 19 8,ja 7 19]
def QgM:IL:=[ja 20 8,ja 21 6,yj 22 20 21,ja 8 22]
def QgN:RC:=.seq (jQ QgJ (jX 13 0)) (.block 1 (jQ QgK (jQ QgL (.reg QgM))))
def QgO:IL:=[ja 23 0,ja 24 7,ja 25 1,ja 26 2,⟨some 27,.callF (.f 230) [(.t 23),(.t 24),(.t 25),(.t 26)],none⟩]
def QgP:IL:=[ja 28 6,ja 29 1,jn 30 28 29]
def QgQ:IL:=[ja 31 6,Mh 32 2 31,jd 7 0,ja 8 32]
def QgR:IL:=[ja 33 8,ja 34 1,FX 35 33 34]
def AE:IL:=[ja 36 0,ja 37 7,ja 38 7,ja 39 6,yj 40 38 39,ja 41 8,ja 42 2,R5 43 231 36 37 40 41 42]
def AF:IL:=[ja 44 8,ja 7 44]
def AG:IL:=[ja 45 8,ja 46 6,Mh 47 2 46,yj 48 45 47,ja 8 48]
def QgS:RC:=.seq (jQ QgR (jX 35 4)) (.block 5 (jQ AE (jQ AF (.reg AG))))
def AH:IL:=[ja 49 7,ja 50 6,yj 51 49 50,ja 9 51]
def AI:IL:=[ja 52 9,ja 53 1,jn 54 52 53]
def AJ:IL:=[ja 55 0,ja 56 7,ja 57 9,ja 58 1,ja 59 2,R5 60 231 55 56 57 58 59]
def AK:IL:=[ja 61 6,⟨some 62,.val (.bin .num .mul (.t 61) (.c (.int .i64 2))),none⟩,ja 6 62]
def QgT:RC:=.seq (jQ QgP (jX 30 2)) (.block 3 (jQ QgQ (.seq (.block 4 (.loop QgS)) (.seq (jQ AH (jQ AI (.cond (.t 54) (.reg AJ) (.skip)))) (.reg AK)))))
def QgU:RC:=jQ QgH (jQ QgI (.seq (.block 0 (.loop QgN)) (jQ QgO (.block 2 (.loop QgT)))))
def QgV:List RR:=[]
theorem QKO:CT 187 63 QgU QgV:=ck Tryz.func187 Tryz.ntmps187 (by decide +kernel)
abbrev QgW:IL:=[jh 2]
abbrev QgX:IL:=[ja 3 0,ja 4 0,zs 5 3 4,ja 2 5]
abbrev QgY:RC:=jQ QgW (jQ QgX (.ret))
abbrev QgZ:List RR:=[.tmp 2]
theorem Qg0:CT 188 6 QgY QgZ:=ck Tryz.func188 Tryz.ntmps188 (by decide +kernel)
abbrev Qg1:IL:=[ja 2 0,FV 3 2,jb 4 0 3,jc 5 4,⟨some 6,.val (.bin .ptr .eql (.t 5) (.c (.nilp))),none⟩]
abbrev Qg2:IL:=[ja 7 0,ja 8 0,⟨some 9,.val (.toU (.t 8)),none⟩,⟨some 10,.val (.same (.t 9)),none⟩,⟨some 11,.val (.ofU 128 2 (.t 10)),none⟩,FV 12 7,jb 13 0 12,js 1 13 11]
abbrev Qg3:IL:=[ja 14 0,FV 15 14,jb 16 0 15,jc 17 16,ja 18 0,⟨some 19,.val (.bin .ptr .neq (.t 17) (.t 18)),none⟩]
abbrev Qg4:RC:=jQ Qg1 (.cond (.t 6) (.reg Qg2) (jQ Qg3 (.cond (.t 19) (.no) (.skip))))
abbrev Qg5:List RR:=[]
theorem Qg6:CT 189 20 Qg4 Qg5:=ck Tryz.func189 Tryz.ntmps189 (by decide +kernel)
abbrev Qg7:IL:=[jd 4 0]
abbrev Qg8:IL:=[ja 6 0,ji 7 1 6,jd 8 0]
abbrev Qg9:IL:=[jn 9 8 7]
abbrev Qha:IL:=[ja 10 8,ja 5 10]
abbrev Qhb:IL:=[ja 11 1,ja 12 0,ja 13 5,jk 14 8 12 13,jf 15 8 14,FR 16 11 15]
abbrev Qhc:IL:=[ja 17 5,ja 4 17]
abbrev Qhd:IL:=[jm 18 8 1,ja 8 18]
abbrev Qhe:RC:=jQ Qg9 (.seq (jX 9 0) (.seq (.block 1 (jQ Qha (jQ Qhb (.cond (.t 16) (jQ Qhc (.ret)) (.skip))))) (.reg Qhd)))
abbrev Qhf:IL:=[jd 4 (-1)]
abbrev Qhg:RC:=jQ Qg7 (.seq (jQ Qg8 (.block 0 (.loop Qhe))) (jQ Qhf (.ret)))
abbrev Qhh:List RR:=[.tmp 4]
theorem P6:CT 195 19 Qhg Qhh:=ck Tryz.func195 Tryz.ntmps195 (by decide +kernel)
abbrev Qhi:IL:=[je 3 3 1,zn 4 4]
abbrev Qhj:IL:=[ja 5 0,jb 6 0 3,js 1 6 5]
abbrev Qhk:IL:=[jf 7 4 3,js 4 4 7]
abbrev Qhl:RC:=jQ Qhi (jQ Qhj (jQ Qhk (.ret)))
abbrev Qhm:List RR:=[.cell 4 (some 4)]
theorem Qhn:CT 196 8 Qhl Qhm:=ck Tryz.func196 Tryz.ntmps196 (by decide +kernel)
abbrev Qho:IL:=[je 3 3 0,je 4 4 1,je 5 5 2,zn 6 6]
abbrev Qhp:IL:=[jb 7 5 4,jc 8 7,jq 9 8 10]
abbrev Qhq:IL:=[jf 10 2 3,jb 11 6 4,jc 12 11,jf 13 7 5,yd 14 29 10 12 13,⟨some 15,.val (.build [.int .i64 0,.int .i64 0,.int .u64 0,.str []] [(1,1,(.c (.int .i64 4))),(3,1,(.t 14))]),none⟩,js 4 6 15]
abbrev Qhr:IL:=[jf 16 7 5,jr 17 25 16,js 4 6 17]
abbrev Qhs:RC:=jQ Qho (.seq (jQ Qhp (.cond (.t 9) (jQ Qhq (.ret)) (.skip))) (jQ Qhr (.ret)))
abbrev Qht:List RR:=[.cell 6 (some 4)]
theorem P7:CT 197 18 Qhs Qht:=ck Tryz.func197 Tryz.ntmps197 (by decide +kernel)
abbrev Qhu:IL:=[je 1 1 0,jd 2 0]
abbrev Qhv:IL:=[jb 4 3 1,jc 5 4,jq 6 5 5,ja 3 6]
abbrev Qhw:IL:=[jd 2 6]
abbrev Qhx:IL:=[jf 8 8 1,jr 9 119 8,ja 7 9]
abbrev Qhy:IL:=[jd 2 5]
abbrev Qhz:IL:=[jb 10 5 1,jc 11 10]
abbrev QhA:IL:=[jq 13 11 1,ja 12 13]
abbrev QhB:IL:=[jq 14 11 4,ja 12 14]
abbrev QhC:IL:=[jq 15 11 5,ja 12 15]
abbrev QhD:IL:=[jq 16 11 9,ja 12 16]
abbrev AL:IL:=[jd 2 0]
abbrev AM:IL:=[jq 18 11 2,ja 17 18]
abbrev AN:IL:=[jq 19 11 3,ja 17 19]
abbrev AO:IL:=[jd 2 1]
abbrev AP:IL:=[jq 21 11 6,ja 20 21]
abbrev AQ:IL:=[jd 2 2]
abbrev AR:IL:=[jq 23 11 7,ja 22 23]
abbrev AS:IL:=[jq 24 11 8,ja 22 24]
abbrev AT:IL:=[jd 2 3]
abbrev AU:IL:=[jq 26 11 10,ja 25 26]
abbrev AW:IL:=[jd 2 4]
abbrev AX:IL:=[jd 2 (-1)]
abbrev QhE:RC:=jQ Qhu (.seq (.block 0 (jQ Qhv (.cond (.t 3) (jQ Qhw (.ret)) (jQ Qhx (.cond (.t 7) (jQ Qhy (.ret)) (.skip)))))) (.seq (jQ Qhz (.block 1 (.seq (jQ QhA (.cond (.t 12) (.skip) (jQ QhB (.cond (.t 12) (.skip) (jQ QhC (.cond (.t 12) (.skip) (.reg QhD))))))) (.cond (.t 12) (jQ AL (.ret)) (.seq (jQ AM (.cond (.t 17) (.skip) (.reg AN))) (.cond (.t 17) (jQ AO (.ret)) (jQ AP (.cond (.t 20) (jQ AQ (.ret)) (.seq (jQ AR (.cond (.t 22) (.skip) (.reg AS))) (.cond (.t 22) (jQ AT (.ret)) (jQ AU (.cond (.t 25) (jQ AW (.ret)) (.skip))))))))))))) (jQ AX (.ret))))
abbrev QhF:List RR:=[.tmp 2]
theorem QhG:CT 198 27 QhE QhF:=ck Tryz.func198 Tryz.ntmps198 (by decide +kernel)
abbrev QhH:IL:=[jh 4]
abbrev QhI:IL:=[ja 5 0,ja 6 1,yr 7 52 5 6,yn 8 7 0,ja 4 8]
abbrev QhJ:RC:=jQ QhH (jQ QhI (.ret))
abbrev QhK:List RR:=[.tmp 4]
theorem QhL:CT 203 9 QhJ QhK:=ck Tryz.func203 Tryz.ntmps203 (by decide +kernel)
abbrev QhM:IL:=[jh 4]
abbrev QhN:IL:=[ja 5 0,ja 6 1,yr 7 241 5 6,yn 8 7 0,ja 4 8]
abbrev QhO:RC:=jQ QhM (jQ QhN (.ret))
abbrev QhP:List RR:=[.tmp 4]
theorem QhQ:CT 204 9 QhO QhP:=ck Tryz.func204 Tryz.ntmps204 (by decide +kernel)
abbrev QhR:IL:=[jh 2]
abbrev QhS:IL:=[ja 5 0,⟨some 6,.call (.f 207) [(.t 5),(.c (.str [46]))],none⟩,ji 7 1 6,jd 8 0]
abbrev QhT:IL:=[jn 9 8 7]
abbrev QhU:IL:=[jk 10 1 6 8,jc 11 10,ja 4 11]
abbrev QhV:IL:=[ja 12 4,jr 13 210 12,jz 14 13]
abbrev QhW:IL:=[jh 2]
abbrev QhX:IL:=[jm 15 8 1,ja 8 15]
abbrev QhY:RC:=jQ QhT (.seq (jX 9 0) (.seq (.block 1 (jQ QhU (jQ QhV (.cond (.t 14) (jQ QhW (.ret)) (.skip))))) (.reg QhX)))
abbrev QhZ:IL:=[ja 16 0,ji 17 0 16,⟨some 18,.val (.bin .num .leq (.t 17) (.c (.int .i64 120))),none⟩,ja 2 18]
abbrev Qh0:RC:=jQ QhR (.seq (jQ QhS (.block 0 (.loop QhY))) (jQ QhZ (.ret)))
abbrev Qh1:List RR:=[.tmp 2]
theorem Qh2:CT 205 19 Qh0 Qh1:=ck Tryz.func205 Tryz.ntmps205 (by decide +kernel)
abbrev Qh3:IL:=[jh 4]
abbrev Qh4:IL:=[ja 5 0,ja 6 1,yr 7 242 5 6,yn 8 7 0,ja 4 8]
abbrev Qh5:RC:=jQ Qh3 (jQ Qh4 (.ret))
abbrev Qh6:List RR:=[.tmp 4]
theorem Qh7:CT 206 9 Qh5 Qh6:=ck Tryz.func206 Tryz.ntmps206 (by decide +kernel)
abbrev Qh8:IL:=[ye 4]
abbrev Qh9:IL:=[ja 5 0,ja 6 1,⟨some 7,.call (.f 243) [(.t 5),(.t 6),(.c (.int .i64 0)),(.c (.int .i64 (-1)))],none⟩,ja 4 7]
abbrev Qia:RC:=jQ Qh8 (jQ Qh9 (.ret))
abbrev Qib:List RR:=[.tmp 4]
theorem Qic:CT 207 8 Qia Qib:=ck Tryz.func207 Tryz.ntmps207 (by decide +kernel)
abbrev Qid:IL:=[jh 2]
abbrev Qie:IL:=[ja 3 0]
abbrev Qif:IL:=[⟨some 5,.val (.bin .str .eql (.t 3) (.c (.str [109,101,115,115,97,103,101]))),none⟩,ja 4 5]
abbrev Qig:IL:=[⟨some 6,.val (.bin .str .eql (.t 3) (.c (.str [101,110,117,109]))),none⟩,ja 4 6]
abbrev Qih:IL:=[⟨some 7,.val (.bin .str .eql (.t 3) (.c (.str [115,101,114,118,105,99,101]))),none⟩,ja 4 7]
abbrev Qii:IL:=[⟨some 8,.val (.bin .str .eql (.t 3) (.c (.str [117,110,105,111,110]))),none⟩,ja 4 8]
abbrev Qij:IL:=[⟨some 9,.val (.bin .str .eql (.t 3) (.c (.str [109,97,112]))),none⟩,ja 4 9]
abbrev Qik:IL:=[⟨some 10,.val (.bin .str .eql (.t 3) (.c (.str [108,105,115,116]))),none⟩,ja 4 10]
abbrev Qil:IL:=[⟨some 11,.val (.bin .str .eql (.t 3) (.c (.str [114,101,113,117,105,114,101,100]))),none⟩,ja 4 11]
abbrev Qim:IL:=[⟨some 12,.val (.bin .str .eql (.t 3) (.c (.str [111,112,116,105,111,110,97,108]))),none⟩,ja 4 12]
abbrev AY:IL:=[⟨some 13,.val (.bin .str .eql (.t 3) (.c (.str [112,108,97,105,110]))),none⟩,ja 4 13]
abbrev AZ:IL:=[⟨some 14,.val (.bin .str .eql (.t 3) (.c (.str [100,101,102,97,117,108,116]))),none⟩,ja 4 14]
abbrev A1:IL:=[⟨some 15,.val (.bin .str .eql (.t 3) (.c (.str [114,101,115,101,114,118,101,100]))),none⟩,ja 4 15]
abbrev A2:IL:=[yl 2]
abbrev A3:IL:=[⟨some 17,.val (.bin .str .eql (.t 3) (.c (.str [105,109,112,111,114,116]))),none⟩,ja 16 17]
abbrev A4:IL:=[⟨some 18,.val (.bin .str .eql (.t 3) (.c (.str [115,112,97,99,101]))),none⟩,ja 16 18]
abbrev A5:IL:=[⟨some 19,.val (.bin .str .eql (.t 3) (.c (.str [114,112,99]))),none⟩,ja 16 19]
abbrev A6:IL:=[⟨some 20,.val (.bin .str .eql (.t 3) (.c (.str [115,116,114,101,97,109]))),none⟩,ja 16 20]
abbrev A7:IL:=[⟨some 21,.val (.bin .str .eql (.t 3) (.c (.str [114,101,116,117,114,110,115]))),none⟩,ja 16 21]
abbrev A8:IL:=[⟨some 22,.val (.bin .str .eql (.t 3) (.c (.str [111,112,101,110]))),none⟩,ja 16 22]
abbrev A9:IL:=[⟨some 23,.val (.bin .str .eql (.t 3) (.c (.str [116,114,117,101]))),none⟩,ja 16 23]
abbrev Ea:IL:=[⟨some 24,.val (.bin .str .eql (.t 3) (.c (.str [102,97,108,115,101]))),none⟩,ja 16 24]
abbrev Eb:IL:=[⟨some 25,.val (.bin .str .eql (.t 3) (.c (.str [110,97,110]))),none⟩,ja 16 25]
abbrev Ec:IL:=[⟨some 26,.val (.bin .str .eql (.t 3) (.c (.str [105,110,102]))),none⟩,ja 16 26]
abbrev Ed:IL:=[yl 2]
abbrev Ee:IL:=[jh 2]
abbrev Qin:RC:=jQ Qid (.seq (jQ Qie (.block 0 (.seq (jQ Qif (.cond (.t 4) (.skip) (jQ Qig (.cond (.t 4) (.skip) (jQ Qih (.cond (.t 4) (.skip) (jQ Qii (.cond (.t 4) (.skip) (jQ Qij (.cond (.t 4) (.skip) (jQ Qik (.cond (.t 4) (.skip) (jQ Qil (.cond (.t 4) (.skip) (jQ Qim (.cond (.t 4) (.skip) (jQ AY (.cond (.t 4) (.skip) (jQ AZ (.cond (.t 4) (.skip) (.reg A1))))))))))))))))))))) (.cond (.t 4) (jQ A2 (.ret)) (.seq (jQ A3 (.cond (.t 16) (.skip) (jQ A4 (.cond (.t 16) (.skip) (jQ A5 (.cond (.t 16) (.skip) (jQ A6 (.cond (.t 16) (.skip) (jQ A7 (.cond (.t 16) (.skip) (jQ A8 (.cond (.t 16) (.skip) (jQ A9 (.cond (.t 16) (.skip) (jQ Ea (.cond (.t 16) (.skip) (jQ Eb (.cond (.t 16) (.skip) (.reg Ec))))))))))))))))))) (.cond (.t 16) (jQ Ed (.ret)) (.skip))))))) (jQ Ee (.ret)))
abbrev Qio:List RR:=[.tmp 2]
theorem P8:CT 208 27 Qin Qio:=ck Tryz.func208 Tryz.ntmps208 (by decide +kernel)
abbrev Qip:IL:=[jh 4]
abbrev Qiq:IL:=[ja 5 0,ja 6 1,yr 7 195 5 6,yn 8 7 0,ja 4 8]
abbrev Qir:RC:=jQ Qip (jQ Qiq (.ret))
abbrev Qis:List RR:=[.tmp 4]
theorem Qit:CT 209 9 Qir Qis:=ck Tryz.func209 Tryz.ntmps209 (by decide +kernel)
abbrev Qiu:IL:=[jh 2]
abbrev Qiv:IL:=[ja 6 0,⟨some 7,.rngs 7 (.t 6),none⟩]
abbrev Qiw:IL:=[⟨some 8,.nxts (.t 7),none⟩,jx 9 8 0]
abbrev Qix:IL:=[jx 10 8 1,jx 11 8 2,ja 3 10,ja 4 11]
abbrev Qiy:IL:=[ja 12 4,jr 13 244 12,ja 5 13]
abbrev Qiz:IL:=[ja 14 5,jq 15 14 0,ja 16 15,jv 17 3 16,ys 18 17 0 16,jv 19 18 16,jg 20 5 19,zv 21 20 1 19,yw 22 19 21 16,jv 23 22 16,jg 24 5 23,zv 25 24 2 23,yw 26 23 25 16,jo 27 16 26]
abbrev QiA:IL:=[jh 2]
abbrev QiB:RC:=jQ Qiw (.seq (jX 9 0) (.block 1 (jQ Qix (jQ Qiy (jQ Qiz (.cond (.t 27) (jQ QiA (.ret)) (.skip)))))))
abbrev QiC:IL:=[ja 28 0,ji 29 0 28,yn 30 29 1,ja 31 30,jg 32 0 31,yt 33 0 32 31,yy 34 33 40 31,jj 35 31 34,ja 2 35]
abbrev QiD:RC:=jQ Qiu (.seq (jQ Qiv (.block 0 (.loop QiB))) (jQ QiC (.ret)))
abbrev QiE:List RR:=[.tmp 2]
theorem QiF:CT 210 36 QiD QiE:=ck Tryz.func210 Tryz.ntmps210 (by decide +kernel)
abbrev QiG:IL:=[je 3 3 0,jh 4]
abbrev QiH:IL:=[jc 5 1,jw 6 0 3 8 3,⟨some 7,.call (.t 5) [(.t 6)],none⟩,jc 8 1,jf 9 8 2,⟨some 10,.call (.t 8) [(.t 9)],none⟩,Nx 11 7 10,ja 4 11]
abbrev QiI:RC:=jQ QiG (jD QiH (.ret))
abbrev QiJ:List RR:=[.tmp 4]
theorem QiK:CT 212 12 QiI QiJ:=ck Tryz.func212 Tryz.ntmps212 (by decide +kernel)
abbrev QiL:IL:=[jd 2 0]
abbrev QiM:IL:=[ja 5 0,⟨some 6,.rngs 6 (.t 5),none⟩]
abbrev QiN:IL:=[⟨some 7,.nxts (.t 6),none⟩,jx 8 7 0]
abbrev QiO:IL:=[jx 9 7 1,jx 10 7 2,ja 3 9,ja 4 10]
abbrev QiP:IL:=[ja 11 0,ja 12 3,ja 13 4,yd 14 248 11 12 13]
abbrev QiQ:IL:=[ja 15 3,ja 2 15]
abbrev QiR:RC:=jQ QiN (.seq (jX 8 0) (.block 1 (jQ QiO (jQ QiP (.cond (.t 14) (jQ QiQ (.ret)) (.skip))))))
abbrev QiS:IL:=[jd 2 (-1)]
abbrev QiT:RC:=jQ QiL (.seq (jQ QiM (.block 0 (.loop QiR))) (jQ QiS (.ret)))
abbrev QiU:List RR:=[.tmp 2]
theorem QiV:CT 216 16 QiT QiU:=ck Tryz.func216 Tryz.ntmps216 (by decide +kernel)
abbrev QiW:IL:=[jh 2]
abbrev QiX:IL:=[ja 3 0,yn 4 3 1,ja 5 4,jg 6 0 5,yy 7 6 9 5,jj 8 5 7,ja 2 8]
abbrev QiY:RC:=jQ QiW (jQ QiX (.ret))
abbrev QiZ:List RR:=[.tmp 2]
theorem Qi0:CT 217 9 QiY QiZ:=ck Tryz.func217 Tryz.ntmps217 (by decide +kernel)
abbrev Qi1:IL:=[jd 4 0]
abbrev Qi2:IL:=[ja 6 0,ji 7 1 6,jd 8 0]
abbrev Qi3:IL:=[jn 9 8 7]
abbrev Qi4:IL:=[ja 10 8,ja 5 10]
abbrev Qi5:IL:=[ja 11 1,ja 12 0,ja 13 5,jk 14 1 12 13,jc 15 14,⟨some 16,.val (.bin .bool .eql (.t 11) (.t 15)),none⟩]
abbrev Qi6:IL:=[ja 17 5,ja 4 17]
abbrev Qi7:IL:=[jm 18 8 1,ja 8 18]
abbrev Qi8:RC:=jQ Qi3 (.seq (jX 9 0) (.seq (.block 1 (jQ Qi4 (jQ Qi5 (.cond (.t 16) (jQ Qi6 (.ret)) (.skip))))) (.reg Qi7)))
abbrev Qi9:IL:=[jd 4 (-1)]
abbrev Qja:RC:=jQ Qi1 (.seq (jQ Qi2 (.block 0 (.loop Qi8))) (jQ Qi9 (.ret)))
abbrev Qjb:List RR:=[.tmp 4]
theorem Qjc:CT 219 19 Qja Qjb:=ck Tryz.func219 Tryz.ntmps219 (by decide +kernel)
abbrev Qjd:IL:=[je 4 4 0,je 5 5 1,je 6 6 2,jd 8 0]
abbrev Qje:IL:=[jb 9 5 5,jc 10 9,jq 11 10 10]
abbrev Qjf:IL:=[jw 12 0 4 2 4,jb 13 0 4,jb 14 0 13,yb 15 0 4 14,jb 16 6 5,yb 17 0 5 16,jk 18 3 15 17,ya 19 3 18,jw 20 0 6 7 6,ja 21 3,jm 22 21 1,zj 23 55 12 19 20 22,ja 8 23]
abbrev Qjg:IL:=[jf 24 2 4,jb 25 5 5,jc 26 25,jb 27 6 5,jc 28 27,jf 29 7 6,zj 30 251 24 26 28 29,ja 8 30]
abbrev Qjh:RC:=jQ Qjd (.seq (jQ Qje (.cond (.t 11) (jD Qjf (.ret)) (.skip))) (jQ Qjg (.ret)))
abbrev Qji:List RR:=[.tmp 8]
theorem QKP:CT 220 31 Qjh Qji:=ck Tryz.func220 Tryz.ntmps220 (by decide +kernel)
abbrev Qjj:IL:=[jd 6 20]
abbrev Qjk:IL:=[ja 10 6,jd 7 0,ja 8 10]
abbrev Qjl:IL:=[ja 11 8,ja 12 1,FX 13 11 12]
abbrev Qjm:IL:=[ja 14 0,ja 15 7,ja 16 8,ja 17 2,⟨some 18,.callF (.f 254) [(.t 14),(.t 15),(.t 16),(.t 17)],none⟩]
abbrev Qjn:IL:=[ja 19 8,ja 7 19]
abbrev Qjo:IL:=[ja 20 8,ja 21 6,yj 22 20 21,ja 8 22]
abbrev Qjp:RC:=.seq (jQ Qjl (jX 13 0)) (.block 1 (jQ Qjm (jQ Qjn (.reg Qjo))))
abbrev Qjq:IL:=[ja 23 0,ja 24 7,ja 25 1,ja 26 2,⟨some 27,.callF (.f 254) [(.t 23),(.t 24),(.t 25),(.t 26)],none⟩]
abbrev Qjr:IL:=[ja 28 6,ja 29 1,jn 30 28 29]
abbrev Qjs:IL:=[ja 31 6,Mh 32 2 31,jd 7 0,ja 8 32]
abbrev Qjt:IL:=[ja 33 8,ja 34 1,FX 35 33 34]
abbrev Ef:IL:=[ja 36 0,ja 37 7,ja 38 7,ja 39 6,yj 40 38 39,ja 41 8,ja 42 2,R5 43 255 36 37 40 41 42]
abbrev Eg:IL:=[ja 44 8,ja 7 44]
abbrev Eh:IL:=[ja 45 8,ja 46 6,Mh 47 2 46,yj 48 45 47,ja 8 48]
abbrev Qju:RC:=.seq (jQ Qjt (jX 35 4)) (.block 5 (jQ Ef (jQ Eg (.reg Eh))))
abbrev Ei:IL:=[ja 49 7,ja 50 6,yj 51 49 50,ja 9 51]
abbrev Ej:IL:=[ja 52 9,ja 53 1,jn 54 52 53]
abbrev Ek:IL:=[ja 55 0,ja 56 7,ja 57 9,ja 58 1,ja 59 2,R5 60 255 55 56 57 58 59]
abbrev Em:IL:=[ja 61 6,⟨some 62,.val (.bin .num .mul (.t 61) (.c (.int .i64 2))),none⟩,ja 6 62]
abbrev Qjv:RC:=.seq (jQ Qjr (jX 30 2)) (.block 3 (jQ Qjs (.seq (.block 4 (.loop Qju)) (.seq (jQ Ei (jQ Ej (.cond (.t 54) (.reg Ek) (.skip)))) (.reg Em)))))
abbrev Qjw:RC:=jQ Qjj (jQ Qjk (.seq (.block 0 (.loop Qjp)) (jQ Qjq (.block 2 (.loop Qjv)))))
abbrev Qjx:List RR:=[]
theorem QKQ:CT 223 63 Qjw Qjx:=ck Tryz.func223 Tryz.ntmps223 (by decide +kernel)
abbrev Qjy:IL:=[je 1 1 0,jh 2]
abbrev Qjz:IL:=[jb 3 3 1,jc 4 3,ji 5 1 4,jb 6 4 1,jc 7 6,ji 8 1 7,yj 9 5 8,jb 10 5 1,jc 11 10,ji 12 1 11,yj 13 9 12,jb 14 6 1,jc 15 14,ji 16 1 15,yj 17 13 16,yq 18 17 0]
abbrev QjA:IL:=[jh 2]
abbrev QjB:IL:=[jb 19 0 1,jc 20 19,jr 21 267 20]
abbrev QjC:IL:=[jb 22 1 1,jc 23 22,Gi 24 23 0,ja 2 24]
abbrev QjD:IL:=[jb 25 2 1,jc 26 25,⟨some 27,.val (.bin .str .eql (.t 26) (.c (.str []))),none⟩,ja 2 27]
abbrev QjE:RC:=jQ Qjy (.seq (jQ Qjz (.cond (.t 18) (jQ QjA (.ret)) (.skip))) (.seq (jQ QjB (.cond (.t 21) (jQ QjC (.ret)) (.skip))) (jQ QjD (.ret))))
abbrev QjF:List RR:=[.tmp 2]
theorem QjG:CT 229 28 QjE QjF:=ck Tryz.func229 Tryz.ntmps229 (by decide +kernel)
abbrev QjH:IL:=[ja 10 1,jm 11 10 1,ja 8 11]
abbrev QjI:IL:=[ja 12 8,ja 13 2,jn 14 12 13]
abbrev QjJ:IL:=[ja 17 8,ja 9 17]
abbrev QjK:IL:=[ja 18 9,ja 19 1,FO 20 18 19,ja 21 20,jg 22 3 21,jg 23 0 21,jg 24 9 21,yc 25 4 23 24 21,Gj 26 4 25 21,jg 27 0 21,jg 28 9 21,DP 29 28 1 21,yc 30 4 27 29 21,Gj 31 4 30 21,⟨some 32,.call (.t 22) [(.t 26),(.t 31)],(some (21,true))⟩,⟨some 33,.val (.bin .num .lss (.t 32) (.c (.int .i64 0))),(some (21,true))⟩,jj 34 21 33]
abbrev QjL:IL:=[ja 37 0,ja 38 9,ja 39 0,ja 40 9,za 41 40 1,ja 42 0,ja 43 9,za 44 43 1,jk 45 4 42 44,ya 46 4 45,ja 47 0,ja 48 9,jk 49 4 47 48,ya 50 4 49,jk 51 4 37 38,js 4 51 46,jk 52 4 39 41,js 4 52 50]
abbrev QjM:IL:=[ja 35 9,za 36 35 1,ja 9 36]
abbrev QjN:RC:=.seq (jD QjK (jX 34 2)) (.seq (.block 3 (.draw QjL)) (.reg QjM))
abbrev QjO:IL:=[ja 15 8,jm 16 15 1,ja 8 16]
abbrev QjP:RC:=.seq (jQ QjI (jX 14 0)) (.seq (.block 1 (jQ QjJ (.block 2 (.loop QjN)))) (.reg QjO))
abbrev QjQ:RC:=jQ QjH (.block 0 (.loop QjP))
abbrev QjR:List RR:=[]
theorem QKR:CT 230 53 QjQ QjR:=ck Tryz.func230 Tryz.ntmps230 (by decide +kernel)
abbrev QjS:IL:=[jd 4 0]
abbrev QjT:IL:=[ja 6 0,ji 7 1 6,jd 8 0]
abbrev QjU:IL:=[jn 9 8 7]
abbrev QjV:IL:=[ja 10 8,ja 5 10]
abbrev QjW:IL:=[ja 11 1,ja 12 0,ja 13 5,jk 14 5 12 13,jf 15 5 14,FR 16 11 15]
abbrev QjX:IL:=[ja 17 5,ja 4 17]
abbrev QjY:IL:=[jm 18 8 1,ja 8 18]
abbrev QjZ:RC:=jQ QjU (.seq (jX 9 0) (.seq (.block 1 (jQ QjV (jQ QjW (.cond (.t 16) (jQ QjX (.ret)) (.skip))))) (.reg QjY)))
abbrev Qj0:IL:=[jd 4 (-1)]
abbrev Qj1:RC:=jQ QjS (.seq (jQ QjT (.block 0 (.loop QjZ))) (jQ Qj0 (.ret)))
abbrev Qj2:List RR:=[.tmp 4]
theorem Qj3:CT 241 19 Qj1 Qj2:=ck Tryz.func241 Tryz.ntmps241 (by decide +kernel)
abbrev Qj4:IL:=[jd 4 0]
abbrev Qj5:IL:=[ja 6 0,ji 7 1 6,jd 8 0]
abbrev Qj6:IL:=[jn 9 8 7]
abbrev Qj7:IL:=[ja 10 8,ja 5 10]
abbrev Qj8:IL:=[ja 11 1,ja 12 0,ja 13 5,jk 14 1 12 13,jc 15 14,FR 16 11 15]
abbrev Qj9:IL:=[ja 17 5,ja 4 17]
abbrev Qka:IL:=[jm 18 8 1,ja 8 18]
abbrev Qkb:RC:=jQ Qj6 (.seq (jX 9 0) (.seq (.block 1 (jQ Qj7 (jQ Qj8 (.cond (.t 16) (jQ Qj9 (.ret)) (.skip))))) (.reg Qka)))
abbrev Qkc:IL:=[jd 4 (-1)]
abbrev Qkd:RC:=jQ Qj4 (.seq (jQ Qj5 (.block 0 (.loop Qkb))) (jQ Qkc (.ret)))
abbrev Qke:List RR:=[.tmp 4]
theorem Qkf:CT 242 19 Qkd Qke:=ck Tryz.func242 Tryz.ntmps242 (by decide +kernel)
abbrev Qkg:IL:=[ye 8]
abbrev Qkh:IL:=[ja 12 3,jq 13 12 0]
abbrev Qki:IL:=[ye 8]
abbrev Qkj:IL:=[ja 14 1,⟨some 15,.val (.bin .str .eql (.t 14) (.c (.str []))),none⟩]
abbrev Qkk:IL:=[ja 16 0,ja 17 3,jy 18 273 16 17,ja 8 18]
abbrev Qkl:IL:=[ja 19 3,yo 20 19 0]
abbrev Qkm:IL:=[ja 21 0,ja 22 1,jy 23 274 21 22,jm 24 23 1,ja 3 24]
abbrev Qkn:IL:=[ja 25 3,ja 26 0,ji 27 0 26,jm 28 27 1,⟨some 29,.val (.mnx false (.t 25) (.t 28)),none⟩,ja 3 29]
abbrev Qko:IL:=[ja 30 3,⟨some 31,.mk 31 9 1 16 [.str []] (.t 30) (.t 30),none⟩,ja 9 31]
abbrev Qkp:IL:=[ja 32 3,za 33 32 1,ja 3 33]
abbrev Eo:IL:=[jd 10 0]
abbrev Ep:IL:=[ja 34 10,ja 35 3,jn 36 34 35]
abbrev Er:IL:=[ja 37 0,ja 38 1,jy 39 275 37 38,ja 11 39]
abbrev Es:IL:=[ja 40 11,yo 41 40 0]
abbrev Et:IL:=[ja 42 9,ja 43 10,ja 44 0,ja 45 11,ja 46 2,yj 47 45 46,⟨some 48,.val (.slc none (.t 44) none (some (.t 47)) none),none⟩,jk 49 1 42 43,js 1 49 48]
abbrev Eu:IL:=[ja 50 0,ja 51 11,ja 52 1,ji 53 0 52,yj 54 51 53,Mi 55 50 54,ja 0 55]
abbrev Ex:IL:=[ja 56 10,jm 57 56 1,ja 10 57]
abbrev Qkq:RC:=.seq (jQ Ep (jX 36 0)) (.block 1 (jQ Er (.seq (jQ Es (.cond (.t 41) (.exit 0) (.skip))) (jQ Et (jQ Eu (.reg Ex))))))
abbrev Ey:IL:=[ja 58 9,ja 59 10,ja 60 0,jk 61 1 58 59,js 1 61 60]
abbrev EA:IL:=[ja 62 9,ja 63 10,jm 64 63 1,FS 65 1 62 64,ja 8 65]
abbrev Qkr:RC:=jQ Qkg (.seq (jQ Qkh (.cond (.t 13) (jQ Qki (.ret)) (.skip))) (.seq (jQ Qkj (.cond (.t 15) (jQ Qkk (.ret)) (.skip))) (.seq (jQ Qkl (.cond (.t 20) (.reg Qkm) (.skip))) (jQ Qkn (jQ Qko (jQ Qkp (jQ Eo (.seq (.block 0 (.loop Qkq)) (jQ Ey (jQ EA (.ret)))))))))))
abbrev Qks:List RR:=[.tmp 8]
theorem Qkt:CT 243 66 Qkr Qks:=ck Tryz.func243 Tryz.ntmps243 (by decide +kernel)
abbrev Qku:IL:=[jd 2 0]
abbrev Qkv:IL:=[ja 4 0,⟨some 5,.val (.bin .num .geq (.t 4) (.c (.int .i32 97))),none⟩,ja 6 5,jg 7 0 6,⟨some 8,.val (.bin .num .leq (.t 7) (.c (.int .i32 122))),(some (6,true))⟩,jj 9 6 8,ja 3 9]
abbrev Qkw:IL:=[jd 2 1]
abbrev Qkx:IL:=[ja 11 0,⟨some 12,.val (.bin .num .geq (.t 11) (.c (.int .i32 65))),none⟩,ja 13 12,jg 14 0 13,⟨some 15,.val (.bin .num .leq (.t 14) (.c (.int .i32 90))),(some (13,true))⟩,jj 16 13 15,ja 10 16]
abbrev Qky:IL:=[jd 2 2]
abbrev Qkz:IL:=[ja 18 0,⟨some 19,.val (.bin .num .geq (.t 18) (.c (.int .i32 48))),none⟩,ja 20 19,jg 21 0 20,⟨some 22,.val (.bin .num .leq (.t 21) (.c (.int .i32 57))),(some (20,true))⟩,jj 23 20 22,ja 17 23]
abbrev QkA:IL:=[jd 2 3]
abbrev QkB:IL:=[ja 25 0,⟨some 26,.val (.bin .num .eql (.t 25) (.c (.int .i32 95))),none⟩,ja 24 26]
abbrev QkC:IL:=[jd 2 4]
abbrev QkD:IL:=[jd 2 0]
abbrev QkE:RC:=jQ Qku (.seq (.block 0 (jQ Qkv (.cond (.t 3) (jQ Qkw (.ret)) (jQ Qkx (.cond (.t 10) (jQ Qky (.ret)) (jQ Qkz (.cond (.t 17) (jQ QkA (.ret)) (jQ QkB (.cond (.t 24) (jQ QkC (.ret)) (.skip)))))))))) (jQ QkD (.ret)))
abbrev QkF:List RR:=[.tmp 2]
theorem QkG:CT 244 27 QkE QkF:=ck Tryz.func244 Tryz.ntmps244 (by decide +kernel)
abbrev QkH:IL:=[je 4 4 0,je 7 7 3,jd 8 0]
abbrev QkI:IL:=[jb 10 0 7,jc 11 10,ja 12 1,zs 13 11 12,ja 14 13,yv 15 7 7 14,zi 16 90 15 14,jo 17 14 16,ja 9 17]
abbrev QkJ:IL:=[jd 8 12]
abbrev QkK:IL:=[jb 19 2 7,jc 20 19,ji 21 0 20,yq 22 21 4096,ja 18 22]
abbrev QkL:IL:=[jd 8 3]
abbrev QkM:IL:=[ja 24 1,jq 25 24 7,ja 26 25,jl 27 2 7 26,ju 28 27 26,zh 29 168 28 26,yx 30 29 26,jj 31 26 30,ja 23 31]
abbrev QkN:IL:=[jd 8 7]
abbrev QkO:IL:=[ja 33 1,jf 34 7 7,jy 35 279 33 34,jz 36 35,ja 32 36]
abbrev QkP:IL:=[jd 8 12]
abbrev QkQ:IL:=[ja 38 1,jq 39 38 9,ja 40 39,jl 41 0 4 40,zk 42 2 41 40,jg 43 2 40,jl 44 1 7 40,ju 45 44 40,FT 46 179 42 43 45 40,yx 47 46 40,jj 48 40 47,ja 37 48]
abbrev EB:IL:=[jd 8 16]
abbrev EC:IL:=[jd 8 0]
abbrev QkR:RC:=jQ QkH (.seq (.block 0 (jQ QkI (.cond (.t 9) (jQ QkJ (.ret)) (jQ QkK (.cond (.t 18) (jQ QkL (.ret)) (jQ QkM (.cond (.t 23) (jQ QkN (.ret)) (jQ QkO (.cond (.t 32) (jQ QkP (.ret)) (jQ QkQ (.cond (.t 37) (jQ EB (.ret)) (.skip)))))))))))) (jQ EC (.ret)))
abbrev QkS:List RR:=[.tmp 8]
theorem QKS:CT 251 49 QkR QkS:=ck Tryz.func251 Tryz.ntmps251 (by decide +kernel)
abbrev QkT:IL:=[ja 10 1,jm 11 10 1,ja 8 11]
abbrev QkU:IL:=[ja 12 8,ja 13 2,jn 14 12 13]
abbrev QkV:IL:=[ja 17 8,ja 9 17]
abbrev QkW:IL:=[ja 18 9,ja 19 1,FO 20 18 19,ja 21 20,jg 22 3 21,jg 23 0 21,jg 24 9 21,yc 25 8 23 24 21,Gj 26 8 25 21,jg 27 0 21,jg 28 9 21,DP 29 28 1 21,yc 30 8 27 29 21,Gj 31 8 30 21,⟨some 32,.call (.t 22) [(.t 26),(.t 31)],(some (21,true))⟩,⟨some 33,.val (.bin .num .lss (.t 32) (.c (.int .i64 0))),(some (21,true))⟩,jj 34 21 33]
abbrev QkX:IL:=[ja 37 0,ja 38 9,ja 39 0,ja 40 9,za 41 40 1,ja 42 0,ja 43 9,za 44 43 1,jk 45 8 42 44,ya 46 8 45,ja 47 0,ja 48 9,jk 49 8 47 48,ya 50 8 49,jk 51 8 37 38,js 8 51 46,jk 52 8 39 41,js 8 52 50]
abbrev QkY:IL:=[ja 35 9,za 36 35 1,ja 9 36]
abbrev QkZ:RC:=.seq (jD QkW (jX 34 2)) (.seq (.block 3 (.draw QkX)) (.reg QkY))
abbrev Qk0:IL:=[ja 15 8,jm 16 15 1,ja 8 16]
abbrev Qk1:RC:=.seq (jQ QkU (jX 14 0)) (.seq (.block 1 (jQ QkV (.block 2 (.loop QkZ)))) (.reg Qk0))
abbrev Qk2:RC:=jQ QkT (.block 0 (.loop Qk1))
abbrev Qk3:List RR:=[]
theorem QKT:CT 254 53 Qk2 Qk3:=ck Tryz.func254 Tryz.ntmps254 (by decide +kernel)
abbrev Qk4:IL:=[jh 2]
abbrev Qk5:IL:=[ja 3 0,jq 4 3 7,ja 5 4,jv 6 0 5,ys 7 6 8 5,jo 8 5 7,ja 2 8]
abbrev Qk6:RC:=jQ Qk4 (jQ Qk5 (.ret))
abbrev Qk7:List RR:=[.tmp 2]
theorem Qk8:CT 267 9 Qk6 Qk7:=ck Tryz.func267 Tryz.ntmps267 (by decide +kernel)
abbrev Qk9:IL:=[jd 4 0]
abbrev Qla:IL:=[ja 7 1,ji 8 0 7,jq 9 8 0]
abbrev Qlb:IL:=[ja 10 0,jr 11 289 10,jm 12 11 1,ja 4 12]
abbrev Qlc:IL:=[ja 13 1,ji 14 0 13,jq 15 14 1]
abbrev Qld:IL:=[ja 16 0,ja 17 1,⟨some 18,.val (.idx (.t 17) (.c (.int .i64 0))),none⟩,⟨some 19,.xb true 291 (.t 16) (.t 18),none⟩,ja 4 19]
abbrev Qle:IL:=[jd 5 0]
abbrev Qlf:IL:=[ja 20 0,ja 21 1,jy 22 275 20 21,ja 6 22]
abbrev Qlg:IL:=[ja 23 6,jq 24 23 (-1)]
abbrev Qlh:IL:=[ja 25 5,ja 4 25]
abbrev Qli:IL:=[ja 26 5,jm 27 26 1,ja 5 27]
abbrev ED:IL:=[ja 28 0,ja 29 6,ja 30 1,ji 31 0 30,yj 32 29 31,Mi 33 28 32,ja 0 33]
abbrev Qlj:RC:=.block 1 (jQ Qlf (.seq (jQ Qlg (.cond (.t 24) (jQ Qlh (.ret)) (.skip))) (jQ Qli (.reg ED))))
abbrev Qlk:RC:=jQ Qk9 (.seq (jQ Qla (.cond (.t 9) (jQ Qlb (.ret)) (.skip))) (.seq (jQ Qlc (.cond (.t 15) (jQ Qld (.ret)) (.skip))) (jQ Qle (.block 0 (.loop Qlj)))))
abbrev Qll:List RR:=[.tmp 4]
theorem Qlm:CT 274 34 Qlk Qll:=ck Tryz.func274 Tryz.ntmps274 (by decide +kernel)
abbrev Qln:IL:=[jd 4 0]
abbrev Qlo:IL:=[ja 5 0,ja 6 1,jy 7 292 5 6,ja 4 7]
abbrev Qlp:RC:=jQ Qln (jQ Qlo (.ret))
abbrev Qlq:List RR:=[.tmp 4]
theorem Qlr:CT 275 8 Qlp Qlq:=ck Tryz.func275 Tryz.ntmps275 (by decide +kernel)
abbrev Qls:IL:=[je 3 3 1,jh 4]
abbrev Qlt:IL:=[ja 5 0,jr 6 217 5,jz 7 6,ja 8 7,jp 9 0 3 8,jt 10 9 8,jv 11 0 8,U8 12 10 11 8,jo 13 8 12,ja 14 13,yv 15 7 3 14,zi 16 229 15 14,ze 17 16 14,jo 18 14 17,ja 19 18,jv 20 0 19,jp 21 1 3 19,jt 22 21 19,NI 23 294 20 22 19,ze 24 23 19,jo 25 19 24,ja 26 25,jp 27 2 3 26,jt 28 27 26,yf 29 0 28 26,yk 30 29 4096 26,jo 31 26 30]
abbrev Qlu:IL:=[jh 4]
abbrev Qlv:IL:=[ja 32 0,yg 33 32 7,ja 34 33,jp 35 2 3 34,jt 36 35 34,zi 37 168 36 34,jo 38 34 37,ja 4 38]
abbrev Qlw:RC:=jQ Qls (.seq (jQ Qlt (.cond (.t 31) (jQ Qlu (.ret)) (.skip))) (jQ Qlv (.ret)))
abbrev Qlx:List RR:=[.tmp 4]
theorem Qly:CT 279 39 Qlw Qlx:=ck Tryz.func279 Tryz.ntmps279 (by decide +kernel)
def Mu:IL:=[jd 4 0]
def Mv:IL:=[ja 14 1,ji 15 0 14,ja 5 15]
def Mw:IL:=[ja 17 5,jq 18 17 0,ja 19 18,jv 20 1 19,jv 21 0 19,⟨some 22,.val (.bin .str .eql (.t 20) (.t 21)),(some (19,false))⟩,jo 23 19 22,ja 16 23]
def Mx:IL:=[jd 4 0]
def My:IL:=[ja 25 5,jq 26 25 1,ja 24 26]
def Mz:IL:=[ja 27 0,ja 28 1,⟨some 29,.val (.idx (.t 28) (.c (.int .i64 0))),none⟩,jy 30 300 27 29,ja 4 30]
def MA:IL:=[ja 32 5,ja 33 0,ji 34 0 33,⟨some 35,.val (.bin .num .geq (.t 32) (.t 34)),none⟩,ja 31 35]
def MB:IL:=[jd 4 (-1)]
def MD:IL:=[ja 45 0,ja 46 1,jy 47 301 45 46,ja 4 47]
def EE:IL:=[ja 48 1,⟨some 49,.val (.idx (.t 48) (.c (.int .i64 0))),none⟩,ja 6 49]
def EF:IL:=[ja 50 1,⟨some 51,.val (.idx (.t 50) (.c (.int .i64 1))),none⟩,ja 7 51]
def EG:IL:=[jd 8 0]
def EH:IL:=[ja 52 0,ji 53 0 52,ja 54 5,zg 55 53 54,jm 56 55 1,ja 9 56]
def EI:IL:=[jd 10 0]
def EJ:IL:=[ja 57 8,ja 58 9,jn 59 57 58]
def EK:IL:=[ja 60 0,ja 61 8,NJ 62 60 61,ja 63 6,zs 64 62 63]
def EL:IL:=[ja 65 0,ja 66 8,jm 67 66 1,ja 68 9,⟨some 69,.val (.slc none (.t 65) (some (.t 67)) (some (.t 68)) none),none⟩,ja 70 6,jy 71 300 69 70,ja 11 71]
def EM:IL:=[ja 72 11,yo 73 72 0]
def EN:IL:=[jd 4 (-1)]
def EO:IL:=[ja 74 8,ja 75 11,jm 76 75 1,yj 77 74 76,ja 8 77]
def EP:IL:=[ja 78 0,ja 79 8,jm 80 79 1,NJ 81 78 80,ja 82 7,zm 83 81 82,ja 84 83,jg 85 0 84,jg 86 8 84,jg 87 8 84,jg 88 5 84,⟨some 89,.val (.bin .num .add (.t 87) (.t 88)),(some (84,true))⟩,⟨some 90,.val (.slc none (.t 85) (some (.t 86)) (some (.t 89)) none),(some (84,true))⟩,jg 91 1 84,Md 92 90 91 84,jj 93 84 92]
def EQ:IL:=[ja 94 8,ja 4 94]
def ER:IL:=[ja 95 8,jm 96 95 1,ja 8 96]
def ES:IL:=[ja 97 10,jm 98 97 1,ja 10 98]
def ET:IL:=[ja 108 0,ja 109 8,Mi 110 108 109,ja 111 1,jy 112 301 110 111,ja 12 112]
def EU:IL:=[ja 113 12,yn 114 113 0]
def EV:IL:=[ja 115 12,ja 116 8,yj 117 115 116,ja 4 117]
def EX:IL:=[jd 4 (-1)]
def EY:IL:=[ja 133 0,ja 134 8,Mi 135 133 134,ja 136 1,jy 137 303 135 136,ja 13 137]
def EZ:IL:=[ja 138 13,yo 139 138 0]
def E0:IL:=[jd 4 (-1)]
def E1:IL:=[ja 140 8,ja 141 13,yj 142 140 141,ja 4 142]
def Qlz:RC:=.seq (jQ EJ (jX 59 1)) (.block 2 (.seq (jQ EK (.cond (.t 64) (jQ EL (.seq (jQ EM (.cond (.t 73) (jQ EN (.ret)) (.skip))) (.reg EO))) (.skip))) (.seq (jQ EP (.cond (.t 93) (jQ EQ (.ret)) (.skip))) (jQ ER (jQ ES (.seq (.no) (.cond (.t 107) (jQ ET (.seq (jQ EU (.cond (.t 114) (jQ EV (.ret)) (.skip))) (jQ EX (.ret)))) (.seq (.no) (.cond (.t 132) (jQ EY (.seq (jQ EZ (.cond (.t 139) (jQ E0 (.ret)) (.skip))) (jQ E1 (.ret)))) (.skip))))))))))
def E2:IL:=[jd 4 (-1)]
def VN:RC:=jQ Mu (jQ Mv (.seq (.block 0 (jQ Mw (.cond (.t 16) (jQ Mx (.ret)) (jQ My (.cond (.t 24) (jQ Mz (.ret)) (jQ MA (.cond (.t 31) (jQ MB (.ret)) (.seq (.no) (.cond (.t 36) (jQ MD (.ret)) (.skip)))))))))) (jQ EE (jQ EF (jQ EG (jQ EH (jQ EI (.seq (.block 1 (.loop Qlz)) (jQ E2 (.ret))))))))))
def P9:List RR:=[.tmp 4]
theorem QlA:CT 292 143 VN P9:=ck Tryz.func292 Tryz.ntmps292 (by decide +kernel)
abbrev QlB:IL:=[jh 4]
abbrev QlC:IL:=[NC 5 4294967295]
abbrev QlD:IL:=[ja 6 0]
abbrev QlE:IL:=[jq 8 6 1,ja 7 8]
abbrev QlF:IL:=[jq 10 6 2,ja 9 10]
abbrev QlG:IL:=[jq 12 6 9,ja 11 12]
abbrev QlH:IL:=[jq 14 6 4,ja 13 14]
abbrev QlI:IL:=[ja 15 1,⟨some 16,.val (.bin .num .leq (.t 15) (.c (.int .u64 1))),none⟩,ja 4 16]
abbrev QlJ:IL:=[ja 17 1,Nw 18 17,yn 19 18 (-2147483648),ja 20 19,jg 21 1 20,⟨some 22,.val (.cvi .i64 (.t 21)),(some (20,true))⟩,yy 23 22 2147483647 20,jj 24 20 23,ja 4 24]
abbrev QlK:IL:=[NC 5 2147483647]
abbrev E3:IL:=[ja 25 1,ja 26 5,FX 27 25 26,ja 4 27]
abbrev E4:IL:=[yl 4]
abbrev QlL:RC:=jQ QlB (jQ QlC (.seq (jQ QlD (.block 0 (.seq (.block 4 (.seq (.block 3 (.seq (.block 2 (.seq (.block 1 (.seq (.seq (jQ QlE (.cond (.t 7) (.exit 1) (.skip))) (.seq (jQ QlF (.cond (.t 9) (.exit 2) (.skip))) (.seq (jQ QlG (.cond (.t 11) (.exit 3) (.skip))) (jQ QlH (.cond (.t 13) (.exit 4) (.skip)))))) (.exit 0))) (.seq (jQ QlI (.ret)) (.exit 0)))) (.seq (jQ QlJ (.ret)) (.exit 0)))) (.reg QlK))) (.seq (jQ E3 (.ret)) (.exit 0))))) (jQ E4 (.ret))))
abbrev QlM:List RR:=[.tmp 4]
theorem QlN:CT 294 28 QlL QlM:=ck Tryz.func294 Tryz.ntmps294 (by decide +kernel)
abbrev QlO:IL:=[jd 4 0]
abbrev QlP:IL:=[ja 5 0,ja 6 1,⟨some 7,.xb false 305 (.t 5) (.t 6),none⟩,ja 4 7]
abbrev QlQ:RC:=jQ QlO (jQ QlP (.ret))
abbrev QlR:List RR:=[.tmp 4]
theorem QlS:CT 300 8 QlQ QlR:=ck Tryz.func300 Tryz.ntmps300 (by decide +kernel)
abbrev QBc:IL:=[je 3 3 0,je 5 5 2,jd 6 0]
abbrev QBd:IL:=[ja 8 1,yo 9 8 0,ja 10 9,jv 11 1 10,jp 12 0 3 10,jt 13 12 10,yf 14 1 13 10,FQ 15 11 14 10,jo 16 10 15]
abbrev QBe:IL:=[jd 6 10]
abbrev QBf:IL:=[jf 17 2 3,ja 18 1,jf 19 7 5,⟨some 20,.call (.f 31) [(.t 17),(.t 18),(.t 19),(.c (.int .i64 1))],none⟩,ja 7 20]
abbrev QBg:IL:=[ja 21 7,yg 22 21 0]
abbrev QBh:IL:=[ja 23 7,ja 6 23]
abbrev QBi:IL:=[jf 24 7 5,jr 25 32 24,yq 26 25 4096]
abbrev QBj:IL:=[jd 6 3]
abbrev QBk:IL:=[jd 6 0]
abbrev r14:RC:=jQ QBc (.seq (jQ QBd (.cond (.t 16) (jQ QBe (.ret)) (.skip))) (.seq (jQ QBf (jQ QBg (.cond (.t 22) (jQ QBh (.ret)) (.skip)))) (.seq (jQ QBi (.cond (.t 26) (jQ QBj (.ret)) (.skip))) (jQ QBk (.ret)))))
abbrev o14:List RR:=[.tmp 6]
theorem k14:CT 14 27 r14 o14:=ck Tryz.func14 Tryz.ntmps14 (by decide +kernel)
abbrev QBl:IL:=[jh 4]
abbrev QBm:IL:=[ja 6 0,ji 7 1 6,ja 8 1,ji 9 1 8,zs 10 7 9]
abbrev QBn:IL:=[jh 4]
abbrev QBo:IL:=[jd 5 0]
abbrev QBp:IL:=[ja 11 5,ja 12 0,ji 13 1 12,jn 14 11 13]
abbrev QBq:IL:=[ja 17 0,ja 18 5,jk 19 4 17 18,ya 20 4 19,ja 21 1,ja 22 5,jk 23 4 21 22,ya 24 4 23,⟨some 25,.val (.eqs true [.num,.num,.num,.str] (.t 20) (.t 24)),none⟩]
abbrev QBr:IL:=[jh 4]
abbrev QBs:IL:=[ja 15 5,jm 16 15 1,ja 5 16]
abbrev QBt:RC:=.seq (jQ QBp (jX 14 0)) (.seq (.block 1 (jD QBq (.cond (.t 25) (jQ QBr (.ret)) (.skip)))) (.reg QBs))
abbrev QBu:IL:=[yl 4]
abbrev r18:RC:=jQ QBl (.seq (jQ QBm (.cond (.t 10) (jQ QBn (.ret)) (.skip))) (.seq (jQ QBo (.block 0 (.loop QBt))) (jQ QBu (.ret))))
abbrev o18:List RR:=[.tmp 4]
theorem k18:CT 18 26 r18 o18:=ck Tryz.func18 Tryz.ntmps18 (by decide +kernel)
end Go.Proofs.YtipjfckmopekaaaGreatDoor.Rc

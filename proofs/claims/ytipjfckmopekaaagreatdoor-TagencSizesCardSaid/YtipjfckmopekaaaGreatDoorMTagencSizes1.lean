/- Parts of the proof, in order. -/
import Derived.Deep.LoopGhost
import Derived.Scope
import Derived.Orders
import Derived.Defers
import Derived.Below
import Derived.ChangeSame
import Derived.ProofKit
import Derived.Test.YtipjfckmopekaaaGreatDoorProg
import Derived.Test.YtipjfckmopekaaaGreatDoorMTagencSizes0

namespace Go.Proofs.YtipjfckmopekaaaGreatDoor.Am
open Go

def Qp (P:Program)(k:FuncId)(args:List AV)(v:AV):Prop:=K2 P k args (· = v)

def Yi (P:Program)(d:Option Nat)(op:RO)(st:St)(K:St→Prop):Prop :=
 match op with
 |.val vo=>∃x,Qr st.f st.m vo=some x∧K { st with f:=Qn st.f d x }
 |.allocN s z=>Xw st.m s=true∧K { st with m:=Am.put st.m 0 s (.cells z),f:=Qn st.f d (.ptr 0 s 0) }
 |.boxN s r=>Xw st.m s=true∧(r.ev st.f).cells.all AV.leaf=true∧K { st with m:=Am.put st.m 0 s (.cells (r.ev st.f).cells),f:=Qn st.f d (.ptr 0 s 0) }
 |.store n p r=>(r.ev st.f).cells.length=n∧(r.ev st.f).cells.all AV.leaf=true∧∃m',QU st.m (p.ev st.f) (r.ev st.f).cells=some m'∧K { st with m:=m',f:=Qn st.f d (.tup []) }
 |.app sz bytes el s r=>∃l site g n xs ys,s.ev st.f=.vec l site g 0 n false∧Qg st.m l site=.vec g sz xs∧XF site el=true∧n≤xs.length∧Q8 st.m (r.ev st.f)=some ys∧ys.all (fun e=>e.cells.length==sz)=true∧n+ys.length≤maxLen∧(n+ys.length)*bytes≤140737488355328∧
   K { st with m:=Am.put st.m l site (.vec (g+1) sz (xs.take n++ys)),f:=Qn st.f d (.vec l site (g+1) 0 (n+ys.length) false) }
 |.storev l s n p r=>(∃o,p.ev st.f=.ptr l s o)∧(r.ev st.f).cells.length=n∧(r.ev st.f).cells.all AV.leaf=true∧∃m',QU st.m (p.ev st.f) (r.ev st.f).cells=some m'∧K { st with m:=m',f:=Qn st.f d (.tup []) }
 |.call f args=>∃k fa fb ys v,f.ev st.f=.fn (.func k) fa fb∧AV.stillL false st.m (fa++args.map (RA.ev st.f)++fb)=some ys∧AV.rfL ys=true∧Qp P k ys v∧v.rf=true∧(AV.rfL (fa++args.map (RA.ev st.f)++fb)=true∨v.nl=true)∧K { st with f:=Qn st.f d v }
 |.callF f args=>∃k fa fb v m',f.ev st.f=.fn (.func k) fa fb∧Qh P k (fa++args.map (RA.ev st.f)++fb) st.m (fun x m=>x=v∧m=m')∧K { st with m:=m',f:=Qn st.f d v }
 |.bsl sz len z ps=>∃y,fill st.f ps (XJ z sz len)=some y∧AV.rfL y=true∧y.all AV.leaf=true∧K { st with f:=Qn st.f d (.list (XQ sz len (y.map nn0))) }
 |.bslv site sz len z ps=>∃y,fill st.f ps (XJ z sz len)=some y∧AV.rfL y=true∧y.all AV.leaf=true∧Qv (Qg st.m 0 site)=true∧
   K { st with m:=Am.put st.m 0 site (.vec (QB st.m 0 site) sz (XQ sz len (y.map nn0))),f:=Qn st.f d (.vec 0 site (QB st.m 0 site) 0 len false) }
 |.bsl0 site sz=>Qv (Qg st.m 0 site)=true∧K { st with m:=Am.put st.m 0 site (.vec (QB st.m 0 site) sz []),f:=Qn st.f d (.vec 0 site (QB st.m 0 site) 0 0 false) }
 |.isnil neg r=>∃ys,Q8 st.m (r.ev st.f)=some ys∧(r.ev st.f≠.nils→K { st with f:=Qn st.f d (.bool neg) })∧((r.ev st.f=.nils∨QK ys=[])→K { st with f:=Qn st.f d (.bool (!neg)) })
 |.callK l s f args=>∃k fa fb v m',f.ev st.f=.fn (.func k) fa fb∧Qh P k (fa++args.map (RA.ev st.f)++fb) st.m (fun x m=>x=v∧m=m')∧Qg m' l s=Qg st.m l s∧K { st with m:=m',f:=Qn st.f d v }
 |.xb cnt _ s c=>∃t b,s.ev st.f=.str t∧c.ev st.f=.int .u8 b∧K { st with f:=Qn st.f d (.int .i64 (He cnt t b)) }
 |.callR f args=>∃k fa fb ys R,f.ev st.f=.fn (.func k) fa fb∧AV.stillL false st.m (fa++args.map (RA.ev st.f)++fb)=some ys∧AV.rfL ys=true∧K2 P k ys R∧(∀v,R v→v.rf=true∧(AV.rfL (fa++args.map (RA.ev st.f)++fb)=true∨v.nl=true))∧∀v,R v→K { st with f:=Qn st.f d v }
 |.rngs s r=>∃t,r.ev st.f=.str t∧Xw st.m s=true∧K { st with m:=Am.put st.m 0 s (.iter (.str t) 0),f:=Qn st.f d (.ptr 0 s 0) }
 |.mkm s=>Xw st.m s=true∧K { st with m:=Am.put st.m 0 s (.iter (.mp [] []) 0),f:=Qn st.f d (.mptr 0 s) }
 |.mput x i v=>∃l s ks vs p k,x.ev st.f=.mptr l s∧Qg st.m l s=.iter (.mp ks vs) p∧i.ev st.f=.str k∧(v.ev st.f).gr=true∧AV.grL vs=true∧ks.length=vs.length∧K { st with m:=Am.put st.m l s (.iter (.mp (XO k (v.ev st.f) ks vs).1 (XO k (v.ev st.f) ks vs).2) p),f:=Qn st.f d (.tup []) }
 |.nxts r=>∃l s t p,r.ev st.f=.ptr l s 0∧Qg st.m l s=.iter (.str t) p∧
   (p<t.length→K { st with m:=Am.put st.m l s (.iter (.str t) (p+(Xc t p).2)),f:=Qn st.f d (.tup [.bool true,.int .i64 (p:Nat),.int .i32 ((Xc t p).1:Nat)]) })∧(t.length≤p→K { st with f:=Qn st.f d (.tup [.bool false]) })
 |.appS el s r=>∃l site g n xs t,s.ev st.f=.vec l site g 0 n false∧Qg st.m l site=.vec g 1 xs∧XF site el=true∧n≤xs.length∧r.ev st.f=.str t∧n+t.length≤140737488355328∧
   K { st with m:=Am.put st.m l site (.vec (g+1) 1 (xs.take n++Qy t)),f:=Qn st.f d (.vec l site (g+1) 0 (n+t.length) false) }
 |.mk site _ sz bytes z l c=>∃(kl kc:IntKind) (n k:Nat),l.ev st.f=.int kl (n:Int)∧c.ev st.f=.int kc (k:Int)∧n≤k∧k≤9223372036854775807∧bytes*k≤281474976710656∧Qv (Qg st.m 0 site)=true∧
   K { st with m:=Am.put st.m 0 site (.vec (QB st.m 0 site) sz (List.replicate n (Jo sz z))),f:=Qn st.f d (.vec 0 site (QB st.m 0 site) 0 n false) }
 |.usd r=>∃l s g n sz xs,2000≤s∧r.ev st.f=.vec l s g 0 n false∧Qg st.m l s=.vec g sz xs∧K { st with f:=Qn st.f d (if n=0 then .anyp else .vptr l s g 0 0) }
 |.ustr el p r=>(p.ev st.f=.anyp∧r.ev st.f=.int .i64 0∧K { st with f:=Qn st.f d (.str []) })∨
   ∃l g n xs s,p.ev st.f=.vptr l (el+2000) g 0 0∧r.ev st.f=.int .i64 ((n:Nat):Int)∧Qg st.m l (el+2000)=.vec g 1 xs∧n≤xs.length∧n≠0∧xs.take n=Qy s∧K { st with m:=Am.put st.m l (el+2000) (.vec (g+1) 1 []),f:=Qn st.f d (.str s) }

def XK (P:Program)(it:Item)(st:St)(K:St→Prop):Prop :=
 match it.g with
 |none=>Yi P it.dst it.op st K
 |some (j,want)=>match st.f j with
  |.bool b=>(b=want→Yi P it.dst it.op st K)∧(b=(!want)→K { st with f:=Qn st.f it.dst (.tup []) })
  |.tup l=>l=[]∧K { st with f:=Qn st.f it.dst (.tup []) }
  |_=>False

def QD (P:Program):List Item→St→(St→Prop)→Prop
 | [],st,K=>K st
 |it :: Qe,st,K=>XK P it st fun st'=>QD P Qe st' K

section
variable {P:Program}{N:Nat}

theorem VH {d:Option Nat}{op:RO}{Qe:List Item}{st:St}{Q:St→Prop}(h:Yi P d op st fun st'=>Qu P N Qe st' Q):Qu P N (⟨d,op,none⟩ :: Qe) st Q:=by
 cases op with
 |val vo=>obtain⟨x,hx,h⟩:=h;exact .val hx h
 |allocN s z=>exact .allocN h.1 h.2
 |boxN s r=>exact .boxN h.1 h.2.1 h.2.2
 |store n p r=>obtain⟨h1,h2,m',h3,h⟩:=h;exact .store h1 h2 h3 h
 |app sz bytes el s r=>obtain⟨l,site,g,n,xs,ys,h1,h2,ht,h3,h4,h5,h6,h7,h⟩:=h;exact .app h1 h2 ht h3 h4 h5 h6 h7 h
 |appS el s r=>obtain⟨l,site,g,n,xs,t,h1,h2,ht,h3,h4,h5,h⟩:=h;exact .appS h1 h2 ht h3 h4 h5 h
 |mk site el sz bytes z l c=>obtain⟨kl,kc,n,k,h1,h2,h3,h4,h5,h6,h⟩:=h;exact .mk h1 h2 h3 h4 h5 h6 h
 |usd r=>obtain⟨l,s,g,n,sz,xs,h0,h1,h2,h⟩:=h;exact .usd h0 h1 h2 h
 |ustr el p r=>
  rcases h with⟨h1,h2,h⟩|⟨l,g,n,xs,s,h1,h2,h3,h4,h5,h6,h⟩
  ·exact .ustr0 h1 h2 h
  ·exact .ustr h1 h2 h3 h4 h5 h6 h
 |storev l s n p r=>obtain⟨_,h1,h2,m',h3,h⟩:=h;exact .same (ro:=.store n p r) (fun _=>rfl) (.store h1 h2 h3 h)
 |call f args=>
  obtain⟨k,fa,fb,ys,v,hf,h1,h2,h3,h4,h5,h⟩:=h;exact .callPure hf h1 h2 h3 (fun x hx=>by subst hx;exact⟨h4,h5⟩) fun x hx=>by subst hx;exact h
 |callF f args=>
  obtain⟨k,fa,fb,v,m',hf,h1,h⟩:=h;exact .same (ro:=.call f args) (fun _=>rfl) (.callFull hf h1 fun x m hx _=>by obtain⟨rfl,rfl⟩:=hx;exact h)
 |bsl sz len z ps=>obtain⟨y,h1,h2,h3,h⟩:=h;exact .bsl h1 h2 h3 h
 |bslv site sz len z ps=>obtain⟨y,h1,h2,h3,h4,h⟩:=h;exact .bslv h1 h2 h3 h4 h
 |bsl0 site sz=>exact .bsl0 h.1 h.2
 |isnil neg r=>obtain⟨ys,h1,h2,h3⟩:=h;exact .isnil h1 h2 h3
 |callK l s f args=>
  obtain⟨k,fa,fb,v,m',hf,h1,_,h⟩:=h;exact .same (ro:=.call f args) (fun _=>rfl) (.callFull hf h1 fun x m hx _=>by obtain⟨rfl,rfl⟩:=hx;exact h)
 |xb cnt k s c=>obtain⟨t,b,h1,h2,h⟩:=h;exact .xb h1 h2 h
 |callR f args=>
  obtain⟨k,fa,fb,ys,R,hf,h1,h2,h3,h4,h⟩:=h;exact .same (ro:=.call f args) (fun _=>rfl) (.callPure hf h1 h2 h3 h4 h)
 |rngs s r=>obtain⟨t,h1,h2,h⟩:=h;exact .rngs h1 h2 h
 |nxts r=>obtain⟨l,s,t,p,h1,h2,h3,h4⟩:=h;exact .nxts h1 h2 h3 h4
 |mkm s=>obtain⟨h1,h⟩:=h;exact .mkm h1 h
 |mput x i v=>obtain⟨l,s,ks,vs,p,k,h1,h2,h3,h4,h5,h6,h⟩:=h;exact .mput h1 h2 h3 h4 h5 h6 h

theorem DG {it:Item}{Qe:List Item}{st:St}{Q:St→Prop}(h:XK P it st fun st'=>Qu P N Qe st' Q):Qu P N (it :: Qe) st Q:=by
 obtain⟨d,op,g⟩:=it;cases g with
 |none=>exact VH h
 |some p=>
  obtain⟨j,want⟩:=p;simp only[XK]at h;split at h
  ·rename_i b hj;by_cases hb:b=want
   ·subst hb;exact .yes hj (VH (h.1 rfl))
   ·have hb':b=!want:=by cases b<;>cases want<;>first|rfl|exact absurd rfl hb
    subst hb';exact .no (.inl hj) (h.2 rfl)
  ·rename_i l hj;obtain⟨rfl,h⟩:=h;exact .no (.inr hj) h
  ·exact h.elim

theorem DH {d:Option Nat}{op:RO}{st:St}{K K':St→Prop}(hk:∀s,K s→K' s)(h:Yi P d op st K):Yi P d op st K':=by
 cases op<;>simp only[Yi]at h ⊢
 case val=>obtain⟨x,a,b⟩:=h;exact⟨x,a,hk _ b⟩
 case allocN=>exact⟨h.1,hk _ h.2⟩
 case boxN=>exact⟨h.1,h.2.1,hk _ h.2.2⟩
 case store=>obtain⟨h1,h2,m',h3,h⟩:=h;exact⟨h1,h2,m',h3,hk _ h⟩
 case app=>obtain⟨l,site,g,n,xs,ys,h1,h2,ht,h3,h4,h5,h6,h7,h⟩:=h;exact⟨l,site,g,n,xs,ys,h1,h2,ht,h3,h4,h5,h6,h7,hk _ h⟩
 case appS=>obtain⟨l,site,g,n,xs,t,h1,h2,ht,h3,h4,h5,h⟩:=h;exact⟨l,site,g,n,xs,t,h1,h2,ht,h3,h4,h5,hk _ h⟩
 case mk=>obtain⟨kl,kc,n,k,h1,h2,h3,h4,h5,h6,h⟩:=h;exact⟨kl,kc,n,k,h1,h2,h3,h4,h5,h6,hk _ h⟩
 case usd=>obtain⟨l,s,g,n,sz,xs,h0,h1,h2,h⟩:=h;exact⟨l,s,g,n,sz,xs,h0,h1,h2,hk _ h⟩
 case ustr=>
  rcases h with⟨h1,h2,h⟩|⟨l,g,n,xs,s,h1,h2,h3,h4,h5,h6,h⟩
  ·exact .inl ⟨h1,h2,hk _ h⟩
  ·exact .inr ⟨l,g,n,xs,s,h1,h2,h3,h4,h5,h6,hk _ h⟩
 case bsl=>obtain⟨y,h1,h2,h3,h⟩:=h;exact⟨y,h1,h2,h3,hk _ h⟩
 case bslv=>obtain⟨y,h1,h2,h3,h4,h⟩:=h;exact⟨y,h1,h2,h3,h4,hk _ h⟩
 case bsl0=>exact⟨h.1,hk _ h.2⟩
 case isnil=>obtain⟨ys,h1,h2,h3⟩:=h;exact⟨ys,h1,fun e=>hk _ (h2 e),fun e=>hk _ (h3 e)⟩
 case callK=>obtain⟨k,fa,fb,v,m',hf,h1,h2,h⟩:=h;exact⟨k,fa,fb,v,m',hf,h1,h2,hk _ h⟩
 case xb=>obtain⟨t,b,h1,h2,h⟩:=h;exact⟨t,b,h1,h2,hk _ h⟩
 case callR=>obtain⟨k,fa,fb,ys,R,hf,h1,h2,h3,h4,h⟩:=h;exact⟨k,fa,fb,ys,R,hf,h1,h2,h3,h4,fun v hv=>hk _ (h v hv)⟩
 case rngs=>obtain⟨t,h1,h2,h⟩:=h;exact⟨t,h1,h2,hk _ h⟩
 case mkm=>obtain⟨h1,h⟩:=h;exact⟨h1,hk _ h⟩
 case mput=>obtain⟨l,s,ks,vs,p,k,h1,h2,h3,h4,h5,h6,h⟩:=h;exact⟨l,s,ks,vs,p,k,h1,h2,h3,h4,h5,h6,hk _ h⟩
 case nxts=>obtain⟨l,s,t,p,h1,h2,h3,h4⟩:=h;exact⟨l,s,t,p,h1,h2,fun e=>hk _ (h3 e),fun e=>hk _ (h4 e)⟩
 case storev=>obtain⟨h0,h1,h2,m',h3,h⟩:=h;exact⟨h0,h1,h2,m',h3,hk _ h⟩
 case call=>obtain⟨k,fa,fb,ys,v,hf,h1,h2,h3,h4,h5,h⟩:=h;exact⟨k,fa,fb,ys,v,hf,h1,h2,h3,h4,h5,hk _ h⟩
 case callF=>obtain⟨k,fa,fb,v,m',hf,h1,h⟩:=h;exact⟨k,fa,fb,v,m',hf,h1,hk _ h⟩

theorem WN {it:Item}{st:St}{K K':St→Prop}(hk:∀s,K s→K' s)(h:XK P it st K):XK P it st K':=by
 unfold XK at h ⊢;split at h
 ·exact DH hk h
 ·split at h
  ·exact⟨fun e=>DH hk (h.1 e),fun e=>hk _ (h.2 e)⟩
  ·exact⟨h.1,hk _ h.2⟩
  ·exact h.elim

theorem BB:∀ {Qe:List Item} {st:St} {Q:St→Prop},QD P Qe st Q→Qu P N Qe st Q
 | [],_,_,h=>.nil h
 |_ :: _,_,_,h=>DG (WN (fun _ hs=>BB hs) h)

end

inductive GO where
 |vec (slot site sz:Nat)
 |drop (s:Nat)
 |vecc (s idx site sz:Nat)
 |pub (slot site:Nat)
 |give (slot site l S:Nat)
 |lst (slot:Nat)

def ZL (g:GO)(st:St):Option St :=
 match g with
 |.vec slot site sz=>match st.f slot with
  |.nils=>bif Qv (Qg st.m 0 site)then some { st with m:=Am.put st.m 0 site (.vec (QB st.m 0 site) sz []),f:=QI st.f slot (.vec 0 site (QB st.m 0 site) 0 0 false) } else none
  |_=>none
 |.drop s=>bif WJ st.m s then some (st.drop s)else none
 |.vecc s idx site sz=>match Qg st.m 0 s with
  |.cells xs=>match xs[idx]? with
   |some .nils=>bif Qv (Qg st.m 0 site) && !(Nat.beq site s)then some { st with m:=Am.put (Am.put st.m 0 site (.vec (QB st.m 0 site) sz [])) 0 s (.cells (xs.set idx (.vec 0 site (QB st.m 0 site) 0 0 false))) } else none
   |some _=>some st
   |none=>none
  |_=>none
 |.pub slot site=>match st.f slot with
  |.vec 0 s' g o n _=>match Qg st.m 0 site with
   |.vec g' sz xs=>bif Nat.beq s' site&&Nat.beq g g'&&Nat.ble (o+n) xs.length then some { st with m:=Am.put st.m 0 site (.vec (g+1) sz []),f:=QI st.f slot (.list ((xs.drop o).take n)) } else none
   |_=>none
  |.list _=>some st
  |_=>none
 |.give slot site l S=>match st.f slot with
  |.vec 0 s' g o n q=>match Qg st.m 0 site with
   |.vec g' sz xs=>bif Nat.beq s' site&&Nat.beq g g'&&Nat.blt l st.m.length && !(Nat.beq l 0)&&Qv (Qg st.m l S)&&Nat.blt S 2000 then some { st with m:=Am.put (Am.put st.m 0 site (.vec (g+1) sz [])) l S (.vec (QB st.m l S) sz xs),f:=QI st.f slot (.vec l S (QB st.m l S) o n q) } else none
   |_=>none
  |_=>none
 |.lst slot=>match st.f slot with
  |.nils=>some { st with f:=QI st.f slot (.list []) }
  |.list l=>some { st with f:=QI st.f slot (.list l) }
  |_=>none

inductive RC where
 |skip
 |reg (Qe:List Item)
 |draw (Qe:List Item)
 |seq (a b:RC)
 |cond (c:RA) (a b:RC)
 |block (id:Nat) (a:RC)
 |loop (a:RC)
 |exit (id:Nat)
 |scope (a:RC)
 |lab
 |ret
 |gho (g:GO) (a:RC)
 |no

def Ks (f:St→Prop)(Q:Exit→St→Prop):Exit→St→Prop
 |.normal,st=>f st
 |e,st=>Q e st
def Kb (id:Nat)(Q:Exit→St→Prop):Exit→St→Prop
 |.exit i,st=>if i=id then Q .normal st else Q (.exit i) st
 |e,st=>Q e st
def Kg (Q:Exit→St→Prop):Exit→St→Prop
 |.goto _,_=>False
 |e,st=>Q e st

def QJ (P:Program):RC→St→(Exit→St→Prop)→Prop
 |.skip,st,Q=>Q .normal st
 |.reg Qe,st,Q=>QD P Qe st (Q .normal)
 |.draw Qe,st,Q=>QD P Qe st (Q .normal)
 |.seq a b,st,Q=>QJ P a st (Ks (fun st'=>QJ P b st' Q) Q)
 |.cond c a b,st,Q=>∃t,c.ev st.f=.bool t∧(t=true→QJ P a st Q)∧(t=false→QJ P b st Q)
 |.block id a,st,Q=>QJ P a st (Kb id Q)
 |.loop a,st,Q=>∃(I:Nat→St→Prop) (n:Nat),I n st∧∀n st',I n st'→QJ P a st' (Ks (fun s=>∃k,k<n∧I k s) Q)
 |.exit id,st,Q=>Q (.exit id) st
 |.scope a,st,Q=>QJ P a st (Kg Q)
 |.lab,st,Q=>Q .normal st
 |.ret,st,Q=>Q .ret st
 |.gho g a,st,Q=>∃st',ZL g st=some st'∧QJ P a st' Q
 |.no,_,_=>False

theorem Yr {G:Gh}{f:Fr}{a:Act}(hs:∀i,Rep G (f i) (a.tmps.getD i undef)){d:Nat}{x:AV}(hx:Rep G x (a.tmps.getD d undef)):∀i,Rep G (QI f d x i) (a.tmps.getD i undef):=by
 intro i;by_cases hi:i=d
 ·subst hi;rw[QP];exact hx
 ·rw[QO _ _ hi];exact hs i

theorem MS {G:Gh}{B N:Nat}{st st':St}{a:Act}{w:World}(h:Rel G B N st a w){g:GO}(hg:ZL g st=some st'):∃G',Rel G' B N st' a w∧Ext 1 G w G' w:=by
 cases g with
 |vec slot site sz=>
  simp only[ZL]at hg;split at hg
  ·rename_i hn;cases hro:Qv (Qg st.m 0 site)with
   |false=>rw[hro]at hg;cases hg
   |true=>
    rw[hro]at hg;simp only[cond_true,QMu]at hg;subst hg;have hl:0<st.m.length:=QNn.2 h.ne;obtain⟨h1,h2⟩:=h.vecput (w':=w) (sz:=sz) (cap:=0) (b:=none) (ys:=[]) hl hro (Jt h.mr hro) rfl rfl rfl (QL3 _) (fun _ _ _=>rfl) (fun k e=>by cases e) ⟨by simp,rfl,rfl⟩ (.inl ⟨rfl,rfl⟩);refine⟨_,⟨h1.mr,h1.size,Yr h1.slots ?_,h1.ds,h1.base,h1.top,h1.ne⟩,h2⟩;have hs:=h.slots slot;rw[hn]at hs;generalize a.tmps.getD slot undef=v at hs;cases hs;exact .vec rfl (QMO (by simp[Gh.row])) fun _=>.inl ⟨by simp[Gh.row],rfl,rfl,none,rfl,fun _=>rfl⟩
  ·cases hg
 |drop s=>
  simp only[ZL]at hg;cases hro:WJ st.m s with
  |false=>rw[hro]at hg;cases hg
  |true=>
   rw[hro]at hg;simp only[cond_true,QMu]at hg;subst hg;exact⟨_,h.drop s hro⟩
 |vecc s idx site sz=>
  simp only[ZL]at hg;split at hg
  ·rename_i xs hlk;split at hg
   ·rename_i hn;cases hro:(Qv (Qg st.m 0 site) && !(Nat.beq site s))with
    |false=>rw[hro]at hg;cases hg
    |true=>
     rw[hro]at hg;simp only[cond_true,QMu]at hg;subst hg;rw[QMt]at hro;have hne:s≠site:=fun e=>by
      have h2:=hro.2;rw[e]at h2;simp at h2
     have hl:0<st.m.length:=QNn.2 h.ne;obtain⟨h1,h2⟩:=h.vecput (w':=w) (sz:=sz) (cap:=0) (b:=none) (ys:=[]) hl hro.1 (Jt h.mr hro.1) rfl rfl rfl (QL3 _) (fun _ _ _=>rfl) (fun k e=>by cases e) ⟨by simp,rfl,rfl⟩ (.inl ⟨rfl,rfl⟩);have hlk':Qg (Am.put st.m 0 site (.vec (QB st.m 0 site) sz [])) 0 s=.cells xs:=by
      rw[Qw (.inr hne)];exact hlk
     obtain⟨b,cs,hb,hsoft,hrep⟩:=h1.mr.cells 0 s xs hlk';obtain⟨v,hv,hr⟩:=hrep.at_ hn;have hvn:v=.slice none 0 0:=by cases hr;rfl
     subst hvn;have hset:cs.toList.set idx (.slice none 0 0)=cs.toList:=by
      obtain⟨hi,he⟩:=QL5.1 hv;rw[←he,List.set_getElem_self]
     have hrep':=hrep.set idx (x:=.vec 0 site (QB st.m 0 site) 0 0 false) (v:=.slice none 0 0) (.vec rfl (QMO (by simp[Gh.row,Gh.dn])) fun _=>.inl ⟨by simp[Gh.row,Gh.dn],rfl,rfl,none,rfl,fun _=>rfl⟩);rw[hset]at hrep';exact⟨_,⟨h1.mr.stored hlk' hb (Turned.refl b w) hsoft hrep',h1.size,h1.slots,h1.ds,h1.base,h1.top,Jw h1.ne⟩,h2⟩
   ·cases hg;exact⟨G,h,Ext.refl 1 G w⟩
   ·cases hg
  ·cases hg
 |pub slot site=>
  simp only[ZL]at hg;split at hg
  ·rename_i s' g o n q hs;split at hg
   ·rename_i g' sz xs hlk;cases hb:(Nat.beq s' site&&Nat.beq g g'&&Nat.ble (o+n) xs.length)with
    |false=>rw[hb]at hg;cases hg
    |true=>
     rw[hb]at hg;simp only[cond_true,QMu]at hg;subst hg;simp only[QMt]at hb;obtain⟨⟨b1,b2⟩,b3⟩:=hb;have e1:=QL1 b1;have e2:=QL1 b2;subst e1 e2;exact h.publish hs hlk (QNu b3)
   ·cases hg
  ·cases hg;exact⟨G,h,Ext.refl 1 G w⟩
  ·cases hg
 |give slot site l S=>
  simp only[ZL]at hg;split at hg
  ·rename_i s' g o n q hs;split at hg
   ·rename_i g' sz xs hlk;cases hb:(Nat.beq s' site&&Nat.beq g g'&&Nat.blt l st.m.length && !(Nat.beq l 0)&&Qv (Qg st.m l S)&&Nat.blt S 2000)with
    |false=>rw[hb]at hg;cases hg
    |true=>
     rw[hb]at hg;simp only[cond_true,QMu]at hg;subst hg;simp only[QMt]at hb;obtain⟨⟨⟨⟨⟨b1,b2⟩,b3⟩,b4⟩,b5⟩,b6⟩:=hb;have e1:=QL1 b1;have e2:=QL1 b2;subst e1 e2;have b4':l≠0:=fun e=>by rw[e]at b4;simp at b4
     exact h.give hs hlk (QNu b3) b4' b5 (QNu b6)
   ·cases hg
  ·cases hg
 |lst slot=>
  simp only[ZL]at hg;split at hg
  ·rename_i hs;cases hg;refine⟨G,⟨h.mr,h.size,Yr h.slots ?_,h.ds,h.base,h.top,h.ne⟩,Ext.refl 1 G w⟩;have hr:=h.slots slot;rw[hs]at hr;exact hr.nn0
  ·rename_i l hs;cases hg;refine⟨G,⟨h.mr,h.size,Yr h.slots ?_,h.ds,h.base,h.top,h.ne⟩,Ext.refl 1 G w⟩;have hr:=h.slots slot;rw[hs]at hr;exact hr
  ·cases hg

def RA.sl:RA→List Nat
 |.t n=>[n]
 |_=>[]
def DI:Option RA→List Nat
 |some r=>r.sl
 |none=>[]
def VO.sl:VO→List Nat
 |.mov x=>x.sl
 |.pick c a b=>c.sl++(a.sl++b.sl)
 |.build _ ps=>ps.flatMap fun p=>p.2.2.sl
 |.load _ x=>x.sl
 |.loadv _ _ _ x=>x.sl
 |.loado _ x=>x.sl
 |.loadr _ x=>x.sl
 |.nilck x=>x.sl
 |.un _ x=>x.sl
 |.cvi _ x=>x.sl
 |.b2s x=>x.sl
 |.faddr _ x=>x.sl
 |.fld _ _ x=>x.sl
 |.ext x _=>x.sl
 |.len _ x=>x.sl
 |.bin _ _ x y=>x.sl++y.sl
 |.eqs _ _ x y=>x.sl++y.sl
 |.iaddr _ _ x y=>x.sl++y.sl
 |.idx x y=>x.sl++y.sl
 |.mnx _ x y=>x.sl++y.sl
 |.slc _ x lo hi mx=>x.sl++(DI lo++(DI hi++DI mx))
 |.slcp _ x lo hi mx=>x.sl++(DI lo++(DI hi++DI mx))
 |.mkfn _ a b=>a.flatMap RA.sl++b.flatMap RA.sl
 |.toU x=>x.sl
 |.ofU _ _ x=>x.sl
 |.same x=>x.sl
 |.mget _ _ x y=>x.sl++y.sl
 |.mgetp _ _ x y=>x.sl++y.sl
 |.mki _ x=>x.sl
 |.tas _ _ _ x=>x.sl
def RO.sl:RO→List Nat
 |.val v=>v.sl
 |.allocN _ _=>[]
 |.boxN _ r=>r.sl
 |.store _ p r=>p.sl++r.sl
 |.storev _ _ _ p r=>p.sl++r.sl
 |.app _ _ _ s r=>s.sl++r.sl
 |.appS _ s r=>s.sl++r.sl
 |.mk _ _ _ _ _ l c=>l.sl++c.sl
 |.usd r=>r.sl
 |.ustr _ p r=>p.sl++r.sl
 |.bsl _ _ _ ps=>ps.flatMap fun p=>p.2.2.sl
 |.call f rs=>f.sl++rs.flatMap RA.sl
 |.callF f rs=>f.sl++rs.flatMap RA.sl
 |.bslv _ _ _ _ ps=>ps.flatMap fun p=>p.2.2.sl
 |.bsl0 _ _=>[]
 |.isnil _ x=>x.sl
 |.callR f rs=>f.sl++rs.flatMap RA.sl
 |.xb _ _ s c=>s.sl++c.sl
 |.callK _ _ f rs=>f.sl++rs.flatMap RA.sl
 |.rngs _ r=>r.sl
 |.nxts r=>r.sl
 |.mkm _=>[]
 |.mput x y z=>x.sl++(y.sl++z.sl)
def Item.sl (it:Item):List Nat:=it.op.sl++(match it.g with|some (j,_)=>[j]|none=>[])

def Zk (l:List Nat)(f f':Fr):Prop:=∀t,t∈l→f t=f' t
theorem Zk.left {a b:List Nat}{f f':Fr}(h:Zk (a++b) f f'):Zk a f f':=fun t ht=>h t (List.mem_append_left _ ht)
theorem Zk.right {a b:List Nat}{f f':Fr}(h:Zk (a++b) f f'):Zk b f f':=fun t ht=>h t (List.mem_append_right _ ht)

theorem RA.ev_same {r:RA}{f f':Fr}(h:Zk r.sl f f'):r.ev f=r.ev f':=by
 cases r with
 |t n=>exact h n (by simp[RA.sl])
 |c x=>rfl
 |f k=>rfl

theorem JQ:∀ {rs:List RA} {f f':Fr},Zk (rs.flatMap RA.sl) f f'→rs.map (RA.ev f)=rs.map (RA.ev f')
 | [],_,_,_=>rfl
 |r :: rs,f,f',h=>by
  rw[QNv]at h;rw[QMB,QMB,RA.ev_same h.left,JQ h.right]

theorem K4 {f f':Fr}:∀ {ps:List (Nat×Nat×RA)} {z:List AV},Zk (ps.flatMap fun p=>p.2.2.sl) f f'→fill f ps z=fill f' ps z
 | [],_,_=>rfl
 |(o,n,r) :: ps,z,h=>by
  rw[QNv]at h;simp only[fill,RA.ev_same h.left,K4 h.right]

theorem JR {f f':Fr}{d:Nat}{r:Option RA}(h:Zk (DI r) f f'):ZC f d r=ZC f' d r:=by
 cases r with
 |none=>rfl
 |some r=>simp only[ZC,RA.ev_same (r:=r) h]

theorem MT {f f':Fr}{m:Ql}{vo:VO}(h:Zk vo.sl f f'):Qr f m vo=Qr f' m vo:=by
 cases vo with
 |mov x=>simp only[Qr,RA.ev_same (r:=x) h]
 |pick c a b=>simp only[Qr,RA.ev_same (r:=c) h.left,RA.ev_same (r:=a) h.right.left,RA.ev_same (r:=b) h.right.right]
 |build z ps=>simp only[Qr,K4 (ps:=ps) h]
 |load k x=>simp only[Qr,RA.ev_same (r:=x) h]
 |loadv l s k x=>simp only[Qr,RA.ev_same (r:=x) h]
 |loado k x=>simp only[Qr,RA.ev_same (r:=x) h]
 |loadr k x=>simp only[Qr,RA.ev_same (r:=x) h]
 |nilck x=>simp only[Qr,RA.ev_same (r:=x) h]
 |un o x=>simp only[Qr,RA.ev_same (r:=x) h]
 |cvi k x=>simp only[Qr,RA.ev_same (r:=x) h]
 |b2s x=>simp only[Qr,RA.ev_same (r:=x) h]
 |faddr o x=>simp only[Qr,RA.ev_same (r:=x) h]
 |fld o k x=>simp only[Qr,RA.ev_same (r:=x) h]
 |ext x i=>simp only[Qr,RA.ev_same (r:=x) h]
 |toU x=>simp only[Qr,RA.ev_same (r:=x) h]
 |ofU t n x=>simp only[Qr,RA.ev_same (r:=x) h]
 |same x=>simp only[Qr,RA.ev_same (r:=x) h]
 |len k x=>simp only[Qr,RA.ev_same (r:=x) h]
 |bin t o x y=>simp only[Qr,RA.ev_same (r:=x) h.left,RA.ev_same (r:=y) h.right]
 |eqs n ks x y=>simp only[Qr,RA.ev_same (r:=x) h.left,RA.ev_same (r:=y) h.right]
 |iaddr sz len x y=>simp only[Qr,RA.ev_same (r:=x) h.left,RA.ev_same (r:=y) h.right]
 |idx x y=>simp only[Qr,RA.ev_same (r:=x) h.left,RA.ev_same (r:=y) h.right]
 |mget ok z x y=>simp only[Qr,RA.ev_same (r:=x) h.left,RA.ev_same (r:=y) h.right]
 |mgetp ok z x y=>simp only[Qr,RA.ev_same (r:=x) h.left,RA.ev_same (r:=y) h.right]
 |mki t x=>simp only[Qr,RA.ev_same (r:=x) h]
 |tas t ok z x=>simp only[Qr,RA.ev_same (r:=x) h]
 |mnx b x y=>simp only[Qr,RA.ev_same (r:=x) h.left,RA.ev_same (r:=y) h.right]
 |slc sz x lo hi mx=>
  have h1:=h.right.left;have h2:=h.right.right.left;have h3:=h.right.right.right;simp only[Qr,RA.ev_same (r:=x) h.left,JR (r:=lo) h1,JR (r:=hi) h2];cases mx with
  |none=>rfl
  |some r=>simp only[JR (r:=some r) h3]
 |slcp sz x lo hi mx=>
  have h1:=h.right.left;have h2:=h.right.right.left;have h3:=h.right.right.right;simp only[Qr,RA.ev_same (r:=x) h.left,JR (r:=lo) h1,JR (r:=hi) h2];cases mx with
  |none=>rfl
  |some r=>simp only[JR (r:=some r) h3]
 |mkfn fn a b=>simp only[Qr,JQ (rs:=a) h.left,JQ (rs:=b) h.right]

inductive MC where
 |no
 |shape
 |rows
 |cell (l s:Nat)
 |outer
 |all
 deriving DecidableEq

def VO.mc:VO→MC
 |.load _ _=>.all
 |.loadv l s _ _=>.cell l s
 |.loado _ _=>.outer
 |.loadr _ _=>.rows
 |.b2s _=>.rows
 |.nilck _=>.shape
 |.faddr _ _=>.shape
 |.len _ _=>.shape
 |.slc .. => .shape
 |.iaddr .. => .shape
 |.toU _=>.all
 |.ofU .. => .all
 |.mget .. => .all
 |_=>.no

def Ob.sh:Ob→Option (Nat×Nat)
 |.vec g z _=>some (g,z)
 |_=>Option.none
def Ob.row:Ob→Option (Nat×Nat×List AV)
 |.vec g z xs=>some (g,z,xs)
 |_=>Option.none

def Xd:MC→Ql→Ql→Prop
 |.no,_,_=>True
 |.shape,m,m'=>∀l s,(Qg m l s).sh=(Qg m' l s).sh
 |.rows,m,m'=>∀l s,(Qg m l s).row=(Qg m' l s).row
 |.cell l s,m,m'=>Qg m l s=Qg m' l s∨((Qg m l s).isRow=true∧(Qg m' l s).isRow=true)
 |.outer,m,m'=>∀l s,Qg m (l+1) s=Qg m' (l+1) s
 |.all,m,m'=>m=m'

theorem Xd.refl (c:MC)(m:Ql):Xd c m m:=by
 cases c<;>simp[Xd]

theorem Ys {m m':Ql}{l s:Nat}(h:(Qg m l s).sh=(Qg m' l s).sh):KH m l s=KH m' l s:=by
 unfold KH;cases h1:Qg m l s<;>cases h2:Qg m' l s<;>rw[h1,h2]at h<;>simp_all[Ob.sh]

theorem Ny {m m':Ql}(h:Xd .rows m m')(x:AV):Q8 m x=Q8 m' x:=by
 cases x with
 |vec l s g o n q=>
  have h:=h l s;simp only[Q8];cases h1:Qg m l s<;>cases h2:Qg m' l s<;>rw[h1,h2]at h<;>simp_all[Ob.row]
 |_=>rfl

theorem DJ {m m':Ql}(h:Xd .shape m m')(sz:Option Nat)(x:AV)(lo hi:Nat)(mx:Option Nat):Q5 m sz x lo hi mx=Q5 m' sz x lo hi mx:=by
 cases sz with
 |none=>rfl
 |some z=>
  cases x with
  |vec l s g o n q=>
   have h:=h l s;simp only[Q5];cases h1:Qg m l s<;>cases h2:Qg m' l s<;>rw[h1,h2]at h<;>simp_all[Ob.sh]
  |_=>rfl

theorem DK {m m':Ql}(h:Xd .shape m m')(sz:Nat)(len:Option Nat)(x:AV)(i:Int):Qd m sz len x i=Qd m' sz len x i:=by
 unfold Qd;cases len with
 |none=>
  cases x with
  |vec l s g o n q=>
   have h:=h l s;simp only;cases h1:Qg m l s<;>cases h2:Qg m' l s<;>rw[h1,h2]at h<;>simp_all[Ob.sh]
  |_=>rfl
 |some k=>rfl

def MU (F:Nat→List AV→Option AV):Ob→Option AV
 |.vec g _ xs=>F g xs
 |_=>none

theorem VI {o o':Ob}(h:o.row=o'.row)(F:Nat→List AV→Option AV):MU F o=MU F o':=by
  cases o<;>cases o'<;>simp only[Ob.row,QMu,Prod.mk.injEq,reduceCtorEq]at h<;>first
    |rfl
    | (obtain⟨rfl,_,rfl⟩:=h
       rfl)

theorem Hf (m:Ql)(k:Option Nat)(l s g i o:Nat):Q4 m k (.vptr l s g i o)=MU (fun g' xs=>if g=g' then match xs[i]? with
  |some e=>part e.cells o k
  |none=>none
 else none) (Qg m l s):=by
 simp only[Q4];cases Qg m l s<;>rfl

theorem Ti {f:Fr}{m m':Ql}{vo:VO}(h:Xd vo.mc m m'):Qr f m vo=Qr f m' vo:=by
 cases vo<;>simp only[VO.mc]at h<;>try rfl
 case load k x=>have h:m=m':=h;subst h;rfl
 case toU x=>have h:m=m':=h;subst h;rfl
 case ofU t n x=>have h:m=m':=h;subst h;rfl
 case mget ok z x i=>have h:m=m':=h;subst h;rfl
 case loado k x=>
  have h:∀l s,Qg m (l+1) s=Qg m' (l+1) s:=h;simp only[Qr];split
  ·simp only[Q4,h]
  ·rfl
 case loadv l s k x=>
  have h:Qg m l s=Qg m' l s∨((Qg m l s).isRow=true∧(Qg m' l s).isRow=true):=h;simp only[Qr];split
  ·split
   ·rename_i hh;obtain⟨rfl,rfl⟩:=hh;rcases h with h|⟨h1,h2⟩
    ·simp only[Q4,h]
    ·simp only[Q4];cases e1:Qg m _ _<;>cases e2:Qg m' _ _<;>rw[e1]at h1<;>rw[e2]at h2<;>first|rfl|(simp[Ob.isRow]at h1;done)|(simp[Ob.isRow]at h2;done)
   ·rfl
  ·rfl
 case b2s x=>simp only[Qr,Ny h]
 case loadr k x=>
  simp only[Qr];split
  ·rfl
  ·rename_i l s g i o e;have h4:(Qg m l s).row=(Qg m' l s).row:=h l s;rw[Hf,Hf,VI h4]
  ·rfl
 case nilck x=>simp only[Qr,fun l s=>Ys (h l s)]
 case faddr o x=>simp only[Qr,fun l s=>Ys (h l s)]
 case len k x=>simp only[Qr,fun l s=>Ys (h l s)]
 case slc sz x lo hi mx=>simp only[Qr,DJ h]
 case iaddr sz len x i=>simp only[Qr,DK h]

mutual
theorem Hg {m m':Ql}(h:Xd .rows m m'):∀x:AV,x.still false m=x.still false m'
 |.vec l s g o n q=>by
   have h:=h l s;simp only[AV.still];cases h1:Qg m l s<;>cases h2:Qg m' l s<;>rw[h1,h2]at h<;>simp_all[Ob.row]
 |.agg l=>by simp only[AV.still,J4 h l]
 |.tup l=>by simp only[AV.still,J4 h l]
 |.iface t x=>by simp only[AV.still,Hg h x]
 |.top|.int .. | .bool _|.str _|.nils|.nilp|.nilf|.nili|.nilm|.anyp|.list _|.lcap _|.fn .. | .ptr .. | .vptr .. | .rptr _|.mp .. => rfl
 |.mptr l s=>by simp only[AV.still,QNw,QMo,if_false]
theorem J4 {m m':Ql}(h:Xd .rows m m'):∀l:List AV,AV.stillL false m l=AV.stillL false m' l
 | []=>rfl
 |x :: l=>by simp only[AV.stillL,Hg h x,J4 h l]
end

def RO.pure:RO→Bool
 |.val _=>true
 |.bsl .. => true
 |.call _ _=>true
 |.usd _=>true
 |_=>false

def RO.mc:RO→MC
 |.val v=>v.mc
 |.call _ _=>.rows
 |.usd _=>.rows
 |.bsl .. => .no
 |_=>.all

section
variable {P:Program}

def Nz (P:Program)(op:RO)(st:St)(x:AV):Prop :=
 match op with
 |.val vo=>Qr st.f st.m vo=some x
 |.call f args=>∃k fa fb ys,f.ev st.f=.fn (.func k) fa fb∧AV.stillL false st.m (fa++args.map (RA.ev st.f)++fb)=some ys∧AV.rfL ys=true∧Qp P k ys x∧x.rf=true∧(AV.rfL (fa++args.map (RA.ev st.f)++fb)=true∨x.nl=true)
 |_=>False

def XL (P:Program)(op:RO)(st:St)(x:AV)(m:Ql):Prop :=
 match op with
 |.val vo=>Qr st.f st.m vo=some x∧m=st.m
 |.call f args=>Nz P (.call f args) st x∧m=st.m
 |.allocN s z=>Xw st.m s=true∧x=.ptr 0 s 0∧m=Am.put st.m 0 s (.cells z)
 |.boxN s r=>Xw st.m s=true∧(r.ev st.f).cells.all AV.leaf=true∧x=.ptr 0 s 0∧m=Am.put st.m 0 s (.cells (r.ev st.f).cells)
 |.store n p r=>(r.ev st.f).cells.length=n∧(r.ev st.f).cells.all AV.leaf=true∧QU st.m (p.ev st.f) (r.ev st.f).cells=some m∧x=.tup []
 |.storev l s n p r=>(∃o,p.ev st.f=.ptr l s o)∧(r.ev st.f).cells.length=n∧(r.ev st.f).cells.all AV.leaf=true∧QU st.m (p.ev st.f) (r.ev st.f).cells=some m∧x=.tup []
 |.app sz bytes el s r=>∃l site g n xs ys,s.ev st.f=.vec l site g 0 n false∧Qg st.m l site=.vec g sz xs∧XF site el=true∧n≤xs.length∧Q8 st.m (r.ev st.f)=some ys∧ys.all (fun e=>e.cells.length==sz)=true∧n+ys.length≤maxLen∧(n+ys.length)*bytes≤140737488355328∧
   x=.vec l site (g+1) 0 (n+ys.length) false∧m=Am.put st.m l site (.vec (g+1) sz (xs.take n++ys))
 |.bsl sz len z ps=>(∃y,fill st.f ps (XJ z sz len)=some y∧AV.rfL y=true∧y.all AV.leaf=true∧x=.list (XQ sz len (y.map nn0)))∧m=st.m
 |.bslv site sz len z ps=>∃y,fill st.f ps (XJ z sz len)=some y∧AV.rfL y=true∧y.all AV.leaf=true∧Qv (Qg st.m 0 site)=true∧x=.vec 0 site (QB st.m 0 site) 0 len false∧m=Am.put st.m 0 site (.vec (QB st.m 0 site) sz (XQ sz len (y.map nn0)))
 |.bsl0 site sz=>Qv (Qg st.m 0 site)=true∧x=.vec 0 site (QB st.m 0 site) 0 0 false∧m=Am.put st.m 0 site (.vec (QB st.m 0 site) sz [])
 |.callF f args=>∃k fa fb,f.ev st.f=.fn (.func k) fa fb∧Qh P k (fa++args.map (RA.ev st.f)++fb) st.m (fun y m'=>y=x∧m'=m)
 |.callK l s f args=>∃k fa fb,f.ev st.f=.fn (.func k) fa fb∧Qh P k (fa++args.map (RA.ev st.f)++fb) st.m (fun y m'=>y=x∧m'=m)∧Qg m l s=Qg st.m l s
 |.usd r=>(∃l s g n sz xs,2000≤s∧r.ev st.f=.vec l s g 0 n false∧Qg st.m l s=.vec g sz xs∧x=(if n=0 then .anyp else .vptr l s g 0 0))∧m=st.m
 |.ustr el p r=>(p.ev st.f=.anyp∧r.ev st.f=.int .i64 0∧x=.str []∧m=st.m)∨
   ∃l g n xs s,p.ev st.f=.vptr l (el+2000) g 0 0∧r.ev st.f=.int .i64 ((n:Nat):Int)∧Qg st.m l (el+2000)=.vec g 1 xs∧n≤xs.length∧n≠0∧xs.take n=Qy s∧x=.str s∧m=Am.put st.m l (el+2000) (.vec (g+1) 1 [])
 |_=>False

def RO.keeps:RO→Bool
 |.appS .. => false
 |.mk .. => false
 |.isnil .. => false
 |.callR .. => false
 |.xb .. => false
 |.rngs .. => false
 |.nxts .. => false
 |.mkm .. => false
 |.mput .. => false
 |_=>true

theorem DL {d:Option Nat}{op:RO}{st:St}{K:St→Prop}(hk:op.keeps=true):Yi P d op st K↔∃x m,XL P op st x m∧K { st with m:=m,f:=Qn st.f d x }:=by
 cases op<;>simp only[RO.keeps,QMo]at hk<;>simp only[Yi,XL,Nz]
 case val=>exact⟨fun⟨x,h,k⟩=>⟨x,_,⟨h,rfl⟩,k⟩,fun⟨x,m,⟨h,e⟩,k⟩=>by subst e;exact⟨x,h,k⟩⟩
 case allocN=>exact⟨fun⟨h,k⟩=>⟨_,_,⟨h,rfl,rfl⟩,k⟩,fun⟨x,m,⟨h,e,e'⟩,k⟩=>by subst e e';exact⟨h,k⟩⟩
 case boxN=>exact⟨fun⟨h,h',k⟩=>⟨_,_,⟨h,h',rfl,rfl⟩,k⟩,fun⟨x,m,⟨h,h',e,e'⟩,k⟩=>by subst e e';exact⟨h,h',k⟩⟩
 case store=>exact⟨fun⟨h1,h2,m',h3,k⟩=>⟨_,m',⟨h1,h2,h3,rfl⟩,k⟩,fun⟨x,m,⟨h1,h2,h3,e⟩,k⟩=>by subst e;exact⟨h1,h2,m,h3,k⟩⟩
 case storev=>exact⟨fun⟨h0,h1,h2,m',h3,k⟩=>⟨_,m',⟨h0,h1,h2,h3,rfl⟩,k⟩,fun⟨x,m,⟨h0,h1,h2,h3,e⟩,k⟩=>by subst e;exact⟨h0,h1,h2,m,h3,k⟩⟩
 case app=>exact⟨fun⟨l,site,g,n,xs,ys,h1,h2,ht,h3,h4,h5,h6,h7,k⟩=>⟨_,_,⟨l,site,g,n,xs,ys,h1,h2,ht,h3,h4,h5,h6,h7,rfl,rfl⟩,k⟩,fun⟨x,m,⟨l,site,g,n,xs,ys,h1,h2,ht,h3,h4,h5,h6,h7,e,e'⟩,k⟩=>by subst e e';exact⟨l,site,g,n,xs,ys,h1,h2,ht,h3,h4,h5,h6,h7,k⟩⟩
 case call=>exact⟨fun⟨k,fa,fb,ys,v,h1,h2,h3,h4,h5,h6,kk⟩=>⟨v,_,⟨⟨k,fa,fb,ys,h1,h2,h3,h4,h5,h6⟩,rfl⟩,kk⟩,fun⟨x,m,⟨⟨k,fa,fb,ys,h1,h2,h3,h4,h5,h6⟩,e⟩,kk⟩=>by subst e;exact⟨k,fa,fb,ys,x,h1,h2,h3,h4,h5,h6,kk⟩⟩
 case usd=>exact⟨fun⟨l,s,g,n,sz,xs,h0,h1,h2,k⟩=>⟨_,_,⟨⟨l,s,g,n,sz,xs,h0,h1,h2,rfl⟩,rfl⟩,k⟩,fun⟨x,m,⟨⟨l,s,g,n,sz,xs,h0,h1,h2,e⟩,e'⟩,k⟩=>by subst e e';exact⟨l,s,g,n,sz,xs,h0,h1,h2,k⟩⟩
 case ustr=>
  constructor
  ·rintro(⟨h1,h2,k⟩|⟨l,g,n,xs,s,h1,h2,h3,h4,h5,h6,k⟩)
   ·exact⟨_,_,.inl ⟨h1,h2,rfl,rfl⟩,k⟩
   ·exact⟨_,_,.inr ⟨l,g,n,xs,s,h1,h2,h3,h4,h5,h6,rfl,rfl⟩,k⟩
  ·rintro⟨x,m,⟨h1,h2,e,e'⟩|⟨l,g,n,xs,s,h1,h2,h3,h4,h5,h6,e,e'⟩,k⟩
   ·subst e e';exact .inl ⟨h1,h2,k⟩
   ·subst e e';exact .inr ⟨l,g,n,xs,s,h1,h2,h3,h4,h5,h6,k⟩
 case bsl=>exact⟨fun⟨y,h1,h2,h3,k⟩=>⟨_,_,⟨⟨y,h1,h2,h3,rfl⟩,rfl⟩,k⟩,fun⟨x,m,⟨⟨y,h1,h2,h3,e⟩,e'⟩,k⟩=>by subst e e';exact⟨y,h1,h2,h3,k⟩⟩
 case bslv=>exact⟨fun⟨y,h1,h2,h3,h4,k⟩=>⟨_,_,⟨y,h1,h2,h3,h4,rfl,rfl⟩,k⟩,fun⟨x,m,⟨y,h1,h2,h3,h4,e,e'⟩,k⟩=>by subst e e';exact⟨y,h1,h2,h3,h4,k⟩⟩
 case bsl0=>exact⟨fun⟨h1,k⟩=>⟨_,_,⟨h1,rfl,rfl⟩,k⟩,fun⟨x,m,⟨h1,e,e'⟩,k⟩=>by subst e e';exact⟨h1,k⟩⟩
 case callK=>exact⟨fun⟨k,fa,fb,v,m',h1,h2,h3,kk⟩=>⟨v,m',⟨k,fa,fb,h1,h2,h3⟩,kk⟩,fun⟨x,m,⟨k,fa,fb,h1,h2,h3⟩,kk⟩=>⟨k,fa,fb,x,m,h1,h2,h3,kk⟩⟩
 case callF=>exact⟨fun⟨k,fa,fb,v,m',h1,h2,kk⟩=>⟨v,m',⟨k,fa,fb,h1,h2⟩,kk⟩,fun⟨x,m,⟨k,fa,fb,h1,h2⟩,kk⟩=>⟨k,fa,fb,x,m,h1,h2,kk⟩⟩

def Ze (P:Program)(it:Item)(st:St)(x:AV)(m:Ql):Prop :=
 match it.g with
 |none=>XL P it.op st x m
 |some (j,want)=>match st.f j with
  |.bool b=>(b=want∧XL P it.op st x m)∨(b=(!want)∧x=.tup []∧m=st.m)
  |.tup l=>l=[]∧x=.tup []∧m=st.m
  |_=>False

theorem Z8 {it:Item}{st:St}{K:St→Prop}(hk:it.op.keeps=true):XK P it st K↔∃x m,Ze P it st x m∧K { st with m:=m,f:=Qn st.f it.dst x }:=by
 obtain⟨d,op,g⟩:=it;cases g with
 |none=>exact DL hk
 |some p=>
  obtain⟨j,want⟩:=p;simp only[XK,Ze];cases hj:st.f j with
  |bool b=>
   simp only;rw[DL hk]
   constructor
   ·intro⟨h1,h2⟩;by_cases hb:b=want
    ·obtain⟨x,m,h,k⟩:=h1 hb;exact⟨x,m,.inl ⟨hb,h⟩,k⟩
    ·have hb':b=!want:=by cases b<;>cases want<;>first|rfl|exact absurd rfl hb
     exact⟨_,_,.inr ⟨hb',rfl,rfl⟩,h2 hb'⟩
   ·rintro⟨x,m,⟨hb,h⟩|⟨hb,rfl,rfl⟩,k⟩
    ·exact⟨fun _=>⟨x,m,h,k⟩,fun e=>by rw[hb]at e;cases want<;>cases e⟩
    ·exact⟨fun e=>(by rw[hb]at e;cases want<;>cases e),fun _=>k⟩
  |tup l=>
   constructor
   ·rintro⟨h,k⟩;exact⟨_,_,⟨h,rfl,rfl⟩,k⟩
   ·rintro⟨x,m,⟨h,rfl,rfl⟩,k⟩;exact⟨h,k⟩
  |_=>exact⟨fun h=>h.elim,fun⟨_,_,h,_⟩=>h.elim⟩

theorem Hh {op:RO}{f f':Fr}{m m':Ql}{ds ds':List DF}{x:AV}(h:Zk op.sl f f')(k:XL P op ⟨f,m,ds⟩ x m'):XL P op ⟨f',m,ds'⟩ x m':=by
 cases op with
 |val vo=>simp only[XL,MT (vo:=vo) h]at k ⊢;exact k
 |call g args=>simp only[XL,Nz,RA.ev_same (r:=g) h.left,JQ (rs:=args) h.right]at k ⊢;exact k
 |callK l s g args=>simp only[XL,RA.ev_same (r:=g) h.left,JQ (rs:=args) h.right]at k ⊢;exact k
 |callF g args=>simp only[XL,RA.ev_same (r:=g) h.left,JQ (rs:=args) h.right]at k ⊢;exact k
 |allocN s z=>exact k
 |boxN s r=>simp only[XL,RA.ev_same (r:=r) h]at k ⊢;exact k
 |store n p r=>simp only[XL,RA.ev_same (r:=p) h.left,RA.ev_same (r:=r) h.right]at k ⊢;exact k
 |storev l s n p r=>simp only[XL,RA.ev_same (r:=p) h.left,RA.ev_same (r:=r) h.right]at k ⊢;exact k
 |usd r=>simp only[XL,RA.ev_same (r:=r) h]at k ⊢;exact k
 |ustr el p r=>simp only[XL,RA.ev_same (r:=p) h.left,RA.ev_same (r:=r) h.right]at k ⊢;exact k
 |app sz bytes el s r=>simp only[XL,RA.ev_same (r:=s) h.left,RA.ev_same (r:=r) h.right]at k ⊢;exact k
 |bsl sz len z ps=>simp only[XL,K4 (ps:=ps) h]at k ⊢;exact k
 |bslv site sz len z ps=>simp only[XL,K4 (ps:=ps) h]at k ⊢;exact k
 |bsl0 site sz=>exact k
 |_=>exact k.elim

theorem Kw {it:Item}{f f':Fr}{m m':Ql}{ds ds':List DF}{x:AV}(h:Zk it.sl f f')(k:Ze P it ⟨f,m,ds⟩ x m'):Ze P it ⟨f',m,ds'⟩ x m':=by
 obtain⟨d,op,g⟩:=it;cases g with
 |none=>exact Hh (Zk.left h) k
 |some p=>
  obtain⟨j,want⟩:=p;have hj:f j=f' j:=(Zk.right h) j (by simp);simp only[Ze]at k ⊢;rw[←hj];cases he:f j with
  |bool b=>rw[he]at k;exact k.imp (fun h1=>⟨h1.1,Hh (Zk.left h) h1.2⟩) id
  |tup l=>rw[he]at k;exact k
  |_=>rw[he]at k;exact k

theorem DM {op:RO}(hp:op.pure=true){f:Fr}{m m' m1:Ql}{ds ds':List DF}{x:AV}(h:Xd op.mc m m')(k:XL P op ⟨f,m,ds⟩ x m1):m1=m∧XL P op ⟨f,m',ds'⟩ x m':=by
 cases op with
 |bsl sz len z ps=>obtain⟨k,e⟩:=k;exact⟨e,k,rfl⟩
 |val vo=>obtain⟨k,e⟩:=k;exact⟨e,by rw[←Ti (f:=f) h];exact k,rfl⟩
 |call g args=>
  obtain⟨⟨k,fa,fb,ys,h1,h2,h3,h4,h5,h6⟩,e⟩:=k;refine⟨e,⟨k,fa,fb,ys,h1,?_,h3,h4,h5,h6⟩,rfl⟩;rw[←J4 h];exact h2
 |usd r=>
  obtain⟨⟨l,s,g,n,sz,xs,h0,h1,h2,h3⟩,e⟩:=k;refine⟨e,⟨l,s,g,n,sz,xs,h0,h1,?_,h3⟩,rfl⟩;have h4:(Qg m l s).row=(Qg m' l s).row:=h l s;have h2:Qg m l s=.vec g sz xs:=h2;show Qg m' l s=.vec g sz xs;rw[h2]at h4;cases hl:Qg m' l s with
  |vec g' sz' xs'=>rw[hl]at h4;simp only[Ob.row,QMu,Prod.mk.injEq]at h4;obtain⟨rfl,rfl,rfl⟩:=h4;rfl
  |none=>rw[hl]at h4;cases h4
  |cells _=>rw[hl]at h4;cases h4
  |iter _ _=>rw[hl]at h4;cases h4
 |_=>cases hp

theorem Yt {it:Item}(hp:it.op.pure=true){f:Fr}{m m' m1:Ql}{ds ds':List DF}{x:AV}(h:Xd it.op.mc m m')(k:Ze P it ⟨f,m,ds⟩ x m1):m1=m∧Ze P it ⟨f,m',ds'⟩ x m':=by
 obtain⟨d,op,g⟩:=it;cases g with
 |none=>exact DM hp h k
 |some p=>
  obtain⟨j,want⟩:=p;simp only[Ze]at k ⊢;cases he:f j with
  |bool b=>
   rw[he]at k;rcases k with⟨h1,k⟩|⟨h1,h2,h3⟩
   ·obtain⟨a,b⟩:=DM hp h k;exact⟨a,.inl ⟨h1,b⟩⟩
   ·exact⟨h3,.inr ⟨h1,h2,trivial⟩⟩
  |tup l=>rw[he]at k;exact⟨k.2.2,k.1,k.2.1,trivial⟩
  |_=>rw[he]at k;exact k.elim

def RO.lets (op:RO)(c:MC):Bool :=
 match op with
 |.val _=>true
 |.call _ _=>true
 |.store .. => c == .no||c == .shape
 |.storev l s _ _ _=>match c with
  |.cell l' s'=>l' != l||s' != s
  |.outer=>l==0
  |.all=>false
  |_=>true
 |.allocN s _=>match c with
  |.cell l' s'=>l' != 0||s' != s
  |.all=>false
  |_=>true
 |.boxN s _=>match c with
  |.cell l' s'=>l' != 0||s' != s
  |.all=>false
  |_=>true
 |.app .. => match c with
  |.no=>true
  |.cell _ _=>true
  |_=>false
 |.bsl .. => true
 |.bslv s _ _ _ _=>match c with
  |.no=>true
  |.cell l' s'=>l' != 0||s' != s
  |.outer=>true
  |_=>false
 |.bsl0 s _=>match c with
  |.no=>true
  |.cell l' s'=>l' != 0||s' != s
  |.outer=>true
  |_=>false
 |.callF .. => c == .no
 |.callK l s _ _=>match c with
  |.no=>true
  |.cell l' s'=>l'==l&&s'==s
  |_=>false
 |.usd _=>true
 |.ustr .. => c == .no
 |_=>false

theorem Wl {m:Ql}{l s:Nat}{o o':Ob}(hl:Qg m l s=o)(ho:o.row=none)(ho':o'.row=none)(hlt:l<m.length){c:MC}(hc:match c with
  |.cell l' s'=>(l' != l||s' != s)=true
  |.outer=>(l==0)=true
  |.all=>False
  |_=>True):Xd c m (Am.put m l s o'):=by
 have key:∀l' s',(l'=l∧s'=s)∨Qg (Am.put m l s o') l' s'=Qg m l' s':=by
  intro l' s';by_cases hh:l'=l∧s'=s
  ·exact .inl hh
  ·exact .inr (Qw (by omega))
 have hsh:∀ {x:Ob},x.row=none→x.sh=none:=by intro x;cases x<;>simp[Ob.row,Ob.sh]
 cases c with
 |no=>trivial
 |shape=>
  intro l' s';rcases key l' s' with⟨rfl,rfl⟩|e
  ·rw[Qx hlt,hl,hsh ho,hsh ho']
  ·rw[e]
 |rows=>
  intro l' s';rcases key l' s' with⟨rfl,rfl⟩|e
  ·rw[Qx hlt,hl,ho,ho']
  ·rw[e]
 |cell l' s'=>
  show Qg m l' s'=Qg _ l' s'∨_;rcases key l' s' with⟨rfl,rfl⟩|e
  ·simp at hc
  ·exact .inl e.symm
 |outer=>
  intro l' s';have hc:l=0:=by simpa using hc
  exact(Qw (by omega)).symm
 |all=>exact hc.elim

theorem VJ {m:Ql}{s:Nat}(h:Xw m s=true):Qg m 0 s=.none:=by
 unfold Xw at h;split at h
 ·assumption
 ·cases h

end

theorem Xd.symm {c:MC}{m m':Ql}(h:Xd c m m'):Xd c m' m:=by
 cases c with
 |no=>trivial
 |shape=>exact fun l s=>(h l s).symm
 |rows=>exact fun l s=>(h l s).symm
 |cell l s=>exact Or.imp Eq.symm And.symm h
 |outer=>exact fun l s=>(h l s).symm
 |all=>exact Eq.symm h

theorem DN {m m':Ql}{p:AV}{ys:List AV}(h:QU m p ys=some m'):Xd .shape m m':=by
 cases p with
 |ptr l s o=>
  simp only[QU]at h;split at h
  ·rename_i xs hlk;split at h
   ·split at h
    ·cases h;exact Wl (c:=.shape) hlk rfl rfl (QV (by rw[hlk];simp)) trivial
    ·cases h
   ·cases h
  ·cases h
 |vptr l s g i o=>
  simp only[QU]at h;split at h
  ·rename_i g' sz xs hlk;split at h
   ·rename_i hg;subst hg;split at h
    ·split at h
     ·cases h;intro l' s';by_cases hh:l'=l∧s'=s
      ·obtain⟨rfl,rfl⟩:=hh;rw[Qx (QV (by rw[hlk];simp)),hlk];rfl
      ·rw[Qw (by omega)]
     ·cases h
    ·cases h
   ·cases h
  ·cases h
 |_=>simp[QU]at h

section
variable {P:Program}{N:Nat}

theorem DO {m:Ql}{s:Nat}{xs:List AV}(h:Xw m s=true){c:MC}(hc:match c with
  |.cell l' s'=>(l' != 0||s' != s)=true
  |.all=>False
  |_=>True):Xd c m (Am.put m 0 s (.cells xs)):=by
 cases m with
 |nil=>exact Xd.refl c _
 |cons fr m=>exact Wl (VJ h) rfl rfl (by simp) (by cases c<;>first|exact hc|rfl)

theorem Hi {op:RO}{c:MC}(hc:op.lets c=true){st:St}{x:AV}{m:Ql}(h:XL P op st x m):Xd c st.m m:=by
 cases op with
 |val vo=>rw[h.2];exact Xd.refl c _
 |call f args=>rw[h.2];exact Xd.refl c _
 |usd r=>rw[h.2];exact Xd.refl c _
 |callK l s f args=>
  obtain⟨_,_,_,_,_,he⟩:=h;cases c with
  |no=>trivial
  |cell l' s'=>
   simp only[RO.lets,QMt,QMb]at hc;obtain⟨rfl,rfl⟩:=hc;exact .inl he.symm
  |_=>simp[RO.lets]at hc
 |ustr el p r=>
  simp only[RO.lets,QMb]at hc;subst hc;trivial
 |store n p r=>
  simp only[RO.lets,QL9,QMb]at hc;rcases hc with rfl|rfl
  ·trivial
  ·exact DN h.2.2.1
 |storev l s n p r=>
  obtain⟨⟨o,ho⟩,h1,h2,h3,h4⟩:=h;rw[ho]at h3;simp only[QU]at h3;split at h3
  ·rename_i xs hlk;split at h3
   ·split at h3
    ·cases h3;refine Wl hlk rfl rfl (QV (by rw[hlk];simp)) ?_;cases c<;>first|trivial|exact hc|cases hc
    ·cases h3
   ·cases h3
  ·cases h3
 |allocN s z=>
  rw[h.2.2];refine DO h.1 ?_;cases c<;>first|trivial|exact hc|cases hc
 |boxN s r=>
  rw[h.2.2.2];refine DO h.1 ?_;cases c<;>first|trivial|exact hc|cases hc
 |app sz bytes el s r=>
  obtain⟨l,site,g,n,xs,ys,_,hlk,_,_,_,_,_,_,_,rfl⟩:=h;cases c with
  |no=>trivial
  |cell l' s'=>
   show Qg st.m l' s'=Qg _ l' s'∨_;by_cases hh:l'=l∧s'=site
   ·obtain⟨rfl,rfl⟩:=hh;refine .inr ⟨by rw[hlk];rfl,?_⟩;rw[Qx (QV (by rw[hlk];simp))];rfl
   ·exact .inl (Qw (by omega)).symm
  |_=>simp[RO.lets]at hc
 |bsl sz len z ps=>rw[h.2];exact Xd.refl c _
 |bslv site sz len z ps=>
  obtain⟨y,_,_,_,_,_,rfl⟩:=h;cases c with
  |no=>trivial
  |cell l' s'=>
   simp only[RO.lets,QL9,QMv]at hc;exact .inl (Qw (by omega)).symm
  |outer=>exact fun l' s'=>(Qw (.inl (Nat.succ_ne_zero l'))).symm
  |_=>simp[RO.lets]at hc
 |bsl0 site sz=>
  obtain⟨_,_,rfl⟩:=h;cases c with
  |no=>trivial
  |cell l' s'=>
   simp only[RO.lets,QL9,QMv]at hc;exact .inl (Qw (by omega)).symm
  |outer=>exact fun l' s'=>(Qw (.inl (Nat.succ_ne_zero l'))).symm
  |_=>simp[RO.lets]at hc
 |callF f args=>
  simp only[RO.lets,QMb]at hc;subst hc;trivial
 |_=>exact h.elim

theorem Hj {it:Item}{c:MC}(hc:it.op.lets c=true){st:St}{x:AV}{m:Ql}(h:Ze P it st x m):Xd c st.m m:=by
 obtain⟨d,op,g⟩:=it;cases g with
 |none=>exact Hi hc h
 |some p=>
  obtain⟨j,want⟩:=p;simp only[Ze]at h;cases he:st.f j with
  |bool b=>
   rw[he]at h;rcases h with⟨_,h⟩|⟨_,_,h⟩
   ·exact Hi hc h
   ·rw[h];exact Xd.refl c _
  |tup l=>rw[he]at h;rw[h.2.2];exact Xd.refl c _
  |_=>rw[he]at h;exact h.elim

def YV (a b:Item):Bool :=
  (match a.dst with
   |some d=>!(b.sl.contains d)&&b.dst != some d
   |none=>true) &&
  (match b.dst with
   |some d=>!(a.sl.contains d)
   |none=>true)

def DP (a b:Item):Bool :=
 match a.op,b.op,a.g,b.g with
 |.allocN s _,.allocN t _,none,none=>s != t
 |_,_,_,_=>false

def YW (a b:Item):Bool :=
 a.op.keeps&&b.op.keeps&&YV a b&&((a.op.pure&&b.op.lets a.op.mc)||(b.op.pure&&a.op.lets b.op.mc)||DP a b)

theorem DQ {m:Ql}{s t:Nat}{o:Ob}(h:s≠t):Xw (Am.put m 0 s o) t=Xw m t:=by
 unfold Xw;rw[Qw (.inr (Ne.symm h))]
theorem MV {m:Ql}{s t:Nat}{o q:Ob}(h:s≠t):Am.put (Am.put m 0 s o) 0 t q=Am.put (Am.put m 0 t q) 0 s o:=by
 cases m with
 |nil=>rfl
 |cons fr m=>
  simp only[Am.put];congr 1
  funext i;by_cases h1:i=t
  ·subst h1;rw[QP,QO _ _ (Ne.symm h),QP]
  ·rw[QO _ _ h1];by_cases h2:i=s
   ·subst h2;rw[QP,QP]
   ·rw[QO _ _ h2,QO _ _ h2,QO _ _ h1]
theorem Bn {a b:Item}(h:DP a b=true){st:St}{f:Fr}{x y:AV}{m m2:Ql}(ga:Ze P a st x m)(gb:Ze P b { st with m:=m,f:=f } y m2) :
  ∃m1,Ze P b st y m1∧∀f',Ze P a { st with m:=m1,f:=f' } x m2:=by
 obtain⟨da,oa,ga'⟩:=a;obtain⟨db,ob,gb'⟩:=b;unfold DP at h;dsimp only at h;split at h
 ·rename_i s z t w;have hne:s≠t:=by simpa using h
  obtain⟨h1,rfl,rfl⟩:=ga;obtain⟨h2,rfl,rfl⟩:=gb;dsimp only at h2;rw[DQ hne]at h2;refine⟨_,⟨h2,rfl,rfl⟩,fun f'=>⟨?_,rfl,?_⟩⟩
  ·dsimp only;rw[DQ (Ne.symm hne)];exact h1
  ·exact MV hne
 ·cases h

theorem GT {l:List Nat}{f:Fr}{d:Option Nat}{x:AV}(h:∀k,d=some k→k∉l):Zk l f (Qn f d x):=by
 intro t ht;cases d with
 |none=>rfl
 |some k=>
  have:t≠k:=fun e=>h k rfl (e▸ht)
  show f t=QI f k x t;rw[QO _ _ this]

theorem VK {f:Fr}{d e:Option Nat}{x y:AV}(h:∀k,d=some k→e≠some k):Qn (Qn f d x) e y=Qn (Qn f e y) d x:=by
 cases d with
 |none=>rfl
 |some d=>
  cases e with
  |none=>rfl
  |some e=>
   have hne:d≠e:=fun hh=>h d rfl (hh▸rfl)
   funext i;show QI (QI f d x) e y i=QI (QI f e y) d x i;by_cases h1:i=e
   ·subst h1;rw[QP,QO _ _ (Ne.symm hne),QP]
   ·rw[QO _ _ h1];by_cases h2:i=d
    ·subst h2;rw[QP,QP]
    ·rw[QO _ _ h2,QO _ _ h2,QO _ _ h1]

theorem NA {a b:Item}(h:YV a b=true):(∀k,a.dst=some k→k∉b.sl)∧(∀k,a.dst=some k→b.dst≠some k)∧(∀k,b.dst=some k→k∉a.sl):=by
 unfold YV at h;simp only[QMt]at h;refine⟨fun k e=>?_,fun k e=>?_,fun k e=>?_⟩
 ·have:=h.1;rw[e]at this;simp at this;exact this.1
 ·have:=h.1;rw[e]at this;simp at this;exact this.2
 ·have:=h.2;rw[e]at this;simpa using this

theorem NB {a b:Item}(h:YW a b=true){st:St}{K:St→Prop}(k:XK P a st fun s=>XK P b s K):XK P b st fun s=>XK P a s K:=by
 unfold YW at h;simp only[QMt,QL9]at h;obtain⟨⟨⟨ka,kb⟩,hap⟩,hor⟩:=h;obtain⟨h1,h2,h3⟩:=NA hap;rw[Z8 ka]at k;obtain⟨x,m,ga,k⟩:=k;rw[Z8 kb]at k;obtain⟨y,m2,gb,k⟩:=k;rw[Z8 kb];have hs1:∀f:Fr,Zk b.sl f (Qn f a.dst x):=fun f=>GT h1
 have hs3:∀f:Fr,Zk a.sl f (Qn f b.dst y):=fun f=>GT h3
 have hsym:∀ {l f f'},Zk l f f'→Zk l f' f:=fun h t ht=>(h t ht).symm
 have hK:K { st with m:=m2,f:=Qn (Qn st.f b.dst y) a.dst x }:=by
  rw[←VK h2];exact k
 rcases hor with(⟨pa,lb⟩|⟨pb,la⟩)|hf
 ·have e:m=st.m:=(Yt (m':=st.m) (ds':=st.ds) pa (Xd.refl _ _) ga).1;subst e;have gb':Ze P b st y m2:=Kw (hsym (hs1 st.f)) gb;refine⟨y,m2,gb',?_⟩;rw[Z8 ka];have ga':Ze P a { st with m:=m2 } x m2:=(Yt pa (Hj lb gb') ga).2;exact⟨x,m2,Kw (hs3 st.f) ga',hK⟩
 ·have hag:=Hj la ga;obtain⟨e,gb1⟩:=Yt (m':=st.m) (ds':=st.ds) pb hag.symm gb;have e:m2=m:=e;subst e;have gb':Ze P b st y st.m:=Kw (hsym (hs1 st.f)) gb1;refine⟨y,st.m,gb',?_⟩;rw[Z8 ka];exact⟨x,m2,Kw (hs3 st.f) ga,hK⟩
 ·obtain⟨m1,gb',ga'⟩:=Bn hf ga gb;refine⟨y,m1,gb',?_⟩;rw[Z8 ka];exact⟨x,m2,ga' _,hK⟩

theorem VL {ops:Array Oper}{o:Oper}{i:Nat}(hi:ops[i]? = some o){it:Item}(hc:Yp P N ops o it=true){st:St}{K:St→Prop}(h:XK P it st K){G:Gh}{B:Nat}{a:Act}{w:World}(hr:Rel G B N st a w){KK:Act→World→Prop}{QQ:Exit→Act→World→Prop}
  (hk:∀G' st' a' w',K st'→Rel G' B N st' a' w'→Ext 1 G w G' w'→KK a' w'):wpOp P ops QQ i KK a w:=by
 have h1:Qu P N [it] st K:=DG (WN (fun _ hs=>Qu.nil hs) h);have h2:=h1 ops [o] (by simp[XP,hc]) G B a w hr (fun e a w=>match e with
  |.normal=>KK a w
  |e=>QQ e a w) (fun G' st' a' w' h1 h2 h3=>hk G' st' a' w' h1 h2 h3)
 unfold wpOp;simp only[hi];unfold wpList at h2;split
 ·rename_i hw;rw[QMy hw]at h2;rcases h2 with h2|h2
  ·left
   unfold Oper.wp at h2 ⊢;generalize (execOp a.eval o).run P w=r at h2 ⊢;cases r with
   |ok n w'=>
    cases n<;>simp only[Oper.upon]at h2 ⊢<;>first
     |exact h2
     |exact Calls.mono h2 (fun e w'' he=>by cases e<;>exact he)
   |halt x w'=>cases x<;>simp only[Oper.upon]at h2 ⊢<;>exact h2
  ·exact .inr h2
 ·rename_i hw;rw[QMj hw]at h2;exact h2

def Kf:Item:=⟨none,.val (.mov (.c .top)),none⟩
def WO (Qe:List Item)(l:List Nat):List Item:=l.map fun i=>Qe.getD i Kf

theorem VM {Qe:List Item}{i:Nat}{post:List Nat}{Q:St→Prop}:∀ {pre:List Nat} {st:St},(∀p,p∈pre→YW (Qe.getD p Kf) (Qe.getD i Kf)=true)→
  QD P (WO Qe (pre++i :: post)) st Q→XK P (Qe.getD i Kf) st fun s=>QD P (WO Qe (pre++post)) s Q
 | [],_,_,h=>h
 |p :: pre,st,hp,h=>by
  have h':XK P (Qe.getD p Kf) st fun s=>QD P (WO Qe (pre++i :: post)) s Q:=h
  have h2:=WN (fun s hs=>VM (fun q hq=>hp q (QMl _ hq)) hs) h';exact NB (hp p (QMn ..)) h2

inductive Bef (ops:Array Oper):Nat→Nat→Prop
 |one {i:Nat} {o:Oper} {e:Edge} (ho:ops[i]? = some o) (he:e∈o.after) (hb:Region.binds .any e=true):Bef ops e.on i
 |more {i p:Nat} {o:Oper} {e:Edge} (ho:ops[i]? = some o) (he:e∈o.after) (hb:Region.binds .any e=true) (h:Bef ops p e.on):Bef ops p i

def NC (acc:List Nat)(m:Nat)(e:Edge):Nat:=if Region.binds .any e then(m ||| 2 ^ e.on) ||| acc.getD e.on 0 else m
def VN (acc:List Nat)(o:Oper):Nat:=o.after.toList.foldl (NC acc) 0
def ND:List Oper→List Nat→List Nat
 | [],acc=>acc
 |o :: os,acc=>ND os (acc++[VN acc o])

theorem Hk {acc:List Nat}{p:Nat}:∀(l:List Edge) (m:Nat),(l.foldl (NC acc) m).testBit p=true→m.testBit p=true∨∃e∈l,Region.binds .any e=true∧(p=e.on∨(acc.getD e.on 0).testBit p=true)
 | [],m,h=>.inl h
 |e :: l,m,h=>by
  rw[List.foldl_cons]at h;rcases Hk l _ h with h1|⟨e',h1,h2,h3⟩
  ·unfold NC at h1;split at h1
   ·rename_i hb;rw[Nat.testBit_or,Nat.testBit_or,QL9,QL9]at h1;rcases h1 with(h1|h1)|h1
    ·exact .inl h1
    ·rw[Nat.testBit_two_pow]at h1;exact .inr ⟨e,QMn ..,hb,.inl (of_decide_eq_true h1).symm⟩
    ·exact .inr ⟨e,QMn ..,hb,.inr h1⟩
   ·exact .inl h1
  ·exact .inr ⟨e',QMl _ h1,h2,h3⟩

theorem DR {ops:Array Oper}:∀(l:List Oper) (acc:List Nat),ops.toList=ops.toList.take acc.length++l→acc.length+l.length=ops.size→(∀i p,(acc.getD i 0).testBit p=true→Bef ops p i)→∀i p,((ND l acc).getD i 0).testBit p=true→Bef ops p i
 | [],acc,_,_,h=>h
 |o :: l,acc,e,hn,h=>by
  have hlen:acc.length<ops.toList.length:=by simp at hn ⊢;omega
  have hat:ops[acc.length]? = some o:=by
   rw[←QMw,e,QNs (by simp;omega)];simp;have:acc.length-min acc.length ops.size=0:=by simp at hlen;omega
   rw[this];rfl
  refine DR l (acc++[VN acc o]) ?_ (by simp at hn ⊢;omega) fun i p hb=>?_
  ·rw[QMH,QNx,QMp hlen,QMq];have:ops.toList[acc.length]=o:=by
    have:=QL6 hlen;rw[QMw,hat]at this;cases this;rfl
   rw[this];exact e
  ·rw[List.getD_eq_getElem?_getD]at hb;by_cases hi:i<acc.length
   ·rw[QNr hi,←List.getD_eq_getElem?_getD]at hb;exact h i p hb
   ·by_cases hi2:i=acc.length
    ·subst hi2;rw[QNs (QL3 _)]at hb;simp only[Nat.sub_self,QM6,QNd]at hb;rcases Hk _ _ hb with h1|⟨e',h1,h2,h3⟩
     ·simp at h1
     ·rcases h3 with rfl|h3
      ·exact .one hat (by simpa using h1) h2
      ·exact .more hat (by simpa using h1) h2 (h _ _ h3)
    ·rw[QNq (by simp;omega)]at hb;simp at hb

def Gm (ops:Array Oper)(Qe:List Item):Bool :=
 (List.range ops.size).all fun i=>match ops[i]? with
  |some o=>o.after.all (fun e=>!Region.binds .any e||decide (e.on<i))&&(List.range i).all fun p=>((ND ops.toList []).getD i 0).testBit p||YW (Qe.getD p Kf) (Qe.getD i Kf)
  |none=>true

theorem Bef.listed {ops:Array Oper}{L:Nat→Prop}(hcl:∀q,L q→∀o e,ops[q]? = some o→e∈o.after→Region.binds .any e=true→L e.on){p i:Nat}(h:Bef ops p i)(hi:∀o e,ops[i]? = some o→e∈o.after→Region.binds .any e=true→L e.on):L p:=by
 induction h with
 |one ho he hb=>exact hi _ _ ho he hb
 |more ho he hb _ ih=>exact ih (hcl _ (hi _ _ ho he hb))

def J7 (n:Nat)(listed:Array Bool):List Nat:=(List.range n).filter fun i=>!listed.getD i true

theorem UC {ops:Array Oper}:∀ {l:List Oper} {Qe:List Item},XP P N ops l Qe=true→l.length=Qe.length∧∀(i:Nat) (o:Oper),l[i]? = some o→Yp P N ops o (Qe.getD i Kf)=true
 | [],Qe,h=>by
  cases Qe with
  |nil=>exact⟨rfl,by simp⟩
  |cons it Qe=>simp[XP]at h
 |o :: l,Qe,h=>by
  cases Qe with
  |nil=>simp[XP]at h
  |cons it Qe=>
   simp only[XP,QMt]at h;obtain⟨e,h2⟩:=UC h.2;refine⟨by simp[e],fun i o' ho=>?_⟩;cases i with
   |zero=>simp at ho;subst ho;exact h.1
   |succ i=>simpa using h2 i o' (by simpa using ho)

theorem MX {ops:Array Oper}{Qe:List Item}(hc:XP P N ops ops.toList Qe=true)(hd:Gm ops Qe=true){B:Nat}{Q:St→Prop}{QQ:Exit→Act→World→Prop} :
  ∀(fuel:Nat) (listed:Array Bool),listed.size=ops.size→(∀q,listed.getD q false=true→∀o e,ops[q]? = some o→e∈o.after→Region.binds .any e=true→listed.getD e.on false=true)→(J7 ops.size listed).length≤fuel→∀(st:St) (G:Gh) (a:Act) (w:World),QD P (WO Qe (J7 ops.size listed)) st Q→Rel G B N st a w→
   (∀G' st' a' w',Q st'→Rel G' B N st' a' w'→Ext 1 G w G' w'→QQ .normal a' w')→wpAny P .any ops QQ fuel listed a w:=by
 obtain⟨hlen,hcs⟩:=UC hc;have hready:∀(listed:Array Bool) i,i∈Region.ready .any ops listed→i∈J7 ops.size listed:=by
  intro listed i hi;obtain⟨h0,o,ho,_⟩:=mem_ready.1 hi;exact List.mem_filter.2 ⟨QNy.2 (QMc.1 ho).1,by simp[h0]⟩
 have hat:∀i,i<ops.size→∃o,ops[i]? = some o∧(∀e∈o.after,Region.binds .any e=true→e.on<i)∧∀p,p<i→Bef ops p i∨YW (Qe.getD p Kf) (Qe.getD i Kf)=true:=by
  intro i hi;refine⟨ops[i],QMm hi,?_⟩;have h1:=QMh.1 hd i (QNy.2 hi);rw[QMm hi]at h1;simp only[QMt]at h1;refine⟨fun e he hb=>?_,fun p hp=>?_⟩
  ·have h2:=Array.all_eq_true_iff_forall_mem.1 h1.1 e he
   simpa [hb]using h2
  ·have h2:=QMh.1 h1.2 p (QNy.2 hp);rw[QL9]at h2;rcases h2 with h2|h2
   ·exact .inl (DR ops.toList [] (by simp) (by simp) (fun i p hb=>by simp at hb) i p h2)
   ·exact .inr h2
 -- the first that is left is ready
 have hfirst:∀(listed:Array Bool),listed.size=ops.size→Region.ready .any ops listed=[]→J7 ops.size listed=[]:=by
  intro listed hsz hr;cases hu:J7 ops.size listed with
  |nil=>rfl
  |cons i rest=>
   exfalso;have hpw:(J7 ops.size listed).Pairwise (· < ·):=List.Pairwise.filter _ List.pairwise_lt_range;have hi:i∈J7 ops.size listed:=by rw[hu];exact QMn ..
   obtain⟨hi1,hi2⟩:=List.mem_filter.1 hi;obtain⟨o,ho,h1,_⟩:=hat i (QNy.1 hi1);have:i∈Region.ready .any ops listed:=by
    refine mem_ready.2 ⟨by simpa using hi2,o,ho,fun e he hb=>?_⟩;have hlt:=h1 e he hb;cases hg:listed.getD e.on false with
    |true=>rfl
    |false=>
     have hin:e.on∈J7 ops.size listed:=by
      refine List.mem_filter.2 ⟨QNy.2 (Nat.lt_trans hlt (QNy.1 hi1)),?_⟩;have hlt':e.on<listed.size:=by rw[hsz];exact Nat.lt_trans hlt (QNy.1 hi1)
      simp[QMm hlt']at hg ⊢;exact hg
     rw[hu]at hin hpw;rcases QNo.1 hin with e'|e'
     ·omega
     ·have:=(QNz.1 hpw).1 _ e';omega
   rw[hr]at this;cases this
 intro fuel
 induction fuel with
 |zero=>
  intro listed hsz hcl hl st G a w h hr hq;have hu:J7 ops.size listed=[]:=QM8 (by omega);refine⟨?_,?_⟩
  ·cases hx:Region.ready .any ops listed with
   |nil=>rfl
   |cons i r=>
    have:=hready listed i (by rw[hx];exact QMn ..);rw[hu]at this;cases this
  ·rw[hu]at h;exact hq G st a w h hr (Ext.refl 1 G w)
 |succ fuel ih=>
  intro listed hsz hcl hl st G a w h hr hq;refine⟨fun hx=>?_,fun i hi=>?_⟩
  ·rw[hfirst listed hsz hx]at h;exact hq G st a w h hr (Ext.refl 1 G w)
  ·have hiu:=hready listed i hi;obtain⟨pre,post,hsplit⟩:=List.append_of_mem hiu;have hpw:(J7 ops.size listed).Pairwise (· < ·):=List.Pairwise.filter _ List.pairwise_lt_range;rw[hsplit]at h hpw;obtain⟨_,hp2,hp3⟩:=List.pairwise_append.1 hpw;obtain⟨hi1,hi2⟩:=List.mem_filter.1 hiu;obtain⟨o,ho,h1,h2⟩:=hat i (QNy.1 hi1);obtain⟨_,o',ho',h3⟩:=mem_ready.1 hi;rw[ho]at ho';cases ho';have hind:∀p,p∈pre→YW (Qe.getD p Kf) (Qe.getD i Kf)=true:=by
    intro p hp;rcases h2 p (hp3 p hp i (QMn ..))with hbef|h
    ·exfalso;have hl1:=hbef.listed (L:=fun q=>listed.getD q false=true) hcl (fun o2 e ho2 he hb=>by rw[ho]at ho2;cases ho2;exact h3 e he hb);have hpu:p∈J7 ops.size listed:=by rw[hsplit];exact List.mem_append_left _ hp
     obtain⟨hr1,hr2⟩:=List.mem_filter.1 hpu;have hlt':p<listed.size:=by rw[hsz];exact QNy.1 hr1
     simp[QMm hlt']at hl1 hr2;rw[hl1]at hr2;cases hr2
    ·exact h
   have hb:=VM (P:=P) hind h;have hnext:J7 ops.size (listed.setIfInBounds i true)=pre++post:=by
    have e1:J7 ops.size (listed.setIfInBounds i true)=(J7 ops.size listed).filter fun j=>j != i:=by
     unfold J7;rw[List.filter_filter];refine List.filter_congr fun j hj=>?_
     by_cases hji:j=i
     ·subst hji;have hlt':j<listed.size:=by rw[hsz];exact QNy.1 hj
      simp[hlt']
     ·rw[getD_set_ne true (fun e=>hji e.symm)];simp[hji]
    rw[e1,hsplit,List.filter_append,List.filter_cons];have e2:pre.filter (fun j=>j != i)=pre:=List.filter_eq_self.2 fun j hj=>by
     have:=hp3 j hj i (QMn ..);simp;omega
    have e3:post.filter (fun j=>j != i)=post:=List.filter_eq_self.2 fun j hj=>by
     have:=(QNz.1 hp2).1 j hj;simp;omega
    rw[e2,e3];simp
   have hset:∀q,listed.getD q false=true→(listed.setIfInBounds i true).getD q false=true:=fun q hq'=>by
    by_cases hqi:q=i
    ·subst hqi;have hlt':q<listed.size:=by rw[hsz];exact QNy.1 hi1
     simp[hlt']
    ·rw[getD_set_ne false (fun e=>hqi e.symm)];exact hq'
   have hcl':∀q,(listed.setIfInBounds i true).getD q false=true→∀o e,ops[q]? = some o→e∈o.after→Region.binds .any e=true→(listed.setIfInBounds i true).getD e.on false=true:=fun q hq' o2 e ho2 he2 hb2=>by
    by_cases hqi:q=i
    ·subst hqi;rw[ho]at ho2;cases ho2;exact hset _ (h3 e he2 hb2)
    ·rw[getD_set_ne false (fun e=>hqi e.symm)]at hq';exact hset _ (hcl q hq' o2 e ho2 he2 hb2)
   refine VL ho (hcs i o (by simpa using ho)) hb hr fun G' st' a' w' hk hr' he=>?_
   refine ih (listed.setIfInBounds i true) (by simpa using hsz) hcl' ?_ st' G' a' w' (by rw[hnext];exact hk) hr' fun G2 st2 a2 w2 hq2 hr2 he2=>hq G2 st2 a2 w2 hq2 hr2 (he.trans he2)
   rw[hnext];rw[hsplit]at hl;simp only[QMH,QMk]at hl ⊢;omega

theorem VP {Qe:List Item}:WO Qe (List.range Qe.length)=Qe:=by
 apply List.ext_getElem
 ·simp[WO]
 ·intro i h1 h2;simp[WO,h2]

theorem Tj {ops:Array Oper}{Qe:List Item}(hm:P.follows .mixedOrders=true)(hc:XP P N ops ops.toList Qe=true)(hd:Gm ops Qe=true){st:St}{Q:St→Prop}(h:QD P Qe st Q){G:Gh}{B:Nat}{a:Act}{w:World}(hr:Rel G B N st a w){QQ:Exit→Act→World→Prop}{id:Nat}
  (hq:∀G' st' a' w',Q st'→Rel G' B N st' a' w'→Ext 1 G w G' w'→QQ .normal a' w'):(Code.region id ops true).wp P QQ a w:=by
 refine wp_region_any hm ?_;have hlen:=(UC hc).1;simp only[QMz]at hlen;have hu:J7 ops.size (Array.replicate ops.size false)=List.range Qe.length:=by
  unfold J7;rw[hlen];refine List.filter_eq_self.2 fun i hi=>?_
  simp[QNy.1 hi]
 refine MX hc hd ops.size (Array.replicate ops.size false) (by simp) (fun q hq'=>by rw[QMe]at hq';simp[Array.getElem?_replicate]at hq';split at hq'<;>cases hq') (by rw[hu];simp[hlen]) st G a _ (by rw[hu,VP];exact h) hr.drew fun G' st' a' w' h1 h2 h3=>hq G' st' a' w' h1 h2 ((Ext.drew G w).trans h3)

end

def XR (P:Program)(N:Nat):RC→Code→Bool
 |.gho _ r,c=>XR P N r c
 |.no,_=>true
 |.skip,c=>match c with
  |.skip=>true
  |_=>false
 |.reg Qe,c=>match c with
  |.region _ ops false=>XP P N ops ops.toList Qe
  |_=>false
 |.draw Qe,c=>match c with
  |.region _ ops true=>P.follows .mixedOrders&&XP P N ops ops.toList Qe&&Gm ops Qe
  |_=>false
 |.seq a b,c=>match c with
  |.seq x y=>XR P N a x&&XR P N b y
  |_=>false
 |.cond r a b,c=>match c with
  |.cond o x y=>QH o r&&XR P N a x&&XR P N b y
  |_=>false
 |.block i a,c=>match c with
  |.block j x=>i==j&&XR P N a x
  |_=>false
 |.loop a,c=>match c with
  |.loop x=>XR P N a x
  |_=>false
 |.exit i,c=>match c with
  |.exit j=>i==j
  |_=>false
 |.scope a,c=>match c with
  |.scope x=>XR P N a x
  |_=>false
 |.lab,c=>match c with
  |.label _=>true
  |_=>false
 |.ret,c=>match c with
  |.ret=>true
  |_=>false

section
variable {P:Program}{N B:Nat}

theorem VQ:∀ {rc:RC} {c:Code} {st:St} {Q:Exit→St→Prop},QJ P rc st Q→XR P N rc c=true→∀ {G:Gh} {a:Act} {w:World},Rel G B N st a w→∀ {QQ:Exit→Act→World→Prop},
  (∀e G' st' a' w',Q e st'→Rel G' B N st' a' w'→Ext 1 G w G' w'→QQ e a' w')→c.wp P QQ a w:=by
 intro rc
 induction rc with
 |skip=>
  intro c st Q h hc G a w hr QQ hq;cases c<;>simp only[XR,QMo]at hc;exact wp_skip (hq _ _ _ _ _ h hr (Ext.refl 1 G w))
 |reg Qe=>
  intro c st Q h hc G a w hr QQ hq;cases c<;>simp only[XR,QMo]at hc;rename_i id ops d;cases d<;>simp only[QMo]at hc;refine wp_region_list ?_;exact BB (N:=N) h ops ops.toList hc G B a w hr QQ fun G' st' a' w' h1 h2 h3=>hq _ _ _ _ _ h1 h2 h3
 |draw Qe=>
  intro c st Q h hc G a w hr QQ hq;cases c<;>simp only[XR,QMo]at hc;rename_i id ops d;cases d<;>simp only[QMo,QMt]at hc;exact Tj hc.1.1 hc.1.2 hc.2 h hr fun G' st' a' w' h1 h2 h3=>hq _ _ _ _ _ h1 h2 h3
 |seq x y ihx ihy=>
  intro c st Q h hc G a w hr QQ hq;cases c<;>simp only[XR,QMo,QMt]at hc;refine wp_seq (ihx h hc.1 hr fun e G' st' a' w' h1 h2 h3=>?_);cases e with
  |normal=>exact ihy h1 hc.2 h2 fun e G2 st2 a2 w2 k1 k2 k3=>hq _ _ _ _ _ k1 k2 (h3.trans k3)
  |_=>exact hq _ _ _ _ _ h1 h2 h3
 |cond r x y ihx ihy=>
  intro c st Q h hc G a w hr QQ hq;cases c<;>simp only[XR,QMo,QMt]at hc;rename_i o cx cy;obtain⟨t,ht,h1,h2⟩:=h;have hv:=Qs hr hc.1.1;rw[ht]at hv;have hv':a.eval o=.bool t:=by
   generalize a.eval o=v at hv;cases hv;rfl
  refine wp_cond_split hv' (fun e=>?_) (fun e=>?_)
  ·exact ihx (h1 e) hc.1.2 hr hq
  ·exact ihy (h2 e) hc.2 hr hq
 |block i x ih=>
  intro c st Q h hc G a w hr QQ hq;cases c<;>simp only[XR,QMo,QMt,QMb]at hc;obtain⟨rfl,hc⟩:=hc;refine wp_block (ih h hc hr fun e G' st' a' w' h1 h2 h3=>?_);cases e with
  |exit j=>
   simp only[Exit.inBlock];simp only[Kb]at h1;split
   ·rename_i hh;rw[QMy hh]at h1;exact hq _ _ _ _ _ h1 h2 h3
   ·rename_i hh;rw[QMj hh]at h1;exact hq _ _ _ _ _ h1 h2 h3
  |_=>exact hq _ _ _ _ _ h1 h2 h3
 |loop x ih=>
  intro c st Q h hc G a w hr QQ hq;cases c<;>simp only[XR,QMo]at hc;obtain⟨I,n,h0,hI⟩:=h;refine wp_loop_ghost (fun k a' w'=>∃G' st',I k st'∧Rel G' B N st' a' w'∧Ext 1 G w G' w') n ⟨G,st,h0,hr,Ext.refl 1 G w⟩ ?_;rintro k a' w' ⟨G',st',i1,i2,i3⟩;refine ih (hI k st' i1) hc i2 fun e G2 st2 a2 w2 h1 h2 h3=>?_
  cases e with
  |normal=>
   obtain⟨k',hk,hi⟩:=h1;exact⟨k',hk,G2,st2,hi,h2,i3.trans h3⟩
  |_=>exact hq _ _ _ _ _ h1 h2 (i3.trans h3)
 |exit i=>
  intro c st Q h hc G a w hr QQ hq;cases c<;>simp only[XR,QMo,QMb]at hc;subst hc;exact wp_exit (hq _ _ _ _ _ h hr (Ext.refl 1 G w))
 |scope x ih=>
  intro c st Q h hc G a w hr QQ hq;cases c<;>simp only[XR,QMo]at hc;refine wp_scope_straight (ih h hc hr fun e G' st' a' w' h1 h2 h3=>?_);cases e with
  |goto l=>exact h1.elim
  |_=>exact hq _ _ _ _ _ h1 h2 h3
 |lab=>
  intro c st Q h hc G a w hr QQ hq;cases c<;>simp only[XR,QMo]at hc;exact wp_label (hq _ _ _ _ _ h hr (Ext.refl 1 G w))
 |ret=>
  intro c st Q h hc G a w hr QQ hq;cases c<;>simp only[XR,QMo]at hc;exact wp_ret (hq _ _ _ _ _ h hr (Ext.refl 1 G w))
 |gho g x ih=>
  intro c st Q h hc G a w hr QQ hq;obtain⟨st',hg,h⟩:=h;obtain⟨G',h1,h2⟩:=MS hr hg;exact ih h hc h1 fun e G2 st2 a2 w2 k1 k2 k3=>hq _ _ _ _ _ k1 k2 (h2.trans k3)
 |no=>
  intro c st Q h;exact h.elim

theorem MR.out {G:Gh}{fr:Nat→Ob}{m:Ql}{w:World}(h:MR G (fr :: m) w){S:Nat→Prop}(hS:∀b,S b→(∃s,G.vm 0 s=some b)∨∃s,G.nm 0 s=some b):MR ((G.pub w S).dn 1) m w:=by
 have hnS:∀l s b,G.nm (l+1) s=some b→¬S b:=fun l s b e hs=>by
  rcases hS b hs with⟨s',e'⟩|⟨s',e'⟩
  ·exact h.inj3 _ _ _ _ _ e e'
  ·have:=(h.inj1 _ _ _ _ _ e e').1;omega
 have hvS:∀l s b,G.vm (l+1) s=some b→¬S b:=fun l s b e hs=>by
  rcases hS b hs with⟨s',e'⟩|⟨s',e'⟩
  ·have:=(h.inj2 _ _ _ _ _ e e').1;omega
  ·exact h.inj3 _ _ _ _ _ e' e
 have hgle:Gle G (G.pub w S):=Gh.pub_gle h.stab;refine⟨fun b o v e=>?_,fun l s xs e=>?_,fun l s b e=>?_,fun l s g sz xs e=>?_,fun l s b e=>?_,fun l s e=>?_,fun l s l' s' b e e'=>?_,fun l s l' s' b e e'=>?_,fun l s l' s' b e e'=>?_,fun l s t p e=>h.iter (l+1) s t p e⟩
 ·have e:(G.pub w S).stab b o=some v:=e;by_cases hs:S b
  ·rw[Gh.pub_in hs]at e;exact Dl e
  ·rw[Gh.pub_out hs]at e;exact h.stab b o v e
 ·obtain⟨b,cs,e',hc,hr⟩:=h.cells (l+1) s xs e;refine⟨b,cs,e',hc,?_⟩;rw[Gh.dn_dn];exact hr.mono (hgle.dn (l+1))
 ·obtain⟨h1,h2⟩:=h.nm (l+1) s b e;refine⟨h1,fun o=>?_⟩;show(G.pub w S).stab b o=none;rw[Gh.pub_out (hnS _ _ _ e)];exact h2 o
 ·obtain⟨a1,a2,a3,a4⟩:=h.vec (l+1) s g sz xs e;exact⟨a1,a2,a3,a4.imp id fun⟨b,e',r⟩=>⟨b,e',r.of rfl fun vs hv=>RepL.rfd (G:=G) (G':=(G.pub w S).dn 1) hgle.stab a3.rf hv⟩⟩
 ·obtain⟨h1,h2⟩:=h.vm (l+1) s b e;refine⟨h1,fun o=>?_⟩;show(G.pub w S).stab b o=none;rw[Gh.pub_out (hvS _ _ _ e)];exact h2 o
 ·exact h.gone (l+1) s e
 ·obtain⟨h1,h2⟩:=h.inj1 _ _ _ _ _ e e';exact⟨by omega,h2⟩
 ·obtain⟨h1,h2⟩:=h.inj2 _ _ _ _ _ e e';exact⟨by omega,h2⟩
 ·exact h.inj3 _ _ _ _ _ e e'

def X7 (rs:List RR)(n:Nat)(R:AV→Ql→Prop):Exit→St→Prop:=fun e st=>
 (e=.normal∨e=.ret)∧st.ds=[]∧∃x y fr m,JP st rs=some x∧Kv st.m x=some y∧st.m=fr :: m∧m.length=n∧R y m

theorem Bo {G:Gh}{args:List AV}{vs:List Value}(h:RepL G args vs){N:Nat}(i:Nat):Rep G.up (DA (AV.shL args) i) (((vs.toArray++Array.replicate (N-vs.toArray.size) undef):Array Value).getD i undef):=by
 have h':RepL G.up (AV.shL args) vs:=RepL.sh (G:=G.up) (by rw[Gh.up_dn];exact h);have hl:=h'.length;unfold DA;by_cases hi:i<vs.length
 ·obtain⟨x,e,hx⟩:=h'.back (QL6 hi);rw[e];simp only[QNd,QMe];rw[Array.getElem?_append_left (by simpa using hi)]
  simpa [hi]using hx
 ·rw[QNq (by omega)];simp only[QNA,QMe];rw[Array.getElem?_append_right (by simpa using hi)];cases hx:(Array.replicate (N-vs.toArray.size) undef)[i-vs.toArray.size]? with
  |none=>exact .tup .nil
  |some v=>
   have:=QMc.1 hx;obtain⟨_,h2⟩:=this;simp at h2;subst h2;exact .tup .nil

theorem GU {fn:Func}{args:List AV}{m:Ql}{G:Gh}{w:World}{vs:List Value}(hvs:RepL G args vs)(hm:MR G m w)(hN:fn.ntmps=N)(ha:args.length≤N) :
  Rel G.up w.heap.size N (St.enter args m) { tmps:=vs.toArray++Array.replicate (fn.ntmps-vs.toArray.size) undef,defers:=[] } w:=by
 have hlen:=hvs.length;refine⟨hm.up,?_,fun i=>Bo hvs i,.nil,fun s b e=>?_,QL3 _,by simp[St.enter]⟩
 ·simp;omega
 ·rcases e with e|e<;>cases e

theorem BC {fn:Func}{rs:List RR}{G G':Gh}{m m':Ql}{w w':World}{st':St}{a':Act}{fr:Nat→Ob}{x y:AV}{R:AV→Ql→Prop}(hr:Jd P fn.results.toList rs=true)(hr':Rel G' w.heap.size N st' a' w')(he:Ext 1 G.up w G' w')
  (hx:JP st' rs=some x) (hy:Kv st'.m x=some y) (hst:st'.m=fr :: m') (hml:m'.length=m.length) (hR:R y m') :
  ∃v,(results fn a'.tmps).run P w'=.ok v w'∧(∃G'' x v' m'',(Ending.returned v)=.returned v'∧R x m''∧Rep G'' x v'∧MR G'' m'' w'∧Ext 0 G w G'' w'∧m''.length=m.length):=by
 obtain⟨v,hrun,hv⟩:=Te (P:=P) hr' hr hx
 let S:Nat→Prop:=fun b=>(∃s,G'.vm 0 s=some b)∨∃s,G'.nm 0 s=some b
 have hmr:=hr'.mr;have hSt:∀l s b,(true&&l != 0)=false→G'.vm l s=some b→S b:=by
  intro l s b hl e;have:l=0:=by simpa using hl
  subst this;exact .inl ⟨s,e⟩
 unfold Kv at hy;rw[Option.bind_eq_some_iff]at hy;obtain⟨z,hz,hy⟩:=hy;have hv2:=Rep.un (UA hmr (own:=true) (S:=S) hSt (fun _ s b _ _ _ e _=>.inr ⟨s,e⟩) hv z hz) y hy;rw[hst]at hmr;have hout:=hmr.out (S:=S) (fun b hs=>hs);have hmine:∀b,((G'.pub w' S).dn 1).mine b→G'.mine b:=by
  rintro b (⟨l,s,e⟩|⟨l,s,e⟩)
  ·exact .inl ⟨l+1,s,e⟩
  ·exact .inr ⟨l+1,s,e⟩
 have hext:Ext 0 G w ((G'.pub w' S).dn 1) w':=by
  refine⟨he.os,he.tape,he.output,he.size,fun b o v e=>?_,fun l s _=>he.nm (l+1) s (by omega),fun l s=>he.vg (l+1) s,fun l s e=>he.vs (l+1) s e,fun b hb hnm=>?_,fun b hb=>?_,fun l s b e=>?_⟩
  ·exact(Gh.pub_gle (S:=S) hr'.mr.stab).stab b o v (he.stab b o v e)
  ·obtain⟨h1,h2⟩:=he.old b hb (fun hx=>hnm (Gh.up_mine.1 hx));refine⟨h1,fun o=>?_⟩;have hnS:¬S b:=by
    rintro(⟨s,e⟩|⟨s,e⟩)
    ·have:=hr'.base s b (.inr e);omega
    ·have:=hr'.base s b (.inl e);omega
   show(G'.pub w' S).stab b o=G.stab b o;rw[Gh.pub_out hnS];exact h2 o
  ·rcases he.mine b (hmine b hb)with h1|h1
   ·exact .inl (Gh.up_mine.1 h1)
   ·exact .inr h1
  ·rcases he.mv (l+1) s b e with⟨i,t,hi,h1⟩|h1
   ·cases i with
    |zero=>cases h1
    |succ i=>exact .inl ⟨i,t,by omega,h1⟩
   ·exact .inr h1
 exact⟨v,hrun,_,y,v,m',rfl,hR,hv2,hout,hext,hml⟩

theorem Yj {k:FuncId} {fn:Func} {c:Code} {rc:RC} {rs:List RR} {args:List AV} {m:Ql} {R:AV→Ql→Prop} (hf:P.funcs[k]? = some fn) (hb:fn.body=some c) (hn:(fn.name == "runtime.NumGoroutine")=false) (hN:fn.ntmps=N) (hc:XR P N rc c=true) (hr:Jd P fn.results.toList rs=true)
  (ha:args.length≤N) (h:QJ P rc (St.enter args m) (X7 rs m.length R)):Qh P k args m R:=by
 refine⟨⟨fn,hf,hn,by rw[hb];rfl⟩,fun G w vs hvs hm=>?_⟩;refine calls_of_wp hf hb ?_;refine VQ h hc (GU hvs hm hN ha) fun e G' st' a' w' hq hr' he=>?_
 obtain⟨hex,hds,x,y,fr,m',hx,hy,hst,hml,hR⟩:=hq;have hdef:a'.defers=[]:=by
  have:=hr'.ds;rw[hds]at this;cases hd:a'.defers with
  |nil=>rfl
  |cons d l=>rw[hd]at this;cases this
 have hfin:=BC (R:=R) hr hr' he hx hy hst hml hR;rcases hex with rfl|rfl
 ·exact⟨hdef,hfin⟩
 ·exact⟨hdef,hfin⟩

def Wr (P:Program)(k:FuncId)(args:List AV)(m:Ql)(R:AV→Ql→Prop):Prop :=
 WM P k∧∀(G:Gh) (w:World) (vs:List Value),RepL G args vs→MR G m w→∀u,CallsD P k ⟨vs⟩ u w fun e u' w'=>u'=u∧∃G' x v m',e=.returned v∧R x m'∧Rep G' x v∧MR G' m' w'∧Ext 0 G w G' w'∧m'.length=m.length

theorem Gn {k:FuncId} {fn:Func} {c:Code} {rc:RC} {rs:List RR} {args:List AV} {m:Ql} {R:AV→Ql→Prop} (hf:P.funcs[k]? = some fn) (hb:fn.body=some c) (hn:(fn.name == "runtime.NumGoroutine")=false) (hN:fn.ntmps=N) (hc:XR P N rc c=true) (hr:Jd P fn.results.toList rs=true)
  (ha:args.length≤N) (h:QJ P rc (St.enter args m) (X7 rs m.length R)):Wr P k args m R:=by
 refine⟨⟨fn,hf,hn,by rw[hb];rfl⟩,fun G w vs hvs hm u=>?_⟩;refine callsD_of_wp (R:=fun e w'=>∃G' x v m',e=.returned v∧R x m'∧Rep G' x v∧MR G' m' w'∧Ext 0 G w G' w'∧m'.length=m.length) hf hb ?_;refine VQ h hc (GU hvs hm hN ha) fun e G' st' a' w' hq hr' he=>?_
 obtain⟨hex,hds,x,y,fr,m',hx,hy,hst,hml,hR⟩:=hq;have hdef:a'.defers=[]:=by
  have:=hr'.ds;rw[hds]at this;cases hd:a'.defers with
  |nil=>rfl
  |cons d l=>rw[hd]at this;cases this
 have hfin:=BC (R:=R) hr hr' he hx hy hst hml hR;rcases hex with rfl|rfl
 ·exact⟨hdef,hfin⟩
 ·exact⟨hdef,hfin⟩

end

def CK (P:Program)(k N:Nat)(rc:RC)(rs:List RR):Prop :=
 ∃fn c, P.funcs[k]? = some fn∧fn.body=some c∧(fn.name == "runtime.NumGoroutine")=false∧fn.ntmps=N∧XR P N rc c=true∧Jd P fn.results.toList rs=true
theorem CK.go {P:Program}{k N:Nat}{rc:RC}{rs:List RR}{args:List AV}{m:Ql}{R:AV→Ql→Prop}(h:CK P k N rc rs)(ha:args.length≤N)(w:QJ P rc (St.enter args m) (X7 rs m.length R)):Qh P k args m R:=by
 obtain⟨fn,c,h1,h2,h3,h4,h5,h6⟩:=h;exact Yj h1 h2 h3 h4 h5 h6 ha w
theorem ck {P:Program} {k N:Nat} {fn:Func} {rc:RC} {rs:List RR} (hf:P.funcs[k]? = some fn) (hN:fn.ntmps=N) (h:(fn.body.isSome && !(fn.name == "runtime.NumGoroutine")&&XR P N rc (fn.body.getD .skip)&&Jd P fn.results.toList rs)=true):CK P k N rc rs := by
 simp only[QMt,QM2,Option.isSome_iff_exists]at h;obtain⟨⟨⟨⟨c,hc⟩,h1⟩,h2⟩,h3⟩:=h;rw[hc]at h2;exact⟨fn,c,hf,hc,h1,hN,h2,h3⟩
theorem CK.dd {P:Program}{k N:Nat}{rc:RC}{rs:List RR}{args:List AV}{m:Ql}{R:AV→Ql→Prop}(h:CK P k N rc rs)(ha:args.length≤N)(w:QJ P rc (St.enter args m) (X7 rs m.length R)):Wr P k args m R:=by
 obtain⟨fn,c,h1,h2,h3,h4,h5,h6⟩:=h;exact Gn h1 h2 h3 h4 h5 h6 ha w
theorem CK.rl {P:Program}{k N:Nat}{rc:RC}{rs:List RR}{args:List AV}{R:AV→Prop}(h:CK P k N rc rs)(ha:args.length≤N)(w:QJ P rc (St.enter args []) (X7 rs 0 fun x _=>R x)):K2 P k args R:=h.go ha w
theorem CK.fn {P:Program}{k N:Nat}{rc:RC}{rs:List RR}{args:List AV}{v:AV}(h:CK P k N rc rs)(ha:args.length≤N)(w:QJ P rc (St.enter args []) (X7 rs 0 fun x _=>x=v)):Qp P k args v:=h.go ha w

section
variable {P:Program}{f:Fr}{m:Ql}{ds:List DF}{K:St→Prop}{Q:Exit→St→Prop}{Qe:List Item}{d:Nat}

def Kc (P:Program)(b:RC)(Q:Exit→St→Prop):Exit→St→Prop:=Ks (fun st'=>QJ P b st' Q) Q
def Kl (I:Nat→St→Prop)(n:Nat)(Q:Exit→St→Prop):Exit→St→Prop:=Ks (fun s=>∃k,k<n∧I k s) Q

theorem Ws {st:St}:QJ P .skip st Q=Q .normal st:=id rfl
theorem QCS {st:St}:QJ P .no st Q=False:=id rfl
theorem P7 {st:St}:QJ P .lab st Q=Q .normal st:=id rfl
theorem P8 {st:St}:QJ P .ret st Q=Q .ret st:=id rfl
theorem VR {st:St}{i:Nat}:QJ P (.exit i) st Q=Q (.exit i) st:=id rfl
theorem WP {st:St}:QJ P (.reg Qe) st Q=QD P Qe st (Q .normal):=id rfl
theorem VS {st:St}:QJ P (.draw Qe) st Q=QD P Qe st (Q .normal):=id rfl
theorem WQ {st:St}{a b:RC}:QJ P (.seq a b) st Q=QJ P a st (Kc P b Q):=id rfl
theorem BD {st:St}{i:Nat}{a:RC}:QJ P (.block i a) st Q=QJ P a st (Kb i Q):=id rfl
theorem BE {st:St}{a:RC}:QJ P (.scope a) st Q=QJ P a st (Kg Q):=id rfl
def Gp:AV→Bool
 |.bool b=>b
 |_=>false
def VT:AV→Prop
 |.bool _=>True
 |_=>False
theorem VU (b:Bool):Gp (.bool b)=b:=id rfl
theorem P9 (b:Bool):VT (.bool b)=True:=id rfl
def UD (P:Program)(v:AV)(a b:RC)(st:St)(Q:Exit→St→Prop):Prop:=VT v∧(Gp v=true→QJ P a st Q)∧(Gp v=false→QJ P b st Q)
theorem WR {a b:RC}{st:St}:UD P (.bool true) a b st Q=QJ P a st Q:=by simp[UD,VT,Gp]
theorem JS {a b:RC}{st:St}:UD P (.bool false) a b st Q=QJ P b st Q:=by simp[UD,VT,Gp]
theorem Xl {t:Bool}{a b:RC}{st:St}(h1:t=true→QJ P a st Q)(h2:t=false→QJ P b st Q):UD P (.bool t) a b st Q:=⟨trivial,h1,h2⟩
theorem J8 {c:RA}{a b:RC}:QJ P (.cond c a b) ⟨f,m,ds⟩ Q=UD P (c.ev f) a b ⟨f,m,ds⟩ Q:=by
 simp only[QJ,UD];generalize c.ev f=v;cases v<;>simp[Gp,VT]

theorem Zr {b:RC}{st:St}:Kc P b Q .normal st=QJ P b st Q:=id rfl
theorem VV {b:RC}{st:St}{i:Nat}:Kc P b Q (.exit i) st=Q (.exit i) st:=id rfl
theorem VW {b:RC}{st:St}:Kc P b Q .ret st=Q .ret st:=id rfl
theorem VX {st:St}{i:Nat}:Kb i Q .normal st=Q .normal st:=id rfl
theorem Hl {st:St}{i j:Nat}:Kb i Q (.exit j) st=if j=i then Q .normal st else Q (.exit j) st:=id rfl
theorem VY {st:St}{i:Nat}:Kb i Q .ret st=Q .ret st:=id rfl
theorem VZ {st:St}:Kg Q .normal st=Q .normal st:=id rfl
theorem V0 {st:St}{j:Nat}:Kg Q (.exit j) st=Q (.exit j) st:=id rfl
theorem V1 {st:St}:Kg Q .ret st=Q .ret st:=id rfl
theorem V2 {I:Nat→St→Prop}{n:Nat}{st:St}:Kl I n Q .normal st = ∃k,k<n∧I k st:=id rfl
theorem V3 {I:Nat→St→Prop}{n:Nat}{st:St}{j:Nat}:Kl I n Q (.exit j) st=Q (.exit j) st:=id rfl
theorem V4 {I:Nat→St→Prop}{n:Nat}{st:St}:Kl I n Q .ret st=Q .ret st:=id rfl

theorem Qf {a:RC}{st:St}(I:Nat→St→Prop)(n:Nat)(h0:I n st)(h:∀n st',I n st'→QJ P a st' (Kl I n Q)):QJ P (.loop a) st Q:=⟨I,n,h0,h⟩

theorem JB {st:St}:QD P [] st K=K st:=id rfl
def Xz (x:Option AV):AV:=x.getD .top
def Zf (x:Option AV):Prop:=x.isSome=true
theorem Zs (x:AV):Xz (some x)=x:=id rfl
theorem JC (x:AV):Zf (some x)=True:=by simp[Zf]
theorem JD {vo:VO}:QD P (⟨some d,.val vo,none⟩ :: Qe) ⟨f,m,ds⟩ K=(Zf (Qr f m vo)∧QD P Qe ⟨QI f d (Xz (Qr f m vo)),m,ds⟩ K):=by
 simp only[QD,XK,Yi,Qn];generalize Qr f m vo=v;cases v<;>simp[Xz,Zf]

def mget (x:Option Ql):Ql:=x.getD []
def BF (x:Option Ql):Prop:=x.isSome=true
theorem I0 (x:Ql):mget (some x)=x:=id rfl
theorem QtI (x:Ql):BF (some x)=True:=by simp[BF]
theorem Tk {n:Nat}{p r:RA}:QD P (⟨none,.store n p r,none⟩ :: Qe) ⟨f,m,ds⟩ K=((r.ev f).cells.length=n∧(r.ev f).cells.all AV.leaf=true∧BF (QU m (p.ev f) (r.ev f).cells)∧QD P Qe ⟨f,mget (QU m (p.ev f) (r.ev f).cells),ds⟩ K):=by
 simp only[QD,XK,Yi,Qn];generalize QU m (p.ev f) (r.ev f).cells=v;cases v<;>simp[mget,BF]
def MY (l s:Nat)(v:AV):Prop:=∃o,v=.ptr l s o
theorem I3 (l s o:Nat):MY l s (.ptr l s o)=True:=eq_true ⟨o,rfl⟩
theorem MZ {l s n:Nat}{p r:RA}:QD P (⟨none,.storev l s n p r,none⟩ :: Qe) ⟨f,m,ds⟩ K=(MY l s (p.ev f)∧(r.ev f).cells.length=n∧(r.ev f).cells.all AV.leaf=true∧BF (QU m (p.ev f) (r.ev f).cells)∧QD P Qe ⟨f,mget (QU m (p.ev f) (r.ev f).cells),ds⟩ K):=by
 simp only[QD,XK,Yi,Qn,MY];generalize QU m (p.ev f) (r.ev f).cells=v;cases v<;>simp[mget,BF]
theorem M0 {s:Nat}{z:List AV}:QD P (⟨some d,.allocN s z,none⟩ :: Qe) ⟨f,m,ds⟩ K=(Xw m s=true∧QD P Qe ⟨QI f d (.ptr 0 s 0),Am.put m 0 s (.cells z),ds⟩ K):=id rfl
theorem I4 {s:Nat}{r:RA}:QD P (⟨some d,.boxN s r,none⟩ :: Qe) ⟨f,m,ds⟩ K=(Xw m s=true∧(r.ev f).cells.all AV.leaf=true∧QD P Qe ⟨QI f d (.ptr 0 s 0),Am.put m 0 s (.cells (r.ev f).cells),ds⟩ K):=id rfl

theorem QtJ {sz len:Nat}{z:List AV}{ps:List (Nat×Nat×RA)}{y:List AV}(hy:fill f ps (XJ z sz len)=some y)(h1:AV.rfL y=true)(h2:y.all AV.leaf=true):QD P (⟨some d,.bsl sz len z ps,none⟩ :: Qe) ⟨f,m,ds⟩ K=QD P Qe ⟨QI f d (.list (XQ sz len (y.map nn0))),m,ds⟩ K:=by
 apply propext
 constructor
 ·rintro⟨y',h,_,_,k⟩;have h:fill f ps (XJ z sz len)=some y':=h;rw[hy]at h;cases h;exact k
 ·intro k;exact⟨y,hy,h1,h2,k⟩
theorem I5 {z:AV}{r:RA}{k:IntKind}{n:Int}(hr:r.ev f=.int k n):QD P (⟨some d,.bsl 1 1 [z] [(0,1,r)],none⟩ :: Qe) ⟨f,m,ds⟩ K=QD P Qe ⟨QI f d (.list [.int k n]),m,ds⟩ K:=by
 refine QtJ (y:=[.int k n]) ?_ rfl rfl;simp[fill,hr,AV.cells,AV.leaf,XJ,List.range_succ,splice]

theorem GV {z:AV}{r:RA}{k:IntKind}{n:Int}(hr:r.ev f=.int k n)(h:QD P Qe ⟨QI f d (.list [.int k n]),m,ds⟩ K):QD P (⟨some d,.bsl 1 1 [z] [(0,1,r)],none⟩ :: Qe) ⟨f,m,ds⟩ K:=by
 rw[I5 hr];exact h

theorem Wr.mono {k:FuncId}{args:List AV}{m:Ql}{R R':AV→Ql→Prop}(h:Wr P k args m R)(hr:∀x m',R x m'→R' x m'):Wr P k args m R' :=
 ⟨h.1,fun G w vs h1 h2 u c cs hu=>by
  obtain⟨e,u',w',fr,⟨h3,G',x,v,m',h4,h5,h6⟩,h7⟩:=h.2 G w vs h1 h2 u c cs hu;exact⟨e,u',w',fr,⟨h3,G',x,v,m',h4,hr _ _ h5,h6⟩,h7⟩⟩

theorem X4 {slot site sz:Nat}{a:RC}{fr:Nat→Ob}(h1:f slot=.nils)(h2:fr site=.none)(h:QJ P a ⟨QI f slot (.vec 0 site 1 0 0 false),QI fr site (.vec 1 sz []) :: m,ds⟩ Q):QJ P (.gho (.vec slot site sz) a) ⟨f,fr :: m,ds⟩ Q:=by
 refine⟨_,?_,h⟩;have e:Qg (fr :: m) 0 site=.none:=h2;simp[ZL,h1,e,Qv,QB,Am.put]

theorem Yu {fr:Nat→Ob}{site g sz n:Nat}{q:Bool}{xs:List AV}(hl:fr site=.vec g sz xs)(hn:n=xs.length):Q8 (fr :: m) (.vec 0 site g 0 n q)=some xs:=by
 subst hn;simp[Q8,Am.Qg,hl]

theorem QR {sz bytes el:Nat}{s r:RA}{site g n:Nat}{fr:Nat→Ob}{xs ys:List AV}(hs:s.ev f=.vec 0 site g 0 n false)(hl:fr site=.vec g sz xs)(ht:XF site el=true)(hn:n=xs.length)(hr:r.ev f=.list ys)(hz:ys.all (fun e=>e.cells.length==sz)=true)(hm:n+ys.length≤maxLen)(hb:(n+ys.length)*bytes≤140737488355328)
  (h:QD P Qe ⟨QI f d (.vec 0 site (g+1) 0 (n+ys.length) false),QI fr site (.vec (g+1) sz (xs++ys)) :: m,ds⟩ K):QD P (⟨some d,.app sz bytes el s r,none⟩ :: Qe) ⟨f,fr :: m,ds⟩ K:=by
 refine⟨0,site,g,n,xs,ys,hs,hl,ht,by omega,?_,hz,hm,hb,?_⟩
 ·show Q8 (fr :: m) (r.ev f)=some ys;rw[hr];rfl
 ·subst hn;rw[QNB];exact h

theorem Qb {k:Nat}{args:List RA}{ys:List AV}{v:AV}(hk:Qp P k ys v)(hy:AV.stillL false m (args.map (RA.ev f))=some ys)(h1:AV.rfL ys=true)(h2:v.rf=true)(h3:AV.rfL (args.map (RA.ev f))=true∨v.nl=true)(h:QD P Qe ⟨QI f d v,m,ds⟩ K) :
  QD P (⟨some d,.call (.f k) args,none⟩ :: Qe) ⟨f,m,ds⟩ K:=by
 refine⟨k,[],[],ys,v,rfl,?_,h1,hk,h2,?_,h⟩
 ·simpa using hy
 ·simpa using h3

theorem BG {cnt:Bool}{k:Nat}{s c:RA}{t:List UInt8}{b:Int}(hs:s.ev f=.str t)(hb:c.ev f=.int .u8 b)(h:QD P Qe ⟨QI f d (.int .i64 (He cnt t b)),m,ds⟩ K):QD P (⟨some d,.xb cnt k s c,none⟩ :: Qe) ⟨f,m,ds⟩ K :=
 ⟨t,b,hs,hb,h⟩

theorem Zg {k:Nat}{args:List RA}{ys:List AV}{R:AV→Prop}(hk:K2 P k ys R)(hy:AV.stillL false m (args.map (RA.ev f))=some ys)(h1:AV.rfL ys=true)(h2:∀v,R v→v.rf=true∧(AV.rfL (args.map (RA.ev f))=true∨v.nl=true))(h:∀v,R v→QD P Qe ⟨QI f d v,m,ds⟩ K) :
  QD P (⟨some d,.callR (.f k) args,none⟩ :: Qe) ⟨f,m,ds⟩ K:=by
 refine⟨k,[],[],ys,R,rfl,?_,h1,hk,?_,h⟩
 ·simpa using hy
 ·simpa using h2

theorem GW {s:Nat}{r:RA}{fr:Nat→Ob}{t:List UInt8}(ht:r.ev f=.str t)(hn:fr s=.none)(h:QD P Qe ⟨QI f d (.ptr 0 s 0),QI fr s (.iter (.str t) 0) :: m,ds⟩ K) :
  QD P (⟨some d,.rngs s r,none⟩ :: Qe) ⟨f,fr :: m,ds⟩ K:=by
 refine⟨t,ht,?_,h⟩;show(match fr s with|.none=>true|_=>false)=true;rw[hn]

theorem GX {s p:Nat}{r:RA}{fr:Nat→Ob}{t:List UInt8}(hr:r.ev f=.ptr 0 s 0)(hl:fr s=.iter (.str t) p)
  (h1:p<t.length→QD P Qe ⟨QI f d (.tup [.bool true,.int .i64 (p:Nat),.int .i32 ((Xc t p).1:Nat)]),QI fr s (.iter (.str t) (p+(Xc t p).2)) :: m,ds⟩ K)
  (h2:t.length≤p→QD P Qe ⟨QI f d (.tup [.bool false]),fr :: m,ds⟩ K) :
  QD P (⟨some d,.nxts r,none⟩ :: Qe) ⟨f,fr :: m,ds⟩ K :=
 ⟨0,s,t,p,hr,hl,h1,h2⟩

theorem Qi {k:Nat}{args:List RA}{ys:List AV}{v:AV}{m':Ql}(hk:Qh P k ys m fun x m1=>x=v∧m1=m')(hy:args.map (RA.ev f)=ys)(h:QD P Qe ⟨QI f d v,m',ds⟩ K) :
  QD P (⟨some d,.callF (.f k) args,none⟩ :: Qe) ⟨f,m,ds⟩ K:=by
 refine⟨k,[],[],v,m',rfl,?_,h⟩;show Qh P k (args.map (RA.ev f)++[]) m fun x m1=>x=v∧m1=m'
 rw[QM7,hy];exact hk

theorem YX {site el sz bytes:Nat}{z:List AV}{l c:RA}{kl kc:IntKind}{n k:Nat}{fr:Nat→Ob}(hl:l.ev f=.int kl (n:Int))(hc:c.ev f=.int kc (k:Int))(hnk:n≤k)(hk:k≤9223372036854775807)(hb:bytes*k≤281474976710656)(hs:fr site=.none)
  (h:QD P Qe ⟨QI f d (.vec 0 site 1 0 n false),QI fr site (.vec 1 sz (List.replicate n (Jo sz z))) :: m,ds⟩ K):QD P (⟨some d,.mk site el sz bytes z l c,none⟩ :: Qe) ⟨f,fr :: m,ds⟩ K:=by
 have e:Qg (fr :: m) 0 site=.none:=hs;refine⟨kl,kc,n,k,hl,hc,hnk,hk,hb,?_,?_⟩
 ·show Qv (Qg (fr :: m) 0 site)=true;rw[e];rfl
 ·have hg:QB (fr :: m) 0 site=1:=by unfold QB;rw[e]
  simp only[hg];exact h

theorem Yv {el:Nat}{s r:RA}{l site g n:Nat}{xs:List AV}{t:List UInt8}(hs:s.ev f=.vec l site g 0 n false)(hl:Qg m l site=.vec g 1 xs)(ht:XF site el=true)(hn:n=xs.length)(hr:r.ev f=.str t)(hm:n+t.length≤140737488355328)
  (h:QD P Qe ⟨QI f d (.vec l site (g+1) 0 (n+t.length) false),Am.put m l site (.vec (g+1) 1 (xs++Qy t)),ds⟩ K):QD P (⟨some d,.appS el s r,none⟩ :: Qe) ⟨f,m,ds⟩ K:=by
 subst hn;refine⟨l,site,g,_,xs,t,hs,hl,ht,QL3 _,hr,hm,?_⟩;rw[QNB];exact h

theorem V5 {s:Nat}{a:RC}{fr:Nat→Ob}:QJ P (.gho (.drop s) a) ⟨f,fr :: m,ds⟩ Q=((fr s).isRow=false∧QJ P a ⟨fun i=>(f i).scrub s,QI (fun i=>(fr i).scrub s) s .none :: m,ds.map (DF.scrub s)⟩ Q):=by
 apply propext
 have hn:WJ (fr :: m) s=!(fr s).isRow:=by
  unfold WJ;show(match fr s with|.vec .. => false|_=>true)=_;cases fr s<;>rfl
 constructor
 ·rintro⟨st',h1,h2⟩;simp only[ZL,hn]at h1;cases hr:(fr s).isRow with
  |true=>rw[hr]at h1;cases h1
  |false=>rw[hr]at h1;cases h1;exact⟨rfl,h2⟩
 ·rintro⟨h1,h2⟩;refine⟨_,?_,h2⟩;simp only[ZL,hn,h1];rfl
theorem V6 (s:Nat):AV.top.scrub s=.top:=id rfl
theorem V7 (s:Nat)(k:IntKind)(n:Int):(AV.int k n).scrub s=.int k n:=id rfl
theorem NE (s:Nat)(b:Bool):(AV.bool b).scrub s=.bool b:=id rfl
theorem V8 (s:Nat)(b:List UInt8):(AV.str b).scrub s=.str b:=id rfl
theorem NF (s:Nat):AV.nils.scrub s=.nils:=id rfl
theorem NG (s:Nat):AV.nilp.scrub s=.nilp:=id rfl
theorem NH (s:Nat):AV.nili.scrub s=.nili:=id rfl
theorem NI (s:Nat):AV.nilf.scrub s=.nilf:=id rfl
theorem NJ (s:Nat)(l:List AV):(AV.list l).scrub s=.list l:=id rfl
theorem V9 (s l t g o n:Nat)(q:Bool):(AV.vec l t g o n q).scrub s=.vec l t g o n q:=id rfl
theorem Ca (s:Nat)(l:List AV):(AV.agg l).scrub s=.agg (AV.scrubL s l):=id rfl
theorem Cb (s:Nat)(l:List AV):(AV.tup l).scrub s=.tup (AV.scrubL s l):=id rfl
theorem Cc (s t o:Nat):(AV.ptr 0 t o).scrub s=bif Nat.beq t s then .top else .ptr 0 t o:=id rfl
theorem NK (s l t o:Nat):(AV.ptr (l+1) t o).scrub s=.ptr (l+1) t o:=id rfl
theorem Cd (s:Nat):AV.scrubL s []=[]:=id rfl
theorem NL (s:Nat)(x:AV)(l:List AV):AV.scrubL s (x :: l)=x.scrub s :: AV.scrubL s l:=id rfl
theorem Bp (s:Nat)(l:List AV):(Ob.cells l).scrub s=.cells (AV.scrubL s l):=id rfl
theorem Ce (s g z:Nat)(l:List AV):(Ob.vec g z l).scrub s=.vec g z l:=id rfl
theorem NM (s:Nat):Ob.none.scrub s=.none:=id rfl
theorem Uj (s:Nat)(o:Ob):(o.scrub s).isRow=o.isRow:=by cases o<;>rfl
theorem Bq (l:List AV):(Ob.cells l).isRow=false:=id rfl
theorem NN:Ob.none.isRow=false:=id rfl

def Zt (P:Program)(v:AV)(w:Bool)(d:Option Nat)(ro:RO)(Qe:List Item)(st:St)(K:St→Prop):Prop :=
 match v with
 |.bool b=>(b=w→QD P (⟨d,ro,none⟩ :: Qe) st K)∧(b=(!w)→QD P Qe { st with f:=Qn st.f d (.tup []) } K)
 |.tup l=>l=[]∧QD P Qe { st with f:=Qn st.f d (.tup []) } K
 |_=>False
theorem XV {b:Bool}{d:Option Nat}{ro:RO}{st:St}(h1:b=true→QD P (⟨d,ro,none⟩ :: Qe) st K)(h2:b=false→QD P Qe { st with f:=Qn st.f d (.tup []) } K):Zt P (.bool b) true d ro Qe st K:=⟨h1,h2⟩
theorem XW {b:Bool}{d:Option Nat}{ro:RO}{st:St}(h1:b=false→QD P (⟨d,ro,none⟩ :: Qe) st K)(h2:b=true→QD P Qe { st with f:=Qn st.f d (.tup []) } K):Zt P (.bool b) false d ro Qe st K:=⟨h1,h2⟩
theorem JT {d:Option Nat}{ro:RO}{st:St}:Zt P (.bool true) true d ro Qe st K=QD P (⟨d,ro,none⟩ :: Qe) st K:=by simp[Zt]
theorem DS {d:Option Nat}{ro:RO}{st:St}:Zt P (.bool false) false d ro Qe st K=QD P (⟨d,ro,none⟩ :: Qe) st K:=by simp[Zt]
theorem GY {ro:RO}:Zt P (.bool true) false (some d) ro Qe ⟨f,m,ds⟩ K=QD P Qe ⟨QI f d (.tup []),m,ds⟩ K:=by simp[Zt,Qn]
theorem K5 {ro:RO}:Zt P (.bool false) true (some d) ro Qe ⟨f,m,ds⟩ K=QD P Qe ⟨QI f d (.tup []),m,ds⟩ K:=by simp[Zt,Qn]
theorem DT {ro:RO}{w:Bool}:Zt P (.tup []) w (some d) ro Qe ⟨f,m,ds⟩ K=QD P Qe ⟨QI f d (.tup []),m,ds⟩ K:=by simp[Zt,Qn]
theorem Hm {ro:RO}{st:St}:Zt P (.bool true) false none ro Qe st K=QD P Qe st K:=by simp[Zt,Qn]
theorem Hn {ro:RO}{st:St}:Zt P (.bool false) true none ro Qe st K=QD P Qe st K:=by simp[Zt,Qn]
theorem GZ {ro:RO}{w:Bool}{st:St}:Zt P (.tup []) w none ro Qe st K=QD P Qe st K:=by simp[Zt,Qn]
theorem Uk {ro:RO}{j:Nat}{w:Bool}{d:Option Nat}:QD P (⟨d,ro,some (j,w)⟩ :: Qe) ⟨f,m,ds⟩ K=Zt P (f j) w d ro Qe ⟨f,m,ds⟩ K:=by
 simp only[QD,XK,Zt]
 all_goals(generalize f j=v;cases v<;>rfl)

theorem DU {rs:List RR}{n:Nat}{R:AV→Ql→Prop}{fr:Nat→Ob}:X7 rs n R .ret ⟨f,fr :: m,ds⟩=(ds=[]∧Zf (JP ⟨f,fr :: m,ds⟩ rs)∧Zf (Kv (fr :: m) (Xz (JP ⟨f,fr :: m,ds⟩ rs)))∧m.length=n∧R (Xz (Kv (fr :: m) (Xz (JP ⟨f,fr :: m,ds⟩ rs)))) m):=by
 apply propext
 constructor
 ·rintro⟨_,h1,x,y,fr',m',h2,h3,h4,h5,h6⟩;cases h4;have h1:ds=[]:=h1;rw[h2,Zs,h3];exact⟨h1,rfl,rfl,h5,h6⟩
 ·rintro⟨h1,h2,h3,h4,h5⟩;generalize hv:JP ⟨f,fr :: m,ds⟩ rs=v at h2 h3 h5;cases v with
  |none=>cases h2
  |some x=>
   rw[Zs]at h3 h5;cases hl:Kv (fr :: m) x with
   |none=>rw[hl]at h3;cases h3
   |some y=>
    rw[hl]at h5;exact⟨.inr rfl,h1,x,y,fr,m,hv,hl,rfl,h4,h5⟩
theorem DV {rs:List RR}{n:Nat}{R:AV→Ql→Prop}{st:St}:X7 rs n R .normal st=X7 rs n R .ret st:=by
 simp[X7]

theorem JE {α:Type}(f:Nat→α)(d:Nat)(x:α)(i:Nat):QI f d x i=bif Nat.beq i d then x else f i:=id rfl
theorem ZU (a b:Nat):Nat.beq a b=(a==b):=by
 cases h:Nat.beq a b with
 |true=>rw[QL1 h];simp
 |false=>have:=Nat.ne_of_beq_eq_false h;simp[this]
theorem WS {s idx site sz:Nat}{a:RC}{fr:Nat→Ob}{xs:List AV}(h1:fr s=.cells xs)(h2:xs[idx]? = some .nils)(h3:fr site=.none)(hne:Nat.beq site s=false)(h:QJ P a ⟨f,QI (QI fr site (.vec 1 sz [])) s (.cells (xs.set idx (.vec 0 site 1 0 0 false))) :: m,ds⟩ Q):QJ P (.gho (.vecc s idx site sz) a) ⟨f,fr :: m,ds⟩ Q:=by
 refine⟨_,?_,h⟩;have e1:Qg (fr :: m) 0 s=.cells xs:=h1;have e:Qg (fr :: m) 0 site=.none:=h3;simp[ZL,e1,h2,e,Qv,QB,Am.put,hne]
theorem Gq {α:Type}(f:Nat→α)(d:Nat)(x y:α):QI (QI f d x) d y=QI f d y:=by
 funext i;by_cases h:i=d
 ·subst h;rw[QP,QP]
 ·rw[QO _ _ h,QO _ _ h,QO _ _ h]
theorem DW {α:Type}(f:Nat→α)(d e:Nat)(x y:α)(hde:d≠e):QI (QI f d x) e y=QI (QI f e y) d x:=by
 funext i;by_cases h:i=d
 ·subst h;rw[QP,QO _ _ hde,QP]
 ·by_cases h2:i=e
  ·subst h2;rw[QP,QO _ _ h,QP]
  ·rw[QO _ _ h2,QO _ _ h,QO _ _ h,QO _ _ h2]
theorem Tl {α:Type}(f:Nat→α)(d:Nat)(x:α)(h:f d=x):QI f d x=f:=by
 funext i;by_cases hi:i=d
 ·subst hi;rw[QP,h]
 ·rw[QO _ _ hi]
theorem Yw (n:Nat):(RA.t n).ev f=f n:=id rfl
theorem G0 (x:AV):(RA.c x).ev f=x:=id rfl
theorem e_f (k:Nat):(RA.f k).ev f=.fn (.func k) [] []:=id rfl

end

end Go.Proofs.YtipjfckmopekaaaGreatDoor.Am

namespace Go.Proofs.YtipjfckmopekaaaGreatDoor.Br
open Go Am Go.RowKit Go.WideShapes Go.ChangeShapes Go.ChangeAt

theorem DX {P:Program}{k:FuncId}{args:List AV}{v:Bool}(h:Qp P k args (.bool v)){stab:Nat→Nat→Option SV}{w:World}(hs:∀b o u,stab b o=some u→rd w b o u){vs:List Value}(hr:RepL (Gh.bare stab) args vs) :
  Calls P k ⟨vs⟩ w fun e w'=>e=.returned (.bool v)∧Below w.heap.size w w' :=
 (h.2 (Gh.bare stab) w vs hr (MR.bare hs)).mono fun e w' ⟨G',x,u,m',he,hx,hu,_,hex,_⟩=>by
  subst hx;cases hu;exact⟨he,hex.os,hex.tape,hex.output,hex.size,fun b hb=>(hex.old b hb Gh.bare_mine).1⟩

theorem Tm {G:Gh}(s:ByteArray):Rep G (.str s.data.toList) (.string s):=by
 obtain⟨⟨l⟩⟩:=s;exact .str l

theorem DY {n:Int}(h:(Lit.int .u64 n).wf=true):0≤n:=by
 simp[Lit.wf,IntKind.min,IntKind.max,IntKind.bits,IntKind.signed]at h;omega
theorem DZ {n:Int}(h:(Lit.int .u64 n).wf=true):n<18446744073709551616:=by
 simp[Lit.wf,IntKind.min,IntKind.max,IntKind.bits,IntKind.signed]at h;omega

section
variable {H:Type}{XI:TypeId×Value→H}{P:Program}
theorem Dk {f:Func}{s:ChangeSpec}{YV fresh handsOn again:Bool}{W W':World}{args:Array Value}{v:Value}{ds gs:List (DataW H)}{before pa pv:List MemPlace}
  (hW:DataW.Whole XI P f.params.toList s.vars YV W args.toList ds gs before)
  (hres:∀(b:Nat) (sp:Nat→Bool) (hd:Bool),DataW.TrodAll XI P W' b sp hd f.resultTypes.toList (v.resultList f.resultTypes.size) (s.fn H (ds++gs)).results [])
  (hargs:∀sp:Nat→Bool,(∀p∈before,sp p.block=true)→DataW.TrodAll XI P W' 0 sp true f.params.toList args.toList (s.fn H (ds++gs)).args pa)
  (hvars:∀sp:Nat→Bool,(∀p∈before,sp p.block=true)→DataW.TrodVars XI P W' sp s.vars (s.fn H (ds++gs)).vars pv)
  (hps:before=pa++pv) (hb:Below W.heap.size W W')
  (hok:∀(j:Nat) (t:TypeId) (r:Value),f.resultTypes[j]? = some t→(v.resultList f.resultTypes.size)[j]? = some r→Value.okWide P W' .any 0 t r) :
  s.post XI P f YV fresh handsOn again W args v W':=by
 have hlt:∀p∈before,p.block<W.heap.size:=fun p hp=>hW.lt p hp
 have hold:∀p∈before,(fun b=>decide (b<W.heap.size)) p.block=true:=fun p hp=>by simpa using hlt p hp
 refine⟨ds,gs,before,[],pa,pv,hW,hres _ _ _,hargs _ hold,hvars _ hold,World.keptBut_mono (fun p hp=>⟨hp,?_⟩) (hb.frame (·∈before)),fun _=>?_⟩
 ·rw[hps,QNk]at hp;exact Or.inr hp
 ·obtain⟨_,_,_,_,_,hz,hn⟩:=hW;refine⟨hok,_,_,([]++pa)++pv,⟨[]++pa,pv,trodAll_append (hargs _ (fun _ _=>rfl)) (hres _ _ _),hvars _ (fun _ _=>rfl),rfl,?_,?_⟩,?_⟩
  ·intro b off hp;have hin:MemPlace.cell b off∈before:=by rw[hps];simpa using hp
   rw[hb.frozen (hlt _ hin)];exact hz b off hin
  ·intro ha;have:=hn ha;rw[hps]at this
   simpa using this
  ·intro p hp _;rw[hps]
   simpa using hp
end

end Go.Proofs.YtipjfckmopekaaaGreatDoor.Br

namespace Go.Proofs.YtipjfckmopekaaaGreatDoor.Am
open Go

variable {P:Program}{f:Fr}{m:Ql}{ds:List DF}{Qe:List Item}{d:Nat}

def Dn:List Nat→RC→RC
 | [],a=>a
 |s :: l,a=>.gho (.drop s) (Dn l a)
def NO:List Nat→AV→AV
 | [],x=>x
 |s :: l,x=>NO l (x.scrub s)
def Ho:List Nat→Ob→Ob
 | [],x=>x
 |s :: l,x=>Ho l (x.scrub s)

theorem NP (l:List Nat):Ho l .none=.none:=by
 induction l with
 |nil=>rfl
 |cons s l ih=>exact ih

theorem QM {Q:Exit→St→Prop}{a:RC}(l:List Nat):∀ {f:Fr} {fr:Nat→Ob},(∀s∈l,(fr s).isRow=false)→
  (∀f' fr',(∀i,f' i=NO l (f i))→(∀i,i∉l→fr' i=Ho l (fr i))→(∀i∈l,fr' i=.none)→QJ P a ⟨f',fr' :: m,[]⟩ Q)→QJ P (Dn l a) ⟨f,fr :: m,[]⟩ Q:=by
 induction l with
 |nil=>intro f fr _ h;exact h f fr (fun _=>rfl) (fun _ _=>rfl) (fun _ h=>by cases h)
 |cons s l ih=>
  intro f fr hr h;show QJ P (.gho (.drop s) (Dn l a)) _ _;rw[V5];refine⟨hr s (by simp),?_⟩;show QJ P (Dn l a) ⟨_,_ :: m,[]⟩ Q;refine ih ?_ ?_
  ·intro t ht;by_cases e:t=s
   ·subst e;rw[QP];rfl
   ·rw[QO _ _ e,Uj];exact hr t (by simp[ht])
  ·intro f' fr' h1 h2 h3;refine h f' fr' h1 ?_ ?_
   ·intro i hi;rw[h2 i (fun h=>hi (QMl _ h)),QO _ _ (fun e=>hi (by rw[e];exact QMn))];rfl
   ·intro i hi;by_cases hl:i∈l
    ·exact h3 i hl
    ·have e:i=s:=by
      rcases QNo.1 hi with e|e
      ·exact e
      ·exact absurd e hl
     rw[h2 i hl,e,QP,NP]

def Xp:Ob→Nat
 |.vec g _ _=>g+1
 |_=>1

theorem ZV {fr:Nat→Ob}{s:Nat}:QB (fr :: m) 0 s=Xp (fr s):=by
 unfold QB Xp;rfl

theorem ZA {K:St→Prop}{neg:Bool}{r:RA}{ys:List AV}(hr:r.ev f=.list ys)(h0:QD P Qe ⟨QI f d (.bool neg),m,ds⟩ K)(h1:ys=[]∨QK ys=[]→QD P Qe ⟨QI f d (.bool (!neg)),m,ds⟩ K):QD P (⟨some d,.isnil neg r,none⟩ :: Qe) ⟨f,m,ds⟩ K:=by
 refine⟨ys,?_,fun _=>h0,fun e=>h1 ?_⟩
 ·show Q8 m (r.ev f)=some ys;rw[hr];rfl
 ·rcases e with e|e
  ·have e:r.ev f=.nils:=e;rw[hr]at e;cases e
  ·exact .inr e

theorem ZW {K:St→Prop}{site sz:Nat}{fr:Nat→Ob}(hs:Qv (fr site)=true)
  (h:QD P Qe ⟨QI f d (.vec 0 site (Xp (fr site)) 0 0 false),QI fr site (.vec (Xp (fr site)) sz []) :: m,ds⟩ K):QD P (⟨some d,.bsl0 site sz,none⟩ :: Qe) ⟨f,fr :: m,ds⟩ K :=
 ⟨hs,h⟩

theorem Cf {K:St→Prop}{site sz len:Nat}{z:List AV}{ps:List (Nat×Nat×RA)}{fr:Nat→Ob}{y:List AV}(hy:fill f ps (XJ z sz len)=some y)(h1:AV.rfL y=true)(h2:y.all AV.leaf=true)(hs:Qv (fr site)=true)
  (h:QD P Qe ⟨QI f d (.vec 0 site (Xp (fr site)) 0 len false),QI fr site (.vec (Xp (fr site)) sz (XQ sz len (y.map nn0))) :: m,ds⟩ K):QD P (⟨some d,.bslv site sz len z ps,none⟩ :: Qe) ⟨f,fr :: m,ds⟩ K :=
 ⟨y,hy,h1,h2,hs,h⟩

theorem XA {Q:Exit→St→Prop}{a:RC}{slot site l S g sz o n:Nat}{q:Bool}{fr:Nat→Ob}{xs:List AV}(h1:f slot=.vec 0 site g o n q)(h2:fr site=.vec g sz xs)(hl:l<m.length)(hS:S<2000)(hr:Qv (Qg m l S)=true)
  (h:QJ P a ⟨QI f slot (.vec (l+1) S (QB m l S) o n q),QI fr site (.vec (g+1) sz []) :: Am.put m l S (.vec (QB m l S) sz xs),ds⟩ Q):QJ P (.gho (.give slot site (l+1) S) a) ⟨f,fr :: m,ds⟩ Q:=by
 refine⟨_,?_,h⟩;have e:Qg (fr :: m) 0 site=.vec g sz xs:=h2;have e1:Qv (Qg (fr :: m) (l+1) S)=true:=hr;have e2:QB (fr :: m) (l+1) S=QB m l S:=rfl;simp only[ZL,h1,e,e1,e2];rw[show Nat.beq site site=true from Nat.beq_refl site,show Nat.beq g g=true from Nat.beq_refl g,show Nat.blt (l+1) (fr :: m).length=true from Nat.ble_eq_true_of_le (by simp;omega),show Nat.blt S 2000=true from Nat.ble_eq_true_of_le hS];rfl

theorem Q6 {K:St→Prop}{k:Nat}{r:RA}{args:List RA}{fa fb ys:List AV}{v:AV}{m':Ql}(hr:r.ev f=.fn (.func k) fa fb)(hk:Qh P k ys m fun x m1=>x=v∧m1=m')(hy:fa++args.map (RA.ev f)++fb=ys)(h:QD P Qe ⟨QI f d v,m',ds⟩ K) :
  QD P (⟨some d,.callF r args,none⟩ :: Qe) ⟨f,m,ds⟩ K:=by
 refine⟨k,fa,fb,v,m',hr,?_,h⟩;show Qh P k (fa++args.map (RA.ev f)++fb) m fun x m1=>x=v∧m1=m'
 rw[hy];exact hk

theorem JF {K:St→Prop}{k:Nat}{r:RA}{args:List RA}{fa fb ys:List AV}{v:AV}(hr:r.ev f=.fn (.func k) fa fb)(hk:Qp P k ys v)(hy:AV.stillL false m (fa++args.map (RA.ev f)++fb)=some ys)(h1:AV.rfL ys=true)(h2:v.rf=true)
  (h3:AV.rfL (fa++args.map (RA.ev f)++fb)=true∨v.nl=true) (h:QD P Qe ⟨QI f d v,m,ds⟩ K):QD P (⟨some d,.call r args,none⟩ :: Qe) ⟨f,m,ds⟩ K :=
 ⟨k,fa,fb,ys,v,hr,hy,h1,hk,h2,h3,h⟩

end Go.Proofs.YtipjfckmopekaaaGreatDoor.Am

namespace Go.Proofs.YtipjfckmopekaaaGreatDoor.Am
open Go

abbrev D0:=FuncId→Option (RC×List RR×Nat)

def Hp (P:Program)(T:D0):Prop :=
 ∀k c rs N, T k=some (c, rs, N)→∃fn body, P.funcs[k]? = some fn∧fn.body=some body∧(fn.name == "runtime.NumGoroutine")=false∧fn.ntmps=N∧XR P N c body=true∧Jd P fn.results.toList rs=true

abbrev Kk:=FuncId→List AV→Ql→Option (AV×Ql)

def Hq:Ob→Ob→Bool
 |.cells [.vec l s g o n q],.cells [.vec l' s' g' o' n' q']=>Nat.beq l l'&&Nat.beq s s'&&Nat.beq g g'&&Nat.beq o o'&&Nat.beq n n'&&q==q'
 |_,_=>false
theorem Cg:∀ {a b:Ob},Hq a b=true→a=b:=by
 intro a b h;unfold Hq at h;split at h
 ·simp only[QMt,QMb]at h;obtain⟨⟨⟨⟨⟨h1,h2⟩,h3⟩,h4⟩,h5⟩,h6⟩:=h;rw[QL1 h1,QL1 h2,QL1 h3,QL1 h4,QL1 h5,h6]
 ·cases h

def Xq (call:Kk)(d:Option Nat)(op:RO)(st:St):Option St :=
 match op with
 |.val vo=>match Qr st.f st.m vo with
  |some x=>some { st with f:=Qn st.f d x }
  |none=>none
 |.allocN s z=>bif Xw st.m s then some { st with m:=Am.put st.m 0 s (.cells z),f:=Qn st.f d (.ptr 0 s 0) } else none
 |.boxN s r=>bif Xw st.m s&&(r.ev st.f).cells.all AV.leaf then some { st with m:=Am.put st.m 0 s (.cells (r.ev st.f).cells),f:=Qn st.f d (.ptr 0 s 0) } else none
 |.store n p r=>bif Nat.beq (r.ev st.f).cells.length n&&(r.ev st.f).cells.all AV.leaf then match QU st.m (p.ev st.f) (r.ev st.f).cells with
   |some m'=>some { st with m:=m',f:=Qn st.f d (.tup []) }
   |none=>none
  else none
 |.storev l s n p r=>match p.ev st.f with
  |.ptr l' s' _=>bif Nat.beq l' l&&Nat.beq s' s&&Nat.beq (r.ev st.f).cells.length n&&(r.ev st.f).cells.all AV.leaf then match QU st.m (p.ev st.f) (r.ev st.f).cells with
    |some m'=>some { st with m:=m',f:=Qn st.f d (.tup []) }
    |none=>none
   else none
  |_=>none
 |.app sz bytes el s r=>match s.ev st.f with
  |.vec l site g 0 n false=>match Qg st.m l site with
   |.vec g' sz' xs=>match Q8 st.m (r.ev st.f)with
    |some ys=>bif Nat.beq g' g&&Nat.beq sz' sz&&XF site el&&Nat.ble n xs.length&&ys.all (fun e=>e.cells.length==sz)&&Nat.ble (n+ys.length) maxLen&&Nat.ble ((n+ys.length)*bytes) 140737488355328 then
      some { st with m:=Am.put st.m l site (.vec (g+1) sz (xs.take n++ys)),f:=Qn st.f d (.vec l site (g+1) 0 (n+ys.length) false) }
     else none
    |none=>none
   |_=>none
  |_=>none
 |.call f args=>match f.ev st.f with
  |.fn (.func k) fa fb=>match AV.stillL false st.m (fa++args.map (RA.ev st.f)++fb)with
   |some ys=>bif AV.rfL ys then match call k ys []with
     |some (v,_)=>bif v.rf&&(AV.rfL (fa++args.map (RA.ev st.f)++fb)||v.nl)then some { st with f:=Qn st.f d v } else none
     |none=>none
    else none
   |none=>none
  |_=>none
 |.callF f args=>match f.ev st.f with
  |.fn (.func k) fa fb=>match call k (fa++args.map (RA.ev st.f)++fb) st.m with
   |some (v,m')=>some { st with m:=m',f:=Qn st.f d v }
   |none=>none
  |_=>none
 |.bsl sz len z ps=>match fill st.f ps (XJ z sz len)with
  |some y=>bif AV.rfL y&&y.all AV.leaf then some { st with f:=Qn st.f d (.list (XQ sz len (y.map nn0))) } else none
  |none=>none
 |.bslv site sz len z ps=>match fill st.f ps (XJ z sz len)with
  |some y=>bif AV.rfL y&&y.all AV.leaf&&Qv (Qg st.m 0 site)then some { st with m:=Am.put st.m 0 site (.vec (QB st.m 0 site) sz (XQ sz len (y.map nn0))),f:=Qn st.f d (.vec 0 site (QB st.m 0 site) 0 len false) } else none
  |none=>none
 |.bsl0 site sz=>bif Qv (Qg st.m 0 site)then some { st with m:=Am.put st.m 0 site (.vec (QB st.m 0 site) sz []),f:=Qn st.f d (.vec 0 site (QB st.m 0 site) 0 0 false) } else none
 |.isnil neg r=>match r.ev st.f with
  |.nils=>some { st with f:=Qn st.f d (.bool (!neg)) }
  |.list l=>match QK l with
   |_ :: _=>some { st with f:=Qn st.f d (.bool neg) }
   | []=>none
  |_=>none
 |.callK l s f args=>match f.ev st.f with
  |.fn (.func k) fa fb=>match call k (fa++args.map (RA.ev st.f)++fb) st.m with
   |some (v,m')=>bif Hq (Qg m' l s) (Qg st.m l s)then some { st with m:=m',f:=Qn st.f d v } else none
   |none=>none
  |_=>none
 |.xb cnt _ s c=>match s.ev st.f,c.ev st.f with
  |.str t,.int .u8 b=>some { st with f:=Qn st.f d (.int .i64 (He cnt t b)) }
  |_,_=>none
 |.callR f args=>match f.ev st.f with
  |.fn (.func k) fa fb=>match AV.stillL false st.m (fa++args.map (RA.ev st.f)++fb)with
   |some ys=>bif AV.rfL ys then match call k ys []with
     |some (v,_)=>bif v.rf&&(AV.rfL (fa++args.map (RA.ev st.f)++fb)||v.nl)then some { st with f:=Qn st.f d v } else none
     |none=>none
    else none
   |none=>none
  |_=>none
 |.rngs s r=>match r.ev st.f with
  |.str t=>bif Xw st.m s then some { st with m:=Am.put st.m 0 s (.iter (.str t) 0),f:=Qn st.f d (.ptr 0 s 0) } else none
  |_=>none
 |.nxts r=>match r.ev st.f with
  |.ptr l s 0=>match Qg st.m l s with
   |.iter (.str t) p=>bif Nat.blt p t.length then some { st with m:=Am.put st.m l s (.iter (.str t) (p+(Xc t p).2)),f:=Qn st.f d (.tup [.bool true,.int .i64 (p:Nat),.int .i32 ((Xc t p).1:Nat)]) } else some { st with f:=Qn st.f d (.tup [.bool false]) }
   |_=>none
  |_=>none
 |.mkm s=>bif Xw st.m s then some { st with m:=Am.put st.m 0 s (.iter (.mp [] []) 0),f:=Qn st.f d (.mptr 0 s) } else none
 |.mput x i v=>match x.ev st.f with
  |.mptr l s=>match Qg st.m l s with
   |.iter (.mp ks vs) p=>match i.ev st.f with
    |.str k=>bif (v.ev st.f).gr&&AV.grL vs&&Nat.beq ks.length vs.length then some { st with m:=Am.put st.m l s (.iter (.mp (XO k (v.ev st.f) ks vs).1 (XO k (v.ev st.f) ks vs).2) p),f:=Qn st.f d (.tup []) } else none
    |_=>none
   |_=>none
  |_=>none
 |.appS el s r=>match s.ev st.f,r.ev st.f with
  |.vec l site g 0 n false,.str t=>match Qg st.m l site with
   |.vec g' 1 xs=>bif Nat.beq g' g&&XF site el&&Nat.ble n xs.length&&Nat.ble (n+t.length) 140737488355328 then
     some { st with m:=Am.put st.m l site (.vec (g+1) 1 (xs.take n++Qy t)),f:=Qn st.f d (.vec l site (g+1) 0 (n+t.length) false) }
    else none
   |_=>none
  |_,_=>none
 |.mk site _ sz bytes z l c=>match l.ev st.f,c.ev st.f with
  |.int _ (.ofNat n),.int _ (.ofNat k)=>bif Nat.ble n k&&Nat.ble k 9223372036854775807&&Nat.ble (bytes*k) 281474976710656&&Qv (Qg st.m 0 site)then
    some { st with m:=Am.put st.m 0 site (.vec (QB st.m 0 site) sz (List.replicate n (Jo sz z))),f:=Qn st.f d (.vec 0 site (QB st.m 0 site) 0 n false) }
   else none
  |_,_=>none
 |.usd r=>match r.ev st.f with
  |.vec l s g 0 n false=>match Qg st.m l s with
   |.vec g' _ _=>bif Nat.beq g' g&&Nat.ble 2000 s then some { st with f:=Qn st.f d (if n=0 then .anyp else .vptr l s g 0 0) } else none
   |_=>none
  |_=>none
 |.ustr el p r=>match p.ev st.f,r.ev st.f with
  |.anyp,.int .i64 (.ofNat 0)=>some { st with f:=Qn st.f d (.str []) }
  |.vptr l s g 0 0,.int .i64 (.ofNat (n+1))=>match Qg st.m l s with
   |.vec g' 1 xs=>match bytesOf (xs.take (n+1))with
    |some t=>bif Nat.beq s (el+2000)&&Nat.beq g' g&&Nat.ble (n+1) xs.length&&isBytes (xs.take (n+1)) t then some { st with m:=Am.put st.m l (el+2000) (.vec (g+1) 1 []),f:=Qn st.f d (.str t) } else none
    |none=>none
   |_=>none
  |_,_=>none
where
  isBytes:List AV→List UInt8→Bool
  | [],[]=>true
  |.int .u8 (.ofNat n) :: l,b :: t=>Nat.beq n b.toNat&&isBytes l t
  |_,_=>false

def D1 (call:Kk)(it:Item)(st:St):Option St :=
 match it.g with
 |none=>Xq call it.dst it.op st
 |some (j,want)=>match st.f j with
  |.bool b=>bif b==want then Xq call it.dst it.op st else some { st with f:=Qn st.f it.dst (.tup []) }
  |.tup []=>some { st with f:=Qn st.f it.dst (.tup []) }
  |_=>none

def Hr (call:Kk):List Item→St→Option St
 | [],st=>some st
 |it :: Qe,st=>match D1 call it st with
  |some st'=>Hr call Qe st'
  |none=>none

def Hs (rs:List RR)(n:Nat)(r:Option (Exit×St)):Option (AV×Ql) :=
 match r with
 |some (.normal,st)=>fin st
 |some (.ret,st)=>fin st
 |_=>none
where
 fin (st:St):Option (AV×Ql):=match st.ds with
  | []=>match JP st rs with
   |some x=>match Kv st.m x with
    |some y=>match st.m with
     |_ :: m=>bif Nat.beq m.length n then some (y,m)else none
     | []=>none
    |none=>none
   |none=>none
  |_=>none

def Wt (nat:Kk)(T:D0)(body:RC→St→Option (Exit×St)):Kk:=fun k args m=>
 match nat k args m with
 |some r=>some r
 |none=>match T k with
  |some (c,rs,N)=>bif Nat.ble args.length N then Hs rs m.length (body c (St.enter args m))else none
  |none=>none

def ZM (nat:Kk)(T:D0):Nat→RC→St→Option (Exit×St)
 |0,_,_=>none
 |n+1,c,st=>match c with
  |.skip=>some (.normal,st)
  |.reg Qe=>match Hr (Wt nat T (ZM nat T n)) Qe st with
   |some st'=>some (.normal,st')
   |none=>none
  |.draw Qe=>match Hr (Wt nat T (ZM nat T n)) Qe st with
   |some st'=>some (.normal,st')
   |none=>none
  |.seq a b=>match ZM nat T n a st with
   |some (.normal,st')=>ZM nat T n b st'
   |r=>r
  |.cond c a b=>match c.ev st.f with
   |.bool t=>bif t then ZM nat T n a st else ZM nat T n b st
   |_=>none
  |.block id a=>match ZM nat T n a st with
   |some (.exit i,st')=>if i=id then some (.normal,st')else some (.exit i,st')
   |r=>r
  |.loop a=>match ZM nat T n a st with
   |some (.normal,st')=>ZM nat T n (.loop a) st'
   |r=>r
  |.exit id=>some (.exit id,st)
  |.scope a=>match ZM nat T n a st with
   |some (.goto _,_)=>none
   |r=>r
  |.lab=>some (.normal,st)
  |.ret=>some (.ret,st)
  |.gho g a=>match ZL g st with
   |some st'=>ZM nat T n a st'
   |none=>none
  |.no=>none

section
variable {P:Program}{T:D0}

def Kx (P:Program)(call:Kk):Prop:=∀k args m v m',call k args m=some (v,m')→Qh P k args m fun x m1=>x=v∧m1=m'

theorem Ht:∀ {l:List AV} {t:List UInt8},Xq.isBytes l t=true→l=Qy t
 | [],[],_=>rfl
 | [],_ :: _,h=>by simp[Xq.isBytes]at h
 |.int .u8 (.ofNat n) :: l,b :: t,h=>by
  simp only[Xq.isBytes,QMt]at h;rw[Ht h.2,QL1 h.1];rfl
 |x :: l,[],h=>by
  unfold Xq.isBytes at h;split at h<;>simp_all

theorem BH {call:Kk}(hc:Kx P call){d:Option Nat}{op:RO}{st st':St}(h:Xq call d op st=some st'){K:St→Prop}(hK:K st'):Yi P d op st K:=by
 cases op with
 |val vo=>
  simp only[Xq]at h;split at h
  ·rename_i x hx;cases h;exact⟨x,hx,hK⟩
  ·cases h
 |allocN s z=>
  simp only[Xq]at h;cases h1:Xw st.m s<;>rw[h1]at h<;>simp only[cond_true,cond_false,reduceCtorEq,QMu]at h;subst h;exact⟨h1,hK⟩
 |boxN s r=>
  simp only[Xq]at h;cases h1:(Xw st.m s&&(r.ev st.f).cells.all AV.leaf)<;>rw[h1]at h<;>simp only[cond_true,cond_false,reduceCtorEq,QMu]at h;rw[QMt]at h1;subst h;exact⟨h1.1,h1.2,hK⟩
 |store n p r=>
  simp only[Xq]at h;cases h1:(Nat.beq (r.ev st.f).cells.length n&&(r.ev st.f).cells.all AV.leaf)<;>rw[h1]at h<;>simp only[cond_true,cond_false,reduceCtorEq]at h;rw[QMt]at h1;split at h
  ·rename_i m' hm;cases h;exact⟨QL1 h1.1,h1.2,m',hm,hK⟩
  ·cases h
 |storev l s n p r=>
  simp only[Xq]at h;split at h
  ·rename_i l' s' o hp;cases h1:(Nat.beq l' l&&Nat.beq s' s&&Nat.beq (r.ev st.f).cells.length n&&(r.ev st.f).cells.all AV.leaf)<;>rw[h1]at h<;>simp only[cond_true,cond_false,reduceCtorEq]at h;simp only[QMt]at h1;obtain⟨⟨⟨a1,a2⟩,a3⟩,a4⟩:=h1;have e1:=QL1 a1;have e2:=QL1 a2;subst e1 e2;split at h
   ·rename_i m' hm;cases h;exact⟨⟨o,hp⟩,QL1 a3,a4,m',hm,hK⟩
   ·cases h
  ·cases h
 |app sz bytes el s r=>
  simp only[Xq]at h;split at h
  ·rename_i l site g n hs;split at h
   ·rename_i g' sz' xs hl;split at h
    ·rename_i ys hy;cases h1:(Nat.beq g' g&&Nat.beq sz' sz&&XF site el&&Nat.ble n xs.length&&ys.all (fun e=>e.cells.length==sz)&&Nat.ble (n+ys.length) maxLen&&Nat.ble ((n+ys.length)*bytes) 140737488355328)<;>rw[h1]at h<;>simp only[cond_true,cond_false,reduceCtorEq,QMu]at h;simp only[QMt]at h1;obtain⟨⟨⟨⟨⟨⟨a1,a2⟩,a3⟩,a4⟩,a5⟩,a6⟩,a7⟩:=h1;have e1:=QL1 a1;have e2:=QL1 a2;subst e1 e2 h;exact⟨l,site,_,n,xs,ys,hs,hl,a3,QNu a4,hy,a5,QNu a6,QNu a7,hK⟩
    ·cases h
   ·cases h
  ·cases h
 |call f args=>
  simp only[Xq]at h;split at h
  ·rename_i k fa fb hf;split at h
   ·rename_i ys hy;cases h1:AV.rfL ys<;>rw[h1]at h<;>simp only[cond_true,cond_false,reduceCtorEq]at h;split at h
    ·rename_i v m' hv;cases h2:(v.rf&&(AV.rfL (fa++args.map (RA.ev st.f)++fb)||v.nl))<;>rw[h2]at h<;>simp only[cond_true,cond_false,reduceCtorEq,QMu]at h;rw[QMt,QL9]at h2;subst h;exact⟨k,fa,fb,ys,v,hf,hy,h1,(hc _ _ _ _ _ hv).mono (fun _ _ e=>e.1),h2.1,h2.2,hK⟩
    ·cases h
   ·cases h
  ·cases h
 |callF f args=>
  simp only[Xq]at h;split at h
  ·rename_i k fa fb hf;split at h
   ·rename_i v m' hv;cases h;exact⟨k,fa,fb,v,m',hf,hc _ _ _ _ _ hv,hK⟩
   ·cases h
  ·cases h
 |bsl sz len z ps=>
  simp only[Xq]at h;split at h
  ·rename_i y hy;cases h1:(AV.rfL y&&y.all AV.leaf)<;>rw[h1]at h<;>simp only[cond_true,cond_false,reduceCtorEq,QMu]at h;rw[QMt]at h1;subst h;exact⟨y,hy,h1.1,h1.2,hK⟩
  ·cases h
 |bslv site sz len z ps=>
  simp only[Xq]at h;split at h
  ·rename_i y hy;cases h1:(AV.rfL y&&y.all AV.leaf&&Qv (Qg st.m 0 site))<;>rw[h1]at h<;>simp only[cond_true,cond_false,reduceCtorEq,QMu]at h;simp only[QMt]at h1;subst h;exact⟨y,hy,h1.1.1,h1.1.2,h1.2,hK⟩
  ·cases h
 |bsl0 site sz=>
  simp only[Xq]at h;cases h1:Qv (Qg st.m 0 site)<;>rw[h1]at h<;>simp only[cond_true,cond_false,reduceCtorEq,QMu]at h;subst h;exact⟨h1,hK⟩
 |isnil neg r=>
  simp only[Xq]at h;split at h
  ·rename_i hr;cases h;exact⟨[],by rw[hr];rfl,fun e=>absurd hr e,fun _=>hK⟩
  ·rename_i l hr;split at h
   ·rename_i z zs hf;cases h;exact⟨l,by rw[hr];rfl,fun _=>hK,fun e=>by
     rcases e with e|e
     ·rw[hr]at e;cases e
     ·rw[hf]at e;cases e⟩
   ·cases h
  ·cases h
 |callK l s f args=>
  simp only[Xq]at h;split at h
  ·rename_i k fa fb hf;split at h
   ·rename_i v m' hv;cases he:Hq (Qg m' l s) (Qg st.m l s)<;>rw[he]at h<;>simp only[cond_true,cond_false,reduceCtorEq,QMu]at h;subst h;exact⟨k,fa,fb,v,m',hf,hc _ _ _ _ _ hv,Cg he,hK⟩
   ·cases h
  ·cases h
 |xb cnt k s c=>
  simp only[Xq]at h;split at h
  ·rename_i t b hs hb;cases h;exact⟨t,b,hs,hb,hK⟩
  ·cases h
 |callR f args=>
  simp only[Xq]at h;split at h
  ·rename_i k fa fb hf;split at h
   ·rename_i ys hy;cases h1:AV.rfL ys<;>rw[h1]at h<;>simp only[cond_true,cond_false,reduceCtorEq]at h;split at h
    ·rename_i v m' hv;cases h2:(v.rf&&(AV.rfL (fa++args.map (RA.ev st.f)++fb)||v.nl))<;>rw[h2]at h<;>simp only[cond_true,cond_false,reduceCtorEq,QMu]at h;rw[QMt,QL9]at h2;subst h;exact⟨k,fa,fb,ys,(· = v),hf,hy,h1,(hc _ _ _ _ _ hv).mono (fun _ _ e=>e.1),fun x hx=>by subst hx;exact h2,fun x hx=>by subst hx;exact hK⟩
    ·cases h
   ·cases h
  ·cases h
 |rngs s r=>
  simp only[Xq]at h;split at h
  ·rename_i t ht;cases h1:Xw st.m s<;>rw[h1]at h<;>simp only[cond_true,cond_false,reduceCtorEq,QMu]at h;subst h;exact⟨t,ht,h1,hK⟩
  ·cases h
 |mkm s=>
  simp only[Xq]at h;cases h1:Xw st.m s<;>rw[h1]at h<;>simp only[cond_true,cond_false,reduceCtorEq,QMu]at h;subst h;exact⟨h1,hK⟩
 |mput x i v=>
  simp only[Xq]at h;split at h
  ·rename_i l s hx;split at h
   ·rename_i ks vs p hl;split at h
    ·rename_i k hi;cases h1:((v.ev st.f).gr&&AV.grL vs&&Nat.beq ks.length vs.length)<;>rw[h1]at h<;>simp only[cond_true,cond_false,reduceCtorEq,QMu]at h;subst h;simp only[QMt]at h1;exact⟨l,s,ks,vs,p,k,hx,hl,hi,h1.1.1,h1.1.2,QL1 h1.2,hK⟩
    ·cases h
   ·cases h
  ·cases h
 |nxts r=>
  simp only[Xq]at h;split at h
  ·rename_i l s hr;split at h
   ·rename_i t p hl;refine⟨l,s,t,p,hr,hl,fun e=>?_,fun e=>?_⟩
    ·have hb:Nat.blt p t.length=true:=by simp[Nat.blt_eq,e]
     rw[hb]at h;cases h;exact hK
    ·have hb:Nat.blt p t.length=false:=by
      cases hb:Nat.blt p t.length with
      |false=>rfl
      |true=>rw[Nat.blt_eq]at hb;omega
     rw[hb]at h;cases h;exact hK
   ·cases h
  ·cases h
 |appS el s r=>
  simp only[Xq]at h;split at h
  ·rename_i l site g n t hs hr;split at h
   ·rename_i g' xs hl;cases h1:(Nat.beq g' g&&XF site el&&Nat.ble n xs.length&&Nat.ble (n+t.length) 140737488355328)<;>rw[h1]at h<;>simp only[cond_true,cond_false,reduceCtorEq,QMu]at h;simp only[QMt]at h1;obtain⟨⟨⟨a1,a2⟩,a3⟩,a4⟩:=h1;have e1:=QL1 a1;subst e1 h;exact⟨l,site,_,n,xs,t,hs,hl,a2,QNu a3,hr,QNu a4,hK⟩
   ·cases h
  ·cases h
 |mk site el sz bytes z l c=>
  simp only[Xq]at h;split at h
  ·rename_i kl n kc k hl hcc;cases h1:(Nat.ble n k&&Nat.ble k 9223372036854775807&&Nat.ble (bytes*k) 281474976710656&&Qv (Qg st.m 0 site))<;>rw[h1]at h<;>simp only[cond_true,cond_false,reduceCtorEq,QMu]at h;simp only[QMt]at h1;obtain⟨⟨⟨a1,a2⟩,a3⟩,a4⟩:=h1;subst h;exact⟨kl,kc,n,k,hl,hcc,QNu a1,QNu a2,QNu a3,a4,hK⟩
  ·cases h
 |usd r=>
  simp only[Xq]at h;split at h
  ·rename_i l s g n hr;split at h
   ·rename_i g' sz xs hl;cases h1:(Nat.beq g' g&&Nat.ble 2000 s)<;>rw[h1]at h<;>simp only[cond_true,cond_false,reduceCtorEq,QMu]at h;simp only[QMt]at h1;have e1:=QL1 h1.1;subst e1 h;exact⟨l,s,_,n,sz,xs,QNu h1.2,hr,hl,hK⟩
   ·cases h
  ·cases h
 |ustr el p r=>
  simp only[Xq]at h;split at h
  ·rename_i hp hr;cases h;exact .inl ⟨hp,hr,hK⟩
  ·rename_i l s g n hp hr;split at h
   ·rename_i g' xs hl;split at h
    ·rename_i t ht;cases h1:(Nat.beq s (el+2000)&&Nat.beq g' g&&Nat.ble (n+1) xs.length&&Xq.isBytes (xs.take (n+1)) t)<;>rw[h1]at h<;>simp only[cond_true,cond_false,reduceCtorEq,QMu]at h;simp only[QMt]at h1;obtain⟨⟨⟨a1,a2⟩,a3⟩,a4⟩:=h1;have e1:=QL1 a1;have e2:=QL1 a2;subst e1 e2 h;exact .inr ⟨l,_,n+1,xs,t,hp,hr,hl,QNu a3,Nat.succ_ne_zero n,Ht a4,hK⟩
    ·cases h
   ·cases h
  ·cases h

theorem Ch {call:Kk}(hc:Kx P call){it:Item}{st st':St}(h:D1 call it st=some st'){K:St→Prop}(hK:K st'):XK P it st K:=by
 obtain⟨d,op,g⟩:=it;cases g with
 |none=>exact BH (d:=d) hc h hK
 |some p=>
  obtain⟨j,want⟩:=p;simp only[D1]at h;simp only[XK];split at h
  ·rename_i b hj;simp only[hj];cases hb:(b==want)with
   |true=>
    rw[hb]at h;have e:b=want:=by simpa using hb
    exact⟨fun _=>BH hc h hK,fun e'=>by rw[e]at e';cases want<;>cases e'⟩
   |false=>
    rw[hb]at h;simp only[cond_false,QMu]at h;subst h;exact⟨fun e=>by rw[e]at hb;simp at hb,fun _=>hK⟩
  ·rename_i hj;cases h;simp only[hj];exact⟨trivial,hK⟩
  ·cases h

theorem UE {call:Kk}(hc:Kx P call):∀ {Qe:List Item} {st st':St},Hr call Qe st=some st'→∀ {K:St→Prop},K st'→QD P Qe st K
 | [],_,_,h,_,hK=>by cases h;exact hK
 |it :: Qe,st,st',h,K,hK=>by
  simp only[Hr]at h;split at h
  ·rename_i st1 h1;exact Ch hc h1 (UE hc h hK)
  ·cases h

theorem M1 {rs:List RR}{n:Nat}{r:Option (Exit×St)}{v:AV}{m':Ql}(h:Hs rs n r=some (v,m')):∃e st,r=some (e,st)∧X7 rs n (fun x m1=>x=v∧m1=m') e st:=by
 have fin:∀ {e:Exit} {st:St},(e=.normal∨e=.ret)→Hs.fin rs n st=some (v,m')→X7 rs n (fun x m1=>x=v∧m1=m') e st:=by
  intro e st he h;unfold Hs.fin at h;split at h
  ·rename_i hds;split at h
   ·rename_i x hx;split at h
    ·rename_i y hy;split at h
     ·rename_i fr m hm;cases hb:Nat.beq m.length n with
      |false=>rw[hb]at h;cases h
      |true=>
       rw[hb]at h;simp only[cond_true,QMu,Prod.mk.injEq]at h;exact⟨he,hds,x,y,fr,m,hx,hy,hm,QL1 hb,h.1,h.2⟩
     ·cases h
    ·cases h
   ·cases h
  ·cases h
 unfold Hs at h;split at h
 ·exact⟨_,_,rfl,fin (.inl rfl) h⟩
 ·exact⟨_,_,rfl,fin (.inr rfl) h⟩
 ·cases h

theorem K6 {nat:Kk}(hN:Kx P nat)(hT:Hp P T){body:RC→St→Option (Exit×St)}(hb:∀c st e st',body c st=some (e,st')→∀Q:Exit→St→Prop,Q e st'→QJ P c st Q):Kx P (Wt nat T body):=by
 intro k args m v m' h;unfold Wt at h;split at h
 ·rename_i r hr;cases h;exact hN _ _ _ _ _ hr
 split at h
 ·rename_i c rs N hk;cases hN:Nat.ble args.length N with
  |false=>rw[hN]at h;cases h
  |true=>
   rw[hN]at h;simp only[cond_true]at h;obtain⟨e,st,h1,h2⟩:=M1 h;obtain⟨fn,cd,a1,a2,a3,a4,a5,a6⟩:=hT k c rs N hk;exact Yj a1 a2 a3 a4 a5 a6 (QNu hN) (hb _ _ _ _ h1 _ h2)
 ·cases h

theorem Ci {nat:Kk}(hN:Kx P nat)(hT:Hp P T):∀(n:Nat) (c:RC) (st:St) (e:Exit) (st':St),ZM nat T n c st=some (e,st')→∀Q:Exit→St→Prop,Q e st'→QJ P c st Q:=by
 intro n
 induction n using Nat.strongRecOn with
 |_ n ihs=>
 cases n with
 |zero=>intro c st e st' h;cases h
 |succ n=>
  intro c st e st' h Q hQ;have ih:=ihs n (Nat.lt_succ_self n);cases c with
  |skip=>cases h;exact hQ
  |reg Qe=>
   simp only[ZM]at h;split at h
   ·rename_i st1 h1;cases h;exact UE (K6 hN hT ih) h1 hQ
   ·cases h
  |draw Qe=>
   simp only[ZM]at h;split at h
   ·rename_i st1 h1;cases h;exact UE (K6 hN hT ih) h1 hQ
   ·cases h
  |seq a b=>
   simp only[ZM]at h;split at h
   ·rename_i st1 h1;exact ih _ _ _ _ h1 _ (ih _ _ _ _ h Q hQ)
   ·rename_i h1;refine ih _ _ _ _ h _ ?_;cases e with
    |normal=>exact absurd h (h1 st')
    |_=>exact hQ
  |cond c a b=>
   simp only[ZM]at h;split at h
   ·rename_i t ht;cases t with
    |true=>exact⟨true,ht,fun _=>ih _ _ _ _ h Q hQ,(fun e=>by cases e)⟩
    |false=>exact⟨false,ht,(fun e=>by cases e),fun _=>ih _ _ _ _ h Q hQ⟩
   ·cases h
  |block id a=>
   simp only[ZM]at h;split at h
   ·rename_i i st1 h1;refine ih _ _ _ _ h1 _ ?_;show if i=id then Q .normal st1 else Q (.exit i) st1
    split at h
    ·rename_i hi;cases h;rw[QMy hi];exact hQ
    ·rename_i hi;cases h;rw[QMj hi];exact hQ
   ·rename_i h1;refine ih _ _ _ _ h _ ?_;cases e with
    |exit i=>exact absurd h (h1 i st')
    |_=>exact hQ
  |loop a=>
   refine⟨fun k s=>k≤n∧ZM nat T (k+1) (.loop a) s=some (e,st'),n,⟨QL3 _,h⟩,fun k s hh=>?_⟩;obtain⟨hk,hs⟩:=hh;simp only[ZM]at hs;split at hs
   ·rename_i st1 h1;refine ihs k (by omega) _ _ _ _ h1 _ ?_;show ∃j,j<k∧j≤n∧ZM nat T (j+1) (.loop a) st1=some (e,st');cases k with
    |zero=>cases h1
    |succ j=>exact⟨j,Nat.lt_succ_self j,by omega,hs⟩
   ·rename_i h1;refine ihs k (by omega) _ _ _ _ hs _ ?_;cases e with
    |normal=>exact absurd hs (h1 st')
    |_=>exact hQ
  |exit id=>cases h;exact hQ
  |scope a=>
   simp only[ZM]at h;split at h
   ·cases h
   ·rename_i h1;refine ih _ _ _ _ h _ ?_;cases e with
    |goto i=>exact absurd h (h1 i st')
    |_=>exact hQ
  |lab=>cases h;exact hQ
  |ret=>cases h;exact hQ
  |gho g a=>
   simp only[ZM]at h;split at h
   ·rename_i st1 h1;exact⟨st1,h1,ih _ _ _ _ h Q hQ⟩
   ·cases h
  |no=>cases h

def I6 (nat:Kk)(T:D0)(n:Nat)(k:FuncId)(args:List AV):Bool :=
 match Wt nat T (ZM nat T n) k args []with
 |some (.bool true,_)=>true
 |_=>false

theorem NQ {nat:Kk}(hN:Kx P nat)(hT:Hp P T){n:Nat}{k:FuncId}{args:List AV}(h:I6 nat T n k args=true):Qp P k args (.bool true):=by
 unfold I6 at h;split at h
 ·rename_i m' h1;exact(K6 hN hT (Ci hN hT n) _ _ _ _ _ h1).mono fun _ _ e=>e.1
 ·cases h

end

set_option linter.defProp false in
def Qa:=(QNC (QNC (QNC (QNC (QNC (QNC (QNC (QNC @Am.WQ @Am.WP) (QNC @Am.VS @Am.JB)) (QNC (QNC @Am.Zr @Am.VV) (QNC @Am.VW (QNC @Am.BD @Am.BE)))) (QNC (QNC (QNC @Am.Ws @Am.P7) (QNC @Am.P8 @Am.VR)) (QNC (QNC @Am.VX @Am.Hl) (QNC @Am.VY (QNC @Am.VZ @Am.V0))))) (QNC (QNC (QNC (QNC @Am.V1 @Am.V2) (QNC @Am.V3 @Am.V4)) (QNC (QNC @Am.J8 @Am.VU) (QNC @Am.P9 (QNC @Am.G0 @Am.Yw)))) (QNC (QNC (QNC @Am.e_f @Am.JD) (QNC @Am.Zs @Am.JC)) (QNC (QNC @Am.JE @Am.Uk) (QNC @Am.JT (QNC @Am.DS @Am.GY)))))) (QNC (QNC (QNC (QNC (QNC @Am.K5 @Am.DT) (QNC @Am.Hm @Am.Hn)) (QNC (QNC @Am.GZ @Am.WR) (QNC @Am.JS (QNC @Am.DU @Am.DV)))) (QNC (QNC (QNC @Am.ZU @Am.Qr.eq_1) (QNC @Am.Qr.eq_2 @Am.Qr.eq_3)) (QNC (QNC @Am.Qr.eq_4 @Am.Qr.eq_5) (QNC @Am.Qr.eq_6 (QNC @Am.Qr.eq_7 @Am.Qr.eq_8))))) (QNC (QNC (QNC (QNC @Am.Qr.eq_9 @Am.Qr.eq_10) (QNC @Am.Qr.eq_11 @Am.Qr.eq_12)) (QNC (QNC @Am.Qr.eq_13 @Am.Qr.eq_14) (QNC @Am.Qr.eq_15 (QNC @Am.Qr.eq_16 @Am.Qr.eq_17)))) (QNC (QNC (QNC @Am.Qr.eq_18 @Am.Qr.eq_19) (QNC @Am.Qr.eq_20 @Am.Qr.eq_21)) (QNC (QNC @Am.Qr.eq_22 @Am.Qr.eq_23) (QNC @Am.Qr.eq_24 (QNC @Am.Qr.eq_25 @Am.Qr.eq_26))))))) (QNC (QNC (QNC (QNC (QNC (QNC @Am.Qr.eq_27 @Am.Qr.eq_28) (QNC @Am.Qr.eq_29 @Am.Qr.eq_30)) (QNC (QNC @Am.Qr.eq_31 @Am.Qr.eq_32) (QNC @Am.Qr.eq_1 (QNC @Am.Qr.eq_1 @Am.Qr.eq_1)))) (QNC (QNC (QNC @Am.QS.eq_1 @Am.QS.eq_2) (QNC @Am.QS.eq_3 @Am.QS.eq_4)) (QNC (QNC @Am.QS.eq_5 @Am.QS.eq_6) (QNC @Am.QS.eq_7 (QNC @Am.QS.eq_8 @Am.QS.eq_9))))) (QNC (QNC (QNC (QNC @Am.QS.eq_10 @Am.QS.eq_11) (QNC @Am.QS.eq_12 @Am.QS.eq_13)) (QNC (QNC @Am.QS.eq_14 @Am.QS.eq_15) (QNC @Am.QS.eq_16 (QNC @Am.QS.eq_17 @Am.QY.eq_1)))) (QNC (QNC (QNC @Am.QY.eq_2 @Am.QY.eq_3) (QNC @Am.QY.eq_4 @Am.QY.eq_5)) (QNC (QNC @Am.QY.eq_6 @Am.QY.eq_7) (QNC @Am.QY.eq_8 (QNC @Am.QY.eq_9 @Am.QY.eq_10)))))) (QNC (QNC (QNC (QNC (QNC @Am.QY.eq_11 @Am.QY.eq_12) (QNC @Am.QY.eq_13 @Am.QY.eq_14)) (QNC (QNC @Am.QY.eq_15 @Am.QY.eq_16) (QNC @Am.Ym.eq_1 (QNC @Am.Ym.eq_2 @Am.Ym.eq_3)))) (QNC (QNC (QNC @Am.Ym.eq_4 @cond_true.{0}) (QNC @cond_true.{1} @cond_false.{0})) (QNC (QNC @cond_false.{1} @QMV) (QNC @and_true (QNC @QM6.{0} @QNa.{0}))))) (QNC (QNC (QNC (QNC @List.getElem?_nil.{0} @QNd.{0}) (QNC @QNA.{0} @Am.St.enter.eq_1)) (QNC (QNC @Am.DA.eq_1 @Am.AV.shL.eq_1) (QNC @Am.AV.shL.eq_2 (QNC @Am.AV.sh.eq_1 @Am.AV.sh.eq_2)))) (QNC (QNC (QNC @Am.AV.sh.eq_3 @Am.AV.sh.eq_4) (QNC @Am.AV.sh.eq_5 @Am.AV.sh.eq_6)) (QNC (QNC @Am.AV.sh.eq_7 @Am.AV.sh.eq_8) (QNC @Am.AV.sh.eq_9 (QNC @Am.JP.eq_1 @Am.JP.eq_2)))))))) (QNC (QNC (QNC (QNC (QNC (QNC (QNC @Am.RR.ev.eq_1 @Am.RR.ev.eq_2) (QNC @Am.RR.evL.eq_1 @Am.RR.evL.eq_2)) (QNC (QNC @Am.Kv.eq_1 @Am.AV.still.eq_1) (QNC @Am.AV.still.eq_2 (QNC @Am.AV.still.eq_3 @Am.AV.still.eq_4)))) (QNC (QNC (QNC @Am.AV.still.eq_5 @Am.AV.still.eq_6) (QNC @Am.AV.still.eq_7 @Am.AV.still.eq_8)) (QNC (QNC @Am.AV.stillL.eq_1 @Am.AV.stillL.eq_2) (QNC @Am.AV.un.eq_1 (QNC @Am.AV.un.eq_2 @Am.AV.un.eq_3))))) (QNC (QNC (QNC (QNC @Am.AV.un.eq_4 @Am.AV.un.eq_5) (QNC @Am.AV.un.eq_6 @Am.AV.un.eq_7)) (QNC (QNC @Am.AV.un.eq_8 @Am.AV.un.eq_9) (QNC @Am.AV.un.eq_10 (QNC @Am.AV.un.eq_11 @Am.AV.un.eq_12)))) (QNC (QNC (QNC @Am.AV.un.eq_13 @Am.AV.unL.eq_1) (QNC @Am.AV.unL.eq_2 @Option.bind_some.{0,0})) (QNC (QNC @QMU.{0,0} @if_true.{0}) (QNC @if_true.{1} (QNC @if_false.{0} @if_false.{1})))))) (QNC (QNC (QNC (QNC (QNC @QMo @Go.IntKind.bits.eq_1) (QNC @Go.IntKind.bits.eq_2 @Go.IntKind.bits.eq_3)) (QNC (QNC @Go.IntKind.bits.eq_4 @Go.IntKind.bits.eq_5) (QNC @Go.IntKind.bits.eq_6 (QNC @Go.IntKind.bits.eq_7 @Go.IntKind.bits.eq_8)))) (QNC (QNC (QNC @QM0.{0} @QMk.{0}) (QNC @QND @QNf)) (QNC (QNC @forall_const.{1} @not_true_eq_false) (QNC @not_false_eq_true (QNC @Am.Gq @QNE))))) (QNC (QNC (QNC (QNC @QNb @Am.KH.eq_1) (QNC @ne_eq.{1} @Nat.one_ne_zero)) (QNC (QNC @decide_true @decide_false) (QNC @Am.Tk (QNC @Am.MZ @Am.I3)))) (QNC (QNC (QNC @Am.M0 @Am.I4) (QNC @Am.I0 @Am.QtI)) (QNC (QNC @Am.Xw.eq_1 @Am.AV.unNL.eq_1) (QNC @Am.AV.unNL.eq_2 (QNC @Am.AV.unNL_zero @Am.AV.shNL.eq_1))))))) (QNC (QNC (QNC (QNC (QNC (QNC @Am.AV.shNL.eq_2 @Am.AV.shN.eq_1) (QNC @Am.AV.shN.eq_2 @Am.splice.eq_1)) (QNC (QNC @Am.part.eq_1 @Am.part.eq_2) (QNC @Am.fill.eq_1 (QNC @Am.fill.eq_2 @Am.AV.leaf.eq_1)))) (QNC (QNC (QNC @Am.AV.leaf.eq_2 @Am.AV.leaf.eq_3) (QNC @Am.AV.leaf.eq_4 @QNe.{0})) (QNC (QNC @List.all_nil.{0} @QMC.{0}) (QNC @QNc.{0} (QNC @List.take_nil.{0} @QMF.{0}))))) (QNC (QNC (QNC (QNC @QMM.{0} @QNg.{0}) (QNC @QMs.{0} @QMr.{0})) (QNC (QNC @QM7.{0} @Am.Qc.eq_1) (QNC @and_self (QNC @Am.Zi.eq_1 @Am.Zi.eq_2)))) (QNC (QNC (QNC @Am.Zi.eq_3 @Am.Zi.eq_4) (QNC @Am.Zi.eq_5 @Am.Zi.eq_6)) (QNC (QNC @Am.ZC.eq_1 @Am.ZC.eq_2) (QNC @Am.Q5.eq_1 (QNC @Am.Q5.eq_2 @Am.Q5.eq_3)))))) (QNC (QNC (QNC (QNC (QNC @Am.Q5.eq_4 @Am.Q5.eq_5) (QNC @Am.Q5.eq_6 @Am.Q5.eq_7)) (QNC (QNC @Am.Ud.eq_1 @Am.Ud.eq_2) (QNC @Am.Ud.eq_3 (QNC @Am.U0.eq_1 @Am.U0.eq_2)))) (QNC (QNC (QNC @Am.U0.eq_3 @Am.U0.eq_4) (QNC @Am.QCS @Am.V5)) (QNC (QNC @Am.V6 @Am.V7) (QNC @Am.NE (QNC @Am.V8 @Am.NF))))) (QNC (QNC (QNC (QNC @Am.NG @Am.NH) (QNC @Am.NI @Am.NJ)) (QNC (QNC @Am.V9 @Am.Ca) (QNC @Am.Cb (QNC @Am.Cc @Am.NK)))) (QNC (QNC (QNC @Am.Cd @Am.NL) (QNC @Am.Bp @Am.Ce)) (QNC (QNC @Am.NM @Am.Uj) (QNC @Am.Bq (QNC @Am.NN @QM5.{0,0})))))))))

set_option linter.defProp false in
def eEX:=(QNC (QNC (QNC @Am.QU.eq_1 (QNC @Am.QU.eq_2 @Am.QU.eq_3)) (QNC (QNC @Am.Q4.eq_1 @Am.Q4.eq_2) (QNC @Am.Q4.eq_3 @Am.Q4.eq_4))) (QNC (QNC (QNC @Am.Qg.eq_1 @Am.Qg.eq_2) (QNC @Am.Qg.eq_3 @Am.put.eq_1)) (QNC (QNC @Am.put.eq_2 @Am.put.eq_3) (QNC @Am.AV.cells.eq_1 @Am.AV.cells.eq_2))))

set_option linter.defProp false in
def eE := QNC Qa eEX

set_option linter.defProp false in
def Hu:=(QNC (QNC (QNC (QNC (QNC (QNC (QNC @Am.WQ (QNC @Am.WP @Am.VS)) (QNC @Am.JB (QNC @Am.Zr @Am.VV))) (QNC (QNC @Am.VW (QNC @Am.BD @Am.BE)) (QNC @Am.Ws (QNC @Am.P7 @Am.P8)))) (QNC (QNC (QNC @Am.VR (QNC @Am.VX @Am.Hl)) (QNC @Am.VY (QNC @Am.VZ @Am.V0))) (QNC (QNC @Am.V1 (QNC @Am.V2 @Am.V3)) (QNC @Am.V4 (QNC @Am.J8 @Am.VU))))) (QNC (QNC (QNC (QNC @Am.P9 (QNC @Am.G0 @Am.Yw)) (QNC @Am.e_f (QNC @Am.JD @Am.Zs))) (QNC (QNC @Am.JC (QNC @Am.JE @Am.Uk)) (QNC @Am.JT (QNC @Am.DS @Am.GY)))) (QNC (QNC (QNC @Am.K5 (QNC @Am.DT @Am.Hm)) (QNC @Am.Hn (QNC @Am.GZ @Am.WR))) (QNC (QNC @Am.JS (QNC @Am.DU @Am.DV)) (QNC (QNC @Am.ZU @Am.Qr.eq_1) (QNC @Am.Qr.eq_2 @Am.Qr.eq_3)))))) (QNC (QNC (QNC (QNC (QNC @Am.Qr.eq_4 (QNC @Am.Qr.eq_5 @Am.Qr.eq_6)) (QNC @Am.Qr.eq_7 (QNC @Am.Qr.eq_8 @Am.Qr.eq_9))) (QNC (QNC @Am.Qr.eq_10 (QNC @Am.Qr.eq_11 @Am.Qr.eq_12)) (QNC @Am.Qr.eq_13 (QNC @Am.Qr.eq_14 @Am.Qr.eq_15)))) (QNC (QNC (QNC @Am.Qr.eq_16 (QNC @Am.Qr.eq_17 @Am.Qr.eq_18)) (QNC @Am.Qr.eq_19 (QNC @Am.Qr.eq_20 @Am.Qr.eq_21))) (QNC (QNC @Am.Qr.eq_22 (QNC @Am.Qr.eq_23 @Am.Qr.eq_24)) (QNC @Am.Qr.eq_25 (QNC @Am.Qr.eq_26 @Am.Qr.eq_27))))) (QNC (QNC (QNC (QNC @Am.Qr.eq_28 (QNC @Am.Qr.eq_29 @Am.Qr.eq_30)) (QNC @Am.Qr.eq_31 (QNC @Am.Qr.eq_32 @Am.Qr.eq_1))) (QNC (QNC @Am.Qr.eq_1 (QNC @Am.Qr.eq_1 @Am.QS.eq_1)) (QNC @Am.QS.eq_2 (QNC @Am.QS.eq_3 @Am.QS.eq_4)))) (QNC (QNC (QNC @Am.QS.eq_5 (QNC @Am.QS.eq_6 @Am.QS.eq_7)) (QNC @Am.QS.eq_8 (QNC @Am.QS.eq_9 @Am.QS.eq_10))) (QNC (QNC @Am.QS.eq_11 (QNC @Am.QS.eq_12 @Am.QS.eq_13)) (QNC (QNC @Am.QS.eq_14 @Am.QS.eq_15) (QNC @Am.QS.eq_16 @Am.QS.eq_17))))))) (QNC (QNC (QNC (QNC (QNC (QNC @Am.QY.eq_1 (QNC @Am.QY.eq_2 @Am.QY.eq_3)) (QNC @Am.QY.eq_4 (QNC @Am.QY.eq_5 @Am.QY.eq_6))) (QNC (QNC @Am.QY.eq_7 (QNC @Am.QY.eq_8 @Am.QY.eq_9)) (QNC @Am.QY.eq_10 (QNC @Am.QY.eq_11 @Am.QY.eq_12)))) (QNC (QNC (QNC @Am.QY.eq_13 (QNC @Am.QY.eq_14 @Am.QY.eq_15)) (QNC @Am.QY.eq_16 (QNC @Am.Ym.eq_1 @Am.Ym.eq_2))) (QNC (QNC @Am.Ym.eq_3 (QNC @Am.Ym.eq_4 @cond_true.{0})) (QNC @cond_true.{1} (QNC @cond_false.{0} @cond_false.{1}))))) (QNC (QNC (QNC (QNC @QMV (QNC @and_true @QM6.{0})) (QNC @QNa.{0} (QNC @List.getElem?_nil.{0} @QNd.{0}))) (QNC (QNC @QNA.{0} (QNC @Am.St.enter.eq_1 @Am.DA.eq_1)) (QNC @Am.AV.shL.eq_1 (QNC @Am.AV.shL.eq_2 @Am.AV.sh.eq_1)))) (QNC (QNC (QNC @Am.AV.sh.eq_2 (QNC @Am.AV.sh.eq_3 @Am.AV.sh.eq_4)) (QNC @Am.AV.sh.eq_5 (QNC @Am.AV.sh.eq_6 @Am.AV.sh.eq_7))) (QNC (QNC @Am.AV.sh.eq_8 (QNC @Am.AV.sh.eq_9 @Am.JP.eq_1)) (QNC (QNC @Am.JP.eq_2 @Am.RR.ev.eq_1) (QNC @Am.RR.ev.eq_2 @Am.RR.evL.eq_1)))))) (QNC (QNC (QNC (QNC (QNC @Am.RR.evL.eq_2 (QNC @Am.Kv.eq_1 @Am.AV.still.eq_1)) (QNC @Am.AV.still.eq_2 (QNC @Am.AV.still.eq_3 @Am.AV.still.eq_4))) (QNC (QNC @Am.AV.still.eq_5 (QNC @Am.AV.still.eq_6 @Am.AV.still.eq_7)) (QNC @Am.AV.still.eq_8 (QNC @Am.AV.stillL.eq_1 @Am.AV.stillL.eq_2)))) (QNC (QNC (QNC @Am.AV.un.eq_1 (QNC @Am.AV.un.eq_2 @Am.AV.un.eq_3)) (QNC @Am.AV.un.eq_4 (QNC @Am.AV.un.eq_5 @Am.AV.un.eq_6))) (QNC (QNC @Am.AV.un.eq_7 (QNC @Am.AV.un.eq_8 @Am.AV.un.eq_9)) (QNC @Am.AV.un.eq_10 (QNC @Am.AV.un.eq_11 @Am.AV.un.eq_12))))) (QNC (QNC (QNC (QNC @Am.AV.un.eq_13 (QNC @Am.AV.unL.eq_1 @Am.AV.unL.eq_2)) (QNC @Option.bind_some.{0,0} (QNC @QMU.{0,0} @if_true.{0}))) (QNC (QNC @if_true.{1} (QNC @if_false.{0} @if_false.{1})) (QNC @QMo (QNC @Go.IntKind.bits.eq_1 @Go.IntKind.bits.eq_2)))) (QNC (QNC (QNC @Go.IntKind.bits.eq_3 (QNC @Go.IntKind.bits.eq_4 @Go.IntKind.bits.eq_5)) (QNC @Go.IntKind.bits.eq_6 (QNC @Go.IntKind.bits.eq_7 @Go.IntKind.bits.eq_8))) (QNC (QNC @QM0.{0} (QNC @QMk.{0} @QND)) (QNC (QNC @QNf @forall_const.{1}) (QNC @not_true_eq_false @not_false_eq_true))))))))

end Go.Proofs.YtipjfckmopekaaaGreatDoor.Am

namespace Go.Proofs.YtipjfckmopekaaaGreatDoor.Rc
open Go Am
abbrev ja (a b:Nat):Am.Item:=⟨some a,.val (.mov (.t b)),none⟩
abbrev jb (a b c:Nat):Am.Item:=⟨some a,.val (.faddr b (.t c)),none⟩
abbrev jc (a b:Nat):Am.Item:=⟨some a,.val (.load none (.t b)),none⟩
abbrev jd (a:Nat)(b:Int):Am.Item:=⟨some a,.val (.mov (.c (.int .i64 b))),none⟩
abbrev je (a b c:Nat):Am.Item:=⟨some a,.boxN b (.t c),none⟩
abbrev jf (a b c:Nat):Am.Item:=⟨some a,.val (.load (some b) (.t c)),none⟩
abbrev jg (a b c:Nat):Am.Item:=⟨some a,.val (.mov (.t b)),some (c,true)⟩
abbrev jh (a:Nat):Am.Item:=⟨some a,.val (.mov (.c (.bool false))),none⟩
abbrev ji (a b c:Nat):Am.Item:=⟨some a,.val (.len b (.t c)),none⟩
abbrev jj (a b c:Nat):Am.Item:=⟨some a,.val (.pick (.t b) (.t c) (.c (.bool false))),none⟩
abbrev jk (a b c d:Nat):Am.Item:=⟨some a,.val (.iaddr b none (.t c) (.t d)),none⟩
abbrev jl (a b c d:Nat):Am.Item:=⟨some a,.val (.faddr b (.t c)),some (d,true)⟩
abbrev jm (a b:Nat)(c:Int):Am.Item:=⟨some a,.val (.bin .num .add (.t b) (.c (.int .i64 c))),none⟩
abbrev jn (a b c:Nat):Am.Item:=⟨some a,.val (.bin .num .lss (.t b) (.t c)),none⟩
abbrev jo (a b c:Nat):Am.Item:=⟨some a,.val (.pick (.t b) (.c (.bool true)) (.t c)),none⟩
abbrev jp (a b c d:Nat):Am.Item:=⟨some a,.val (.faddr b (.t c)),some (d,false)⟩
abbrev jq (a b:Nat)(c:Int):Am.Item:=⟨some a,.val (.bin .num .eql (.t b) (.c (.int .i64 c))),none⟩
abbrev jr (a b c:Nat):Am.Item:=⟨some a,.call (.f b) [(.t c)],none⟩
abbrev js (a b c:Nat):Am.Item:=⟨none,.store a (.t b) (.t c),none⟩
abbrev jt (a b c:Nat):Am.Item:=⟨some a,.val (.load none (.t b)),some (c,false)⟩
abbrev ju (a b c:Nat):Am.Item:=⟨some a,.val (.load none (.t b)),some (c,true)⟩
abbrev jv (a b c:Nat):Am.Item:=⟨some a,.val (.mov (.t b)),some (c,false)⟩
abbrev jw (a b c d e:Nat):Am.Item:=⟨some a,.val (.loadv b c (some d) (.t e)),none⟩
abbrev jx (a b c:Nat):Am.Item:=⟨some a,.val (.ext (.t b) c),none⟩
abbrev jy (a b c d:Nat):Am.Item:=⟨some a,.call (.f b) [(.t c),(.t d)],none⟩
abbrev jz (a b:Nat):Am.Item:=⟨some a,.val (.un .not (.t b)),none⟩
abbrev ya (a b c:Nat):Am.Item:=⟨some a,.val (.loadr (some b) (.t c)),none⟩
abbrev yb (a b c d:Nat):Am.Item:=⟨some a,.val (.loadv b c none (.t d)),none⟩
abbrev yc (a b c d e:Nat):Am.Item:=⟨some a,.val (.iaddr b none (.t c) (.t d)),some (e,true)⟩
abbrev yd (a b c d e:Nat):Am.Item:=⟨some a,.call (.f b) [(.t c),(.t d),(.t e)],none⟩
abbrev ye (a:Nat):Am.Item:=⟨some a,.val (.mov (.c (.nils))),none⟩
abbrev yf (a b c d:Nat):Am.Item:=⟨some a,.val (.len b (.t c)),some (d,false)⟩
abbrev yg (a b:Nat)(c:Int):Am.Item:=⟨some a,.val (.bin .num .neq (.t b) (.c (.int .i64 c))),none⟩
abbrev yh (a b c d e f:Nat):Am.Item:=⟨some a,.app b c d (.t e) (.t f),none⟩
abbrev yi (a:Nat):Am.Item:=⟨some a,.val (.mov (.c (.str []))),none⟩
abbrev yj (a b c:Nat):Am.Item:=⟨some a,.val (.bin .num .add (.t b) (.t c)),none⟩
abbrev yk (a b:Nat)(c:Int)(d:Nat):Am.Item:=⟨some a,.val (.bin .num .gtr (.t b) (.c (.int .i64 c))),some (d,false)⟩
abbrev yl (a:Nat):Am.Item:=⟨some a,.val (.mov (.c (.bool true))),none⟩
abbrev ym (a b:Nat)(c:Int)(d:Nat):Am.Item:=⟨some a,.val (.bin .num .eql (.t b) (.c (.int .i64 c))),some (d,true)⟩
abbrev yn (a b:Nat)(c:Int):Am.Item:=⟨some a,.val (.bin .num .geq (.t b) (.c (.int .i64 c))),none⟩
abbrev yo (a b:Nat)(c:Int):Am.Item:=⟨some a,.val (.bin .num .lss (.t b) (.c (.int .i64 c))),none⟩
abbrev yp (a b c:Nat):Am.Item:=⟨some a,.val (.loadr none (.t b)),some (c,true)⟩
abbrev yq (a b:Nat)(c:Int):Am.Item:=⟨some a,.val (.bin .num .gtr (.t b) (.c (.int .i64 c))),none⟩
abbrev yr (a b c d:Nat):Am.Item:=⟨some a,.callF (.f b) [(.t c),(.t d)],none⟩
abbrev ys (a b:Nat)(c:Int)(d:Nat):Am.Item:=⟨some a,.val (.bin .num .eql (.t b) (.c (.int .i64 c))),some (d,false)⟩
abbrev yt (a b c d:Nat):Am.Item:=⟨some a,.val (.len b (.t c)),some (d,true)⟩
abbrev yu (a b:Nat):Am.Item:=⟨some a,.allocN b [.int .i64 0,.int .u64 0,.str [],.nils,.nils,.nils,.nils],none⟩
abbrev yv (a b c d:Nat):Am.Item:=⟨some a,.val (.load (some b) (.t c)),some (d,false)⟩
abbrev yw (a b c d:Nat):Am.Item:=⟨some a,.val (.pick (.t b) (.t c) (.c (.bool false))),some (d,false)⟩
abbrev yx (a b c:Nat):Am.Item:=⟨some a,.val (.un .not (.t b)),some (c,true)⟩
abbrev yy (a b:Nat)(c:Int)(d:Nat):Am.Item:=⟨some a,.val (.bin .num .leq (.t b) (.c (.int .i64 c))),some (d,true)⟩
abbrev yz (a b c d e:Nat):Am.Item:=⟨some a,.val (.iaddr b none (.t c) (.t d)),some (e,false)⟩
abbrev za (a b:Nat)(c:Int):Am.Item:=⟨some a,.val (.bin .num .sub (.t b) (.c (.int .i64 c))),none⟩
abbrev zb (a b c d e:Nat):Am.Item:=⟨some a,.val (.loadv b c none (.t d)),some (e,true)⟩
abbrev zd (a b:Nat):Am.Item:=⟨some a,.allocN b [.int .i64 0,.str [],.str [],.int .i64 0,.int .i64 0,.int .i64 0,.int .i64 0,.int .i64 0],none⟩
abbrev ze (a b c:Nat):Am.Item:=⟨some a,.val (.un .not (.t b)),some (c,false)⟩
abbrev zf (a b c d:Nat):Am.Item:=⟨some a,.val (.pick (.t b) (.c (.bool true)) (.t c)),some (d,true)⟩
abbrev zg (a b c:Nat):Am.Item:=⟨some a,.val (.bin .num .sub (.t b) (.t c)),none⟩
abbrev zh (a b c d:Nat):Am.Item:=⟨some a,.call (.f b) [(.t c)],some (d,true)⟩
abbrev zi (a b c d:Nat):Am.Item:=⟨some a,.call (.f b) [(.t c)],some (d,false)⟩
abbrev zj (a b c d e f:Nat):Am.Item:=⟨some a,.call (.f b) [(.t c),(.t d),(.t e),(.t f)],none⟩
abbrev zk (a b c d:Nat):Am.Item:=⟨some a,.val (.load (some b) (.t c)),some (d,true)⟩
abbrev zl (a b c d e:Nat):Am.Item:=⟨some a,.val (.loadv b c none (.t d)),some (e,false)⟩
abbrev zm (a b c:Nat):Am.Item:=⟨some a,.val (.bin .num .eql (.t b) (.t c)),none⟩
abbrev zn (a b:Nat):Am.Item:=⟨some a,.allocN b [.int .i64 0,.int .i64 0,.int .u64 0,.str []],none⟩
abbrev zo (a b:Nat):Am.Item:=⟨some a,.val (.cvi .u64 (.t b)),none⟩
abbrev zp (a b c d e:Nat):Am.Item:=⟨none,.storev a b c (.t d) (.t e),none⟩
abbrev zq (a b c d e:Nat):Am.Item:=⟨some a,.callF (.f b) [(.t c),(.f d)],some (e,false)⟩
abbrev zs (a b c:Nat):Am.Item:=⟨some a,.val (.bin .num .neq (.t b) (.t c)),none⟩
abbrev zt (a b c d e f:Nat):Am.Item:=⟨some a,.val (.loadv b c (some d) (.t e)),some (f,true)⟩
abbrev zu (a b c d:Nat):Am.Item:=⟨some a,.val (.bin .num .lss (.t b) (.t c)),some (d,true)⟩
abbrev zv (a b:Nat)(c:Int)(d:Nat):Am.Item:=⟨some a,.val (.bin .num .neq (.t b) (.c (.int .i64 c))),some (d,true)⟩
abbrev zw (a b c d e f:Nat):Am.Item:=⟨some a,.bsl b c [.int .i64 0,.int .i64 0,.int .u64 0,.str []] [(d,e,(.t f))],none⟩
abbrev zx (a b:Nat):Am.Item:=⟨some a,.val (.loadr none (.t b)),none⟩
abbrev zy (a b:Nat)(c:Int)(d:Nat):Am.Item:=⟨some a,.val (.bin .num .add (.t b) (.c (.int .i64 c))),some (d,true)⟩
abbrev zz (a b:Nat):Am.Item:=⟨some a,.call (.f b) [],none⟩
abbrev Cj (a b:Nat):Am.Item:=⟨some a,.val (.cvi .i64 (.t b)),none⟩
abbrev Ul (a b c d:Nat):Am.Item:=⟨some a,.callF (.f b) [(.t c),(.f d)],none⟩
abbrev Ck (a b c d:Nat):Am.Item:=⟨some a,.val (.bin .num .neq (.t b) (.t c)),some (d,false)⟩
abbrev Cm (a b c:Nat):Am.Item:=⟨some a,.val (.bin .num .gtr (.t b) (.t c)),none⟩
abbrev Hv (a b:Nat)(c:Int)(d:Nat):Am.Item:=⟨some a,.val (.bin .num .geq (.t b) (.c (.int .i64 c))),some (d,true)⟩
abbrev Ra (a b c d e f g:Nat):Am.Item:=⟨some a,.callF (.f b) [(.t c),(.t d),(.t e),(.t f),(.t g)],none⟩
abbrev D2 (a b:Nat)(c:Int):Am.Item:=⟨some a,.val (.bin .num .eql (.t b) (.c (.int .u64 c))),none⟩
abbrev Cn (a b c d:Nat):Am.Item:=⟨some a,.val (.loadr (some b) (.t c)),some (d,true)⟩
abbrev Co (a b c d e:Nat):Am.Item:=⟨some a,.call (.f b) [(.t c),(.t d)],some (e,true)⟩
abbrev G3 (a b c:Nat):Am.Item:=⟨some a,.val (.mkfn (.func b) [] [(.t c)]),none⟩
abbrev Rd (a b c d:Nat):Am.Item:=⟨some a,.val (.bin .num .geq (.t b) (.t c)),some (d,false)⟩
abbrev G4 (a b c:Nat):Am.Item:=⟨some a,.callF (.t b) [(.t c)],none⟩
abbrev BI (a b c d:Nat):Am.Item:=⟨some a,.val (.slc (some b) (.t c) none (some (.t d)) none),none⟩
abbrev Re (a b:Nat):Am.Item:=⟨some a,.val (.cvi .u8 (.t b)),none⟩
abbrev D3 (a b:Nat)(c:Int)(d:Nat):Am.Item:=⟨some a,.val (.bin .num .sub (.t b) (.c (.int .i64 c))),some (d,true)⟩
abbrev Cq (a b c d e f:Nat):Am.Item:=⟨some a,.call (.f b) [(.t c),(.t d),(.t e)],some (f,true)⟩
abbrev jaq (a b c:Nat):Am.Item:=⟨some a,.val (.bin .str .add (.t b) (.t c)),none⟩
abbrev D4 (a b c:Nat):Am.Item:=⟨some a,.call (.f b) [],some (c,true)⟩
abbrev BJ (a b c:Nat):Am.Item:=⟨some a,.val (.bin .str .eql (.t b) (.t c)),none⟩
abbrev BK (a b:Nat)(c:Int)(d:Nat):Am.Item:=⟨some a,.val (.bin .num .gtr (.t b) (.c (.int .i64 c))),some (d,true)⟩
abbrev Cr (a b:Nat)(c:Int)(d:Nat):Am.Item:=⟨some a,.val (.bin .num .lss (.t b) (.c (.int .i64 c))),some (d,false)⟩
abbrev D5 (a b:Nat):Am.Item:=⟨some a,.val (.nilck (.t b)),none⟩
abbrev D6 (a b c:Nat):Am.Item:=⟨some a,.val (.bin .num .leq (.t b) (.t c)),none⟩
abbrev D7 (a b c d:Nat)(e:Int)(f:Nat):Am.Item:=⟨some a,.call (.f b) [(.t c),(.t d),(.c (.int .i64 e))],some (f,true)⟩
abbrev BL (a b:Nat):Am.Item:=⟨some a,.allocN b [.int .i64 0,.int .i64 0,.int .u64 0,.str [],.nils,.nils,.nils,.nils],none⟩
abbrev BM (a b c:Nat)(d:Int)(e:Nat):Am.Item:=⟨some a,.val (.iaddr b none (.t c) (.c (.int .i64 d))),some (e,true)⟩
abbrev I7 (a:Nat)(b:Int):Am.Item:=⟨some a,.val (.mov (.c (.int .u64 b))),none⟩
abbrev jbb (a b:Nat)(c:Int):Am.Item:=⟨some a,.val (.bin .num .shr (.t b) (.c (.int .u64 c))),none⟩
abbrev BN (a b c:Nat):Am.Item:=⟨some a,.callF (.f b) [(.t c)],none⟩
abbrev Ct (a b:Nat)(c:Int)(d:Nat):Am.Item:=⟨some a,.val (.bin .num .neq (.t b) (.c (.int .i64 c))),some (d,false)⟩
abbrev BO (a b c:Nat):Am.Item:=⟨some a,.val (.loadr none (.t b)),some (c,false)⟩
abbrev jbf (a b c d e f:Nat):Am.Item:=⟨some a,.bsl b c [.int .u8 0] [(d,e,(.t f))],none⟩
abbrev I8 (a b:Nat):Am.Item:=⟨some a,.val (.b2s (.t b)),none⟩
abbrev Rf (a b c d e:Nat):Am.Item:=⟨some a,.call (.f b) [(.t c),(.t d)],some (e,false)⟩
abbrev BP (a b c:Nat):Am.Item:=⟨some a,.val (.idx (.t b) (.t c)),none⟩
abbrev Cu (a b c d:Nat):Am.Item:=⟨some a,.val (.bin .str .eql (.t b) (.t c)),some (d,true)⟩
abbrev I9 (a b:Nat)(c:Int)(d:Nat):Am.Item:=⟨some a,.val (.bin .num .eql (.t b) (.c (.int .u64 c))),some (d,true)⟩
abbrev Cv (a b c d:Nat):Am.Item:=⟨some a,.val (.build [.nils,.nils] [(b,c,(.t d))]),none⟩
abbrev Rg (a b c d:Nat):Am.Item:=⟨some a,.val (.bin .num .eql (.t b) (.t c)),some (d,true)⟩
abbrev Cw (a b:Nat):Am.Item:=⟨some a,.allocN b [.int .i64 0,.int .u64 0,.str [],.nils,.nils,.nils,.nils,.int .i64 0,.int .u64 0,.str [],.nils,.nils,.nils,.nils],none⟩
abbrev Cx (a:Nat)(b:Int)(c:Nat):Am.Item:=⟨some a,.val (.bin .num .mul (.c (.int .i64 b)) (.t c)),none⟩
abbrev Cy (a b c:Nat):Am.Item:=⟨some a,.val (.slc none (.t b) (some (.t c)) none none),none⟩
abbrev jbq (a b c d:Nat):Am.Item:=⟨some a,.val (.loadr (some b) (.t c)),some (d,false)⟩
abbrev Cz (a b c d:Nat):Am.Item:=⟨some a,.val (.bin .num .leq (.t b) (.t c)),some (d,true)⟩
abbrev CA (a b:Nat)(c:Int):Am.Item:=⟨some a,.val (.bin .num .eql (.t b) (.c (.int .u8 c))),none⟩
abbrev CB (a b c d:Nat):Am.Item:=⟨some a,.val (.idx (.t b) (.t c)),some (d,true)⟩
abbrev CC (a b:Nat)(c:Int):Am.Item:=⟨some a,.val (.bin .num .geq (.t b) (.c (.int .u8 c))),none⟩
abbrev CD (a b:Nat)(c:Int)(d:Nat):Am.Item:=⟨some a,.val (.bin .num .leq (.t b) (.c (.int .u8 c))),some (d,true)⟩
abbrev CE (a b c:Nat):Am.Item:=⟨some a,.callR (.f b) [(.t c)],none⟩
abbrev jQ (g:List Am.Item)(c:RC):RC:=.seq (.reg g) c
abbrev jD (g:List Am.Item)(c:RC):RC:=.seq (.draw g) c
abbrev jX (a b:Nat):RC:=.cond (.t a) .skip (.exit b)
abbrev IL:=List Am.Item
abbrev CT (k n:Nat)(r:RC)(o:List RR):Prop:=CK Tryz.prog k n r o
abbrev QCT:IL:=[jh 0]
abbrev QCU:IL:=[⟨some 11,.val (.build [.int .i64 0,.int .u64 0,.str [],.nils,.nils,.nils,.nils] [(0,1,(.c (.int .i64 4))),(1,1,(.c (.int .u64 1)))]),none⟩,yu 1 1,js 7 1 11]
abbrev QCV:IL:=[⟨some 12,.val (.build [.int .i64 0,.int .u64 0,.str [],.nils,.nils,.nils,.nils] [(0,1,(.c (.int .i64 4))),(1,1,(.c (.int .u64 2)))]),none⟩,yu 2 2,js 7 2 12]
abbrev QCW:IL:=[jf 13 7 1,jf 14 7 2,⟨some 15,.bsl 7 2 [.int .i64 0,.int .u64 0,.str [],.nils,.nils,.nils,.nils] [(0,7,(.t 13)),(7,7,(.t 14))],none⟩,⟨some 16,.val (.build [.int .i64 0,.int .u64 0,.str [],.nils,.nils,.nils,.nils] [(0,1,(.c (.int .i64 11))),(3,1,(.t 15))]),none⟩,⟨some 17,.val (.build [.int .i64 0,.int .i64 0,.int .u64 0,.str [],.nils,.nils,.nils,.nils] [(0,1,(.c (.int .i64 3))),(1,7,(.t 16))]),none⟩,BL 3 3,js 8 3 17]
abbrev QCX:IL:=[⟨some 18,.val (.build [.int .i64 0,.int .u64 0,.str [],.nils,.nils,.nils,.nils] [(0,1,(.c (.int .i64 4))),(1,1,(.c (.int .u64 5)))]),none⟩,⟨some 19,.val (.build [.int .i64 0,.int .i64 0,.int .u64 0,.str [],.nils,.nils,.nils,.nils] [(0,1,(.c (.int .i64 1))),(1,7,(.t 18))]),none⟩,⟨some 20,.val (.build [.int .i64 0,.int .u64 0,.str [],.nils,.nils,.nils,.nils] [(0,1,(.c (.int .i64 2))),(1,1,(.c (.int .u64 18446744073709551615)))]),none⟩,⟨some 21,.val (.build [.int .i64 0,.int .i64 0,.int .u64 0,.str [],.nils,.nils,.nils,.nils] [(0,1,(.c (.int .i64 2))),(1,7,(.t 20))]),none⟩,jf 22 8 3,⟨some 23,.bsl 8 3 [.int .i64 0,.int .i64 0,.int .u64 0,.str [],.nils,.nils,.nils,.nils] [(0,8,(.t 19)),(8,8,(.t 21)),(16,8,(.t 22))],none⟩,⟨some 24,.val (.build [.int .i64 0,.int .u64 0,.str [],.nils,.nils,.nils,.nils] [(0,1,(.c (.int .i64 10))),(5,1,(.t 23))]),none⟩,yu 4 4,js 7 4 24]
abbrev QCY:IL:=[zz 26 24,jw 27 0 4 7 4,⟨some 28,.call (.f 10) [(.t 26),(.c (.str [97,46,77])),(.t 27)],none⟩,ja 25 28,jx 29 25 0,jx 30 25 1,ja 5 29,ja 6 30]
abbrev QCZ:IL:=[zz 32 24,jw 33 0 4 7 4,⟨some 34,.call (.f 10) [(.t 32),(.c (.str [97,46,78])),(.t 33)],none⟩,ja 31 34,jx 35 31 0,jx 36 31 1,ja 7 35,ja 8 36]
abbrev QC0:IL:=[zz 37 24,jw 38 0 3 8 3,⟨some 39,.call (.f 19) [(.t 37),(.c (.int .i64 0)),(.t 38)],none⟩,ja 9 39]
abbrev QC1:IL:=[⟨some 40,.val (.build [.int .i64 0,.int .u64 0,.str [],.nils,.nils,.nils,.nils] [(0,1,(.c (.int .i64 2))),(1,1,(.c (.int .u64 18446744073709551615)))]),none⟩,jr 41 25 40,zn 10 10,js 4 10 41]
abbrev QC2:IL:=[ja 42 5,⟨some 43,.val (.bin .str .eql (.t 42) (.c (.str [8,5,17,1,29,3,0,1,2]))),none⟩,ja 44 43,jg 45 6 44,ym 46 45 0 44,jj 47 44 46,ja 48 47,jg 49 8 48,ym 50 49 10 48,jj 51 48 50,ja 52 51,D4 53 24 52,zt 54 0 4 7 4 52,⟨some 55,.call (.f 15) [(.t 53),(.c (.int .i64 0)),(.t 54)],(some (52,true))⟩,jg 56 5 52,Cu 57 55 56 52,jj 58 52 57,ja 59 58,D4 60 24 59,zt 61 0 4 7 4 59,⟨some 62,.call (.f 12) [(.t 60),(.c (.str [97,46,77])),(.t 61)],(some (59,true))⟩,ym 63 62 9 59,jj 64 59 63,ja 65 64,D4 66 24 65,zt 67 0 4 7 4 65,⟨some 68,.call (.f 12) [(.t 66),(.c (.str [])),(.t 67)],(some (65,true))⟩,ym 69 68 (-1) 65,jj 70 65 69,ja 71 70,jg 72 9 71,yt 73 1 72 71,ym 74 73 1 71,jj 75 71 74,ja 76 75,jg 77 9 76,BM 78 4 77 0 76,jl 79 1 78 76,yp 80 79 76,ym 81 80 5 76,jj 82 76 81,ja 83 82,jg 84 9 83,BM 85 4 84 0 83,jl 86 3 85 83,yp 87 86 83,⟨some 88,.val (.bin .str .eql (.t 87) (.c (.str [0,1,2]))),(some (83,true))⟩,jj 89 83 88,ja 90 89,jl 91 1 10 90,zb 92 0 10 91 90,ym 93 92 1 90,jj 94 90 93,ja 95 94,jl 96 2 10 95,zb 97 0 10 96 95,I9 98 97 1 95,jj 99 95 98,ja 0 99]
abbrev r9:RC:=jQ QCT (jQ QCU (jQ QCV (jQ QCW (jQ QCX (jD QCY (jD QCZ (jD QC0 (jQ QC1 (jD QC2 (.ret))))))))))
abbrev o9:List RR:=[.tmp 0]
theorem k9:CT 9 100 r9 o9:=ck Tryz.func9 Tryz.ntmps9 (by decide +kernel)
abbrev QtK:IL:=[je 1 1 0,zn 2 2]
abbrev QtL:IL:=[jb 3 0 1,jc 4 3]
abbrev QtM:IL:=[jq 6 4 1,ja 5 6]
abbrev QtN:IL:=[jq 7 4 4,ja 5 7]
abbrev QtO:IL:=[jq 8 4 5,ja 5 8]
abbrev QtP:IL:=[jq 9 4 9,ja 5 9]
abbrev QtQ:IL:=[jb 10 1 1,jc 11 10,⟨some 12,.val (.build [.int .i64 0,.int .i64 0,.int .u64 0,.str []] [(1,1,(.c (.int .i64 0))),(2,1,(.t 11))]),none⟩,js 4 2 12]
abbrev QtR:IL:=[jq 14 4 2,ja 13 14]
abbrev QtS:IL:=[jq 15 4 3,ja 13 15]
abbrev QtT:IL:=[jb 16 1 1,jc 17 16,Cj 18 17,jr 19 50 18,⟨some 20,.val (.build [.int .i64 0,.int .i64 0,.int .u64 0,.str []] [(1,1,(.c (.int .i64 1))),(2,1,(.t 19))]),none⟩,js 4 2 20]
abbrev La:IL:=[jq 22 4 6,ja 21 22]
abbrev Lb:IL:=[jf 23 7 1,jr 24 51 23,⟨some 25,.val (.fld 1 none (.t 24)),none⟩,⟨some 26,.val (.build [.int .i64 0,.int .i64 0,.int .u64 0,.str []] [(1,1,(.c (.int .i64 2))),(2,1,(.t 25))]),none⟩,js 4 2 26]
abbrev Lc:IL:=[jq 28 4 7,ja 27 28]
abbrev Ld:IL:=[jq 29 4 8,ja 27 29]
abbrev Le:IL:=[jb 30 2 1,jc 31 30,⟨some 32,.val (.build [.int .i64 0,.int .i64 0,.int .u64 0,.str []] [(1,1,(.c (.int .i64 3))),(3,1,(.t 31))]),none⟩,js 4 2 32]
abbrev Lf:IL:=[⟨some 33,.val (.build [.int .i64 0,.int .i64 0,.int .u64 0,.str []] []),none⟩,js 4 2 33]
abbrev r25:RC:=jQ QtK (.seq (jQ QtL (.block 0 (.seq (jQ QtM (.cond (.t 5) (.skip) (jQ QtN (.cond (.t 5) (.skip) (jQ QtO (.cond (.t 5) (.skip) (.reg QtP))))))) (.cond (.t 5) (jQ QtQ (.ret)) (.seq (jQ QtR (.cond (.t 13) (.skip) (.reg QtS))) (.cond (.t 13) (jQ QtT (.ret)) (jQ La (.cond (.t 21) (jQ Lb (.ret)) (.seq (jQ Lc (.cond (.t 27) (.skip) (.reg Ld))) (.cond (.t 27) (jQ Le (.ret)) (.skip))))))))))) (jQ Lf (.ret)))
abbrev o25:List RR:=[.cell 2 (some 4)]
theorem k25:CT 25 34 r25 o25:=ck Tryz.func25 Tryz.ntmps25 (by decide +kernel)
abbrev QtU:IL:=[je 3 3 0,je 5 5 2,yi 6,jd 7 0]
abbrev QtV:IL:=[jf 13 2 3,ja 14 1,jy 15 26 13 14,ja 12 15,jx 16 12 0,jx 17 12 1,ja 8 16,ja 9 17]
abbrev QtW:IL:=[ja 18 9,jz 19 18]
abbrev QtX:IL:=[yi 6,jd 7 10]
abbrev QtY:IL:=[jf 20 2 3,ja 21 8,jy 22 27 20 21,jz 23 22]
abbrev QtZ:IL:=[yi 6,jd 7 1]
abbrev Qt0:IL:=[jf 24 2 3,ja 25 8,jf 26 7 5,yd 27 28 24 25 26,ja 10 27]
abbrev Qt1:IL:=[ja 28 10,yg 29 28 0]
abbrev Qt2:IL:=[ja 30 10,yi 6,ja 7 30]
abbrev Qt3:IL:=[jf 31 2 3,Cv 32 0 2 31,ja 33 8,jf 34 7 5,yd 35 29 32 33 34,ja 11 35]
abbrev Lg:IL:=[ja 36 11,ji 37 0 36,yq 38 37 65536]
abbrev Lh:IL:=[yi 6,jd 7 3]
abbrev Li:IL:=[ja 39 11,ja 6 39,jd 7 0]
abbrev G5:RC:=jQ QtU (jQ QtV (.seq (jQ QtW (.cond (.t 19) (jQ QtX (.ret)) (.skip))) (.seq (jQ QtY (.cond (.t 23) (jQ QtZ (.ret)) (.skip))) (.seq (jQ Qt0 (jQ Qt1 (.cond (.t 29) (jQ Qt2 (.ret)) (.skip)))) (jQ Qt3 (.seq (jQ Lg (.cond (.t 38) (jQ Lh (.ret)) (.skip))) (jQ Li (.ret))))))))
abbrev o10:List RR:=[.tmp 6,.tmp 7]
theorem Lj:CT 10 40 G5 o10:=ck Tryz.func10 Tryz.ntmps10 (by decide +kernel)
abbrev Qt4:IL:=[⟨some 0,.allocN 0 [.nils,.nils],none⟩]
abbrev Qt5:IL:=[⟨some 1,.val (.build [.int .i64 0,.str [],.str [],.int .i64 0,.int .i64 0,.int .i64 0,.int .i64 0,.int .i64 0] [(0,1,(.c (.int .i64 1))),(1,1,(.c (.str [97]))),(3,1,(.c (.int .i64 3))),(5,1,(.c (.int .i64 4))),(6,1,(.c (.int .i64 (-1)))),(7,1,(.c (.int .i64 (-1))))]),none⟩,⟨some 2,.val (.build [.int .i64 0,.str [],.str [],.int .i64 0,.int .i64 0,.int .i64 0,.int .i64 0,.int .i64 0] [(0,1,(.c (.int .i64 2))),(1,1,(.c (.str [98]))),(3,1,(.c (.int .i64 2))),(5,1,(.c (.int .i64 2))),(6,1,(.c (.int .i64 (-1)))),(7,1,(.c (.int .i64 (-1))))]),none⟩,⟨some 3,.val (.build [.int .i64 0,.str [],.str [],.int .i64 0,.int .i64 0,.int .i64 0,.int .i64 0,.int .i64 0] [(0,1,(.c (.int .i64 3))),(1,1,(.c (.str [99]))),(3,1,(.c (.int .i64 4))),(5,1,(.c (.int .i64 4))),(6,1,(.c (.int .i64 (-1)))),(7,1,(.c (.int .i64 (-1))))]),none⟩,⟨some 4,.bsl 8 3 [.int .i64 0,.str [],.str [],.int .i64 0,.int .i64 0,.int .i64 0,.int .i64 0,.int .i64 0] [(0,8,(.t 1)),(8,8,(.t 2)),(16,8,(.t 3))],none⟩,⟨some 5,.val (.build [.str [],.nils,.int .i64 0] [(0,1,(.c (.str [97,46,77]))),(1,1,(.t 4))]),none⟩,⟨some 6,.bsl 3 1 [.str [],.nils,.int .i64 0] [(0,3,(.t 5))],none⟩,Cv 7 0 1 6,js 2 0 7]
abbrev r24:RC:=jQ Qt4 (jQ Qt5 (.ret))
abbrev o24:List RR:=[.cell 0 (some 2)]
theorem k24:CT 24 8 r24 o24:=ck Tryz.func24 Tryz.ntmps24 (by decide +kernel)
abbrev Qt6:IL:=[je 3 3 0,je 5 5 2,ye 6]
abbrev Qt7:IL:=[jf 7 2 3,ja 8 1,jy 9 27 7 8,jz 10 9]
abbrev Qt8:IL:=[ye 6]
abbrev Qt9:IL:=[jf 11 2 3,Cv 12 0 2 11,ja 13 1,jf 14 8 5,yd 15 37 12 13 14,ja 6 15]
abbrev r19:RC:=jQ Qt6 (.seq (jQ Qt7 (.cond (.t 10) (jQ Qt8 (.ret)) (.skip))) (jQ Qt9 (.ret)))
abbrev o19:List RR:=[.tmp 6]
theorem k19:CT 19 16 r19 o19:=ck Tryz.func19 Tryz.ntmps19 (by decide +kernel)
abbrev Qua:IL:=[je 3 3 0,je 5 5 2,yi 6]
abbrev Qub:IL:=[jf 7 2 3,ja 8 1,jy 9 27 7 8,jz 10 9]
abbrev Quc:IL:=[yi 6]
abbrev Qud:IL:=[jf 11 2 3,Cv 12 0 2 11,ja 13 1,jf 14 7 5,yd 15 29 12 13 14,ja 6 15]
abbrev CF:RC:=jQ Qua (.seq (jQ Qub (.cond (.t 10) (jQ Quc (.ret)) (.skip))) (jQ Qud (.ret)))
abbrev o15:List RR:=[.tmp 6]
theorem k15:CT 15 16 CF o15:=ck Tryz.func15 Tryz.ntmps15 (by decide +kernel)
abbrev Que:IL:=[je 3 3 0,je 5 5 2,jd 6 0]
abbrev Quf:IL:=[jf 10 2 3,ja 11 1,jf 12 7 5,yd 13 10 10 11 12,ja 9 13,jx 14 9 0,jx 15 9 1,ja 7 14,ja 8 15]
abbrev Qug:IL:=[ja 16 8,yg 17 16 0]
abbrev Quh:IL:=[jd 6 (-1)]
abbrev Qui:IL:=[ja 18 7,ji 19 0 18,ja 6 19]
abbrev K7:RC:=jQ Que (jQ Quf (.seq (jQ Qug (.cond (.t 17) (jQ Quh (.ret)) (.skip))) (jQ Qui (.ret))))
abbrev o12:List RR:=[.tmp 6]
theorem k12:CT 12 20 K7 o12:=ck Tryz.func12 Tryz.ntmps12 (by decide +kernel)
abbrev Quj:IL:=[I7 2 0]
abbrev Quk:IL:=[ja 3 0,zo 4 3,⟨some 5,.val (.bin .num .shl (.t 4) (.c (.int .u64 1))),none⟩,ja 6 0,jbb 7 6 63,zo 8 7,⟨some 9,.val (.bin .num .xor (.t 5) (.t 8)),none⟩,ja 2 9]
abbrev r50:RC:=jQ Quj (jQ Quk (.ret))
abbrev o50:List RR:=[.tmp 2]
theorem k50:CT 50 10 r50 o50:=ck Tryz.func50 Tryz.ntmps50 (by decide +kernel)
abbrev Qul:IL:=[je 1 1 0,yu 2 2]
abbrev Qum:IL:=[jb 3 0 1,jc 4 3,jq 5 4 6,ja 6 5,jl 7 1 1 6,ju 8 7 6,zh 9 82 8 6,ym 10 9 0 6,jj 11 6 10]
abbrev Qun:IL:=[jb 12 1 1,⟨none,.store 1 (.t 12) (.c (.int .u64 9221120237041090560)),none⟩]
abbrev Quo:IL:=[jf 13 7 1,js 7 2 13]
abbrev r51:RC:=jQ Qul (.seq (jQ Qum (.cond (.t 11) (.reg Qun) (.skip))) (jQ Quo (.ret)))
abbrev o51:List RR:=[.cell 2 (some 7)]
theorem Lk:CT 51 14 r51 o51:=ck Tryz.func51 Tryz.ntmps51 (by decide +kernel)
abbrev Qup:IL:=[je 2 2 0,je 3 3 1,jd 4 0,jh 5]
abbrev Quq:IL:=[jb 7 0 2,jc 8 7,G3 9 53 3,yr 10 52 8 9,ja 6 10]
abbrev Qur:IL:=[ja 11 6,⟨some 12,.val (.mnx true (.t 11) (.c (.int .i64 0))),none⟩,ja 13 6,yn 14 13 0,ja 4 12,ja 5 14]
abbrev r26:RC:=jQ Qup (jQ Quq (jQ Qur (.ret)))
abbrev o26:List RR:=[.tmp 4,.tmp 5]
theorem k26:CT 26 15 r26 o26:=ck Tryz.func26 Tryz.ntmps26 (by decide +kernel)
abbrev Qus:IL:=[je 2 2 0,jh 4]
abbrev Qut:IL:=[ja 5 1,yn 6 5 0,ja 7 6,jg 8 1 7,jl 9 0 2 7,ju 10 9 7,yt 11 1 10 7,zu 12 8 11 7,jj 13 7 12,ja 14 13,zk 15 2 2 14,zh 16 54 15 14,ym 17 16 0 14,jj 18 14 17,ja 4 18]
abbrev r27:RC:=jQ Qus (jQ Qut (.ret))
abbrev o27:List RR:=[.tmp 4]
theorem k27:CT 27 19 r27 o27:=ck Tryz.func27 Tryz.ntmps27 (by decide +kernel)
abbrev Quu:IL:=[je 3 3 0,je 5 5 2,jd 6 0]
abbrev Quv:IL:=[ja 8 1,yo 9 8 0,ja 10 9,jv 11 1 10,jp 12 0 3 10,jt 13 12 10,yf 14 1 13 10,Rd 15 11 14 10,jo 16 10 15]
abbrev Quw:IL:=[jd 6 10]
abbrev Qux:IL:=[jw 17 0 3 2 3,Cv 18 0 2 17,jb 19 0 3,yb 20 0 3 19,ja 21 1,jk 22 3 20 21,ya 23 3 22,jw 24 0 5 7 5,⟨some 25,.call (.f 55) [(.t 18),(.t 23),(.t 24),(.c (.int .i64 1))],none⟩,ja 7 25]
abbrev Quy:IL:=[ja 26 7,yg 27 26 0]
abbrev Quz:IL:=[ja 28 7,ja 6 28]
abbrev QuA:IL:=[jf 29 7 5,jr 30 56 29,yq 31 30 4096]
abbrev QuB:IL:=[jd 6 3]
abbrev QuC:IL:=[jd 6 0]
abbrev r28:RC:=jQ Quu (.seq (jQ Quv (.cond (.t 16) (jQ Quw (.ret)) (.skip))) (.seq (jD Qux (jQ Quy (.cond (.t 27) (jQ Quz (.ret)) (.skip)))) (.seq (jQ QuA (.cond (.t 31) (jQ QuB (.ret)) (.skip))) (jQ QuC (.ret)))))
abbrev o28:List RR:=[.tmp 6]
theorem k28:CT 28 32 r28 o28:=ck Tryz.func28 Tryz.ntmps28 (by decide +kernel)
abbrev QuD:IL:=[je 3 3 0,je 5 5 2,yi 6]
abbrev QuE:IL:=[jb 12 0 3,jf 13 2 12,ja 14 1,jf 15 7 5,yd 16 57 13 14 15,yu 7 7,js 7 7 16]
abbrev QuF:IL:=[ye 8]
abbrev QuG:IL:=[jb 17 6 7,jc 18 17,ja 9 18]
abbrev QuH:IL:=[jb 19 5 7,jc 20 19,ji 21 1 20,jd 22 0]
abbrev QuI:IL:=[jn 23 22 21]
abbrev QuJ:IL:=[jk 24 8 20 22,jf 25 8 24,BL 11 11,js 8 11 25]
abbrev QuK:IL:=[ja 26 9,ji 27 1 26,yq 28 27 0,ja 29 28,jg 30 9 29,BM 31 4 30 0 29,jl 32 0 31 29,yp 33 32 29,jl 34 0 11 29,zb 35 0 11 34 29,zu 36 33 35 29,jj 37 29 36]
abbrev QuL:IL:=[ja 38 8,ja 39 9,⟨some 40,.val (.iaddr 4 none (.t 39) (.c (.int .i64 0))),none⟩,jf 41 4 40,zw 42 4 1 0 4 41,yh 43 4 40 52 38 42,ja 8 43]
abbrev QuM:IL:=[ja 44 9,⟨some 45,.val (.slc (some 4) (.t 44) (some (.c (.int .i64 1))) none none),none⟩,ja 9 45]
abbrev Rh:RC:=.seq (jD QuK (jX 37 2)) (.block 3 (jQ QuL (.reg QuM)))
abbrev Ll:IL:=[ja 46 8,jf 47 2 3,ja 48 1,jf 49 8 11,yd 50 37 47 48 49,yh 51 4 40 52 46 50,ja 8 51]
abbrev Lm:IL:=[jm 52 22 1,ja 22 52]
abbrev QuN:RC:=.gho (.drop 11) (jQ QuI (.seq (jX 23 0) (.seq (.block 1 (jQ QuJ (.seq (.block 2 (.loop Rh)) (.reg Ll)))) (.reg Lm))))
abbrev Ln:IL:=[ja 53 8,ja 54 9,yh 55 4 40 52 53 54,jr 56 58 55,ja 6 56]
abbrev r29:RC:=jQ QuD (jQ QuE (jQ QuF (.gho (.vec 8 8 4) (jQ QuG (.seq (jQ QuH (.block 0 (.loop QuN))) (jQ Ln (.ret)))))))
abbrev o29:List RR:=[.tmp 6]
theorem k29:CT 29 57 r29 o29:=ck Tryz.func29 Tryz.ntmps29 (by decide +kernel)
abbrev QuO:IL:=[je 3 3 0,je 5 5 2,ye 6]
abbrev QuP:IL:=[jb 10 0 3,jb 11 0 10,yb 12 0 3 11,ja 13 1,jk 14 3 12 13,ya 15 3 14,jb 16 0 5,yb 17 0 5 16,jy 18 72 15 17,ja 9 18,jx 19 9 0,jx 20 9 1,zd 7 7,zp 0 7 8 7 19,ja 8 20]
abbrev QuQ:IL:=[ja 21 8,jz 22 21]
abbrev QuR:IL:=[ye 6]
abbrev QuS:IL:=[jw 23 0 7 8 7,jr 24 73 23,jw 25 0 3 2 3,jw 26 0 7 8 7,jb 27 1 5,jw 28 0 5 7 27,⟨some 29,.call (.t 24) [(.t 25),(.t 26),(.t 28)],none⟩,ja 6 29]
abbrev r37:RC:=jQ QuO (jD QuP (.seq (jQ QuQ (.cond (.t 22) (jQ QuR (.ret)) (.skip))) (jD QuS (.ret))))
abbrev o37:List RR:=[.tmp 6]
theorem k37:CT 37 30 r37 o37:=ck Tryz.func37 Tryz.ntmps37 (by decide +kernel)
abbrev QuT:IL:=[jd 4 0]
abbrev QuU:IL:=[ja 6 0,ji 7 1 6,jd 8 0]
abbrev QuV:IL:=[jn 9 8 7]
abbrev QuW:IL:=[ja 10 8,ja 5 10]
abbrev QuX:IL:=[ja 11 1,ja 12 0,ja 13 5,jk 14 3 12 13,jf 15 3 14,G4 16 11 15]
abbrev QuY:IL:=[ja 17 5,ja 4 17]
abbrev QuZ:IL:=[jm 18 8 1,ja 8 18]
abbrev Qu0:RC:=jQ QuV (.seq (jX 9 0) (.seq (.block 1 (jQ QuW (jQ QuX (.cond (.t 16) (jQ QuY (.ret)) (.skip))))) (.reg QuZ)))
abbrev Qu1:IL:=[jd 4 (-1)]
abbrev r52:RC:=jQ QuT (.seq (jQ QuU (.block 0 (.loop Qu0))) (jQ Qu1 (.ret)))
abbrev o52:List RR:=[.tmp 4]
theorem Lo:CT 52 19 r52 o52:=ck Tryz.func52 Tryz.ntmps52 (by decide +kernel)
abbrev Qu2:IL:=[je 2 2 0,jh 3]
abbrev Qu3:IL:=[jb 4 0 2,jc 5 4,jc 6 1,BJ 7 5 6,ja 3 7]
abbrev r53:RC:=jQ Qu2 (jQ Qu3 (.ret))
abbrev o53:List RR:=[.tmp 3]
theorem k53:CT 53 8 r53 o53:=ck Tryz.func53 Tryz.ntmps53 (by decide +kernel)
abbrev Qu4:IL:=[je 1 1 0,jd 2 0]
abbrev Qu5:IL:=[jf 4 2 1,jr 5 83 4,ja 3 5]
abbrev Qu6:IL:=[jd 2 3]
abbrev Qu7:IL:=[jf 7 2 1,jr 8 84 7,ja 6 8]
abbrev Qu8:IL:=[jd 2 8]
abbrev Qu9:IL:=[jf 10 2 1,jr 11 85 10,ja 9 11]
abbrev Qva:IL:=[jd 2 11]
abbrev Qvb:IL:=[jf 13 2 1,jr 14 86 13,ja 12 14]
abbrev Qvc:IL:=[jd 2 9]
abbrev Qvd:IL:=[jf 16 2 1,jr 17 87 16,ja 15 17]
abbrev Lp:IL:=[jd 2 6]
abbrev Lq:IL:=[jf 19 2 1,jr 20 88 19,ja 18 20]
abbrev Lr:IL:=[jd 2 1]
abbrev Ls:IL:=[jf 22 2 1,jr 23 89 22,ja 21 23]
abbrev Lt:IL:=[jd 2 19]
abbrev Lu:IL:=[jd 2 0]
abbrev r54:RC:=jQ Qu4 (.seq (.block 0 (jQ Qu5 (.cond (.t 3) (jQ Qu6 (.ret)) (jQ Qu7 (.cond (.t 6) (jQ Qu8 (.ret)) (jQ Qu9 (.cond (.t 9) (jQ Qva (.ret)) (jQ Qvb (.cond (.t 12) (jQ Qvc (.ret)) (jQ Qvd (.cond (.t 15) (jQ Lp (.ret)) (jQ Lq (.cond (.t 18) (jQ Lr (.ret)) (jQ Ls (.cond (.t 21) (jQ Lt (.ret)) (.skip)))))))))))))))) (jQ Lu (.ret)))
abbrev o54:List RR:=[.tmp 2]
theorem k54:CT 54 24 r54 o54:=ck Tryz.func54 Tryz.ntmps54 (by decide +kernel)
abbrev Qve:IL:=[je 4 4 0,je 5 5 1,je 6 6 2,jd 8 0]
abbrev Qvf:IL:=[jb 17 0 6,jc 18 17,yg 19 18 10,ja 20 19,yv 21 7 6 20,zi 22 90 21 20,jo 23 20 22,ja 16 23]
abbrev Qvg:IL:=[jd 8 12]
abbrev Qvh:IL:=[ja 25 3,yq 26 25 16,ja 24 26]
abbrev Qvi:IL:=[jd 8 17]
abbrev Qvj:IL:=[jb 27 5 6,jc 28 27,ji 29 1 28,jd 30 0]
abbrev Qvk:IL:=[jn 31 30 29]
abbrev Qvl:IL:=[ja 32 30,ja 9 32]
abbrev Qvm:IL:=[jf 33 2 4,jf 34 3 5,jb 35 5 6,jc 36 35,ja 37 9,ja 38 3,⟨some 39,.call (.f 91) [(.t 33),(.t 34),(.t 36),(.t 37),(.t 38)],none⟩,ja 10 39]
abbrev Qvn:IL:=[ja 40 10,yg 41 40 0]
abbrev Lv:IL:=[ja 42 10,ja 8 42]
abbrev Lw:IL:=[jm 43 30 1,ja 30 43]
abbrev Ri:RC:=jQ Qvk (.seq (jX 31 1) (.seq (.block 2 (jQ Qvl (jQ Qvm (jQ Qvn (.cond (.t 41) (jQ Lv (.ret)) (.skip)))))) (.reg Lw)))
abbrev Lx:IL:=[jb 44 1 5,jc 45 44,ji 46 1 45,jd 47 0]
abbrev Ly:IL:=[jn 48 47 46]
abbrev Lz:IL:=[jk 49 8 45 47,jf 50 8 49,zd 12 12,js 8 12 50]
abbrev LA:IL:=[jb 51 3 12,jc 52 51,jq 53 52 1,ja 54 53,jl 55 5 6 54,ju 56 55 54,⟨some 57,.val (.mkfn (.func 93) [] [(.t 12)]),(some (54,true))⟩,⟨some 58,.callF (.f 92) [(.t 56),(.t 57)],(some (54,true))⟩,yx 59 58 54,jj 60 54 59]
abbrev LB:IL:=[jd 8 14]
abbrev LC:IL:=[jm 61 47 1,ja 47 61]
abbrev Rj:RC:=.gho (.drop 12) (jQ Ly (.seq (jX 48 3) (.seq (.block 4 (jQ Lz (jQ LA (.cond (.t 60) (jQ LB (.ret)) (.skip))))) (.reg LC))))
abbrev LD:IL:=[jb 62 6 6,jc 63 62,ji 64 1 63,jd 65 0]
abbrev LE:IL:=[jn 66 65 64]
abbrev LF:IL:=[jk 67 4 63 65,jf 68 4 67,zn 14 14,js 4 14 68]
abbrev LG:IL:=[jf 69 2 4,jf 70 3 5,jf 71 4 14,yd 72 94 69 70 71,ja 15 72]
abbrev LH:IL:=[ja 73 15,yg 74 73 0]
abbrev LI:IL:=[ja 75 15,ja 8 75]
abbrev LJ:IL:=[jm 76 65 1,ja 65 76]
abbrev Rk:RC:=.gho (.drop 14) (jQ LE (.seq (jX 66 5) (.seq (.block 6 (jQ LF (jQ LG (jQ LH (.cond (.t 74) (jQ LI (.ret)) (.skip)))))) (.reg LJ))))
abbrev LK:IL:=[jd 8 0]
abbrev r55:RC:=jQ Qve (.seq (.block 0 (jQ Qvf (.cond (.t 16) (jQ Qvg (.ret)) (jQ Qvh (.cond (.t 24) (jQ Qvi (.ret)) (.skip)))))) (.seq (jQ Qvj (.block 1 (.loop Ri))) (.seq (jQ Lx (.block 3 (.loop Rj))) (.seq (jQ LD (.block 5 (.loop Rk))) (jQ LK (.ret))))))
abbrev o55:List RR:=[.tmp 8]
theorem LL:CT 55 77 r55 o55:=ck Tryz.func55 Tryz.ntmps55 (by decide +kernel)
abbrev Qvo:IL:=[je 1 1 0,jd 2 0]
abbrev Qvp:IL:=[jb 6 6 1,jc 7 6,ji 8 1 7,⟨some 9,.val (.bin .num .add (.c (.int .i64 1)) (.t 8)),none⟩,ja 3 9]
abbrev Qvq:IL:=[jf 10 7 1,jr 11 95 10,ji 12 1 11,jd 13 0]
abbrev Qvr:IL:=[jn 14 13 12]
abbrev Qvs:IL:=[jk 15 7 11 13,jf 16 7 15,yu 5 5,js 7 5 16]
abbrev Qvt:IL:=[ja 17 3,jf 18 7 5,jr 19 56 18,yj 20 17 19,ja 3 20]
abbrev Qvu:IL:=[jm 21 13 1,ja 13 21]
abbrev Qvv:RC:=.gho (.drop 5) (jQ Qvr (.seq (jX 14 0) (.seq (.block 1 (jQ Qvs (.reg Qvt))) (.reg Qvu))))
abbrev Qvw:IL:=[ja 22 3,ja 2 22]
abbrev r56:RC:=jQ Qvo (jQ Qvp (.seq (jQ Qvq (.block 0 (.loop Qvv))) (jQ Qvw (.ret))))
abbrev o56:List RR:=[.tmp 2]
theorem k56:CT 56 23 r56 o56:=ck Tryz.func56 Tryz.ntmps56 (by decide +kernel)
abbrev Qvx:IL:=[je 3 3 0,je 5 5 2,yu 6 6]
abbrev Qvy:IL:=[jb 14 6 5,jc 15 14,BN 16 96 15,⟨some 17,.val (.build [.int .i64 0,.int .u64 0,.str [],.nils,.nils,.nils,.nils] [(0,1,(.c (.int .i64 10))),(6,1,(.t 16))]),none⟩,yu 7 7,js 7 7 17]
abbrev Qvz:IL:=[ja 18 1,yo 19 18 0,ja 20 19,jv 21 1 20,jp 22 0 3 20,jt 23 22 20,yf 24 1 23 20,Rd 25 21 24 20,jo 26 20 25]
abbrev QvA:IL:=[jf 27 7 7,js 7 6 27]
abbrev QvB:IL:=[jb 28 5 5,jc 29 28,jr 30 97 29,ji 31 1 30,jd 32 0]
abbrev QvC:IL:=[jn 33 32 31]
abbrev QvD:IL:=[jk 34 8 30 32,jf 35 8 34,BL 9 9,js 8 9 35]
abbrev QvE:IL:=[jb 37 0 3,yb 38 0 3 37,ja 39 1,jk 40 3 38 39,ya 41 3 40,jb 42 0 9,yb 43 0 9 42,jy 44 72 41 43,ja 36 44,jx 45 36 0,jx 46 36 1,zd 10 10,zp 0 10 8 10 45,ja 11 46]
abbrev QvF:IL:=[jb 47 3 10,jc 48 47,jq 49 48 3,ja 50 49,jp 51 3 10 50,jt 52 51 50,ys 53 52 4 50,jo 54 50 53,ja 55 54,jp 56 3 10 55,jt 57 56 55,ys 58 57 5 55,jo 59 55 58,ja 12 59]
abbrev QvG:IL:=[jf 60 2 3,jf 61 8 10,jb 62 1 9,jf 63 7 62,yd 64 98 60 61 63,yu 13 13,js 7 13 64]
abbrev LM:IL:=[ja 65 12,jz 66 65,ja 67 66,yv 68 7 13 67,zi 69 99 68 67,ze 70 69 67,jo 71 67 70]
abbrev LN:IL:=[jb 72 5 7,jc 73 72,jb 74 0 9,jc 75 74,jf 76 7 13,⟨some 77,.val (.build [.int .i64 0,.int .i64 0,.int .u64 0,.str [],.nils,.nils,.nils,.nils] [(0,1,(.t 75)),(1,7,(.t 76))]),none⟩,⟨some 78,.bsl 8 1 [.int .i64 0,.int .i64 0,.int .u64 0,.str [],.nils,.nils,.nils,.nils] [(0,8,(.t 77))],none⟩,yh 79 8 136 47 73 78,jb 80 5 7,js 1 80 79]
abbrev LO:IL:=[jm 81 32 1,ja 32 81]
abbrev QvH:RC:=.gho (.drop 13) (.gho (.drop 10) (.gho (.drop 9) (jQ QvC (.seq (jX 33 0) (.seq (.block 1 (jQ QvD (jD QvE (jQ QvF (jQ QvG (jQ LM (.cond (.t 71) (.reg LN) (.skip)))))))) (.reg LO))))))
abbrev LP:IL:=[jb 82 6 7,jc 83 82,Ul 84 100 83 101]
abbrev LQ:IL:=[jf 85 7 7,js 7 6 85]
abbrev r57:RC:=jQ Qvx (jQ Qvy (.gho (.vecc 7 5 1100 8) (.seq (jQ Qvz (.cond (.t 26) (jQ QvA (.ret)) (.skip))) (.seq (jQ QvB (.block 0 (.loop QvH))) (jQ LP (jQ LQ (.ret)))))))
abbrev o57:List RR:=[.cell 6 (some 7)]
theorem k57:CT 57 86 r57 o57:=ck Tryz.func57 Tryz.ntmps57 (by decide +kernel)
abbrev QvI:IL:=[yi 2]
abbrev QvJ:IL:=[⟨some 3,.allocN 2128 [.nilp,.nils],none⟩]
abbrev QvK:IL:=[ja 8 0,ji 9 1 8,jd 10 0]
abbrev QvL:IL:=[jn 11 10 9]
abbrev QvM:IL:=[jk 12 4 8 10,jf 13 4 12,zn 5 5,js 4 5 13]
abbrev QvN:IL:=[jf 14 4 5,jr 15 103 14,jz 16 15]
abbrev QvO:IL:=[jb 18 0 5,jc 19 18,jb 20 1 5,jc 21 20,jy 22 104 19 21,ja 17 22,jx 23 17 0,jx 24 17 1,ja 6 23,ja 7 24]
abbrev QvP:IL:=[ja 25 6,yr 26 105 3 25]
abbrev LR:IL:=[jb 37 1 5,jc 38 37,jq 39 38 2,ja 36 39]
abbrev LS:IL:=[jb 40 2 5,jc 41 40,jr 42 106 41,yr 43 105 3 42]
abbrev LT:IL:=[jb 45 1 5,jc 46 45,jr 47 107 46,ja 44 47]
abbrev LU:IL:=[jb 48 2 5,jc 49 48,jr 50 108 49,yr 51 105 3 50]
abbrev QvQ:IL:=[jb 27 3 5,jc 28 27,ji 29 0 28,zo 30 29,jr 31 108 30,yr 32 105 3 31]
abbrev QvR:IL:=[jb 33 3 5,jc 34 33,yr 35 105 3 34]
abbrev LV:IL:=[jm 52 10 1,ja 10 52]
abbrev QvS:RC:=.gho (.drop 5) (jQ QvL (.seq (jX 11 0) (.seq (.block 1 (jQ QvM (.seq (jQ QvN (.cond (.t 16) (.exit 1) (.skip))) (jQ QvO (jQ QvP (.block 2 (jQ LR (.cond (.t 36) (.reg LS) (jQ LT (.cond (.t 44) (.reg LU) (jQ QvQ (.reg QvR)))))))))))) (.reg LV))))
abbrev LW:IL:=[BN 53 109 3,ja 2 53]
abbrev r58:RC:=jQ QvI (jQ QvJ (.gho (.vecc 2128 1 2005 1) (.seq (jQ QvK (.block 0 (.loop QvS))) (jQ LW (.ret)))))
abbrev o58:List RR:=[.tmp 2]
theorem k58:CT 58 54 r58 o58:=ck Tryz.func58 Tryz.ntmps58 (by decide +kernel)
abbrev QvT:IL:=[je 2 2 0,je 3 3 1,zd 4 4,jh 5]
abbrev QvU:IL:=[G3 6 116 3,⟨some 7,.val (.build [.nilf] [(0,1,(.t 6))]),none⟩,jf 8 3 2,yr 9 117 7 8,jx 10 9 0,jx 11 9 1,js 8 4 10,ja 5 11]
abbrev r72:RC:=jQ QvT (jQ QvU (.ret))
abbrev o72:List RR:=[.cell 4 (some 8),.tmp 5]
theorem k72:CT 72 12 r72 o72:=ck Tryz.func72 Tryz.ntmps72 (by decide +kernel)
abbrev QvV:IL:=[je 1 1 0,⟨some 2,.val (.mov (.c (.nilf))),none⟩]
abbrev QvW:IL:=[jb 4 3 1,jc 5 4,jq 6 5 5,ja 3 6]
abbrev QvX:IL:=[⟨some 2,.val (.mov (.f 118)),none⟩]
abbrev QvY:IL:=[jf 8 8 1,jr 9 119 8,ja 7 9]
abbrev QvZ:IL:=[⟨some 2,.val (.mov (.f 120)),none⟩]
abbrev Qv0:IL:=[jb 11 3 1,jc 12 11,jq 13 12 4,ja 10 13]
abbrev Qv1:IL:=[⟨some 2,.val (.mov (.f 121)),none⟩]
abbrev Qv2:IL:=[⟨some 2,.val (.mov (.f 122)),none⟩]
abbrev r73:RC:=jQ QvV (.seq (.block 0 (jQ QvW (.cond (.t 3) (jQ QvX (.ret)) (jQ QvY (.cond (.t 7) (jQ QvZ (.ret)) (jQ Qv0 (.cond (.t 10) (jQ Qv1 (.ret)) (.skip)))))))) (jQ Qv2 (.ret)))
abbrev o73:List RR:=[.tmp 2]
theorem k73:CT 73 14 r73 o73:=ck Tryz.func73 Tryz.ntmps73 (by decide +kernel)
abbrev Qv3:IL:=[je 1 1 0,jh 2]
abbrev Qv4:IL:=[jb 3 0 1,jc 4 3,ji 5 1 4,jb 6 1 1,jc 7 6,ji 8 1 7,⟨some 9,.val (.mnx true (.t 5) (.t 8)),none⟩,yq 10 9 64,ja 11 10,jp 12 0 1 11,jt 13 12 11,zq 14 133 13 134 11,jo 15 11 14,ja 16 15,jp 17 1 1 16,jt 18 17 16,zq 19 135 18 136 16,jo 20 16 19,ja 2 20]
abbrev r83:RC:=jQ Qv3 (jQ Qv4 (.ret))
abbrev o83:List RR:=[.tmp 2]
theorem k83:CT 83 21 r83 o83:=ck Tryz.func83 Tryz.ntmps83 (by decide +kernel)
abbrev Qv5:IL:=[je 1 1 0,jh 2]
abbrev Qv6:IL:=[jb 3 0 1,jc 4 3,Ul 5 133 4 137,ja 6 5,jp 7 1 1 6,jt 8 7 6,zq 9 135 8 142 6,jo 10 6 9,ja 2 10]
abbrev r84:RC:=jQ Qv5 (jQ Qv6 (.ret))
abbrev o84:List RR:=[.tmp 2]
theorem k84:CT 84 11 r84 o84:=ck Tryz.func84 Tryz.ntmps84 (by decide +kernel)
abbrev Qv7:IL:=[je 1 1 0,jh 2]
abbrev Qv8:IL:=[jb 3 0 1,jc 4 3,Ul 5 145 4 146,jz 6 5,ja 7 6,jp 8 1 1 7,jt 9 8 7,zq 10 147 9 148 7,ze 11 10 7,jo 12 7 11,ja 13 12,jp 14 0 1 13,jt 15 14 13,zq 16 133 15 149 13,jo 17 13 16,ja 18 17,jp 19 1 1 18,jt 20 19 18,zq 21 135 20 152 18,jo 22 18 21,ja 2 22]
abbrev r85:RC:=jQ Qv7 (jQ Qv8 (.ret))
abbrev o85:List RR:=[.tmp 2]
theorem k85:CT 85 23 r85 o85:=ck Tryz.func85 Tryz.ntmps85 (by decide +kernel)
abbrev Qv9:IL:=[je 1 1 0,jh 2]
abbrev Qwa:IL:=[jb 3 0 1,jc 4 3,G3 5 155 1,yr 6 133 4 5,ja 7 6,jp 8 1 1 7,jt 9 8 7,zq 10 135 9 159 7,jo 11 7 10,ja 2 11]
abbrev r86:RC:=jQ Qv9 (jQ Qwa (.ret))
abbrev o86:List RR:=[.tmp 2]
theorem k86:CT 86 12 r86 o86:=ck Tryz.func86 Tryz.ntmps86 (by decide +kernel)
abbrev Qwb:IL:=[je 1 1 0,jh 2]
abbrev Qwc:IL:=[jb 3 0 1,jc 4 3,Ul 5 133 4 162,ja 6 5,jp 7 1 1 6,jt 8 7 6,zq 9 135 8 164 6,jo 10 6 9,ja 2 10]
abbrev r87:RC:=jQ Qwb (jQ Qwc (.ret))
abbrev o87:List RR:=[.tmp 2]
theorem k87:CT 87 11 r87 o87:=ck Tryz.func87 Tryz.ntmps87 (by decide +kernel)
abbrev Qwd:IL:=[je 1 1 0,jh 2]
abbrev Qwe:IL:=[jb 3 0 1,jc 4 3,G3 5 165 1,yr 6 133 4 5,ja 7 6,jp 8 1 1 7,jt 9 8 7,zq 10 135 9 171 7,jo 11 7 10,ja 2 11]
abbrev r88:RC:=jQ Qwd (jQ Qwe (.ret))
abbrev o88:List RR:=[.tmp 2]
theorem k88:CT 88 12 r88 o88:=ck Tryz.func88 Tryz.ntmps88 (by decide +kernel)
abbrev Qwf:IL:=[je 1 1 0,jh 2]
abbrev Qwg:IL:=[jb 6 0 1,jc 7 6,ji 8 1 7,⟨some 9,.mk 9 4 1 1 [.bool false] (.t 8) (.t 8),none⟩,⟨some 3,.allocN 3 [.nils],none⟩,js 1 3 9]
abbrev Qwh:IL:=[jb 10 0 1,jc 11 10,ji 12 1 11,jd 13 0]
abbrev Qwi:IL:=[jn 14 13 12]
abbrev Qwj:IL:=[jb 15 0 1,jc 16 15,ji 17 1 16,jd 18 0]
abbrev Qwk:IL:=[jn 19 18 17]
abbrev Qwl:IL:=[ja 20 18,jk 21 3 16 18,jf 22 3 21,⟨some 5,.allocN 5 [.str [],.nils,.int .i64 0],none⟩,ja 4 20,js 3 5 22]
abbrev Qwm:IL:=[yb 23 0 3 3,ja 24 4,yb 25 0 3 3,ja 26 4,jk 27 1 25 26,zx 28 27,ja 29 28,jp 30 1 5 29,zl 31 0 5 30 29,⟨some 32,.val (.mkfn (.func 174) [] [(.t 3)]),(some (29,false))⟩,⟨some 33,.callK 0 3 (.f 139) [(.t 31),(.t 32)],(some (29,false))⟩,ze 34 33 29,jo 35 29 34,jk 36 1 23 24,js 1 36 35]
abbrev Qwn:IL:=[jm 37 18 1,ja 18 37]
abbrev Qwo:RC:=.gho (.drop 5) (jQ Qwk (.seq (jX 19 2) (.seq (.block 3 (jQ Qwl (.draw Qwm))) (.reg Qwn))))
abbrev Qwp:IL:=[jm 38 13 1,ja 13 38]
abbrev Qwq:RC:=.gho (.drop 5) (jQ Qwi (.seq (jX 14 0) (.seq (.block 1 (jQ Qwj (.block 2 (.loop Qwo)))) (.reg Qwp))))
abbrev LX:IL:=[jc 39 3,⟨some 40,.call (.f 175) [(.t 39),(.c (.bool false))],none⟩,ja 2 40]
abbrev r89:RC:=jQ Qwf (jQ Qwg (.seq (jQ Qwh (.block 0 (.loop Qwq))) (jQ LX (.ret))))
abbrev o89:List RR:=[.tmp 2]
theorem k89:CT 89 41 r89 o89:=ck Tryz.func89 Tryz.ntmps89 (by decide +kernel)
abbrev Qwr:IL:=[je 1 1 0,jh 2]
abbrev Qws:IL:=[jb 4 0 1,jc 5 4,jq 6 5 7,ja 7 6,jp 8 0 1 7,jt 9 8 7,ys 10 9 8 7,jo 11 7 10,ja 3 11]
abbrev Qwt:IL:=[jb 12 0 1,jc 13 12,yg 14 13 11,ja 15 14,jl 16 3 1 15,ju 17 16 15,yt 18 1 17 15,BK 19 18 0 15,jj 20 15 19,ja 21 20,jp 22 0 1 21,jt 23 22 21,Ct 24 23 12 21,jv 25 24 21,jl 26 4 1 25,ju 27 26 25,yt 28 1 27 25,BK 29 28 0 25,yw 30 25 29 21,jo 31 21 30,ja 32 31,jp 33 0 1 32,jt 34 33 32,Ct 35 34 10 32,jv 36 35 32,jl 37 5 1 36,ju 38 37 36,yt 39 1 38 36,jl 40 6 1 36,ju 41 40 36,yt 42 1 41 36,⟨some 43,.val (.bin .num .add (.t 39) (.t 42)),(some (36,true))⟩,BK 44 43 0 36,yw 45 36 44 32,jo 46 32 45,ja 47 46,jp 48 1 1 47,jt 49 48 47,⟨some 50,.val (.bin .num .neq (.t 49) (.c (.int .u64 0))),(some (47,false))⟩,jv 51 50 47,jg 52 3 51,jg 53 52 51,jp 54 0 1 53,jt 55 54 53,⟨some 56,.val (.bin .num .geq (.t 55) (.c (.int .i64 10))),(some (53,false))⟩,jv 57 56 53,jl 58 0 1 57,ju 59 58 57,yy 60 59 12 57,yw 61 57 60 53,zf 62 53 61 51,yw 63 51 62 47,jo 64 47 63,ja 65 64,jp 66 2 1 65,jt 67 66 65,⟨some 68,.val (.bin .str .neq (.t 67) (.c (.str []))),(some (65,false))⟩,jv 69 68 65,jg 70 3 69,yx 71 70 69,yw 72 69 71 65,jo 73 65 72,ja 2 73]
abbrev r90:RC:=jQ Qwr (jQ Qws (jQ Qwt (.ret)))
abbrev o90:List RR:=[.tmp 2]
theorem k90:CT 90 74 r90 o90:=ck Tryz.func90 Tryz.ntmps90 (by decide +kernel)
abbrev Qwu:IL:=[je 5 5 0,je 6 6 1,jd 10 0]
abbrev Qwv:IL:=[jw 18 0 6 3 6,ja 19 2,ja 20 3,jk 21 8 19 20,jb 22 0 21,zx 23 22,jy 24 72 18 23,ja 17 24,jx 25 17 0,jx 26 17 1,zd 11 11,zp 0 11 8 11 25,ja 12 26]
abbrev Qww:IL:=[ja 27 12,jz 28 27]
abbrev Qwx:IL:=[jd 10 8]
abbrev Qwy:IL:=[ja 29 2,ja 30 3,BI 31 8 29 30,G3 32 176 11,yr 33 92 31 32]
abbrev Qwz:IL:=[jd 10 9]
abbrev QwA:IL:=[ja 34 2,ja 35 3,BI 36 8 34 35,ji 37 1 36,jd 38 0]
abbrev QwB:IL:=[jn 39 38 37]
abbrev QwC:IL:=[jk 40 8 36 38,jf 41 8 40,BL 14 14,js 8 14 41]
abbrev QwD:IL:=[jf 43 3 6,jb 44 0 14,jc 45 44,jy 46 72 43 45,ja 42 46,jx 47 42 0,jx 48 42 1,zd 15 15,js 8 15 47,ja 16 48]
abbrev LY:IL:=[jb 49 7 11,jc 50 49,yg 51 50 (-1),ja 52 51,jl 53 7 15 52,ju 54 53 52,jl 55 7 11 52,ju 56 55 52,Rg 57 54 56 52,jj 58 52 57]
abbrev LZ:IL:=[jd 10 15]
abbrev L0:IL:=[jm 59 38 1,ja 38 59]
abbrev QwE:RC:=.gho (.drop 15) (.gho (.drop 14) (jQ QwB (.seq (jX 39 0) (.seq (.block 1 (jQ QwC (jQ QwD (jQ LY (.cond (.t 58) (jQ LZ (.ret)) (.skip)))))) (.reg L0)))))
abbrev L1:IL:=[jw 60 0 5 2 5,jw 61 0 11 8 11,ja 62 2,ja 63 3,jk 64 8 62 63,jb 65 1 64,ya 66 7 65,ja 67 4,zj 68 177 60 61 66 67,ja 10 68]
abbrev r91:RC:=jQ Qwu (jD Qwv (.seq (jQ Qww (.cond (.t 28) (jQ Qwx (.ret)) (.skip))) (.seq (jQ Qwy (.cond (.t 33) (jQ Qwz (.ret)) (.skip))) (.seq (jQ QwA (.block 0 (.loop QwE))) (jD L1 (.ret))))))
abbrev o91:List RR:=[.tmp 10]
theorem k91:CT 91 69 r91 o91:=ck Tryz.func91 Tryz.ntmps91 (by decide +kernel)
abbrev QwF:IL:=[jh 4]
abbrev QwG:IL:=[ja 5 0,ja 6 1,yr 7 178 5 6,yn 8 7 0,ja 4 8]
abbrev r92:RC:=jQ QwF (jQ QwG (.ret))
abbrev o92:List RR:=[.tmp 4]
theorem k92:CT 92 9 r92 o92:=ck Tryz.func92 Tryz.ntmps92 (by decide +kernel)
abbrev QwH:IL:=[je 1 1 0,ye 2]
abbrev QwI:IL:=[jb 8 3 1,jc 9 8,BN 10 180 9,ja 3 10]
abbrev QwJ:IL:=[jb 11 4 1,jc 12 11,ji 13 1 12,jd 14 0]
abbrev QwK:IL:=[jn 15 14 13]
abbrev QwL:IL:=[jk 16 14 12 14,jf 17 14 16,Cw 5 5,js 14 5 17]
abbrev QwM:IL:=[ja 18 3,jb 19 0 5,jf 20 7 19,jb 21 7 5,jf 22 7 21,⟨some 23,.bsl 7 2 [.int .i64 0,.int .u64 0,.str [],.nils,.nils,.nils,.nils] [(0,7,(.t 20)),(7,7,(.t 22))],none⟩,yh 24 7 128 32 18 23,ja 3 24]
abbrev QwN:IL:=[jm 25 14 1,ja 14 25]
abbrev QwO:RC:=.gho (.drop 5) (jQ QwK (.seq (jX 15 0) (.seq (.block 1 (jQ QwL (.reg QwM))) (.reg QwN))))
abbrev QwP:IL:=[jb 26 5 1,jc 27 26,ji 28 1 27,jd 29 0]
abbrev QwQ:IL:=[jn 30 29 28]
abbrev QwR:IL:=[jk 31 8 27 29,jf 32 8 31,BL 7 7,js 8 7 32]
abbrev L2:IL:=[ja 33 3,jb 34 1 7,jf 35 7 34,⟨some 36,.bsl 7 1 [.int .i64 0,.int .u64 0,.str [],.nils,.nils,.nils,.nils] [(0,7,(.t 35))],none⟩,yh 37 7 128 32 33 36,ja 3 37]
abbrev L3:IL:=[jm 38 29 1,ja 29 38]
abbrev QwS:RC:=.gho (.drop 7) (jQ QwQ (.seq (jX 30 2) (.seq (.block 3 (jQ QwR (.reg L2))) (.reg L3))))
abbrev L4:IL:=[ja 39 3,ja 2 39]
abbrev r95:RC:=jQ QwH (jQ QwI (.seq (jQ QwJ (.block 0 (.loop QwO))) (.seq (jQ QwP (.block 2 (.loop QwS))) (jQ L4 (.ret)))))
abbrev o95:List RR:=[.tmp 2]
theorem k95:CT 95 40 r95 o95:=ck Tryz.func95 Tryz.ntmps95 (by decide +kernel)
def NR:IL:=[ye 2]
def NS:IL:=[ja 3 0,⟨some 4,.isnil false (.t 3),none⟩]
def NT:IL:=[ye 2]
def NU:IL:=[⟨some 5,.bsl0 5 4,none⟩,ja 6 0,yh 7 4 40 52 5 6,ja 2 7]
def Rl:RC:=jQ NR (.seq (jQ NS (.cond (.t 4) (jQ NT (.gho (.vec 2 2 4) (.gho (.give 2 2 1 1000) (.ret)))) (.skip))) (jQ NU (.gho (.give 2 5 1 1000) (.ret))))
def BQ:List RR:=[.tmp 2]
theorem L5:CT 96 8 Rl BQ:=ck Tryz.func96 Tryz.ntmps96 (by decide +kernel)
abbrev QwT:IL:=[ye 2]
abbrev QwU:IL:=[ja 7 0,BN 8 181 7,ja 3 8]
abbrev QwV:IL:=[ja 9 3,Ul 10 182 9 183]
abbrev QwW:IL:=[ye 4]
abbrev QwX:IL:=[ja 11 3,ji 12 1 11,jd 13 0]
abbrev QwY:IL:=[jn 14 13 12]
abbrev QwZ:IL:=[ja 15 13,jk 16 8 11 13,jf 17 8 16,BL 6 6,ja 5 15,js 8 6 17]
abbrev Qw0:IL:=[ja 18 5,jm 19 18 1,ja 20 3,ji 21 1 20,zm 22 19 21,ja 23 22,jp 24 0 6 23,zl 25 0 6 24 23,jv 26 3 23,jv 27 5 23,⟨some 28,.val (.bin .num .add (.t 27) (.c (.int .i64 1))),(some (23,false))⟩,yz 29 8 26 28 23,jp 30 0 29 23,BO 31 30 23,Ck 32 25 31 23,jo 33 23 32]
abbrev Qw1:IL:=[ja 34 4,jf 35 8 6,⟨some 36,.bsl 8 1 [.int .i64 0,.int .i64 0,.int .u64 0,.str [],.nils,.nils,.nils,.nils] [(0,8,(.t 35))],none⟩,yh 37 8 136 47 34 36,ja 4 37]
abbrev Qw2:IL:=[jm 38 13 1,ja 13 38]
abbrev Qw3:RC:=.gho (.drop 6) (jQ QwY (.seq (jX 14 0) (.seq (.block 1 (jQ QwZ (jD Qw0 (.cond (.t 33) (.reg Qw1) (.skip))))) (.reg Qw2))))
abbrev L6:IL:=[ja 39 4,ja 2 39]
abbrev r97:RC:=jQ QwT (jQ QwU (jQ QwV (jQ QwW (.gho (.vec 4 4 8) (.seq (jQ QwX (.block 0 (.loop Qw3))) (jQ L6 (.ret)))))))
abbrev o97:List RR:=[.tmp 2]
theorem k97:CT 97 40 r97 o97:=ck Tryz.func97 Tryz.ntmps97 (by decide +kernel)
abbrev Qw4:IL:=[je 3 3 0,je 4 4 1,je 5 5 2,yu 6 6]
abbrev Qw5:IL:=[jb 13 3 4,jc 14 13]
abbrev Qw6:IL:=[jq 16 14 4,ja 15 16]
abbrev Qw7:IL:=[⟨some 17,.val (.build [.int .i64 0,.int .u64 0,.str [],.nils,.nils,.nils,.nils] [(0,1,(.c (.int .i64 11)))]),none⟩,yu 7 7,js 7 7 17]
abbrev Qw8:IL:=[jb 18 3 5,jc 19 18,ji 20 1 19,jd 21 0]
abbrev Qw9:IL:=[jn 22 21 20]
abbrev Qxa:IL:=[jk 23 7 19 21,jf 24 7 23,yu 9 9,js 7 9 24]
abbrev Qxb:IL:=[jb 25 3 7,yb 26 0 7 25,jw 27 0 3 2 3,jw 28 0 4 8 4,jw 29 0 9 7 9,yd 30 184 27 28 29,⟨some 31,.bsl 7 1 [.int .i64 0,.int .u64 0,.str [],.nils,.nils,.nils,.nils] [(0,7,(.t 30))],none⟩,yh 32 7 128 32 26 31,jb 33 3 7,zp 0 7 1 33 32]
abbrev Qxc:IL:=[jm 34 21 1,ja 21 34]
abbrev Qxd:RC:=.gho (.drop 9) (jQ Qw9 (.seq (jX 22 1) (.seq (.block 2 (jQ Qxa (.draw Qxb))) (.reg Qxc))))
abbrev Qxe:IL:=[jf 35 7 7,js 7 6 35]
abbrev L7:IL:=[jq 37 14 5,ja 36 37]
abbrev L8:IL:=[⟨some 38,.val (.build [.int .i64 0,.int .u64 0,.str [],.nils,.nils,.nils,.nils] [(0,1,(.c (.int .i64 12)))]),none⟩,yu 10 10,js 7 10 38]
abbrev L9:IL:=[jb 39 4 5,jc 40 39,jr 41 185 40,ji 42 1 41,jd 43 0]
abbrev Qaa:IL:=[jn 44 43 42]
abbrev Qab:IL:=[jk 45 14 41 43,jf 46 14 45,Cw 12 12,js 14 12 46]
abbrev Qac:IL:=[jb 47 4 10,yb 48 0 10 47,jb 49 0 12,jw 50 0 12 7 49,jr 51 51 50,jw 52 0 3 2 3,jw 53 0 4 8 4,jb 54 7 12,jw 55 0 12 7 54,yd 56 184 52 53 55,⟨some 57,.val (.build [.int .i64 0,.int .u64 0,.str [],.nils,.nils,.nils,.nils,.int .i64 0,.int .u64 0,.str [],.nils,.nils,.nils,.nils] [(0,7,(.t 51)),(7,7,(.t 56))]),none⟩,⟨some 58,.bsl 14 1 [.int .i64 0,.int .u64 0,.str [],.nils,.nils,.nils,.nils,.int .i64 0,.int .u64 0,.str [],.nils,.nils,.nils,.nils] [(0,14,(.t 57))],none⟩,yh 59 14 256 75 48 58,jb 60 4 10,zp 0 10 1 60 59]
abbrev Qad:IL:=[jm 61 43 1,ja 43 61]
abbrev Qxf:RC:=.gho (.drop 12) (jQ Qaa (.seq (jX 44 3) (.seq (.block 4 (jQ Qab (.draw Qac))) (.reg Qad))))
abbrev Qae:IL:=[jf 62 7 10,js 7 6 62]
abbrev Qaf:IL:=[jf 63 2 3,jf 64 8 4,jf 65 7 5,yd 66 184 63 64 65,js 7 6 66]
abbrev r98:RC:=jQ Qw4 (.seq (jQ Qw5 (.block 0 (jQ Qw6 (.cond (.t 15) (jQ Qw7 (.gho (.vecc 7 3 1100 7) (.seq (jQ Qw8 (.block 1 (.loop Qxd))) (jQ Qxe (.ret))))) (jQ L7 (.cond (.t 36) (jQ L8 (.gho (.vecc 10 4 1101 14) (.seq (jQ L9 (.block 3 (.loop Qxf))) (jQ Qae (.ret))))) (.skip))))))) (jQ Qaf (.ret)))
abbrev o98:List RR:=[.cell 6 (some 7)]
theorem Rm:CT 98 67 r98 o98:=ck Tryz.func98 Tryz.ntmps98 (by decide +kernel)
abbrev Qxg:IL:=[je 1 1 0,jh 2]
abbrev Qxh:IL:=[jb 3 0 1,jc 4 3,jq 5 4 11,ja 6 5,jl 7 3 1 6,ju 8 7 6,yt 9 1 8 6,ym 10 9 0 6,jj 11 6 10,ja 12 11,jp 13 0 1 12,jt 14 13 12,ys 15 14 12 12,jv 16 15 12,jl 17 4 1 16,ju 18 17 16,yt 19 1 18 16,ym 20 19 0 16,yw 21 16 20 12,jo 22 12 21,ja 23 22,yv 24 7 1 23,zi 25 186 24 23,jo 26 23 25,ja 2 26]
abbrev r99:RC:=jQ Qxg (jQ Qxh (.ret))
abbrev o99:List RR:=[.tmp 2]
theorem k99:CT 99 27 r99 o99:=ck Tryz.func99 Tryz.ntmps99 (by decide +kernel)
abbrev Qag:IL:=[ja 4 0,ja 5 0,ji 6 1 5,ja 7 1,⟨some 8,.callF (.f 187) [(.t 4),(.t 6),(.t 7)],none⟩]
abbrev Qah:RC:=.reg Qag
abbrev Qai:List RR:=[]
theorem QC3:CT 100 9 Qah Qai:=ck Tryz.func100 Tryz.ntmps100 (by decide +kernel)
abbrev Qaj:IL:=[jd 4 0]
abbrev Qak:IL:=[ja 7 0,jr 8 188 7,ja 5 8]
abbrev Qal:IL:=[ja 9 1,jr 10 188 9,ja 6 10]
abbrev Qam:IL:=[ja 11 5]
abbrev Qan:IL:=[ja 12 6]
abbrev Qao:IL:=[jd 4 0]
abbrev Qap:IL:=[jd 4 (-1)]
abbrev Qaq:IL:=[ja 13 6]
abbrev Qar:IL:=[jd 4 1]
abbrev Qas:IL:=[ja 14 0,ja 15 1,jn 16 14 15]
abbrev Tn:IL:=[jd 4 (-1)]
abbrev To:IL:=[ja 17 0,ja 18 1,Cm 19 17 18]
abbrev Tp:IL:=[jd 4 1]
abbrev Tq:IL:=[jd 4 0]
abbrev Qat:RC:=jQ Qaj (jQ Qak (jQ Qal (.seq (jQ Qam (.cond (.t 11) (.seq (jQ Qan (.cond (.t 12) (jQ Qao (.ret)) (.skip))) (jQ Qap (.ret))) (.skip))) (.seq (jQ Qaq (.cond (.t 13) (jQ Qar (.ret)) (.skip))) (.seq (jQ Qas (.cond (.t 16) (jQ Tn (.ret)) (.skip))) (.seq (jQ To (.cond (.t 19) (jQ Tp (.ret)) (.skip))) (jQ Tq (.ret))))))))
abbrev Qau:List RR:=[.tmp 4]
theorem Qav:CT 102 20 Qat Qau:=ck Tryz.func102 Tryz.ntmps102 (by decide +kernel)
abbrev Qaw:IL:=[je 1 1 0,jh 2]
abbrev Qax:IL:=[jb 6 0 1,jc 7 6,jb 8 1 1,jc 9 8,jy 10 104 7 9,ja 5 10,jx 11 5 0,jx 12 5 1,ja 3 11,ja 4 12]
abbrev Qay:IL:=[ja 13 4,yg 14 13 0]
abbrev Qaz:IL:=[jh 2]
abbrev QaA:IL:=[jb 15 1 1,jc 16 15,jr 17 107 16]
abbrev QaB:IL:=[jb 18 3 1,jc 19 18,⟨some 20,.val (.bin .str .eql (.t 19) (.c (.str []))),none⟩,ja 2 20]
abbrev QaC:IL:=[jb 21 2 1,jc 22 21,D2 23 22 0,ja 2 23]
abbrev QaD:RC:=jQ Qaw (.seq (jQ Qax (jQ Qay (.cond (.t 14) (jQ Qaz (.ret)) (.skip)))) (.seq (jQ QaA (.cond (.t 17) (jQ QaB (.ret)) (.skip))) (jQ QaC (.ret))))
abbrev QaE:List RR:=[.tmp 2]
theorem QaF:CT 103 24 QaD QaE:=ck Tryz.func103 Tryz.ntmps103 (by decide +kernel)
abbrev QaG:IL:=[yi 4,jd 5 0]
abbrev QaH:IL:=[ja 6 0,yo 7 6 1,ja 8 7,jv 9 0 8,yk 10 9 65535 8,jo 11 8 10,ja 12 11,jv 13 1 12,Cr 14 13 0 12,jo 15 12 14,ja 16 15,jv 17 1 16,yk 18 17 6 16,jo 19 16 18]
abbrev QaI:IL:=[yi 4,jd 5 6]
abbrev QaJ:IL:=[ja 20 0,⟨some 21,.val (.bin .num .mul (.t 20) (.c (.int .i64 8))),none⟩,ja 22 1,yj 23 21 22,zo 24 23,jr 25 108 24,ja 4 25,jd 5 0]
abbrev QaK:RC:=jQ QaG (.seq (jQ QaH (.cond (.t 19) (jQ QaI (.ret)) (.skip))) (jQ QaJ (.ret)))
abbrev QaL:List RR:=[.tmp 4,.tmp 5]
theorem QaM:CT 104 26 QaK QaL:=ck Tryz.func104 Tryz.ntmps104 (by decide +kernel)
abbrev QaN:IL:=[jd 4 0,⟨some 5,.val (.mov (.c (.nili))),none⟩]
abbrev QaO:IL:=[ja 6 0,BN 7 189 6]
abbrev QaP:IL:=[ja 8 0,ja 9 0,D5 10 9,jb 11 1 10,jc 12 11,ja 13 1,⟨some 14,.appS 5 (.t 12) (.t 13),none⟩,D5 15 8,jb 16 1 15,js 1 16 14]
abbrev QaQ:IL:=[ja 17 1,ji 18 0 17,ja 4 18,⟨some 5,.val (.mov (.c (.nili))),none⟩]
abbrev QaR:RC:=jQ QaN (jQ QaO (jQ QaP (jQ QaQ (.ret))))
abbrev QaS:List RR:=[.tmp 4,.tmp 5]
theorem QaT:CT 105 19 QaR QaS:=ck Tryz.func105 Tryz.ntmps105 (by decide +kernel)
abbrev QaU:IL:=[jh 2]
abbrev QaV:IL:=[ja 3 0,jq 4 3 0,ja 5 4,jv 6 0 5,ys 7 6 1 5,jo 8 5 7,ja 9 8,jv 10 0 9,ys 11 10 2 9,jo 12 9 11,ja 2 12]
abbrev QaW:RC:=jQ QaU (jQ QaV (.ret))
abbrev QaX:List RR:=[.tmp 2]
theorem QaY:CT 107 13 QaW QaX:=ck Tryz.func107 Tryz.ntmps107 (by decide +kernel)
abbrev QaZ:IL:=[yi 2]
abbrev Qa0:IL:=[ye 3]
abbrev Qa1:IL:=[ja 4 0,⟨some 5,.val (.bin .num .geq (.t 4) (.c (.int .u64 128))),none⟩]
abbrev Qa2:IL:=[ja 6 3,ja 7 0,Re 8 7,⟨some 9,.val (.bin .num .or (.t 8) (.c (.int .u8 128))),none⟩,jbf 10 1 1 0 1 9,yh 11 1 1 5 6 10,ja 3 11]
abbrev Qa3:IL:=[ja 12 0,jbb 13 12 7,ja 0 13]
abbrev Qa4:RC:=.seq (jQ Qa1 (jX 5 0)) (.block 1 (jQ Qa2 (.reg Qa3)))
abbrev Qa5:IL:=[ja 14 3,ja 15 0,Re 16 15,jbf 17 1 1 0 1 16,yh 18 1 1 5 14 17,I8 19 18,ja 2 19]
abbrev Qa6:RC:=jQ QaZ (jQ Qa0 (.gho (.vec 3 3 1) (.seq (.block 0 (.loop Qa4)) (jQ Qa5 (.ret)))))
abbrev Qa7:List RR:=[.tmp 2]
theorem Qa8:CT 108 20 Qa6 Qa7:=ck Tryz.func108 Tryz.ntmps108 (by decide +kernel)
abbrev Qa9:IL:=[yi 2]
abbrev Qba:IL:=[ja 3 0,D5 4 3,jb 5 1 4,⟨some 6,.val (.loado none (.t 5)),none⟩,⟨some 7,.usd (.t 6),none⟩,ja 8 0,D5 9 8,jb 10 1 9,⟨some 11,.val (.loado none (.t 10)),none⟩,ji 12 1 11,⟨some 13,.ustr 5 (.t 7) (.t 12),none⟩,ja 2 13]
abbrev Qbb:RC:=jQ Qa9 (jD Qba (.ret))
abbrev Qbc:List RR:=[.tmp 2]
theorem Qbd:CT 109 14 Qbb Qbc:=ck Tryz.func109 Tryz.ntmps109 (by decide +kernel)
abbrev Qbe:IL:=[je 2 2 0,jh 3]
abbrev Qbf:IL:=[jb 4 0 2,jc 5 4,jc 6 1,zm 7 5 6,ja 3 7]
abbrev Qbg:RC:=jQ Qbe (jQ Qbf (.ret))
abbrev Qbh:List RR:=[.tmp 3]
theorem Qbi:CT 116 8 Qbg Qbh:=ck Tryz.func116 Tryz.ntmps116 (by decide +kernel)
abbrev Qbj:IL:=[je 2 2 0,je 3 3 1,zd 4 4,jh 5]
abbrev Qbk:IL:=[jb 7 1 3,jc 8 7,jb 9 0 2,jc 10 9,yr 11 195 8 10,ja 6 11]
abbrev Qbl:IL:=[ja 12 6,yo 13 12 0]
abbrev Qbm:IL:=[⟨some 14,.val (.build [.int .i64 0,.str [],.str [],.int .i64 0,.int .i64 0,.int .i64 0,.int .i64 0,.int .i64 0] []),none⟩,js 8 4 14,jh 5]
abbrev Qbn:IL:=[jb 15 1 3,jc 16 15,ja 17 6,jk 18 8 16 17,jf 19 8 18,js 8 4 19,yl 5]
abbrev Qbo:RC:=jQ Qbj (jQ Qbk (.seq (jQ Qbl (.cond (.t 13) (jQ Qbm (.ret)) (.skip))) (jQ Qbn (.ret))))
abbrev Qbp:List RR:=[.cell 4 (some 8),.tmp 5]
theorem Qbq:CT 117 20 Qbo Qbp:=ck Tryz.func117 Tryz.ntmps117 (by decide +kernel)
abbrev Qbr:IL:=[je 1 1 0,jh 2]
abbrev Qbs:IL:=[jb 3 3 1,jc 4 3,jq 5 4 4,ja 6 5,jl 7 5 1 6,ju 8 7 6,Hv 9 8 1 6,jg 10 9 6,jl 11 5 1 10,ju 12 11 10,yy 13 12 6 10,⟨some 14,.val (.pick (.t 10) (.t 13) (.c (.bool false))),(some (6,true))⟩,jg 15 14 6,jp 16 5 1 15,jt 17 16 15,ys 18 17 9 15,zf 19 15 18 6,jj 20 6 19,ja 2 20]
abbrev Qbt:RC:=jQ Qbr (jQ Qbs (.ret))
abbrev Qbu:List RR:=[.tmp 2]
theorem Qbv:CT 119 21 Qbt Qbu:=ck Tryz.func119 Tryz.ntmps119 (by decide +kernel)
abbrev Qbw:IL:=[je 3 3 0,je 4 4 1,je 5 5 2,ye 6]
abbrev Qbx:IL:=[jf 13 8 4,zd 7 7,js 8 7 13]
abbrev Qby:IL:=[jb 14 3 7,⟨none,.store 1 (.t 14) (.c (.int .i64 2)),none⟩]
abbrev Qbz:IL:=[jf 15 8 7,jr 16 198 15,ja 8 16]
abbrev QbA:IL:=[ja 17 8,Re 18 17,⟨some 19,.bslv 19 1 1 [.int .u8 0] [(0,1,(.t 18))],none⟩,ja 9 19]
abbrev QbB:IL:=[jb 20 3 5,jc 21 20,ji 22 1 21,jd 23 0]
abbrev QbC:IL:=[jn 24 23 22]
abbrev QbD:IL:=[jk 25 7 21 23,jf 26 7 25,yu 11 11,js 7 11 26]
abbrev QbE:IL:=[jf 27 7 11,jr 28 25 27,⟨some 29,.val (.fld 2 none (.t 28)),none⟩,ja 12 29]
abbrev QbF:IL:=[ja 30 8,jq 31 30 2]
abbrev Tr:IL:=[ja 32 9,ja 33 12,jr 34 106 33,⟨some 35,.appS 5 (.t 32) (.t 34),none⟩,ja 9 35]
abbrev Ts:IL:=[ja 36 9,ja 37 12,jr 38 108 37,⟨some 39,.appS 5 (.t 36) (.t 38),none⟩,ja 9 39]
abbrev Tt:IL:=[jm 40 23 1,ja 23 40]
abbrev QbG:RC:=.gho (.drop 11) (jQ QbC (.seq (jX 24 0) (.seq (.block 1 (jQ QbD (jQ QbE (jQ QbF (.cond (.t 31) (.reg Tr) (.reg Ts)))))) (.reg Tt))))
abbrev Tu:IL:=[jb 41 0 4,jc 42 41,ja 43 9,I8 44 43,⟨some 45,.val (.build [.int .i64 0,.int .i64 0,.int .u64 0,.str []] [(0,1,(.t 42)),(1,1,(.c (.int .i64 5))),(3,1,(.t 44))]),none⟩,zw 46 4 1 0 4 45,ja 6 46]
abbrev QbH:RC:=jQ Qbw (jQ Qbx (jQ Qby (jQ Qbz (jQ QbA (.seq (jQ QbB (.block 0 (.loop QbG))) (jQ Tu (.ret)))))))
abbrev QbI:List RR:=[.tmp 6]
theorem QbJ:CT 120 47 QbH QbI:=ck Tryz.func120 Tryz.ntmps120 (by decide +kernel)
abbrev QbK:IL:=[je 3 3 0,je 4 4 1,je 5 5 2,ye 6]
abbrev QbL:IL:=[jb 7 0 4,yb 8 0 4 7,jw 9 0 3 2 3,jw 10 0 4 8 4,jw 11 0 5 7 5,yd 12 197 9 10 11,jy 13 196 8 12,zw 14 4 1 0 4 13,ja 6 14]
abbrev QbM:RC:=jQ QbK (jD QbL (.ret))
abbrev QbN:List RR:=[.tmp 6]
theorem QbO:CT 122 15 QbM QbN:=ck Tryz.func122 Tryz.ntmps122 (by decide +kernel)
abbrev QbP:IL:=[jh 4]
abbrev QbQ:IL:=[ja 5 0,ja 6 1,yr 7 203 5 6,ja 4 7]
abbrev QbR:RC:=jQ QbP (jQ QbQ (.ret))
abbrev QbS:List RR:=[.tmp 4]
theorem QbT:CT 133 8 QbR QbS:=ck Tryz.func133 Tryz.ntmps133 (by decide +kernel)
abbrev QbU:IL:=[je 1 1 0,jh 2]
abbrev QbV:IL:=[jb 3 1 1,jc 4 3,ji 5 1 4,yq 6 5 64,ja 2 6]
abbrev QbW:RC:=jQ QbU (jQ QbV (.ret))
abbrev QbX:List RR:=[.tmp 2]
theorem QbY:CT 134 7 QbW QbX:=ck Tryz.func134 Tryz.ntmps134 (by decide +kernel)
abbrev QbZ:IL:=[jh 4]
abbrev Qb0:IL:=[ja 5 0,ja 6 1,yr 7 204 5 6,ja 4 7]
abbrev Qb1:RC:=jQ QbZ (jQ Qb0 (.ret))
abbrev Qb2:List RR:=[.tmp 4]
theorem Qb3:CT 135 8 Qb1 Qb2:=ck Tryz.func135 Tryz.ntmps135 (by decide +kernel)
abbrev Qb4:IL:=[je 1 1 0,jh 2]
abbrev Qb5:IL:=[jb 3 0 1,jc 4 3,jr 5 138 4,jz 6 5,ja 7 6,jp 8 1 1 7,jt 9 8 7,zq 10 139 9 140 7,jo 11 7 10,ja 2 11]
abbrev Qb6:RC:=jQ Qb4 (jQ Qb5 (.ret))
abbrev Qb7:List RR:=[.tmp 2]
theorem Qb8:CT 137 12 Qb6 Qb7:=ck Tryz.func137 Tryz.ntmps137 (by decide +kernel)
abbrev Qb9:IL:=[jh 2]
abbrev Qca:IL:=[ja 3 0,jr 4 205 3,ja 5 4,jg 6 0 5,⟨some 7,.call (.f 207) [(.t 6),(.c (.str [46]))],(some (5,true))⟩,⟨some 8,.callF (.f 206) [(.t 7),(.f 208)],(some (5,true))⟩,yx 9 8 5,jj 10 5 9,ja 2 10]
abbrev Qcb:RC:=jQ Qb9 (jQ Qca (.ret))
abbrev Qcc:List RR:=[.tmp 2]
theorem Qcd:CT 138 11 Qcb Qcc:=ck Tryz.func138 Tryz.ntmps138 (by decide +kernel)
abbrev Qce:IL:=[jh 4]
abbrev Qcf:IL:=[ja 5 0,ja 6 1,yr 7 209 5 6,ja 4 7]
abbrev Qcg:RC:=jQ Qce (jQ Qcf (.ret))
abbrev Qch:List RR:=[.tmp 4]
theorem Qci:CT 139 8 Qcg Qch:=ck Tryz.func139 Tryz.ntmps139 (by decide +kernel)
abbrev Qcj:IL:=[je 1 1 0,jh 2]
abbrev Qck:IL:=[jb 3 1 1,jc 4 3,jr 5 141 4,jz 6 5,ja 2 6]
abbrev Qcl:RC:=jQ Qcj (jQ Qck (.ret))
abbrev Qcm:List RR:=[.tmp 2]
theorem Qcn:CT 140 7 Qcl Qcm:=ck Tryz.func140 Tryz.ntmps140 (by decide +kernel)
abbrev Qco:IL:=[jh 2]
abbrev Qcp:IL:=[ja 3 0,jr 4 210 3,ja 5 4,jg 6 0 5,zh 7 208 6 5,yx 8 7 5,jj 9 5 8,ja 2 9]
abbrev Qcq:RC:=jQ Qco (jQ Qcp (.ret))
abbrev Qcr:List RR:=[.tmp 2]
theorem Qcs:CT 141 10 Qcq Qcr:=ck Tryz.func141 Tryz.ntmps141 (by decide +kernel)
abbrev Qct:IL:=[jh 4]
abbrev Qcu:IL:=[jd 5 1]
abbrev Qcv:IL:=[ja 6 5,ja 7 0,ji 8 1 7,jn 9 6 8]
abbrev Qcw:IL:=[ja 12 1,ja 13 0,ja 14 5,za 15 14 1,jk 16 3 13 15,ya 17 3 16,ja 18 0,ja 19 5,jk 20 3 18 19,ya 21 3 20,⟨some 22,.callF (.t 12) [(.t 17),(.t 21)],none⟩,jz 23 22]
abbrev Qcx:IL:=[jh 4]
abbrev Qcy:IL:=[ja 10 5,jm 11 10 1,ja 5 11]
abbrev Qcz:RC:=.seq (jQ Qcv (jX 9 0)) (.seq (.block 1 (jD Qcw (.cond (.t 23) (jQ Qcx (.ret)) (.skip)))) (.reg Qcy))
abbrev QcA:IL:=[yl 4]
abbrev QcB:RC:=jQ Qct (.seq (jQ Qcu (.block 0 (.loop Qcz))) (jQ QcA (.ret)))
abbrev QcC:List RR:=[.tmp 4]
theorem QcD:CT 145 24 QcB QcC:=ck Tryz.func145 Tryz.ntmps145 (by decide +kernel)
abbrev QcE:IL:=[jh 4]
abbrev QcF:IL:=[jd 5 1]
abbrev QcG:IL:=[ja 6 5,ja 7 0,ji 8 1 7,jn 9 6 8]
abbrev QcH:IL:=[ja 12 1,ja 13 0,ja 14 5,za 15 14 1,jk 16 5 13 15,ya 17 5 16,ja 18 0,ja 19 5,jk 20 5 18 19,ya 21 5 20,⟨some 22,.callF (.t 12) [(.t 17),(.t 21)],none⟩,jz 23 22]
abbrev QcI:IL:=[jh 4]
abbrev QcJ:IL:=[ja 10 5,jm 11 10 1,ja 5 11]
abbrev QcK:RC:=.seq (jQ QcG (jX 9 0)) (.seq (.block 1 (jD QcH (.cond (.t 23) (jQ QcI (.ret)) (.skip)))) (.reg QcJ))
abbrev QcL:IL:=[yl 4]
abbrev QcM:RC:=jQ QcE (.seq (jQ QcF (.block 0 (.loop QcK))) (jQ QcL (.ret)))
abbrev QcN:List RR:=[.tmp 4]
theorem QcO:CT 147 24 QcM QcN:=ck Tryz.func147 Tryz.ntmps147 (by decide +kernel)
abbrev QcP:IL:=[je 1 1 0,jh 2]
abbrev QcQ:IL:=[jb 3 1 1,jc 4 3,Ul 5 150 4 151,jz 6 5,ja 2 6]
abbrev QcR:RC:=jQ QcP (jQ QcQ (.ret))
abbrev QcS:List RR:=[.tmp 2]
theorem QcT:CT 149 7 QcR QcS:=ck Tryz.func149 Tryz.ntmps149 (by decide +kernel)
abbrev QcU:IL:=[jh 4]
abbrev QcV:IL:=[jd 5 1]
abbrev QcW:IL:=[ja 6 5,ja 7 0,ji 8 1 7,jn 9 6 8]
abbrev QcX:IL:=[ja 12 1,ja 13 0,ja 14 5,za 15 14 1,jk 16 8 13 15,ya 17 8 16,ja 18 0,ja 19 5,jk 20 8 18 19,ya 21 8 20,⟨some 22,.callF (.t 12) [(.t 17),(.t 21)],none⟩,jz 23 22]
abbrev QcY:IL:=[jh 4]
abbrev QcZ:IL:=[ja 10 5,jm 11 10 1,ja 5 11]
abbrev Qc0:RC:=.seq (jQ QcW (jX 9 0)) (.seq (.block 1 (jD QcX (.cond (.t 23) (jQ QcY (.ret)) (.skip)))) (.reg QcZ))
abbrev Qc1:IL:=[yl 4]
abbrev Qc2:RC:=jQ QcU (.seq (jQ QcV (.block 0 (.loop Qc0))) (jQ Qc1 (.ret)))
abbrev Qc3:List RR:=[.tmp 4]
theorem Qc4:CT 150 24 Qc2 Qc3:=ck Tryz.func150 Tryz.ntmps150 (by decide +kernel)
abbrev Qc5:IL:=[je 2 2 0,je 3 3 1,jh 4]
abbrev Qc6:IL:=[jb 5 0 2,jc 6 5,jb 7 0 3,jc 8 7,jn 9 6 8,ja 4 9]
abbrev Qc7:RC:=jQ Qc5 (jQ Qc6 (.ret))
abbrev Qc8:List RR:=[.tmp 4]
theorem Qc9:CT 151 10 Qc7 Qc8:=ck Tryz.func151 Tryz.ntmps151 (by decide +kernel)
abbrev Qda:IL:=[je 2 2 0,jh 3]
abbrev Qdb:IL:=[jb 4 1 1,jc 5 4,G3 6 156 2,yr 7 135 5 6,ja 8 7,jp 9 1 2 8,jt 10 9 8,zq 11 157 10 158 8,jo 12 8 11,ja 3 12]
abbrev Qdc:RC:=jQ Qda (jQ Qdb (.ret))
abbrev Qdd:List RR:=[.tmp 3]
theorem Qde:CT 155 13 Qdc Qdd:=ck Tryz.func155 Tryz.ntmps155 (by decide +kernel)
abbrev Qdf:IL:=[je 3 3 1,jh 4]
abbrev Qdg:IL:=[ja 7 0,ji 8 1 7,jd 9 0]
abbrev Qdh:IL:=[jn 10 9 8]
abbrev Qdi:IL:=[ja 11 9,jk 12 8 7 9,jf 13 8 12,zd 6 6,ja 5 11,js 8 6 13]
abbrev Qdj:IL:=[ja 14 0,ja 15 5,BI 16 8 14 15,⟨some 17,.val (.mkfn (.func 212) [] [(.t 3),(.t 6)]),none⟩,yr 18 139 16 17]
abbrev Qdk:IL:=[yl 4]
abbrev Qdl:IL:=[jm 19 9 1,ja 9 19]
abbrev Qdm:RC:=.gho (.drop 6) (jQ Qdh (.seq (jX 10 0) (.seq (.block 1 (jQ Qdi (jQ Qdj (.cond (.t 18) (jQ Qdk (.ret)) (.skip))))) (.reg Qdl))))
abbrev Qdn:IL:=[jh 4]
abbrev Qdo:RC:=jQ Qdf (.seq (jQ Qdg (.block 0 (.loop Qdm))) (jQ Qdn (.ret)))
abbrev Qdp:List RR:=[.tmp 4]
theorem Qdq:CT 157 20 Qdo Qdp:=ck Tryz.func157 Tryz.ntmps157 (by decide +kernel)
abbrev Qdr:IL:=[je 1 1 0,yi 2]
abbrev Qds:IL:=[jb 3 1 1,jc 4 3,ja 2 4]
abbrev Qdt:RC:=jQ Qdr (jQ Qds (.ret))
abbrev Qdu:List RR:=[.tmp 2]
theorem Qdv:CT 158 5 Qdt Qdu:=ck Tryz.func158 Tryz.ntmps158 (by decide +kernel)
abbrev Qdw:IL:=[je 1 1 0,jh 2]
abbrev Qdx:IL:=[jb 3 1 1,jc 4 3,Ul 5 139 4 163,ja 2 5]
abbrev Qdy:RC:=jQ Qdw (jQ Qdx (.ret))
abbrev Qdz:List RR:=[.tmp 2]
theorem QdA:CT 162 6 Qdy Qdz:=ck Tryz.func162 Tryz.ntmps162 (by decide +kernel)
abbrev QdB:IL:=[je 1 1 0,jh 2]
abbrev QdC:IL:=[jb 3 0 1,jc 4 3,yo 5 4 1,ja 6 5,jp 7 0 1 6,jt 8 7 6,yk 9 8 65535 6,jo 10 6 9,ja 2 10]
abbrev QdD:RC:=jQ QdB (jQ QdC (.ret))
abbrev QdE:List RR:=[.tmp 2]
theorem QdF:CT 163 11 QdD QdE:=ck Tryz.func163 Tryz.ntmps163 (by decide +kernel)
abbrev QdG:IL:=[je 2 2 0,jh 3]
abbrev QdH:IL:=[jf 4 3 2,jr 5 166 4,jz 6 5,ja 7 6,jp 8 1 2 7,jt 9 8 7,⟨some 10,.val (.mkfn (.func 167) [] [(.t 1)]),(some (7,false))⟩,⟨some 11,.callF (.f 139) [(.t 9),(.t 10)],(some (7,false))⟩,jo 12 7 11,ja 3 12]
abbrev QdI:RC:=jQ QdG (jQ QdH (.ret))
abbrev QdJ:List RR:=[.tmp 3]
theorem QdK:CT 165 13 QdI QdJ:=ck Tryz.func165 Tryz.ntmps165 (by decide +kernel)
abbrev QdL:IL:=[je 1 1 0,jh 2]
abbrev QdM:IL:=[jd 3 (-1),jd 4 (-1)]
abbrev QdN:IL:=[jb 7 1 1,jc 8 7,ji 9 1 8,jd 10 0]
abbrev QdO:IL:=[jn 11 10 9]
abbrev QdP:IL:=[jk 12 8 8 10,jf 13 8 12,zd 6 6,js 8 6 13]
abbrev QdQ:IL:=[jb 14 7 6,jc 15 14,yg 16 15 (-1),ja 17 16,jl 18 3 6 17,ju 19 18 17,zv 20 19 2 17,jg 21 20 17,jp 22 7 6 21,jt 23 22 21,jv 24 3 21,⟨some 25,.val (.bin .num .add (.t 24) (.c (.int .i64 1))),(some (21,false))⟩,Ck 26 23 25 21,jv 27 26 21,jl 28 7 6 27,ju 29 28 27,jg 30 4 27,⟨some 31,.val (.bin .num .neq (.t 29) (.t 30)),(some (27,true))⟩,yw 32 27 31 21,zf 33 21 32 17,jj 34 17 33]
abbrev QdR:IL:=[jh 2]
abbrev QdS:IL:=[ja 35 3,jb 36 7 6,yb 37 0 6 36,⟨some 38,.val (.mnx true (.t 35) (.t 37)),none⟩,jb 39 7 6,yb 40 0 6 39,ja 3 38,ja 4 40]
abbrev QdT:IL:=[jm 41 10 1,ja 10 41]
abbrev QdU:RC:=.gho (.drop 6) (jQ QdO (.seq (jX 11 0) (.seq (.block 1 (jQ QdP (.seq (jQ QdQ (.cond (.t 34) (jQ QdR (.ret)) (.skip))) (.draw QdS)))) (.reg QdT))))
abbrev QdV:IL:=[jb 42 2 1,jc 43 42,ja 44 3,jm 45 44 1,zm 46 43 45,ja 2 46]
abbrev QdW:RC:=jQ QdL (jQ QdM (.seq (jQ QdN (.block 0 (.loop QdU))) (jQ QdV (.ret))))
abbrev QdX:List RR:=[.tmp 2]
theorem QdY:CT 166 47 QdW QdX:=ck Tryz.func166 Tryz.ntmps166 (by decide +kernel)
abbrev QdZ:IL:=[je 2 2 0,jh 3]
abbrev Qd0:IL:=[jb 4 2 2,jc 5 4,jr 6 168 5,jz 7 6,ja 8 7,jp 9 2 2 8,jt 10 9 8,yf 11 0 10 8,yk 12 11 4096 8,jo 13 8 12,ja 14 13,jp 15 3 2 14,jt 16 15 14,Cr 17 16 1 14,jo 18 14 17,ja 19 18,jp 20 3 2 19,jt 21 20 19,yk 22 21 5 19,jo 23 19 22,ja 24 23,yv 25 8 2 24,zi 26 169 25 24,ze 27 26 24,jo 28 24 27,ja 29 28,yv 30 2 1 29,yv 31 8 2 29,Rf 32 170 30 31 29,ze 33 32 29,jo 34 29 33,ja 3 34]
abbrev Qd1:RC:=jQ QdZ (jQ Qd0 (.ret))
abbrev Qd2:List RR:=[.tmp 3]
theorem Qd3:CT 167 35 Qd1 Qd2:=ck Tryz.func167 Tryz.ntmps167 (by decide +kernel)
abbrev Qd4:IL:=[jh 2]
abbrev Qd5:IL:=[ja 3 0,jr 4 216 3,yo 5 4 0,ja 2 5]
abbrev Qd6:RC:=jQ Qd4 (jQ Qd5 (.ret))
abbrev Qd7:List RR:=[.tmp 2]
theorem Qd8:CT 168 6 Qd6 Qd7:=ck Tryz.func168 Tryz.ntmps168 (by decide +kernel)
abbrev Qd9:IL:=[je 1 1 0,jh 2]
abbrev Qea:IL:=[jb 3 3 1,jc 4 3,yg 5 4 5]
abbrev Qeb:IL:=[jb 6 4 1,jc 7 6,jq 8 7 0,ja 2 8]
abbrev Qec:IL:=[jb 9 4 1,jc 10 9,yn 11 10 1,ja 12 11,jl 13 4 1 12,ju 14 13 12,yy 15 14 7 12,jj 16 12 15,ja 17 16,jl 18 4 1 17,ju 19 18 17,zv 20 19 6 17,jj 21 17 20,ja 2 21]
abbrev Qed:RC:=jQ Qd9 (.seq (jQ Qea (.cond (.t 5) (jQ Qeb (.ret)) (.skip))) (jQ Qec (.ret)))
abbrev Qee:List RR:=[.tmp 2]
theorem Qef:CT 169 22 Qed Qee:=ck Tryz.func169 Tryz.ntmps169 (by decide +kernel)
abbrev Qeg:IL:=[je 2 2 0,je 3 3 1,jh 4]
abbrev Qeh:IL:=[jb 5 5 3,jc 6 5]
abbrev Qei:IL:=[jq 8 6 10,ja 7 8]
abbrev Qej:IL:=[jb 9 6 3,jc 10 9,yn 11 10 0,ja 12 11,jl 13 6 3 12,ju 14 13 12,jl 15 0 2 12,ju 16 15 12,yt 17 1 16 12,zu 18 14 17 12,jj 19 12 18,ja 20 19,jl 21 3 3 20,ju 22 21 20,zv 23 22 3 20,jj 24 20 23,ja 4 24]
abbrev Qek:IL:=[jq 26 6 9,ja 25 26]
abbrev Qel:IL:=[jb 27 6 3,jc 28 27,yn 29 28 0,ja 30 29,jl 31 6 3 30,ju 32 31 30,jl 33 1 2 30,ju 34 33 30,yt 35 1 34 30,zu 36 32 35 30,jj 37 30 36,ja 4 37]
abbrev Qem:IL:=[jb 38 5 3,jc 39 38,jr 40 217 39,ja 41 40,jl 42 6 3 41,ju 43 42 41,ym 44 43 (-1) 41,jj 45 41 44,ja 4 45]
abbrev Qen:RC:=jQ Qeg (.seq (jQ Qeh (.block 0 (jQ Qei (.cond (.t 7) (jQ Qej (.ret)) (jQ Qek (.cond (.t 25) (jQ Qel (.ret)) (.skip))))))) (jQ Qem (.ret)))
abbrev Qeo:List RR:=[.tmp 4]
theorem Qep:CT 170 46 Qen Qeo:=ck Tryz.func170 Tryz.ntmps170 (by decide +kernel)
abbrev Qeq:IL:=[je 2 2 0,jh 3]
abbrev Qer:IL:=[jb 4 3 2,jc 5 4,jq 6 5 1,ja 7 6,jl 8 5 2 7,ju 9 8 7,ym 10 9 10 7,jj 11 7 10,ja 12 11,ju 13 1 12,jl 14 6 2 12,ju 15 14 12,yc 16 1 13 15 12,ju 17 16 12,yx 18 17 12,jj 19 12 18,ja 3 19]
abbrev Qes:RC:=jQ Qeq (jQ Qer (.ret))
abbrev Qet:List RR:=[.tmp 3]
theorem Qeu:CT 174 20 Qes Qet:=ck Tryz.func174 Tryz.ntmps174 (by decide +kernel)
abbrev Qev:IL:=[jh 4]
abbrev Qew:IL:=[ja 5 0,ja 6 1,jy 7 219 5 6,yn 8 7 0,ja 4 8]
abbrev Qex:RC:=jQ Qev (jQ Qew (.ret))
abbrev Qey:List RR:=[.tmp 4]
theorem Qez:CT 175 9 Qex Qey:=ck Tryz.func175 Tryz.ntmps175 (by decide +kernel)
abbrev QeA:IL:=[je 2 2 0,jh 3]
abbrev QeB:IL:=[jb 4 0 2,jc 5 4,jb 6 0 1,jc 7 6,zm 8 5 7,ja 3 8]
abbrev QeC:RC:=jQ QeA (jQ QeB (.ret))
abbrev QeD:List RR:=[.tmp 3]
theorem QeE:CT 176 9 QeC QeD:=ck Tryz.func176 Tryz.ntmps176 (by decide +kernel)
abbrev QeF:IL:=[je 4 4 0,je 5 5 1,je 6 6 2,jd 8 0]
abbrev QeG:IL:=[jb 12 3 5,jc 13 12]
abbrev QeH:IL:=[jq 15 13 4,ja 14 15]
abbrev QeI:IL:=[jb 16 0 6,jc 17 16,yg 18 17 11,ja 19 18,yv 20 7 6 19,zi 21 90 20 19,jo 22 19 21]
abbrev QeJ:IL:=[jd 8 12]
abbrev QeK:IL:=[jb 23 3 6,jc 24 23,ji 25 1 24,jd 26 0]
abbrev QeL:IL:=[jn 27 26 25]
abbrev QeM:IL:=[jk 28 7 24 26,jf 29 7 28,yu 10 10,js 7 10 29]
abbrev QeN:IL:=[jf 30 2 4,jf 31 8 5,jf 32 7 10,ja 33 3,zj 34 220 30 31 32 33,ja 11 34]
abbrev QeO:IL:=[ja 35 11,yg 36 35 0]
abbrev Tv:IL:=[ja 37 11,ja 8 37]
abbrev Tw:IL:=[jm 38 26 1,ja 26 38]
abbrev QeP:RC:=.gho (.drop 10) (jQ QeL (.seq (jX 27 1) (.seq (.block 2 (jQ QeM (jQ QeN (jQ QeO (.cond (.t 36) (jQ Tv (.ret)) (.skip)))))) (.reg Tw))))
abbrev Tx:IL:=[jd 8 0]
abbrev TA:IL:=[jq 40 13 5,ja 39 40]
abbrev TB:IL:=[jb 41 0 6,jc 42 41,yg 43 42 12,ja 44 43,yv 45 7 6 44,zi 46 90 45 44,jo 47 44 46]
abbrev TC:IL:=[jd 8 12]
abbrev TD:IL:=[jf 48 2 4,jf 49 8 5,jb 50 4 6,jc 51 50,ja 52 3,zj 53 221 48 49 51 52,ja 8 53]
abbrev TE:IL:=[jf 54 2 4,jf 55 8 5,jf 56 7 6,ja 57 3,zj 58 220 54 55 56 57,ja 8 58]
abbrev QeQ:RC:=jQ QeF (.seq (jQ QeG (.block 0 (jQ QeH (.cond (.t 14) (.seq (jQ QeI (.cond (.t 22) (jQ QeJ (.ret)) (.skip))) (.seq (jQ QeK (.block 1 (.loop QeP))) (jQ Tx (.ret)))) (jQ TA (.cond (.t 39) (.seq (jQ TB (.cond (.t 47) (jQ TC (.ret)) (.skip))) (jQ TD (.ret))) (.skip))))))) (jQ TE (.ret)))
abbrev QeR:List RR:=[.tmp 8]
theorem QeS:CT 177 59 QeQ QeR:=ck Tryz.func177 Tryz.ntmps177 (by decide +kernel)
abbrev QeT:IL:=[jd 4 0]
abbrev QeU:IL:=[ja 6 0,ji 7 1 6,jd 8 0]
abbrev QeV:IL:=[jn 9 8 7]
abbrev QeW:IL:=[ja 10 8,ja 5 10]
abbrev QeX:IL:=[ja 11 1,ja 12 0,ja 13 5,jk 14 8 12 13,jf 15 8 14,G4 16 11 15]
abbrev QeY:IL:=[ja 17 5,ja 4 17]
abbrev QeZ:IL:=[jm 18 8 1,ja 8 18]
abbrev Qe0:RC:=jQ QeV (.seq (jX 9 0) (.seq (.block 1 (jQ QeW (jQ QeX (.cond (.t 16) (jQ QeY (.ret)) (.skip))))) (.reg QeZ)))
abbrev Qe1:IL:=[jd 4 (-1)]
abbrev Qe2:RC:=jQ QeT (.seq (jQ QeU (.block 0 (.loop Qe0))) (jQ Qe1 (.ret)))
abbrev Qe3:List RR:=[.tmp 4]
theorem Qe4:CT 178 19 Qe2 Qe3:=ck Tryz.func178 Tryz.ntmps178 (by decide +kernel)
def D8:IL:=[ye 2]
def D9:IL:=[ja 3 0,⟨some 4,.isnil false (.t 3),none⟩]
def Fa:IL:=[ye 2]
def Fb:IL:=[⟨some 5,.bsl0 5 7,none⟩,ja 6 0,yh 7 7 128 32 5 6,ja 2 7]
def NV:RC:=jQ D8 (.seq (jQ D9 (.cond (.t 4) (jQ Fa (.gho (.vec 2 2 7) (.gho (.give 2 2 1 1000) (.ret)))) (.skip))) (jQ Fb (.gho (.give 2 5 1 1000) (.ret))))
def Gr:List RR:=[.tmp 2]
theorem M2:CT 180 8 NV Gr:=ck Tryz.func180 Tryz.ntmps180 (by decide +kernel)
def Fc:IL:=[ye 2]
def Fd:IL:=[ja 3 0,⟨some 4,.isnil false (.t 3),none⟩]
def Fe:IL:=[ye 2]
def Ff:IL:=[⟨some 5,.bsl0 5 8,none⟩,ja 6 0,yh 7 8 136 47 5 6,ja 2 7]
def NW:RC:=jQ Fc (.seq (jQ Fd (.cond (.t 4) (jQ Fe (.gho (.vec 2 2 8) (.gho (.give 2 2 1 1000) (.ret)))) (.skip))) (jQ Ff (.gho (.give 2 5 1 1000) (.ret))))
def Gs:List RR:=[.tmp 2]
theorem M3:CT 181 8 NW Gs:=ck Tryz.func181 Tryz.ntmps181 (by decide +kernel)
abbrev Qe5:IL:=[ja 4 0,ja 5 0,ji 6 1 5,ja 7 1,⟨some 8,.callF (.f 223) [(.t 4),(.t 6),(.t 7)],none⟩]
abbrev Qe6:RC:=.reg Qe5
abbrev Qe7:List RR:=[]
theorem QC4:CT 182 9 Qe6 Qe7:=ck Tryz.func182 Tryz.ntmps182 (by decide +kernel)
abbrev Qe8:IL:=[je 2 2 0,je 3 3 1,jd 4 0]
abbrev Qe9:IL:=[jb 5 0 2,jc 6 5,jb 7 0 3,jc 8 7,jy 9 102 6 8,ja 4 9]
abbrev Qfa:RC:=jQ Qe8 (jQ Qe9 (.ret))
abbrev Qfb:List RR:=[.tmp 4]
theorem Qfc:CT 183 10 Qfa Qfb:=ck Tryz.func183 Tryz.ntmps183 (by decide +kernel)
abbrev Qfd:IL:=[je 3 3 0,je 4 4 1,je 5 5 2,yu 6 6]
abbrev Qfe:IL:=[jb 7 5 4,jc 8 7,jq 9 8 10]
abbrev Qff:IL:=[jf 10 2 3,jb 11 6 4,jc 12 11,jf 13 7 5,yd 14 57 10 12 13,js 7 6 14]
abbrev Qfg:IL:=[jf 15 7 5,jr 16 51 15,js 7 6 16]
abbrev Qfh:RC:=jQ Qfd (.seq (jQ Qfe (.cond (.t 9) (jQ Qff (.ret)) (.skip))) (jQ Qfg (.ret)))
abbrev Qfi:List RR:=[.cell 6 (some 7)]
theorem M4:CT 184 17 Qfh Qfi:=ck Tryz.func184 Tryz.ntmps184 (by decide +kernel)
abbrev Qfj:IL:=[je 1 1 0,jh 2]
abbrev Qfk:IL:=[jb 3 0 1,jc 4 3,jr 5 217 4,ja 6 5,zk 7 7 1 6,zh 8 229 7 6,jj 9 6 8,ja 10 9,jl 11 1 1 10,ju 12 11 10,I9 13 12 0 10,jj 14 10 13,ja 15 14,jl 16 2 1 15,ju 17 16 15,⟨some 18,.val (.bin .str .eql (.t 17) (.c (.str []))),(some (15,true))⟩,jj 19 15 18,ja 2 19]
abbrev Qfl:RC:=jQ Qfj (jQ Qfk (.ret))
abbrev Qfm:List RR:=[.tmp 2]
theorem Qfn:CT 186 20 Qfl Qfm:=ck Tryz.func186 Tryz.ntmps186 (by decide +kernel)
def Qfo:IL:=[jd 6 20]
def Qfp:IL:=[ja 10 6,jd 7 0,ja 8 10]
def Qfq:IL:=[ja 11 8,ja 12 1,D6 13 11 12]
def Qfr:IL:=[ja 14 0,ja 15 7,ja 16 8,ja 17 2,⟨some 18,.callF (.f 230) [(.t 14),(.t 15),(.t 16),(.t 17)],none⟩]
def Qfs:IL:=[ja 19 8,ja 7 19]
def Qft:IL:=[ja 20 8,ja 21 6,yj 22 20 21,ja 8 22]
def Qfu:RC:=.seq (jQ Qfq (jX 13 0)) (.block 1 (jQ Qfr (jQ Qfs (.reg Qft))))
def Qfv:IL:=[ja 23 0,ja 24 7,ja 25 1,ja 26 2,⟨some 27,.callF (.f 230) [(.t 23),(.t 24),(.t 25),(.t 26)],none⟩]
def Qfw:IL:=[ja 28 6,ja 29 1,jn 30 28 29]
def Qfx:IL:=[ja 31 6,Cx 32 2 31,jd 7 0,ja 8 32]
def Qfy:IL:=[ja 33 8,ja 34 1,D6 35 33 34]
def TF:IL:=[ja 36 0,ja 37 7,ja 38 7,ja 39 6,yj 40 38 39,ja 41 8,ja 42 2,Ra 43 231 36 37 40 41 42]
def TG:IL:=[ja 44 8,ja 7 44]
def TH:IL:=[ja 45 8,ja 46 6,Cx 47 2 46,yj 48 45 47,ja 8 48]
def Qfz:RC:=.seq (jQ Qfy (jX 35 4)) (.block 5 (jQ TF (jQ TG (.reg TH))))
def TI:IL:=[ja 49 7,ja 50 6,yj 51 49 50,ja 9 51]
def TJ:IL:=[ja 52 9,ja 53 1,jn 54 52 53]
def TK:IL:=[ja 55 0,ja 56 7,ja 57 9,ja 58 1,ja 59 2,Ra 60 231 55 56 57 58 59]
def TL:IL:=[ja 61 6,⟨some 62,.val (.bin .num .mul (.t 61) (.c (.int .i64 2))),none⟩,ja 6 62]
def QfA:RC:=.seq (jQ Qfw (jX 30 2)) (.block 3 (jQ Qfx (.seq (.block 4 (.loop Qfz)) (.seq (jQ TI (jQ TJ (.cond (.t 54) (.reg TK) (.skip)))) (.reg TL)))))
def QfB:RC:=jQ Qfo (jQ Qfp (.seq (.block 0 (.loop Qfu)) (jQ Qfv (.block 2 (.loop QfA)))))
def QfC:List RR:=[]
theorem QC5:CT 187 63 QfB QfC:=ck Tryz.func187 Tryz.ntmps187 (by decide +kernel)
abbrev QfD:IL:=[jh 2]
abbrev QfE:IL:=[ja 3 0,ja 4 0,zs 5 3 4,ja 2 5]
abbrev QfF:RC:=jQ QfD (jQ QfE (.ret))
abbrev QfG:List RR:=[.tmp 2]
theorem QfH:CT 188 6 QfF QfG:=ck Tryz.func188 Tryz.ntmps188 (by decide +kernel)
abbrev QfI:IL:=[ja 2 0,D5 3 2,jb 4 0 3,jc 5 4,⟨some 6,.val (.bin .ptr .eql (.t 5) (.c (.nilp))),none⟩]
abbrev QfJ:IL:=[ja 7 0,ja 8 0,⟨some 9,.val (.toU (.t 8)),none⟩,⟨some 10,.val (.same (.t 9)),none⟩,⟨some 11,.val (.ofU 128 2 (.t 10)),none⟩,D5 12 7,jb 13 0 12,js 1 13 11]
abbrev QfK:IL:=[ja 14 0,D5 15 14,jb 16 0 15,jc 17 16,ja 18 0,⟨some 19,.val (.bin .ptr .neq (.t 17) (.t 18)),none⟩]
abbrev QfL:RC:=jQ QfI (.cond (.t 6) (.reg QfJ) (jQ QfK (.cond (.t 19) (.no) (.skip))))
abbrev QfM:List RR:=[]
theorem QfN:CT 189 20 QfL QfM:=ck Tryz.func189 Tryz.ntmps189 (by decide +kernel)
abbrev QfO:IL:=[jd 4 0]
abbrev QfP:IL:=[ja 6 0,ji 7 1 6,jd 8 0]
abbrev QfQ:IL:=[jn 9 8 7]
abbrev QfR:IL:=[ja 10 8,ja 5 10]
abbrev QfS:IL:=[ja 11 1,ja 12 0,ja 13 5,jk 14 8 12 13,jf 15 8 14,G4 16 11 15]
abbrev QfT:IL:=[ja 17 5,ja 4 17]
abbrev QfU:IL:=[jm 18 8 1,ja 8 18]
abbrev QfV:RC:=jQ QfQ (.seq (jX 9 0) (.seq (.block 1 (jQ QfR (jQ QfS (.cond (.t 16) (jQ QfT (.ret)) (.skip))))) (.reg QfU)))
abbrev QfW:IL:=[jd 4 (-1)]
abbrev QfX:RC:=jQ QfO (.seq (jQ QfP (.block 0 (.loop QfV))) (jQ QfW (.ret)))
abbrev QfY:List RR:=[.tmp 4]
theorem M5:CT 195 19 QfX QfY:=ck Tryz.func195 Tryz.ntmps195 (by decide +kernel)
abbrev QfZ:IL:=[je 3 3 1,zn 4 4]
abbrev Qf0:IL:=[ja 5 0,jb 6 0 3,js 1 6 5]
abbrev Qf1:IL:=[jf 7 4 3,js 4 4 7]
abbrev Qf2:RC:=jQ QfZ (jQ Qf0 (jQ Qf1 (.ret)))
abbrev Qf3:List RR:=[.cell 4 (some 4)]
theorem Qf4:CT 196 8 Qf2 Qf3:=ck Tryz.func196 Tryz.ntmps196 (by decide +kernel)
abbrev Qf5:IL:=[je 3 3 0,je 4 4 1,je 5 5 2,zn 6 6]
abbrev Qf6:IL:=[jb 7 5 4,jc 8 7,jq 9 8 10]
abbrev Qf7:IL:=[jf 10 2 3,jb 11 6 4,jc 12 11,jf 13 7 5,yd 14 29 10 12 13,⟨some 15,.val (.build [.int .i64 0,.int .i64 0,.int .u64 0,.str []] [(1,1,(.c (.int .i64 4))),(3,1,(.t 14))]),none⟩,js 4 6 15]
abbrev Qf8:IL:=[jf 16 7 5,jr 17 25 16,js 4 6 17]
abbrev Qf9:RC:=jQ Qf5 (.seq (jQ Qf6 (.cond (.t 9) (jQ Qf7 (.ret)) (.skip))) (jQ Qf8 (.ret)))
abbrev Qga:List RR:=[.cell 6 (some 4)]
theorem M6:CT 197 18 Qf9 Qga:=ck Tryz.func197 Tryz.ntmps197 (by decide +kernel)
abbrev Qgb:IL:=[je 1 1 0,jd 2 0]
abbrev Qgc:IL:=[jb 4 3 1,jc 5 4,jq 6 5 5,ja 3 6]
abbrev Qgd:IL:=[jd 2 6]
abbrev Qge:IL:=[jf 8 8 1,jr 9 119 8,ja 7 9]
abbrev Qgf:IL:=[jd 2 5]
abbrev Qgg:IL:=[jb 10 5 1,jc 11 10]
abbrev Qgh:IL:=[jq 13 11 1,ja 12 13]
abbrev Qgi:IL:=[jq 14 11 4,ja 12 14]
abbrev Qgj:IL:=[jq 15 11 5,ja 12 15]
abbrev Qgk:IL:=[jq 16 11 9,ja 12 16]
abbrev TM:IL:=[jd 2 0]
abbrev TN:IL:=[jq 18 11 2,ja 17 18]
abbrev TO:IL:=[jq 19 11 3,ja 17 19]
abbrev TP:IL:=[jd 2 1]
abbrev TQ:IL:=[jq 21 11 6,ja 20 21]
abbrev TR:IL:=[jd 2 2]
abbrev TS:IL:=[jq 23 11 7,ja 22 23]
abbrev TT:IL:=[jq 24 11 8,ja 22 24]
abbrev TU:IL:=[jd 2 3]
abbrev TV:IL:=[jq 26 11 10,ja 25 26]
abbrev TW:IL:=[jd 2 4]
abbrev TX:IL:=[jd 2 (-1)]
abbrev Qgl:RC:=jQ Qgb (.seq (.block 0 (jQ Qgc (.cond (.t 3) (jQ Qgd (.ret)) (jQ Qge (.cond (.t 7) (jQ Qgf (.ret)) (.skip)))))) (.seq (jQ Qgg (.block 1 (.seq (jQ Qgh (.cond (.t 12) (.skip) (jQ Qgi (.cond (.t 12) (.skip) (jQ Qgj (.cond (.t 12) (.skip) (.reg Qgk))))))) (.cond (.t 12) (jQ TM (.ret)) (.seq (jQ TN (.cond (.t 17) (.skip) (.reg TO))) (.cond (.t 17) (jQ TP (.ret)) (jQ TQ (.cond (.t 20) (jQ TR (.ret)) (.seq (jQ TS (.cond (.t 22) (.skip) (.reg TT))) (.cond (.t 22) (jQ TU (.ret)) (jQ TV (.cond (.t 25) (jQ TW (.ret)) (.skip))))))))))))) (jQ TX (.ret))))
abbrev Qgm:List RR:=[.tmp 2]
theorem Qgn:CT 198 27 Qgl Qgm:=ck Tryz.func198 Tryz.ntmps198 (by decide +kernel)
abbrev Qgo:IL:=[jh 4]
abbrev Qgp:IL:=[ja 5 0,ja 6 1,yr 7 52 5 6,yn 8 7 0,ja 4 8]
abbrev Qgq:RC:=jQ Qgo (jQ Qgp (.ret))
abbrev Qgr:List RR:=[.tmp 4]
theorem Qgs:CT 203 9 Qgq Qgr:=ck Tryz.func203 Tryz.ntmps203 (by decide +kernel)
abbrev Qgt:IL:=[jh 4]
abbrev Qgu:IL:=[ja 5 0,ja 6 1,yr 7 241 5 6,yn 8 7 0,ja 4 8]
abbrev Qgv:RC:=jQ Qgt (jQ Qgu (.ret))
abbrev Qgw:List RR:=[.tmp 4]
theorem Qgx:CT 204 9 Qgv Qgw:=ck Tryz.func204 Tryz.ntmps204 (by decide +kernel)
abbrev Qgy:IL:=[jh 2]
abbrev Qgz:IL:=[ja 5 0,⟨some 6,.call (.f 207) [(.t 5),(.c (.str [46]))],none⟩,ji 7 1 6,jd 8 0]
abbrev QgA:IL:=[jn 9 8 7]
abbrev QgB:IL:=[jk 10 1 6 8,jc 11 10,ja 4 11]
abbrev QgC:IL:=[ja 12 4,jr 13 210 12,jz 14 13]
abbrev QgD:IL:=[jh 2]
abbrev QgE:IL:=[jm 15 8 1,ja 8 15]
abbrev QgF:RC:=jQ QgA (.seq (jX 9 0) (.seq (.block 1 (jQ QgB (jQ QgC (.cond (.t 14) (jQ QgD (.ret)) (.skip))))) (.reg QgE)))
abbrev QgG:IL:=[ja 16 0,ji 17 0 16,⟨some 18,.val (.bin .num .leq (.t 17) (.c (.int .i64 120))),none⟩,ja 2 18]
abbrev QgH:RC:=jQ Qgy (.seq (jQ Qgz (.block 0 (.loop QgF))) (jQ QgG (.ret)))
abbrev QgI:List RR:=[.tmp 2]
theorem QgJ:CT 205 19 QgH QgI:=ck Tryz.func205 Tryz.ntmps205 (by decide +kernel)
abbrev QgK:IL:=[jh 4]
abbrev QgL:IL:=[ja 5 0,ja 6 1,yr 7 242 5 6,yn 8 7 0,ja 4 8]
abbrev QgM:RC:=jQ QgK (jQ QgL (.ret))
abbrev QgN:List RR:=[.tmp 4]
theorem QgO:CT 206 9 QgM QgN:=ck Tryz.func206 Tryz.ntmps206 (by decide +kernel)
abbrev QgP:IL:=[ye 4]
abbrev QgQ:IL:=[ja 5 0,ja 6 1,⟨some 7,.call (.f 243) [(.t 5),(.t 6),(.c (.int .i64 0)),(.c (.int .i64 (-1)))],none⟩,ja 4 7]
abbrev QgR:RC:=jQ QgP (jQ QgQ (.ret))
abbrev QgS:List RR:=[.tmp 4]
theorem QgT:CT 207 8 QgR QgS:=ck Tryz.func207 Tryz.ntmps207 (by decide +kernel)
abbrev QgU:IL:=[jh 2]
abbrev QgV:IL:=[ja 3 0]
abbrev QgW:IL:=[⟨some 5,.val (.bin .str .eql (.t 3) (.c (.str [109,101,115,115,97,103,101]))),none⟩,ja 4 5]
abbrev QgX:IL:=[⟨some 6,.val (.bin .str .eql (.t 3) (.c (.str [101,110,117,109]))),none⟩,ja 4 6]
abbrev QgY:IL:=[⟨some 7,.val (.bin .str .eql (.t 3) (.c (.str [115,101,114,118,105,99,101]))),none⟩,ja 4 7]
abbrev QgZ:IL:=[⟨some 8,.val (.bin .str .eql (.t 3) (.c (.str [117,110,105,111,110]))),none⟩,ja 4 8]
abbrev Qg0:IL:=[⟨some 9,.val (.bin .str .eql (.t 3) (.c (.str [109,97,112]))),none⟩,ja 4 9]
abbrev Qg1:IL:=[⟨some 10,.val (.bin .str .eql (.t 3) (.c (.str [108,105,115,116]))),none⟩,ja 4 10]
abbrev Qg2:IL:=[⟨some 11,.val (.bin .str .eql (.t 3) (.c (.str [114,101,113,117,105,114,101,100]))),none⟩,ja 4 11]
abbrev Qg3:IL:=[⟨some 12,.val (.bin .str .eql (.t 3) (.c (.str [111,112,116,105,111,110,97,108]))),none⟩,ja 4 12]
abbrev TY:IL:=[⟨some 13,.val (.bin .str .eql (.t 3) (.c (.str [112,108,97,105,110]))),none⟩,ja 4 13]
abbrev TZ:IL:=[⟨some 14,.val (.bin .str .eql (.t 3) (.c (.str [100,101,102,97,117,108,116]))),none⟩,ja 4 14]
abbrev T0:IL:=[⟨some 15,.val (.bin .str .eql (.t 3) (.c (.str [114,101,115,101,114,118,101,100]))),none⟩,ja 4 15]
abbrev T1:IL:=[yl 2]
abbrev T2:IL:=[⟨some 17,.val (.bin .str .eql (.t 3) (.c (.str [105,109,112,111,114,116]))),none⟩,ja 16 17]
abbrev T3:IL:=[⟨some 18,.val (.bin .str .eql (.t 3) (.c (.str [115,112,97,99,101]))),none⟩,ja 16 18]
abbrev T4:IL:=[⟨some 19,.val (.bin .str .eql (.t 3) (.c (.str [114,112,99]))),none⟩,ja 16 19]
abbrev T5:IL:=[⟨some 20,.val (.bin .str .eql (.t 3) (.c (.str [115,116,114,101,97,109]))),none⟩,ja 16 20]
abbrev T6:IL:=[⟨some 21,.val (.bin .str .eql (.t 3) (.c (.str [114,101,116,117,114,110,115]))),none⟩,ja 16 21]
abbrev T7:IL:=[⟨some 22,.val (.bin .str .eql (.t 3) (.c (.str [111,112,101,110]))),none⟩,ja 16 22]
abbrev T8:IL:=[⟨some 23,.val (.bin .str .eql (.t 3) (.c (.str [116,114,117,101]))),none⟩,ja 16 23]
abbrev T9:IL:=[⟨some 24,.val (.bin .str .eql (.t 3) (.c (.str [102,97,108,115,101]))),none⟩,ja 16 24]
abbrev Aa:IL:=[⟨some 25,.val (.bin .str .eql (.t 3) (.c (.str [110,97,110]))),none⟩,ja 16 25]
abbrev Ab:IL:=[⟨some 26,.val (.bin .str .eql (.t 3) (.c (.str [105,110,102]))),none⟩,ja 16 26]
abbrev Ac:IL:=[yl 2]
abbrev Ad:IL:=[jh 2]
abbrev Qg4:RC:=jQ QgU (.seq (jQ QgV (.block 0 (.seq (jQ QgW (.cond (.t 4) (.skip) (jQ QgX (.cond (.t 4) (.skip) (jQ QgY (.cond (.t 4) (.skip) (jQ QgZ (.cond (.t 4) (.skip) (jQ Qg0 (.cond (.t 4) (.skip) (jQ Qg1 (.cond (.t 4) (.skip) (jQ Qg2 (.cond (.t 4) (.skip) (jQ Qg3 (.cond (.t 4) (.skip) (jQ TY (.cond (.t 4) (.skip) (jQ TZ (.cond (.t 4) (.skip) (.reg T0))))))))))))))))))))) (.cond (.t 4) (jQ T1 (.ret)) (.seq (jQ T2 (.cond (.t 16) (.skip) (jQ T3 (.cond (.t 16) (.skip) (jQ T4 (.cond (.t 16) (.skip) (jQ T5 (.cond (.t 16) (.skip) (jQ T6 (.cond (.t 16) (.skip) (jQ T7 (.cond (.t 16) (.skip) (jQ T8 (.cond (.t 16) (.skip) (jQ T9 (.cond (.t 16) (.skip) (jQ Aa (.cond (.t 16) (.skip) (.reg Ab))))))))))))))))))) (.cond (.t 16) (jQ Ac (.ret)) (.skip))))))) (jQ Ad (.ret)))
abbrev Qg5:List RR:=[.tmp 2]
theorem M7:CT 208 27 Qg4 Qg5:=ck Tryz.func208 Tryz.ntmps208 (by decide +kernel)
abbrev Qg6:IL:=[jh 4]
abbrev Qg7:IL:=[ja 5 0,ja 6 1,yr 7 195 5 6,yn 8 7 0,ja 4 8]
abbrev Qg8:RC:=jQ Qg6 (jQ Qg7 (.ret))
abbrev Qg9:List RR:=[.tmp 4]
theorem Qha:CT 209 9 Qg8 Qg9:=ck Tryz.func209 Tryz.ntmps209 (by decide +kernel)
abbrev Qhb:IL:=[jh 2]
abbrev Qhc:IL:=[ja 6 0,⟨some 7,.rngs 7 (.t 6),none⟩]
abbrev Qhd:IL:=[⟨some 8,.nxts (.t 7),none⟩,jx 9 8 0]
abbrev Qhe:IL:=[jx 10 8 1,jx 11 8 2,ja 3 10,ja 4 11]
abbrev Qhf:IL:=[ja 12 4,jr 13 244 12,ja 5 13]
abbrev Qhg:IL:=[ja 14 5,jq 15 14 0,ja 16 15,jv 17 3 16,ys 18 17 0 16,jv 19 18 16,jg 20 5 19,zv 21 20 1 19,yw 22 19 21 16,jv 23 22 16,jg 24 5 23,zv 25 24 2 23,yw 26 23 25 16,jo 27 16 26]
abbrev Qhh:IL:=[jh 2]
abbrev Qhi:RC:=jQ Qhd (.seq (jX 9 0) (.block 1 (jQ Qhe (jQ Qhf (jQ Qhg (.cond (.t 27) (jQ Qhh (.ret)) (.skip)))))))
abbrev Qhj:IL:=[ja 28 0,ji 29 0 28,yn 30 29 1,ja 31 30,jg 32 0 31,yt 33 0 32 31,yy 34 33 40 31,jj 35 31 34,ja 2 35]
abbrev Qhk:RC:=jQ Qhb (.seq (jQ Qhc (.block 0 (.loop Qhi))) (jQ Qhj (.ret)))
abbrev Qhl:List RR:=[.tmp 2]
theorem Qhm:CT 210 36 Qhk Qhl:=ck Tryz.func210 Tryz.ntmps210 (by decide +kernel)
abbrev Qhn:IL:=[je 3 3 0,jh 4]
abbrev Qho:IL:=[jc 5 1,jw 6 0 3 8 3,⟨some 7,.call (.t 5) [(.t 6)],none⟩,jc 8 1,jf 9 8 2,⟨some 10,.call (.t 8) [(.t 9)],none⟩,BJ 11 7 10,ja 4 11]
abbrev Qhp:RC:=jQ Qhn (jD Qho (.ret))
abbrev Qhq:List RR:=[.tmp 4]
theorem Qhr:CT 212 12 Qhp Qhq:=ck Tryz.func212 Tryz.ntmps212 (by decide +kernel)
abbrev Qhs:IL:=[jd 2 0]
abbrev Qht:IL:=[ja 5 0,⟨some 6,.rngs 6 (.t 5),none⟩]
abbrev Qhu:IL:=[⟨some 7,.nxts (.t 6),none⟩,jx 8 7 0]
abbrev Qhv:IL:=[jx 9 7 1,jx 10 7 2,ja 3 9,ja 4 10]
abbrev Qhw:IL:=[ja 11 0,ja 12 3,ja 13 4,yd 14 248 11 12 13]
abbrev Qhx:IL:=[ja 15 3,ja 2 15]
abbrev Qhy:RC:=jQ Qhu (.seq (jX 8 0) (.block 1 (jQ Qhv (jQ Qhw (.cond (.t 14) (jQ Qhx (.ret)) (.skip))))))
abbrev Qhz:IL:=[jd 2 (-1)]
abbrev QhA:RC:=jQ Qhs (.seq (jQ Qht (.block 0 (.loop Qhy))) (jQ Qhz (.ret)))
abbrev QhB:List RR:=[.tmp 2]
theorem QhC:CT 216 16 QhA QhB:=ck Tryz.func216 Tryz.ntmps216 (by decide +kernel)
abbrev QhD:IL:=[jh 2]
abbrev QhE:IL:=[ja 3 0,yn 4 3 1,ja 5 4,jg 6 0 5,yy 7 6 9 5,jj 8 5 7,ja 2 8]
abbrev QhF:RC:=jQ QhD (jQ QhE (.ret))
abbrev QhG:List RR:=[.tmp 2]
theorem QhH:CT 217 9 QhF QhG:=ck Tryz.func217 Tryz.ntmps217 (by decide +kernel)
abbrev QhI:IL:=[jd 4 0]
abbrev QhJ:IL:=[ja 6 0,ji 7 1 6,jd 8 0]
abbrev QhK:IL:=[jn 9 8 7]
abbrev QhL:IL:=[ja 10 8,ja 5 10]
abbrev QhM:IL:=[ja 11 1,ja 12 0,ja 13 5,jk 14 1 12 13,jc 15 14,⟨some 16,.val (.bin .bool .eql (.t 11) (.t 15)),none⟩]
abbrev QhN:IL:=[ja 17 5,ja 4 17]
abbrev QhO:IL:=[jm 18 8 1,ja 8 18]
abbrev QhP:RC:=jQ QhK (.seq (jX 9 0) (.seq (.block 1 (jQ QhL (jQ QhM (.cond (.t 16) (jQ QhN (.ret)) (.skip))))) (.reg QhO)))
abbrev QhQ:IL:=[jd 4 (-1)]
abbrev QhR:RC:=jQ QhI (.seq (jQ QhJ (.block 0 (.loop QhP))) (jQ QhQ (.ret)))
abbrev QhS:List RR:=[.tmp 4]
theorem QhT:CT 219 19 QhR QhS:=ck Tryz.func219 Tryz.ntmps219 (by decide +kernel)
abbrev QhU:IL:=[je 4 4 0,je 5 5 1,je 6 6 2,jd 8 0]
abbrev QhV:IL:=[jb 9 5 5,jc 10 9,jq 11 10 10]
abbrev QhW:IL:=[jw 12 0 4 2 4,jb 13 0 4,jb 14 0 13,yb 15 0 4 14,jb 16 6 5,yb 17 0 5 16,jk 18 3 15 17,ya 19 3 18,jw 20 0 6 7 6,ja 21 3,jm 22 21 1,zj 23 55 12 19 20 22,ja 8 23]
abbrev QhX:IL:=[jf 24 2 4,jb 25 5 5,jc 26 25,jb 27 6 5,jc 28 27,jf 29 7 6,zj 30 251 24 26 28 29,ja 8 30]
abbrev QhY:RC:=jQ QhU (.seq (jQ QhV (.cond (.t 11) (jD QhW (.ret)) (.skip))) (jQ QhX (.ret)))
abbrev QhZ:List RR:=[.tmp 8]
theorem Qh0:CT 220 31 QhY QhZ:=ck Tryz.func220 Tryz.ntmps220 (by decide +kernel)
abbrev Qh1:IL:=[jd 6 20]
abbrev Qh2:IL:=[ja 10 6,jd 7 0,ja 8 10]
abbrev Qh3:IL:=[ja 11 8,ja 12 1,D6 13 11 12]
abbrev Qh4:IL:=[ja 14 0,ja 15 7,ja 16 8,ja 17 2,⟨some 18,.callF (.f 254) [(.t 14),(.t 15),(.t 16),(.t 17)],none⟩]
abbrev Qh5:IL:=[ja 19 8,ja 7 19]
abbrev Qh6:IL:=[ja 20 8,ja 21 6,yj 22 20 21,ja 8 22]
abbrev Qh7:RC:=.seq (jQ Qh3 (jX 13 0)) (.block 1 (jQ Qh4 (jQ Qh5 (.reg Qh6))))
abbrev Qh8:IL:=[ja 23 0,ja 24 7,ja 25 1,ja 26 2,⟨some 27,.callF (.f 254) [(.t 23),(.t 24),(.t 25),(.t 26)],none⟩]
abbrev Qh9:IL:=[ja 28 6,ja 29 1,jn 30 28 29]
abbrev Qia:IL:=[ja 31 6,Cx 32 2 31,jd 7 0,ja 8 32]
abbrev Qib:IL:=[ja 33 8,ja 34 1,D6 35 33 34]
abbrev Ae:IL:=[ja 36 0,ja 37 7,ja 38 7,ja 39 6,yj 40 38 39,ja 41 8,ja 42 2,Ra 43 255 36 37 40 41 42]
abbrev Af:IL:=[ja 44 8,ja 7 44]
abbrev Ag:IL:=[ja 45 8,ja 46 6,Cx 47 2 46,yj 48 45 47,ja 8 48]
abbrev Qic:RC:=.seq (jQ Qib (jX 35 4)) (.block 5 (jQ Ae (jQ Af (.reg Ag))))
abbrev Ah:IL:=[ja 49 7,ja 50 6,yj 51 49 50,ja 9 51]
abbrev Ai:IL:=[ja 52 9,ja 53 1,jn 54 52 53]
abbrev Aj:IL:=[ja 55 0,ja 56 7,ja 57 9,ja 58 1,ja 59 2,Ra 60 255 55 56 57 58 59]
abbrev Ak:IL:=[ja 61 6,⟨some 62,.val (.bin .num .mul (.t 61) (.c (.int .i64 2))),none⟩,ja 6 62]
abbrev Qid:RC:=.seq (jQ Qh9 (jX 30 2)) (.block 3 (jQ Qia (.seq (.block 4 (.loop Qic)) (.seq (jQ Ah (jQ Ai (.cond (.t 54) (.reg Aj) (.skip)))) (.reg Ak)))))
abbrev Qie:RC:=jQ Qh1 (jQ Qh2 (.seq (.block 0 (.loop Qh7)) (jQ Qh8 (.block 2 (.loop Qid)))))
abbrev Qif:List RR:=[]
theorem QC6:CT 223 63 Qie Qif:=ck Tryz.func223 Tryz.ntmps223 (by decide +kernel)
abbrev Qig:IL:=[je 1 1 0,jh 2]
abbrev Qih:IL:=[jb 3 3 1,jc 4 3,ji 5 1 4,jb 6 4 1,jc 7 6,ji 8 1 7,yj 9 5 8,jb 10 5 1,jc 11 10,ji 12 1 11,yj 13 9 12,jb 14 6 1,jc 15 14,ji 16 1 15,yj 17 13 16,yq 18 17 0]
abbrev Qii:IL:=[jh 2]
abbrev Qij:IL:=[jb 19 0 1,jc 20 19,jr 21 267 20]
abbrev Qik:IL:=[jb 22 1 1,jc 23 22,D2 24 23 0,ja 2 24]
abbrev Qil:IL:=[jb 25 2 1,jc 26 25,⟨some 27,.val (.bin .str .eql (.t 26) (.c (.str []))),none⟩,ja 2 27]
abbrev Qim:RC:=jQ Qig (.seq (jQ Qih (.cond (.t 18) (jQ Qii (.ret)) (.skip))) (.seq (jQ Qij (.cond (.t 21) (jQ Qik (.ret)) (.skip))) (jQ Qil (.ret))))
abbrev Qin:List RR:=[.tmp 2]
theorem Qio:CT 229 28 Qim Qin:=ck Tryz.func229 Tryz.ntmps229 (by decide +kernel)
abbrev Qip:IL:=[ja 10 1,jm 11 10 1,ja 8 11]
abbrev Qiq:IL:=[ja 12 8,ja 13 2,jn 14 12 13]
abbrev Qir:IL:=[ja 17 8,ja 9 17]
abbrev Qis:IL:=[ja 18 9,ja 19 1,Cm 20 18 19,ja 21 20,jg 22 3 21,jg 23 0 21,jg 24 9 21,yc 25 4 23 24 21,Cn 26 4 25 21,jg 27 0 21,jg 28 9 21,D3 29 28 1 21,yc 30 4 27 29 21,Cn 31 4 30 21,⟨some 32,.call (.t 22) [(.t 26),(.t 31)],(some (21,true))⟩,⟨some 33,.val (.bin .num .lss (.t 32) (.c (.int .i64 0))),(some (21,true))⟩,jj 34 21 33]
abbrev Qit:IL:=[ja 37 0,ja 38 9,ja 39 0,ja 40 9,za 41 40 1,ja 42 0,ja 43 9,za 44 43 1,jk 45 4 42 44,ya 46 4 45,ja 47 0,ja 48 9,jk 49 4 47 48,ya 50 4 49,jk 51 4 37 38,js 4 51 46,jk 52 4 39 41,js 4 52 50]
abbrev Qiu:IL:=[ja 35 9,za 36 35 1,ja 9 36]
abbrev Qiv:RC:=.seq (jD Qis (jX 34 2)) (.seq (.block 3 (.draw Qit)) (.reg Qiu))
abbrev Qiw:IL:=[ja 15 8,jm 16 15 1,ja 8 16]
abbrev Qix:RC:=.seq (jQ Qiq (jX 14 0)) (.seq (.block 1 (jQ Qir (.block 2 (.loop Qiv)))) (.reg Qiw))
abbrev Qiy:RC:=jQ Qip (.block 0 (.loop Qix))
abbrev Qiz:List RR:=[]
theorem QC7:CT 230 53 Qiy Qiz:=ck Tryz.func230 Tryz.ntmps230 (by decide +kernel)
abbrev QiA:IL:=[jd 4 0]
abbrev QiB:IL:=[ja 6 0,ji 7 1 6,jd 8 0]
abbrev QiC:IL:=[jn 9 8 7]
abbrev QiD:IL:=[ja 10 8,ja 5 10]
abbrev QiE:IL:=[ja 11 1,ja 12 0,ja 13 5,jk 14 5 12 13,jf 15 5 14,G4 16 11 15]
abbrev QiF:IL:=[ja 17 5,ja 4 17]
abbrev QiG:IL:=[jm 18 8 1,ja 8 18]
abbrev QiH:RC:=jQ QiC (.seq (jX 9 0) (.seq (.block 1 (jQ QiD (jQ QiE (.cond (.t 16) (jQ QiF (.ret)) (.skip))))) (.reg QiG)))
abbrev QiI:IL:=[jd 4 (-1)]
abbrev QiJ:RC:=jQ QiA (.seq (jQ QiB (.block 0 (.loop QiH))) (jQ QiI (.ret)))
abbrev QiK:List RR:=[.tmp 4]
theorem QiL:CT 241 19 QiJ QiK:=ck Tryz.func241 Tryz.ntmps241 (by decide +kernel)
abbrev QiM:IL:=[jd 4 0]
abbrev QiN:IL:=[ja 6 0,ji 7 1 6,jd 8 0]
abbrev QiO:IL:=[jn 9 8 7]
abbrev QiP:IL:=[ja 10 8,ja 5 10]
abbrev QiQ:IL:=[ja 11 1,ja 12 0,ja 13 5,jk 14 1 12 13,jc 15 14,G4 16 11 15]
abbrev QiR:IL:=[ja 17 5,ja 4 17]
abbrev QiS:IL:=[jm 18 8 1,ja 8 18]
abbrev QiT:RC:=jQ QiO (.seq (jX 9 0) (.seq (.block 1 (jQ QiP (jQ QiQ (.cond (.t 16) (jQ QiR (.ret)) (.skip))))) (.reg QiS)))
abbrev QiU:IL:=[jd 4 (-1)]
abbrev QiV:RC:=jQ QiM (.seq (jQ QiN (.block 0 (.loop QiT))) (jQ QiU (.ret)))
abbrev QiW:List RR:=[.tmp 4]
theorem QiX:CT 242 19 QiV QiW:=ck Tryz.func242 Tryz.ntmps242 (by decide +kernel)
abbrev QiY:IL:=[ye 8]
abbrev QiZ:IL:=[ja 12 3,jq 13 12 0]
abbrev Qi0:IL:=[ye 8]
abbrev Qi1:IL:=[ja 14 1,⟨some 15,.val (.bin .str .eql (.t 14) (.c (.str []))),none⟩]
abbrev Qi2:IL:=[ja 16 0,ja 17 3,jy 18 273 16 17,ja 8 18]
abbrev Qi3:IL:=[ja 19 3,yo 20 19 0]
abbrev Qi4:IL:=[ja 21 0,ja 22 1,jy 23 274 21 22,jm 24 23 1,ja 3 24]
abbrev Qi5:IL:=[ja 25 3,ja 26 0,ji 27 0 26,jm 28 27 1,⟨some 29,.val (.mnx false (.t 25) (.t 28)),none⟩,ja 3 29]
abbrev Qi6:IL:=[ja 30 3,⟨some 31,.mk 31 9 1 16 [.str []] (.t 30) (.t 30),none⟩,ja 9 31]
abbrev Qi7:IL:=[ja 32 3,za 33 32 1,ja 3 33]
abbrev Al:IL:=[jd 10 0]
abbrev An:IL:=[ja 34 10,ja 35 3,jn 36 34 35]
abbrev Ao:IL:=[ja 37 0,ja 38 1,jy 39 275 37 38,ja 11 39]
abbrev Ap:IL:=[ja 40 11,yo 41 40 0]
abbrev Aq:IL:=[ja 42 9,ja 43 10,ja 44 0,ja 45 11,ja 46 2,yj 47 45 46,⟨some 48,.val (.slc none (.t 44) none (some (.t 47)) none),none⟩,jk 49 1 42 43,js 1 49 48]
abbrev Ar:IL:=[ja 50 0,ja 51 11,ja 52 1,ji 53 0 52,yj 54 51 53,Cy 55 50 54,ja 0 55]
abbrev As:IL:=[ja 56 10,jm 57 56 1,ja 10 57]
abbrev Qi8:RC:=.seq (jQ An (jX 36 0)) (.block 1 (jQ Ao (.seq (jQ Ap (.cond (.t 41) (.exit 0) (.skip))) (jQ Aq (jQ Ar (.reg As))))))
abbrev Au:IL:=[ja 58 9,ja 59 10,ja 60 0,jk 61 1 58 59,js 1 61 60]
abbrev Av:IL:=[ja 62 9,ja 63 10,jm 64 63 1,BI 65 1 62 64,ja 8 65]
abbrev Qi9:RC:=jQ QiY (.seq (jQ QiZ (.cond (.t 13) (jQ Qi0 (.ret)) (.skip))) (.seq (jQ Qi1 (.cond (.t 15) (jQ Qi2 (.ret)) (.skip))) (.seq (jQ Qi3 (.cond (.t 20) (.reg Qi4) (.skip))) (jQ Qi5 (jQ Qi6 (jQ Qi7 (jQ Al (.seq (.block 0 (.loop Qi8)) (jQ Au (jQ Av (.ret)))))))))))
abbrev Qja:List RR:=[.tmp 8]
theorem Qjb:CT 243 66 Qi9 Qja:=ck Tryz.func243 Tryz.ntmps243 (by decide +kernel)
abbrev Qjc:IL:=[jd 2 0]
abbrev Qjd:IL:=[ja 4 0,⟨some 5,.val (.bin .num .geq (.t 4) (.c (.int .i32 97))),none⟩,ja 6 5,jg 7 0 6,⟨some 8,.val (.bin .num .leq (.t 7) (.c (.int .i32 122))),(some (6,true))⟩,jj 9 6 8,ja 3 9]
abbrev Qje:IL:=[jd 2 1]
abbrev Qjf:IL:=[ja 11 0,⟨some 12,.val (.bin .num .geq (.t 11) (.c (.int .i32 65))),none⟩,ja 13 12,jg 14 0 13,⟨some 15,.val (.bin .num .leq (.t 14) (.c (.int .i32 90))),(some (13,true))⟩,jj 16 13 15,ja 10 16]
abbrev Qjg:IL:=[jd 2 2]
abbrev Qjh:IL:=[ja 18 0,⟨some 19,.val (.bin .num .geq (.t 18) (.c (.int .i32 48))),none⟩,ja 20 19,jg 21 0 20,⟨some 22,.val (.bin .num .leq (.t 21) (.c (.int .i32 57))),(some (20,true))⟩,jj 23 20 22,ja 17 23]
abbrev Qji:IL:=[jd 2 3]
abbrev Qjj:IL:=[ja 25 0,⟨some 26,.val (.bin .num .eql (.t 25) (.c (.int .i32 95))),none⟩,ja 24 26]
abbrev Qjk:IL:=[jd 2 4]
abbrev Qjl:IL:=[jd 2 0]
abbrev Qjm:RC:=jQ Qjc (.seq (.block 0 (jQ Qjd (.cond (.t 3) (jQ Qje (.ret)) (jQ Qjf (.cond (.t 10) (jQ Qjg (.ret)) (jQ Qjh (.cond (.t 17) (jQ Qji (.ret)) (jQ Qjj (.cond (.t 24) (jQ Qjk (.ret)) (.skip)))))))))) (jQ Qjl (.ret)))
abbrev Qjn:List RR:=[.tmp 2]
theorem Qjo:CT 244 27 Qjm Qjn:=ck Tryz.func244 Tryz.ntmps244 (by decide +kernel)
abbrev Qjp:IL:=[je 4 4 0,je 7 7 3,jd 8 0]
abbrev Qjq:IL:=[jb 10 0 7,jc 11 10,ja 12 1,zs 13 11 12,ja 14 13,yv 15 7 7 14,zi 16 90 15 14,jo 17 14 16,ja 9 17]
abbrev Qjr:IL:=[jd 8 12]
abbrev Qjs:IL:=[jb 19 2 7,jc 20 19,ji 21 0 20,yq 22 21 4096,ja 18 22]
abbrev Qjt:IL:=[jd 8 3]
abbrev Qju:IL:=[ja 24 1,jq 25 24 7,ja 26 25,jl 27 2 7 26,ju 28 27 26,zh 29 168 28 26,yx 30 29 26,jj 31 26 30,ja 23 31]
abbrev Qjv:IL:=[jd 8 7]
abbrev Qjw:IL:=[ja 33 1,jf 34 7 7,jy 35 279 33 34,jz 36 35,ja 32 36]
abbrev Qjx:IL:=[jd 8 12]
abbrev Qjy:IL:=[ja 38 1,jq 39 38 9,ja 40 39,jl 41 0 4 40,zk 42 2 41 40,jg 43 2 40,jl 44 1 7 40,ju 45 44 40,Cq 46 179 42 43 45 40,yx 47 46 40,jj 48 40 47,ja 37 48]
abbrev Aw:IL:=[jd 8 16]
abbrev Ax:IL:=[jd 8 0]
abbrev Qjz:RC:=jQ Qjp (.seq (.block 0 (jQ Qjq (.cond (.t 9) (jQ Qjr (.ret)) (jQ Qjs (.cond (.t 18) (jQ Qjt (.ret)) (jQ Qju (.cond (.t 23) (jQ Qjv (.ret)) (jQ Qjw (.cond (.t 32) (jQ Qjx (.ret)) (jQ Qjy (.cond (.t 37) (jQ Aw (.ret)) (.skip)))))))))))) (jQ Ax (.ret)))
abbrev QjA:List RR:=[.tmp 8]
theorem QjB:CT 251 49 Qjz QjA:=ck Tryz.func251 Tryz.ntmps251 (by decide +kernel)
abbrev QjC:IL:=[ja 10 1,jm 11 10 1,ja 8 11]
abbrev QjD:IL:=[ja 12 8,ja 13 2,jn 14 12 13]
abbrev QjE:IL:=[ja 17 8,ja 9 17]
abbrev QjF:IL:=[ja 18 9,ja 19 1,Cm 20 18 19,ja 21 20,jg 22 3 21,jg 23 0 21,jg 24 9 21,yc 25 8 23 24 21,Cn 26 8 25 21,jg 27 0 21,jg 28 9 21,D3 29 28 1 21,yc 30 8 27 29 21,Cn 31 8 30 21,⟨some 32,.call (.t 22) [(.t 26),(.t 31)],(some (21,true))⟩,⟨some 33,.val (.bin .num .lss (.t 32) (.c (.int .i64 0))),(some (21,true))⟩,jj 34 21 33]
abbrev QjG:IL:=[ja 37 0,ja 38 9,ja 39 0,ja 40 9,za 41 40 1,ja 42 0,ja 43 9,za 44 43 1,jk 45 8 42 44,ya 46 8 45,ja 47 0,ja 48 9,jk 49 8 47 48,ya 50 8 49,jk 51 8 37 38,js 8 51 46,jk 52 8 39 41,js 8 52 50]
abbrev QjH:IL:=[ja 35 9,za 36 35 1,ja 9 36]
abbrev QjI:RC:=.seq (jD QjF (jX 34 2)) (.seq (.block 3 (.draw QjG)) (.reg QjH))
abbrev QjJ:IL:=[ja 15 8,jm 16 15 1,ja 8 16]
abbrev QjK:RC:=.seq (jQ QjD (jX 14 0)) (.seq (.block 1 (jQ QjE (.block 2 (.loop QjI)))) (.reg QjJ))
abbrev QjL:RC:=jQ QjC (.block 0 (.loop QjK))
abbrev QjM:List RR:=[]
theorem QC8:CT 254 53 QjL QjM:=ck Tryz.func254 Tryz.ntmps254 (by decide +kernel)
abbrev QjN:IL:=[jh 2]
abbrev QjO:IL:=[ja 3 0,jq 4 3 7,ja 5 4,jv 6 0 5,ys 7 6 8 5,jo 8 5 7,ja 2 8]
abbrev QjP:RC:=jQ QjN (jQ QjO (.ret))
abbrev QjQ:List RR:=[.tmp 2]
theorem QjR:CT 267 9 QjP QjQ:=ck Tryz.func267 Tryz.ntmps267 (by decide +kernel)
abbrev QjS:IL:=[jd 4 0]
abbrev QjT:IL:=[ja 7 1,ji 8 0 7,jq 9 8 0]
abbrev QjU:IL:=[ja 10 0,jr 11 289 10,jm 12 11 1,ja 4 12]
abbrev QjV:IL:=[ja 13 1,ji 14 0 13,jq 15 14 1]
abbrev QjW:IL:=[ja 16 0,ja 17 1,⟨some 18,.val (.idx (.t 17) (.c (.int .i64 0))),none⟩,⟨some 19,.xb true 291 (.t 16) (.t 18),none⟩,ja 4 19]
abbrev QjX:IL:=[jd 5 0]
abbrev QjY:IL:=[ja 20 0,ja 21 1,jy 22 275 20 21,ja 6 22]
abbrev QjZ:IL:=[ja 23 6,jq 24 23 (-1)]
abbrev Qj0:IL:=[ja 25 5,ja 4 25]
abbrev Qj1:IL:=[ja 26 5,jm 27 26 1,ja 5 27]
abbrev Ay:IL:=[ja 28 0,ja 29 6,ja 30 1,ji 31 0 30,yj 32 29 31,Cy 33 28 32,ja 0 33]
abbrev Qj2:RC:=.block 1 (jQ QjY (.seq (jQ QjZ (.cond (.t 24) (jQ Qj0 (.ret)) (.skip))) (jQ Qj1 (.reg Ay))))
abbrev Qj3:RC:=jQ QjS (.seq (jQ QjT (.cond (.t 9) (jQ QjU (.ret)) (.skip))) (.seq (jQ QjV (.cond (.t 15) (jQ QjW (.ret)) (.skip))) (jQ QjX (.block 0 (.loop Qj2)))))
abbrev Qj4:List RR:=[.tmp 4]
theorem Qj5:CT 274 34 Qj3 Qj4:=ck Tryz.func274 Tryz.ntmps274 (by decide +kernel)
abbrev Qj6:IL:=[jd 4 0]
abbrev Qj7:IL:=[ja 5 0,ja 6 1,jy 7 292 5 6,ja 4 7]
abbrev Qj8:RC:=jQ Qj6 (jQ Qj7 (.ret))
abbrev Qj9:List RR:=[.tmp 4]
theorem Qka:CT 275 8 Qj8 Qj9:=ck Tryz.func275 Tryz.ntmps275 (by decide +kernel)
abbrev Qkb:IL:=[je 3 3 1,jh 4]
abbrev Qkc:IL:=[ja 5 0,jr 6 217 5,jz 7 6,ja 8 7,jp 9 0 3 8,jt 10 9 8,jv 11 0 8,Ck 12 10 11 8,jo 13 8 12,ja 14 13,yv 15 7 3 14,zi 16 229 15 14,ze 17 16 14,jo 18 14 17,ja 19 18,jv 20 0 19,jp 21 1 3 19,jt 22 21 19,Rf 23 294 20 22 19,ze 24 23 19,jo 25 19 24,ja 26 25,jp 27 2 3 26,jt 28 27 26,yf 29 0 28 26,yk 30 29 4096 26,jo 31 26 30]
abbrev Qkd:IL:=[jh 4]
abbrev Qke:IL:=[ja 32 0,yg 33 32 7,ja 34 33,jp 35 2 3 34,jt 36 35 34,zi 37 168 36 34,jo 38 34 37,ja 4 38]
abbrev Qkf:RC:=jQ Qkb (.seq (jQ Qkc (.cond (.t 31) (jQ Qkd (.ret)) (.skip))) (jQ Qke (.ret)))
abbrev Qkg:List RR:=[.tmp 4]
theorem Qkh:CT 279 39 Qkf Qkg:=ck Tryz.func279 Tryz.ntmps279 (by decide +kernel)
def CG:IL:=[jd 4 0]
def CH:IL:=[ja 14 1,ji 15 0 14,ja 5 15]
def CI:IL:=[ja 17 5,jq 18 17 0,ja 19 18,jv 20 1 19,jv 21 0 19,⟨some 22,.val (.bin .str .eql (.t 20) (.t 21)),(some (19,false))⟩,jo 23 19 22,ja 16 23]
def CJ:IL:=[jd 4 0]
def CL:IL:=[ja 25 5,jq 26 25 1,ja 24 26]
def CM:IL:=[ja 27 0,ja 28 1,⟨some 29,.val (.idx (.t 28) (.c (.int .i64 0))),none⟩,jy 30 300 27 29,ja 4 30]
def CN:IL:=[ja 32 5,ja 33 0,ji 34 0 33,⟨some 35,.val (.bin .num .geq (.t 32) (.t 34)),none⟩,ja 31 35]
def CO:IL:=[jd 4 (-1)]
def CP:IL:=[ja 45 0,ja 46 1,jy 47 301 45 46,ja 4 47]
def Az:IL:=[ja 48 1,⟨some 49,.val (.idx (.t 48) (.c (.int .i64 0))),none⟩,ja 6 49]
def AA:IL:=[ja 50 1,⟨some 51,.val (.idx (.t 50) (.c (.int .i64 1))),none⟩,ja 7 51]
def AB:IL:=[jd 8 0]
def AC:IL:=[ja 52 0,ji 53 0 52,ja 54 5,zg 55 53 54,jm 56 55 1,ja 9 56]
def AD:IL:=[jd 10 0]
def AE:IL:=[ja 57 8,ja 58 9,jn 59 57 58]
def AF:IL:=[ja 60 0,ja 61 8,BP 62 60 61,ja 63 6,zs 64 62 63]
def AG:IL:=[ja 65 0,ja 66 8,jm 67 66 1,ja 68 9,⟨some 69,.val (.slc none (.t 65) (some (.t 67)) (some (.t 68)) none),none⟩,ja 70 6,jy 71 300 69 70,ja 11 71]
def AH:IL:=[ja 72 11,yo 73 72 0]
def AI:IL:=[jd 4 (-1)]
def AJ:IL:=[ja 74 8,ja 75 11,jm 76 75 1,yj 77 74 76,ja 8 77]
def AK:IL:=[ja 78 0,ja 79 8,jm 80 79 1,BP 81 78 80,ja 82 7,zm 83 81 82,ja 84 83,jg 85 0 84,jg 86 8 84,jg 87 8 84,jg 88 5 84,⟨some 89,.val (.bin .num .add (.t 87) (.t 88)),(some (84,true))⟩,⟨some 90,.val (.slc none (.t 85) (some (.t 86)) (some (.t 89)) none),(some (84,true))⟩,jg 91 1 84,Cu 92 90 91 84,jj 93 84 92]
def AL:IL:=[ja 94 8,ja 4 94]
def AM:IL:=[ja 95 8,jm 96 95 1,ja 8 96]
def AN:IL:=[ja 97 10,jm 98 97 1,ja 10 98]
def AO:IL:=[ja 108 0,ja 109 8,Cy 110 108 109,ja 111 1,jy 112 301 110 111,ja 12 112]
def AP:IL:=[ja 113 12,yn 114 113 0]
def AQ:IL:=[ja 115 12,ja 116 8,yj 117 115 116,ja 4 117]
def AR:IL:=[jd 4 (-1)]
def AS:IL:=[ja 133 0,ja 134 8,Cy 135 133 134,ja 136 1,jy 137 303 135 136,ja 13 137]
def AT:IL:=[ja 138 13,yo 139 138 0]
def AU:IL:=[jd 4 (-1)]
def AW:IL:=[ja 140 8,ja 141 13,yj 142 140 141,ja 4 142]
def Qki:RC:=.seq (jQ AE (jX 59 1)) (.block 2 (.seq (jQ AF (.cond (.t 64) (jQ AG (.seq (jQ AH (.cond (.t 73) (jQ AI (.ret)) (.skip))) (.reg AJ))) (.skip))) (.seq (jQ AK (.cond (.t 93) (jQ AL (.ret)) (.skip))) (jQ AM (jQ AN (.seq (.no) (.cond (.t 107) (jQ AO (.seq (jQ AP (.cond (.t 114) (jQ AQ (.ret)) (.skip))) (jQ AR (.ret)))) (.seq (.no) (.cond (.t 132) (jQ AS (.seq (jQ AT (.cond (.t 139) (jQ AU (.ret)) (.skip))) (jQ AW (.ret)))) (.skip))))))))))
def AX:IL:=[jd 4 (-1)]
def NX:RC:=jQ CG (jQ CH (.seq (.block 0 (jQ CI (.cond (.t 16) (jQ CJ (.ret)) (jQ CL (.cond (.t 24) (jQ CM (.ret)) (jQ CN (.cond (.t 31) (jQ CO (.ret)) (.seq (.no) (.cond (.t 36) (jQ CP (.ret)) (.skip)))))))))) (jQ Az (jQ AA (jQ AB (jQ AC (jQ AD (.seq (.block 1 (.loop Qki)) (jQ AX (.ret))))))))))
def M8:List RR:=[.tmp 4]
theorem Qkj:CT 292 143 NX M8:=ck Tryz.func292 Tryz.ntmps292 (by decide +kernel)
abbrev Qkk:IL:=[jh 4]
abbrev Qkl:IL:=[I7 5 4294967295]
abbrev Qkm:IL:=[ja 6 0]
abbrev Qkn:IL:=[jq 8 6 1,ja 7 8]
abbrev Qko:IL:=[jq 10 6 2,ja 9 10]
abbrev Qkp:IL:=[jq 12 6 9,ja 11 12]
abbrev Qkq:IL:=[jq 14 6 4,ja 13 14]
abbrev Qkr:IL:=[ja 15 1,⟨some 16,.val (.bin .num .leq (.t 15) (.c (.int .u64 1))),none⟩,ja 4 16]
abbrev Qks:IL:=[ja 17 1,Cj 18 17,yn 19 18 (-2147483648),ja 20 19,jg 21 1 20,⟨some 22,.val (.cvi .i64 (.t 21)),(some (20,true))⟩,yy 23 22 2147483647 20,jj 24 20 23,ja 4 24]
abbrev Qkt:IL:=[I7 5 2147483647]
abbrev AY:IL:=[ja 25 1,ja 26 5,D6 27 25 26,ja 4 27]
abbrev AZ:IL:=[yl 4]
abbrev Qku:RC:=jQ Qkk (jQ Qkl (.seq (jQ Qkm (.block 0 (.seq (.block 4 (.seq (.block 3 (.seq (.block 2 (.seq (.block 1 (.seq (.seq (jQ Qkn (.cond (.t 7) (.exit 1) (.skip))) (.seq (jQ Qko (.cond (.t 9) (.exit 2) (.skip))) (.seq (jQ Qkp (.cond (.t 11) (.exit 3) (.skip))) (jQ Qkq (.cond (.t 13) (.exit 4) (.skip)))))) (.exit 0))) (.seq (jQ Qkr (.ret)) (.exit 0)))) (.seq (jQ Qks (.ret)) (.exit 0)))) (.reg Qkt))) (.seq (jQ AY (.ret)) (.exit 0))))) (jQ AZ (.ret))))
abbrev Qkv:List RR:=[.tmp 4]
theorem Qkw:CT 294 28 Qku Qkv:=ck Tryz.func294 Tryz.ntmps294 (by decide +kernel)
abbrev Qkx:IL:=[jd 4 0]
abbrev Qky:IL:=[ja 5 0,ja 6 1,⟨some 7,.xb false 305 (.t 5) (.t 6),none⟩,ja 4 7]
abbrev Qkz:RC:=jQ Qkx (jQ Qky (.ret))
abbrev QkA:List RR:=[.tmp 4]
theorem QkB:CT 300 8 Qkz QkA:=ck Tryz.func300 Tryz.ntmps300 (by decide +kernel)
abbrev Qxi:IL:=[je 3 3 0,je 5 5 2,jd 6 0]
abbrev Qxj:IL:=[ja 8 1,yo 9 8 0,ja 10 9,jv 11 1 10,jp 12 0 3 10,jt 13 12 10,yf 14 1 13 10,Rd 15 11 14 10,jo 16 10 15]
abbrev Qxk:IL:=[jd 6 10]
abbrev Qxl:IL:=[jf 17 2 3,ja 18 1,jf 19 7 5,⟨some 20,.call (.f 31) [(.t 17),(.t 18),(.t 19),(.c (.int .i64 1))],none⟩,ja 7 20]
abbrev Qxm:IL:=[ja 21 7,yg 22 21 0]
abbrev Qxn:IL:=[ja 23 7,ja 6 23]
abbrev Qxo:IL:=[jf 24 7 5,jr 25 32 24,yq 26 25 4096]
abbrev Qxp:IL:=[jd 6 3]
abbrev Qxq:IL:=[jd 6 0]
abbrev K8:RC:=jQ Qxi (.seq (jQ Qxj (.cond (.t 16) (jQ Qxk (.ret)) (.skip))) (.seq (jQ Qxl (jQ Qxm (.cond (.t 22) (jQ Qxn (.ret)) (.skip)))) (.seq (jQ Qxo (.cond (.t 26) (jQ Qxp (.ret)) (.skip))) (jQ Qxq (.ret)))))
abbrev Qxr:IL:=[je 1 1 0,jd 2 0]
abbrev Qxs:IL:=[jf 4 2 1,jr 5 43 4,jz 6 5,ja 3 6]
abbrev Qxt:IL:=[jd 2 3]
abbrev Qxu:IL:=[jf 8 2 1,jr 9 44 8,jz 10 9,ja 7 10]
abbrev Qxv:IL:=[jd 2 8]
abbrev Qxw:IL:=[jf 12 2 1,jr 13 45 12,jz 14 13,ja 11 14]
abbrev Qxx:IL:=[jd 2 11]
abbrev Qxy:IL:=[jf 16 2 1,jr 17 46 16,jz 18 17,ja 15 18]
abbrev Qxz:IL:=[jd 2 9]
abbrev QxA:IL:=[jf 20 2 1,jr 21 47 20,jz 22 21,ja 19 22]
abbrev QkC:IL:=[jd 2 6]
abbrev QkD:IL:=[jf 24 2 1,jr 25 48 24,jz 26 25,ja 23 26]
abbrev QkE:IL:=[jd 2 1]
abbrev QkF:IL:=[jf 28 2 1,jr 29 49 28,jz 30 29,ja 27 30]
abbrev QkG:IL:=[jd 2 19]
abbrev QkH:IL:=[jd 2 0]
abbrev r22:RC:=jQ Qxr (.seq (.block 0 (jQ Qxs (.cond (.t 3) (jQ Qxt (.ret)) (jQ Qxu (.cond (.t 7) (jQ Qxv (.ret)) (jQ Qxw (.cond (.t 11) (jQ Qxx (.ret)) (jQ Qxy (.cond (.t 15) (jQ Qxz (.ret)) (jQ QxA (.cond (.t 19) (jQ QkC (.ret)) (jQ QkD (.cond (.t 23) (jQ QkE (.ret)) (jQ QkF (.cond (.t 27) (jQ QkG (.ret)) (.skip)))))))))))))))) (jQ QkH (.ret)))
abbrev o22:List RR:=[.tmp 2]
theorem k22:CT 22 31 r22 o22:=ck Tryz.func22 Tryz.ntmps22 (by decide +kernel)
abbrev QxB:IL:=[je 1 1 0,jh 2]
abbrev QxC:IL:=[jb 7 0 1,jc 8 7,ji 9 1 8,⟨some 10,.val (.bin .num .leq (.t 9) (.c (.int .i64 64))),none⟩,ja 11 10,jl 12 1 1 11,ju 13 12 11,yt 14 1 13 11,yy 15 14 64 11,jj 16 11 15,ja 3 16]
abbrev QxD:IL:=[jd 4 0]
abbrev QxE:IL:=[ja 17 4,jb 18 0 1,jc 19 18,ji 20 1 19,jn 21 17 20]
abbrev QxF:IL:=[ja 24 3,ja 25 24,jl 26 0 1 25,ju 27 26 25,jg 28 4 25,yc 29 3 27 28 25,jl 30 1 29 25,ju 31 30 25,yt 32 1 31 25,yy 33 32 64 25,jj 34 25 33,ja 3 34]
abbrev QxG:IL:=[ja 22 4,jm 23 22 1,ja 4 23]
abbrev Rn:RC:=.seq (jQ QxE (jX 21 0)) (.seq (.block 1 (.reg QxF)) (.reg QxG))
abbrev QxH:IL:=[jd 5 0]
abbrev QxI:IL:=[ja 35 5,jb 36 1 1,jc 37 36,ji 38 1 37,jn 39 35 38]
abbrev QxJ:IL:=[jb 42 1 1,jc 43 42,ja 44 5,jk 45 5 43 44,jb 46 2 45,jc 47 46,ji 48 1 47,ja 6 48]
abbrev QkI:IL:=[ja 49 3,ja 50 49,jg 51 6 50,Hv 52 51 1 50,jj 53 50 52,ja 54 53,jg 55 6 54,yy 56 55 64 54,jj 57 54 56,ja 58 57,jl 59 1 1 58,ju 60 59 58,jg 61 5 58,yc 62 5 60 61 58,jl 63 3 62 58,ju 64 63 58,yt 65 1 64 58,yy 66 65 16 58,jj 67 58 66,ja 3 67]
abbrev QxK:IL:=[ja 40 5,jm 41 40 1,ja 5 41]
abbrev Ro:RC:=.seq (jQ QxI (jX 39 2)) (.seq (.block 3 (jQ QxJ (.reg QkI))) (.reg QxK))
abbrev QkJ:IL:=[ja 68 3,ja 2 68]
abbrev r43:RC:=jQ QxB (jQ QxC (.seq (jQ QxD (.block 0 (.loop Rn))) (.seq (jQ QxH (.block 2 (.loop Ro))) (jQ QkJ (.ret)))))
abbrev o43:List RR:=[.tmp 2]
theorem k43:CT 43 69 r43 o43:=ck Tryz.func43 Tryz.ntmps43 (by decide +kernel)
abbrev QxL:IL:=[je 1 1 0,jh 2]
abbrev QxM:IL:=[yl 3]
abbrev QxN:IL:=[jd 4 0]
abbrev QxO:IL:=[ja 8 4,jb 9 0 1,jc 10 9,ji 11 1 10,jn 12 8 11]
abbrev QxP:IL:=[ja 15 3,ja 16 15,jl 17 0 1 16,ju 18 17 16,jg 19 4 16,yc 20 3 18 19 16,jl 21 0 20 16,ju 22 21 16,zh 23 76 22 16,jj 24 16 23,ja 3 24]
abbrev QxQ:IL:=[jd 5 0]
abbrev QxR:IL:=[ja 25 5,jb 26 0 1,jc 27 26,ja 28 4,jk 29 3 27 28,jb 30 1 29,jc 31 30,ji 32 1 31,jn 33 25 32]
abbrev QxS:IL:=[ja 36 3,ja 37 36,jl 38 0 1 37,ju 39 38 37,jg 40 4 37,yc 41 3 39 40 37,jl 42 1 41 37,ju 43 42 37,jg 44 5 37,yc 45 8 43 44 37,jl 46 1 45 37,ju 47 46 37,zh 48 77 47 37,jj 49 37 48,ja 3 49]
abbrev QxT:IL:=[ja 34 5,jm 35 34 1,ja 5 35]
abbrev Rp:RC:=.seq (jQ QxR (jX 33 2)) (.seq (.block 3 (.reg QxS)) (.reg QxT))
abbrev QxU:IL:=[ja 13 4,jm 14 13 1,ja 4 14]
abbrev Rq:RC:=.seq (jQ QxO (jX 12 0)) (.seq (.block 1 (jQ QxP (jQ QxQ (.block 2 (.loop Rp))))) (.reg QxU))
abbrev QkK:IL:=[jd 6 0]
abbrev QkL:IL:=[ja 50 6,jb 51 1 1,jc 52 51,ji 53 1 52,jn 54 50 53]
abbrev QkM:IL:=[ja 57 3,ja 58 57,jl 59 1 1 58,ju 60 59 58,jg 61 6 58,yc 62 5 60 61 58,jl 63 0 62 58,ju 64 63 58,zh 65 76 64 58,jj 66 58 65,ja 3 66]
abbrev QkN:IL:=[jd 7 0]
abbrev QkO:IL:=[ja 67 7,jb 68 1 1,jc 69 68,ja 70 6,jk 71 5 69 70,jb 72 2 71,jc 73 72,ji 74 1 73,jn 75 67 74]
abbrev QkP:IL:=[ja 78 3,ja 79 78,jl 80 1 1 79,ju 81 80 79,jg 82 6 79,yc 83 5 81 82 79,jl 84 2 83 79,ju 85 84 79,jg 86 7 79,yc 87 3 85 86 79,jl 88 0 87 79,ju 89 88 79,zh 90 77 89 79,jj 91 79 90,ja 3 91]
abbrev QkQ:IL:=[ja 76 7,jm 77 76 1,ja 7 77]
abbrev Rr:RC:=.seq (jQ QkO (jX 75 6)) (.seq (.block 7 (.reg QkP)) (.reg QkQ))
abbrev QkR:IL:=[ja 55 6,jm 56 55 1,ja 6 56]
abbrev Rs:RC:=.seq (jQ QkL (jX 54 4)) (.seq (.block 5 (jQ QkM (jQ QkN (.block 6 (.loop Rr))))) (.reg QkR))
abbrev QkS:IL:=[ja 92 3,ja 2 92]
abbrev r44:RC:=jQ QxL (jQ QxM (.seq (jQ QxN (.block 0 (.loop Rq))) (.seq (jQ QkK (.block 4 (.loop Rs))) (jQ QkS (.ret)))))
abbrev o44:List RR:=[.tmp 2]
theorem k44:CT 44 93 r44 o44:=ck Tryz.func44 Tryz.ntmps44 (by decide +kernel)
abbrev QxV:IL:=[je 1 1 0,jh 2]
abbrev QxW:IL:=[yl 3]
abbrev QxX:IL:=[jd 4 0]
abbrev QxY:IL:=[ja 8 4,jb 9 0 1,jc 10 9,ji 11 1 10,jn 12 8 11]
abbrev QxZ:IL:=[ja 15 3,ja 16 15,jg 17 4 16,ym 18 17 0 16,jg 19 18 16,jp 20 0 1 19,zl 21 0 1 20 19,jv 22 4 19,⟨some 23,.val (.bin .num .sub (.t 22) (.c (.int .i64 1))),(some (19,false))⟩,yz 24 3 21 23 19,jp 25 0 24 19,BO 26 25 19,jp 27 0 1 19,zl 28 0 1 27 19,jv 29 4 19,yz 30 3 28 29 19,jp 31 0 30 19,BO 32 31 19,⟨some 33,.val (.bin .str .lss (.t 26) (.t 32)),(some (19,false))⟩,zf 34 19 33 16,jj 35 16 34,ja 3 35]
abbrev Qx0:IL:=[jd 5 1]
abbrev Qx1:IL:=[ja 36 5,jb 37 0 1,jc 38 37,ja 39 4,jk 40 3 38 39,jb 41 1 40,jc 42 41,ji 43 1 42,jn 44 36 43]
abbrev Qx2:IL:=[ja 47 3,ja 48 47,jl 49 0 1 48,zb 50 0 1 49 48,jg 51 4 48,yc 52 3 50 51 48,jl 53 1 52 48,yp 54 53 48,jg 55 5 48,D3 56 55 1 48,yc 57 8 54 56 48,jl 58 0 57 48,yp 59 58 48,jl 60 0 1 48,zb 61 0 1 60 48,jg 62 4 48,yc 63 3 61 62 48,jl 64 1 63 48,yp 65 64 48,jg 66 5 48,yc 67 8 65 66 48,jl 68 0 67 48,yp 69 68 48,zu 70 59 69 48,jj 71 48 70,ja 3 71]
abbrev Qx3:IL:=[ja 45 5,jm 46 45 1,ja 5 46]
abbrev Rt:RC:=.seq (jQ Qx1 (jX 44 2)) (.seq (.block 3 (.draw Qx2)) (.reg Qx3))
abbrev Qx4:IL:=[ja 13 4,jm 14 13 1,ja 4 14]
abbrev Ru:RC:=.seq (jQ QxY (jX 12 0)) (.seq (.block 1 (jD QxZ (jQ Qx0 (.block 2 (.loop Rt))))) (.reg Qx4))
abbrev QkT:IL:=[jd 6 0]
abbrev QkU:IL:=[ja 72 6,jb 73 1 1,jc 74 73,ji 75 1 74,jn 76 72 75]
abbrev QkV:IL:=[ja 79 3,ja 80 79,jg 81 6 80,ym 82 81 0 80,jg 83 82 80,jp 84 1 1 83,zl 85 0 1 84 83,jv 86 6 83,⟨some 87,.val (.bin .num .sub (.t 86) (.c (.int .i64 1))),(some (83,false))⟩,yz 88 5 85 87 83,jp 89 0 88 83,BO 90 89 83,jp 91 1 1 83,zl 92 0 1 91 83,jv 93 6 83,yz 94 5 92 93 83,jp 95 0 94 83,BO 96 95 83,⟨some 97,.val (.bin .str .lss (.t 90) (.t 96)),(some (83,false))⟩,zf 98 83 97 80,jj 99 80 98,ja 3 99]
abbrev QkW:IL:=[jd 7 1]
abbrev QkX:IL:=[ja 100 7,jb 101 1 1,jc 102 101,ja 103 6,jk 104 5 102 103,jb 105 2 104,jc 106 105,ji 107 1 106,jn 108 100 107]
abbrev QkY:IL:=[ja 111 3,ja 112 111,jl 113 1 1 112,zb 114 0 1 113 112,jg 115 6 112,yc 116 5 114 115 112,jl 117 2 116 112,yp 118 117 112,jg 119 7 112,D3 120 119 1 112,yc 121 3 118 120 112,jl 122 1 121 112,yp 123 122 112,jl 124 1 1 112,zb 125 0 1 124 112,jg 126 6 112,yc 127 5 125 126 112,jl 128 2 127 112,yp 129 128 112,jg 130 7 112,yc 131 3 129 130 112,jl 132 1 131 112,yp 133 132 112,zu 134 123 133 112,jj 135 112 134,ja 3 135]
abbrev QkZ:IL:=[ja 109 7,jm 110 109 1,ja 7 110]
abbrev Rv:RC:=.seq (jQ QkX (jX 108 6)) (.seq (.block 7 (.draw QkY)) (.reg QkZ))
abbrev Qk0:IL:=[ja 77 6,jm 78 77 1,ja 6 78]
abbrev Rw:RC:=.seq (jQ QkU (jX 76 4)) (.seq (.block 5 (jD QkV (jQ QkW (.block 6 (.loop Rv))))) (.reg Qk0))
abbrev Qk1:IL:=[ja 136 3,ja 2 136]
abbrev r45:RC:=jQ QxV (jQ QxW (.seq (jQ QxX (.block 0 (.loop Ru))) (.seq (jQ QkT (.block 4 (.loop Rw))) (jQ Qk1 (.ret)))))
abbrev o45:List RR:=[.tmp 2]
theorem k45:CT 45 137 r45 o45:=ck Tryz.func45 Tryz.ntmps45 (by decide +kernel)
abbrev Qx5:IL:=[je 1 1 0,jh 2]
abbrev Qx6:IL:=[yl 3]
abbrev Qx7:IL:=[jd 4 0]
abbrev Qx8:IL:=[ja 13 4,jb 14 0 1,jc 15 14,ji 16 1 15,jn 17 13 16]
abbrev Qx9:IL:=[jd 5 0]
abbrev Qya:IL:=[ja 20 5,jb 21 1 1,jc 22 21,ji 23 1 22,jn 24 20 23]
abbrev Qyb:IL:=[ja 27 3,ja 28 27,jl 29 0 1 28,zb 30 0 1 29 28,jg 31 4 28,yc 32 3 30 31 28,jl 33 0 32 28,yp 34 33 28,jl 35 1 1 28,zb 36 0 1 35 28,jg 37 5 28,yc 38 5 36 37 28,jl 39 0 38 28,yp 40 39 28,⟨some 41,.val (.bin .str .neq (.t 34) (.t 40)),(some (28,true))⟩,jj 42 28 41,ja 3 42]
abbrev Qyc:IL:=[ja 25 5,jm 26 25 1,ja 5 26]
abbrev Rx:RC:=.seq (jQ Qya (jX 24 2)) (.seq (.block 3 (.draw Qyb)) (.reg Qyc))
abbrev Qyd:IL:=[jb 43 0 1,jc 44 43,ja 45 4,jk 46 3 44 45,jb 47 1 46,jc 48 47,ja 6 48]
abbrev Qk2:IL:=[jd 7 0]
abbrev Qk3:IL:=[ja 49 7,ja 50 6,ji 51 1 50,jn 52 49 51]
abbrev Qk4:IL:=[jd 8 0]
abbrev Qk5:IL:=[ja 55 8,ja 56 7,jn 57 55 56]
abbrev Qk6:IL:=[ja 60 3,ja 61 60,jg 62 6 61,jg 63 8 61,yc 64 8 62 63 61,jl 65 1 64 61,yp 66 65 61,jg 67 6 61,jg 68 7 61,yc 69 8 67 68 61,jl 70 1 69 61,yp 71 70 61,⟨some 72,.val (.bin .str .neq (.t 66) (.t 71)),(some (61,true))⟩,jj 73 61 72,ja 3 73]
abbrev Qk7:IL:=[ja 58 8,jm 59 58 1,ja 8 59]
abbrev Ry:RC:=.seq (jQ Qk5 (jX 57 6)) (.seq (.block 7 (.draw Qk6)) (.reg Qk7))
abbrev Qk8:IL:=[ja 53 7,jm 54 53 1,ja 7 54]
abbrev Rz:RC:=.seq (jQ Qk3 (jX 52 4)) (.seq (.block 5 (jQ Qk4 (.block 6 (.loop Ry)))) (.reg Qk8))
abbrev Qye:IL:=[ja 18 4,jm 19 18 1,ja 4 19]
abbrev RD:RC:=.seq (jQ Qx8 (jX 17 0)) (.seq (.block 1 (.seq (jQ Qx9 (.block 2 (.loop Rx))) (jQ Qyd (jQ Qk2 (.block 4 (.loop Rz)))))) (.reg Qye))
abbrev Qk9:IL:=[jd 9 0]
abbrev Qla:IL:=[ja 74 9,jb 75 1 1,jc 76 75,ji 77 1 76,jn 78 74 77]
abbrev Qlb:IL:=[jb 81 1 1,jc 82 81,ja 83 9,jk 84 5 82 83,jb 85 2 84,jc 86 85,ja 10 86]
abbrev Qlc:IL:=[jd 11 0]
abbrev Qld:IL:=[ja 87 11,ja 88 10,ji 89 1 88,jn 90 87 89]
abbrev Qle:IL:=[jd 12 0]
abbrev Qlf:IL:=[ja 93 12,ja 94 11,jn 95 93 94]
abbrev Qlg:IL:=[ja 98 3,ja 99 98,jg 100 10 99,jg 101 12 99,yc 102 3 100 101 99,jl 103 0 102 99,yp 104 103 99,jg 105 10 99,jg 106 11 99,yc 107 3 105 106 99,jl 108 0 107 99,yp 109 108 99,⟨some 110,.val (.bin .str .neq (.t 104) (.t 109)),(some (99,true))⟩,jj 111 99 110,ja 3 111]
abbrev Qlh:IL:=[ja 96 12,jm 97 96 1,ja 12 97]
abbrev RE:RC:=.seq (jQ Qlf (jX 95 12)) (.seq (.block 13 (.draw Qlg)) (.reg Qlh))
abbrev Qli:IL:=[ja 91 11,jm 92 91 1,ja 11 92]
abbrev RF:RC:=.seq (jQ Qld (jX 90 10)) (.seq (.block 11 (jQ Qle (.block 12 (.loop RE)))) (.reg Qli))
abbrev Qlj:IL:=[ja 79 9,jm 80 79 1,ja 9 80]
abbrev RG:RC:=.seq (jQ Qla (jX 78 8)) (.seq (.block 9 (jQ Qlb (jQ Qlc (.block 10 (.loop RF))))) (.reg Qlj))
abbrev Qlk:IL:=[ja 112 3,ja 2 112]
abbrev r46:RC:=jQ Qx5 (jQ Qx6 (.seq (jQ Qx7 (.block 0 (.loop RD))) (.seq (jQ Qk9 (.block 8 (.loop RG))) (jQ Qlk (.ret)))))
abbrev o46:List RR:=[.tmp 2]
theorem k46:CT 46 113 r46 o46:=ck Tryz.func46 Tryz.ntmps46 (by decide +kernel)
abbrev Qyf:IL:=[je 1 1 0,jh 2]
abbrev Qyg:IL:=[yl 3]
abbrev Qyh:IL:=[jd 4 0]
abbrev Qyi:IL:=[ja 13 4,jb 14 0 1,jc 15 14,ji 16 1 15,jn 17 13 16]
abbrev Qyj:IL:=[jd 5 0]
abbrev Qyk:IL:=[ja 20 5,jb 21 0 1,jc 22 21,ja 23 4,jk 24 3 22 23,jb 25 1 24,jc 26 25,ji 27 1 26,jn 28 20 27]
abbrev Qyl:IL:=[jb 31 0 1,jc 32 31,ja 33 4,jk 34 3 32 33,jb 35 1 34,jc 36 35,ja 37 5,jk 38 8 36 37,jb 39 0 38,jc 40 39,ja 6 40]
abbrev Qym:IL:=[ja 41 3,ja 42 41,jg 43 6 42,Hv 44 43 1 42,jj 45 42 44,ja 46 45,jg 47 6 46,yy 48 47 65535 46,jj 49 46 48,ja 3 49]
abbrev Qyn:IL:=[ja 29 5,jm 30 29 1,ja 5 30]
abbrev RH:RC:=.seq (jQ Qyk (jX 28 2)) (.seq (.block 3 (jQ Qyl (.reg Qym))) (.reg Qyn))
abbrev Qyo:IL:=[ja 18 4,jm 19 18 1,ja 4 19]
abbrev RI:RC:=.seq (jQ Qyi (jX 17 0)) (.seq (.block 1 (jQ Qyj (.block 2 (.loop RH)))) (.reg Qyo))
abbrev Qll:IL:=[jd 7 0]
abbrev Qlm:IL:=[ja 50 7,jb 51 1 1,jc 52 51,ji 53 1 52,jn 54 50 53]
abbrev Qln:IL:=[jb 57 1 1,jc 58 57,ja 59 7,jk 60 5 58 59,jf 61 5 60,⟨some 8,.allocN 8 [.str [],.bool false,.nils,.nils,.nils],none⟩,js 5 8 61]
abbrev Qlo:IL:=[jd 9 0]
abbrev Qlp:IL:=[ja 62 9,jb 63 2 8,jc 64 63,ji 65 1 64,jn 66 62 65]
abbrev Qlq:IL:=[jb 69 2 8,jc 70 69,ja 71 9,jk 72 3 70 71,jb 73 1 72,jc 74 73,ja 10 74]
abbrev Qlr:IL:=[ja 75 3,ja 76 75,jg 77 10 76,yy 78 77 2147483647 76,jj 79 76 78,ja 80 79,jg 81 9 80,BK 82 81 0 80,jg 83 82 80,jv 84 10 83,ys 85 84 0 83,zf 86 83 85 80,jj 87 80 86,ja 88 87,jl 89 3 8 88,ju 90 89 88,jg 91 10 88,Co 92 78 90 91 88,yx 93 92 88,jj 94 88 93,ja 3 94]
abbrev Qls:IL:=[ja 67 9,jm 68 67 1,ja 9 68]
abbrev RJ:RC:=.seq (jQ Qlp (jX 66 6)) (.seq (.block 7 (jQ Qlq (.reg Qlr))) (.reg Qls))
abbrev Qlt:IL:=[jd 11 0]
abbrev Qlu:IL:=[ja 95 11,jb 96 3 8,jc 97 96,ji 98 1 97,jn 99 95 98]
abbrev Qlv:IL:=[jb 102 3 8,jc 103 102,ja 104 11,jk 105 2 103 104,jf 106 2 105,⟨some 12,.allocN 12 [.int .i64 0,.int .i64 0],none⟩,js 2 12 106]
abbrev Qlw:IL:=[ja 107 3,ja 108 107,jl 109 0 12 108,zb 110 0 12 109 108,Hv 111 110 0 108,jj 112 108 111,ja 113 112,jl 114 1 12 113,zb 115 0 12 114 113,yy 116 115 2147483647 113,jj 117 113 116,ja 118 117,jl 119 0 12 118,zb 120 0 12 119 118,jl 121 1 12 118,zb 122 0 12 121 118,Cz 123 120 122 118,jj 124 118 123,ja 125 124,jg 126 11 125,ym 127 126 0 125,jg 128 127 125,jp 129 0 12 128,zl 130 0 12 129 128,jp 131 3 8 128,zl 132 0 8 131 128,jv 133 11 128,⟨some 134,.val (.bin .num .sub (.t 133) (.c (.int .i64 1))),(some (128,false))⟩,yz 135 2 132 134 128,jp 136 1 135 128,BO 137 136 128,⟨some 138,.val (.bin .num .gtr (.t 130) (.t 137)),(some (128,false))⟩,zf 139 128 138 125,jj 140 125 139,ja 3 140]
abbrev Qlx:IL:=[ja 100 11,jm 101 100 1,ja 11 101]
abbrev RK:RC:=.gho (.drop 12) (.seq (jQ Qlu (jX 99 8)) (.seq (.block 9 (jQ Qlv (.draw Qlw))) (.reg Qlx)))
abbrev Qly:IL:=[ja 55 7,jm 56 55 1,ja 7 56]
abbrev RL:RC:=.gho (.drop 12) (.gho (.drop 8) (.seq (jQ Qlm (jX 54 4)) (.seq (.block 5 (jQ Qln (.seq (jQ Qlo (.block 6 (.loop RJ))) (jQ Qlt (.block 8 (.loop RK)))))) (.reg Qly))))
abbrev Qlz:IL:=[ja 141 3,ja 2 141]
abbrev r47:RC:=jQ Qyf (jQ Qyg (.seq (jQ Qyh (.block 0 (.loop RI))) (.seq (jQ Qll (.block 4 (.loop RL))) (jQ Qlz (.ret)))))
abbrev o47:List RR:=[.tmp 2]
theorem k47:CT 47 142 r47 o47:=ck Tryz.func47 Tryz.ntmps47 (by decide +kernel)
abbrev Qyp:IL:=[je 1 1 0,jh 2]
abbrev Qyq:IL:=[yl 3]
abbrev Qyr:IL:=[jd 4 0]
abbrev Qys:IL:=[ja 9 4,jb 10 1 1,jc 11 10,ji 12 1 11,jn 13 9 12]
abbrev Qyt:IL:=[ja 16 3,ja 17 16,jl 18 1 1 17,ju 19 18 17,jg 20 4 17,yc 21 5 19 20 17,jl 22 4 21 17,ju 23 22 17,yt 24 1 23 17,ym 25 24 0 17,jj 26 17 25,ja 3 26]
abbrev Qyu:IL:=[jd 5 0]
abbrev Qyv:IL:=[ja 27 5,jb 28 1 1,jc 29 28,ja 30 4,jk 31 5 29 30,jb 32 2 31,jc 33 32,ji 34 1 33,jn 35 27 34]
abbrev Qyw:IL:=[jb 38 1 1,jc 39 38,ja 40 4,jk 41 5 39 40,jb 42 2 41,jc 43 42,ja 44 5,jk 45 3 43 44,jb 46 2 45,jc 47 46,ja 6 47]
abbrev QlA:IL:=[ja 48 3,ja 49 48,jg 50 6 49,yt 51 1 50 49,ym 52 51 0 49,jg 53 52 49,jv 54 6 53,yf 55 1 54 53,ys 56 55 1 53,jv 57 56 53,jg 58 6 57,BM 59 8 58 0 57,jl 60 0 59 57,ju 61 60 57,⟨some 62,.val (.bin .str .eql (.t 61) (.c (.str [97,108,105,97,115]))),(some (57,true))⟩,yw 63 57 62 53,jv 64 63 53,jg 65 6 64,⟨some 66,.call (.f 79) [(.t 65),(.c (.int .i64 4))],(some (64,true))⟩,ym 67 66 0 64,yw 68 64 67 53,zf 69 53 68 49,jj 70 49 69,ja 3 70]
abbrev Qyx:IL:=[ja 36 5,jm 37 36 1,ja 5 37]
abbrev RM:RC:=.seq (jQ Qyv (jX 35 2)) (.seq (.block 3 (jQ Qyw (.reg QlA))) (.reg Qyx))
abbrev Qyy:IL:=[ja 14 4,jm 15 14 1,ja 4 15]
abbrev RP:RC:=.seq (jQ Qys (jX 13 0)) (.seq (.block 1 (jQ Qyt (jQ Qyu (.block 2 (.loop RM))))) (.reg Qyy))
abbrev QlB:IL:=[jd 7 0]
abbrev QlC:IL:=[ja 71 7,jb 72 0 1,jc 73 72,ji 74 1 73,jn 75 71 74]
abbrev QlD:IL:=[ja 78 3,ja 79 78,jl 80 0 1 79,ju 81 80 79,jg 82 7 79,yc 83 3 81 82 79,zk 84 3 83 79,zh 85 80 84 79,jj 86 79 85,ja 3 86]
abbrev QlE:IL:=[jd 8 0]
abbrev QlF:IL:=[ja 87 8,jb 88 0 1,jc 89 88,ja 90 7,jk 91 3 89 90,jb 92 1 91,jc 93 92,ji 94 1 93,jn 95 87 94]
abbrev QlG:IL:=[ja 98 3,ja 99 98,zt 100 0 1 2 1 99,jl 101 0 1 99,zb 102 0 1 101 99,jg 103 7 99,yc 104 3 102 103 99,jl 105 1 104 99,yp 106 105 99,jg 107 8 99,yc 108 8 106 107 99,Cn 109 8 108 99,Co 110 81 100 109 99,jj 111 99 110,ja 3 111]
abbrev QlH:IL:=[ja 96 8,jm 97 96 1,ja 8 97]
abbrev RQ:RC:=.seq (jQ QlF (jX 95 6)) (.seq (.block 7 (.draw QlG)) (.reg QlH))
abbrev QlI:IL:=[ja 76 7,jm 77 76 1,ja 7 77]
abbrev RS:RC:=.seq (jQ QlC (jX 75 4)) (.seq (.block 5 (jQ QlD (jQ QlE (.block 6 (.loop RQ))))) (.reg QlI))
abbrev QlJ:IL:=[ja 112 3,ja 2 112]
abbrev r48:RC:=jQ Qyp (jQ Qyq (.seq (jQ Qyr (.block 0 (.loop RP))) (.seq (jQ QlB (.block 4 (.loop RS))) (jQ QlJ (.ret)))))
abbrev o48:List RR:=[.tmp 2]
theorem k48:CT 48 113 r48 o48:=ck Tryz.func48 Tryz.ntmps48 (by decide +kernel)
abbrev Qyz:IL:=[je 1 1 0,jh 2]
abbrev QyA:IL:=[jb 9 0 1,jc 10 9,ji 11 1 10,⟨some 12,.mk 12 4 1 1 [.bool false] (.t 11) (.t 11),none⟩,ja 3 12]
abbrev QyB:IL:=[jb 13 0 1,jc 14 13,ji 15 1 14,jq 16 15 0,ja 4 16]
abbrev QyC:IL:=[jb 17 0 1,jc 18 17,ji 19 1 18,jd 20 0]
abbrev QyD:IL:=[jn 21 20 19]
abbrev QyE:IL:=[yl 4]
abbrev QyF:IL:=[jd 5 0]
abbrev QyG:IL:=[ja 22 5,jb 23 0 1,jc 24 23,ji 25 1 24,jn 26 22 25]
abbrev QyH:IL:=[yl 6]
abbrev QlK:IL:=[jd 7 0]
abbrev QlL:IL:=[ja 29 7,jb 30 0 1,jc 31 30,ja 32 5,jk 33 3 31 32,jb 34 1 33,jc 35 34,ji 36 1 35,jn 37 29 36]
abbrev QlM:IL:=[jb 40 0 1,jc 41 40,ja 42 5,jk 43 3 41 42,jb 44 1 43,jc 45 44,ja 46 7,jk 47 8 45 46,jf 48 8 47,zd 8 8,js 8 8 48]
abbrev QlN:IL:=[ja 49 6,ja 50 49,jl 51 3 8 50,ju 52 51 50,zv 53 52 1 50,jg 54 53 50,jp 55 5 8 54,jt 56 55 54,Ct 57 56 10 54,zf 58 54 57 50,jg 59 58 50,jv 60 3 59,jp 61 6 8 59,jt 62 61 59,yz 63 1 60 62 59,jt 64 63 59,zf 65 59 64 50,jj 66 50 65,ja 6 66]
abbrev QlO:IL:=[ja 38 7,jm 39 38 1,ja 7 39]
abbrev RT:RC:=.gho (.drop 8) (.seq (jQ QlL (jX 37 4)) (.seq (.block 5 (jQ QlM (.reg QlN))) (.reg QlO)))
abbrev QlP:IL:=[ja 67 3,ja 68 5,ja 69 6,jk 70 1 67 68,js 1 70 69]
abbrev QlQ:IL:=[ja 71 4,ja 72 71,jg 73 6 72,jj 74 72 73,ja 4 74]
abbrev QyI:IL:=[ja 27 5,jm 28 27 1,ja 5 28]
abbrev RU:RC:=.gho (.drop 8) (.seq (jQ QyG (jX 26 2)) (.seq (.block 3 (jQ QyH (.seq (jQ QlK (.block 4 (.loop RT))) (jQ QlP (.reg QlQ))))) (.reg QyI)))
abbrev QlR:IL:=[jm 75 20 1,ja 20 75]
abbrev QyJ:RC:=.gho (.drop 8) (jQ QyD (.seq (jX 21 0) (.seq (.block 1 (jQ QyE (jQ QyF (.block 2 (.loop RU))))) (.reg QlR))))
abbrev QlS:IL:=[ja 76 4,ja 2 76]
abbrev r49:RC:=jQ Qyz (jQ QyA (jQ QyB (.seq (jQ QyC (.block 0 (.loop QyJ))) (jQ QlS (.ret)))))
abbrev o49:List RR:=[.tmp 2]
theorem k49:CT 49 77 r49 o49:=ck Tryz.func49 Tryz.ntmps49 (by decide +kernel)
abbrev QyK:IL:=[jh 2]
abbrev QyL:IL:=[ja 5 0,jr 6 124 5,jz 7 6]
abbrev QyM:IL:=[jh 2]
abbrev QyN:IL:=[ja 8 0,⟨some 9,.val (.bin .str .neq (.t 8) (.c (.str []))),none⟩]
abbrev QyO:IL:=[ja 11 0,jr 12 125 11,ja 10 12,jx 13 10 0,jx 14 10 1,ja 3 13,ja 4 14]
abbrev QyP:IL:=[ja 15 4,jr 16 126 15]
abbrev QyQ:IL:=[jh 2]
abbrev QyR:IL:=[ja 17 3,ja 0 17]
abbrev QyS:RC:=.seq (jQ QyN (jX 9 0)) (.block 1 (jQ QyO (.seq (jQ QyP (.cond (.t 16) (jQ QyQ (.ret)) (.skip))) (.reg QyR))))
abbrev QyT:IL:=[yl 2]
abbrev r76:RC:=jQ QyK (.seq (jQ QyL (.cond (.t 7) (jQ QyM (.ret)) (.skip))) (.seq (.block 0 (.loop QyS)) (jQ QyT (.ret))))
abbrev o76:List RR:=[.tmp 2]
theorem k76:CT 76 18 r76 o76:=ck Tryz.func76 Tryz.ntmps76 (by decide +kernel)
abbrev QyU:IL:=[jh 2]
abbrev QyV:IL:=[ja 3 0,jr 4 127 3,ja 5 4,jg 6 0 5,zh 7 126 6 5,yx 8 7 5,jj 9 5 8,ja 2 9]
abbrev r77:RC:=jQ QyU (jQ QyV (.ret))
abbrev o77:List RR:=[.tmp 2]
theorem k77:CT 77 10 r77 o77:=ck Tryz.func77 Tryz.ntmps77 (by decide +kernel)
abbrev QyW:IL:=[jh 4]
abbrev QyX:IL:=[jd 5 0]
abbrev QyY:IL:=[ja 6 5,ja 7 0,ji 8 1 7,jn 9 6 8]
abbrev QyZ:IL:=[ja 12 0,ja 13 5,jk 14 2 12 13,jb 15 0 14,jc 16 15,ja 17 1,D6 18 16 17,ja 19 18,jg 20 1 19,jg 21 0 19,jg 22 5 19,yc 23 2 21 22 19,jl 24 1 23 19,ju 25 24 19,Cz 26 20 25 19,jj 27 19 26]
abbrev Qy0:IL:=[yl 4]
abbrev Qy1:IL:=[ja 10 5,jm 11 10 1,ja 5 11]
abbrev Qy2:RC:=.seq (jQ QyY (jX 9 0)) (.seq (.block 1 (jQ QyZ (.cond (.t 27) (jQ Qy0 (.ret)) (.skip)))) (.reg Qy1))
abbrev Qy3:IL:=[jh 4]
abbrev r78:RC:=jQ QyW (.seq (jQ QyX (.block 0 (.loop Qy2))) (jQ Qy3 (.ret)))
abbrev o78:List RR:=[.tmp 4]
theorem k78:CT 78 28 r78 o78:=ck Tryz.func78 Tryz.ntmps78 (by decide +kernel)
abbrev Qy4:IL:=[jd 4 0]
abbrev Qy5:IL:=[ja 6 0,ji 7 1 6,yq 8 7 8]
abbrev Qy6:IL:=[jd 4 3]
abbrev Qy7:IL:=[jd 5 0]
abbrev Qy8:IL:=[ja 9 5,ja 10 0,ji 11 1 10,jn 12 9 11]
abbrev Qy9:IL:=[ja 15 0,ja 16 5,jk 17 8 15 16,jb 18 0 17,jc 19 18,jr 20 128 19,jq 21 20 0]
abbrev Qza:IL:=[jd 4 8]
abbrev Qzb:IL:=[ja 22 0,ja 23 5,jk 24 8 22 23,jb 25 0 24,jc 26 25,ja 27 1,jy 28 129 26 27,jz 29 28]
abbrev Qzc:IL:=[jd 4 1]
abbrev QlT:IL:=[ja 30 0,ja 31 5,jk 32 8 30 31,jf 33 8 32,jr 34 130 33,jz 35 34]
abbrev QlU:IL:=[jd 4 12]
abbrev QlV:IL:=[ja 36 5,yq 37 36 0,ja 38 37,jg 39 0 38,jg 40 5 38,yc 41 8 39 40 38,jl 42 0 41 38,yp 43 42 38,jg 44 0 38,jg 45 5 38,D3 46 45 1 38,yc 47 8 44 46 38,jl 48 0 47 38,yp 49 48 38,⟨some 50,.val (.bin .str .lss (.t 43) (.t 49)),(some (38,true))⟩,jj 51 38 50]
abbrev QlW:IL:=[jd 4 11]
abbrev QlX:IL:=[ja 52 5,yq 53 52 0,ja 54 53,jg 55 0 54,jg 56 5 54,yc 57 8 55 56 54,jl 58 0 57 54,yp 59 58 54,jg 60 0 54,jg 61 5 54,D3 62 61 1 54,yc 63 8 60 62 54,jl 64 0 63 54,yp 65 64 54,Cu 66 59 65 54,jj 67 54 66]
abbrev QlY:IL:=[jd 4 9]
abbrev Qzd:IL:=[ja 13 5,jm 14 13 1,ja 5 14]
abbrev Qze:RC:=.seq (jQ Qy8 (jX 12 0)) (.seq (.block 1 (.seq (jQ Qy9 (.cond (.t 21) (jQ Qza (.ret)) (.skip))) (.seq (jQ Qzb (.cond (.t 29) (jQ Qzc (.ret)) (.skip))) (.seq (jQ QlT (.cond (.t 35) (jQ QlU (.ret)) (.skip))) (.seq (jD QlV (.cond (.t 51) (jQ QlW (.ret)) (.skip))) (jD QlX (.cond (.t 67) (jQ QlY (.ret)) (.skip)))))))) (.reg Qzd))
abbrev QlZ:IL:=[jd 4 0]
abbrev r79:RC:=jQ Qy4 (.seq (jQ Qy5 (.cond (.t 8) (jQ Qy6 (.ret)) (.skip))) (.seq (jQ Qy7 (.block 0 (.loop Qze))) (jQ QlZ (.ret))))
abbrev o79:List RR:=[.tmp 4]
theorem k79:CT 79 68 r79 o79:=ck Tryz.func79 Tryz.ntmps79 (by decide +kernel)
abbrev Qzf:IL:=[je 1 1 0,jh 2]
abbrev Qzg:IL:=[jd 3 0]
abbrev Qzh:IL:=[jd 4 0]
abbrev Qzi:IL:=[ja 6 4,jb 7 1 1,jc 8 7,ji 9 1 8,jn 10 6 9]
abbrev Qzj:IL:=[jb 13 1 1,jc 14 13,ja 15 4,jk 16 8 14 15,jb 17 7 16,jc 18 17,ja 5 18]
abbrev Qzk:IL:=[ja 20 5,ja 21 3,zm 22 20 21,ja 19 22]
abbrev Qzl:IL:=[ja 23 3,jm 24 23 1,ja 3 24]
abbrev Qzm:IL:=[ja 26 5,yg 27 26 (-1),ja 28 27,jg 29 4 28,ym 30 29 0 28,jg 31 30 28,jp 32 1 1 31,jt 33 32 31,jv 34 4 31,⟨some 35,.val (.bin .num .sub (.t 34) (.c (.int .i64 1))),(some (31,false))⟩,yz 36 8 33 35 31,jp 37 7 36 31,jt 38 37 31,jv 39 5 31,Ck 40 38 39 31,zf 41 31 40 28,jj 42 28 41,ja 25 42]
abbrev Qzn:IL:=[jh 2]
abbrev Qzo:IL:=[ja 11 4,jm 12 11 1,ja 4 12]
abbrev Qzp:RC:=.seq (jQ Qzi (jX 10 0)) (.seq (.block 1 (jQ Qzj (.block 2 (jQ Qzk (.cond (.t 19) (.reg Qzl) (jQ Qzm (.cond (.t 25) (jQ Qzn (.ret)) (.skip)))))))) (.reg Qzo))
abbrev Ql0:IL:=[jb 43 2 1,jc 44 43,ja 45 3,zm 46 44 45,ja 2 46]
abbrev r80:RC:=jQ Qzf (jQ Qzg (.seq (jQ Qzh (.block 0 (.loop Qzp))) (jQ Ql0 (.ret))))
abbrev o80:List RR:=[.tmp 2]
theorem k80:CT 80 47 r80 o80:=ck Tryz.func80 Tryz.ntmps80 (by decide +kernel)
def RV:IL:=[je 2 2 0,je 3 3 1,jh 4]
def RW:IL:=[jb 6 2 3,jc 7 6,jr 8 131 7,jz 9 8,ja 10 9,jp 11 2 3 10,jt 12 11 10,yf 13 0 12 10,yk 14 13 4096 10,jo 15 10 14,ja 16 15,jp 17 3 3 16,jt 18 17 16,Cr 19 18 1 16,jo 20 16 19,ja 21 20,jp 22 3 3 21,jt 23 22 21,yk 24 23 5 21,jo 25 21 24,ja 26 25,jp 27 5 3 26,jt 28 27 26,Cr 29 28 1 26,jo 30 26 29,ja 31 30,jp 32 5 3 31,jt 33 32 31,yk 34 33 10 31,jo 35 31 34]
def RX:IL:=[jh 4]
def RY:IL:=[jb 36 4 3,jc 37 36,yn 38 37 1,ja 39 38,jl 40 4 3 39,ju 41 40 39,yy 42 41 5 39,jj 43 39 42,ja 44 43,jp 45 4 3 44,jt 46 45 44,ys 47 46 7 44,jo 48 44 47,ja 5 48]
def RZ:IL:=[jb 49 3 3,jc 50 49,yg 51 50 5]
def R0:IL:=[jb 52 4 3,jc 53 52,jq 54 53 0,ja 5 54]
def NY:IL:=[ja 55 5,ja 56 55,zk 57 2 2 56,zk 58 8 3 56,Co 59 132 57 58 56,jj 60 56 59,ja 61 60,jl 62 7 3 61,ju 63 62 61,ym 64 63 (-1) 61,jg 65 64 61,jp 66 3 3 65,jt 67 66 65,ys 68 67 2 65,zf 69 65 68 61,jj 70 61 69,ja 4 70]
def r81:RC:=jQ RV (.seq (jQ RW (.cond (.t 35) (jQ RX (.ret)) (.skip))) (jQ RY (.seq (jQ RZ (.cond (.t 51) (.reg R0) (.skip))) (jQ NY (.ret)))))
def o81:List RR:=[.tmp 4]
theorem k81:CT 81 71 r81 o81:=ck Tryz.func81 Tryz.ntmps81 (by decide +kernel)
abbrev Qzq:IL:=[jd 2 0]
abbrev Qzr:IL:=[ja 5 0,⟨some 6,.val (.bin .num .and (.t 5) (.c (.int .u64 9218868437227405312))),none⟩,ja 7 0,⟨some 8,.val (.bin .num .and (.t 7) (.c (.int .u64 4503599627370495))),none⟩,ja 3 6,ja 4 8]
abbrev Qzs:IL:=[ja 10 3,D2 11 10 9218868437227405312,ja 12 11,jg 13 4 12,⟨some 14,.val (.bin .num .neq (.t 13) (.c (.int .u64 0))),(some (12,true))⟩,jj 15 12 14,ja 9 15]
abbrev Qzt:IL:=[jd 2 0]
abbrev Qzu:IL:=[ja 17 3,D2 18 17 9218868437227405312,ja 16 18]
abbrev Qzv:IL:=[jd 2 1]
abbrev Qzw:IL:=[ja 20 3,D2 21 20 0,ja 22 21,jg 23 4 22,I9 24 23 0 22,jj 25 22 24,ja 19 25]
abbrev Qzx:IL:=[jd 2 2]
abbrev Qzy:IL:=[ja 27 3,D2 28 27 0,ja 26 28]
abbrev Qzz:IL:=[jd 2 3]
abbrev Ql1:IL:=[jd 2 4]
abbrev r82:RC:=jQ Qzq (.seq (jQ Qzr (.block 0 (jQ Qzs (.cond (.t 9) (jQ Qzt (.ret)) (jQ Qzu (.cond (.t 16) (jQ Qzv (.ret)) (jQ Qzw (.cond (.t 19) (jQ Qzx (.ret)) (jQ Qzy (.cond (.t 26) (jQ Qzz (.ret)) (.skip))))))))))) (jQ Ql1 (.ret)))
abbrev o82:List RR:=[.tmp 2]
theorem k82:CT 82 29 r82 o82:=ck Tryz.func82 Tryz.ntmps82 (by decide +kernel)
abbrev QzA:IL:=[je 2 2 0,jh 3]
abbrev QzB:IL:=[jb 4 0 2,jc 5 4,jb 6 0 1,jc 7 6,zm 8 5 7,ja 3 8]
abbrev r93:RC:=jQ QzA (jQ QzB (.ret))
abbrev o93:List RR:=[.tmp 3]
theorem k93:CT 93 9 r93 o93:=ck Tryz.func93 Tryz.ntmps93 (by decide +kernel)
def R1:IL:=[je 3 3 0,je 4 4 1,je 5 5 2,jd 6 0]
def R2:IL:=[jb 11 1 5,jc 12 11,⟨some 13,.val (.bin .num .leq (.t 12) (.c (.int .i64 2))),none⟩,ja 7 13]
def R3:IL:=[jf 15 3 4,jb 16 0 5,jc 17 16,jy 18 72 15 17,ja 14 18,jx 19 14 0,jx 20 14 1,zd 8 8,js 8 8 19,ja 9 20]
def WT:IL:=[jb 21 5 8,jc 22 21,jq 23 22 9,ja 24 23,jl 25 3 8 24,ju 26 25 24,zv 27 26 5 24,jj 28 24 27,ja 29 28,jl 30 1 5 29,ju 31 30 29,ym 32 31 0 29,jj 33 29 32,ja 34 33,jl 35 2 5 34,ju 36 35 34,⟨some 37,.val (.bin .num .leq (.t 36) (.c (.int .u64 2147483647))),(some (34,true))⟩,jj 38 34 37,ja 39 38,jl 40 0 3 39,zk 41 2 40 39,jl 42 6 8 39,ju 43 42 39,jl 44 2 5 39,ju 45 44 39,Cq 46 179 41 43 45 39,yx 47 46 39,jj 48 39 47,ja 10 48]
def R4:IL:=[jb 50 0 5,jc 51 50,yo 52 51 1,ja 53 52,jp 54 0 5 53,jt 55 54 53,yk 56 55 65535 53,jo 57 53 56,ja 58 57,jp 59 1 5 58,jt 60 59 58,Cr 61 60 0 58,jo 62 58 61,ja 63 62,jp 64 1 5 63,jt 65 64 63,yk 66 65 6 63,jo 67 63 66,ja 49 67]
def Hw:IL:=[jd 6 1]
def R5:IL:=[ja 69 7,ja 70 69,jl 71 3 5 70,ju 72 71 70,⟨some 73,.val (.bin .str .neq (.t 72) (.c (.str []))),(some (70,true))⟩,jj 74 70 73,ja 75 74,jv 76 7 75,ze 77 76 75,jv 78 77 75,jl 79 2 5 78,ju 80 79 78,⟨some 81,.val (.bin .num .neq (.t 80) (.c (.int .u64 0))),(some (78,true))⟩,yw 82 78 81 75,jo 83 75 82,ja 84 83,jv 85 9 84,jv 86 85 84,jg 87 10 86,yx 88 87 86,yw 89 86 88 84,jo 90 84 89,ja 68 90]
def Hx:IL:=[jd 6 1]
def NZ:IL:=[jb 92 1 5,jc 93 92,jq 94 93 3,ja 95 94,jl 96 3 5 95,ju 97 96 95,yt 98 0 97 95,BK 99 98 4096 95,jj 100 95 99,ja 101 100,jp 102 3 5 101,jt 103 102 101,yf 104 0 103 101,yk 105 104 65536 101,jo 106 101 105,ja 91 106]
def N0:IL:=[jd 6 3]
def Fg:IL:=[jd 6 0]
def r94:RC:=jQ R1 (jQ R2 (jQ R3 (jQ WT (.seq (.block 0 (jQ R4 (.cond (.t 49) (jQ Hw (.ret)) (jQ R5 (.cond (.t 68) (jQ Hx (.ret)) (jQ NZ (.cond (.t 91) (jQ N0 (.ret)) (.skip)))))))) (jQ Fg (.ret))))))
def o94:List RR:=[.tmp 6]
theorem k94:CT 94 107 r94 o94:=ck Tryz.func94 Tryz.ntmps94 (by decide +kernel)
abbrev Ql2:IL:=[je 2 2 0,je 3 3 1,jd 4 0]
abbrev Ql3:IL:=[jb 5 0 2,jc 6 5,jb 7 0 3,jc 8 7,jy 9 102 6 8,ja 4 9]
abbrev QC9:RC:=jQ Ql2 (jQ Ql3 (.ret))
abbrev QDa:List RR:=[.tmp 4]
theorem QDb:CT 101 10 QC9 QDa:=ck Tryz.func101 Tryz.ntmps101 (by decide +kernel)
abbrev Ql4:IL:=[yi 2]
abbrev Ql5:IL:=[⟨some 5,.mk 5 5 1 1 [.int .u8 0] (.c (.int .i64 8)) (.c (.int .i64 8)),none⟩,ja 3 5]
abbrev Ql6:IL:=[ja 6 3,ji 7 1 6,jd 8 0]
abbrev Ql7:IL:=[jn 9 8 7]
abbrev Ql8:IL:=[ja 10 8,ja 4 10]
abbrev Ql9:IL:=[ja 11 3,ja 12 4,ja 13 0,ja 14 4,Cx 15 8 14,⟨some 16,.val (.bin .num .shr (.t 13) (.t 15)),none⟩,Re 17 16,jk 18 1 11 12,js 1 18 17]
abbrev Qma:IL:=[jm 19 8 1,ja 8 19]
abbrev Qmb:RC:=jQ Ql7 (.seq (jX 9 0) (.seq (.block 1 (jQ Ql8 (.reg Ql9))) (.reg Qma)))
abbrev Qmc:IL:=[ja 20 3,I8 21 20,ja 2 21]
abbrev QDc:RC:=jQ Ql4 (jQ Ql5 (.seq (jQ Ql6 (.block 0 (.loop Qmb))) (jQ Qmc (.ret))))
abbrev QDd:List RR:=[.tmp 2]
theorem QDe:CT 106 22 QDc QDd:=ck Tryz.func106 Tryz.ntmps106 (by decide +kernel)
abbrev Qmd:IL:=[je 3 3 0,je 4 4 1,je 5 5 2,ye 6]
abbrev Qme:IL:=[ye 7]
abbrev Qmf:IL:=[jb 11 4 5,jc 12 11,ji 13 1 12,jd 14 0]
abbrev Qmg:IL:=[jn 15 14 13]
abbrev Qmh:IL:=[jk 16 14 12 14,jf 17 14 16,Cw 9 9,js 14 9 17]
abbrev Qmi:IL:=[jb 18 0 9,jw 19 0 9 7 18,jr 20 25 19,⟨some 21,.call (.f 196) [(.c (.int .i64 1)),(.t 20)],none⟩,jw 22 0 3 2 3,jw 23 0 4 8 4,jb 24 7 9,jw 25 0 9 7 24,yd 26 197 22 23 25,⟨some 27,.call (.f 196) [(.c (.int .i64 2)),(.t 26)],none⟩,⟨some 28,.bsl 4 2 [.int .i64 0,.int .i64 0,.int .u64 0,.str []] [(0,4,(.t 21)),(4,4,(.t 27))],none⟩,ja 10 28]
abbrev Qmj:IL:=[ja 29 7,jb 30 0 4,yb 31 0 4 30,ja 32 10,jr 33 58 32,⟨some 34,.val (.build [.int .i64 0,.int .i64 0,.int .u64 0,.str []] [(0,1,(.t 31)),(1,1,(.c (.int .i64 6))),(3,1,(.t 33))]),none⟩,zw 35 4 1 0 4 34,yh 36 4 40 52 29 35,ja 7 36]
abbrev Qmk:IL:=[jm 37 14 1,ja 14 37]
abbrev Qml:RC:=.gho (.drop 9) (jQ Qmg (.seq (jX 15 0) (.seq (.block 1 (jQ Qmh (jD Qmi (.draw Qmj)))) (.reg Qmk))))
abbrev Qmm:IL:=[ja 38 7,ja 6 38]
abbrev QDf:RC:=jQ Qmd (jQ Qme (.gho (.vec 7 7 4) (.seq (jQ Qmf (.block 0 (.loop Qml))) (jQ Qmm (.ret)))))
abbrev QDg:List RR:=[.tmp 6]
theorem QDh:CT 118 39 QDf QDg:=ck Tryz.func118 Tryz.ntmps118 (by decide +kernel)
abbrev Qmn:IL:=[je 3 3 0,je 4 4 1,je 5 5 2,ye 6]
abbrev Qmo:IL:=[ye 7]
abbrev Qmp:IL:=[jb 10 3 5,jc 11 10,ji 12 1 11,jd 13 0]
abbrev Qmq:IL:=[jn 14 13 12]
abbrev Qmr:IL:=[jk 15 7 11 13,jf 16 7 15,yu 9 9,js 7 9 16]
abbrev Qms:IL:=[ja 17 7,jb 18 0 4,yb 19 0 4 18,jw 20 0 3 2 3,jw 21 0 4 8 4,jw 22 0 9 7 9,yd 23 197 20 21 22,jy 24 196 19 23,zw 25 4 1 0 4 24,yh 26 4 40 52 17 25,ja 7 26]
abbrev Qmt:IL:=[jm 27 13 1,ja 13 27]
abbrev Qmu:RC:=.gho (.drop 9) (jQ Qmq (.seq (jX 14 0) (.seq (.block 1 (jQ Qmr (.draw Qms))) (.reg Qmt))))
abbrev Qmv:IL:=[ja 28 7,ja 6 28]
abbrev QDi:RC:=jQ Qmn (jQ Qmo (.gho (.vec 7 7 4) (.seq (jQ Qmp (.block 0 (.loop Qmu))) (jQ Qmv (.ret)))))
abbrev QDj:List RR:=[.tmp 6]
theorem QDk:CT 121 29 QDi QDj:=ck Tryz.func121 Tryz.ntmps121 (by decide +kernel)
abbrev Qmw:IL:=[jh 2]
abbrev Qmx:IL:=[ja 5 0,ji 6 0 5,yq 7 6 120]
abbrev Qmy:IL:=[jh 2]
abbrev Qmz:IL:=[yi 3]
abbrev QmA:IL:=[jd 4 0]
abbrev QmB:IL:=[ja 8 4,ja 9 0,ji 10 0 9,jn 11 8 10]
abbrev QmC:IL:=[ja 14 0,ja 15 4,BP 16 14 15,⟨some 17,.val (.bin .num .neq (.t 16) (.c (.int .u8 46))),none⟩]
abbrev QmD:IL:=[ja 18 3,ja 19 0,ja 20 4,ja 21 4,jm 22 21 1,⟨some 23,.val (.slc none (.t 19) (some (.t 20)) (some (.t 22)) none),none⟩,jaq 24 18 23,ja 3 24]
abbrev QmE:IL:=[ja 25 3,jr 26 127 25,jz 27 26]
abbrev A1:IL:=[jh 2]
abbrev A2:IL:=[yi 3]
abbrev QmF:IL:=[ja 12 4,jm 13 12 1,ja 4 13]
abbrev QmG:RC:=.seq (jQ QmB (jX 11 0)) (.seq (.block 1 (.seq (jQ QmC (.cond (.t 17) (jQ QmD (.exit 1)) (.skip))) (.seq (jQ QmE (.cond (.t 27) (jQ A1 (.ret)) (.skip))) (.reg A2)))) (.reg QmF))
abbrev A3:IL:=[ja 28 3,jr 29 127 28,ja 2 29]
abbrev QDl:RC:=jQ Qmw (.seq (jQ Qmx (.cond (.t 7) (jQ Qmy (.ret)) (.skip))) (jQ Qmz (.seq (jQ QmA (.block 0 (.loop QmG))) (jQ A3 (.ret)))))
abbrev QDm:List RR:=[.tmp 2]
theorem QDn:CT 124 30 QDl QDm:=ck Tryz.func124 Tryz.ntmps124 (by decide +kernel)
abbrev QmH:IL:=[yi 2,yi 3]
abbrev QmI:IL:=[ja 5 0,ji 6 0 5,za 7 6 1,ja 4 7]
abbrev QmJ:IL:=[ja 8 4,yn 9 8 0]
abbrev QmK:IL:=[ja 12 0,ja 13 4,BP 14 12 13,CA 15 14 46]
abbrev QmL:IL:=[ja 16 0,ja 17 4,⟨some 18,.val (.slc none (.t 16) none (some (.t 17)) none),none⟩,ja 19 0,ja 20 4,jm 21 20 1,Cy 22 19 21,ja 2 18,ja 3 22]
abbrev QmM:IL:=[ja 10 4,za 11 10 1,ja 4 11]
abbrev QmN:RC:=.seq (jQ QmJ (jX 9 0)) (.seq (.block 1 (jQ QmK (.cond (.t 15) (jD QmL (.ret)) (.skip)))) (.reg QmM))
abbrev QmO:IL:=[ja 23 0,yi 2,ja 3 23]
abbrev QDo:RC:=jQ QmH (.seq (jQ QmI (.block 0 (.loop QmN))) (jQ QmO (.ret)))
abbrev QDp:List RR:=[.tmp 2,.tmp 3]
theorem QDq:CT 125 24 QDo QDp:=ck Tryz.func125 Tryz.ntmps125 (by decide +kernel)
abbrev QmP:IL:=[jh 2]
abbrev QmQ:IL:=[ja 3 0]
abbrev QmR:IL:=[⟨some 5,.val (.bin .str .eql (.t 3) (.c (.str [109,101,115,115,97,103,101]))),none⟩,ja 4 5]
abbrev QmS:IL:=[⟨some 6,.val (.bin .str .eql (.t 3) (.c (.str [101,110,117,109]))),none⟩,ja 4 6]
abbrev QmT:IL:=[⟨some 7,.val (.bin .str .eql (.t 3) (.c (.str [115,101,114,118,105,99,101]))),none⟩,ja 4 7]
abbrev QmU:IL:=[⟨some 8,.val (.bin .str .eql (.t 3) (.c (.str [117,110,105,111,110]))),none⟩,ja 4 8]
abbrev QmV:IL:=[⟨some 9,.val (.bin .str .eql (.t 3) (.c (.str [109,97,112]))),none⟩,ja 4 9]
abbrev QmW:IL:=[⟨some 10,.val (.bin .str .eql (.t 3) (.c (.str [108,105,115,116]))),none⟩,ja 4 10]
abbrev QmX:IL:=[⟨some 11,.val (.bin .str .eql (.t 3) (.c (.str [114,101,113,117,105,114,101,100]))),none⟩,ja 4 11]
abbrev QmY:IL:=[⟨some 12,.val (.bin .str .eql (.t 3) (.c (.str [111,112,116,105,111,110,97,108]))),none⟩,ja 4 12]
abbrev A4:IL:=[⟨some 13,.val (.bin .str .eql (.t 3) (.c (.str [112,108,97,105,110]))),none⟩,ja 4 13]
abbrev A5:IL:=[⟨some 14,.val (.bin .str .eql (.t 3) (.c (.str [100,101,102,97,117,108,116]))),none⟩,ja 4 14]
abbrev A6:IL:=[⟨some 15,.val (.bin .str .eql (.t 3) (.c (.str [114,101,115,101,114,118,101,100]))),none⟩,ja 4 15]
abbrev A7:IL:=[⟨some 16,.val (.bin .str .eql (.t 3) (.c (.str [105,109,112,111,114,116]))),none⟩,ja 4 16]
abbrev A8:IL:=[⟨some 17,.val (.bin .str .eql (.t 3) (.c (.str [115,112,97,99,101]))),none⟩,ja 4 17]
abbrev A9:IL:=[⟨some 18,.val (.bin .str .eql (.t 3) (.c (.str [114,112,99]))),none⟩,ja 4 18]
abbrev Ea:IL:=[⟨some 19,.val (.bin .str .eql (.t 3) (.c (.str [115,116,114,101,97,109]))),none⟩,ja 4 19]
abbrev Eb:IL:=[⟨some 20,.val (.bin .str .eql (.t 3) (.c (.str [114,101,116,117,114,110,115]))),none⟩,ja 4 20]
abbrev Ec:IL:=[⟨some 21,.val (.bin .str .eql (.t 3) (.c (.str [111,112,101,110]))),none⟩,ja 4 21]
abbrev Ed:IL:=[⟨some 22,.val (.bin .str .eql (.t 3) (.c (.str [116,114,117,101]))),none⟩,ja 4 22]
abbrev Ee:IL:=[⟨some 23,.val (.bin .str .eql (.t 3) (.c (.str [102,97,108,115,101]))),none⟩,ja 4 23]
abbrev Ef:IL:=[⟨some 24,.val (.bin .str .eql (.t 3) (.c (.str [110,97,110]))),none⟩,ja 4 24]
abbrev Eg:IL:=[⟨some 25,.val (.bin .str .eql (.t 3) (.c (.str [105,110,102]))),none⟩,ja 4 25]
abbrev Eh:IL:=[yl 2]
abbrev Ei:IL:=[jh 2]
abbrev QDr:RC:=jQ QmP (.seq (jQ QmQ (.block 0 (.seq (jQ QmR (.cond (.t 4) (.skip) (jQ QmS (.cond (.t 4) (.skip) (jQ QmT (.cond (.t 4) (.skip) (jQ QmU (.cond (.t 4) (.skip) (jQ QmV (.cond (.t 4) (.skip) (jQ QmW (.cond (.t 4) (.skip) (jQ QmX (.cond (.t 4) (.skip) (jQ QmY (.cond (.t 4) (.skip) (jQ A4 (.cond (.t 4) (.skip) (jQ A5 (.cond (.t 4) (.skip) (jQ A6 (.cond (.t 4) (.skip) (jQ A7 (.cond (.t 4) (.skip) (jQ A8 (.cond (.t 4) (.skip) (jQ A9 (.cond (.t 4) (.skip) (jQ Ea (.cond (.t 4) (.skip) (jQ Eb (.cond (.t 4) (.skip) (jQ Ec (.cond (.t 4) (.skip) (jQ Ed (.cond (.t 4) (.skip) (jQ Ee (.cond (.t 4) (.skip) (jQ Ef (.cond (.t 4) (.skip) (.reg Eg))))))))))))))))))))))))))))))))))))))))) (.cond (.t 4) (jQ Eh (.ret)) (.skip))))) (jQ Ei (.ret)))
abbrev QDs:List RR:=[.tmp 2]
theorem QDt:CT 126 26 QDr QDs:=ck Tryz.func126 Tryz.ntmps126 (by decide +kernel)
abbrev QmZ:IL:=[jh 2]
abbrev Qm0:IL:=[ja 4 0,ji 5 0 4,jq 6 5 0,ja 7 6,jv 8 0 7,yf 9 0 8 7,yk 10 9 40 7,jo 11 7 10,ja 12 11,jv 13 0 12,⟨some 14,.val (.idx (.t 13) (.c (.int .i64 0))),(some (12,false))⟩,zi 15 199 14 12,ze 16 15 12,jv 17 16 12,jg 18 0 17,⟨some 19,.val (.idx (.t 18) (.c (.int .i64 0))),(some (17,true))⟩,zh 20 200 19 17,yx 21 20 17,yw 22 17 21 12,jo 23 12 22]
abbrev Qm1:IL:=[jh 2]
abbrev Qm2:IL:=[jd 3 1]
abbrev Qm3:IL:=[ja 24 3,ja 25 0,ji 26 0 25,jn 27 24 26]
abbrev Qm4:IL:=[ja 30 0,ja 31 3,BP 32 30 31,jr 33 199 32,jz 34 33,ja 35 34,jg 36 0 35,jg 37 3 35,CB 38 36 37 35,zh 39 200 38 35,yx 40 39 35,jj 41 35 40,ja 42 41,jg 43 0 42,jg 44 3 42,CB 45 43 44 42,⟨some 46,.val (.bin .num .neq (.t 45) (.c (.int .u8 95))),(some (42,true))⟩,jj 47 42 46,ja 48 47,jg 49 0 48,jg 50 3 48,CB 51 49 50 48,⟨some 52,.val (.bin .num .lss (.t 51) (.c (.int .u8 48))),(some (48,true))⟩,jg 53 52 48,jv 54 0 53,jv 55 3 53,⟨some 56,.val (.idx (.t 54) (.t 55)),(some (53,false))⟩,⟨some 57,.val (.bin .num .gtr (.t 56) (.c (.int .u8 57))),(some (53,false))⟩,zf 58 53 57 48,jj 59 48 58]
abbrev Qm5:IL:=[jh 2]
abbrev Qm6:IL:=[ja 28 3,jm 29 28 1,ja 3 29]
abbrev CQ:RC:=.seq (jQ Qm3 (jX 27 0)) (.seq (.block 1 (jQ Qm4 (.cond (.t 59) (jQ Qm5 (.ret)) (.skip)))) (.reg Qm6))
abbrev Qm7:IL:=[yl 2]
abbrev QDu:RC:=jQ QmZ (.seq (jQ Qm0 (.cond (.t 23) (jQ Qm1 (.ret)) (.skip))) (.seq (jQ Qm2 (.block 0 (.loop CQ))) (jQ Qm7 (.ret))))
abbrev QDv:List RR:=[.tmp 2]
theorem QDw:CT 127 60 QDu QDv:=ck Tryz.func127 Tryz.ntmps127 (by decide +kernel)
abbrev Qm8:IL:=[jd 2 0]
abbrev Qm9:IL:=[ja 3 0]
abbrev Qna:IL:=[⟨some 5,.val (.bin .str .eql (.t 3) (.c (.str [100,101,112,114,101,99,97,116,101,100]))),none⟩,ja 4 5]
abbrev Qnb:IL:=[⟨some 6,.val (.bin .str .eql (.t 3) (.c (.str [115,101,99,114,101,116]))),none⟩,ja 4 6]
abbrev Qnc:IL:=[⟨some 7,.val (.bin .str .eql (.t 3) (.c (.str [105,100,101,109,112,111,116,101,110,116]))),none⟩,ja 4 7]
abbrev Qnd:IL:=[jd 2 1]
abbrev Qne:IL:=[⟨some 9,.val (.bin .str .eql (.t 3) (.c (.str [100,111,99]))),none⟩,ja 8 9]
abbrev Qnf:IL:=[⟨some 10,.val (.bin .str .eql (.t 3) (.c (.str [97,108,105,97,115]))),none⟩,ja 8 10]
abbrev Qng:IL:=[⟨some 11,.val (.bin .str .eql (.t 3) (.c (.str [114,111,117,116,101]))),none⟩,ja 8 11]
abbrev Qnh:IL:=[⟨some 12,.val (.bin .str .eql (.t 3) (.c (.str [111,119,110,101,114]))),none⟩,ja 8 12]
abbrev Ej:IL:=[jd 2 7]
abbrev Ek:IL:=[⟨some 14,.val (.bin .str .eql (.t 3) (.c (.str [115,105,110,99,101]))),none⟩,ja 13 14]
abbrev Em:IL:=[⟨some 15,.val (.bin .str .eql (.t 3) (.c (.str [117,110,116,105,108]))),none⟩,ja 13 15]
abbrev Eo:IL:=[⟨some 16,.val (.bin .str .eql (.t 3) (.c (.str [108,101,110,103,116,104]))),none⟩,ja 13 16]
abbrev Ep:IL:=[⟨some 17,.val (.bin .str .eql (.t 3) (.c (.str [116,105,109,101,111,117,116]))),none⟩,ja 13 17]
abbrev Er:IL:=[jd 2 4]
abbrev Es:IL:=[⟨some 19,.val (.bin .str .eql (.t 3) (.c (.str [109,105,110]))),none⟩,ja 18 19]
abbrev Et:IL:=[⟨some 20,.val (.bin .str .eql (.t 3) (.c (.str [109,97,120]))),none⟩,ja 18 20]
abbrev Eu:IL:=[jd 2 3]
abbrev Ex:IL:=[jd 2 0]
abbrev QDx:RC:=jQ Qm8 (.seq (jQ Qm9 (.block 0 (.seq (jQ Qna (.cond (.t 4) (.skip) (jQ Qnb (.cond (.t 4) (.skip) (.reg Qnc))))) (.cond (.t 4) (jQ Qnd (.ret)) (.seq (jQ Qne (.cond (.t 8) (.skip) (jQ Qnf (.cond (.t 8) (.skip) (jQ Qng (.cond (.t 8) (.skip) (.reg Qnh))))))) (.cond (.t 8) (jQ Ej (.ret)) (.seq (jQ Ek (.cond (.t 13) (.skip) (jQ Em (.cond (.t 13) (.skip) (jQ Eo (.cond (.t 13) (.skip) (.reg Ep))))))) (.cond (.t 13) (jQ Er (.ret)) (.seq (jQ Es (.cond (.t 18) (.skip) (.reg Et))) (.cond (.t 18) (jQ Eu (.ret)) (.skip))))))))))) (jQ Ex (.ret)))
abbrev QDy:List RR:=[.tmp 2]
theorem QDz:CT 128 21 QDx QDy:=ck Tryz.func128 Tryz.ntmps128 (by decide +kernel)
abbrev Qni:IL:=[jh 4]
abbrev Qnj:IL:=[ja 5 0]
abbrev Qnk:IL:=[⟨some 7,.val (.bin .str .eql (.t 5) (.c (.str [100,101,112,114,101,99,97,116,101,100]))),none⟩,ja 6 7]
abbrev Qnl:IL:=[⟨some 8,.val (.bin .str .eql (.t 5) (.c (.str [100,111,99]))),none⟩,ja 6 8]
abbrev Qnm:IL:=[ja 9 1,yn 10 9 1,ja 11 10,jg 12 1 11,yy 13 12 6 11,jj 14 11 13,ja 4 14]
abbrev Qnn:IL:=[⟨some 16,.val (.bin .str .eql (.t 5) (.c (.str [97,108,105,97,115]))),none⟩,ja 15 16]
abbrev Qno:IL:=[⟨some 17,.val (.bin .str .eql (.t 5) (.c (.str [115,105,110,99,101]))),none⟩,ja 15 17]
abbrev Qnp:IL:=[⟨some 18,.val (.bin .str .eql (.t 5) (.c (.str [117,110,116,105,108]))),none⟩,ja 15 18]
abbrev Qnq:IL:=[ja 19 1,jq 20 19 2,ja 21 20,jv 22 1 21,ys 23 22 4 21,jo 24 21 23,ja 25 24,jv 26 1 25,ys 27 26 6 25,jo 28 25 27,ja 4 28]
abbrev Qnr:IL:=[⟨some 30,.val (.bin .str .eql (.t 5) (.c (.str [109,105,110]))),none⟩,ja 29 30]
abbrev Ey:IL:=[⟨some 31,.val (.bin .str .eql (.t 5) (.c (.str [109,97,120]))),none⟩,ja 29 31]
abbrev EA:IL:=[⟨some 32,.val (.bin .str .eql (.t 5) (.c (.str [108,101,110,103,116,104]))),none⟩,ja 29 32]
abbrev EB:IL:=[⟨some 33,.val (.bin .str .eql (.t 5) (.c (.str [115,101,99,114,101,116]))),none⟩,ja 29 33]
abbrev EC:IL:=[ja 34 1,jq 35 34 2,ja 4 35]
abbrev ED:IL:=[⟨some 37,.val (.bin .str .eql (.t 5) (.c (.str [105,100,101,109,112,111,116,101,110,116]))),none⟩,ja 36 37]
abbrev EE:IL:=[⟨some 38,.val (.bin .str .eql (.t 5) (.c (.str [116,105,109,101,111,117,116]))),none⟩,ja 36 38]
abbrev EF:IL:=[⟨some 39,.val (.bin .str .eql (.t 5) (.c (.str [114,111,117,116,101]))),none⟩,ja 36 39]
abbrev EG:IL:=[ja 40 1,jq 41 40 6,ja 4 41]
abbrev EH:IL:=[ja 42 1,jq 43 42 1,ja 44 43,jv 45 1 44,ys 46 45 5 44,jo 47 44 46,ja 4 47]
abbrev QDA:RC:=jQ Qni (.seq (jQ Qnj (.block 0 (.seq (jQ Qnk (.cond (.t 6) (.skip) (.reg Qnl))) (.cond (.t 6) (jQ Qnm (.ret)) (.seq (jQ Qnn (.cond (.t 15) (.skip) (jQ Qno (.cond (.t 15) (.skip) (.reg Qnp))))) (.cond (.t 15) (jQ Qnq (.ret)) (.seq (jQ Qnr (.cond (.t 29) (.skip) (jQ Ey (.cond (.t 29) (.skip) (jQ EA (.cond (.t 29) (.skip) (.reg EB))))))) (.cond (.t 29) (jQ EC (.ret)) (.seq (jQ ED (.cond (.t 36) (.skip) (jQ EE (.cond (.t 36) (.skip) (.reg EF))))) (.cond (.t 36) (jQ EG (.ret)) (.skip))))))))))) (jQ EH (.ret)))
abbrev QDB:List RR:=[.tmp 4]
theorem QDC:CT 129 48 QDA QDB:=ck Tryz.func129 Tryz.ntmps129 (by decide +kernel)
abbrev Qns:IL:=[je 1 1 0,jh 2]
abbrev Qnt:IL:=[jb 4 0 1,jc 5 4,jr 6 128 5,ja 3 6]
abbrev Qnu:IL:=[ja 7 3,yg 8 7 0,ja 9 8,jl 10 1 1 9,jl 11 0 10 9,ju 12 11 9,jg 13 3 9,Rg 14 12 13 9,jj 15 9 14,ja 16 15,jg 17 3 16,jl 18 1 1 16,zk 19 7 18 16,Co 20 201 17 19 16,jj 21 16 20,ja 2 21]
abbrev QDD:RC:=jQ Qns (jQ Qnt (jQ Qnu (.ret)))
abbrev QDE:List RR:=[.tmp 2]
theorem QDF:CT 130 22 QDD QDE:=ck Tryz.func130 Tryz.ntmps130 (by decide +kernel)
abbrev Qnv:IL:=[jh 2]
abbrev Qnw:IL:=[ja 3 0,jr 4 202 3,yo 5 4 0,ja 2 5]
abbrev QDG:RC:=jQ Qnv (jQ Qnw (.ret))
abbrev QDH:List RR:=[.tmp 2]
theorem QDI:CT 131 6 QDG QDH:=ck Tryz.func131 Tryz.ntmps131 (by decide +kernel)
abbrev Qnx:IL:=[je 2 2 0,je 3 3 1,jh 4]
abbrev Qny:IL:=[jb 5 5 3,jc 6 5]
abbrev Qnz:IL:=[jq 8 6 10,ja 7 8]
abbrev QnA:IL:=[jb 9 6 3,jc 10 9,yn 11 10 0,ja 12 11,jl 13 6 3 12,ju 14 13 12,jl 15 0 2 12,ju 16 15 12,yt 17 1 16 12,zu 18 14 17 12,jj 19 12 18,ja 20 19,jl 21 3 3 20,ju 22 21 20,zv 23 22 3 20,jj 24 20 23,ja 4 24]
abbrev QnB:IL:=[jq 26 6 9,ja 25 26]
abbrev QnC:IL:=[jb 27 6 3,jc 28 27,yn 29 28 0,ja 30 29,jl 31 6 3 30,ju 32 31 30,jl 33 1 2 30,ju 34 33 30,yt 35 1 34 30,zu 36 32 35 30,jj 37 30 36,ja 4 37]
abbrev QnD:IL:=[jb 38 6 3,jc 39 38,jq 40 39 (-1),ja 4 40]
abbrev QDJ:RC:=jQ Qnx (.seq (jQ Qny (.block 0 (jQ Qnz (.cond (.t 7) (jQ QnA (.ret)) (jQ QnB (.cond (.t 25) (jQ QnC (.ret)) (.skip))))))) (jQ QnD (.ret)))
abbrev QDK:List RR:=[.tmp 4]
theorem QDL:CT 132 41 QDJ QDK:=ck Tryz.func132 Tryz.ntmps132 (by decide +kernel)
abbrev QnE:IL:=[je 1 1 0,jh 2]
abbrev QnF:IL:=[jb 3 2 1,jc 4 3,ji 5 1 4,yo 6 5 1,ja 7 6,jp 8 2 1 7,jt 9 8 7,yf 10 1 9 7,yk 11 10 64 7,jo 12 7 11,ja 13 12,jp 14 3 1 13,jt 15 14 13,yf 16 1 15 13,yk 17 16 16 13,jo 18 13 17,ja 2 18]
abbrev QDM:RC:=jQ QnE (jQ QnF (.ret))
abbrev QDN:List RR:=[.tmp 2]
theorem QDO:CT 136 19 QDM QDN:=ck Tryz.func136 Tryz.ntmps136 (by decide +kernel)
abbrev QnG:IL:=[je 1 1 0,jh 2]
abbrev QnH:IL:=[jb 3 0 1,jc 4 3,jr 5 138 4,jz 6 5,ja 7 6,jp 8 2 1 7,jt 9 8 7,zq 10 143 9 144 7,jo 11 7 10,ja 2 11]
abbrev QDP:RC:=jQ QnG (jQ QnH (.ret))
abbrev QDQ:List RR:=[.tmp 2]
theorem QDR:CT 142 12 QDP QDQ:=ck Tryz.func142 Tryz.ntmps142 (by decide +kernel)
abbrev QnI:IL:=[jh 4]
abbrev QnJ:IL:=[ja 5 0,ja 6 1,yr 7 211 5 6,ja 4 7]
abbrev QDS:RC:=jQ QnI (jQ QnJ (.ret))
abbrev QDT:List RR:=[.tmp 4]
theorem QDU:CT 143 8 QDS QDT:=ck Tryz.func143 Tryz.ntmps143 (by decide +kernel)
abbrev QnK:IL:=[je 1 1 0,jh 2]
abbrev QnL:IL:=[jb 3 0 1,jc 4 3,jr 5 141 4,jz 6 5,ja 2 6]
abbrev QDV:RC:=jQ QnK (jQ QnL (.ret))
abbrev QDW:List RR:=[.tmp 2]
theorem QDX:CT 144 7 QDV QDW:=ck Tryz.func144 Tryz.ntmps144 (by decide +kernel)
abbrev QnM:IL:=[je 2 2 0,je 3 3 1,jh 4]
abbrev QnN:IL:=[jb 5 0 2,jc 6 5,jb 7 0 3,jc 8 7,⟨some 9,.val (.bin .str .lss (.t 6) (.t 8)),none⟩,ja 4 9]
abbrev QDY:RC:=jQ QnM (jQ QnN (.ret))
abbrev QDZ:List RR:=[.tmp 4]
theorem QD0:CT 146 10 QDY QDZ:=ck Tryz.func146 Tryz.ntmps146 (by decide +kernel)
abbrev QnO:IL:=[je 2 2 0,je 3 3 1,jh 4]
abbrev QnP:IL:=[jb 5 0 2,jc 6 5,jb 7 0 3,jc 8 7,⟨some 9,.val (.bin .str .lss (.t 6) (.t 8)),none⟩,ja 4 9]
abbrev QD1:RC:=jQ QnO (jQ QnP (.ret))
abbrev QD2:List RR:=[.tmp 4]
theorem QD3:CT 148 10 QD1 QD2:=ck Tryz.func148 Tryz.ntmps148 (by decide +kernel)
abbrev QnQ:IL:=[je 1 1 0,jh 2]
abbrev QnR:IL:=[jb 3 2 1,jc 4 3,Ul 5 153 4 154,jz 6 5,ja 2 6]
abbrev QD4:RC:=jQ QnQ (jQ QnR (.ret))
abbrev QD5:List RR:=[.tmp 2]
theorem QD6:CT 152 7 QD4 QD5:=ck Tryz.func152 Tryz.ntmps152 (by decide +kernel)
abbrev QnS:IL:=[jh 4]
abbrev QnT:IL:=[jd 5 1]
abbrev QnU:IL:=[ja 6 5,ja 7 0,ji 8 1 7,jn 9 6 8]
abbrev QnV:IL:=[ja 12 1,ja 13 0,ja 14 5,za 15 14 1,jk 16 3 13 15,ya 17 3 16,ja 18 0,ja 19 5,jk 20 3 18 19,ya 21 3 20,⟨some 22,.callF (.t 12) [(.t 17),(.t 21)],none⟩,jz 23 22]
abbrev QnW:IL:=[jh 4]
abbrev QnX:IL:=[ja 10 5,jm 11 10 1,ja 5 11]
abbrev QnY:RC:=.seq (jQ QnU (jX 9 0)) (.seq (.block 1 (jD QnV (.cond (.t 23) (jQ QnW (.ret)) (.skip)))) (.reg QnX))
abbrev QnZ:IL:=[yl 4]
abbrev QD7:RC:=jQ QnS (.seq (jQ QnT (.block 0 (.loop QnY))) (jQ QnZ (.ret)))
abbrev QD8:List RR:=[.tmp 4]
theorem QD9:CT 153 24 QD7 QD8:=ck Tryz.func153 Tryz.ntmps153 (by decide +kernel)
abbrev Qn0:IL:=[je 2 2 0,je 3 3 1,jh 4]
abbrev Qn1:IL:=[jb 5 1 2,jc 6 5,jb 7 1 3,jc 8 7,jn 9 6 8,ja 4 9]
abbrev QEa:RC:=jQ Qn0 (jQ Qn1 (.ret))
abbrev QEb:List RR:=[.tmp 4]
theorem QEc:CT 154 10 QEa QEb:=ck Tryz.func154 Tryz.ntmps154 (by decide +kernel)
abbrev Qn2:IL:=[je 2 2 0,jh 3]
abbrev Qn3:IL:=[jb 4 0 2,jc 5 4,jb 6 0 1,jc 7 6,BJ 8 5 7,ja 3 8]
abbrev QEd:RC:=jQ Qn2 (jQ Qn3 (.ret))
abbrev QEe:List RR:=[.tmp 3]
theorem QEf:CT 156 9 QEd QEe:=ck Tryz.func156 Tryz.ntmps156 (by decide +kernel)
abbrev Qn4:IL:=[je 1 1 0,jh 2]
abbrev Qn5:IL:=[jb 3 2 1,jc 4 3,Ul 5 160 4 161,ja 2 5]
abbrev QEg:RC:=jQ Qn4 (jQ Qn5 (.ret))
abbrev QEh:List RR:=[.tmp 2]
theorem QEi:CT 159 6 QEg QEh:=ck Tryz.func159 Tryz.ntmps159 (by decide +kernel)
end Go.Proofs.YtipjfckmopekaaaGreatDoor.Rc

/- Parts of the proof, in order. -/
import Derived.Deep.LoopGhost
import Derived.Scope
import Derived.Orders
import Derived.Defers
import Derived.Below
import Derived.ChangeSame
import Derived.ProofKit
import Derived.Test.YtipjfckmopekaaaGreatDoorProg
import Derived.Test.YtipjfckmopekaaaGreatDoorMTagencEncodes0

namespace Go.Proofs.YtipjfckmopekaaaGreatDoor.Am
open Go

def Qk (P:Program)(k:FuncId)(args:List AV)(v:AV):Prop:=WQ P k args (· = v)

def Ua (P:Program)(d:Option Nat)(op:RO)(st:St)(K:St→Prop):Prop :=
 match op with
 |.val vo=>∃x,Qt st.f st.m vo=some x∧K { st with f:=Qn st.f d x }
 |.allocN s z=>XL st.m s=true∧K { st with m:=Am.put st.m 0 s (.cells z),f:=Qn st.f d (.ptr 0 s 0) }
 |.boxN s r=>XL st.m s=true∧(r.ev st.f).cells.all AV.leaf=true∧K { st with m:=Am.put st.m 0 s (.cells (r.ev st.f).cells),f:=Qn st.f d (.ptr 0 s 0) }
 |.store n p r=>(r.ev st.f).cells.length=n∧(r.ev st.f).cells.all AV.leaf=true∧∃m',QV st.m (p.ev st.f) (r.ev st.f).cells=some m'∧K { st with m:=m',f:=Qn st.f d (.tup []) }
 |.app sz bytes el s r=>∃l site g n xs ys,s.ev st.f=.vec l site g 0 n false∧Qf st.m l site=.vec g sz xs∧XP site el=true∧n≤xs.length∧Q7 st.m (r.ev st.f)=some ys∧ys.all (fun e=>e.cells.length==sz)=true∧n+ys.length≤maxLen∧(n+ys.length)*bytes≤140737488355328∧
   K { st with m:=Am.put st.m l site (.vec (g+1) sz (xs.take n++ys)),f:=Qn st.f d (.vec l site (g+1) 0 (n+ys.length) false) }
 |.storev l s n p r=>(∃o,p.ev st.f=.ptr l s o)∧(r.ev st.f).cells.length=n∧(r.ev st.f).cells.all AV.leaf=true∧∃m',QV st.m (p.ev st.f) (r.ev st.f).cells=some m'∧K { st with m:=m',f:=Qn st.f d (.tup []) }
 |.call f args=>∃k fa fb ys v,f.ev st.f=.fn (.func k) fa fb∧AV.stillL false st.m (fa++args.map (RA.ev st.f)++fb)=some ys∧AV.rfL ys=true∧Qk P k ys v∧v.rf=true∧(AV.rfL (fa++args.map (RA.ev st.f)++fb)=true∨v.nl=true)∧K { st with f:=Qn st.f d v }
 |.callF f args=>∃k fa fb v m',f.ev st.f=.fn (.func k) fa fb∧Qg P k (fa++args.map (RA.ev st.f)++fb) st.m (fun x m=>x=v∧m=m')∧K { st with m:=m',f:=Qn st.f d v }
 |.bsl sz len z ps=>∃y,fill st.f ps (XJ z sz len)=some y∧AV.rfL y=true∧y.all AV.leaf=true∧K { st with f:=Qn st.f d (.list (XS sz len (y.map nn0))) }
 |.bslv site sz len z ps=>∃y,fill st.f ps (XJ z sz len)=some y∧AV.rfL y=true∧y.all AV.leaf=true∧Qu (Qf st.m 0 site)=true∧
   K { st with m:=Am.put st.m 0 site (.vec (QC st.m 0 site) sz (XS sz len (y.map nn0))),f:=Qn st.f d (.vec 0 site (QC st.m 0 site) 0 len false) }
 |.bsl0 site sz=>Qu (Qf st.m 0 site)=true∧K { st with m:=Am.put st.m 0 site (.vec (QC st.m 0 site) sz []),f:=Qn st.f d (.vec 0 site (QC st.m 0 site) 0 0 false) }
 |.isnil neg r=>∃ys,Q7 st.m (r.ev st.f)=some ys∧(r.ev st.f≠.nils→K { st with f:=Qn st.f d (.bool neg) })∧((r.ev st.f=.nils∨QO ys=[])→K { st with f:=Qn st.f d (.bool (!neg)) })
 |.callK l s f args=>∃k fa fb v m',f.ev st.f=.fn (.func k) fa fb∧Qg P k (fa++args.map (RA.ev st.f)++fb) st.m (fun x m=>x=v∧m=m')∧Qf m' l s=Qf st.m l s∧K { st with m:=m',f:=Qn st.f d v }
 |.xb cnt _ s c=>∃t b,s.ev st.f=.str t∧c.ev st.f=.int .u8 b∧K { st with f:=Qn st.f d (.int .i64 (H7 cnt t b)) }
 |.callR f args=>∃k fa fb ys R,f.ev st.f=.fn (.func k) fa fb∧AV.stillL false st.m (fa++args.map (RA.ev st.f)++fb)=some ys∧AV.rfL ys=true∧WQ P k ys R∧(∀v,R v→v.rf=true∧(AV.rfL (fa++args.map (RA.ev st.f)++fb)=true∨v.nl=true))∧∀v,R v→K { st with f:=Qn st.f d v }
 |.rngs s r=>∃t,r.ev st.f=.str t∧XL st.m s=true∧K { st with m:=Am.put st.m 0 s (.iter (.str t) 0),f:=Qn st.f d (.ptr 0 s 0) }
 |.mkm s=>XL st.m s=true∧K { st with m:=Am.put st.m 0 s (.iter (.mp [] []) 0),f:=Qn st.f d (.mptr 0 s) }
 |.mput x i v=>∃l s ks vs p k,x.ev st.f=.mptr l s∧Qf st.m l s=.iter (.mp ks vs) p∧i.ev st.f=.str k∧(v.ev st.f).gr=true∧AV.grL vs=true∧ks.length=vs.length∧K { st with m:=Am.put st.m l s (.iter (.mp (X4 k (v.ev st.f) ks vs).1 (X4 k (v.ev st.f) ks vs).2) p),f:=Qn st.f d (.tup []) }
 |.nxts r=>∃l s t p,r.ev st.f=.ptr l s 0∧Qf st.m l s=.iter (.str t) p∧
   (p<t.length→K { st with m:=Am.put st.m l s (.iter (.str t) (p+(Xp t p).2)),f:=Qn st.f d (.tup [.bool true,.int .i64 (p:Nat),.int .i32 ((Xp t p).1:Nat)]) })∧(t.length≤p→K { st with f:=Qn st.f d (.tup [.bool false]) })
 |.appS el s r=>∃l site g n xs t,s.ev st.f=.vec l site g 0 n false∧Qf st.m l site=.vec g 1 xs∧XP site el=true∧n≤xs.length∧r.ev st.f=.str t∧n+t.length≤140737488355328∧
   K { st with m:=Am.put st.m l site (.vec (g+1) 1 (xs.take n++QA t)),f:=Qn st.f d (.vec l site (g+1) 0 (n+t.length) false) }
 |.mk site _ sz bytes z l c=>∃(kl kc:IntKind) (n k:Nat),l.ev st.f=.int kl (n:Int)∧c.ev st.f=.int kc (k:Int)∧n≤k∧k≤9223372036854775807∧bytes*k≤281474976710656∧Qu (Qf st.m 0 site)=true∧
   K { st with m:=Am.put st.m 0 site (.vec (QC st.m 0 site) sz (List.replicate n (JM sz z))),f:=Qn st.f d (.vec 0 site (QC st.m 0 site) 0 n false) }
 |.usd r=>∃l s g n sz xs,2000≤s∧r.ev st.f=.vec l s g 0 n false∧Qf st.m l s=.vec g sz xs∧K { st with f:=Qn st.f d (if n=0 then .anyp else .vptr l s g 0 0) }
 |.ustr el p r=>(p.ev st.f=.anyp∧r.ev st.f=.int .i64 0∧K { st with f:=Qn st.f d (.str []) })∨
   ∃l g n xs s,p.ev st.f=.vptr l (el+2000) g 0 0∧r.ev st.f=.int .i64 ((n:Nat):Int)∧Qf st.m l (el+2000)=.vec g 1 xs∧n≤xs.length∧n≠0∧xs.take n=QA s∧K { st with m:=Am.put st.m l (el+2000) (.vec (g+1) 1 []),f:=Qn st.f d (.str s) }

def XX (P:Program)(it:Item)(st:St)(K:St→Prop):Prop :=
 match it.g with
 |none=>Ua P it.dst it.op st K
 |some (j,want)=>match st.f j with
  |.bool b=>(b=want→Ua P it.dst it.op st K)∧(b=(!want)→K { st with f:=Qn st.f it.dst (.tup []) })
  |.tup l=>l=[]∧K { st with f:=Qn st.f it.dst (.tup []) }
  |_=>False

def QD (P:Program):List Item→St→(St→Prop)→Prop
 | [],st,K=>K st
 |it :: Qe,st,K=>XX P it st fun st'=>QD P Qe st' K

section
variable {P:Program}{N:Nat}

theorem CW {d:Option Nat}{op:RO}{Qe:List Item}{st:St}{Q:St→Prop}(h:Ua P d op st fun st'=>Qx P N Qe st' Q):Qx P N (⟨d,op,none⟩ :: Qe) st Q:=by
 cases op with
 |val vo=>obtain⟨x,hx,h⟩:=h;exact .val hx h
 |allocN s z=>exact .allocN h.1 h.2
 |boxN s r=>exact .boxN h.1 h.2.1 h.2.2
 |store n p r=>obtain⟨h1,h2,m',h3,h⟩:=h;exact .store h1 h2 h3 h
 |app sz bytes el s r=>obtain⟨l,site,g,n,xs,ys,h1,h2,ht,h3,h4,h5,h6,h7,h⟩:=h;exact .app h1 h2 ht h3 h4 h5 h6 h7 h
 |appS el s r=>obtain⟨l,site,g,n,xs,t,h1,h2,ht,h3,h4,h5,h⟩:=h;exact .appS h1 h2 ht h3 h4 h5 h
 |mk site el sz bytes z l c=>obtain⟨kl,kc,n,k,h1,h2,h3,h4,h5,h6,h⟩:=h;exact .mk h1 h2 h3 h4 h5 h6 h
 |usd r=>obtain⟨l,s,g,n,sz,xs,h0,h1,h2,h⟩:=h;exact .usd h0 h1 h2 h
 |ustr el p r=>
  rcases h with⟨h1,h2,h⟩|⟨l,g,n,xs,s,h1,h2,h3,h4,h5,h6,h⟩
  ·exact .ustr0 h1 h2 h
  ·exact .ustr h1 h2 h3 h4 h5 h6 h
 |storev l s n p r=>obtain⟨_,h1,h2,m',h3,h⟩:=h;exact .same (ro:=.store n p r) (fun _=>rfl) (.store h1 h2 h3 h)
 |call f args=>
  obtain⟨k,fa,fb,ys,v,hf,h1,h2,h3,h4,h5,h⟩:=h;exact .callPure hf h1 h2 h3 (fun x hx=>by subst hx;exact⟨h4,h5⟩) fun x hx=>by subst hx;exact h
 |callF f args=>
  obtain⟨k,fa,fb,v,m',hf,h1,h⟩:=h;exact .same (ro:=.call f args) (fun _=>rfl) (.callFull hf h1 fun x m hx _=>by obtain⟨rfl,rfl⟩:=hx;exact h)
 |bsl sz len z ps=>obtain⟨y,h1,h2,h3,h⟩:=h;exact .bsl h1 h2 h3 h
 |bslv site sz len z ps=>obtain⟨y,h1,h2,h3,h4,h⟩:=h;exact .bslv h1 h2 h3 h4 h
 |bsl0 site sz=>exact .bsl0 h.1 h.2
 |isnil neg r=>obtain⟨ys,h1,h2,h3⟩:=h;exact .isnil h1 h2 h3
 |callK l s f args=>
  obtain⟨k,fa,fb,v,m',hf,h1,_,h⟩:=h;exact .same (ro:=.call f args) (fun _=>rfl) (.callFull hf h1 fun x m hx _=>by obtain⟨rfl,rfl⟩:=hx;exact h)
 |xb cnt k s c=>obtain⟨t,b,h1,h2,h⟩:=h;exact .xb h1 h2 h
 |callR f args=>
  obtain⟨k,fa,fb,ys,R,hf,h1,h2,h3,h4,h⟩:=h;exact .same (ro:=.call f args) (fun _=>rfl) (.callPure hf h1 h2 h3 h4 h)
 |rngs s r=>obtain⟨t,h1,h2,h⟩:=h;exact .rngs h1 h2 h
 |nxts r=>obtain⟨l,s,t,p,h1,h2,h3,h4⟩:=h;exact .nxts h1 h2 h3 h4
 |mkm s=>obtain⟨h1,h⟩:=h;exact .mkm h1 h
 |mput x i v=>obtain⟨l,s,ks,vs,p,k,h1,h2,h3,h4,h5,h6,h⟩:=h;exact .mput h1 h2 h3 h4 h5 h6 h

theorem FG {it:Item}{Qe:List Item}{st:St}{Q:St→Prop}(h:XX P it st fun st'=>Qx P N Qe st' Q):Qx P N (it :: Qe) st Q:=by
 obtain⟨d,op,g⟩:=it;cases g with
 |none=>exact CW h
 |some p=>
  obtain⟨j,want⟩:=p;simp only[XX]at h;split at h
  ·rename_i b hj;by_cases hb:b=want
   ·subst hb;exact .yes hj (CW (h.1 rfl))
   ·have hb':b=!want:=by cases b<;>cases want<;>first|rfl|exact absurd rfl hb
    subst hb';exact .no (.inl hj) (h.2 rfl)
  ·rename_i l hj;obtain⟨rfl,h⟩:=h;exact .no (.inr hj) h
  ·exact h.elim

theorem FH {d:Option Nat}{op:RO}{st:St}{K K':St→Prop}(hk:∀s,K s→K' s)(h:Ua P d op st K):Ua P d op st K':=by
 cases op<;>simp only[Ua]at h ⊢
 case val=>obtain⟨x,a,b⟩:=h;exact⟨x,a,hk _ b⟩
 case allocN=>exact⟨h.1,hk _ h.2⟩
 case boxN=>exact⟨h.1,h.2.1,hk _ h.2.2⟩
 case store=>obtain⟨h1,h2,m',h3,h⟩:=h;exact⟨h1,h2,m',h3,hk _ h⟩
 case app=>obtain⟨l,site,g,n,xs,ys,h1,h2,ht,h3,h4,h5,h6,h7,h⟩:=h;exact⟨l,site,g,n,xs,ys,h1,h2,ht,h3,h4,h5,h6,h7,hk _ h⟩
 case appS=>obtain⟨l,site,g,n,xs,t,h1,h2,ht,h3,h4,h5,h⟩:=h;exact⟨l,site,g,n,xs,t,h1,h2,ht,h3,h4,h5,hk _ h⟩
 case mk=>obtain⟨kl,kc,n,k,h1,h2,h3,h4,h5,h6,h⟩:=h;exact⟨kl,kc,n,k,h1,h2,h3,h4,h5,h6,hk _ h⟩
 case usd=>obtain⟨l,s,g,n,sz,xs,h0,h1,h2,h⟩:=h;exact⟨l,s,g,n,sz,xs,h0,h1,h2,hk _ h⟩
 case ustr=>
  rcases h with⟨h1,h2,h⟩|⟨l,g,n,xs,s,h1,h2,h3,h4,h5,h6,h⟩
  ·exact .inl ⟨h1,h2,hk _ h⟩
  ·exact .inr ⟨l,g,n,xs,s,h1,h2,h3,h4,h5,h6,hk _ h⟩
 case bsl=>obtain⟨y,h1,h2,h3,h⟩:=h;exact⟨y,h1,h2,h3,hk _ h⟩
 case bslv=>obtain⟨y,h1,h2,h3,h4,h⟩:=h;exact⟨y,h1,h2,h3,h4,hk _ h⟩
 case bsl0=>exact⟨h.1,hk _ h.2⟩
 case isnil=>obtain⟨ys,h1,h2,h3⟩:=h;exact⟨ys,h1,fun e=>hk _ (h2 e),fun e=>hk _ (h3 e)⟩
 case callK=>obtain⟨k,fa,fb,v,m',hf,h1,h2,h⟩:=h;exact⟨k,fa,fb,v,m',hf,h1,h2,hk _ h⟩
 case xb=>obtain⟨t,b,h1,h2,h⟩:=h;exact⟨t,b,h1,h2,hk _ h⟩
 case callR=>obtain⟨k,fa,fb,ys,R,hf,h1,h2,h3,h4,h⟩:=h;exact⟨k,fa,fb,ys,R,hf,h1,h2,h3,h4,fun v hv=>hk _ (h v hv)⟩
 case rngs=>obtain⟨t,h1,h2,h⟩:=h;exact⟨t,h1,h2,hk _ h⟩
 case mkm=>obtain⟨h1,h⟩:=h;exact⟨h1,hk _ h⟩
 case mput=>obtain⟨l,s,ks,vs,p,k,h1,h2,h3,h4,h5,h6,h⟩:=h;exact⟨l,s,ks,vs,p,k,h1,h2,h3,h4,h5,h6,hk _ h⟩
 case nxts=>obtain⟨l,s,t,p,h1,h2,h3,h4⟩:=h;exact⟨l,s,t,p,h1,h2,fun e=>hk _ (h3 e),fun e=>hk _ (h4 e)⟩
 case storev=>obtain⟨h0,h1,h2,m',h3,h⟩:=h;exact⟨h0,h1,h2,m',h3,hk _ h⟩
 case call=>obtain⟨k,fa,fb,ys,v,hf,h1,h2,h3,h4,h5,h⟩:=h;exact⟨k,fa,fb,ys,v,hf,h1,h2,h3,h4,h5,hk _ h⟩
 case callF=>obtain⟨k,fa,fb,v,m',hf,h1,h⟩:=h;exact⟨k,fa,fb,v,m',hf,h1,hk _ h⟩

theorem Yz {it:Item}{st:St}{K K':St→Prop}(hk:∀s,K s→K' s)(h:XX P it st K):XX P it st K':=by
 unfold XX at h ⊢;split at h
 ·exact FH hk h
 ·split at h
  ·exact⟨fun e=>FH hk (h.1 e),fun e=>hk _ (h.2 e)⟩
  ·exact⟨h.1,hk _ h.2⟩
  ·exact h.elim

theorem NI:∀ {Qe:List Item} {st:St} {Q:St→Prop},QD P Qe st Q→Qx P N Qe st Q
 | [],_,_,h=>.nil h
 |_ :: _,_,_,h=>FG (Yz (fun _ hs=>NI hs) h)

end

inductive GO where
 |vec (slot site sz:Nat)
 |drop (s:Nat)
 |vecc (s idx site sz:Nat)
 |pub (slot site:Nat)
 |give (slot site l S:Nat)
 |lst (slot:Nat)

def ZH (g:GO)(st:St):Option St :=
 match g with
 |.vec slot site sz=>match st.f slot with
  |.nils=>bif Qu (Qf st.m 0 site)then some { st with m:=Am.put st.m 0 site (.vec (QC st.m 0 site) sz []),f:=QK st.f slot (.vec 0 site (QC st.m 0 site) 0 0 false) } else none
  |_=>none
 |.drop s=>bif Yv st.m s then some (st.drop s)else none
 |.vecc s idx site sz=>match Qf st.m 0 s with
  |.cells xs=>match xs[idx]? with
   |some .nils=>bif Qu (Qf st.m 0 site) && !(Nat.beq site s)then some { st with m:=Am.put (Am.put st.m 0 site (.vec (QC st.m 0 site) sz [])) 0 s (.cells (xs.set idx (.vec 0 site (QC st.m 0 site) 0 0 false))) } else none
   |some _=>some st
   |none=>none
  |_=>none
 |.pub slot site=>match st.f slot with
  |.vec 0 s' g o n _=>match Qf st.m 0 site with
   |.vec g' sz xs=>bif Nat.beq s' site&&Nat.beq g g'&&Nat.ble (o+n) xs.length then some { st with m:=Am.put st.m 0 site (.vec (g+1) sz []),f:=QK st.f slot (.list ((xs.drop o).take n)) } else none
   |_=>none
  |.list _=>some st
  |_=>none
 |.give slot site l S=>match st.f slot with
  |.vec 0 s' g o n q=>match Qf st.m 0 site with
   |.vec g' sz xs=>bif Nat.beq s' site&&Nat.beq g g'&&Nat.blt l st.m.length && !(Nat.beq l 0)&&Qu (Qf st.m l S)&&Nat.blt S 2000 then some { st with m:=Am.put (Am.put st.m 0 site (.vec (g+1) sz [])) l S (.vec (QC st.m l S) sz xs),f:=QK st.f slot (.vec l S (QC st.m l S) o n q) } else none
   |_=>none
  |_=>none
 |.lst slot=>match st.f slot with
  |.nils=>some { st with f:=QK st.f slot (.list []) }
  |.list l=>some { st with f:=QK st.f slot (.list l) }
  |_=>none

inductive RC where
 |skip
 |reg (Qe:List Item)
 |draw (Qe:List Item)
 |seq (a b:RC)
 |cond (c:RA) (a b:RC)
 |block (id:Nat) (a:RC)
 |loop (a:RC)
 |exit (id:Nat)
 |scope (a:RC)
 |lab
 |ret
 |gho (g:GO) (a:RC)
 |no

def Ks (f:St→Prop)(Q:Exit→St→Prop):Exit→St→Prop
 |.normal,st=>f st
 |e,st=>Q e st
def Kb (id:Nat)(Q:Exit→St→Prop):Exit→St→Prop
 |.exit i,st=>if i=id then Q .normal st else Q (.exit i) st
 |e,st=>Q e st
def Kg (Q:Exit→St→Prop):Exit→St→Prop
 |.goto _,_=>False
 |e,st=>Q e st

def QH (P:Program):RC→St→(Exit→St→Prop)→Prop
 |.skip,st,Q=>Q .normal st
 |.reg Qe,st,Q=>QD P Qe st (Q .normal)
 |.draw Qe,st,Q=>QD P Qe st (Q .normal)
 |.seq a b,st,Q=>QH P a st (Ks (fun st'=>QH P b st' Q) Q)
 |.cond c a b,st,Q=>∃t,c.ev st.f=.bool t∧(t=true→QH P a st Q)∧(t=false→QH P b st Q)
 |.block id a,st,Q=>QH P a st (Kb id Q)
 |.loop a,st,Q=>∃(I:Nat→St→Prop) (n:Nat),I n st∧∀n st',I n st'→QH P a st' (Ks (fun s=>∃k,k<n∧I k s) Q)
 |.exit id,st,Q=>Q (.exit id) st
 |.scope a,st,Q=>QH P a st (Kg Q)
 |.lab,st,Q=>Q .normal st
 |.ret,st,Q=>Q .ret st
 |.gho g a,st,Q=>∃st',ZH g st=some st'∧QH P a st' Q
 |.no,_,_=>False

theorem Uj {G:Gh}{f:Fr}{a:Act}(hs:∀i,Rep G (f i) (a.tmps.getD i undef)){d:Nat}{x:AV}(hx:Rep G x (a.tmps.getD d undef)):∀i,Rep G (QK f d x i) (a.tmps.getD i undef):=by
 intro i;by_cases hi:i=d
 ·subst hi;rw[QR];exact hx
 ·rw[QS _ _ hi];exact hs i

theorem Ri {G:Gh}{B N:Nat}{st st':St}{a:Act}{w:World}(h:Rel G B N st a w){g:GO}(hg:ZH g st=some st'):∃G',Rel G' B N st' a w∧Ext 1 G w G' w:=by
 cases g with
 |vec slot site sz=>
  simp only[ZH]at hg;split at hg
  ·rename_i hn;cases hro:Qu (Qf st.m 0 site)with
   |false=>rw[hro]at hg;cases hg
   |true=>
    rw[hro]at hg;simp only[cond_true,QXR]at hg;subst hg;have hl:0<st.m.length:=QYN.2 h.ne;obtain⟨h1,h2⟩:=h.vecput (w':=w) (sz:=sz) (cap:=0) (b:=none) (ys:=[]) hl hro (JU h.mr hro) rfl rfl rfl (QXq _) (fun _ _ _=>rfl) (fun k e=>by cases e) ⟨by simp,rfl,rfl⟩ (.inl ⟨rfl,rfl⟩);refine⟨_,⟨h1.mr,h1.size,Uj h1.slots ?_,h1.ds,h1.base,h1.top,h1.ne⟩,h2⟩;have hs:=h.slots slot;rw[hn]at hs;generalize a.tmps.getD slot undef=v at hs;cases hs;exact .vec rfl (QYb (by simp[Gh.row])) fun _=>.inl ⟨by simp[Gh.row],rfl,rfl,none,rfl,fun _=>rfl⟩
  ·cases hg
 |drop s=>
  simp only[ZH]at hg;cases hro:Yv st.m s with
  |false=>rw[hro]at hg;cases hg
  |true=>
   rw[hro]at hg;simp only[cond_true,QXR]at hg;subst hg;exact⟨_,h.drop s hro⟩
 |vecc s idx site sz=>
  simp only[ZH]at hg;split at hg
  ·rename_i xs hlk;split at hg
   ·rename_i hn;cases hro:(Qu (Qf st.m 0 site) && !(Nat.beq site s))with
    |false=>rw[hro]at hg;cases hg
    |true=>
     rw[hro]at hg;simp only[cond_true,QXR]at hg;subst hg;rw[QXQ]at hro;have hne:s≠site:=fun e=>by
      have h2:=hro.2;rw[e]at h2;simp at h2
     have hl:0<st.m.length:=QYN.2 h.ne;obtain⟨h1,h2⟩:=h.vecput (w':=w) (sz:=sz) (cap:=0) (b:=none) (ys:=[]) hl hro.1 (JU h.mr hro.1) rfl rfl rfl (QXq _) (fun _ _ _=>rfl) (fun k e=>by cases e) ⟨by simp,rfl,rfl⟩ (.inl ⟨rfl,rfl⟩);have hlk':Qf (Am.put st.m 0 site (.vec (QC st.m 0 site) sz [])) 0 s=.cells xs:=by
      rw[Qy (.inr hne)];exact hlk
     obtain⟨b,cs,hb,hsoft,hrep⟩:=h1.mr.cells 0 s xs hlk';obtain⟨v,hv,hr⟩:=hrep.at_ hn;have hvn:v=.slice none 0 0:=by cases hr;rfl
     subst hvn;have hset:cs.toList.set idx (.slice none 0 0)=cs.toList:=by
      obtain⟨hi,he⟩:=QXs.1 hv;rw[←he,List.set_getElem_self]
     have hrep':=hrep.set idx (x:=.vec 0 site (QC st.m 0 site) 0 0 false) (v:=.slice none 0 0) (.vec rfl (QYb (by simp[Gh.row,Gh.dn])) fun _=>.inl ⟨by simp[Gh.row,Gh.dn],rfl,rfl,none,rfl,fun _=>rfl⟩);rw[hset]at hrep';exact⟨_,⟨h1.mr.stored hlk' hb (Turned.refl b w) hsoft hrep',h1.size,h1.slots,h1.ds,h1.base,h1.top,J1 h1.ne⟩,h2⟩
   ·cases hg;exact⟨G,h,Ext.refl 1 G w⟩
   ·cases hg
  ·cases hg
 |pub slot site=>
  simp only[ZH]at hg;split at hg
  ·rename_i s' g o n q hs;split at hg
   ·rename_i g' sz xs hlk;cases hb:(Nat.beq s' site&&Nat.beq g g'&&Nat.ble (o+n) xs.length)with
    |false=>rw[hb]at hg;cases hg
    |true=>
     rw[hb]at hg;simp only[cond_true,QXR]at hg;subst hg;simp only[QXQ]at hb;obtain⟨⟨b1,b2⟩,b3⟩:=hb;have e1:=QXo b1;have e2:=QXo b2;subst e1 e2;exact h.publish hs hlk (QYU b3)
   ·cases hg
  ·cases hg;exact⟨G,h,Ext.refl 1 G w⟩
  ·cases hg
 |give slot site l S=>
  simp only[ZH]at hg;split at hg
  ·rename_i s' g o n q hs;split at hg
   ·rename_i g' sz xs hlk;cases hb:(Nat.beq s' site&&Nat.beq g g'&&Nat.blt l st.m.length && !(Nat.beq l 0)&&Qu (Qf st.m l S)&&Nat.blt S 2000)with
    |false=>rw[hb]at hg;cases hg
    |true=>
     rw[hb]at hg;simp only[cond_true,QXR]at hg;subst hg;simp only[QXQ]at hb;obtain⟨⟨⟨⟨⟨b1,b2⟩,b3⟩,b4⟩,b5⟩,b6⟩:=hb;have e1:=QXo b1;have e2:=QXo b2;subst e1 e2;have b4':l≠0:=fun e=>by rw[e]at b4;simp at b4
     exact h.give hs hlk (QYU b3) b4' b5 (QYU b6)
   ·cases hg
  ·cases hg
 |lst slot=>
  simp only[ZH]at hg;split at hg
  ·rename_i hs;cases hg;refine⟨G,⟨h.mr,h.size,Uj h.slots ?_,h.ds,h.base,h.top,h.ne⟩,Ext.refl 1 G w⟩;have hr:=h.slots slot;rw[hs]at hr;exact hr.nn0
  ·rename_i l hs;cases hg;refine⟨G,⟨h.mr,h.size,Uj h.slots ?_,h.ds,h.base,h.top,h.ne⟩,Ext.refl 1 G w⟩;have hr:=h.slots slot;rw[hs]at hr;exact hr
  ·cases hg

def RA.sl:RA→List Nat
 |.t n=>[n]
 |_=>[]
def FI:Option RA→List Nat
 |some r=>r.sl
 |none=>[]
def VO.sl:VO→List Nat
 |.mov x=>x.sl
 |.pick c a b=>c.sl++(a.sl++b.sl)
 |.build _ ps=>ps.flatMap fun p=>p.2.2.sl
 |.load _ x=>x.sl
 |.loadv _ _ _ x=>x.sl
 |.loado _ x=>x.sl
 |.loadr _ x=>x.sl
 |.nilck x=>x.sl
 |.un _ x=>x.sl
 |.cvi _ x=>x.sl
 |.b2s x=>x.sl
 |.faddr _ x=>x.sl
 |.fld _ _ x=>x.sl
 |.ext x _=>x.sl
 |.len _ x=>x.sl
 |.bin _ _ x y=>x.sl++y.sl
 |.eqs _ _ x y=>x.sl++y.sl
 |.iaddr _ _ x y=>x.sl++y.sl
 |.idx x y=>x.sl++y.sl
 |.mnx _ x y=>x.sl++y.sl
 |.slc _ x lo hi mx=>x.sl++(FI lo++(FI hi++FI mx))
 |.slcp _ x lo hi mx=>x.sl++(FI lo++(FI hi++FI mx))
 |.mkfn _ a b=>a.flatMap RA.sl++b.flatMap RA.sl
 |.toU x=>x.sl
 |.ofU _ _ x=>x.sl
 |.same x=>x.sl
 |.mget _ _ x y=>x.sl++y.sl
 |.mgetp _ _ x y=>x.sl++y.sl
 |.mki _ x=>x.sl
 |.tas _ _ _ x=>x.sl
def RO.sl:RO→List Nat
 |.val v=>v.sl
 |.allocN _ _=>[]
 |.boxN _ r=>r.sl
 |.store _ p r=>p.sl++r.sl
 |.storev _ _ _ p r=>p.sl++r.sl
 |.app _ _ _ s r=>s.sl++r.sl
 |.appS _ s r=>s.sl++r.sl
 |.mk _ _ _ _ _ l c=>l.sl++c.sl
 |.usd r=>r.sl
 |.ustr _ p r=>p.sl++r.sl
 |.bsl _ _ _ ps=>ps.flatMap fun p=>p.2.2.sl
 |.call f rs=>f.sl++rs.flatMap RA.sl
 |.callF f rs=>f.sl++rs.flatMap RA.sl
 |.bslv _ _ _ _ ps=>ps.flatMap fun p=>p.2.2.sl
 |.bsl0 _ _=>[]
 |.isnil _ x=>x.sl
 |.callR f rs=>f.sl++rs.flatMap RA.sl
 |.xb _ _ s c=>s.sl++c.sl
 |.callK _ _ f rs=>f.sl++rs.flatMap RA.sl
 |.rngs _ r=>r.sl
 |.nxts r=>r.sl
 |.mkm _=>[]
 |.mput x y z=>x.sl++(y.sl++z.sl)
def Item.sl (it:Item):List Nat:=it.op.sl++(match it.g with|some (j,_)=>[j]|none=>[])

def ZD (l:List Nat)(f f':Fr):Prop:=∀t,t∈l→f t=f' t
theorem ZD.left {a b:List Nat}{f f':Fr}(h:ZD (a++b) f f'):ZD a f f':=fun t ht=>h t (List.mem_append_left _ ht)
theorem ZD.right {a b:List Nat}{f f':Fr}(h:ZD (a++b) f f'):ZD b f f':=fun t ht=>h t (List.mem_append_right _ ht)

theorem RA.ev_same {r:RA}{f f':Fr}(h:ZD r.sl f f'):r.ev f=r.ev f':=by
 cases r with
 |t n=>exact h n (by simp[RA.sl])
 |c x=>rfl
 |f k=>rfl

theorem Kq:∀ {rs:List RA} {f f':Fr},ZD (rs.flatMap RA.sl) f f'→rs.map (RA.ev f)=rs.map (RA.ev f')
 | [],_,_,_=>rfl
 |r :: rs,f,f',h=>by
  rw[QYV]at h;rw[QXY,QXY,RA.ev_same h.left,Kq h.right]

theorem WS {f f':Fr}:∀ {ps:List (Nat×Nat×RA)} {z:List AV},ZD (ps.flatMap fun p=>p.2.2.sl) f f'→fill f ps z=fill f' ps z
 | [],_,_=>rfl
 |(o,n,r) :: ps,z,h=>by
  rw[QYV]at h;simp only[fill,RA.ev_same h.left,WS h.right]

theorem Kr {f f':Fr}{d:Nat}{r:Option RA}(h:ZD (FI r) f f'):Zv f d r=Zv f' d r:=by
 cases r with
 |none=>rfl
 |some r=>simp only[Zv,RA.ev_same (r:=r) h]

theorem Rj {f f':Fr}{m:Qo}{vo:VO}(h:ZD vo.sl f f'):Qt f m vo=Qt f' m vo:=by
 cases vo with
 |mov x=>simp only[Qt,RA.ev_same (r:=x) h]
 |pick c a b=>simp only[Qt,RA.ev_same (r:=c) h.left,RA.ev_same (r:=a) h.right.left,RA.ev_same (r:=b) h.right.right]
 |build z ps=>simp only[Qt,WS (ps:=ps) h]
 |load k x=>simp only[Qt,RA.ev_same (r:=x) h]
 |loadv l s k x=>simp only[Qt,RA.ev_same (r:=x) h]
 |loado k x=>simp only[Qt,RA.ev_same (r:=x) h]
 |loadr k x=>simp only[Qt,RA.ev_same (r:=x) h]
 |nilck x=>simp only[Qt,RA.ev_same (r:=x) h]
 |un o x=>simp only[Qt,RA.ev_same (r:=x) h]
 |cvi k x=>simp only[Qt,RA.ev_same (r:=x) h]
 |b2s x=>simp only[Qt,RA.ev_same (r:=x) h]
 |faddr o x=>simp only[Qt,RA.ev_same (r:=x) h]
 |fld o k x=>simp only[Qt,RA.ev_same (r:=x) h]
 |ext x i=>simp only[Qt,RA.ev_same (r:=x) h]
 |toU x=>simp only[Qt,RA.ev_same (r:=x) h]
 |ofU t n x=>simp only[Qt,RA.ev_same (r:=x) h]
 |same x=>simp only[Qt,RA.ev_same (r:=x) h]
 |len k x=>simp only[Qt,RA.ev_same (r:=x) h]
 |bin t o x y=>simp only[Qt,RA.ev_same (r:=x) h.left,RA.ev_same (r:=y) h.right]
 |eqs n ks x y=>simp only[Qt,RA.ev_same (r:=x) h.left,RA.ev_same (r:=y) h.right]
 |iaddr sz len x y=>simp only[Qt,RA.ev_same (r:=x) h.left,RA.ev_same (r:=y) h.right]
 |idx x y=>simp only[Qt,RA.ev_same (r:=x) h.left,RA.ev_same (r:=y) h.right]
 |mget ok z x y=>simp only[Qt,RA.ev_same (r:=x) h.left,RA.ev_same (r:=y) h.right]
 |mgetp ok z x y=>simp only[Qt,RA.ev_same (r:=x) h.left,RA.ev_same (r:=y) h.right]
 |mki t x=>simp only[Qt,RA.ev_same (r:=x) h]
 |tas t ok z x=>simp only[Qt,RA.ev_same (r:=x) h]
 |mnx b x y=>simp only[Qt,RA.ev_same (r:=x) h.left,RA.ev_same (r:=y) h.right]
 |slc sz x lo hi mx=>
  have h1:=h.right.left;have h2:=h.right.right.left;have h3:=h.right.right.right;simp only[Qt,RA.ev_same (r:=x) h.left,Kr (r:=lo) h1,Kr (r:=hi) h2];cases mx with
  |none=>rfl
  |some r=>simp only[Kr (r:=some r) h3]
 |slcp sz x lo hi mx=>
  have h1:=h.right.left;have h2:=h.right.right.left;have h3:=h.right.right.right;simp only[Qt,RA.ev_same (r:=x) h.left,Kr (r:=lo) h1,Kr (r:=hi) h2];cases mx with
  |none=>rfl
  |some r=>simp only[Kr (r:=some r) h3]
 |mkfn fn a b=>simp only[Qt,Kq (rs:=a) h.left,Kq (rs:=b) h.right]

inductive MC where
 |no
 |shape
 |rows
 |cell (l s:Nat)
 |outer
 |all
 deriving DecidableEq

def VO.mc:VO→MC
 |.load _ _=>.all
 |.loadv l s _ _=>.cell l s
 |.loado _ _=>.outer
 |.loadr _ _=>.rows
 |.b2s _=>.rows
 |.nilck _=>.shape
 |.faddr _ _=>.shape
 |.len _ _=>.shape
 |.slc .. => .shape
 |.iaddr .. => .shape
 |.toU _=>.all
 |.ofU .. => .all
 |.mget .. => .all
 |_=>.no

def Ob.sh:Ob→Option (Nat×Nat)
 |.vec g z _=>some (g,z)
 |_=>Option.none
def Ob.row:Ob→Option (Nat×Nat×List AV)
 |.vec g z xs=>some (g,z,xs)
 |_=>Option.none

def Xq:MC→Qo→Qo→Prop
 |.no,_,_=>True
 |.shape,m,m'=>∀l s,(Qf m l s).sh=(Qf m' l s).sh
 |.rows,m,m'=>∀l s,(Qf m l s).row=(Qf m' l s).row
 |.cell l s,m,m'=>Qf m l s=Qf m' l s∨((Qf m l s).isRow=true∧(Qf m' l s).isRow=true)
 |.outer,m,m'=>∀l s,Qf m (l+1) s=Qf m' (l+1) s
 |.all,m,m'=>m=m'

theorem Xq.refl (c:MC)(m:Qo):Xq c m m:=by
 cases c<;>simp[Xq]

theorem Uk {m m':Qo}{l s:Nat}(h:(Qf m l s).sh=(Qf m' l s).sh):Wr m l s=Wr m' l s:=by
 unfold Wr;cases h1:Qf m l s<;>cases h2:Qf m' l s<;>rw[h1,h2]at h<;>simp_all[Ob.sh]

theorem VG {m m':Qo}(h:Xq .rows m m')(x:AV):Q7 m x=Q7 m' x:=by
 cases x with
 |vec l s g o n q=>
  have h:=h l s;simp only[Q7];cases h1:Qf m l s<;>cases h2:Qf m' l s<;>rw[h1,h2]at h<;>simp_all[Ob.row]
 |_=>rfl

theorem FJ {m m':Qo}(h:Xq .shape m m')(sz:Option Nat)(x:AV)(lo hi:Nat)(mx:Option Nat):QX m sz x lo hi mx=QX m' sz x lo hi mx:=by
 cases sz with
 |none=>rfl
 |some z=>
  cases x with
  |vec l s g o n q=>
   have h:=h l s;simp only[QX];cases h1:Qf m l s<;>cases h2:Qf m' l s<;>rw[h1,h2]at h<;>simp_all[Ob.sh]
  |_=>rfl

theorem FK {m m':Qo}(h:Xq .shape m m')(sz:Nat)(len:Option Nat)(x:AV)(i:Int):Qb m sz len x i=Qb m' sz len x i:=by
 unfold Qb;cases len with
 |none=>
  cases x with
  |vec l s g o n q=>
   have h:=h l s;simp only;cases h1:Qf m l s<;>cases h2:Qf m' l s<;>rw[h1,h2]at h<;>simp_all[Ob.sh]
  |_=>rfl
 |some k=>rfl

def Rk (F:Nat→List AV→Option AV):Ob→Option AV
 |.vec g _ xs=>F g xs
 |_=>none

theorem CX {o o':Ob}(h:o.row=o'.row)(F:Nat→List AV→Option AV):Rk F o=Rk F o':=by
  cases o<;>cases o'<;>simp only[Ob.row,QXR,Prod.mk.injEq,reduceCtorEq]at h<;>first
    |rfl
    | (obtain⟨rfl,_,rfl⟩:=h
       rfl)

theorem H8 (m:Qo)(k:Option Nat)(l s g i o:Nat):Xb m k (.vptr l s g i o)=Rk (fun g' xs=>if g=g' then match xs[i]? with
  |some e=>part e.cells o k
  |none=>none
 else none) (Qf m l s):=by
 simp only[Xb];cases Qf m l s<;>rfl

theorem AU {f:Fr}{m m':Qo}{vo:VO}(h:Xq vo.mc m m'):Qt f m vo=Qt f m' vo:=by
 cases vo<;>simp only[VO.mc]at h<;>try rfl
 case load k x=>have h:m=m':=h;subst h;rfl
 case toU x=>have h:m=m':=h;subst h;rfl
 case ofU t n x=>have h:m=m':=h;subst h;rfl
 case mget ok z x i=>have h:m=m':=h;subst h;rfl
 case loado k x=>
  have h:∀l s,Qf m (l+1) s=Qf m' (l+1) s:=h;simp only[Qt];split
  ·simp only[Xb,h]
  ·rfl
 case loadv l s k x=>
  have h:Qf m l s=Qf m' l s∨((Qf m l s).isRow=true∧(Qf m' l s).isRow=true):=h;simp only[Qt];split
  ·split
   ·rename_i hh;obtain⟨rfl,rfl⟩:=hh;rcases h with h|⟨h1,h2⟩
    ·simp only[Xb,h]
    ·simp only[Xb];cases e1:Qf m _ _<;>cases e2:Qf m' _ _<;>rw[e1]at h1<;>rw[e2]at h2<;>first|rfl|(simp[Ob.isRow]at h1;done)|(simp[Ob.isRow]at h2;done)
   ·rfl
  ·rfl
 case b2s x=>simp only[Qt,VG h]
 case loadr k x=>
  simp only[Qt];split
  ·rfl
  ·rename_i l s g i o e;have h4:(Qf m l s).row=(Qf m' l s).row:=h l s;rw[H8,H8,CX h4]
  ·rfl
 case nilck x=>simp only[Qt,fun l s=>Uk (h l s)]
 case faddr o x=>simp only[Qt,fun l s=>Uk (h l s)]
 case len k x=>simp only[Qt,fun l s=>Uk (h l s)]
 case slc sz x lo hi mx=>simp only[Qt,FJ h]
 case iaddr sz len x i=>simp only[Qt,FK h]

mutual
theorem H9 {m m':Qo}(h:Xq .rows m m'):∀x:AV,x.still false m=x.still false m'
 |.vec l s g o n q=>by
   have h:=h l s;simp only[AV.still];cases h1:Qf m l s<;>cases h2:Qf m' l s<;>rw[h1,h2]at h<;>simp_all[Ob.row]
 |.agg l=>by simp only[AV.still,KH h l]
 |.tup l=>by simp only[AV.still,KH h l]
 |.iface t x=>by simp only[AV.still,H9 h x]
 |.top|.int .. | .bool _|.str _|.nils|.nilp|.nilf|.nili|.nilm|.anyp|.list _|.lcap _|.fn .. | .ptr .. | .vptr .. | .rptr _|.mp .. => rfl
 |.mptr l s=>by simp only[AV.still,QYW,QXL,if_false]
theorem KH {m m':Qo}(h:Xq .rows m m'):∀l:List AV,AV.stillL false m l=AV.stillL false m' l
 | []=>rfl
 |x :: l=>by simp only[AV.stillL,H9 h x,KH h l]
end

def RO.pure:RO→Bool
 |.val _=>true
 |.bsl .. => true
 |.call _ _=>true
 |.usd _=>true
 |_=>false

def RO.mc:RO→MC
 |.val v=>v.mc
 |.call _ _=>.rows
 |.usd _=>.rows
 |.bsl .. => .no
 |_=>.all

section
variable {P:Program}

def VH (P:Program)(op:RO)(st:St)(x:AV):Prop :=
 match op with
 |.val vo=>Qt st.f st.m vo=some x
 |.call f args=>∃k fa fb ys,f.ev st.f=.fn (.func k) fa fb∧AV.stillL false st.m (fa++args.map (RA.ev st.f)++fb)=some ys∧AV.rfL ys=true∧Qk P k ys x∧x.rf=true∧(AV.rfL (fa++args.map (RA.ev st.f)++fb)=true∨x.nl=true)
 |_=>False

def XY (P:Program)(op:RO)(st:St)(x:AV)(m:Qo):Prop :=
 match op with
 |.val vo=>Qt st.f st.m vo=some x∧m=st.m
 |.call f args=>VH P (.call f args) st x∧m=st.m
 |.allocN s z=>XL st.m s=true∧x=.ptr 0 s 0∧m=Am.put st.m 0 s (.cells z)
 |.boxN s r=>XL st.m s=true∧(r.ev st.f).cells.all AV.leaf=true∧x=.ptr 0 s 0∧m=Am.put st.m 0 s (.cells (r.ev st.f).cells)
 |.store n p r=>(r.ev st.f).cells.length=n∧(r.ev st.f).cells.all AV.leaf=true∧QV st.m (p.ev st.f) (r.ev st.f).cells=some m∧x=.tup []
 |.storev l s n p r=>(∃o,p.ev st.f=.ptr l s o)∧(r.ev st.f).cells.length=n∧(r.ev st.f).cells.all AV.leaf=true∧QV st.m (p.ev st.f) (r.ev st.f).cells=some m∧x=.tup []
 |.app sz bytes el s r=>∃l site g n xs ys,s.ev st.f=.vec l site g 0 n false∧Qf st.m l site=.vec g sz xs∧XP site el=true∧n≤xs.length∧Q7 st.m (r.ev st.f)=some ys∧ys.all (fun e=>e.cells.length==sz)=true∧n+ys.length≤maxLen∧(n+ys.length)*bytes≤140737488355328∧
   x=.vec l site (g+1) 0 (n+ys.length) false∧m=Am.put st.m l site (.vec (g+1) sz (xs.take n++ys))
 |.bsl sz len z ps=>(∃y,fill st.f ps (XJ z sz len)=some y∧AV.rfL y=true∧y.all AV.leaf=true∧x=.list (XS sz len (y.map nn0)))∧m=st.m
 |.bslv site sz len z ps=>∃y,fill st.f ps (XJ z sz len)=some y∧AV.rfL y=true∧y.all AV.leaf=true∧Qu (Qf st.m 0 site)=true∧x=.vec 0 site (QC st.m 0 site) 0 len false∧m=Am.put st.m 0 site (.vec (QC st.m 0 site) sz (XS sz len (y.map nn0)))
 |.bsl0 site sz=>Qu (Qf st.m 0 site)=true∧x=.vec 0 site (QC st.m 0 site) 0 0 false∧m=Am.put st.m 0 site (.vec (QC st.m 0 site) sz [])
 |.callF f args=>∃k fa fb,f.ev st.f=.fn (.func k) fa fb∧Qg P k (fa++args.map (RA.ev st.f)++fb) st.m (fun y m'=>y=x∧m'=m)
 |.callK l s f args=>∃k fa fb,f.ev st.f=.fn (.func k) fa fb∧Qg P k (fa++args.map (RA.ev st.f)++fb) st.m (fun y m'=>y=x∧m'=m)∧Qf m l s=Qf st.m l s
 |.usd r=>(∃l s g n sz xs,2000≤s∧r.ev st.f=.vec l s g 0 n false∧Qf st.m l s=.vec g sz xs∧x=(if n=0 then .anyp else .vptr l s g 0 0))∧m=st.m
 |.ustr el p r=>(p.ev st.f=.anyp∧r.ev st.f=.int .i64 0∧x=.str []∧m=st.m)∨
   ∃l g n xs s,p.ev st.f=.vptr l (el+2000) g 0 0∧r.ev st.f=.int .i64 ((n:Nat):Int)∧Qf st.m l (el+2000)=.vec g 1 xs∧n≤xs.length∧n≠0∧xs.take n=QA s∧x=.str s∧m=Am.put st.m l (el+2000) (.vec (g+1) 1 [])
 |_=>False

def RO.keeps:RO→Bool
 |.appS .. => false
 |.mk .. => false
 |.isnil .. => false
 |.callR .. => false
 |.xb .. => false
 |.rngs .. => false
 |.nxts .. => false
 |.mkm .. => false
 |.mput .. => false
 |_=>true

theorem FL {d:Option Nat}{op:RO}{st:St}{K:St→Prop}(hk:op.keeps=true):Ua P d op st K↔∃x m,XY P op st x m∧K { st with m:=m,f:=Qn st.f d x }:=by
 cases op<;>simp only[RO.keeps,QXL]at hk<;>simp only[Ua,XY,VH]
 case val=>exact⟨fun⟨x,h,k⟩=>⟨x,_,⟨h,rfl⟩,k⟩,fun⟨x,m,⟨h,e⟩,k⟩=>by subst e;exact⟨x,h,k⟩⟩
 case allocN=>exact⟨fun⟨h,k⟩=>⟨_,_,⟨h,rfl,rfl⟩,k⟩,fun⟨x,m,⟨h,e,e'⟩,k⟩=>by subst e e';exact⟨h,k⟩⟩
 case boxN=>exact⟨fun⟨h,h',k⟩=>⟨_,_,⟨h,h',rfl,rfl⟩,k⟩,fun⟨x,m,⟨h,h',e,e'⟩,k⟩=>by subst e e';exact⟨h,h',k⟩⟩
 case store=>exact⟨fun⟨h1,h2,m',h3,k⟩=>⟨_,m',⟨h1,h2,h3,rfl⟩,k⟩,fun⟨x,m,⟨h1,h2,h3,e⟩,k⟩=>by subst e;exact⟨h1,h2,m,h3,k⟩⟩
 case storev=>exact⟨fun⟨h0,h1,h2,m',h3,k⟩=>⟨_,m',⟨h0,h1,h2,h3,rfl⟩,k⟩,fun⟨x,m,⟨h0,h1,h2,h3,e⟩,k⟩=>by subst e;exact⟨h0,h1,h2,m,h3,k⟩⟩
 case app=>exact⟨fun⟨l,site,g,n,xs,ys,h1,h2,ht,h3,h4,h5,h6,h7,k⟩=>⟨_,_,⟨l,site,g,n,xs,ys,h1,h2,ht,h3,h4,h5,h6,h7,rfl,rfl⟩,k⟩,fun⟨x,m,⟨l,site,g,n,xs,ys,h1,h2,ht,h3,h4,h5,h6,h7,e,e'⟩,k⟩=>by subst e e';exact⟨l,site,g,n,xs,ys,h1,h2,ht,h3,h4,h5,h6,h7,k⟩⟩
 case call=>exact⟨fun⟨k,fa,fb,ys,v,h1,h2,h3,h4,h5,h6,kk⟩=>⟨v,_,⟨⟨k,fa,fb,ys,h1,h2,h3,h4,h5,h6⟩,rfl⟩,kk⟩,fun⟨x,m,⟨⟨k,fa,fb,ys,h1,h2,h3,h4,h5,h6⟩,e⟩,kk⟩=>by subst e;exact⟨k,fa,fb,ys,x,h1,h2,h3,h4,h5,h6,kk⟩⟩
 case usd=>exact⟨fun⟨l,s,g,n,sz,xs,h0,h1,h2,k⟩=>⟨_,_,⟨⟨l,s,g,n,sz,xs,h0,h1,h2,rfl⟩,rfl⟩,k⟩,fun⟨x,m,⟨⟨l,s,g,n,sz,xs,h0,h1,h2,e⟩,e'⟩,k⟩=>by subst e e';exact⟨l,s,g,n,sz,xs,h0,h1,h2,k⟩⟩
 case ustr=>
  constructor
  ·rintro(⟨h1,h2,k⟩|⟨l,g,n,xs,s,h1,h2,h3,h4,h5,h6,k⟩)
   ·exact⟨_,_,.inl ⟨h1,h2,rfl,rfl⟩,k⟩
   ·exact⟨_,_,.inr ⟨l,g,n,xs,s,h1,h2,h3,h4,h5,h6,rfl,rfl⟩,k⟩
  ·rintro⟨x,m,⟨h1,h2,e,e'⟩|⟨l,g,n,xs,s,h1,h2,h3,h4,h5,h6,e,e'⟩,k⟩
   ·subst e e';exact .inl ⟨h1,h2,k⟩
   ·subst e e';exact .inr ⟨l,g,n,xs,s,h1,h2,h3,h4,h5,h6,k⟩
 case bsl=>exact⟨fun⟨y,h1,h2,h3,k⟩=>⟨_,_,⟨⟨y,h1,h2,h3,rfl⟩,rfl⟩,k⟩,fun⟨x,m,⟨⟨y,h1,h2,h3,e⟩,e'⟩,k⟩=>by subst e e';exact⟨y,h1,h2,h3,k⟩⟩
 case bslv=>exact⟨fun⟨y,h1,h2,h3,h4,k⟩=>⟨_,_,⟨y,h1,h2,h3,h4,rfl,rfl⟩,k⟩,fun⟨x,m,⟨y,h1,h2,h3,h4,e,e'⟩,k⟩=>by subst e e';exact⟨y,h1,h2,h3,h4,k⟩⟩
 case bsl0=>exact⟨fun⟨h1,k⟩=>⟨_,_,⟨h1,rfl,rfl⟩,k⟩,fun⟨x,m,⟨h1,e,e'⟩,k⟩=>by subst e e';exact⟨h1,k⟩⟩
 case callK=>exact⟨fun⟨k,fa,fb,v,m',h1,h2,h3,kk⟩=>⟨v,m',⟨k,fa,fb,h1,h2,h3⟩,kk⟩,fun⟨x,m,⟨k,fa,fb,h1,h2,h3⟩,kk⟩=>⟨k,fa,fb,x,m,h1,h2,h3,kk⟩⟩
 case callF=>exact⟨fun⟨k,fa,fb,v,m',h1,h2,kk⟩=>⟨v,m',⟨k,fa,fb,h1,h2⟩,kk⟩,fun⟨x,m,⟨k,fa,fb,h1,h2⟩,kk⟩=>⟨k,fa,fb,x,m,h1,h2,kk⟩⟩

def Zw (P:Program)(it:Item)(st:St)(x:AV)(m:Qo):Prop :=
 match it.g with
 |none=>XY P it.op st x m
 |some (j,want)=>match st.f j with
  |.bool b=>(b=want∧XY P it.op st x m)∨(b=(!want)∧x=.tup []∧m=st.m)
  |.tup l=>l=[]∧x=.tup []∧m=st.m
  |_=>False

theorem Jy {it:Item}{st:St}{K:St→Prop}(hk:it.op.keeps=true):XX P it st K↔∃x m,Zw P it st x m∧K { st with m:=m,f:=Qn st.f it.dst x }:=by
 obtain⟨d,op,g⟩:=it;cases g with
 |none=>exact FL hk
 |some p=>
  obtain⟨j,want⟩:=p;simp only[XX,Zw];cases hj:st.f j with
  |bool b=>
   simp only;rw[FL hk]
   constructor
   ·intro⟨h1,h2⟩;by_cases hb:b=want
    ·obtain⟨x,m,h,k⟩:=h1 hb;exact⟨x,m,.inl ⟨hb,h⟩,k⟩
    ·have hb':b=!want:=by cases b<;>cases want<;>first|rfl|exact absurd rfl hb
     exact⟨_,_,.inr ⟨hb',rfl,rfl⟩,h2 hb'⟩
   ·rintro⟨x,m,⟨hb,h⟩|⟨hb,rfl,rfl⟩,k⟩
    ·exact⟨fun _=>⟨x,m,h,k⟩,fun e=>by rw[hb]at e;cases want<;>cases e⟩
    ·exact⟨fun e=>(by rw[hb]at e;cases want<;>cases e),fun _=>k⟩
  |tup l=>
   constructor
   ·rintro⟨h,k⟩;exact⟨_,_,⟨h,rfl,rfl⟩,k⟩
   ·rintro⟨x,m,⟨h,rfl,rfl⟩,k⟩;exact⟨h,k⟩
  |_=>exact⟨fun h=>h.elim,fun⟨_,_,h,_⟩=>h.elim⟩

theorem Ga {op:RO}{f f':Fr}{m m':Qo}{ds ds':List DF}{x:AV}(h:ZD op.sl f f')(k:XY P op ⟨f,m,ds⟩ x m'):XY P op ⟨f',m,ds'⟩ x m':=by
 cases op with
 |val vo=>simp only[XY,Rj (vo:=vo) h]at k ⊢;exact k
 |call g args=>simp only[XY,VH,RA.ev_same (r:=g) h.left,Kq (rs:=args) h.right]at k ⊢;exact k
 |callK l s g args=>simp only[XY,RA.ev_same (r:=g) h.left,Kq (rs:=args) h.right]at k ⊢;exact k
 |callF g args=>simp only[XY,RA.ev_same (r:=g) h.left,Kq (rs:=args) h.right]at k ⊢;exact k
 |allocN s z=>exact k
 |boxN s r=>simp only[XY,RA.ev_same (r:=r) h]at k ⊢;exact k
 |store n p r=>simp only[XY,RA.ev_same (r:=p) h.left,RA.ev_same (r:=r) h.right]at k ⊢;exact k
 |storev l s n p r=>simp only[XY,RA.ev_same (r:=p) h.left,RA.ev_same (r:=r) h.right]at k ⊢;exact k
 |usd r=>simp only[XY,RA.ev_same (r:=r) h]at k ⊢;exact k
 |ustr el p r=>simp only[XY,RA.ev_same (r:=p) h.left,RA.ev_same (r:=r) h.right]at k ⊢;exact k
 |app sz bytes el s r=>simp only[XY,RA.ev_same (r:=s) h.left,RA.ev_same (r:=r) h.right]at k ⊢;exact k
 |bsl sz len z ps=>simp only[XY,WS (ps:=ps) h]at k ⊢;exact k
 |bslv site sz len z ps=>simp only[XY,WS (ps:=ps) h]at k ⊢;exact k
 |bsl0 site sz=>exact k
 |_=>exact k.elim

theorem We {it:Item}{f f':Fr}{m m':Qo}{ds ds':List DF}{x:AV}(h:ZD it.sl f f')(k:Zw P it ⟨f,m,ds⟩ x m'):Zw P it ⟨f',m,ds'⟩ x m':=by
 obtain⟨d,op,g⟩:=it;cases g with
 |none=>exact Ga (ZD.left h) k
 |some p=>
  obtain⟨j,want⟩:=p;have hj:f j=f' j:=(ZD.right h) j (by simp);simp only[Zw]at k ⊢;rw[←hj];cases he:f j with
  |bool b=>rw[he]at k;exact k.imp (fun h1=>⟨h1.1,Ga (ZD.left h) h1.2⟩) id
  |tup l=>rw[he]at k;exact k
  |_=>rw[he]at k;exact k

theorem FM {op:RO}(hp:op.pure=true){f:Fr}{m m' m1:Qo}{ds ds':List DF}{x:AV}(h:Xq op.mc m m')(k:XY P op ⟨f,m,ds⟩ x m1):m1=m∧XY P op ⟨f,m',ds'⟩ x m':=by
 cases op with
 |bsl sz len z ps=>obtain⟨k,e⟩:=k;exact⟨e,k,rfl⟩
 |val vo=>obtain⟨k,e⟩:=k;exact⟨e,by rw[←AU (f:=f) h];exact k,rfl⟩
 |call g args=>
  obtain⟨⟨k,fa,fb,ys,h1,h2,h3,h4,h5,h6⟩,e⟩:=k;refine⟨e,⟨k,fa,fb,ys,h1,?_,h3,h4,h5,h6⟩,rfl⟩;rw[←KH h];exact h2
 |usd r=>
  obtain⟨⟨l,s,g,n,sz,xs,h0,h1,h2,h3⟩,e⟩:=k;refine⟨e,⟨l,s,g,n,sz,xs,h0,h1,?_,h3⟩,rfl⟩;have h4:(Qf m l s).row=(Qf m' l s).row:=h l s;have h2:Qf m l s=.vec g sz xs:=h2;show Qf m' l s=.vec g sz xs;rw[h2]at h4;cases hl:Qf m' l s with
  |vec g' sz' xs'=>rw[hl]at h4;simp only[Ob.row,QXR,Prod.mk.injEq]at h4;obtain⟨rfl,rfl,rfl⟩:=h4;rfl
  |none=>rw[hl]at h4;cases h4
  |cells _=>rw[hl]at h4;cases h4
  |iter _ _=>rw[hl]at h4;cases h4
 |_=>cases hp

theorem Ul {it:Item}(hp:it.op.pure=true){f:Fr}{m m' m1:Qo}{ds ds':List DF}{x:AV}(h:Xq it.op.mc m m')(k:Zw P it ⟨f,m,ds⟩ x m1):m1=m∧Zw P it ⟨f,m',ds'⟩ x m':=by
 obtain⟨d,op,g⟩:=it;cases g with
 |none=>exact FM hp h k
 |some p=>
  obtain⟨j,want⟩:=p;simp only[Zw]at k ⊢;cases he:f j with
  |bool b=>
   rw[he]at k;rcases k with⟨h1,k⟩|⟨h1,h2,h3⟩
   ·obtain⟨a,b⟩:=FM hp h k;exact⟨a,.inl ⟨h1,b⟩⟩
   ·exact⟨h3,.inr ⟨h1,h2,trivial⟩⟩
  |tup l=>rw[he]at k;exact⟨k.2.2,k.1,k.2.1,trivial⟩
  |_=>rw[he]at k;exact k.elim

def RO.lets (op:RO)(c:MC):Bool :=
 match op with
 |.val _=>true
 |.call _ _=>true
 |.store .. => c == .no||c == .shape
 |.storev l s _ _ _=>match c with
  |.cell l' s'=>l' != l||s' != s
  |.outer=>l==0
  |.all=>false
  |_=>true
 |.allocN s _=>match c with
  |.cell l' s'=>l' != 0||s' != s
  |.all=>false
  |_=>true
 |.boxN s _=>match c with
  |.cell l' s'=>l' != 0||s' != s
  |.all=>false
  |_=>true
 |.app .. => match c with
  |.no=>true
  |.cell _ _=>true
  |_=>false
 |.bsl .. => true
 |.bslv s _ _ _ _=>match c with
  |.no=>true
  |.cell l' s'=>l' != 0||s' != s
  |.outer=>true
  |_=>false
 |.bsl0 s _=>match c with
  |.no=>true
  |.cell l' s'=>l' != 0||s' != s
  |.outer=>true
  |_=>false
 |.callF .. => c == .no
 |.callK l s _ _=>match c with
  |.no=>true
  |.cell l' s'=>l'==l&&s'==s
  |_=>false
 |.usd _=>true
 |.ustr .. => c == .no
 |_=>false

theorem W9 {m:Qo}{l s:Nat}{o o':Ob}(hl:Qf m l s=o)(ho:o.row=none)(ho':o'.row=none)(hlt:l<m.length){c:MC}(hc:match c with
  |.cell l' s'=>(l' != l||s' != s)=true
  |.outer=>(l==0)=true
  |.all=>False
  |_=>True):Xq c m (Am.put m l s o'):=by
 have key:∀l' s',(l'=l∧s'=s)∨Qf (Am.put m l s o') l' s'=Qf m l' s':=by
  intro l' s';by_cases hh:l'=l∧s'=s
  ·exact .inl hh
  ·exact .inr (Qy (by omega))
 have hsh:∀ {x:Ob},x.row=none→x.sh=none:=by intro x;cases x<;>simp[Ob.row,Ob.sh]
 cases c with
 |no=>trivial
 |shape=>
  intro l' s';rcases key l' s' with⟨rfl,rfl⟩|e
  ·rw[Qz hlt,hl,hsh ho,hsh ho']
  ·rw[e]
 |rows=>
  intro l' s';rcases key l' s' with⟨rfl,rfl⟩|e
  ·rw[Qz hlt,hl,ho,ho']
  ·rw[e]
 |cell l' s'=>
  show Qf m l' s'=Qf _ l' s'∨_;rcases key l' s' with⟨rfl,rfl⟩|e
  ·simp at hc
  ·exact .inl e.symm
 |outer=>
  intro l' s';have hc:l=0:=by simpa using hc
  exact(Qy (by omega)).symm
 |all=>exact hc.elim

theorem CY {m:Qo}{s:Nat}(h:XL m s=true):Qf m 0 s=.none:=by
 unfold XL at h;split at h
 ·assumption
 ·cases h

end

theorem Xq.symm {c:MC}{m m':Qo}(h:Xq c m m'):Xq c m' m:=by
 cases c with
 |no=>trivial
 |shape=>exact fun l s=>(h l s).symm
 |rows=>exact fun l s=>(h l s).symm
 |cell l s=>exact Or.imp Eq.symm And.symm h
 |outer=>exact fun l s=>(h l s).symm
 |all=>exact Eq.symm h

theorem FN {m m':Qo}{p:AV}{ys:List AV}(h:QV m p ys=some m'):Xq .shape m m':=by
 cases p with
 |ptr l s o=>
  simp only[QV]at h;split at h
  ·rename_i xs hlk;split at h
   ·split at h
    ·cases h;exact W9 (c:=.shape) hlk rfl rfl (QW (by rw[hlk];simp)) trivial
    ·cases h
   ·cases h
  ·cases h
 |vptr l s g i o=>
  simp only[QV]at h;split at h
  ·rename_i g' sz xs hlk;split at h
   ·rename_i hg;subst hg;split at h
    ·split at h
     ·cases h;intro l' s';by_cases hh:l'=l∧s'=s
      ·obtain⟨rfl,rfl⟩:=hh;rw[Qz (QW (by rw[hlk];simp)),hlk];rfl
      ·rw[Qy (by omega)]
     ·cases h
    ·cases h
   ·cases h
  ·cases h
 |_=>simp[QV]at h

section
variable {P:Program}{N:Nat}

theorem FO {m:Qo}{s:Nat}{xs:List AV}(h:XL m s=true){c:MC}(hc:match c with
  |.cell l' s'=>(l' != 0||s' != s)=true
  |.all=>False
  |_=>True):Xq c m (Am.put m 0 s (.cells xs)):=by
 cases m with
 |nil=>exact Xq.refl c _
 |cons fr m=>exact W9 (CY h) rfl rfl (by simp) (by cases c<;>first|exact hc|rfl)

theorem Gb {op:RO}{c:MC}(hc:op.lets c=true){st:St}{x:AV}{m:Qo}(h:XY P op st x m):Xq c st.m m:=by
 cases op with
 |val vo=>rw[h.2];exact Xq.refl c _
 |call f args=>rw[h.2];exact Xq.refl c _
 |usd r=>rw[h.2];exact Xq.refl c _
 |callK l s f args=>
  obtain⟨_,_,_,_,_,he⟩:=h;cases c with
  |no=>trivial
  |cell l' s'=>
   simp only[RO.lets,QXQ,QXy]at hc;obtain⟨rfl,rfl⟩:=hc;exact .inl he.symm
  |_=>simp[RO.lets]at hc
 |ustr el p r=>
  simp only[RO.lets,QXy]at hc;subst hc;trivial
 |store n p r=>
  simp only[RO.lets,QXw,QXy]at hc;rcases hc with rfl|rfl
  ·trivial
  ·exact FN h.2.2.1
 |storev l s n p r=>
  obtain⟨⟨o,ho⟩,h1,h2,h3,h4⟩:=h;rw[ho]at h3;simp only[QV]at h3;split at h3
  ·rename_i xs hlk;split at h3
   ·split at h3
    ·cases h3;refine W9 hlk rfl rfl (QW (by rw[hlk];simp)) ?_;cases c<;>first|trivial|exact hc|cases hc
    ·cases h3
   ·cases h3
  ·cases h3
 |allocN s z=>
  rw[h.2.2];refine FO h.1 ?_;cases c<;>first|trivial|exact hc|cases hc
 |boxN s r=>
  rw[h.2.2.2];refine FO h.1 ?_;cases c<;>first|trivial|exact hc|cases hc
 |app sz bytes el s r=>
  obtain⟨l,site,g,n,xs,ys,_,hlk,_,_,_,_,_,_,_,rfl⟩:=h;cases c with
  |no=>trivial
  |cell l' s'=>
   show Qf st.m l' s'=Qf _ l' s'∨_;by_cases hh:l'=l∧s'=site
   ·obtain⟨rfl,rfl⟩:=hh;refine .inr ⟨by rw[hlk];rfl,?_⟩;rw[Qz (QW (by rw[hlk];simp))];rfl
   ·exact .inl (Qy (by omega)).symm
  |_=>simp[RO.lets]at hc
 |bsl sz len z ps=>rw[h.2];exact Xq.refl c _
 |bslv site sz len z ps=>
  obtain⟨y,_,_,_,_,_,rfl⟩:=h;cases c with
  |no=>trivial
  |cell l' s'=>
   simp only[RO.lets,QXw,QXS]at hc;exact .inl (Qy (by omega)).symm
  |outer=>exact fun l' s'=>(Qy (.inl (Nat.succ_ne_zero l'))).symm
  |_=>simp[RO.lets]at hc
 |bsl0 site sz=>
  obtain⟨_,_,rfl⟩:=h;cases c with
  |no=>trivial
  |cell l' s'=>
   simp only[RO.lets,QXw,QXS]at hc;exact .inl (Qy (by omega)).symm
  |outer=>exact fun l' s'=>(Qy (.inl (Nat.succ_ne_zero l'))).symm
  |_=>simp[RO.lets]at hc
 |callF f args=>
  simp only[RO.lets,QXy]at hc;subst hc;trivial
 |_=>exact h.elim

theorem Gc {it:Item}{c:MC}(hc:it.op.lets c=true){st:St}{x:AV}{m:Qo}(h:Zw P it st x m):Xq c st.m m:=by
 obtain⟨d,op,g⟩:=it;cases g with
 |none=>exact Gb hc h
 |some p=>
  obtain⟨j,want⟩:=p;simp only[Zw]at h;cases he:st.f j with
  |bool b=>
   rw[he]at h;rcases h with⟨_,h⟩|⟨_,_,h⟩
   ·exact Gb hc h
   ·rw[h];exact Xq.refl c _
  |tup l=>rw[he]at h;rw[h.2.2];exact Xq.refl c _
  |_=>rw[he]at h;exact h.elim

def UQ (a b:Item):Bool :=
  (match a.dst with
   |some d=>!(b.sl.contains d)&&b.dst != some d
   |none=>true) &&
  (match b.dst with
   |some d=>!(a.sl.contains d)
   |none=>true)

def FP (a b:Item):Bool :=
 match a.op,b.op,a.g,b.g with
 |.allocN s _,.allocN t _,none,none=>s != t
 |_,_,_,_=>false

def UR (a b:Item):Bool :=
 a.op.keeps&&b.op.keeps&&UQ a b&&((a.op.pure&&b.op.lets a.op.mc)||(b.op.pure&&a.op.lets b.op.mc)||FP a b)

theorem FQ {m:Qo}{s t:Nat}{o:Ob}(h:s≠t):XL (Am.put m 0 s o) t=XL m t:=by
 unfold XL;rw[Qy (.inr (Ne.symm h))]
theorem Rl {m:Qo}{s t:Nat}{o q:Ob}(h:s≠t):Am.put (Am.put m 0 s o) 0 t q=Am.put (Am.put m 0 t q) 0 s o:=by
 cases m with
 |nil=>rfl
 |cons fr m=>
  simp only[Am.put];congr 1
  funext i;by_cases h1:i=t
  ·subst h1;rw[QR,QS _ _ (Ne.symm h),QR]
  ·rw[QS _ _ h1];by_cases h2:i=s
   ·subst h2;rw[QR,QR]
   ·rw[QS _ _ h2,QS _ _ h2,QS _ _ h1]
theorem Nw {a b:Item}(h:FP a b=true){st:St}{f:Fr}{x y:AV}{m m2:Qo}(ga:Zw P a st x m)(gb:Zw P b { st with m:=m,f:=f } y m2) :
  ∃m1,Zw P b st y m1∧∀f',Zw P a { st with m:=m1,f:=f' } x m2:=by
 obtain⟨da,oa,ga'⟩:=a;obtain⟨db,ob,gb'⟩:=b;unfold FP at h;dsimp only at h;split at h
 ·rename_i s z t w;have hne:s≠t:=by simpa using h
  obtain⟨h1,rfl,rfl⟩:=ga;obtain⟨h2,rfl,rfl⟩:=gb;dsimp only at h2;rw[FQ hne]at h2;refine⟨_,⟨h2,rfl,rfl⟩,fun f'=>⟨?_,rfl,?_⟩⟩
  ·dsimp only;rw[FQ (Ne.symm hne)];exact h1
  ·exact Rl hne
 ·cases h

theorem DP {l:List Nat}{f:Fr}{d:Option Nat}{x:AV}(h:∀k,d=some k→k∉l):ZD l f (Qn f d x):=by
 intro t ht;cases d with
 |none=>rfl
 |some k=>
  have:t≠k:=fun e=>h k rfl (e▸ht)
  show f t=QK f k x t;rw[QS _ _ this]

theorem CZ {f:Fr}{d e:Option Nat}{x y:AV}(h:∀k,d=some k→e≠some k):Qn (Qn f d x) e y=Qn (Qn f e y) d x:=by
 cases d with
 |none=>rfl
 |some d=>
  cases e with
  |none=>rfl
  |some e=>
   have hne:d≠e:=fun hh=>h d rfl (hh▸rfl)
   funext i;show QK (QK f d x) e y i=QK (QK f e y) d x i;by_cases h1:i=e
   ·subst h1;rw[QR,QS _ _ (Ne.symm hne),QR]
   ·rw[QS _ _ h1];by_cases h2:i=d
    ·subst h2;rw[QR,QR]
    ·rw[QS _ _ h2,QS _ _ h2,QS _ _ h1]

theorem VI {a b:Item}(h:UQ a b=true):(∀k,a.dst=some k→k∉b.sl)∧(∀k,a.dst=some k→b.dst≠some k)∧(∀k,b.dst=some k→k∉a.sl):=by
 unfold UQ at h;simp only[QXQ]at h;refine⟨fun k e=>?_,fun k e=>?_,fun k e=>?_⟩
 ·have:=h.1;rw[e]at this;simp at this;exact this.1
 ·have:=h.1;rw[e]at this;simp at this;exact this.2
 ·have:=h.2;rw[e]at this;simpa using this

theorem VJ {a b:Item}(h:UR a b=true){st:St}{K:St→Prop}(k:XX P a st fun s=>XX P b s K):XX P b st fun s=>XX P a s K:=by
 unfold UR at h;simp only[QXQ,QXw]at h;obtain⟨⟨⟨ka,kb⟩,hap⟩,hor⟩:=h;obtain⟨h1,h2,h3⟩:=VI hap;rw[Jy ka]at k;obtain⟨x,m,ga,k⟩:=k;rw[Jy kb]at k;obtain⟨y,m2,gb,k⟩:=k;rw[Jy kb];have hs1:∀f:Fr,ZD b.sl f (Qn f a.dst x):=fun f=>DP h1
 have hs3:∀f:Fr,ZD a.sl f (Qn f b.dst y):=fun f=>DP h3
 have hsym:∀ {l f f'},ZD l f f'→ZD l f' f:=fun h t ht=>(h t ht).symm
 have hK:K { st with m:=m2,f:=Qn (Qn st.f b.dst y) a.dst x }:=by
  rw[←CZ h2];exact k
 rcases hor with(⟨pa,lb⟩|⟨pb,la⟩)|hf
 ·have e:m=st.m:=(Ul (m':=st.m) (ds':=st.ds) pa (Xq.refl _ _) ga).1;subst e;have gb':Zw P b st y m2:=We (hsym (hs1 st.f)) gb;refine⟨y,m2,gb',?_⟩;rw[Jy ka];have ga':Zw P a { st with m:=m2 } x m2:=(Ul pa (Gc lb gb') ga).2;exact⟨x,m2,We (hs3 st.f) ga',hK⟩
 ·have hag:=Gc la ga;obtain⟨e,gb1⟩:=Ul (m':=st.m) (ds':=st.ds) pb hag.symm gb;have e:m2=m:=e;subst e;have gb':Zw P b st y st.m:=We (hsym (hs1 st.f)) gb1;refine⟨y,st.m,gb',?_⟩;rw[Jy ka];exact⟨x,m2,We (hs3 st.f) ga,hK⟩
 ·obtain⟨m1,gb',ga'⟩:=Nw hf ga gb;refine⟨y,m1,gb',?_⟩;rw[Jy ka];exact⟨x,m2,ga' _,hK⟩

theorem C0 {ops:Array Oper}{o:Oper}{i:Nat}(hi:ops[i]? = some o){it:Item}(hc:Uh P N ops o it=true){st:St}{K:St→Prop}(h:XX P it st K){G:Gh}{B:Nat}{a:Act}{w:World}(hr:Rel G B N st a w){KK:Act→World→Prop}{QQ:Exit→Act→World→Prop}
  (hk:∀G' st' a' w',K st'→Rel G' B N st' a' w'→Ext 1 G w G' w'→KK a' w'):wpOp P ops QQ i KK a w:=by
 have h1:Qx P N [it] st K:=FG (Yz (fun _ hs=>Qx.nil hs) h);have h2:=h1 ops [o] (by simp[X5,hc]) G B a w hr (fun e a w=>match e with
  |.normal=>KK a w
  |e=>QQ e a w) (fun G' st' a' w' h1 h2 h3=>hk G' st' a' w' h1 h2 h3)
 unfold wpOp;simp only[hi];unfold wpList at h2;split
 ·rename_i hw;rw[QXV hw]at h2;rcases h2 with h2|h2
  ·left
   unfold Oper.wp at h2 ⊢;generalize (execOp a.eval o).run P w=r at h2 ⊢;cases r with
   |ok n w'=>
    cases n<;>simp only[Oper.upon]at h2 ⊢<;>first
     |exact h2
     |exact Calls.mono h2 (fun e w'' he=>by cases e<;>exact he)
   |halt x w'=>cases x<;>simp only[Oper.upon]at h2 ⊢<;>exact h2
  ·exact .inr h2
 ·rename_i hw;rw[QXG hw]at h2;exact h2

def KX:Item:=⟨none,.val (.mov (.c .top)),none⟩
def YA (Qe:List Item)(l:List Nat):List Item:=l.map fun i=>Qe.getD i KX

theorem C1 {Qe:List Item}{i:Nat}{post:List Nat}{Q:St→Prop}:∀ {pre:List Nat} {st:St},(∀p,p∈pre→UR (Qe.getD p KX) (Qe.getD i KX)=true)→
  QD P (YA Qe (pre++i :: post)) st Q→XX P (Qe.getD i KX) st fun s=>QD P (YA Qe (pre++post)) s Q
 | [],_,_,h=>h
 |p :: pre,st,hp,h=>by
  have h':XX P (Qe.getD p KX) st fun s=>QD P (YA Qe (pre++i :: post)) s Q:=h
  have h2:=Yz (fun s hs=>C1 (fun q hq=>hp q (QXI _ hq)) hs) h';exact VJ (hp p (QXK ..)) h2

inductive Bef (ops:Array Oper):Nat→Nat→Prop
 |one {i:Nat} {o:Oper} {e:Edge} (ho:ops[i]? = some o) (he:e∈o.after) (hb:Region.binds .any e=true):Bef ops e.on i
 |more {i p:Nat} {o:Oper} {e:Edge} (ho:ops[i]? = some o) (he:e∈o.after) (hb:Region.binds .any e=true) (h:Bef ops p e.on):Bef ops p i

def VK (acc:List Nat)(m:Nat)(e:Edge):Nat:=if Region.binds .any e then(m ||| 2 ^ e.on) ||| acc.getD e.on 0 else m
def C2 (acc:List Nat)(o:Oper):Nat:=o.after.toList.foldl (VK acc) 0
def VL:List Oper→List Nat→List Nat
 | [],acc=>acc
 |o :: os,acc=>VL os (acc++[C2 acc o])

theorem Ge {acc:List Nat}{p:Nat}:∀(l:List Edge) (m:Nat),(l.foldl (VK acc) m).testBit p=true→m.testBit p=true∨∃e∈l,Region.binds .any e=true∧(p=e.on∨(acc.getD e.on 0).testBit p=true)
 | [],m,h=>.inl h
 |e :: l,m,h=>by
  rw[List.foldl_cons]at h;rcases Ge l _ h with h1|⟨e',h1,h2,h3⟩
  ·unfold VK at h1;split at h1
   ·rename_i hb;rw[Nat.testBit_or,Nat.testBit_or,QXw,QXw]at h1;rcases h1 with(h1|h1)|h1
    ·exact .inl h1
    ·rw[Nat.testBit_two_pow]at h1;exact .inr ⟨e,QXK ..,hb,.inl (of_decide_eq_true h1).symm⟩
    ·exact .inr ⟨e,QXK ..,hb,.inr h1⟩
   ·exact .inl h1
  ·exact .inr ⟨e',QXI _ h1,h2,h3⟩

theorem FR {ops:Array Oper}:∀(l:List Oper) (acc:List Nat),ops.toList=ops.toList.take acc.length++l→acc.length+l.length=ops.size→(∀i p,(acc.getD i 0).testBit p=true→Bef ops p i)→∀i p,((VL l acc).getD i 0).testBit p=true→Bef ops p i
 | [],acc,_,_,h=>h
 |o :: l,acc,e,hn,h=>by
  have hlen:acc.length<ops.toList.length:=by simp at hn ⊢;omega
  have hat:ops[acc.length]? = some o:=by
   rw[←QXT,e,QYS (by simp;omega)];simp;have:acc.length-min acc.length ops.size=0:=by simp at hlen;omega
   rw[this];rfl
  refine FR l (acc++[C2 acc o]) ?_ (by simp at hn ⊢;omega) fun i p hb=>?_
  ·rw[QX4,QYX,QXM hlen,QXN];have:ops.toList[acc.length]=o:=by
    have:=QXt hlen;rw[QXT,hat]at this;cases this;rfl
   rw[this];exact e
  ·rw[List.getD_eq_getElem?_getD]at hb;by_cases hi:i<acc.length
   ·rw[QYR hi,←List.getD_eq_getElem?_getD]at hb;exact h i p hb
   ·by_cases hi2:i=acc.length
    ·subst hi2;rw[QYS (QXq _)]at hb;simp only[Nat.sub_self,QYu,QYC]at hb;rcases Ge _ _ hb with h1|⟨e',h1,h2,h3⟩
     ·simp at h1
     ·rcases h3 with rfl|h3
      ·exact .one hat (by simpa using h1) h2
      ·exact .more hat (by simpa using h1) h2 (h _ _ h3)
    ·rw[QYQ (by simp;omega)]at hb;simp at hb

def Dg (ops:Array Oper)(Qe:List Item):Bool :=
 (List.range ops.size).all fun i=>match ops[i]? with
  |some o=>o.after.all (fun e=>!Region.binds .any e||decide (e.on<i))&&(List.range i).all fun p=>((VL ops.toList []).getD i 0).testBit p||UR (Qe.getD p KX) (Qe.getD i KX)
  |none=>true

theorem Bef.listed {ops:Array Oper}{L:Nat→Prop}(hcl:∀q,L q→∀o e,ops[q]? = some o→e∈o.after→Region.binds .any e=true→L e.on){p i:Nat}(h:Bef ops p i)(hi:∀o e,ops[i]? = some o→e∈o.after→Region.binds .any e=true→L e.on):L p:=by
 induction h with
 |one ho he hb=>exact hi _ _ ho he hb
 |more ho he hb _ ih=>exact ih (hcl _ (hi _ _ ho he hb))

def KL (n:Nat)(listed:Array Bool):List Nat:=(List.range n).filter fun i=>!listed.getD i true

theorem Hy {ops:Array Oper}:∀ {l:List Oper} {Qe:List Item},X5 P N ops l Qe=true→l.length=Qe.length∧∀(i:Nat) (o:Oper),l[i]? = some o→Uh P N ops o (Qe.getD i KX)=true
 | [],Qe,h=>by
  cases Qe with
  |nil=>exact⟨rfl,by simp⟩
  |cons it Qe=>simp[X5]at h
 |o :: l,Qe,h=>by
  cases Qe with
  |nil=>simp[X5]at h
  |cons it Qe=>
   simp only[X5,QXQ]at h;obtain⟨e,h2⟩:=Hy h.2;refine⟨by simp[e],fun i o' ho=>?_⟩;cases i with
   |zero=>simp at ho;subst ho;exact h.1
   |succ i=>simpa using h2 i o' (by simpa using ho)

theorem Rm {ops:Array Oper}{Qe:List Item}(hc:X5 P N ops ops.toList Qe=true)(hd:Dg ops Qe=true){B:Nat}{Q:St→Prop}{QQ:Exit→Act→World→Prop} :
  ∀(fuel:Nat) (listed:Array Bool),listed.size=ops.size→(∀q,listed.getD q false=true→∀o e,ops[q]? = some o→e∈o.after→Region.binds .any e=true→listed.getD e.on false=true)→(KL ops.size listed).length≤fuel→∀(st:St) (G:Gh) (a:Act) (w:World),QD P (YA Qe (KL ops.size listed)) st Q→Rel G B N st a w→
   (∀G' st' a' w',Q st'→Rel G' B N st' a' w'→Ext 1 G w G' w'→QQ .normal a' w')→wpAny P .any ops QQ fuel listed a w:=by
 obtain⟨hlen,hcs⟩:=Hy hc;have hready:∀(listed:Array Bool) i,i∈Region.ready .any ops listed→i∈KL ops.size listed:=by
  intro listed i hi;obtain⟨h0,o,ho,_⟩:=mem_ready.1 hi;exact List.mem_filter.2 ⟨QYY.2 (QXz.1 ho).1,by simp[h0]⟩
 have hat:∀i,i<ops.size→∃o,ops[i]? = some o∧(∀e∈o.after,Region.binds .any e=true→e.on<i)∧∀p,p<i→Bef ops p i∨UR (Qe.getD p KX) (Qe.getD i KX)=true:=by
  intro i hi;refine⟨ops[i],QXJ hi,?_⟩;have h1:=QXE.1 hd i (QYY.2 hi);rw[QXJ hi]at h1;simp only[QXQ]at h1;refine⟨fun e he hb=>?_,fun p hp=>?_⟩
  ·have h2:=Array.all_eq_true_iff_forall_mem.1 h1.1 e he
   simpa [hb]using h2
  ·have h2:=QXE.1 h1.2 p (QYY.2 hp);rw[QXw]at h2;rcases h2 with h2|h2
   ·exact .inl (FR ops.toList [] (by simp) (by simp) (fun i p hb=>by simp at hb) i p h2)
   ·exact .inr h2
 -- the first that is left is ready
 have hfirst:∀(listed:Array Bool),listed.size=ops.size→Region.ready .any ops listed=[]→KL ops.size listed=[]:=by
  intro listed hsz hr;cases hu:KL ops.size listed with
  |nil=>rfl
  |cons i rest=>
   exfalso;have hpw:(KL ops.size listed).Pairwise (· < ·):=List.Pairwise.filter _ List.pairwise_lt_range;have hi:i∈KL ops.size listed:=by rw[hu];exact QXK ..
   obtain⟨hi1,hi2⟩:=List.mem_filter.1 hi;obtain⟨o,ho,h1,_⟩:=hat i (QYY.1 hi1);have:i∈Region.ready .any ops listed:=by
    refine mem_ready.2 ⟨by simpa using hi2,o,ho,fun e he hb=>?_⟩;have hlt:=h1 e he hb;cases hg:listed.getD e.on false with
    |true=>rfl
    |false=>
     have hin:e.on∈KL ops.size listed:=by
      refine List.mem_filter.2 ⟨QYY.2 (Nat.lt_trans hlt (QYY.1 hi1)),?_⟩;have hlt':e.on<listed.size:=by rw[hsz];exact Nat.lt_trans hlt (QYY.1 hi1)
      simp[QXJ hlt']at hg ⊢;exact hg
     rw[hu]at hin hpw;rcases QYO.1 hin with e'|e'
     ·omega
     ·have:=(QYZ.1 hpw).1 _ e';omega
   rw[hr]at this;cases this
 intro fuel
 induction fuel with
 |zero=>
  intro listed hsz hcl hl st G a w h hr hq;have hu:KL ops.size listed=[]:=QYw (by omega);refine⟨?_,?_⟩
  ·cases hx:Region.ready .any ops listed with
   |nil=>rfl
   |cons i r=>
    have:=hready listed i (by rw[hx];exact QXK ..);rw[hu]at this;cases this
  ·rw[hu]at h;exact hq G st a w h hr (Ext.refl 1 G w)
 |succ fuel ih=>
  intro listed hsz hcl hl st G a w h hr hq;refine⟨fun hx=>?_,fun i hi=>?_⟩
  ·rw[hfirst listed hsz hx]at h;exact hq G st a w h hr (Ext.refl 1 G w)
  ·have hiu:=hready listed i hi;obtain⟨pre,post,hsplit⟩:=List.append_of_mem hiu;have hpw:(KL ops.size listed).Pairwise (· < ·):=List.Pairwise.filter _ List.pairwise_lt_range;rw[hsplit]at h hpw;obtain⟨_,hp2,hp3⟩:=List.pairwise_append.1 hpw;obtain⟨hi1,hi2⟩:=List.mem_filter.1 hiu;obtain⟨o,ho,h1,h2⟩:=hat i (QYY.1 hi1);obtain⟨_,o',ho',h3⟩:=mem_ready.1 hi;rw[ho]at ho';cases ho';have hind:∀p,p∈pre→UR (Qe.getD p KX) (Qe.getD i KX)=true:=by
    intro p hp;rcases h2 p (hp3 p hp i (QXK ..))with hbef|h
    ·exfalso;have hl1:=hbef.listed (L:=fun q=>listed.getD q false=true) hcl (fun o2 e ho2 he hb=>by rw[ho]at ho2;cases ho2;exact h3 e he hb);have hpu:p∈KL ops.size listed:=by rw[hsplit];exact List.mem_append_left _ hp
     obtain⟨hr1,hr2⟩:=List.mem_filter.1 hpu;have hlt':p<listed.size:=by rw[hsz];exact QYY.1 hr1
     simp[QXJ hlt']at hl1 hr2;rw[hl1]at hr2;cases hr2
    ·exact h
   have hb:=C1 (P:=P) hind h;have hnext:KL ops.size (listed.setIfInBounds i true)=pre++post:=by
    have e1:KL ops.size (listed.setIfInBounds i true)=(KL ops.size listed).filter fun j=>j != i:=by
     unfold KL;rw[List.filter_filter];refine List.filter_congr fun j hj=>?_
     by_cases hji:j=i
     ·subst hji;have hlt':j<listed.size:=by rw[hsz];exact QYY.1 hj
      simp[hlt']
     ·rw[getD_set_ne true (fun e=>hji e.symm)];simp[hji]
    rw[e1,hsplit,List.filter_append,List.filter_cons];have e2:pre.filter (fun j=>j != i)=pre:=List.filter_eq_self.2 fun j hj=>by
     have:=hp3 j hj i (QXK ..);simp;omega
    have e3:post.filter (fun j=>j != i)=post:=List.filter_eq_self.2 fun j hj=>by
     have:=(QYZ.1 hp2).1 j hj;simp;omega
    rw[e2,e3];simp
   have hset:∀q,listed.getD q false=true→(listed.setIfInBounds i true).getD q false=true:=fun q hq'=>by
    by_cases hqi:q=i
    ·subst hqi;have hlt':q<listed.size:=by rw[hsz];exact QYY.1 hi1
     simp[hlt']
    ·rw[getD_set_ne false (fun e=>hqi e.symm)];exact hq'
   have hcl':∀q,(listed.setIfInBounds i true).getD q false=true→∀o e,ops[q]? = some o→e∈o.after→Region.binds .any e=true→(listed.setIfInBounds i true).getD e.on false=true:=fun q hq' o2 e ho2 he2 hb2=>by
    by_cases hqi:q=i
    ·subst hqi;rw[ho]at ho2;cases ho2;exact hset _ (h3 e he2 hb2)
    ·rw[getD_set_ne false (fun e=>hqi e.symm)]at hq';exact hset _ (hcl q hq' o2 e ho2 he2 hb2)
   refine C0 ho (hcs i o (by simpa using ho)) hb hr fun G' st' a' w' hk hr' he=>?_
   refine ih (listed.setIfInBounds i true) (by simpa using hsz) hcl' ?_ st' G' a' w' (by rw[hnext];exact hk) hr' fun G2 st2 a2 w2 hq2 hr2 he2=>hq G2 st2 a2 w2 hq2 hr2 (he.trans he2)
   rw[hnext];rw[hsplit]at hl;simp only[QX4,QXH]at hl ⊢;omega

theorem C3 {Qe:List Item}:YA Qe (List.range Qe.length)=Qe:=by
 apply List.ext_getElem
 ·simp[YA]
 ·intro i h1 h2;simp[YA,h2]

theorem AW {ops:Array Oper}{Qe:List Item}(hm:P.follows .mixedOrders=true)(hc:X5 P N ops ops.toList Qe=true)(hd:Dg ops Qe=true){st:St}{Q:St→Prop}(h:QD P Qe st Q){G:Gh}{B:Nat}{a:Act}{w:World}(hr:Rel G B N st a w){QQ:Exit→Act→World→Prop}{id:Nat}
  (hq:∀G' st' a' w',Q st'→Rel G' B N st' a' w'→Ext 1 G w G' w'→QQ .normal a' w'):(Code.region id ops true).wp P QQ a w:=by
 refine wp_region_any hm ?_;have hlen:=(Hy hc).1;simp only[QXW]at hlen;have hu:KL ops.size (Array.replicate ops.size false)=List.range Qe.length:=by
  unfold KL;rw[hlen];refine List.filter_eq_self.2 fun i hi=>?_
  simp[QYY.1 hi]
 refine Rm hc hd ops.size (Array.replicate ops.size false) (by simp) (fun q hq'=>by rw[QXB]at hq';simp[Array.getElem?_replicate]at hq';split at hq'<;>cases hq') (by rw[hu];simp[hlen]) st G a _ (by rw[hu,C3];exact h) hr.drew fun G' st' a' w' h1 h2 h3=>hq G' st' a' w' h1 h2 ((Ext.drew G w).trans h3)

end

def X7 (P:Program)(N:Nat):RC→Code→Bool
 |.gho _ r,c=>X7 P N r c
 |.no,_=>true
 |.skip,c=>match c with
  |.skip=>true
  |_=>false
 |.reg Qe,c=>match c with
  |.region _ ops false=>X5 P N ops ops.toList Qe
  |_=>false
 |.draw Qe,c=>match c with
  |.region _ ops true=>P.follows .mixedOrders&&X5 P N ops ops.toList Qe&&Dg ops Qe
  |_=>false
 |.seq a b,c=>match c with
  |.seq x y=>X7 P N a x&&X7 P N b y
  |_=>false
 |.cond r a b,c=>match c with
  |.cond o x y=>QM o r&&X7 P N a x&&X7 P N b y
  |_=>false
 |.block i a,c=>match c with
  |.block j x=>i==j&&X7 P N a x
  |_=>false
 |.loop a,c=>match c with
  |.loop x=>X7 P N a x
  |_=>false
 |.exit i,c=>match c with
  |.exit j=>i==j
  |_=>false
 |.scope a,c=>match c with
  |.scope x=>X7 P N a x
  |_=>false
 |.lab,c=>match c with
  |.label _=>true
  |_=>false
 |.ret,c=>match c with
  |.ret=>true
  |_=>false

section
variable {P:Program}{N B:Nat}

theorem C4:∀ {rc:RC} {c:Code} {st:St} {Q:Exit→St→Prop},QH P rc st Q→X7 P N rc c=true→∀ {G:Gh} {a:Act} {w:World},Rel G B N st a w→∀ {QQ:Exit→Act→World→Prop},
  (∀e G' st' a' w',Q e st'→Rel G' B N st' a' w'→Ext 1 G w G' w'→QQ e a' w')→c.wp P QQ a w:=by
 intro rc
 induction rc with
 |skip=>
  intro c st Q h hc G a w hr QQ hq;cases c<;>simp only[X7,QXL]at hc;exact wp_skip (hq _ _ _ _ _ h hr (Ext.refl 1 G w))
 |reg Qe=>
  intro c st Q h hc G a w hr QQ hq;cases c<;>simp only[X7,QXL]at hc;rename_i id ops d;cases d<;>simp only[QXL]at hc;refine wp_region_list ?_;exact NI (N:=N) h ops ops.toList hc G B a w hr QQ fun G' st' a' w' h1 h2 h3=>hq _ _ _ _ _ h1 h2 h3
 |draw Qe=>
  intro c st Q h hc G a w hr QQ hq;cases c<;>simp only[X7,QXL]at hc;rename_i id ops d;cases d<;>simp only[QXL,QXQ]at hc;exact AW hc.1.1 hc.1.2 hc.2 h hr fun G' st' a' w' h1 h2 h3=>hq _ _ _ _ _ h1 h2 h3
 |seq x y ihx ihy=>
  intro c st Q h hc G a w hr QQ hq;cases c<;>simp only[X7,QXL,QXQ]at hc;refine wp_seq (ihx h hc.1 hr fun e G' st' a' w' h1 h2 h3=>?_);cases e with
  |normal=>exact ihy h1 hc.2 h2 fun e G2 st2 a2 w2 k1 k2 k3=>hq _ _ _ _ _ k1 k2 (h3.trans k3)
  |_=>exact hq _ _ _ _ _ h1 h2 h3
 |cond r x y ihx ihy=>
  intro c st Q h hc G a w hr QQ hq;cases c<;>simp only[X7,QXL,QXQ]at hc;rename_i o cx cy;obtain⟨t,ht,h1,h2⟩:=h;have hv:=Qv hr hc.1.1;rw[ht]at hv;have hv':a.eval o=.bool t:=by
   generalize a.eval o=v at hv;cases hv;rfl
  refine wp_cond_split hv' (fun e=>?_) (fun e=>?_)
  ·exact ihx (h1 e) hc.1.2 hr hq
  ·exact ihy (h2 e) hc.2 hr hq
 |block i x ih=>
  intro c st Q h hc G a w hr QQ hq;cases c<;>simp only[X7,QXL,QXQ,QXy]at hc;obtain⟨rfl,hc⟩:=hc;refine wp_block (ih h hc hr fun e G' st' a' w' h1 h2 h3=>?_);cases e with
  |exit j=>
   simp only[Exit.inBlock];simp only[Kb]at h1;split
   ·rename_i hh;rw[QXV hh]at h1;exact hq _ _ _ _ _ h1 h2 h3
   ·rename_i hh;rw[QXG hh]at h1;exact hq _ _ _ _ _ h1 h2 h3
  |_=>exact hq _ _ _ _ _ h1 h2 h3
 |loop x ih=>
  intro c st Q h hc G a w hr QQ hq;cases c<;>simp only[X7,QXL]at hc;obtain⟨I,n,h0,hI⟩:=h;refine wp_loop_ghost (fun k a' w'=>∃G' st',I k st'∧Rel G' B N st' a' w'∧Ext 1 G w G' w') n ⟨G,st,h0,hr,Ext.refl 1 G w⟩ ?_;rintro k a' w' ⟨G',st',i1,i2,i3⟩;refine ih (hI k st' i1) hc i2 fun e G2 st2 a2 w2 h1 h2 h3=>?_
  cases e with
  |normal=>
   obtain⟨k',hk,hi⟩:=h1;exact⟨k',hk,G2,st2,hi,h2,i3.trans h3⟩
  |_=>exact hq _ _ _ _ _ h1 h2 (i3.trans h3)
 |exit i=>
  intro c st Q h hc G a w hr QQ hq;cases c<;>simp only[X7,QXL,QXy]at hc;subst hc;exact wp_exit (hq _ _ _ _ _ h hr (Ext.refl 1 G w))
 |scope x ih=>
  intro c st Q h hc G a w hr QQ hq;cases c<;>simp only[X7,QXL]at hc;refine wp_scope_straight (ih h hc hr fun e G' st' a' w' h1 h2 h3=>?_);cases e with
  |goto l=>exact h1.elim
  |_=>exact hq _ _ _ _ _ h1 h2 h3
 |lab=>
  intro c st Q h hc G a w hr QQ hq;cases c<;>simp only[X7,QXL]at hc;exact wp_label (hq _ _ _ _ _ h hr (Ext.refl 1 G w))
 |ret=>
  intro c st Q h hc G a w hr QQ hq;cases c<;>simp only[X7,QXL]at hc;exact wp_ret (hq _ _ _ _ _ h hr (Ext.refl 1 G w))
 |gho g x ih=>
  intro c st Q h hc G a w hr QQ hq;obtain⟨st',hg,h⟩:=h;obtain⟨G',h1,h2⟩:=Ri hr hg;exact ih h hc h1 fun e G2 st2 a2 w2 k1 k2 k3=>hq _ _ _ _ _ k1 k2 (h2.trans k3)
 |no=>
  intro c st Q h;exact h.elim

theorem MR.out {G:Gh}{fr:Nat→Ob}{m:Qo}{w:World}(h:MR G (fr :: m) w){S:Nat→Prop}(hS:∀b,S b→(∃s,G.vm 0 s=some b)∨∃s,G.nm 0 s=some b):MR ((G.pub w S).dn 1) m w:=by
 have hnS:∀l s b,G.nm (l+1) s=some b→¬S b:=fun l s b e hs=>by
  rcases hS b hs with⟨s',e'⟩|⟨s',e'⟩
  ·exact h.inj3 _ _ _ _ _ e e'
  ·have:=(h.inj1 _ _ _ _ _ e e').1;omega
 have hvS:∀l s b,G.vm (l+1) s=some b→¬S b:=fun l s b e hs=>by
  rcases hS b hs with⟨s',e'⟩|⟨s',e'⟩
  ·have:=(h.inj2 _ _ _ _ _ e e').1;omega
  ·exact h.inj3 _ _ _ _ _ e' e
 have hgle:Gle G (G.pub w S):=Gh.pub_gle h.stab;refine⟨fun b o v e=>?_,fun l s xs e=>?_,fun l s b e=>?_,fun l s g sz xs e=>?_,fun l s b e=>?_,fun l s e=>?_,fun l s l' s' b e e'=>?_,fun l s l' s' b e e'=>?_,fun l s l' s' b e e'=>?_,fun l s t p e=>h.iter (l+1) s t p e⟩
 ·have e:(G.pub w S).stab b o=some v:=e;by_cases hs:S b
  ·rw[Gh.pub_in hs]at e;exact Fp e
  ·rw[Gh.pub_out hs]at e;exact h.stab b o v e
 ·obtain⟨b,cs,e',hc,hr⟩:=h.cells (l+1) s xs e;refine⟨b,cs,e',hc,?_⟩;rw[Gh.dn_dn];exact hr.mono (hgle.dn (l+1))
 ·obtain⟨h1,h2⟩:=h.nm (l+1) s b e;refine⟨h1,fun o=>?_⟩;show(G.pub w S).stab b o=none;rw[Gh.pub_out (hnS _ _ _ e)];exact h2 o
 ·obtain⟨a1,a2,a3,a4⟩:=h.vec (l+1) s g sz xs e;exact⟨a1,a2,a3,a4.imp id fun⟨b,e',r⟩=>⟨b,e',r.of rfl fun vs hv=>RepL.rfd (G:=G) (G':=(G.pub w S).dn 1) hgle.stab a3.rf hv⟩⟩
 ·obtain⟨h1,h2⟩:=h.vm (l+1) s b e;refine⟨h1,fun o=>?_⟩;show(G.pub w S).stab b o=none;rw[Gh.pub_out (hvS _ _ _ e)];exact h2 o
 ·exact h.gone (l+1) s e
 ·obtain⟨h1,h2⟩:=h.inj1 _ _ _ _ _ e e';exact⟨by omega,h2⟩
 ·obtain⟨h1,h2⟩:=h.inj2 _ _ _ _ _ e e';exact⟨by omega,h2⟩
 ·exact h.inj3 _ _ _ _ _ e e'

def Zl (rs:List RR)(n:Nat)(R:AV→Qo→Prop):Exit→St→Prop:=fun e st=>
 (e=.normal∨e=.ret)∧st.ds=[]∧∃x y fr m,Kp st rs=some x∧Wc st.m x=some y∧st.m=fr :: m∧m.length=n∧R y m

theorem Nx {G:Gh}{args:List AV}{vs:List Value}(h:RepL G args vs){N:Nat}(i:Nat):Rep G.up (FB (AV.shL args) i) (((vs.toArray++Array.replicate (N-vs.toArray.size) undef):Array Value).getD i undef):=by
 have h':RepL G.up (AV.shL args) vs:=RepL.sh (G:=G.up) (by rw[Gh.up_dn];exact h);have hl:=h'.length;unfold FB;by_cases hi:i<vs.length
 ·obtain⟨x,e,hx⟩:=h'.back (QXt hi);rw[e];simp only[QYC,QXB];rw[Array.getElem?_append_left (by simpa using hi)]
  simpa [hi]using hx
 ·rw[QYQ (by omega)];simp only[QY0,QXB];rw[Array.getElem?_append_right (by simpa using hi)];cases hx:(Array.replicate (N-vs.toArray.size) undef)[i-vs.toArray.size]? with
  |none=>exact .tup .nil
  |some v=>
   have:=QXz.1 hx;obtain⟨_,h2⟩:=this;simp at h2;subst h2;exact .tup .nil

theorem DQ {fn:Func}{args:List AV}{m:Qo}{G:Gh}{w:World}{vs:List Value}(hvs:RepL G args vs)(hm:MR G m w)(hN:fn.ntmps=N)(ha:args.length≤N) :
  Rel G.up w.heap.size N (St.enter args m) { tmps:=vs.toArray++Array.replicate (fn.ntmps-vs.toArray.size) undef,defers:=[] } w:=by
 have hlen:=hvs.length;refine⟨hm.up,?_,fun i=>Nx hvs i,.nil,fun s b e=>?_,QXq _,by simp[St.enter]⟩
 ·simp;omega
 ·rcases e with e|e<;>cases e

theorem NJ {fn:Func}{rs:List RR}{G G':Gh}{m m':Qo}{w w':World}{st':St}{a':Act}{fr:Nat→Ob}{x y:AV}{R:AV→Qo→Prop}(hr:JC P fn.results.toList rs=true)(hr':Rel G' w.heap.size N st' a' w')(he:Ext 1 G.up w G' w')
  (hx:Kp st' rs=some x) (hy:Wc st'.m x=some y) (hst:st'.m=fr :: m') (hml:m'.length=m.length) (hR:R y m') :
  ∃v,(results fn a'.tmps).run P w'=.ok v w'∧(∃G'' x v' m'',(Ending.returned v)=.returned v'∧R x m''∧Rep G'' x v'∧MR G'' m'' w'∧Ext 0 G w G'' w'∧m''.length=m.length):=by
 obtain⟨v,hrun,hv⟩:=AR (P:=P) hr' hr hx
 let S:Nat→Prop:=fun b=>(∃s,G'.vm 0 s=some b)∨∃s,G'.nm 0 s=some b
 have hmr:=hr'.mr;have hSt:∀l s b,(true&&l != 0)=false→G'.vm l s=some b→S b:=by
  intro l s b hl e;have:l=0:=by simpa using hl
  subst this;exact .inl ⟨s,e⟩
 unfold Wc at hy;rw[Option.bind_eq_some_iff]at hy;obtain⟨z,hz,hy⟩:=hy;have hv2:=Rep.un (Hw hmr (own:=true) (S:=S) hSt (fun _ s b _ _ _ e _=>.inr ⟨s,e⟩) hv z hz) y hy;rw[hst]at hmr;have hout:=hmr.out (S:=S) (fun b hs=>hs);have hmine:∀b,((G'.pub w' S).dn 1).mine b→G'.mine b:=by
  rintro b (⟨l,s,e⟩|⟨l,s,e⟩)
  ·exact .inl ⟨l+1,s,e⟩
  ·exact .inr ⟨l+1,s,e⟩
 have hext:Ext 0 G w ((G'.pub w' S).dn 1) w':=by
  refine⟨he.os,he.tape,he.output,he.size,fun b o v e=>?_,fun l s _=>he.nm (l+1) s (by omega),fun l s=>he.vg (l+1) s,fun l s e=>he.vs (l+1) s e,fun b hb hnm=>?_,fun b hb=>?_,fun l s b e=>?_⟩
  ·exact(Gh.pub_gle (S:=S) hr'.mr.stab).stab b o v (he.stab b o v e)
  ·obtain⟨h1,h2⟩:=he.old b hb (fun hx=>hnm (Gh.up_mine.1 hx));refine⟨h1,fun o=>?_⟩;have hnS:¬S b:=by
    rintro(⟨s,e⟩|⟨s,e⟩)
    ·have:=hr'.base s b (.inr e);omega
    ·have:=hr'.base s b (.inl e);omega
   show(G'.pub w' S).stab b o=G.stab b o;rw[Gh.pub_out hnS];exact h2 o
  ·rcases he.mine b (hmine b hb)with h1|h1
   ·exact .inl (Gh.up_mine.1 h1)
   ·exact .inr h1
  ·rcases he.mv (l+1) s b e with⟨i,t,hi,h1⟩|h1
   ·cases i with
    |zero=>cases h1
    |succ i=>exact .inl ⟨i,t,by omega,h1⟩
   ·exact .inr h1
 exact⟨v,hrun,_,y,v,m',rfl,hR,hv2,hout,hext,hml⟩

theorem Ub {k:FuncId} {fn:Func} {c:Code} {rc:RC} {rs:List RR} {args:List AV} {m:Qo} {R:AV→Qo→Prop} (hf:P.funcs[k]? = some fn) (hb:fn.body=some c) (hn:(fn.name == "runtime.NumGoroutine")=false) (hN:fn.ntmps=N) (hc:X7 P N rc c=true) (hr:JC P fn.results.toList rs=true)
  (ha:args.length≤N) (h:QH P rc (St.enter args m) (Zl rs m.length R)):Qg P k args m R:=by
 refine⟨⟨fn,hf,hn,by rw[hb];rfl⟩,fun G w vs hvs hm=>?_⟩;refine calls_of_wp hf hb ?_;refine C4 h hc (DQ hvs hm hN ha) fun e G' st' a' w' hq hr' he=>?_
 obtain⟨hex,hds,x,y,fr,m',hx,hy,hst,hml,hR⟩:=hq;have hdef:a'.defers=[]:=by
  have:=hr'.ds;rw[hds]at this;cases hd:a'.defers with
  |nil=>rfl
  |cons d l=>rw[hd]at this;cases this
 have hfin:=NJ (R:=R) hr hr' he hx hy hst hml hR;rcases hex with rfl|rfl
 ·exact⟨hdef,hfin⟩
 ·exact⟨hdef,hfin⟩

def Yg (P:Program)(k:FuncId)(args:List AV)(m:Qo)(R:AV→Qo→Prop):Prop :=
 Yy P k∧∀(G:Gh) (w:World) (vs:List Value),RepL G args vs→MR G m w→∀u,CallsD P k ⟨vs⟩ u w fun e u' w'=>u'=u∧∃G' x v m',e=.returned v∧R x m'∧Rep G' x v∧MR G' m' w'∧Ext 0 G w G' w'∧m'.length=m.length

theorem Dh {k:FuncId} {fn:Func} {c:Code} {rc:RC} {rs:List RR} {args:List AV} {m:Qo} {R:AV→Qo→Prop} (hf:P.funcs[k]? = some fn) (hb:fn.body=some c) (hn:(fn.name == "runtime.NumGoroutine")=false) (hN:fn.ntmps=N) (hc:X7 P N rc c=true) (hr:JC P fn.results.toList rs=true)
  (ha:args.length≤N) (h:QH P rc (St.enter args m) (Zl rs m.length R)):Yg P k args m R:=by
 refine⟨⟨fn,hf,hn,by rw[hb];rfl⟩,fun G w vs hvs hm u=>?_⟩;refine callsD_of_wp (R:=fun e w'=>∃G' x v m',e=.returned v∧R x m'∧Rep G' x v∧MR G' m' w'∧Ext 0 G w G' w'∧m'.length=m.length) hf hb ?_;refine C4 h hc (DQ hvs hm hN ha) fun e G' st' a' w' hq hr' he=>?_
 obtain⟨hex,hds,x,y,fr,m',hx,hy,hst,hml,hR⟩:=hq;have hdef:a'.defers=[]:=by
  have:=hr'.ds;rw[hds]at this;cases hd:a'.defers with
  |nil=>rfl
  |cons d l=>rw[hd]at this;cases this
 have hfin:=NJ (R:=R) hr hr' he hx hy hst hml hR;rcases hex with rfl|rfl
 ·exact⟨hdef,hfin⟩
 ·exact⟨hdef,hfin⟩

end

def CK (P:Program)(k N:Nat)(rc:RC)(rs:List RR):Prop :=
 ∃fn c, P.funcs[k]? = some fn∧fn.body=some c∧(fn.name == "runtime.NumGoroutine")=false∧fn.ntmps=N∧X7 P N rc c=true∧JC P fn.results.toList rs=true
theorem CK.go {P:Program}{k N:Nat}{rc:RC}{rs:List RR}{args:List AV}{m:Qo}{R:AV→Qo→Prop}(h:CK P k N rc rs)(ha:args.length≤N)(w:QH P rc (St.enter args m) (Zl rs m.length R)):Qg P k args m R:=by
 obtain⟨fn,c,h1,h2,h3,h4,h5,h6⟩:=h;exact Ub h1 h2 h3 h4 h5 h6 ha w
theorem ck {P:Program} {k N:Nat} {fn:Func} {rc:RC} {rs:List RR} (hf:P.funcs[k]? = some fn) (hN:fn.ntmps=N) (h:(fn.body.isSome && !(fn.name == "runtime.NumGoroutine")&&X7 P N rc (fn.body.getD .skip)&&JC P fn.results.toList rs)=true):CK P k N rc rs := by
 simp only[QXQ,QYq,Option.isSome_iff_exists]at h;obtain⟨⟨⟨⟨c,hc⟩,h1⟩,h2⟩,h3⟩:=h;rw[hc]at h2;exact⟨fn,c,hf,hc,h1,hN,h2,h3⟩
theorem CK.dd {P:Program}{k N:Nat}{rc:RC}{rs:List RR}{args:List AV}{m:Qo}{R:AV→Qo→Prop}(h:CK P k N rc rs)(ha:args.length≤N)(w:QH P rc (St.enter args m) (Zl rs m.length R)):Yg P k args m R:=by
 obtain⟨fn,c,h1,h2,h3,h4,h5,h6⟩:=h;exact Dh h1 h2 h3 h4 h5 h6 ha w
theorem CK.rl {P:Program}{k N:Nat}{rc:RC}{rs:List RR}{args:List AV}{R:AV→Prop}(h:CK P k N rc rs)(ha:args.length≤N)(w:QH P rc (St.enter args []) (Zl rs 0 fun x _=>R x)):WQ P k args R:=h.go ha w
theorem CK.fn {P:Program}{k N:Nat}{rc:RC}{rs:List RR}{args:List AV}{v:AV}(h:CK P k N rc rs)(ha:args.length≤N)(w:QH P rc (St.enter args []) (Zl rs 0 fun x _=>x=v)):Qk P k args v:=h.go ha w

section
variable {P:Program}{f:Fr}{m:Qo}{ds:List DF}{K:St→Prop}{Q:Exit→St→Prop}{Qe:List Item}{d:Nat}

def Kc (P:Program)(b:RC)(Q:Exit→St→Prop):Exit→St→Prop:=Ks (fun st'=>QH P b st' Q) Q
def Kl (I:Nat→St→Prop)(n:Nat)(Q:Exit→St→Prop):Exit→St→Prop:=Ks (fun s=>∃k,k<n∧I k s) Q

theorem Yh {st:St}:QH P .skip st Q=Q .normal st:=id rfl
theorem QLE {st:St}:QH P .no st Q=False:=id rfl
theorem Sx {st:St}:QH P .lab st Q=Q .normal st:=id rfl
theorem Sy {st:St}:QH P .ret st Q=Q .ret st:=id rfl
theorem C5 {st:St}{i:Nat}:QH P (.exit i) st Q=Q (.exit i) st:=id rfl
theorem YB {st:St}:QH P (.reg Qe) st Q=QD P Qe st (Q .normal):=id rfl
theorem C6 {st:St}:QH P (.draw Qe) st Q=QD P Qe st (Q .normal):=id rfl
theorem YC {st:St}{a b:RC}:QH P (.seq a b) st Q=QH P a st (Kc P b Q):=id rfl
theorem NK {st:St}{i:Nat}{a:RC}:QH P (.block i a) st Q=QH P a st (Kb i Q):=id rfl
theorem NL {st:St}{a:RC}:QH P (.scope a) st Q=QH P a st (Kg Q):=id rfl
def Di:AV→Bool
 |.bool b=>b
 |_=>false
def C7:AV→Prop
 |.bool _=>True
 |_=>False
theorem C8 (b:Bool):Di (.bool b)=b:=id rfl
theorem Sz (b:Bool):C7 (.bool b)=True:=id rfl
def Hz (P:Program)(v:AV)(a b:RC)(st:St)(Q:Exit→St→Prop):Prop:=C7 v∧(Di v=true→QH P a st Q)∧(Di v=false→QH P b st Q)
theorem YD {a b:RC}{st:St}:Hz P (.bool true) a b st Q=QH P a st Q:=by simp[Hz,C7,Di]
theorem Kt {a b:RC}{st:St}:Hz P (.bool false) a b st Q=QH P b st Q:=by simp[Hz,C7,Di]
theorem Q2 {t:Bool}{a b:RC}{st:St}(h1:t=true→QH P a st Q)(h2:t=false→QH P b st Q):Hz P (.bool t) a b st Q:=⟨trivial,h1,h2⟩
theorem KM {c:RA}{a b:RC}:QH P (.cond c a b) ⟨f,m,ds⟩ Q=Hz P (c.ev f) a b ⟨f,m,ds⟩ Q:=by
 simp only[QH,Hz];generalize c.ev f=v;cases v<;>simp[Di,C7]

theorem ZM {b:RC}{st:St}:Kc P b Q .normal st=QH P b st Q:=id rfl
theorem C9 {b:RC}{st:St}{i:Nat}:Kc P b Q (.exit i) st=Q (.exit i) st:=id rfl
theorem Ma {b:RC}{st:St}:Kc P b Q .ret st=Q .ret st:=id rfl
theorem Mb {st:St}{i:Nat}:Kb i Q .normal st=Q .normal st:=id rfl
theorem Gf {st:St}{i j:Nat}:Kb i Q (.exit j) st=if j=i then Q .normal st else Q (.exit j) st:=id rfl
theorem Mc {st:St}{i:Nat}:Kb i Q .ret st=Q .ret st:=id rfl
theorem Md {st:St}:Kg Q .normal st=Q .normal st:=id rfl
theorem Me {st:St}{j:Nat}:Kg Q (.exit j) st=Q (.exit j) st:=id rfl
theorem Mf {st:St}:Kg Q .ret st=Q .ret st:=id rfl
theorem Mg {I:Nat→St→Prop}{n:Nat}{st:St}:Kl I n Q .normal st = ∃k,k<n∧I k st:=id rfl
theorem Mh {I:Nat→St→Prop}{n:Nat}{st:St}{j:Nat}:Kl I n Q (.exit j) st=Q (.exit j) st:=id rfl
theorem Mi {I:Nat→St→Prop}{n:Nat}{st:St}:Kl I n Q .ret st=Q .ret st:=id rfl

theorem Qd {a:RC}{st:St}(I:Nat→St→Prop)(n:Nat)(h0:I n st)(h:∀n st',I n st'→QH P a st' (Kl I n Q)):QH P (.loop a) st Q:=⟨I,n,h0,h⟩

theorem J6 {st:St}:QD P [] st K=K st:=id rfl
def Xm (x:Option AV):AV:=x.getD .top
def XZ (x:Option AV):Prop:=x.isSome=true
theorem ZN (x:AV):Xm (some x)=x:=id rfl
theorem J7 (x:AV):XZ (some x)=True:=by simp[XZ]
theorem J8 {vo:VO}:QD P (⟨some d,.val vo,none⟩ :: Qe) ⟨f,m,ds⟩ K=(XZ (Qt f m vo)∧QD P Qe ⟨QK f d (Xm (Qt f m vo)),m,ds⟩ K):=by
 simp only[QD,XX,Ua,Qn];generalize Qt f m vo=v;cases v<;>simp[Xm,XZ]

def mget (x:Option Qo):Qo:=x.getD []
def NM (x:Option Qo):Prop:=x.isSome=true
theorem Qa8 (x:Qo):mget (some x)=x:=id rfl
theorem QyJ (x:Qo):NM (some x)=True:=by simp[NM]
theorem AX {n:Nat}{p r:RA}:QD P (⟨none,.store n p r,none⟩ :: Qe) ⟨f,m,ds⟩ K=((r.ev f).cells.length=n∧(r.ev f).cells.all AV.leaf=true∧NM (QV m (p.ev f) (r.ev f).cells)∧QD P Qe ⟨f,mget (QV m (p.ev f) (r.ev f).cells),ds⟩ K):=by
 simp only[QD,XX,Ua,Qn];generalize QV m (p.ev f) (r.ev f).cells=v;cases v<;>simp[mget,NM]
def Rn (l s:Nat)(v:AV):Prop:=∃o,v=.ptr l s o
theorem Qa9 (l s o:Nat):Rn l s (.ptr l s o)=True:=eq_true ⟨o,rfl⟩
theorem Ro {l s n:Nat}{p r:RA}:QD P (⟨none,.storev l s n p r,none⟩ :: Qe) ⟨f,m,ds⟩ K=(Rn l s (p.ev f)∧(r.ev f).cells.length=n∧(r.ev f).cells.all AV.leaf=true∧NM (QV m (p.ev f) (r.ev f).cells)∧QD P Qe ⟨f,mget (QV m (p.ev f) (r.ev f).cells),ds⟩ K):=by
 simp only[QD,XX,Ua,Qn,Rn];generalize QV m (p.ev f) (r.ev f).cells=v;cases v<;>simp[mget,NM]
theorem Rp {s:Nat}{z:List AV}:QD P (⟨some d,.allocN s z,none⟩ :: Qe) ⟨f,m,ds⟩ K=(XL m s=true∧QD P Qe ⟨QK f d (.ptr 0 s 0),Am.put m 0 s (.cells z),ds⟩ K):=id rfl
theorem Qba {s:Nat}{r:RA}:QD P (⟨some d,.boxN s r,none⟩ :: Qe) ⟨f,m,ds⟩ K=(XL m s=true∧(r.ev f).cells.all AV.leaf=true∧QD P Qe ⟨QK f d (.ptr 0 s 0),Am.put m 0 s (.cells (r.ev f).cells),ds⟩ K):=id rfl

theorem QyK {sz len:Nat}{z:List AV}{ps:List (Nat×Nat×RA)}{y:List AV}(hy:fill f ps (XJ z sz len)=some y)(h1:AV.rfL y=true)(h2:y.all AV.leaf=true):QD P (⟨some d,.bsl sz len z ps,none⟩ :: Qe) ⟨f,m,ds⟩ K=QD P Qe ⟨QK f d (.list (XS sz len (y.map nn0))),m,ds⟩ K:=by
 apply propext
 constructor
 ·rintro⟨y',h,_,_,k⟩;have h:fill f ps (XJ z sz len)=some y':=h;rw[hy]at h;cases h;exact k
 ·intro k;exact⟨y,hy,h1,h2,k⟩
theorem Qbb {z:AV}{r:RA}{k:IntKind}{n:Int}(hr:r.ev f=.int k n):QD P (⟨some d,.bsl 1 1 [z] [(0,1,r)],none⟩ :: Qe) ⟨f,m,ds⟩ K=QD P Qe ⟨QK f d (.list [.int k n]),m,ds⟩ K:=by
 refine QyK (y:=[.int k n]) ?_ rfl rfl;simp[fill,hr,AV.cells,AV.leaf,XJ,List.range_succ,splice]

theorem JV {z:AV}{r:RA}{k:IntKind}{n:Int}(hr:r.ev f=.int k n)(h:QD P Qe ⟨QK f d (.list [.int k n]),m,ds⟩ K):QD P (⟨some d,.bsl 1 1 [z] [(0,1,r)],none⟩ :: Qe) ⟨f,m,ds⟩ K:=by
 rw[Qbb hr];exact h

theorem Yg.mono {k:FuncId}{args:List AV}{m:Qo}{R R':AV→Qo→Prop}(h:Yg P k args m R)(hr:∀x m',R x m'→R' x m'):Yg P k args m R' :=
 ⟨h.1,fun G w vs h1 h2 u c cs hu=>by
  obtain⟨e,u',w',fr,⟨h3,G',x,v,m',h4,h5,h6⟩,h7⟩:=h.2 G w vs h1 h2 u c cs hu;exact⟨e,u',w',fr,⟨h3,G',x,v,m',h4,hr _ _ h5,h6⟩,h7⟩⟩

theorem XF {slot site sz:Nat}{a:RC}{fr:Nat→Ob}(h1:f slot=.nils)(h2:fr site=.none)(h:QH P a ⟨QK f slot (.vec 0 site 1 0 0 false),QK fr site (.vec 1 sz []) :: m,ds⟩ Q):QH P (.gho (.vec slot site sz) a) ⟨f,fr :: m,ds⟩ Q:=by
 refine⟨_,?_,h⟩;have e:Qf (fr :: m) 0 site=.none:=h2;simp[ZH,h1,e,Qu,QC,Am.put]

theorem JW {fr:Nat→Ob}{site g sz n:Nat}{q:Bool}{xs:List AV}(hl:fr site=.vec g sz xs)(hn:n=xs.length):Q7 (fr :: m) (.vec 0 site g 0 n q)=some xs:=by
 subst hn;simp[Q7,Am.Qf,hl]

theorem QG {sz bytes el:Nat}{s r:RA}{site g n:Nat}{fr:Nat→Ob}{xs ys:List AV}(hs:s.ev f=.vec 0 site g 0 n false)(hl:fr site=.vec g sz xs)(ht:XP site el=true)(hn:n=xs.length)(hr:r.ev f=.list ys)(hz:ys.all (fun e=>e.cells.length==sz)=true)(hm:n+ys.length≤maxLen)(hb:(n+ys.length)*bytes≤140737488355328)
  (h:QD P Qe ⟨QK f d (.vec 0 site (g+1) 0 (n+ys.length) false),QK fr site (.vec (g+1) sz (xs++ys)) :: m,ds⟩ K):QD P (⟨some d,.app sz bytes el s r,none⟩ :: Qe) ⟨f,fr :: m,ds⟩ K:=by
 refine⟨0,site,g,n,xs,ys,hs,hl,ht,by omega,?_,hz,hm,hb,?_⟩
 ·show Q7 (fr :: m) (r.ev f)=some ys;rw[hr];rfl
 ·subst hn;rw[QY1];exact h

theorem Xv {k:Nat}{args:List RA}{ys:List AV}{v:AV}(hk:Qk P k ys v)(hy:AV.stillL false m (args.map (RA.ev f))=some ys)(h1:AV.rfL ys=true)(h2:v.rf=true)(h3:AV.rfL (args.map (RA.ev f))=true∨v.nl=true)(h:QD P Qe ⟨QK f d v,m,ds⟩ K) :
  QD P (⟨some d,.call (.f k) args,none⟩ :: Qe) ⟨f,m,ds⟩ K:=by
 refine⟨k,[],[],ys,v,rfl,?_,h1,hk,h2,?_,h⟩
 ·simpa using hy
 ·simpa using h3

theorem aC {k:Nat}{args:List RA}{ys:List AV}{v:AV}(hk:Qk P k ys v)(h:QD P Qe ⟨QK f d v,m,ds⟩ K)(hy:AV.stillL false m (args.map (RA.ev f))=some ys:=by rfl)(h1:AV.rfL ys=true:=by rfl)(h2:v.rf=true:=by rfl)(h3:AV.rfL (args.map (RA.ev f))=true∨v.nl=true:=by exact .inl rfl) :
  QD P (⟨some d,.call (.f k) args,none⟩ :: Qe) ⟨f,m,ds⟩ K:=Xv hk hy h1 h2 h3 h

theorem NN {cnt:Bool}{k:Nat}{s c:RA}{t:List UInt8}{b:Int}(hs:s.ev f=.str t)(hb:c.ev f=.int .u8 b)(h:QD P Qe ⟨QK f d (.int .i64 (H7 cnt t b)),m,ds⟩ K):QD P (⟨some d,.xb cnt k s c,none⟩ :: Qe) ⟨f,m,ds⟩ K :=
 ⟨t,b,hs,hb,h⟩

theorem Zx {k:Nat}{args:List RA}{ys:List AV}{R:AV→Prop}(hk:WQ P k ys R)(hy:AV.stillL false m (args.map (RA.ev f))=some ys)(h1:AV.rfL ys=true)(h2:∀v,R v→v.rf=true∧(AV.rfL (args.map (RA.ev f))=true∨v.nl=true))(h:∀v,R v→QD P Qe ⟨QK f d v,m,ds⟩ K) :
  QD P (⟨some d,.callR (.f k) args,none⟩ :: Qe) ⟨f,m,ds⟩ K:=by
 refine⟨k,[],[],ys,R,rfl,?_,h1,hk,?_,h⟩
 ·simpa using hy
 ·simpa using h2

theorem DR {s:Nat}{r:RA}{fr:Nat→Ob}{t:List UInt8}(ht:r.ev f=.str t)(hn:fr s=.none)(h:QD P Qe ⟨QK f d (.ptr 0 s 0),QK fr s (.iter (.str t) 0) :: m,ds⟩ K) :
  QD P (⟨some d,.rngs s r,none⟩ :: Qe) ⟨f,fr :: m,ds⟩ K:=by
 refine⟨t,ht,?_,h⟩;show(match fr s with|.none=>true|_=>false)=true;rw[hn]

theorem DS {s p:Nat}{r:RA}{fr:Nat→Ob}{t:List UInt8}(hr:r.ev f=.ptr 0 s 0)(hl:fr s=.iter (.str t) p)
  (h1:p<t.length→QD P Qe ⟨QK f d (.tup [.bool true,.int .i64 (p:Nat),.int .i32 ((Xp t p).1:Nat)]),QK fr s (.iter (.str t) (p+(Xp t p).2)) :: m,ds⟩ K)
  (h2:t.length≤p→QD P Qe ⟨QK f d (.tup [.bool false]),fr :: m,ds⟩ K) :
  QD P (⟨some d,.nxts r,none⟩ :: Qe) ⟨f,fr :: m,ds⟩ K :=
 ⟨0,s,t,p,hr,hl,h1,h2⟩

theorem Qj {k:Nat}{args:List RA}{ys:List AV}{v:AV}{m':Qo}(hk:Qg P k ys m fun x m1=>x=v∧m1=m')(hy:args.map (RA.ev f)=ys)(h:QD P Qe ⟨QK f d v,m',ds⟩ K) :
  QD P (⟨some d,.callF (.f k) args,none⟩ :: Qe) ⟨f,m,ds⟩ K:=by
 refine⟨k,[],[],v,m',rfl,?_,h⟩;show Qg P k (args.map (RA.ev f)++[]) m fun x m1=>x=v∧m1=m'
 rw[QYv,hy];exact hk

theorem US {site el sz bytes:Nat}{z:List AV}{l c:RA}{kl kc:IntKind}{n k:Nat}{fr:Nat→Ob}(hl:l.ev f=.int kl (n:Int))(hc:c.ev f=.int kc (k:Int))(hnk:n≤k)(hk:k≤9223372036854775807)(hb:bytes*k≤281474976710656)(hs:fr site=.none)
  (h:QD P Qe ⟨QK f d (.vec 0 site 1 0 n false),QK fr site (.vec 1 sz (List.replicate n (JM sz z))) :: m,ds⟩ K):QD P (⟨some d,.mk site el sz bytes z l c,none⟩ :: Qe) ⟨f,fr :: m,ds⟩ K:=by
 have e:Qf (fr :: m) 0 site=.none:=hs;refine⟨kl,kc,n,k,hl,hc,hnk,hk,hb,?_,?_⟩
 ·show Qu (Qf (fr :: m) 0 site)=true;rw[e];rfl
 ·have hg:QC (fr :: m) 0 site=1:=by unfold QC;rw[e]
  simp only[hg];exact h

theorem Um {el:Nat}{s r:RA}{l site g n:Nat}{xs:List AV}{t:List UInt8}(hs:s.ev f=.vec l site g 0 n false)(hl:Qf m l site=.vec g 1 xs)(ht:XP site el=true)(hn:n=xs.length)(hr:r.ev f=.str t)(hm:n+t.length≤140737488355328)
  (h:QD P Qe ⟨QK f d (.vec l site (g+1) 0 (n+t.length) false),Am.put m l site (.vec (g+1) 1 (xs++QA t)),ds⟩ K):QD P (⟨some d,.appS el s r,none⟩ :: Qe) ⟨f,m,ds⟩ K:=by
 subst hn;refine⟨l,site,g,_,xs,t,hs,hl,ht,QXq _,hr,hm,?_⟩;rw[QY1];exact h

theorem Mj {s:Nat}{a:RC}{fr:Nat→Ob}:QH P (.gho (.drop s) a) ⟨f,fr :: m,ds⟩ Q=((fr s).isRow=false∧QH P a ⟨fun i=>(f i).scrub s,QK (fun i=>(fr i).scrub s) s .none :: m,ds.map (DF.scrub s)⟩ Q):=by
 apply propext
 have hn:Yv (fr :: m) s=!(fr s).isRow:=by
  unfold Yv;show(match fr s with|.vec .. => false|_=>true)=_;cases fr s<;>rfl
 constructor
 ·rintro⟨st',h1,h2⟩;simp only[ZH,hn]at h1;cases hr:(fr s).isRow with
  |true=>rw[hr]at h1;cases h1
  |false=>rw[hr]at h1;cases h1;exact⟨rfl,h2⟩
 ·rintro⟨h1,h2⟩;refine⟨_,?_,h2⟩;simp only[ZH,hn,h1];rfl
theorem Mk (s:Nat):AV.top.scrub s=.top:=id rfl
theorem Ml (s:Nat)(k:IntKind)(n:Int):(AV.int k n).scrub s=.int k n:=id rfl
theorem VM (s:Nat)(b:Bool):(AV.bool b).scrub s=.bool b:=id rfl
theorem Mm (s:Nat)(b:List UInt8):(AV.str b).scrub s=.str b:=id rfl
theorem VN (s:Nat):AV.nils.scrub s=.nils:=id rfl
theorem VP (s:Nat):AV.nilp.scrub s=.nilp:=id rfl
theorem VQ (s:Nat):AV.nili.scrub s=.nili:=id rfl
theorem VR (s:Nat):AV.nilf.scrub s=.nilf:=id rfl
theorem VS (s:Nat)(l:List AV):(AV.list l).scrub s=.list l:=id rfl
theorem Mn (s l t g o n:Nat)(q:Bool):(AV.vec l t g o n q).scrub s=.vec l t g o n q:=id rfl
theorem Mo (s:Nat)(l:List AV):(AV.agg l).scrub s=.agg (AV.scrubL s l):=id rfl
theorem Mp (s:Nat)(l:List AV):(AV.tup l).scrub s=.tup (AV.scrubL s l):=id rfl
theorem Mq (s t o:Nat):(AV.ptr 0 t o).scrub s=bif Nat.beq t s then .top else .ptr 0 t o:=id rfl
theorem VT (s l t o:Nat):(AV.ptr (l+1) t o).scrub s=.ptr (l+1) t o:=id rfl
theorem Mr (s:Nat):AV.scrubL s []=[]:=id rfl
theorem VU (s:Nat)(x:AV)(l:List AV):AV.scrubL s (x :: l)=x.scrub s :: AV.scrubL s l:=id rfl
theorem Ny (s:Nat)(l:List AV):(Ob.cells l).scrub s=.cells (AV.scrubL s l):=id rfl
theorem Ms (s g z:Nat)(l:List AV):(Ob.vec g z l).scrub s=.vec g z l:=id rfl
theorem VV (s:Nat):Ob.none.scrub s=.none:=id rfl
theorem Hg (s:Nat)(o:Ob):(o.scrub s).isRow=o.isRow:=by cases o<;>rfl
theorem Nz (l:List AV):(Ob.cells l).isRow=false:=id rfl
theorem VW:Ob.none.isRow=false:=id rfl

def ZO (P:Program)(v:AV)(w:Bool)(d:Option Nat)(ro:RO)(Qe:List Item)(st:St)(K:St→Prop):Prop :=
 match v with
 |.bool b=>(b=w→QD P (⟨d,ro,none⟩ :: Qe) st K)∧(b=(!w)→QD P Qe { st with f:=Qn st.f d (.tup []) } K)
 |.tup l=>l=[]∧QD P Qe { st with f:=Qn st.f d (.tup []) } K
 |_=>False
theorem XG {b:Bool}{d:Option Nat}{ro:RO}{st:St}(h1:b=true→QD P (⟨d,ro,none⟩ :: Qe) st K)(h2:b=false→QD P Qe { st with f:=Qn st.f d (.tup []) } K):ZO P (.bool b) true d ro Qe st K:=⟨h1,h2⟩
theorem XH {b:Bool}{d:Option Nat}{ro:RO}{st:St}(h1:b=false→QD P (⟨d,ro,none⟩ :: Qe) st K)(h2:b=true→QD P Qe { st with f:=Qn st.f d (.tup []) } K):ZO P (.bool b) false d ro Qe st K:=⟨h1,h2⟩
theorem Ku {d:Option Nat}{ro:RO}{st:St}:ZO P (.bool true) true d ro Qe st K=QD P (⟨d,ro,none⟩ :: Qe) st K:=by simp[ZO]
theorem FS {d:Option Nat}{ro:RO}{st:St}:ZO P (.bool false) false d ro Qe st K=QD P (⟨d,ro,none⟩ :: Qe) st K:=by simp[ZO]
theorem DT {ro:RO}:ZO P (.bool true) false (some d) ro Qe ⟨f,m,ds⟩ K=QD P Qe ⟨QK f d (.tup []),m,ds⟩ K:=by simp[ZO,Qn]
theorem WT {ro:RO}:ZO P (.bool false) true (some d) ro Qe ⟨f,m,ds⟩ K=QD P Qe ⟨QK f d (.tup []),m,ds⟩ K:=by simp[ZO,Qn]
theorem FT {ro:RO}{w:Bool}:ZO P (.tup []) w (some d) ro Qe ⟨f,m,ds⟩ K=QD P Qe ⟨QK f d (.tup []),m,ds⟩ K:=by simp[ZO,Qn]
theorem Gg {ro:RO}{st:St}:ZO P (.bool true) false none ro Qe st K=QD P Qe st K:=by simp[ZO,Qn]
theorem Gi {ro:RO}{st:St}:ZO P (.bool false) true none ro Qe st K=QD P Qe st K:=by simp[ZO,Qn]
theorem DU {ro:RO}{w:Bool}{st:St}:ZO P (.tup []) w none ro Qe st K=QD P Qe st K:=by simp[ZO,Qn]
theorem Hh {ro:RO}{j:Nat}{w:Bool}{d:Option Nat}:QD P (⟨d,ro,some (j,w)⟩ :: Qe) ⟨f,m,ds⟩ K=ZO P (f j) w d ro Qe ⟨f,m,ds⟩ K:=by
 simp only[QD,XX,ZO]
 all_goals(generalize f j=v;cases v<;>rfl)

theorem FU {rs:List RR}{n:Nat}{R:AV→Qo→Prop}{fr:Nat→Ob}:Zl rs n R .ret ⟨f,fr :: m,ds⟩=(ds=[]∧XZ (Kp ⟨f,fr :: m,ds⟩ rs)∧XZ (Wc (fr :: m) (Xm (Kp ⟨f,fr :: m,ds⟩ rs)))∧m.length=n∧R (Xm (Wc (fr :: m) (Xm (Kp ⟨f,fr :: m,ds⟩ rs)))) m):=by
 apply propext
 constructor
 ·rintro⟨_,h1,x,y,fr',m',h2,h3,h4,h5,h6⟩;cases h4;have h1:ds=[]:=h1;rw[h2,ZN,h3];exact⟨h1,rfl,rfl,h5,h6⟩
 ·rintro⟨h1,h2,h3,h4,h5⟩;generalize hv:Kp ⟨f,fr :: m,ds⟩ rs=v at h2 h3 h5;cases v with
  |none=>cases h2
  |some x=>
   rw[ZN]at h3 h5;cases hl:Wc (fr :: m) x with
   |none=>rw[hl]at h3;cases h3
   |some y=>
    rw[hl]at h5;exact⟨.inr rfl,h1,x,y,fr,m,hv,hl,rfl,h4,h5⟩
theorem FV {rs:List RR}{n:Nat}{R:AV→Qo→Prop}{st:St}:Zl rs n R .normal st=Zl rs n R .ret st:=by
 simp[Zl]

theorem J9 {α:Type}(f:Nat→α)(d:Nat)(x:α)(i:Nat):QK f d x i=bif Nat.beq i d then x else f i:=id rfl
theorem Jk (a b:Nat):Nat.beq a b=(a==b):=by
 cases h:Nat.beq a b with
 |true=>rw[QXo h];simp
 |false=>have:=Nat.ne_of_beq_eq_false h;simp[this]
theorem JO {s idx site sz:Nat}{a:RC}{fr:Nat→Ob}{xs:List AV}(h1:fr s=.cells xs)(h2:xs[idx]? = some .nils)(h3:fr site=.none)(hne:Nat.beq site s=false)(h:QH P a ⟨f,QK (QK fr site (.vec 1 sz [])) s (.cells (xs.set idx (.vec 0 site 1 0 0 false))) :: m,ds⟩ Q):QH P (.gho (.vecc s idx site sz) a) ⟨f,fr :: m,ds⟩ Q:=by
 refine⟨_,?_,h⟩;have e1:Qf (fr :: m) 0 s=.cells xs:=h1;have e:Qf (fr :: m) 0 site=.none:=h3;simp[ZH,e1,h2,e,Qu,QC,Am.put,hne]
theorem Dj {α:Type}(f:Nat→α)(d:Nat)(x y:α):QK (QK f d x) d y=QK f d y:=by
 funext i;by_cases h:i=d
 ·subst h;rw[QR,QR]
 ·rw[QS _ _ h,QS _ _ h,QS _ _ h]
theorem FX {α:Type}(f:Nat→α)(d e:Nat)(x y:α)(hde:d≠e):QK (QK f d x) e y=QK (QK f e y) d x:=by
 funext i;by_cases h:i=d
 ·subst h;rw[QR,QS _ _ hde,QR]
 ·by_cases h2:i=e
  ·subst h2;rw[QR,QS _ _ h,QR]
  ·rw[QS _ _ h2,QS _ _ h,QS _ _ h,QS _ _ h2]
theorem AY {α:Type}(f:Nat→α)(d:Nat)(x:α)(h:f d=x):QK f d x=f:=by
 funext i;by_cases hi:i=d
 ·subst hi;rw[QR,h]
 ·rw[QS _ _ hi]
theorem Un (n:Nat):(RA.t n).ev f=f n:=id rfl
theorem DV (x:AV):(RA.c x).ev f=x:=id rfl
theorem e_f (k:Nat):(RA.f k).ev f=.fn (.func k) [] []:=id rfl

end

end Go.Proofs.YtipjfckmopekaaaGreatDoor.Am

namespace Go.Proofs.YtipjfckmopekaaaGreatDoor.Br
open Go Am Go.RowKit Go.WideShapes Go.ChangeShapes Go.ChangeAt

theorem FY {P:Program}{k:FuncId}{args:List AV}{v:Bool}(h:Qk P k args (.bool v)){stab:Nat→Nat→Option SV}{w:World}(hs:∀b o u,stab b o=some u→rd w b o u){vs:List Value}(hr:RepL (Gh.bare stab) args vs) :
  Calls P k ⟨vs⟩ w fun e w'=>e=.returned (.bool v)∧Below w.heap.size w w' :=
 (h.2 (Gh.bare stab) w vs hr (MR.bare hs)).mono fun e w' ⟨G',x,u,m',he,hx,hu,_,hex,_⟩=>by
  subst hx;cases hu;exact⟨he,hex.os,hex.tape,hex.output,hex.size,fun b hb=>(hex.old b hb Gh.bare_mine).1⟩

theorem AZ {G:Gh}(s:ByteArray):Rep G (.str s.data.toList) (.string s):=by
 obtain⟨⟨l⟩⟩:=s;exact .str l

theorem Qbc {n:Int}(h:(Lit.int .i64 n).wf=true) : -9223372036854775808≤n:=by
 simp[Lit.wf,IntKind.min,IntKind.max,IntKind.bits,IntKind.signed]at h;omega
theorem Qbd {n:Int}(h:(Lit.int .i64 n).wf=true):n<9223372036854775808:=by
 simp[Lit.wf,IntKind.min,IntKind.max,IntKind.bits,IntKind.signed]at h;omega
theorem FZ {n:Int}(h:(Lit.int .u64 n).wf=true):0≤n:=by
 simp[Lit.wf,IntKind.min,IntKind.max,IntKind.bits,IntKind.signed]at h;omega
theorem Gj {n:Int}(h:(Lit.int .u64 n).wf=true):n<18446744073709551616:=by
 simp[Lit.wf,IntKind.min,IntKind.max,IntKind.bits,IntKind.signed]at h;omega

section
variable {H:Type}{XT:TypeId×Value→H}{P:Program}
theorem Fo {f:Func}{s:ChangeSpec}{UQ fresh handsOn again:Bool}{W W':World}{args:Array Value}{v:Value}{ds gs:List (DataW H)}{before pa pv:List MemPlace}
  (hW:DataW.Whole XT P f.params.toList s.vars UQ W args.toList ds gs before)
  (hres:∀(b:Nat) (sp:Nat→Bool) (hd:Bool),DataW.TrodAll XT P W' b sp hd f.resultTypes.toList (v.resultList f.resultTypes.size) (s.fn H (ds++gs)).results [])
  (hargs:∀sp:Nat→Bool,(∀p∈before,sp p.block=true)→DataW.TrodAll XT P W' 0 sp true f.params.toList args.toList (s.fn H (ds++gs)).args pa)
  (hvars:∀sp:Nat→Bool,(∀p∈before,sp p.block=true)→DataW.TrodVars XT P W' sp s.vars (s.fn H (ds++gs)).vars pv)
  (hps:before=pa++pv) (hb:Below W.heap.size W W')
  (hok:∀(j:Nat) (t:TypeId) (r:Value),f.resultTypes[j]? = some t→(v.resultList f.resultTypes.size)[j]? = some r→Value.okWide P W' .any 0 t r) :
  s.post XT P f UQ fresh handsOn again W args v W':=by
 have hlt:∀p∈before,p.block<W.heap.size:=fun p hp=>hW.lt p hp
 have hold:∀p∈before,(fun b=>decide (b<W.heap.size)) p.block=true:=fun p hp=>by simpa using hlt p hp
 refine⟨ds,gs,before,[],pa,pv,hW,hres _ _ _,hargs _ hold,hvars _ hold,World.keptBut_mono (fun p hp=>⟨hp,?_⟩) (hb.frame (·∈before)),fun _=>?_⟩
 ·rw[hps,QYK]at hp;exact Or.inr hp
 ·obtain⟨_,_,_,_,_,hz,hn⟩:=hW;refine⟨hok,_,_,([]++pa)++pv,⟨[]++pa,pv,trodAll_append (hargs _ (fun _ _=>rfl)) (hres _ _ _),hvars _ (fun _ _=>rfl),rfl,?_,?_⟩,?_⟩
  ·intro b off hp;have hin:MemPlace.cell b off∈before:=by rw[hps];simpa using hp
   rw[hb.frozen (hlt _ hin)];exact hz b off hin
  ·intro ha;have:=hn ha;rw[hps]at this
   simpa using this
  ·intro p hp _;rw[hps]
   simpa using hp
end

end Go.Proofs.YtipjfckmopekaaaGreatDoor.Br

namespace Go.Proofs.YtipjfckmopekaaaGreatDoor.Am
open Go

variable {P:Program}{f:Fr}{m:Qo}{ds:List DF}{Qe:List Item}{d:Nat}

theorem NO {Q:Exit→St→Prop}{a:RC}{slot site g sz n:Nat}{fr:Nat→Ob}{xs:List AV}(h1:f slot=.vec 0 site g 0 n false)(h2:fr site=.vec g sz xs)(hn:n≤xs.length)
  (h:QH P a ⟨QK f slot (.list (xs.take n)),QK fr site (.vec (g+1) sz []) :: m,ds⟩ Q):QH P (.gho (.pub slot site) a) ⟨f,fr :: m,ds⟩ Q:=by
 refine⟨_,?_,h⟩;have e:Qf (fr :: m) 0 site=.vec g sz xs:=h2;simp only[ZH,h1,e];rw[show Nat.beq site site=true from Nat.beq_refl site,show Nat.beq g g=true from Nat.beq_refl g,show Nat.ble (0+n) xs.length=true from Nat.ble_eq_true_of_le (by omega)];rfl

def Fs:List Nat→RC→RC
 | [],a=>a
 |s :: l,a=>.gho (.drop s) (Fs l a)
def VX:List Nat→AV→AV
 | [],x=>x
 |s :: l,x=>VX l (x.scrub s)
def Gk:List Nat→Ob→Ob
 | [],x=>x
 |s :: l,x=>Gk l (x.scrub s)

theorem VY (l:List Nat):Gk l .none=.none:=by
 induction l with
 |nil=>rfl
 |cons s l ih=>exact ih

theorem QJ {Q:Exit→St→Prop}{a:RC}(l:List Nat):∀ {f:Fr} {fr:Nat→Ob},(∀s∈l,(fr s).isRow=false)→
  (∀f' fr',(∀i,f' i=VX l (f i))→(∀i,i∉l→fr' i=Gk l (fr i))→(∀i∈l,fr' i=.none)→QH P a ⟨f',fr' :: m,[]⟩ Q)→QH P (Fs l a) ⟨f,fr :: m,[]⟩ Q:=by
 induction l with
 |nil=>intro f fr _ h;exact h f fr (fun _=>rfl) (fun _ _=>rfl) (fun _ h=>by cases h)
 |cons s l ih=>
  intro f fr hr h;show QH P (.gho (.drop s) (Fs l a)) _ _;rw[Mj];refine⟨hr s (by simp),?_⟩;show QH P (Fs l a) ⟨_,_ :: m,[]⟩ Q;refine ih ?_ ?_
  ·intro t ht;by_cases e:t=s
   ·subst e;rw[QR];rfl
   ·rw[QS _ _ e,Hg];exact hr t (by simp[ht])
  ·intro f' fr' h1 h2 h3;refine h f' fr' h1 ?_ ?_
   ·intro i hi;rw[h2 i (fun h=>hi (QXI _ h)),QS _ _ (fun e=>hi (by rw[e];exact QXK))];rfl
   ·intro i hi;by_cases hl:i∈l
    ·exact h3 i hl
    ·have e:i=s:=by
      rcases QYO.1 hi with e|e
      ·exact e
      ·exact absurd e hl
     rw[h2 i hl,e,QR,VY]

def Xn:Ob→Nat
 |.vec g _ _=>g+1
 |_=>1

theorem Jl {fr:Nat→Ob}{s:Nat}:QC (fr :: m) 0 s=Xn (fr s):=by
 unfold QC Xn;rfl

theorem ZX {K:St→Prop}{neg:Bool}{r:RA}{ys:List AV}(hr:r.ev f=.list ys)(h0:QD P Qe ⟨QK f d (.bool neg),m,ds⟩ K)(h1:ys=[]∨QO ys=[]→QD P Qe ⟨QK f d (.bool (!neg)),m,ds⟩ K):QD P (⟨some d,.isnil neg r,none⟩ :: Qe) ⟨f,m,ds⟩ K:=by
 refine⟨ys,?_,fun _=>h0,fun e=>h1 ?_⟩
 ·show Q7 m (r.ev f)=some ys;rw[hr];rfl
 ·rcases e with e|e
  ·have e:r.ev f=.nils:=e;rw[hr]at e;cases e
  ·exact .inr e

theorem Zy {K:St→Prop}{site sz:Nat}{fr:Nat→Ob}(hs:Qu (fr site)=true)
  (h:QD P Qe ⟨QK f d (.vec 0 site (Xn (fr site)) 0 0 false),QK fr site (.vec (Xn (fr site)) sz []) :: m,ds⟩ K):QD P (⟨some d,.bsl0 site sz,none⟩ :: Qe) ⟨f,fr :: m,ds⟩ K :=
 ⟨hs,h⟩

theorem DW {K:St→Prop}{site sz len:Nat}{z:List AV}{ps:List (Nat×Nat×RA)}{fr:Nat→Ob}{y:List AV}(hy:fill f ps (XJ z sz len)=some y)(h1:AV.rfL y=true)(h2:y.all AV.leaf=true)(hs:Qu (fr site)=true)
  (h:QD P Qe ⟨QK f d (.vec 0 site (Xn (fr site)) 0 len false),QK fr site (.vec (Xn (fr site)) sz (XS sz len (y.map nn0))) :: m,ds⟩ K):QD P (⟨some d,.bslv site sz len z ps,none⟩ :: Qe) ⟨f,fr :: m,ds⟩ K :=
 ⟨y,hy,h1,h2,hs,h⟩

theorem Gl {K:St→Prop}{site sz:Nat}{z l:List AV}{r:RA}{fr:Nat→Ob}(hr:r.ev f=.agg l)(hl:l.length=sz)(h1:sz≠1)(hf:AV.rfL l=true)(hlf:l.all AV.leaf=true)(hs:Qu (fr site)=true)
  (h:QD P Qe ⟨QK f d (.vec 0 site (Xn (fr site)) 0 1 false),QK fr site (.vec (Xn (fr site)) sz [.agg (l.map nn0)]) :: m,ds⟩ K):QD P (⟨some d,.bslv site sz 1 z [(0,sz,r)],none⟩ :: Qe) ⟨f,fr :: m,ds⟩ K:=by
 have hz:(XJ z sz 1).length=sz:=by simp[XJ]
 have hy:fill f [(0,sz,r)] (XJ z sz 1)=some l:=by
  simp only[fill,hr,AV.cells,hl,hlf,QX8,hz,QXq,and_self,if_true,splice,QYA,QXP];rw[QX3 (by omega),QYv]
 have hc:XS sz 1 (l.map nn0)=[.agg (l.map nn0)]:=by
  simp only[XS,QXG h1];rw[QX0 (by rw[QYn];omega)]
 refine DW hy hf hlf hs ?_;rw[hc];exact h

theorem XQ {Q:Exit→St→Prop}{a:RC}{slot site l S g sz o n:Nat}{q:Bool}{fr:Nat→Ob}{xs:List AV}(h1:f slot=.vec 0 site g o n q)(h2:fr site=.vec g sz xs)(hl:l<m.length)(hS:S<2000)(hr:Qu (Qf m l S)=true)
  (h:QH P a ⟨QK f slot (.vec (l+1) S (QC m l S) o n q),QK fr site (.vec (g+1) sz []) :: Am.put m l S (.vec (QC m l S) sz xs),ds⟩ Q):QH P (.gho (.give slot site (l+1) S) a) ⟨f,fr :: m,ds⟩ Q:=by
 refine⟨_,?_,h⟩;have e:Qf (fr :: m) 0 site=.vec g sz xs:=h2;have e1:Qu (Qf (fr :: m) (l+1) S)=true:=hr;have e2:QC (fr :: m) (l+1) S=QC m l S:=rfl;simp only[ZH,h1,e,e1,e2];rw[show Nat.beq site site=true from Nat.beq_refl site,show Nat.beq g g=true from Nat.beq_refl g,show Nat.blt (l+1) (fr :: m).length=true from Nat.ble_eq_true_of_le (by simp;omega),show Nat.blt S 2000=true from Nat.ble_eq_true_of_le hS];rfl

theorem F0 {Q:Exit→St→Prop}{a:RC}{slot:Nat}(h1:f slot=.nils)(h:QH P a ⟨QK f slot (.list []),m,ds⟩ Q):QH P (.gho (.lst slot) a) ⟨f,m,ds⟩ Q:=by
 refine⟨_,?_,h⟩;simp only[ZH,h1]

theorem Xf {K:St→Prop}{k:Nat}{r:RA}{args:List RA}{fa fb ys:List AV}{v:AV}{m':Qo}(hr:r.ev f=.fn (.func k) fa fb)(hk:Qg P k ys m fun x m1=>x=v∧m1=m')(hy:fa++args.map (RA.ev f)++fb=ys)(h:QD P Qe ⟨QK f d v,m',ds⟩ K) :
  QD P (⟨some d,.callF r args,none⟩ :: Qe) ⟨f,m,ds⟩ K:=by
 refine⟨k,fa,fb,v,m',hr,?_,h⟩;show Qg P k (fa++args.map (RA.ev f)++fb) m fun x m1=>x=v∧m1=m'
 rw[hy];exact hk

theorem Ka {K:St→Prop}{k:Nat}{r:RA}{args:List RA}{fa fb ys:List AV}{v:AV}(hr:r.ev f=.fn (.func k) fa fb)(hk:Qk P k ys v)(hy:AV.stillL false m (fa++args.map (RA.ev f)++fb)=some ys)(h1:AV.rfL ys=true)(h2:v.rf=true)
  (h3:AV.rfL (fa++args.map (RA.ev f)++fb)=true∨v.nl=true) (h:QD P Qe ⟨QK f d v,m,ds⟩ K):QD P (⟨some d,.call r args,none⟩ :: Qe) ⟨f,m,ds⟩ K :=
 ⟨k,fa,fb,ys,v,hr,hy,h1,hk,h2,h3,h⟩

end Go.Proofs.YtipjfckmopekaaaGreatDoor.Am

namespace Go.Proofs.YtipjfckmopekaaaGreatDoor.Am
open Go

abbrev F1:=FuncId→Option (RC×List RR×Nat)

def Gm (P:Program)(T:F1):Prop :=
 ∀k c rs N, T k=some (c, rs, N)→∃fn body, P.funcs[k]? = some fn∧fn.body=some body∧(fn.name == "runtime.NumGoroutine")=false∧fn.ntmps=N∧X7 P N c body=true∧JC P fn.results.toList rs=true

abbrev K1:=FuncId→List AV→Qo→Option (AV×Qo)

def Gn:Ob→Ob→Bool
 |.cells [.vec l s g o n q],.cells [.vec l' s' g' o' n' q']=>Nat.beq l l'&&Nat.beq s s'&&Nat.beq g g'&&Nat.beq o o'&&Nat.beq n n'&&q==q'
 |_,_=>false
theorem Mt:∀ {a b:Ob},Gn a b=true→a=b:=by
 intro a b h;unfold Gn at h;split at h
 ·simp only[QXQ,QXy]at h;obtain⟨⟨⟨⟨⟨h1,h2⟩,h3⟩,h4⟩,h5⟩,h6⟩:=h;rw[QXo h1,QXo h2,QXo h3,QXo h4,QXo h5,h6]
 ·cases h

def XD (call:K1)(d:Option Nat)(op:RO)(st:St):Option St :=
 match op with
 |.val vo=>match Qt st.f st.m vo with
  |some x=>some { st with f:=Qn st.f d x }
  |none=>none
 |.allocN s z=>bif XL st.m s then some { st with m:=Am.put st.m 0 s (.cells z),f:=Qn st.f d (.ptr 0 s 0) } else none
 |.boxN s r=>bif XL st.m s&&(r.ev st.f).cells.all AV.leaf then some { st with m:=Am.put st.m 0 s (.cells (r.ev st.f).cells),f:=Qn st.f d (.ptr 0 s 0) } else none
 |.store n p r=>bif Nat.beq (r.ev st.f).cells.length n&&(r.ev st.f).cells.all AV.leaf then match QV st.m (p.ev st.f) (r.ev st.f).cells with
   |some m'=>some { st with m:=m',f:=Qn st.f d (.tup []) }
   |none=>none
  else none
 |.storev l s n p r=>match p.ev st.f with
  |.ptr l' s' _=>bif Nat.beq l' l&&Nat.beq s' s&&Nat.beq (r.ev st.f).cells.length n&&(r.ev st.f).cells.all AV.leaf then match QV st.m (p.ev st.f) (r.ev st.f).cells with
    |some m'=>some { st with m:=m',f:=Qn st.f d (.tup []) }
    |none=>none
   else none
  |_=>none
 |.app sz bytes el s r=>match s.ev st.f with
  |.vec l site g 0 n false=>match Qf st.m l site with
   |.vec g' sz' xs=>match Q7 st.m (r.ev st.f)with
    |some ys=>bif Nat.beq g' g&&Nat.beq sz' sz&&XP site el&&Nat.ble n xs.length&&ys.all (fun e=>e.cells.length==sz)&&Nat.ble (n+ys.length) maxLen&&Nat.ble ((n+ys.length)*bytes) 140737488355328 then
      some { st with m:=Am.put st.m l site (.vec (g+1) sz (xs.take n++ys)),f:=Qn st.f d (.vec l site (g+1) 0 (n+ys.length) false) }
     else none
    |none=>none
   |_=>none
  |_=>none
 |.call f args=>match f.ev st.f with
  |.fn (.func k) fa fb=>match AV.stillL false st.m (fa++args.map (RA.ev st.f)++fb)with
   |some ys=>bif AV.rfL ys then match call k ys []with
     |some (v,_)=>bif v.rf&&(AV.rfL (fa++args.map (RA.ev st.f)++fb)||v.nl)then some { st with f:=Qn st.f d v } else none
     |none=>none
    else none
   |none=>none
  |_=>none
 |.callF f args=>match f.ev st.f with
  |.fn (.func k) fa fb=>match call k (fa++args.map (RA.ev st.f)++fb) st.m with
   |some (v,m')=>some { st with m:=m',f:=Qn st.f d v }
   |none=>none
  |_=>none
 |.bsl sz len z ps=>match fill st.f ps (XJ z sz len)with
  |some y=>bif AV.rfL y&&y.all AV.leaf then some { st with f:=Qn st.f d (.list (XS sz len (y.map nn0))) } else none
  |none=>none
 |.bslv site sz len z ps=>match fill st.f ps (XJ z sz len)with
  |some y=>bif AV.rfL y&&y.all AV.leaf&&Qu (Qf st.m 0 site)then some { st with m:=Am.put st.m 0 site (.vec (QC st.m 0 site) sz (XS sz len (y.map nn0))),f:=Qn st.f d (.vec 0 site (QC st.m 0 site) 0 len false) } else none
  |none=>none
 |.bsl0 site sz=>bif Qu (Qf st.m 0 site)then some { st with m:=Am.put st.m 0 site (.vec (QC st.m 0 site) sz []),f:=Qn st.f d (.vec 0 site (QC st.m 0 site) 0 0 false) } else none
 |.isnil neg r=>match r.ev st.f with
  |.nils=>some { st with f:=Qn st.f d (.bool (!neg)) }
  |.list l=>match QO l with
   |_ :: _=>some { st with f:=Qn st.f d (.bool neg) }
   | []=>none
  |_=>none
 |.callK l s f args=>match f.ev st.f with
  |.fn (.func k) fa fb=>match call k (fa++args.map (RA.ev st.f)++fb) st.m with
   |some (v,m')=>bif Gn (Qf m' l s) (Qf st.m l s)then some { st with m:=m',f:=Qn st.f d v } else none
   |none=>none
  |_=>none
 |.xb cnt _ s c=>match s.ev st.f,c.ev st.f with
  |.str t,.int .u8 b=>some { st with f:=Qn st.f d (.int .i64 (H7 cnt t b)) }
  |_,_=>none
 |.callR f args=>match f.ev st.f with
  |.fn (.func k) fa fb=>match AV.stillL false st.m (fa++args.map (RA.ev st.f)++fb)with
   |some ys=>bif AV.rfL ys then match call k ys []with
     |some (v,_)=>bif v.rf&&(AV.rfL (fa++args.map (RA.ev st.f)++fb)||v.nl)then some { st with f:=Qn st.f d v } else none
     |none=>none
    else none
   |none=>none
  |_=>none
 |.rngs s r=>match r.ev st.f with
  |.str t=>bif XL st.m s then some { st with m:=Am.put st.m 0 s (.iter (.str t) 0),f:=Qn st.f d (.ptr 0 s 0) } else none
  |_=>none
 |.nxts r=>match r.ev st.f with
  |.ptr l s 0=>match Qf st.m l s with
   |.iter (.str t) p=>bif Nat.blt p t.length then some { st with m:=Am.put st.m l s (.iter (.str t) (p+(Xp t p).2)),f:=Qn st.f d (.tup [.bool true,.int .i64 (p:Nat),.int .i32 ((Xp t p).1:Nat)]) } else some { st with f:=Qn st.f d (.tup [.bool false]) }
   |_=>none
  |_=>none
 |.mkm s=>bif XL st.m s then some { st with m:=Am.put st.m 0 s (.iter (.mp [] []) 0),f:=Qn st.f d (.mptr 0 s) } else none
 |.mput x i v=>match x.ev st.f with
  |.mptr l s=>match Qf st.m l s with
   |.iter (.mp ks vs) p=>match i.ev st.f with
    |.str k=>bif (v.ev st.f).gr&&AV.grL vs&&Nat.beq ks.length vs.length then some { st with m:=Am.put st.m l s (.iter (.mp (X4 k (v.ev st.f) ks vs).1 (X4 k (v.ev st.f) ks vs).2) p),f:=Qn st.f d (.tup []) } else none
    |_=>none
   |_=>none
  |_=>none
 |.appS el s r=>match s.ev st.f,r.ev st.f with
  |.vec l site g 0 n false,.str t=>match Qf st.m l site with
   |.vec g' 1 xs=>bif Nat.beq g' g&&XP site el&&Nat.ble n xs.length&&Nat.ble (n+t.length) 140737488355328 then
     some { st with m:=Am.put st.m l site (.vec (g+1) 1 (xs.take n++QA t)),f:=Qn st.f d (.vec l site (g+1) 0 (n+t.length) false) }
    else none
   |_=>none
  |_,_=>none
 |.mk site _ sz bytes z l c=>match l.ev st.f,c.ev st.f with
  |.int _ (.ofNat n),.int _ (.ofNat k)=>bif Nat.ble n k&&Nat.ble k 9223372036854775807&&Nat.ble (bytes*k) 281474976710656&&Qu (Qf st.m 0 site)then
    some { st with m:=Am.put st.m 0 site (.vec (QC st.m 0 site) sz (List.replicate n (JM sz z))),f:=Qn st.f d (.vec 0 site (QC st.m 0 site) 0 n false) }
   else none
  |_,_=>none
 |.usd r=>match r.ev st.f with
  |.vec l s g 0 n false=>match Qf st.m l s with
   |.vec g' _ _=>bif Nat.beq g' g&&Nat.ble 2000 s then some { st with f:=Qn st.f d (if n=0 then .anyp else .vptr l s g 0 0) } else none
   |_=>none
  |_=>none
 |.ustr el p r=>match p.ev st.f,r.ev st.f with
  |.anyp,.int .i64 (.ofNat 0)=>some { st with f:=Qn st.f d (.str []) }
  |.vptr l s g 0 0,.int .i64 (.ofNat (n+1))=>match Qf st.m l s with
   |.vec g' 1 xs=>match bytesOf (xs.take (n+1))with
    |some t=>bif Nat.beq s (el+2000)&&Nat.beq g' g&&Nat.ble (n+1) xs.length&&isBytes (xs.take (n+1)) t then some { st with m:=Am.put st.m l (el+2000) (.vec (g+1) 1 []),f:=Qn st.f d (.str t) } else none
    |none=>none
   |_=>none
  |_,_=>none
where
  isBytes:List AV→List UInt8→Bool
  | [],[]=>true
  |.int .u8 (.ofNat n) :: l,b :: t=>Nat.beq n b.toNat&&isBytes l t
  |_,_=>false

def F2 (call:K1)(it:Item)(st:St):Option St :=
 match it.g with
 |none=>XD call it.dst it.op st
 |some (j,want)=>match st.f j with
  |.bool b=>bif b==want then XD call it.dst it.op st else some { st with f:=Qn st.f it.dst (.tup []) }
  |.tup []=>some { st with f:=Qn st.f it.dst (.tup []) }
  |_=>none

def Gp (call:K1):List Item→St→Option St
 | [],st=>some st
 |it :: Qe,st=>match F2 call it st with
  |some st'=>Gp call Qe st'
  |none=>none

def Gq (rs:List RR)(n:Nat)(r:Option (Exit×St)):Option (AV×Qo) :=
 match r with
 |some (.normal,st)=>fin st
 |some (.ret,st)=>fin st
 |_=>none
where
 fin (st:St):Option (AV×Qo):=match st.ds with
  | []=>match Kp st rs with
   |some x=>match Wc st.m x with
    |some y=>match st.m with
     |_ :: m=>bif Nat.beq m.length n then some (y,m)else none
     | []=>none
    |none=>none
   |none=>none
  |_=>none

def Yi (nat:K1)(T:F1)(body:RC→St→Option (Exit×St)):K1:=fun k args m=>
 match nat k args m with
 |some r=>some r
 |none=>match T k with
  |some (c,rs,N)=>bif Nat.ble args.length N then Gq rs m.length (body c (St.enter args m))else none
  |none=>none

def Jd (nat:K1)(T:F1):Nat→RC→St→Option (Exit×St)
 |0,_,_=>none
 |n+1,c,st=>match c with
  |.skip=>some (.normal,st)
  |.reg Qe=>match Gp (Yi nat T (Jd nat T n)) Qe st with
   |some st'=>some (.normal,st')
   |none=>none
  |.draw Qe=>match Gp (Yi nat T (Jd nat T n)) Qe st with
   |some st'=>some (.normal,st')
   |none=>none
  |.seq a b=>match Jd nat T n a st with
   |some (.normal,st')=>Jd nat T n b st'
   |r=>r
  |.cond c a b=>match c.ev st.f with
   |.bool t=>bif t then Jd nat T n a st else Jd nat T n b st
   |_=>none
  |.block id a=>match Jd nat T n a st with
   |some (.exit i,st')=>if i=id then some (.normal,st')else some (.exit i,st')
   |r=>r
  |.loop a=>match Jd nat T n a st with
   |some (.normal,st')=>Jd nat T n (.loop a) st'
   |r=>r
  |.exit id=>some (.exit id,st)
  |.scope a=>match Jd nat T n a st with
   |some (.goto _,_)=>none
   |r=>r
  |.lab=>some (.normal,st)
  |.ret=>some (.ret,st)
  |.gho g a=>match ZH g st with
   |some st'=>Jd nat T n a st'
   |none=>none
  |.no=>none

section
variable {P:Program}{T:F1}

def Wf (P:Program)(call:K1):Prop:=∀k args m v m',call k args m=some (v,m')→Qg P k args m fun x m1=>x=v∧m1=m'

theorem Gr:∀ {l:List AV} {t:List UInt8},XD.isBytes l t=true→l=QA t
 | [],[],_=>rfl
 | [],_ :: _,h=>by simp[XD.isBytes]at h
 |.int .u8 (.ofNat n) :: l,b :: t,h=>by
  simp only[XD.isBytes,QXQ]at h;rw[Gr h.2,QXo h.1];rfl
 |x :: l,[],h=>by
  unfold XD.isBytes at h;split at h<;>simp_all

theorem NP {call:K1}(hc:Wf P call){d:Option Nat}{op:RO}{st st':St}(h:XD call d op st=some st'){K:St→Prop}(hK:K st'):Ua P d op st K:=by
 cases op with
 |val vo=>
  simp only[XD]at h;split at h
  ·rename_i x hx;cases h;exact⟨x,hx,hK⟩
  ·cases h
 |allocN s z=>
  simp only[XD]at h;cases h1:XL st.m s<;>rw[h1]at h<;>simp only[cond_true,cond_false,reduceCtorEq,QXR]at h;subst h;exact⟨h1,hK⟩
 |boxN s r=>
  simp only[XD]at h;cases h1:(XL st.m s&&(r.ev st.f).cells.all AV.leaf)<;>rw[h1]at h<;>simp only[cond_true,cond_false,reduceCtorEq,QXR]at h;rw[QXQ]at h1;subst h;exact⟨h1.1,h1.2,hK⟩
 |store n p r=>
  simp only[XD]at h;cases h1:(Nat.beq (r.ev st.f).cells.length n&&(r.ev st.f).cells.all AV.leaf)<;>rw[h1]at h<;>simp only[cond_true,cond_false,reduceCtorEq]at h;rw[QXQ]at h1;split at h
  ·rename_i m' hm;cases h;exact⟨QXo h1.1,h1.2,m',hm,hK⟩
  ·cases h
 |storev l s n p r=>
  simp only[XD]at h;split at h
  ·rename_i l' s' o hp;cases h1:(Nat.beq l' l&&Nat.beq s' s&&Nat.beq (r.ev st.f).cells.length n&&(r.ev st.f).cells.all AV.leaf)<;>rw[h1]at h<;>simp only[cond_true,cond_false,reduceCtorEq]at h;simp only[QXQ]at h1;obtain⟨⟨⟨a1,a2⟩,a3⟩,a4⟩:=h1;have e1:=QXo a1;have e2:=QXo a2;subst e1 e2;split at h
   ·rename_i m' hm;cases h;exact⟨⟨o,hp⟩,QXo a3,a4,m',hm,hK⟩
   ·cases h
  ·cases h
 |app sz bytes el s r=>
  simp only[XD]at h;split at h
  ·rename_i l site g n hs;split at h
   ·rename_i g' sz' xs hl;split at h
    ·rename_i ys hy;cases h1:(Nat.beq g' g&&Nat.beq sz' sz&&XP site el&&Nat.ble n xs.length&&ys.all (fun e=>e.cells.length==sz)&&Nat.ble (n+ys.length) maxLen&&Nat.ble ((n+ys.length)*bytes) 140737488355328)<;>rw[h1]at h<;>simp only[cond_true,cond_false,reduceCtorEq,QXR]at h;simp only[QXQ]at h1;obtain⟨⟨⟨⟨⟨⟨a1,a2⟩,a3⟩,a4⟩,a5⟩,a6⟩,a7⟩:=h1;have e1:=QXo a1;have e2:=QXo a2;subst e1 e2 h;exact⟨l,site,_,n,xs,ys,hs,hl,a3,QYU a4,hy,a5,QYU a6,QYU a7,hK⟩
    ·cases h
   ·cases h
  ·cases h
 |call f args=>
  simp only[XD]at h;split at h
  ·rename_i k fa fb hf;split at h
   ·rename_i ys hy;cases h1:AV.rfL ys<;>rw[h1]at h<;>simp only[cond_true,cond_false,reduceCtorEq]at h;split at h
    ·rename_i v m' hv;cases h2:(v.rf&&(AV.rfL (fa++args.map (RA.ev st.f)++fb)||v.nl))<;>rw[h2]at h<;>simp only[cond_true,cond_false,reduceCtorEq,QXR]at h;rw[QXQ,QXw]at h2;subst h;exact⟨k,fa,fb,ys,v,hf,hy,h1,(hc _ _ _ _ _ hv).mono (fun _ _ e=>e.1),h2.1,h2.2,hK⟩
    ·cases h
   ·cases h
  ·cases h
 |callF f args=>
  simp only[XD]at h;split at h
  ·rename_i k fa fb hf;split at h
   ·rename_i v m' hv;cases h;exact⟨k,fa,fb,v,m',hf,hc _ _ _ _ _ hv,hK⟩
   ·cases h
  ·cases h
 |bsl sz len z ps=>
  simp only[XD]at h;split at h
  ·rename_i y hy;cases h1:(AV.rfL y&&y.all AV.leaf)<;>rw[h1]at h<;>simp only[cond_true,cond_false,reduceCtorEq,QXR]at h;rw[QXQ]at h1;subst h;exact⟨y,hy,h1.1,h1.2,hK⟩
  ·cases h
 |bslv site sz len z ps=>
  simp only[XD]at h;split at h
  ·rename_i y hy;cases h1:(AV.rfL y&&y.all AV.leaf&&Qu (Qf st.m 0 site))<;>rw[h1]at h<;>simp only[cond_true,cond_false,reduceCtorEq,QXR]at h;simp only[QXQ]at h1;subst h;exact⟨y,hy,h1.1.1,h1.1.2,h1.2,hK⟩
  ·cases h
 |bsl0 site sz=>
  simp only[XD]at h;cases h1:Qu (Qf st.m 0 site)<;>rw[h1]at h<;>simp only[cond_true,cond_false,reduceCtorEq,QXR]at h;subst h;exact⟨h1,hK⟩
 |isnil neg r=>
  simp only[XD]at h;split at h
  ·rename_i hr;cases h;exact⟨[],by rw[hr];rfl,fun e=>absurd hr e,fun _=>hK⟩
  ·rename_i l hr;split at h
   ·rename_i z zs hf;cases h;exact⟨l,by rw[hr];rfl,fun _=>hK,fun e=>by
     rcases e with e|e
     ·rw[hr]at e;cases e
     ·rw[hf]at e;cases e⟩
   ·cases h
  ·cases h
 |callK l s f args=>
  simp only[XD]at h;split at h
  ·rename_i k fa fb hf;split at h
   ·rename_i v m' hv;cases he:Gn (Qf m' l s) (Qf st.m l s)<;>rw[he]at h<;>simp only[cond_true,cond_false,reduceCtorEq,QXR]at h;subst h;exact⟨k,fa,fb,v,m',hf,hc _ _ _ _ _ hv,Mt he,hK⟩
   ·cases h
  ·cases h
 |xb cnt k s c=>
  simp only[XD]at h;split at h
  ·rename_i t b hs hb;cases h;exact⟨t,b,hs,hb,hK⟩
  ·cases h
 |callR f args=>
  simp only[XD]at h;split at h
  ·rename_i k fa fb hf;split at h
   ·rename_i ys hy;cases h1:AV.rfL ys<;>rw[h1]at h<;>simp only[cond_true,cond_false,reduceCtorEq]at h;split at h
    ·rename_i v m' hv;cases h2:(v.rf&&(AV.rfL (fa++args.map (RA.ev st.f)++fb)||v.nl))<;>rw[h2]at h<;>simp only[cond_true,cond_false,reduceCtorEq,QXR]at h;rw[QXQ,QXw]at h2;subst h;exact⟨k,fa,fb,ys,(· = v),hf,hy,h1,(hc _ _ _ _ _ hv).mono (fun _ _ e=>e.1),fun x hx=>by subst hx;exact h2,fun x hx=>by subst hx;exact hK⟩
    ·cases h
   ·cases h
  ·cases h
 |rngs s r=>
  simp only[XD]at h;split at h
  ·rename_i t ht;cases h1:XL st.m s<;>rw[h1]at h<;>simp only[cond_true,cond_false,reduceCtorEq,QXR]at h;subst h;exact⟨t,ht,h1,hK⟩
  ·cases h
 |mkm s=>
  simp only[XD]at h;cases h1:XL st.m s<;>rw[h1]at h<;>simp only[cond_true,cond_false,reduceCtorEq,QXR]at h;subst h;exact⟨h1,hK⟩
 |mput x i v=>
  simp only[XD]at h;split at h
  ·rename_i l s hx;split at h
   ·rename_i ks vs p hl;split at h
    ·rename_i k hi;cases h1:((v.ev st.f).gr&&AV.grL vs&&Nat.beq ks.length vs.length)<;>rw[h1]at h<;>simp only[cond_true,cond_false,reduceCtorEq,QXR]at h;subst h;simp only[QXQ]at h1;exact⟨l,s,ks,vs,p,k,hx,hl,hi,h1.1.1,h1.1.2,QXo h1.2,hK⟩
    ·cases h
   ·cases h
  ·cases h
 |nxts r=>
  simp only[XD]at h;split at h
  ·rename_i l s hr;split at h
   ·rename_i t p hl;refine⟨l,s,t,p,hr,hl,fun e=>?_,fun e=>?_⟩
    ·have hb:Nat.blt p t.length=true:=by simp[Nat.blt_eq,e]
     rw[hb]at h;cases h;exact hK
    ·have hb:Nat.blt p t.length=false:=by
      cases hb:Nat.blt p t.length with
      |false=>rfl
      |true=>rw[Nat.blt_eq]at hb;omega
     rw[hb]at h;cases h;exact hK
   ·cases h
  ·cases h
 |appS el s r=>
  simp only[XD]at h;split at h
  ·rename_i l site g n t hs hr;split at h
   ·rename_i g' xs hl;cases h1:(Nat.beq g' g&&XP site el&&Nat.ble n xs.length&&Nat.ble (n+t.length) 140737488355328)<;>rw[h1]at h<;>simp only[cond_true,cond_false,reduceCtorEq,QXR]at h;simp only[QXQ]at h1;obtain⟨⟨⟨a1,a2⟩,a3⟩,a4⟩:=h1;have e1:=QXo a1;subst e1 h;exact⟨l,site,_,n,xs,t,hs,hl,a2,QYU a3,hr,QYU a4,hK⟩
   ·cases h
  ·cases h
 |mk site el sz bytes z l c=>
  simp only[XD]at h;split at h
  ·rename_i kl n kc k hl hcc;cases h1:(Nat.ble n k&&Nat.ble k 9223372036854775807&&Nat.ble (bytes*k) 281474976710656&&Qu (Qf st.m 0 site))<;>rw[h1]at h<;>simp only[cond_true,cond_false,reduceCtorEq,QXR]at h;simp only[QXQ]at h1;obtain⟨⟨⟨a1,a2⟩,a3⟩,a4⟩:=h1;subst h;exact⟨kl,kc,n,k,hl,hcc,QYU a1,QYU a2,QYU a3,a4,hK⟩
  ·cases h
 |usd r=>
  simp only[XD]at h;split at h
  ·rename_i l s g n hr;split at h
   ·rename_i g' sz xs hl;cases h1:(Nat.beq g' g&&Nat.ble 2000 s)<;>rw[h1]at h<;>simp only[cond_true,cond_false,reduceCtorEq,QXR]at h;simp only[QXQ]at h1;have e1:=QXo h1.1;subst e1 h;exact⟨l,s,_,n,sz,xs,QYU h1.2,hr,hl,hK⟩
   ·cases h
  ·cases h
 |ustr el p r=>
  simp only[XD]at h;split at h
  ·rename_i hp hr;cases h;exact .inl ⟨hp,hr,hK⟩
  ·rename_i l s g n hp hr;split at h
   ·rename_i g' xs hl;split at h
    ·rename_i t ht;cases h1:(Nat.beq s (el+2000)&&Nat.beq g' g&&Nat.ble (n+1) xs.length&&XD.isBytes (xs.take (n+1)) t)<;>rw[h1]at h<;>simp only[cond_true,cond_false,reduceCtorEq,QXR]at h;simp only[QXQ]at h1;obtain⟨⟨⟨a1,a2⟩,a3⟩,a4⟩:=h1;have e1:=QXo a1;have e2:=QXo a2;subst e1 e2 h;exact .inr ⟨l,_,n+1,xs,t,hp,hr,hl,QYU a3,Nat.succ_ne_zero n,Gr a4,hK⟩
    ·cases h
   ·cases h
  ·cases h

theorem Mu {call:K1}(hc:Wf P call){it:Item}{st st':St}(h:F2 call it st=some st'){K:St→Prop}(hK:K st'):XX P it st K:=by
 obtain⟨d,op,g⟩:=it;cases g with
 |none=>exact NP (d:=d) hc h hK
 |some p=>
  obtain⟨j,want⟩:=p;simp only[F2]at h;simp only[XX];split at h
  ·rename_i b hj;simp only[hj];cases hb:(b==want)with
   |true=>
    rw[hb]at h;have e:b=want:=by simpa using hb
    exact⟨fun _=>NP hc h hK,fun e'=>by rw[e]at e';cases want<;>cases e'⟩
   |false=>
    rw[hb]at h;simp only[cond_false,QXR]at h;subst h;exact⟨fun e=>by rw[e]at hb;simp at hb,fun _=>hK⟩
  ·rename_i hj;cases h;simp only[hj];exact⟨trivial,hK⟩
  ·cases h

theorem HA {call:K1}(hc:Wf P call):∀ {Qe:List Item} {st st':St},Gp call Qe st=some st'→∀ {K:St→Prop},K st'→QD P Qe st K
 | [],_,_,h,_,hK=>by cases h;exact hK
 |it :: Qe,st,st',h,K,hK=>by
  simp only[Gp]at h;split at h
  ·rename_i st1 h1;exact Mu hc h1 (HA hc h hK)
  ·cases h

theorem Rq {rs:List RR}{n:Nat}{r:Option (Exit×St)}{v:AV}{m':Qo}(h:Gq rs n r=some (v,m')):∃e st,r=some (e,st)∧Zl rs n (fun x m1=>x=v∧m1=m') e st:=by
 have fin:∀ {e:Exit} {st:St},(e=.normal∨e=.ret)→Gq.fin rs n st=some (v,m')→Zl rs n (fun x m1=>x=v∧m1=m') e st:=by
  intro e st he h;unfold Gq.fin at h;split at h
  ·rename_i hds;split at h
   ·rename_i x hx;split at h
    ·rename_i y hy;split at h
     ·rename_i fr m hm;cases hb:Nat.beq m.length n with
      |false=>rw[hb]at h;cases h
      |true=>
       rw[hb]at h;simp only[cond_true,QXR,Prod.mk.injEq]at h;exact⟨he,hds,x,y,fr,m,hx,hy,hm,QXo hb,h.1,h.2⟩
     ·cases h
    ·cases h
   ·cases h
  ·cases h
 unfold Gq at h;split at h
 ·exact⟨_,_,rfl,fin (.inl rfl) h⟩
 ·exact⟨_,_,rfl,fin (.inr rfl) h⟩
 ·cases h

theorem WU {nat:K1}(hN:Wf P nat)(hT:Gm P T){body:RC→St→Option (Exit×St)}(hb:∀c st e st',body c st=some (e,st')→∀Q:Exit→St→Prop,Q e st'→QH P c st Q):Wf P (Yi nat T body):=by
 intro k args m v m' h;unfold Yi at h;split at h
 ·rename_i r hr;cases h;exact hN _ _ _ _ _ hr
 split at h
 ·rename_i c rs N hk;cases hN:Nat.ble args.length N with
  |false=>rw[hN]at h;cases h
  |true=>
   rw[hN]at h;simp only[cond_true]at h;obtain⟨e,st,h1,h2⟩:=Rq h;obtain⟨fn,cd,a1,a2,a3,a4,a5,a6⟩:=hT k c rs N hk;exact Ub a1 a2 a3 a4 a5 a6 (QYU hN) (hb _ _ _ _ h1 _ h2)
 ·cases h

theorem Mv {nat:K1}(hN:Wf P nat)(hT:Gm P T):∀(n:Nat) (c:RC) (st:St) (e:Exit) (st':St),Jd nat T n c st=some (e,st')→∀Q:Exit→St→Prop,Q e st'→QH P c st Q:=by
 intro n
 induction n using Nat.strongRecOn with
 |_ n ihs=>
 cases n with
 |zero=>intro c st e st' h;cases h
 |succ n=>
  intro c st e st' h Q hQ;have ih:=ihs n (Nat.lt_succ_self n);cases c with
  |skip=>cases h;exact hQ
  |reg Qe=>
   simp only[Jd]at h;split at h
   ·rename_i st1 h1;cases h;exact HA (WU hN hT ih) h1 hQ
   ·cases h
  |draw Qe=>
   simp only[Jd]at h;split at h
   ·rename_i st1 h1;cases h;exact HA (WU hN hT ih) h1 hQ
   ·cases h
  |seq a b=>
   simp only[Jd]at h;split at h
   ·rename_i st1 h1;exact ih _ _ _ _ h1 _ (ih _ _ _ _ h Q hQ)
   ·rename_i h1;refine ih _ _ _ _ h _ ?_;cases e with
    |normal=>exact absurd h (h1 st')
    |_=>exact hQ
  |cond c a b=>
   simp only[Jd]at h;split at h
   ·rename_i t ht;cases t with
    |true=>exact⟨true,ht,fun _=>ih _ _ _ _ h Q hQ,(fun e=>by cases e)⟩
    |false=>exact⟨false,ht,(fun e=>by cases e),fun _=>ih _ _ _ _ h Q hQ⟩
   ·cases h
  |block id a=>
   simp only[Jd]at h;split at h
   ·rename_i i st1 h1;refine ih _ _ _ _ h1 _ ?_;show if i=id then Q .normal st1 else Q (.exit i) st1
    split at h
    ·rename_i hi;cases h;rw[QXV hi];exact hQ
    ·rename_i hi;cases h;rw[QXG hi];exact hQ
   ·rename_i h1;refine ih _ _ _ _ h _ ?_;cases e with
    |exit i=>exact absurd h (h1 i st')
    |_=>exact hQ
  |loop a=>
   refine⟨fun k s=>k≤n∧Jd nat T (k+1) (.loop a) s=some (e,st'),n,⟨QXq _,h⟩,fun k s hh=>?_⟩;obtain⟨hk,hs⟩:=hh;simp only[Jd]at hs;split at hs
   ·rename_i st1 h1;refine ihs k (by omega) _ _ _ _ h1 _ ?_;show ∃j,j<k∧j≤n∧Jd nat T (j+1) (.loop a) st1=some (e,st');cases k with
    |zero=>cases h1
    |succ j=>exact⟨j,Nat.lt_succ_self j,by omega,hs⟩
   ·rename_i h1;refine ihs k (by omega) _ _ _ _ hs _ ?_;cases e with
    |normal=>exact absurd hs (h1 st')
    |_=>exact hQ
  |exit id=>cases h;exact hQ
  |scope a=>
   simp only[Jd]at h;split at h
   ·cases h
   ·rename_i h1;refine ih _ _ _ _ h _ ?_;cases e with
    |goto i=>exact absurd h (h1 i st')
    |_=>exact hQ
  |lab=>cases h;exact hQ
  |ret=>cases h;exact hQ
  |gho g a=>
   simp only[Jd]at h;split at h
   ·rename_i st1 h1;exact⟨st1,h1,ih _ _ _ _ h Q hQ⟩
   ·cases h
  |no=>cases h

def evT (nat:K1)(T:F1)(n:Nat)(k:FuncId)(args:List AV):Bool :=
 match Yi nat T (Jd nat T n) k args []with
 |some (.bool true,_)=>true
 |_=>false

theorem VZ {nat:K1}(hN:Wf P nat)(hT:Gm P T){n:Nat}{k:FuncId}{args:List AV}(h:evT nat T n k args=true):Qk P k args (.bool true):=by
 unfold evT at h;split at h
 ·rename_i m' h1;exact(WU hN hT (Mv hN hT n) _ _ _ _ _ h1).mono fun _ _ e=>e.1
 ·cases h

end

set_option linter.defProp false in
def Qa:=(QY2 (QY2 (QY2 (QY2 (QY2 (QY2 (QY2 (QY2 @Am.YC @Am.YB) (QY2 @Am.C6 @Am.J6)) (QY2 (QY2 @Am.ZM @Am.C9) (QY2 @Am.Ma (QY2 @Am.NK @Am.NL)))) (QY2 (QY2 (QY2 @Am.Yh @Am.Sx) (QY2 @Am.Sy @Am.C5)) (QY2 (QY2 @Am.Mb @Am.Gf) (QY2 @Am.Mc (QY2 @Am.Md @Am.Me))))) (QY2 (QY2 (QY2 (QY2 @Am.Mf @Am.Mg) (QY2 @Am.Mh @Am.Mi)) (QY2 (QY2 @Am.KM @Am.C8) (QY2 @Am.Sz (QY2 @Am.DV @Am.Un)))) (QY2 (QY2 (QY2 @Am.e_f @Am.J8) (QY2 @Am.ZN @Am.J7)) (QY2 (QY2 @Am.J9 @Am.Hh) (QY2 @Am.Ku (QY2 @Am.FS @Am.DT)))))) (QY2 (QY2 (QY2 (QY2 (QY2 @Am.WT @Am.FT) (QY2 @Am.Gg @Am.Gi)) (QY2 (QY2 @Am.DU @Am.YD) (QY2 @Am.Kt (QY2 @Am.FU @Am.FV)))) (QY2 (QY2 (QY2 @Am.Jk @Am.Qt.eq_1) (QY2 @Am.Qt.eq_2 @Am.Qt.eq_3)) (QY2 (QY2 @Am.Qt.eq_4 @Am.Qt.eq_5) (QY2 @Am.Qt.eq_6 (QY2 @Am.Qt.eq_7 @Am.Qt.eq_8))))) (QY2 (QY2 (QY2 (QY2 @Am.Qt.eq_9 @Am.Qt.eq_10) (QY2 @Am.Qt.eq_11 @Am.Qt.eq_12)) (QY2 (QY2 @Am.Qt.eq_13 @Am.Qt.eq_14) (QY2 @Am.Qt.eq_15 (QY2 @Am.Qt.eq_16 @Am.Qt.eq_17)))) (QY2 (QY2 (QY2 @Am.Qt.eq_18 @Am.Qt.eq_19) (QY2 @Am.Qt.eq_20 @Am.Qt.eq_21)) (QY2 (QY2 @Am.Qt.eq_22 @Am.Qt.eq_23) (QY2 @Am.Qt.eq_24 (QY2 @Am.Qt.eq_25 @Am.Qt.eq_26))))))) (QY2 (QY2 (QY2 (QY2 (QY2 (QY2 @Am.Qt.eq_27 @Am.Qt.eq_28) (QY2 @Am.Qt.eq_29 @Am.Qt.eq_30)) (QY2 (QY2 @Am.Qt.eq_31 @Am.Qt.eq_32) (QY2 @Am.Qt.eq_1 (QY2 @Am.Qt.eq_1 @Am.Qt.eq_1)))) (QY2 (QY2 (QY2 @Am.QT.eq_1 @Am.QT.eq_2) (QY2 @Am.QT.eq_3 @Am.QT.eq_4)) (QY2 (QY2 @Am.QT.eq_5 @Am.QT.eq_6) (QY2 @Am.QT.eq_7 (QY2 @Am.QT.eq_8 @Am.QT.eq_9))))) (QY2 (QY2 (QY2 (QY2 @Am.QT.eq_10 @Am.QT.eq_11) (QY2 @Am.QT.eq_12 @Am.QT.eq_13)) (QY2 (QY2 @Am.QT.eq_14 @Am.QT.eq_15) (QY2 @Am.QT.eq_16 (QY2 @Am.QT.eq_17 @Am.Q0.eq_1)))) (QY2 (QY2 (QY2 @Am.Q0.eq_2 @Am.Q0.eq_3) (QY2 @Am.Q0.eq_4 @Am.Q0.eq_5)) (QY2 (QY2 @Am.Q0.eq_6 @Am.Q0.eq_7) (QY2 @Am.Q0.eq_8 (QY2 @Am.Q0.eq_9 @Am.Q0.eq_10)))))) (QY2 (QY2 (QY2 (QY2 (QY2 @Am.Q0.eq_11 @Am.Q0.eq_12) (QY2 @Am.Q0.eq_13 @Am.Q0.eq_14)) (QY2 (QY2 @Am.Q0.eq_15 @Am.Q0.eq_16) (QY2 @Am.Ue.eq_1 (QY2 @Am.Ue.eq_2 @Am.Ue.eq_3)))) (QY2 (QY2 (QY2 @Am.Ue.eq_4 @cond_true.{0}) (QY2 @cond_true.{1} @cond_false.{0})) (QY2 (QY2 @cond_false.{1} @QYj) (QY2 @and_true (QY2 @QYu.{0} @QYy.{0}))))) (QY2 (QY2 (QY2 (QY2 @List.getElem?_nil.{0} @QYC.{0}) (QY2 @QY0.{0} @Am.St.enter.eq_1)) (QY2 (QY2 @Am.FB.eq_1 @Am.AV.shL.eq_1) (QY2 @Am.AV.shL.eq_2 (QY2 @Am.AV.sh.eq_1 @Am.AV.sh.eq_2)))) (QY2 (QY2 (QY2 @Am.AV.sh.eq_3 @Am.AV.sh.eq_4) (QY2 @Am.AV.sh.eq_5 @Am.AV.sh.eq_6)) (QY2 (QY2 @Am.AV.sh.eq_7 @Am.AV.sh.eq_8) (QY2 @Am.AV.sh.eq_9 (QY2 @Am.Kp.eq_1 @Am.Kp.eq_2)))))))) (QY2 (QY2 (QY2 (QY2 (QY2 (QY2 (QY2 @Am.RR.ev.eq_1 @Am.RR.ev.eq_2) (QY2 @Am.RR.evL.eq_1 @Am.RR.evL.eq_2)) (QY2 (QY2 @Am.Wc.eq_1 @Am.AV.still.eq_1) (QY2 @Am.AV.still.eq_2 (QY2 @Am.AV.still.eq_3 @Am.AV.still.eq_4)))) (QY2 (QY2 (QY2 @Am.AV.still.eq_5 @Am.AV.still.eq_6) (QY2 @Am.AV.still.eq_7 @Am.AV.still.eq_8)) (QY2 (QY2 @Am.AV.stillL.eq_1 @Am.AV.stillL.eq_2) (QY2 @Am.AV.un.eq_1 (QY2 @Am.AV.un.eq_2 @Am.AV.un.eq_3))))) (QY2 (QY2 (QY2 (QY2 @Am.AV.un.eq_4 @Am.AV.un.eq_5) (QY2 @Am.AV.un.eq_6 @Am.AV.un.eq_7)) (QY2 (QY2 @Am.AV.un.eq_8 @Am.AV.un.eq_9) (QY2 @Am.AV.un.eq_10 (QY2 @Am.AV.un.eq_11 @Am.AV.un.eq_12)))) (QY2 (QY2 (QY2 @Am.AV.un.eq_13 @Am.AV.unL.eq_1) (QY2 @Am.AV.unL.eq_2 @Option.bind_some.{0,0})) (QY2 (QY2 @QYi.{0,0} @if_true.{0}) (QY2 @if_true.{1} (QY2 @if_false.{0} @if_false.{1})))))) (QY2 (QY2 (QY2 (QY2 (QY2 @QXL @Go.IntKind.bits.eq_1) (QY2 @Go.IntKind.bits.eq_2 @Go.IntKind.bits.eq_3)) (QY2 (QY2 @Go.IntKind.bits.eq_4 @Go.IntKind.bits.eq_5) (QY2 @Go.IntKind.bits.eq_6 (QY2 @Go.IntKind.bits.eq_7 @Go.IntKind.bits.eq_8)))) (QY2 (QY2 (QY2 @QYo.{0} @QXH.{0}) (QY2 @QY3 @QYF)) (QY2 (QY2 @forall_const.{1} @not_true_eq_false) (QY2 @not_false_eq_true (QY2 @Am.Dj @QY4))))) (QY2 (QY2 (QY2 (QY2 @QYz @Am.Wr.eq_1) (QY2 @ne_eq.{1} @Nat.one_ne_zero)) (QY2 (QY2 @decide_true @decide_false) (QY2 @Am.AX (QY2 @Am.Ro @Am.Qa9)))) (QY2 (QY2 (QY2 @Am.Rp @Am.Qba) (QY2 @Am.Qa8 @Am.QyJ)) (QY2 (QY2 @Am.XL.eq_1 @Am.AV.unNL.eq_1) (QY2 @Am.AV.unNL.eq_2 (QY2 @Am.AV.unNL_zero @Am.AV.shNL.eq_1))))))) (QY2 (QY2 (QY2 (QY2 (QY2 (QY2 @Am.AV.shNL.eq_2 @Am.AV.shN.eq_1) (QY2 @Am.AV.shN.eq_2 @Am.splice.eq_1)) (QY2 (QY2 @Am.part.eq_1 @Am.part.eq_2) (QY2 @Am.fill.eq_1 (QY2 @Am.fill.eq_2 @Am.AV.leaf.eq_1)))) (QY2 (QY2 (QY2 @Am.AV.leaf.eq_2 @Am.AV.leaf.eq_3) (QY2 @Am.AV.leaf.eq_4 @QYD.{0})) (QY2 (QY2 @QYE.{0} @QXZ.{0}) (QY2 @QYA.{0} (QY2 @List.take_nil.{0} @QX2.{0}))))) (QY2 (QY2 (QY2 (QY2 @QX9.{0} @QYG.{0}) (QY2 @QXP.{0} @QXO.{0})) (QY2 (QY2 @QYv.{0} @Am.Qc.eq_1) (QY2 @and_self (QY2 @Am.Zg.eq_1 @Am.Zg.eq_2)))) (QY2 (QY2 (QY2 @Am.Zg.eq_3 @Am.Zg.eq_4) (QY2 @Am.Zg.eq_5 @Am.Zg.eq_6)) (QY2 (QY2 @Am.Zv.eq_1 @Am.Zv.eq_2) (QY2 @Am.QX.eq_1 (QY2 @Am.QX.eq_2 @Am.QX.eq_3)))))) (QY2 (QY2 (QY2 (QY2 (QY2 @Am.QX.eq_4 @Am.QX.eq_5) (QY2 @Am.QX.eq_6 @Am.QX.eq_7)) (QY2 (QY2 @Am.Ha.eq_1 @Am.Ha.eq_2) (QY2 @Am.Ha.eq_3 (QY2 @Am.HS.eq_1 @Am.HS.eq_2)))) (QY2 (QY2 (QY2 @Am.HS.eq_3 @Am.HS.eq_4) (QY2 @Am.QLE @Am.Mj)) (QY2 (QY2 @Am.Mk @Am.Ml) (QY2 @Am.VM (QY2 @Am.Mm @Am.VN))))) (QY2 (QY2 (QY2 (QY2 @Am.VP @Am.VQ) (QY2 @Am.VR @Am.VS)) (QY2 (QY2 @Am.Mn @Am.Mo) (QY2 @Am.Mp (QY2 @Am.Mq @Am.VT)))) (QY2 (QY2 (QY2 @Am.Mr @Am.VU) (QY2 @Am.Ny @Am.Ms)) (QY2 (QY2 @Am.VV @Am.Hg) (QY2 @Am.Nz (QY2 @Am.VW @QYt.{0,0})))))))))

set_option linter.defProp false in
def eEX:=(QY2 (QY2 (QY2 @Am.QV.eq_1 (QY2 @Am.QV.eq_2 @Am.QV.eq_3)) (QY2 (QY2 @Am.Xb.eq_1 @Am.Xb.eq_2) (QY2 @Am.Xb.eq_3 @Am.Xb.eq_4))) (QY2 (QY2 (QY2 @Am.Qf.eq_1 @Am.Qf.eq_2) (QY2 @Am.Qf.eq_3 @Am.put.eq_1)) (QY2 (QY2 @Am.put.eq_2 @Am.put.eq_3) (QY2 @Am.AV.cells.eq_1 @Am.AV.cells.eq_2))))

set_option linter.defProp false in
def eE := QY2 Qa eEX

set_option linter.defProp false in
def Kd:=(QY2 (QY2 (QY2 (QY2 (QY2 (QY2 (QY2 @Am.YC (QY2 @Am.YB @Am.C6)) (QY2 @Am.J6 (QY2 @Am.ZM @Am.C9))) (QY2 (QY2 @Am.Ma (QY2 @Am.NK @Am.NL)) (QY2 @Am.Yh (QY2 @Am.Sx @Am.Sy)))) (QY2 (QY2 (QY2 @Am.C5 (QY2 @Am.Mb @Am.Gf)) (QY2 @Am.Mc (QY2 @Am.Md @Am.Me))) (QY2 (QY2 @Am.Mf (QY2 @Am.Mg @Am.Mh)) (QY2 @Am.Mi (QY2 @Am.KM @Am.C8))))) (QY2 (QY2 (QY2 (QY2 @Am.Sz (QY2 @Am.DV @Am.Un)) (QY2 @Am.e_f (QY2 @Am.J8 @Am.ZN))) (QY2 (QY2 @Am.J7 (QY2 @Am.J9 @Am.Hh)) (QY2 @Am.Ku (QY2 @Am.FS @Am.DT)))) (QY2 (QY2 (QY2 @Am.WT (QY2 @Am.FT @Am.Gg)) (QY2 @Am.Gi (QY2 @Am.DU @Am.YD))) (QY2 (QY2 @Am.Kt (QY2 @Am.FU @Am.FV)) (QY2 (QY2 @Am.Jk @Am.Qt.eq_1) (QY2 @Am.Qt.eq_2 @Am.Qt.eq_3)))))) (QY2 (QY2 (QY2 (QY2 (QY2 @Am.Qt.eq_4 (QY2 @Am.Qt.eq_5 @Am.Qt.eq_6)) (QY2 @Am.Qt.eq_7 (QY2 @Am.Qt.eq_8 @Am.Qt.eq_9))) (QY2 (QY2 @Am.Qt.eq_10 (QY2 @Am.Qt.eq_11 @Am.Qt.eq_12)) (QY2 @Am.Qt.eq_13 (QY2 @Am.Qt.eq_14 @Am.Qt.eq_15)))) (QY2 (QY2 (QY2 @Am.Qt.eq_16 (QY2 @Am.Qt.eq_17 @Am.Qt.eq_18)) (QY2 @Am.Qt.eq_19 (QY2 @Am.Qt.eq_20 @Am.Qt.eq_21))) (QY2 (QY2 @Am.Qt.eq_22 (QY2 @Am.Qt.eq_23 @Am.Qt.eq_24)) (QY2 @Am.Qt.eq_25 (QY2 @Am.Qt.eq_26 @Am.Qt.eq_27))))) (QY2 (QY2 (QY2 (QY2 @Am.Qt.eq_28 (QY2 @Am.Qt.eq_29 @Am.Qt.eq_30)) (QY2 @Am.Qt.eq_31 (QY2 @Am.Qt.eq_32 @Am.Qt.eq_1))) (QY2 (QY2 @Am.Qt.eq_1 (QY2 @Am.Qt.eq_1 @Am.QT.eq_1)) (QY2 @Am.QT.eq_2 (QY2 @Am.QT.eq_3 @Am.QT.eq_4)))) (QY2 (QY2 (QY2 @Am.QT.eq_5 (QY2 @Am.QT.eq_6 @Am.QT.eq_7)) (QY2 @Am.QT.eq_8 (QY2 @Am.QT.eq_9 @Am.QT.eq_10))) (QY2 (QY2 @Am.QT.eq_11 (QY2 @Am.QT.eq_12 @Am.QT.eq_13)) (QY2 (QY2 @Am.QT.eq_14 @Am.QT.eq_15) (QY2 @Am.QT.eq_16 @Am.QT.eq_17))))))) (QY2 (QY2 (QY2 (QY2 (QY2 (QY2 @Am.Q0.eq_1 (QY2 @Am.Q0.eq_2 @Am.Q0.eq_3)) (QY2 @Am.Q0.eq_4 (QY2 @Am.Q0.eq_5 @Am.Q0.eq_6))) (QY2 (QY2 @Am.Q0.eq_7 (QY2 @Am.Q0.eq_8 @Am.Q0.eq_9)) (QY2 @Am.Q0.eq_10 (QY2 @Am.Q0.eq_11 @Am.Q0.eq_12)))) (QY2 (QY2 (QY2 @Am.Q0.eq_13 (QY2 @Am.Q0.eq_14 @Am.Q0.eq_15)) (QY2 @Am.Q0.eq_16 (QY2 @Am.Ue.eq_1 @Am.Ue.eq_2))) (QY2 (QY2 @Am.Ue.eq_3 (QY2 @Am.Ue.eq_4 @cond_true.{0})) (QY2 @cond_true.{1} (QY2 @cond_false.{0} @cond_false.{1}))))) (QY2 (QY2 (QY2 (QY2 @QYj (QY2 @and_true @QYu.{0})) (QY2 @QYy.{0} (QY2 @List.getElem?_nil.{0} @QYC.{0}))) (QY2 (QY2 @QY0.{0} (QY2 @Am.St.enter.eq_1 @Am.FB.eq_1)) (QY2 @Am.AV.shL.eq_1 (QY2 @Am.AV.shL.eq_2 @Am.AV.sh.eq_1)))) (QY2 (QY2 (QY2 @Am.AV.sh.eq_2 (QY2 @Am.AV.sh.eq_3 @Am.AV.sh.eq_4)) (QY2 @Am.AV.sh.eq_5 (QY2 @Am.AV.sh.eq_6 @Am.AV.sh.eq_7))) (QY2 (QY2 @Am.AV.sh.eq_8 (QY2 @Am.AV.sh.eq_9 @Am.Kp.eq_1)) (QY2 (QY2 @Am.Kp.eq_2 @Am.RR.ev.eq_1) (QY2 @Am.RR.ev.eq_2 @Am.RR.evL.eq_1)))))) (QY2 (QY2 (QY2 (QY2 (QY2 @Am.RR.evL.eq_2 (QY2 @Am.Wc.eq_1 @Am.AV.still.eq_1)) (QY2 @Am.AV.still.eq_2 (QY2 @Am.AV.still.eq_3 @Am.AV.still.eq_4))) (QY2 (QY2 @Am.AV.still.eq_5 (QY2 @Am.AV.still.eq_6 @Am.AV.still.eq_7)) (QY2 @Am.AV.still.eq_8 (QY2 @Am.AV.stillL.eq_1 @Am.AV.stillL.eq_2)))) (QY2 (QY2 (QY2 @Am.AV.un.eq_1 (QY2 @Am.AV.un.eq_2 @Am.AV.un.eq_3)) (QY2 @Am.AV.un.eq_4 (QY2 @Am.AV.un.eq_5 @Am.AV.un.eq_6))) (QY2 (QY2 @Am.AV.un.eq_7 (QY2 @Am.AV.un.eq_8 @Am.AV.un.eq_9)) (QY2 @Am.AV.un.eq_10 (QY2 @Am.AV.un.eq_11 @Am.AV.un.eq_12))))) (QY2 (QY2 (QY2 (QY2 @Am.AV.un.eq_13 (QY2 @Am.AV.unL.eq_1 @Am.AV.unL.eq_2)) (QY2 @Option.bind_some.{0,0} (QY2 @QYi.{0,0} @if_true.{0}))) (QY2 (QY2 @if_true.{1} (QY2 @if_false.{0} @if_false.{1})) (QY2 @QXL (QY2 @Go.IntKind.bits.eq_1 @Go.IntKind.bits.eq_2)))) (QY2 (QY2 (QY2 @Go.IntKind.bits.eq_3 (QY2 @Go.IntKind.bits.eq_4 @Go.IntKind.bits.eq_5)) (QY2 @Go.IntKind.bits.eq_6 (QY2 @Go.IntKind.bits.eq_7 @Go.IntKind.bits.eq_8))) (QY2 (QY2 @QYo.{0} (QY2 @QXH.{0} @QY3)) (QY2 (QY2 @QYF @forall_const.{1}) (QY2 @not_true_eq_false @not_false_eq_true))))))))

end Go.Proofs.YtipjfckmopekaaaGreatDoor.Am

namespace Go.Proofs.YtipjfckmopekaaaGreatDoor.Rc
open Go Am
abbrev ja (a b:Nat):Am.Item:=⟨some a,.val (.mov (.t b)),none⟩
abbrev jb (a b c:Nat):Am.Item:=⟨some a,.val (.faddr b (.t c)),none⟩
abbrev jc (a b:Nat):Am.Item:=⟨some a,.val (.load none (.t b)),none⟩
abbrev jd (a:Nat)(b:Int):Am.Item:=⟨some a,.val (.mov (.c (.int .i64 b))),none⟩
abbrev je (a b c:Nat):Am.Item:=⟨some a,.boxN b (.t c),none⟩
abbrev jf (a b c:Nat):Am.Item:=⟨some a,.val (.load (some b) (.t c)),none⟩
abbrev jg (a b c:Nat):Am.Item:=⟨some a,.val (.mov (.t b)),some (c,true)⟩
abbrev jh (a:Nat):Am.Item:=⟨some a,.val (.mov (.c (.bool false))),none⟩
abbrev ji (a b c:Nat):Am.Item:=⟨some a,.val (.len b (.t c)),none⟩
abbrev jj (a b c:Nat):Am.Item:=⟨some a,.val (.pick (.t b) (.t c) (.c (.bool false))),none⟩
abbrev jk (a b c d:Nat):Am.Item:=⟨some a,.val (.iaddr b none (.t c) (.t d)),none⟩
abbrev jl (a b c d:Nat):Am.Item:=⟨some a,.val (.faddr b (.t c)),some (d,true)⟩
abbrev jm (a b:Nat)(c:Int):Am.Item:=⟨some a,.val (.bin .num .add (.t b) (.c (.int .i64 c))),none⟩
abbrev jn (a b c:Nat):Am.Item:=⟨some a,.val (.bin .num .lss (.t b) (.t c)),none⟩
abbrev jo (a b c:Nat):Am.Item:=⟨some a,.val (.pick (.t b) (.c (.bool true)) (.t c)),none⟩
abbrev jp (a b c d:Nat):Am.Item:=⟨some a,.val (.faddr b (.t c)),some (d,false)⟩
abbrev jq (a b:Nat)(c:Int):Am.Item:=⟨some a,.val (.bin .num .eql (.t b) (.c (.int .i64 c))),none⟩
abbrev jr (a b c:Nat):Am.Item:=⟨some a,.call (.f b) [(.t c)],none⟩
abbrev js (a b c:Nat):Am.Item:=⟨none,.store a (.t b) (.t c),none⟩
abbrev jt (a b c:Nat):Am.Item:=⟨some a,.val (.load none (.t b)),some (c,false)⟩
abbrev ju (a b c:Nat):Am.Item:=⟨some a,.val (.load none (.t b)),some (c,true)⟩
abbrev jv (a b c:Nat):Am.Item:=⟨some a,.val (.mov (.t b)),some (c,false)⟩
abbrev jw (a b c d e:Nat):Am.Item:=⟨some a,.val (.loadv b c (some d) (.t e)),none⟩
abbrev jx (a b c:Nat):Am.Item:=⟨some a,.val (.ext (.t b) c),none⟩
abbrev jy (a b c d:Nat):Am.Item:=⟨some a,.call (.f b) [(.t c),(.t d)],none⟩
abbrev jz (a b:Nat):Am.Item:=⟨some a,.val (.un .not (.t b)),none⟩
abbrev ya (a b c:Nat):Am.Item:=⟨some a,.val (.loadr (some b) (.t c)),none⟩
abbrev yb (a b c d:Nat):Am.Item:=⟨some a,.val (.loadv b c none (.t d)),none⟩
abbrev yc (a b c d e:Nat):Am.Item:=⟨some a,.val (.iaddr b none (.t c) (.t d)),some (e,true)⟩
abbrev yd (a b c d e:Nat):Am.Item:=⟨some a,.call (.f b) [(.t c),(.t d),(.t e)],none⟩
abbrev ye (a:Nat):Am.Item:=⟨some a,.val (.mov (.c (.nils))),none⟩
abbrev yf (a b c d:Nat):Am.Item:=⟨some a,.val (.len b (.t c)),some (d,false)⟩
abbrev yg (a b:Nat)(c:Int):Am.Item:=⟨some a,.val (.bin .num .neq (.t b) (.c (.int .i64 c))),none⟩
abbrev yh (a b c d e f:Nat):Am.Item:=⟨some a,.app b c d (.t e) (.t f),none⟩
abbrev yi (a:Nat):Am.Item:=⟨some a,.val (.mov (.c (.str []))),none⟩
abbrev yj (a b c:Nat):Am.Item:=⟨some a,.val (.bin .num .add (.t b) (.t c)),none⟩
abbrev yk (a b:Nat)(c:Int)(d:Nat):Am.Item:=⟨some a,.val (.bin .num .gtr (.t b) (.c (.int .i64 c))),some (d,false)⟩
abbrev yl (a:Nat):Am.Item:=⟨some a,.val (.mov (.c (.bool true))),none⟩
abbrev ym (a b:Nat)(c:Int)(d:Nat):Am.Item:=⟨some a,.val (.bin .num .eql (.t b) (.c (.int .i64 c))),some (d,true)⟩
abbrev yn (a b:Nat)(c:Int):Am.Item:=⟨some a,.val (.bin .num .geq (.t b) (.c (.int .i64 c))),none⟩
abbrev yo (a b:Nat)(c:Int):Am.Item:=⟨some a,.val (.bin .num .lss (.t b) (.c (.int .i64 c))),none⟩
abbrev yp (a b c:Nat):Am.Item:=⟨some a,.val (.loadr none (.t b)),some (c,true)⟩
abbrev yq (a b:Nat)(c:Int):Am.Item:=⟨some a,.val (.bin .num .gtr (.t b) (.c (.int .i64 c))),none⟩
abbrev yr (a b c d:Nat):Am.Item:=⟨some a,.callF (.f b) [(.t c),(.t d)],none⟩
abbrev ys (a b:Nat)(c:Int)(d:Nat):Am.Item:=⟨some a,.val (.bin .num .eql (.t b) (.c (.int .i64 c))),some (d,false)⟩
abbrev yt (a b c d:Nat):Am.Item:=⟨some a,.val (.len b (.t c)),some (d,true)⟩
abbrev yu (a b:Nat):Am.Item:=⟨some a,.allocN b [.int .i64 0,.int .u64 0,.str [],.nils,.nils,.nils,.nils],none⟩
abbrev yv (a b c d:Nat):Am.Item:=⟨some a,.val (.load (some b) (.t c)),some (d,false)⟩
abbrev yw (a b c d:Nat):Am.Item:=⟨some a,.val (.pick (.t b) (.t c) (.c (.bool false))),some (d,false)⟩
abbrev yx (a b c:Nat):Am.Item:=⟨some a,.val (.un .not (.t b)),some (c,true)⟩
abbrev yy (a b:Nat)(c:Int)(d:Nat):Am.Item:=⟨some a,.val (.bin .num .leq (.t b) (.c (.int .i64 c))),some (d,true)⟩
abbrev yz (a b c d e:Nat):Am.Item:=⟨some a,.val (.iaddr b none (.t c) (.t d)),some (e,false)⟩
abbrev za (a b:Nat)(c:Int):Am.Item:=⟨some a,.val (.bin .num .sub (.t b) (.c (.int .i64 c))),none⟩
abbrev zb (a b c d e:Nat):Am.Item:=⟨some a,.val (.loadv b c none (.t d)),some (e,true)⟩
abbrev zd (a b:Nat):Am.Item:=⟨some a,.allocN b [.int .i64 0,.str [],.str [],.int .i64 0,.int .i64 0,.int .i64 0,.int .i64 0,.int .i64 0],none⟩
abbrev ze (a b c:Nat):Am.Item:=⟨some a,.val (.un .not (.t b)),some (c,false)⟩
abbrev zf (a b c d:Nat):Am.Item:=⟨some a,.val (.pick (.t b) (.c (.bool true)) (.t c)),some (d,true)⟩
abbrev zg (a b c:Nat):Am.Item:=⟨some a,.val (.bin .num .sub (.t b) (.t c)),none⟩
abbrev zh (a b c d:Nat):Am.Item:=⟨some a,.call (.f b) [(.t c)],some (d,true)⟩
abbrev zi (a b c d:Nat):Am.Item:=⟨some a,.call (.f b) [(.t c)],some (d,false)⟩
abbrev zj (a b c d e f:Nat):Am.Item:=⟨some a,.call (.f b) [(.t c),(.t d),(.t e),(.t f)],none⟩
abbrev zk (a b c d:Nat):Am.Item:=⟨some a,.val (.load (some b) (.t c)),some (d,true)⟩
abbrev zl (a b c d e:Nat):Am.Item:=⟨some a,.val (.loadv b c none (.t d)),some (e,false)⟩
abbrev zm (a b c:Nat):Am.Item:=⟨some a,.val (.bin .num .eql (.t b) (.t c)),none⟩
abbrev zn (a b:Nat):Am.Item:=⟨some a,.allocN b [.int .i64 0,.int .i64 0,.int .u64 0,.str []],none⟩
abbrev zo (a b:Nat):Am.Item:=⟨some a,.val (.cvi .u64 (.t b)),none⟩
abbrev zp (a b c d e:Nat):Am.Item:=⟨none,.storev a b c (.t d) (.t e),none⟩
abbrev zq (a b c d e:Nat):Am.Item:=⟨some a,.callF (.f b) [(.t c),(.f d)],some (e,false)⟩
abbrev zs (a b c:Nat):Am.Item:=⟨some a,.val (.bin .num .neq (.t b) (.t c)),none⟩
abbrev zt (a b c d e f:Nat):Am.Item:=⟨some a,.val (.loadv b c (some d) (.t e)),some (f,true)⟩
abbrev zu (a b c d:Nat):Am.Item:=⟨some a,.val (.bin .num .lss (.t b) (.t c)),some (d,true)⟩
abbrev zv (a b:Nat)(c:Int)(d:Nat):Am.Item:=⟨some a,.val (.bin .num .neq (.t b) (.c (.int .i64 c))),some (d,true)⟩
abbrev zw (a b c d e f:Nat):Am.Item:=⟨some a,.bsl b c [.int .i64 0,.int .i64 0,.int .u64 0,.str []] [(d,e,(.t f))],none⟩
abbrev zx (a b:Nat):Am.Item:=⟨some a,.val (.loadr none (.t b)),none⟩
abbrev zy (a b:Nat)(c:Int)(d:Nat):Am.Item:=⟨some a,.val (.bin .num .add (.t b) (.c (.int .i64 c))),some (d,true)⟩
abbrev zz (a b:Nat):Am.Item:=⟨some a,.call (.f b) [],none⟩
abbrev NQ (a b:Nat):Am.Item:=⟨some a,.val (.cvi .i64 (.t b)),none⟩
abbrev Hi (a b c d:Nat):Am.Item:=⟨some a,.callF (.f b) [(.t c),(.f d)],none⟩
abbrev Mw (a b c d:Nat):Am.Item:=⟨some a,.val (.bin .num .neq (.t b) (.t c)),some (d,false)⟩
abbrev F3 (a b c:Nat):Am.Item:=⟨some a,.val (.bin .num .gtr (.t b) (.t c)),none⟩
abbrev Hj (a b:Nat)(c:Int)(d:Nat):Am.Item:=⟨some a,.val (.bin .num .geq (.t b) (.c (.int .i64 c))),some (d,true)⟩
abbrev SA (a b c d e f g:Nat):Am.Item:=⟨some a,.callF (.f b) [(.t c),(.t d),(.t e),(.t f),(.t g)],none⟩
abbrev Gs (a b:Nat)(c:Int):Am.Item:=⟨some a,.val (.bin .num .eql (.t b) (.c (.int .u64 c))),none⟩
abbrev Gt (a b c d:Nat):Am.Item:=⟨some a,.val (.loadr (some b) (.t c)),some (d,true)⟩
abbrev Gu (a b c d e:Nat):Am.Item:=⟨some a,.call (.f b) [(.t c),(.t d)],some (e,true)⟩
abbrev DX (a b c:Nat):Am.Item:=⟨some a,.val (.mkfn (.func b) [] [(.t c)]),none⟩
abbrev DY (a b c d:Nat):Am.Item:=⟨some a,.val (.bin .num .geq (.t b) (.t c)),some (d,false)⟩
abbrev DZ (a b c:Nat):Am.Item:=⟨some a,.callF (.t b) [(.t c)],none⟩
abbrev D0 (a b c d:Nat):Am.Item:=⟨some a,.val (.slc (some b) (.t c) none (some (.t d)) none),none⟩
abbrev D1 (a b:Nat):Am.Item:=⟨some a,.val (.cvi .u8 (.t b)),none⟩
abbrev D2 (a b:Nat)(c:Int)(d:Nat):Am.Item:=⟨some a,.val (.bin .num .sub (.t b) (.c (.int .i64 c))),some (d,true)⟩
abbrev D3 (a b c d e f:Nat):Am.Item:=⟨some a,.call (.f b) [(.t c),(.t d),(.t e)],some (f,true)⟩
abbrev D4 (a b c:Nat):Am.Item:=⟨some a,.val (.bin .str .add (.t b) (.t c)),none⟩
abbrev F4 (a b c:Nat):Am.Item:=⟨some a,.call (.f b) [],some (c,true)⟩
abbrev F5 (a b c:Nat):Am.Item:=⟨some a,.val (.bin .str .eql (.t b) (.t c)),none⟩
abbrev F6 (a b:Nat)(c:Int)(d:Nat):Am.Item:=⟨some a,.val (.bin .num .gtr (.t b) (.c (.int .i64 c))),some (d,true)⟩
abbrev F7 (a b:Nat)(c:Int)(d:Nat):Am.Item:=⟨some a,.val (.bin .num .lss (.t b) (.c (.int .i64 c))),some (d,false)⟩
abbrev F8 (a b:Nat):Am.Item:=⟨some a,.val (.nilck (.t b)),none⟩
abbrev F9 (a b c:Nat):Am.Item:=⟨some a,.val (.bin .num .leq (.t b) (.t c)),none⟩
abbrev Ba (a b c d:Nat)(e:Int)(f:Nat):Am.Item:=⟨some a,.call (.f b) [(.t c),(.t d),(.c (.int .i64 e))],some (f,true)⟩
abbrev NR (a b:Nat):Am.Item:=⟨some a,.allocN b [.int .i64 0,.int .i64 0,.int .u64 0,.str [],.nils,.nils,.nils,.nils],none⟩
abbrev NS (a b c:Nat)(d:Int)(e:Nat):Am.Item:=⟨some a,.val (.iaddr b none (.t c) (.c (.int .i64 d))),some (e,true)⟩
abbrev NT (a:Nat)(b:Int):Am.Item:=⟨some a,.val (.mov (.c (.int .u64 b))),none⟩
abbrev jbb (a b:Nat)(c:Int):Am.Item:=⟨some a,.val (.bin .num .shr (.t b) (.c (.int .u64 c))),none⟩
abbrev NU (a b c:Nat):Am.Item:=⟨some a,.callF (.f b) [(.t c)],none⟩
abbrev NV (a b:Nat)(c:Int)(d:Nat):Am.Item:=⟨some a,.val (.bin .num .neq (.t b) (.c (.int .i64 c))),some (d,false)⟩
abbrev NW (a b c:Nat):Am.Item:=⟨some a,.val (.loadr none (.t b)),some (c,false)⟩
abbrev NX (a b c d e f:Nat):Am.Item:=⟨some a,.bsl b c [.int .u8 0] [(d,e,(.t f))],none⟩
abbrev NY (a b:Nat):Am.Item:=⟨some a,.val (.b2s (.t b)),none⟩
abbrev SB (a b c d e:Nat):Am.Item:=⟨some a,.call (.f b) [(.t c),(.t d)],some (e,false)⟩
abbrev NZ (a b c:Nat):Am.Item:=⟨some a,.val (.idx (.t b) (.t c)),none⟩
abbrev Mx (a b c d:Nat):Am.Item:=⟨some a,.val (.bin .str .eql (.t b) (.t c)),some (d,true)⟩
abbrev My (a b:Nat)(c:Int)(d:Nat):Am.Item:=⟨some a,.val (.bin .num .eql (.t b) (.c (.int .u64 c))),some (d,true)⟩
abbrev Mz (a b c d:Nat):Am.Item:=⟨some a,.val (.build [.nils,.nils] [(b,c,(.t d))]),none⟩
abbrev MA (a b c d:Nat):Am.Item:=⟨some a,.val (.bin .num .eql (.t b) (.t c)),some (d,true)⟩
abbrev MB (a b:Nat):Am.Item:=⟨some a,.allocN b [.int .i64 0,.int .u64 0,.str [],.nils,.nils,.nils,.nils,.int .i64 0,.int .u64 0,.str [],.nils,.nils,.nils,.nils],none⟩
abbrev MD (a:Nat)(b:Int)(c:Nat):Am.Item:=⟨some a,.val (.bin .num .mul (.c (.int .i64 b)) (.t c)),none⟩
abbrev ME (a b c:Nat):Am.Item:=⟨some a,.val (.slc none (.t b) (some (.t c)) none none),none⟩
abbrev jbq (a b c d:Nat):Am.Item:=⟨some a,.val (.loadr (some b) (.t c)),some (d,false)⟩
abbrev MF (a b c d:Nat):Am.Item:=⟨some a,.val (.bin .num .leq (.t b) (.t c)),some (d,true)⟩
abbrev MG (a b:Nat)(c:Int):Am.Item:=⟨some a,.val (.bin .num .eql (.t b) (.c (.int .u8 c))),none⟩
abbrev MH (a b c d:Nat):Am.Item:=⟨some a,.val (.idx (.t b) (.t c)),some (d,true)⟩
abbrev MI (a b:Nat)(c:Int):Am.Item:=⟨some a,.val (.bin .num .geq (.t b) (.c (.int .u8 c))),none⟩
abbrev MJ (a b:Nat)(c:Int)(d:Nat):Am.Item:=⟨some a,.val (.bin .num .leq (.t b) (.c (.int .u8 c))),some (d,true)⟩
abbrev MK (a b c:Nat):Am.Item:=⟨some a,.callR (.f b) [(.t c)],none⟩
abbrev jQ (g:List Am.Item)(c:RC):RC:=.seq (.reg g) c
abbrev jD (g:List Am.Item)(c:RC):RC:=.seq (.draw g) c
abbrev jX (a b:Nat):RC:=.cond (.t a) .skip (.exit b)
abbrev IL:=List Am.Item
abbrev CT (k n:Nat)(r:RC)(o:List RR):Prop:=CK Tryz.prog k n r o
abbrev QLF:IL:=[jh 0]
abbrev QLG:IL:=[⟨some 11,.val (.build [.int .i64 0,.int .u64 0,.str [],.nils,.nils,.nils,.nils] [(0,1,(.c (.int .i64 4))),(1,1,(.c (.int .u64 1)))]),none⟩,yu 1 1,js 7 1 11]
abbrev QLH:IL:=[⟨some 12,.val (.build [.int .i64 0,.int .u64 0,.str [],.nils,.nils,.nils,.nils] [(0,1,(.c (.int .i64 4))),(1,1,(.c (.int .u64 2)))]),none⟩,yu 2 2,js 7 2 12]
abbrev QLI:IL:=[jf 13 7 1,jf 14 7 2,⟨some 15,.bsl 7 2 [.int .i64 0,.int .u64 0,.str [],.nils,.nils,.nils,.nils] [(0,7,(.t 13)),(7,7,(.t 14))],none⟩,⟨some 16,.val (.build [.int .i64 0,.int .u64 0,.str [],.nils,.nils,.nils,.nils] [(0,1,(.c (.int .i64 11))),(3,1,(.t 15))]),none⟩,⟨some 17,.val (.build [.int .i64 0,.int .i64 0,.int .u64 0,.str [],.nils,.nils,.nils,.nils] [(0,1,(.c (.int .i64 3))),(1,7,(.t 16))]),none⟩,NR 3 3,js 8 3 17]
abbrev QLJ:IL:=[⟨some 18,.val (.build [.int .i64 0,.int .u64 0,.str [],.nils,.nils,.nils,.nils] [(0,1,(.c (.int .i64 4))),(1,1,(.c (.int .u64 5)))]),none⟩,⟨some 19,.val (.build [.int .i64 0,.int .i64 0,.int .u64 0,.str [],.nils,.nils,.nils,.nils] [(0,1,(.c (.int .i64 1))),(1,7,(.t 18))]),none⟩,⟨some 20,.val (.build [.int .i64 0,.int .u64 0,.str [],.nils,.nils,.nils,.nils] [(0,1,(.c (.int .i64 2))),(1,1,(.c (.int .u64 18446744073709551615)))]),none⟩,⟨some 21,.val (.build [.int .i64 0,.int .i64 0,.int .u64 0,.str [],.nils,.nils,.nils,.nils] [(0,1,(.c (.int .i64 2))),(1,7,(.t 20))]),none⟩,jf 22 8 3,⟨some 23,.bsl 8 3 [.int .i64 0,.int .i64 0,.int .u64 0,.str [],.nils,.nils,.nils,.nils] [(0,8,(.t 19)),(8,8,(.t 21)),(16,8,(.t 22))],none⟩,⟨some 24,.val (.build [.int .i64 0,.int .u64 0,.str [],.nils,.nils,.nils,.nils] [(0,1,(.c (.int .i64 10))),(5,1,(.t 23))]),none⟩,yu 4 4,js 7 4 24]
abbrev QLK:IL:=[zz 26 24,jw 27 0 4 7 4,⟨some 28,.call (.f 10) [(.t 26),(.c (.str [97,46,77])),(.t 27)],none⟩,ja 25 28,jx 29 25 0,jx 30 25 1,ja 5 29,ja 6 30]
abbrev QLL:IL:=[zz 32 24,jw 33 0 4 7 4,⟨some 34,.call (.f 10) [(.t 32),(.c (.str [97,46,78])),(.t 33)],none⟩,ja 31 34,jx 35 31 0,jx 36 31 1,ja 7 35,ja 8 36]
abbrev QLM:IL:=[zz 37 24,jw 38 0 3 8 3,⟨some 39,.call (.f 19) [(.t 37),(.c (.int .i64 0)),(.t 38)],none⟩,ja 9 39]
abbrev QLN:IL:=[⟨some 40,.val (.build [.int .i64 0,.int .u64 0,.str [],.nils,.nils,.nils,.nils] [(0,1,(.c (.int .i64 2))),(1,1,(.c (.int .u64 18446744073709551615)))]),none⟩,jr 41 25 40,zn 10 10,js 4 10 41]
abbrev QLO:IL:=[ja 42 5,⟨some 43,.val (.bin .str .eql (.t 42) (.c (.str [8,5,17,1,29,3,0,1,2]))),none⟩,ja 44 43,jg 45 6 44,ym 46 45 0 44,jj 47 44 46,ja 48 47,jg 49 8 48,ym 50 49 10 48,jj 51 48 50,ja 52 51,F4 53 24 52,zt 54 0 4 7 4 52,⟨some 55,.call (.f 15) [(.t 53),(.c (.int .i64 0)),(.t 54)],(some (52,true))⟩,jg 56 5 52,Mx 57 55 56 52,jj 58 52 57,ja 59 58,F4 60 24 59,zt 61 0 4 7 4 59,⟨some 62,.call (.f 12) [(.t 60),(.c (.str [97,46,77])),(.t 61)],(some (59,true))⟩,ym 63 62 9 59,jj 64 59 63,ja 65 64,F4 66 24 65,zt 67 0 4 7 4 65,⟨some 68,.call (.f 12) [(.t 66),(.c (.str [])),(.t 67)],(some (65,true))⟩,ym 69 68 (-1) 65,jj 70 65 69,ja 71 70,jg 72 9 71,yt 73 1 72 71,ym 74 73 1 71,jj 75 71 74,ja 76 75,jg 77 9 76,NS 78 4 77 0 76,jl 79 1 78 76,yp 80 79 76,ym 81 80 5 76,jj 82 76 81,ja 83 82,jg 84 9 83,NS 85 4 84 0 83,jl 86 3 85 83,yp 87 86 83,⟨some 88,.val (.bin .str .eql (.t 87) (.c (.str [0,1,2]))),(some (83,true))⟩,jj 89 83 88,ja 90 89,jl 91 1 10 90,zb 92 0 10 91 90,ym 93 92 1 90,jj 94 90 93,ja 95 94,jl 96 2 10 95,zb 97 0 10 96 95,My 98 97 1 95,jj 99 95 98,ja 0 99]
abbrev r9:RC:=jQ QLF (jQ QLG (jQ QLH (jQ QLI (jQ QLJ (jD QLK (jD QLL (jD QLM (jQ QLN (jD QLO (.ret))))))))))
abbrev o9:List RR:=[.tmp 0]
theorem k9:CT 9 100 r9 o9:=ck Tryz.func9 Tryz.ntmps9 (by decide +kernel)
abbrev QyL:IL:=[je 1 1 0,zn 2 2]
abbrev QyM:IL:=[jb 3 0 1,jc 4 3]
abbrev QyN:IL:=[jq 6 4 1,ja 5 6]
abbrev QyO:IL:=[jq 7 4 4,ja 5 7]
abbrev QyP:IL:=[jq 8 4 5,ja 5 8]
abbrev QyQ:IL:=[jq 9 4 9,ja 5 9]
abbrev QyR:IL:=[jb 10 1 1,jc 11 10,⟨some 12,.val (.build [.int .i64 0,.int .i64 0,.int .u64 0,.str []] [(1,1,(.c (.int .i64 0))),(2,1,(.t 11))]),none⟩,js 4 2 12]
abbrev QyS:IL:=[jq 14 4 2,ja 13 14]
abbrev QyT:IL:=[jq 15 4 3,ja 13 15]
abbrev QyU:IL:=[jb 16 1 1,jc 17 16,NQ 18 17,jr 19 50 18,⟨some 20,.val (.build [.int .i64 0,.int .i64 0,.int .u64 0,.str []] [(1,1,(.c (.int .i64 1))),(2,1,(.t 19))]),none⟩,js 4 2 20]
abbrev Qbf:IL:=[jq 22 4 6,ja 21 22]
abbrev Qbg:IL:=[jf 23 7 1,jr 24 51 23,⟨some 25,.val (.fld 1 none (.t 24)),none⟩,⟨some 26,.val (.build [.int .i64 0,.int .i64 0,.int .u64 0,.str []] [(1,1,(.c (.int .i64 2))),(2,1,(.t 25))]),none⟩,js 4 2 26]
abbrev Qbh:IL:=[jq 28 4 7,ja 27 28]
abbrev Qbi:IL:=[jq 29 4 8,ja 27 29]
abbrev Qbj:IL:=[jb 30 2 1,jc 31 30,⟨some 32,.val (.build [.int .i64 0,.int .i64 0,.int .u64 0,.str []] [(1,1,(.c (.int .i64 3))),(3,1,(.t 31))]),none⟩,js 4 2 32]
abbrev Qbk:IL:=[⟨some 33,.val (.build [.int .i64 0,.int .i64 0,.int .u64 0,.str []] []),none⟩,js 4 2 33]
abbrev r25:RC:=jQ QyL (.seq (jQ QyM (.block 0 (.seq (jQ QyN (.cond (.t 5) (.skip) (jQ QyO (.cond (.t 5) (.skip) (jQ QyP (.cond (.t 5) (.skip) (.reg QyQ))))))) (.cond (.t 5) (jQ QyR (.ret)) (.seq (jQ QyS (.cond (.t 13) (.skip) (.reg QyT))) (.cond (.t 13) (jQ QyU (.ret)) (jQ Qbf (.cond (.t 21) (jQ Qbg (.ret)) (.seq (jQ Qbh (.cond (.t 27) (.skip) (.reg Qbi))) (.cond (.t 27) (jQ Qbj (.ret)) (.skip))))))))))) (jQ Qbk (.ret)))
abbrev o25:List RR:=[.cell 2 (some 4)]
theorem k25:CT 25 34 r25 o25:=ck Tryz.func25 Tryz.ntmps25 (by decide +kernel)
abbrev QyV:IL:=[je 3 3 0,je 5 5 2,yi 6,jd 7 0]
abbrev QyW:IL:=[jf 13 2 3,ja 14 1,jy 15 26 13 14,ja 12 15,jx 16 12 0,jx 17 12 1,ja 8 16,ja 9 17]
abbrev QyX:IL:=[ja 18 9,jz 19 18]
abbrev QyY:IL:=[yi 6,jd 7 10]
abbrev QyZ:IL:=[jf 20 2 3,ja 21 8,jy 22 27 20 21,jz 23 22]
abbrev Qy0:IL:=[yi 6,jd 7 1]
abbrev Qy1:IL:=[jf 24 2 3,ja 25 8,jf 26 7 5,yd 27 28 24 25 26,ja 10 27]
abbrev Qy2:IL:=[ja 28 10,yg 29 28 0]
abbrev Qy3:IL:=[ja 30 10,yi 6,ja 7 30]
abbrev Qy4:IL:=[jf 31 2 3,Mz 32 0 2 31,ja 33 8,jf 34 7 5,yd 35 29 32 33 34,ja 11 35]
abbrev Qbl:IL:=[ja 36 11,ji 37 0 36,yq 38 37 65536]
abbrev Qbm:IL:=[yi 6,jd 7 3]
abbrev Qbn:IL:=[ja 39 11,ja 6 39,jd 7 0]
abbrev D5:RC:=jQ QyV (jQ QyW (.seq (jQ QyX (.cond (.t 19) (jQ QyY (.ret)) (.skip))) (.seq (jQ QyZ (.cond (.t 23) (jQ Qy0 (.ret)) (.skip))) (.seq (jQ Qy1 (jQ Qy2 (.cond (.t 29) (jQ Qy3 (.ret)) (.skip)))) (jQ Qy4 (.seq (jQ Qbl (.cond (.t 38) (jQ Qbm (.ret)) (.skip))) (jQ Qbn (.ret))))))))
abbrev o10:List RR:=[.tmp 6,.tmp 7]
theorem k10:CT 10 40 D5 o10:=ck Tryz.func10 Tryz.ntmps10 (by decide +kernel)
abbrev Qy5:IL:=[⟨some 0,.allocN 0 [.nils,.nils],none⟩]
abbrev Qy6:IL:=[⟨some 1,.val (.build [.int .i64 0,.str [],.str [],.int .i64 0,.int .i64 0,.int .i64 0,.int .i64 0,.int .i64 0] [(0,1,(.c (.int .i64 1))),(1,1,(.c (.str [97]))),(3,1,(.c (.int .i64 3))),(5,1,(.c (.int .i64 4))),(6,1,(.c (.int .i64 (-1)))),(7,1,(.c (.int .i64 (-1))))]),none⟩,⟨some 2,.val (.build [.int .i64 0,.str [],.str [],.int .i64 0,.int .i64 0,.int .i64 0,.int .i64 0,.int .i64 0] [(0,1,(.c (.int .i64 2))),(1,1,(.c (.str [98]))),(3,1,(.c (.int .i64 2))),(5,1,(.c (.int .i64 2))),(6,1,(.c (.int .i64 (-1)))),(7,1,(.c (.int .i64 (-1))))]),none⟩,⟨some 3,.val (.build [.int .i64 0,.str [],.str [],.int .i64 0,.int .i64 0,.int .i64 0,.int .i64 0,.int .i64 0] [(0,1,(.c (.int .i64 3))),(1,1,(.c (.str [99]))),(3,1,(.c (.int .i64 4))),(5,1,(.c (.int .i64 4))),(6,1,(.c (.int .i64 (-1)))),(7,1,(.c (.int .i64 (-1))))]),none⟩,⟨some 4,.bsl 8 3 [.int .i64 0,.str [],.str [],.int .i64 0,.int .i64 0,.int .i64 0,.int .i64 0,.int .i64 0] [(0,8,(.t 1)),(8,8,(.t 2)),(16,8,(.t 3))],none⟩,⟨some 5,.val (.build [.str [],.nils,.int .i64 0] [(0,1,(.c (.str [97,46,77]))),(1,1,(.t 4))]),none⟩,⟨some 6,.bsl 3 1 [.str [],.nils,.int .i64 0] [(0,3,(.t 5))],none⟩,Mz 7 0 1 6,js 2 0 7]
abbrev r24:RC:=jQ Qy5 (jQ Qy6 (.ret))
abbrev o24:List RR:=[.cell 0 (some 2)]
theorem k24:CT 24 8 r24 o24:=ck Tryz.func24 Tryz.ntmps24 (by decide +kernel)
abbrev Qy7:IL:=[je 3 3 0,je 5 5 2,ye 6]
abbrev Qy8:IL:=[jf 7 2 3,ja 8 1,jy 9 27 7 8,jz 10 9]
abbrev Qy9:IL:=[ye 6]
abbrev Qza:IL:=[jf 11 2 3,Mz 12 0 2 11,ja 13 1,jf 14 8 5,yd 15 37 12 13 14,ja 6 15]
abbrev r19:RC:=jQ Qy7 (.seq (jQ Qy8 (.cond (.t 10) (jQ Qy9 (.ret)) (.skip))) (jQ Qza (.ret)))
abbrev o19:List RR:=[.tmp 6]
theorem k19:CT 19 16 r19 o19:=ck Tryz.func19 Tryz.ntmps19 (by decide +kernel)
abbrev Qzb:IL:=[je 3 3 0,je 5 5 2,yi 6]
abbrev Qzc:IL:=[jf 7 2 3,ja 8 1,jy 9 27 7 8,jz 10 9]
abbrev Qzd:IL:=[yi 6]
abbrev Qze:IL:=[jf 11 2 3,Mz 12 0 2 11,ja 13 1,jf 14 7 5,yd 15 29 12 13 14,ja 6 15]
abbrev ML:RC:=jQ Qzb (.seq (jQ Qzc (.cond (.t 10) (jQ Qzd (.ret)) (.skip))) (jQ Qze (.ret)))
abbrev o15:List RR:=[.tmp 6]
theorem k15:CT 15 16 ML o15:=ck Tryz.func15 Tryz.ntmps15 (by decide +kernel)
abbrev Qzf:IL:=[je 3 3 0,je 5 5 2,jd 6 0]
abbrev Qzg:IL:=[jf 10 2 3,ja 11 1,jf 12 7 5,yd 13 10 10 11 12,ja 9 13,jx 14 9 0,jx 15 9 1,ja 7 14,ja 8 15]
abbrev Qzh:IL:=[ja 16 8,yg 17 16 0]
abbrev Qzi:IL:=[jd 6 (-1)]
abbrev Qzj:IL:=[ja 18 7,ji 19 0 18,ja 6 19]
abbrev JX:RC:=jQ Qzf (jQ Qzg (.seq (jQ Qzh (.cond (.t 17) (jQ Qzi (.ret)) (.skip))) (jQ Qzj (.ret))))
abbrev o12:List RR:=[.tmp 6]
theorem k12:CT 12 20 JX o12:=ck Tryz.func12 Tryz.ntmps12 (by decide +kernel)
abbrev Qzk:IL:=[NT 2 0]
abbrev Qzl:IL:=[ja 3 0,zo 4 3,⟨some 5,.val (.bin .num .shl (.t 4) (.c (.int .u64 1))),none⟩,ja 6 0,jbb 7 6 63,zo 8 7,⟨some 9,.val (.bin .num .xor (.t 5) (.t 8)),none⟩,ja 2 9]
abbrev r50:RC:=jQ Qzk (jQ Qzl (.ret))
abbrev o50:List RR:=[.tmp 2]
theorem k50:CT 50 10 r50 o50:=ck Tryz.func50 Tryz.ntmps50 (by decide +kernel)
abbrev Qzm:IL:=[je 1 1 0,yu 2 2]
abbrev Qzn:IL:=[jb 3 0 1,jc 4 3,jq 5 4 6,ja 6 5,jl 7 1 1 6,ju 8 7 6,zh 9 82 8 6,ym 10 9 0 6,jj 11 6 10]
abbrev Qzo:IL:=[jb 12 1 1,⟨none,.store 1 (.t 12) (.c (.int .u64 9221120237041090560)),none⟩]
abbrev Qzp:IL:=[jf 13 7 1,js 7 2 13]
abbrev r51:RC:=jQ Qzm (.seq (jQ Qzn (.cond (.t 11) (.reg Qzo) (.skip))) (jQ Qzp (.ret)))
abbrev o51:List RR:=[.cell 2 (some 7)]
theorem k51:CT 51 14 r51 o51:=ck Tryz.func51 Tryz.ntmps51 (by decide +kernel)
abbrev Qzq:IL:=[je 2 2 0,je 3 3 1,jd 4 0,jh 5]
abbrev Qzr:IL:=[jb 7 0 2,jc 8 7,DX 9 53 3,yr 10 52 8 9,ja 6 10]
abbrev Qzs:IL:=[ja 11 6,⟨some 12,.val (.mnx true (.t 11) (.c (.int .i64 0))),none⟩,ja 13 6,yn 14 13 0,ja 4 12,ja 5 14]
abbrev r26:RC:=jQ Qzq (jQ Qzr (jQ Qzs (.ret)))
abbrev o26:List RR:=[.tmp 4,.tmp 5]
theorem k26:CT 26 15 r26 o26:=ck Tryz.func26 Tryz.ntmps26 (by decide +kernel)
abbrev Qzt:IL:=[je 2 2 0,jh 4]
abbrev Qzu:IL:=[ja 5 1,yn 6 5 0,ja 7 6,jg 8 1 7,jl 9 0 2 7,ju 10 9 7,yt 11 1 10 7,zu 12 8 11 7,jj 13 7 12,ja 14 13,zk 15 2 2 14,zh 16 54 15 14,ym 17 16 0 14,jj 18 14 17,ja 4 18]
abbrev r27:RC:=jQ Qzt (jQ Qzu (.ret))
abbrev o27:List RR:=[.tmp 4]
theorem k27:CT 27 19 r27 o27:=ck Tryz.func27 Tryz.ntmps27 (by decide +kernel)
abbrev Qzv:IL:=[je 3 3 0,je 5 5 2,jd 6 0]
abbrev Qzw:IL:=[ja 8 1,yo 9 8 0,ja 10 9,jv 11 1 10,jp 12 0 3 10,jt 13 12 10,yf 14 1 13 10,DY 15 11 14 10,jo 16 10 15]
abbrev Qzx:IL:=[jd 6 10]
abbrev Qzy:IL:=[jw 17 0 3 2 3,Mz 18 0 2 17,jb 19 0 3,yb 20 0 3 19,ja 21 1,jk 22 3 20 21,ya 23 3 22,jw 24 0 5 7 5,⟨some 25,.call (.f 55) [(.t 18),(.t 23),(.t 24),(.c (.int .i64 1))],none⟩,ja 7 25]
abbrev Qzz:IL:=[ja 26 7,yg 27 26 0]
abbrev QzA:IL:=[ja 28 7,ja 6 28]
abbrev QzB:IL:=[jf 29 7 5,jr 30 56 29,yq 31 30 4096]
abbrev QzC:IL:=[jd 6 3]
abbrev QzD:IL:=[jd 6 0]
abbrev r28:RC:=jQ Qzv (.seq (jQ Qzw (.cond (.t 16) (jQ Qzx (.ret)) (.skip))) (.seq (jD Qzy (jQ Qzz (.cond (.t 27) (jQ QzA (.ret)) (.skip)))) (.seq (jQ QzB (.cond (.t 31) (jQ QzC (.ret)) (.skip))) (jQ QzD (.ret)))))
abbrev o28:List RR:=[.tmp 6]
theorem k28:CT 28 32 r28 o28:=ck Tryz.func28 Tryz.ntmps28 (by decide +kernel)
abbrev QzE:IL:=[je 3 3 0,je 5 5 2,yi 6]
abbrev QzF:IL:=[jb 12 0 3,jf 13 2 12,ja 14 1,jf 15 7 5,yd 16 57 13 14 15,yu 7 7,js 7 7 16]
abbrev QzG:IL:=[ye 8]
abbrev QzH:IL:=[jb 17 6 7,jc 18 17,ja 9 18]
abbrev QzI:IL:=[jb 19 5 7,jc 20 19,ji 21 1 20,jd 22 0]
abbrev QzJ:IL:=[jn 23 22 21]
abbrev QzK:IL:=[jk 24 8 20 22,jf 25 8 24,NR 11 11,js 8 11 25]
abbrev QzL:IL:=[ja 26 9,ji 27 1 26,yq 28 27 0,ja 29 28,jg 30 9 29,NS 31 4 30 0 29,jl 32 0 31 29,yp 33 32 29,jl 34 0 11 29,zb 35 0 11 34 29,zu 36 33 35 29,jj 37 29 36]
abbrev QzM:IL:=[ja 38 8,ja 39 9,⟨some 40,.val (.iaddr 4 none (.t 39) (.c (.int .i64 0))),none⟩,jf 41 4 40,zw 42 4 1 0 4 41,yh 43 4 40 52 38 42,ja 8 43]
abbrev QzN:IL:=[ja 44 9,⟨some 45,.val (.slc (some 4) (.t 44) (some (.c (.int .i64 1))) none none),none⟩,ja 9 45]
abbrev SC:RC:=.seq (jD QzL (jX 37 2)) (.block 3 (jQ QzM (.reg QzN)))
abbrev Qbq:IL:=[ja 46 8,jf 47 2 3,ja 48 1,jf 49 8 11,yd 50 37 47 48 49,yh 51 4 40 52 46 50,ja 8 51]
abbrev Qbr:IL:=[jm 52 22 1,ja 22 52]
abbrev QzO:RC:=.gho (.drop 11) (jQ QzJ (.seq (jX 23 0) (.seq (.block 1 (jQ QzK (.seq (.block 2 (.loop SC)) (.reg Qbq)))) (.reg Qbr))))
abbrev Qbs:IL:=[ja 53 8,ja 54 9,yh 55 4 40 52 53 54,jr 56 58 55,ja 6 56]
abbrev r29:RC:=jQ QzE (jQ QzF (jQ QzG (.gho (.vec 8 8 4) (jQ QzH (.seq (jQ QzI (.block 0 (.loop QzO))) (jQ Qbs (.ret)))))))
abbrev o29:List RR:=[.tmp 6]
theorem k29:CT 29 57 r29 o29:=ck Tryz.func29 Tryz.ntmps29 (by decide +kernel)
abbrev QzP:IL:=[je 3 3 0,je 5 5 2,ye 6]
abbrev QzQ:IL:=[jb 10 0 3,jb 11 0 10,yb 12 0 3 11,ja 13 1,jk 14 3 12 13,ya 15 3 14,jb 16 0 5,yb 17 0 5 16,jy 18 72 15 17,ja 9 18,jx 19 9 0,jx 20 9 1,zd 7 7,zp 0 7 8 7 19,ja 8 20]
abbrev QzR:IL:=[ja 21 8,jz 22 21]
abbrev QzS:IL:=[ye 6]
abbrev QzT:IL:=[jw 23 0 7 8 7,jr 24 73 23,jw 25 0 3 2 3,jw 26 0 7 8 7,jb 27 1 5,jw 28 0 5 7 27,⟨some 29,.call (.t 24) [(.t 25),(.t 26),(.t 28)],none⟩,ja 6 29]
abbrev SD:RC:=jQ QzP (jD QzQ (.seq (jQ QzR (.cond (.t 22) (jQ QzS (.ret)) (.skip))) (jD QzT (.ret))))
abbrev o37:List RR:=[.tmp 6]
theorem k37:CT 37 30 SD o37:=ck Tryz.func37 Tryz.ntmps37 (by decide +kernel)
abbrev QzU:IL:=[jd 4 0]
abbrev QzV:IL:=[ja 6 0,ji 7 1 6,jd 8 0]
abbrev QzW:IL:=[jn 9 8 7]
abbrev QzX:IL:=[ja 10 8,ja 5 10]
abbrev QzY:IL:=[ja 11 1,ja 12 0,ja 13 5,jk 14 3 12 13,jf 15 3 14,DZ 16 11 15]
abbrev QzZ:IL:=[ja 17 5,ja 4 17]
abbrev Qz0:IL:=[jm 18 8 1,ja 8 18]
abbrev Qz1:RC:=jQ QzW (.seq (jX 9 0) (.seq (.block 1 (jQ QzX (jQ QzY (.cond (.t 16) (jQ QzZ (.ret)) (.skip))))) (.reg Qz0)))
abbrev Qz2:IL:=[jd 4 (-1)]
abbrev r52:RC:=jQ QzU (.seq (jQ QzV (.block 0 (.loop Qz1))) (jQ Qz2 (.ret)))
abbrev o52:List RR:=[.tmp 4]
theorem k52:CT 52 19 r52 o52:=ck Tryz.func52 Tryz.ntmps52 (by decide +kernel)
abbrev Qz3:IL:=[je 2 2 0,jh 3]
abbrev Qz4:IL:=[jb 4 0 2,jc 5 4,jc 6 1,F5 7 5 6,ja 3 7]
abbrev r53:RC:=jQ Qz3 (jQ Qz4 (.ret))
abbrev o53:List RR:=[.tmp 3]
theorem k53:CT 53 8 r53 o53:=ck Tryz.func53 Tryz.ntmps53 (by decide +kernel)
abbrev Qz5:IL:=[je 1 1 0,jd 2 0]
abbrev Qz6:IL:=[jf 4 2 1,jr 5 83 4,ja 3 5]
abbrev Qz7:IL:=[jd 2 3]
abbrev Qz8:IL:=[jf 7 2 1,jr 8 84 7,ja 6 8]
abbrev Qz9:IL:=[jd 2 8]
abbrev QAa:IL:=[jf 10 2 1,jr 11 85 10,ja 9 11]
abbrev QAb:IL:=[jd 2 11]
abbrev QAc:IL:=[jf 13 2 1,jr 14 86 13,ja 12 14]
abbrev QAd:IL:=[jd 2 9]
abbrev QAe:IL:=[jf 16 2 1,jr 17 87 16,ja 15 17]
abbrev Qbu:IL:=[jd 2 6]
abbrev Qbv:IL:=[jf 19 2 1,jr 20 88 19,ja 18 20]
abbrev Qbw:IL:=[jd 2 1]
abbrev Qbx:IL:=[jf 22 2 1,jr 23 89 22,ja 21 23]
abbrev Qby:IL:=[jd 2 19]
abbrev Qbz:IL:=[jd 2 0]
abbrev r54:RC:=jQ Qz5 (.seq (.block 0 (jQ Qz6 (.cond (.t 3) (jQ Qz7 (.ret)) (jQ Qz8 (.cond (.t 6) (jQ Qz9 (.ret)) (jQ QAa (.cond (.t 9) (jQ QAb (.ret)) (jQ QAc (.cond (.t 12) (jQ QAd (.ret)) (jQ QAe (.cond (.t 15) (jQ Qbu (.ret)) (jQ Qbv (.cond (.t 18) (jQ Qbw (.ret)) (jQ Qbx (.cond (.t 21) (jQ Qby (.ret)) (.skip)))))))))))))))) (jQ Qbz (.ret)))
abbrev o54:List RR:=[.tmp 2]
theorem k54:CT 54 24 r54 o54:=ck Tryz.func54 Tryz.ntmps54 (by decide +kernel)
abbrev QAf:IL:=[je 4 4 0,je 5 5 1,je 6 6 2,jd 8 0]
abbrev QAg:IL:=[jb 17 0 6,jc 18 17,yg 19 18 10,ja 20 19,yv 21 7 6 20,zi 22 90 21 20,jo 23 20 22,ja 16 23]
abbrev QAh:IL:=[jd 8 12]
abbrev QAi:IL:=[ja 25 3,yq 26 25 16,ja 24 26]
abbrev QAj:IL:=[jd 8 17]
abbrev QAk:IL:=[jb 27 5 6,jc 28 27,ji 29 1 28,jd 30 0]
abbrev QAl:IL:=[jn 31 30 29]
abbrev QAm:IL:=[ja 32 30,ja 9 32]
abbrev QAn:IL:=[jf 33 2 4,jf 34 3 5,jb 35 5 6,jc 36 35,ja 37 9,ja 38 3,⟨some 39,.call (.f 91) [(.t 33),(.t 34),(.t 36),(.t 37),(.t 38)],none⟩,ja 10 39]
abbrev QAo:IL:=[ja 40 10,yg 41 40 0]
abbrev QbA:IL:=[ja 42 10,ja 8 42]
abbrev QbB:IL:=[jm 43 30 1,ja 30 43]
abbrev SE:RC:=jQ QAl (.seq (jX 31 1) (.seq (.block 2 (jQ QAm (jQ QAn (jQ QAo (.cond (.t 41) (jQ QbA (.ret)) (.skip)))))) (.reg QbB)))
abbrev QbC:IL:=[jb 44 1 5,jc 45 44,ji 46 1 45,jd 47 0]
abbrev QbD:IL:=[jn 48 47 46]
abbrev QbE:IL:=[jk 49 8 45 47,jf 50 8 49,zd 12 12,js 8 12 50]
abbrev QbF:IL:=[jb 51 3 12,jc 52 51,jq 53 52 1,ja 54 53,jl 55 5 6 54,ju 56 55 54,⟨some 57,.val (.mkfn (.func 93) [] [(.t 12)]),(some (54,true))⟩,⟨some 58,.callF (.f 92) [(.t 56),(.t 57)],(some (54,true))⟩,yx 59 58 54,jj 60 54 59]
abbrev QbG:IL:=[jd 8 14]
abbrev QbH:IL:=[jm 61 47 1,ja 47 61]
abbrev SF:RC:=.gho (.drop 12) (jQ QbD (.seq (jX 48 3) (.seq (.block 4 (jQ QbE (jQ QbF (.cond (.t 60) (jQ QbG (.ret)) (.skip))))) (.reg QbH))))
abbrev QbI:IL:=[jb 62 6 6,jc 63 62,ji 64 1 63,jd 65 0]
abbrev QbJ:IL:=[jn 66 65 64]
abbrev QbK:IL:=[jk 67 4 63 65,jf 68 4 67,zn 14 14,js 4 14 68]
abbrev QbL:IL:=[jf 69 2 4,jf 70 3 5,jf 71 4 14,yd 72 94 69 70 71,ja 15 72]
abbrev QbM:IL:=[ja 73 15,yg 74 73 0]
abbrev QbN:IL:=[ja 75 15,ja 8 75]
abbrev QbO:IL:=[jm 76 65 1,ja 65 76]
abbrev SG:RC:=.gho (.drop 14) (jQ QbJ (.seq (jX 66 5) (.seq (.block 6 (jQ QbK (jQ QbL (jQ QbM (.cond (.t 74) (jQ QbN (.ret)) (.skip)))))) (.reg QbO))))
abbrev QbP:IL:=[jd 8 0]
abbrev r55:RC:=jQ QAf (.seq (.block 0 (jQ QAg (.cond (.t 16) (jQ QAh (.ret)) (jQ QAi (.cond (.t 24) (jQ QAj (.ret)) (.skip)))))) (.seq (jQ QAk (.block 1 (.loop SE))) (.seq (jQ QbC (.block 3 (.loop SF))) (.seq (jQ QbI (.block 5 (.loop SG))) (jQ QbP (.ret))))))
abbrev o55:List RR:=[.tmp 8]
theorem k55:CT 55 77 r55 o55:=ck Tryz.func55 Tryz.ntmps55 (by decide +kernel)
abbrev QAp:IL:=[je 1 1 0,jd 2 0]
abbrev QAq:IL:=[jb 6 6 1,jc 7 6,ji 8 1 7,⟨some 9,.val (.bin .num .add (.c (.int .i64 1)) (.t 8)),none⟩,ja 3 9]
abbrev QAr:IL:=[jf 10 7 1,jr 11 95 10,ji 12 1 11,jd 13 0]
abbrev QAs:IL:=[jn 14 13 12]
abbrev QAt:IL:=[jk 15 7 11 13,jf 16 7 15,yu 5 5,js 7 5 16]
abbrev QAu:IL:=[ja 17 3,jf 18 7 5,jr 19 56 18,yj 20 17 19,ja 3 20]
abbrev QAv:IL:=[jm 21 13 1,ja 13 21]
abbrev QAw:RC:=.gho (.drop 5) (jQ QAs (.seq (jX 14 0) (.seq (.block 1 (jQ QAt (.reg QAu))) (.reg QAv))))
abbrev QAx:IL:=[ja 22 3,ja 2 22]
abbrev r56:RC:=jQ QAp (jQ QAq (.seq (jQ QAr (.block 0 (.loop QAw))) (jQ QAx (.ret))))
abbrev o56:List RR:=[.tmp 2]
theorem k56:CT 56 23 r56 o56:=ck Tryz.func56 Tryz.ntmps56 (by decide +kernel)
abbrev QAy:IL:=[je 3 3 0,je 5 5 2,yu 6 6]
abbrev QAz:IL:=[jb 14 6 5,jc 15 14,NU 16 96 15,⟨some 17,.val (.build [.int .i64 0,.int .u64 0,.str [],.nils,.nils,.nils,.nils] [(0,1,(.c (.int .i64 10))),(6,1,(.t 16))]),none⟩,yu 7 7,js 7 7 17]
abbrev QAA:IL:=[ja 18 1,yo 19 18 0,ja 20 19,jv 21 1 20,jp 22 0 3 20,jt 23 22 20,yf 24 1 23 20,DY 25 21 24 20,jo 26 20 25]
abbrev QAB:IL:=[jf 27 7 7,js 7 6 27]
abbrev QAC:IL:=[jb 28 5 5,jc 29 28,jr 30 97 29,ji 31 1 30,jd 32 0]
abbrev QAD:IL:=[jn 33 32 31]
abbrev QAE:IL:=[jk 34 8 30 32,jf 35 8 34,NR 9 9,js 8 9 35]
abbrev QAF:IL:=[jb 37 0 3,yb 38 0 3 37,ja 39 1,jk 40 3 38 39,ya 41 3 40,jb 42 0 9,yb 43 0 9 42,jy 44 72 41 43,ja 36 44,jx 45 36 0,jx 46 36 1,zd 10 10,zp 0 10 8 10 45,ja 11 46]
abbrev QAG:IL:=[jb 47 3 10,jc 48 47,jq 49 48 3,ja 50 49,jp 51 3 10 50,jt 52 51 50,ys 53 52 4 50,jo 54 50 53,ja 55 54,jp 56 3 10 55,jt 57 56 55,ys 58 57 5 55,jo 59 55 58,ja 12 59]
abbrev QAH:IL:=[jf 60 2 3,jf 61 8 10,jb 62 1 9,jf 63 7 62,yd 64 98 60 61 63,yu 13 13,js 7 13 64]
abbrev QbR:IL:=[ja 65 12,jz 66 65,ja 67 66,yv 68 7 13 67,zi 69 99 68 67,ze 70 69 67,jo 71 67 70]
abbrev QbS:IL:=[jb 72 5 7,jc 73 72,jb 74 0 9,jc 75 74,jf 76 7 13,⟨some 77,.val (.build [.int .i64 0,.int .i64 0,.int .u64 0,.str [],.nils,.nils,.nils,.nils] [(0,1,(.t 75)),(1,7,(.t 76))]),none⟩,⟨some 78,.bsl 8 1 [.int .i64 0,.int .i64 0,.int .u64 0,.str [],.nils,.nils,.nils,.nils] [(0,8,(.t 77))],none⟩,yh 79 8 136 47 73 78,jb 80 5 7,js 1 80 79]
abbrev QbT:IL:=[jm 81 32 1,ja 32 81]
abbrev QAI:RC:=.gho (.drop 13) (.gho (.drop 10) (.gho (.drop 9) (jQ QAD (.seq (jX 33 0) (.seq (.block 1 (jQ QAE (jD QAF (jQ QAG (jQ QAH (jQ QbR (.cond (.t 71) (.reg QbS) (.skip)))))))) (.reg QbT))))))
abbrev QbU:IL:=[jb 82 6 7,jc 83 82,Hi 84 100 83 101]
abbrev QbV:IL:=[jf 85 7 7,js 7 6 85]
abbrev r57:RC:=jQ QAy (jQ QAz (.gho (.vecc 7 5 1100 8) (.seq (jQ QAA (.cond (.t 26) (jQ QAB (.ret)) (.skip))) (.seq (jQ QAC (.block 0 (.loop QAI))) (jQ QbU (jQ QbV (.ret)))))))
abbrev o57:List RR:=[.cell 6 (some 7)]
theorem k57:CT 57 86 r57 o57:=ck Tryz.func57 Tryz.ntmps57 (by decide +kernel)
abbrev QAJ:IL:=[yi 2]
abbrev QAK:IL:=[⟨some 3,.allocN 2128 [.nilp,.nils],none⟩]
abbrev QAL:IL:=[ja 8 0,ji 9 1 8,jd 10 0]
abbrev QAM:IL:=[jn 11 10 9]
abbrev QAN:IL:=[jk 12 4 8 10,jf 13 4 12,zn 5 5,js 4 5 13]
abbrev QAO:IL:=[jf 14 4 5,jr 15 103 14,jz 16 15]
abbrev QAP:IL:=[jb 18 0 5,jc 19 18,jb 20 1 5,jc 21 20,jy 22 104 19 21,ja 17 22,jx 23 17 0,jx 24 17 1,ja 6 23,ja 7 24]
abbrev QAQ:IL:=[ja 25 6,yr 26 105 3 25]
abbrev QbW:IL:=[jb 37 1 5,jc 38 37,jq 39 38 2,ja 36 39]
abbrev QbX:IL:=[jb 40 2 5,jc 41 40,jr 42 106 41,yr 43 105 3 42]
abbrev QbY:IL:=[jb 45 1 5,jc 46 45,jr 47 107 46,ja 44 47]
abbrev QbZ:IL:=[jb 48 2 5,jc 49 48,jr 50 108 49,yr 51 105 3 50]
abbrev QAR:IL:=[jb 27 3 5,jc 28 27,ji 29 0 28,zo 30 29,jr 31 108 30,yr 32 105 3 31]
abbrev QAS:IL:=[jb 33 3 5,jc 34 33,yr 35 105 3 34]
abbrev Qb0:IL:=[jm 52 10 1,ja 10 52]
abbrev QAT:RC:=.gho (.drop 5) (jQ QAM (.seq (jX 11 0) (.seq (.block 1 (jQ QAN (.seq (jQ QAO (.cond (.t 16) (.exit 1) (.skip))) (jQ QAP (jQ QAQ (.block 2 (jQ QbW (.cond (.t 36) (.reg QbX) (jQ QbY (.cond (.t 44) (.reg QbZ) (jQ QAR (.reg QAS)))))))))))) (.reg Qb0))))
abbrev Qb1:IL:=[NU 53 109 3,ja 2 53]
abbrev r58:RC:=jQ QAJ (jQ QAK (.gho (.vecc 2128 1 2005 1) (.seq (jQ QAL (.block 0 (.loop QAT))) (jQ Qb1 (.ret)))))
abbrev o58:List RR:=[.tmp 2]
theorem k58:CT 58 54 r58 o58:=ck Tryz.func58 Tryz.ntmps58 (by decide +kernel)
abbrev QAU:IL:=[je 2 2 0,je 3 3 1,zd 4 4,jh 5]
abbrev QAV:IL:=[DX 6 116 3,⟨some 7,.val (.build [.nilf] [(0,1,(.t 6))]),none⟩,jf 8 3 2,yr 9 117 7 8,jx 10 9 0,jx 11 9 1,js 8 4 10,ja 5 11]
abbrev r72:RC:=jQ QAU (jQ QAV (.ret))
abbrev o72:List RR:=[.cell 4 (some 8),.tmp 5]
theorem k72:CT 72 12 r72 o72:=ck Tryz.func72 Tryz.ntmps72 (by decide +kernel)
abbrev QAW:IL:=[je 1 1 0,⟨some 2,.val (.mov (.c (.nilf))),none⟩]
abbrev QAX:IL:=[jb 4 3 1,jc 5 4,jq 6 5 5,ja 3 6]
abbrev QAY:IL:=[⟨some 2,.val (.mov (.f 118)),none⟩]
abbrev QAZ:IL:=[jf 8 8 1,jr 9 119 8,ja 7 9]
abbrev QA0:IL:=[⟨some 2,.val (.mov (.f 120)),none⟩]
abbrev QA1:IL:=[jb 11 3 1,jc 12 11,jq 13 12 4,ja 10 13]
abbrev QA2:IL:=[⟨some 2,.val (.mov (.f 121)),none⟩]
abbrev QA3:IL:=[⟨some 2,.val (.mov (.f 122)),none⟩]
abbrev r73:RC:=jQ QAW (.seq (.block 0 (jQ QAX (.cond (.t 3) (jQ QAY (.ret)) (jQ QAZ (.cond (.t 7) (jQ QA0 (.ret)) (jQ QA1 (.cond (.t 10) (jQ QA2 (.ret)) (.skip)))))))) (jQ QA3 (.ret)))
abbrev o73:List RR:=[.tmp 2]
theorem k73:CT 73 14 r73 o73:=ck Tryz.func73 Tryz.ntmps73 (by decide +kernel)
abbrev QA4:IL:=[je 1 1 0,jh 2]
abbrev QA5:IL:=[jb 3 0 1,jc 4 3,ji 5 1 4,jb 6 1 1,jc 7 6,ji 8 1 7,⟨some 9,.val (.mnx true (.t 5) (.t 8)),none⟩,yq 10 9 64,ja 11 10,jp 12 0 1 11,jt 13 12 11,zq 14 133 13 134 11,jo 15 11 14,ja 16 15,jp 17 1 1 16,jt 18 17 16,zq 19 135 18 136 16,jo 20 16 19,ja 2 20]
abbrev r83:RC:=jQ QA4 (jQ QA5 (.ret))
abbrev o83:List RR:=[.tmp 2]
theorem k83:CT 83 21 r83 o83:=ck Tryz.func83 Tryz.ntmps83 (by decide +kernel)
abbrev QA6:IL:=[je 1 1 0,jh 2]
abbrev QA7:IL:=[jb 3 0 1,jc 4 3,Hi 5 133 4 137,ja 6 5,jp 7 1 1 6,jt 8 7 6,zq 9 135 8 142 6,jo 10 6 9,ja 2 10]
abbrev r84:RC:=jQ QA6 (jQ QA7 (.ret))
abbrev o84:List RR:=[.tmp 2]
theorem k84:CT 84 11 r84 o84:=ck Tryz.func84 Tryz.ntmps84 (by decide +kernel)
abbrev QA8:IL:=[je 1 1 0,jh 2]
abbrev QA9:IL:=[jb 3 0 1,jc 4 3,Hi 5 145 4 146,jz 6 5,ja 7 6,jp 8 1 1 7,jt 9 8 7,zq 10 147 9 148 7,ze 11 10 7,jo 12 7 11,ja 13 12,jp 14 0 1 13,jt 15 14 13,zq 16 133 15 149 13,jo 17 13 16,ja 18 17,jp 19 1 1 18,jt 20 19 18,zq 21 135 20 152 18,jo 22 18 21,ja 2 22]
abbrev r85:RC:=jQ QA8 (jQ QA9 (.ret))
abbrev o85:List RR:=[.tmp 2]
theorem k85:CT 85 23 r85 o85:=ck Tryz.func85 Tryz.ntmps85 (by decide +kernel)
abbrev QBa:IL:=[je 1 1 0,jh 2]
abbrev QBb:IL:=[jb 3 0 1,jc 4 3,DX 5 155 1,yr 6 133 4 5,ja 7 6,jp 8 1 1 7,jt 9 8 7,zq 10 135 9 159 7,jo 11 7 10,ja 2 11]
abbrev r86:RC:=jQ QBa (jQ QBb (.ret))
abbrev o86:List RR:=[.tmp 2]
theorem k86:CT 86 12 r86 o86:=ck Tryz.func86 Tryz.ntmps86 (by decide +kernel)
abbrev QBc:IL:=[je 1 1 0,jh 2]
abbrev QBd:IL:=[jb 3 0 1,jc 4 3,Hi 5 133 4 162,ja 6 5,jp 7 1 1 6,jt 8 7 6,zq 9 135 8 164 6,jo 10 6 9,ja 2 10]
abbrev r87:RC:=jQ QBc (jQ QBd (.ret))
abbrev o87:List RR:=[.tmp 2]
theorem k87:CT 87 11 r87 o87:=ck Tryz.func87 Tryz.ntmps87 (by decide +kernel)
abbrev QBe:IL:=[je 1 1 0,jh 2]
abbrev QBf:IL:=[jb 3 0 1,jc 4 3,DX 5 165 1,yr 6 133 4 5,ja 7 6,jp 8 1 1 7,jt 9 8 7,zq 10 135 9 171 7,jo 11 7 10,ja 2 11]
abbrev r88:RC:=jQ QBe (jQ QBf (.ret))
abbrev o88:List RR:=[.tmp 2]
theorem k88:CT 88 12 r88 o88:=ck Tryz.func88 Tryz.ntmps88 (by decide +kernel)
abbrev QBg:IL:=[je 1 1 0,jh 2]
abbrev QBh:IL:=[jb 6 0 1,jc 7 6,ji 8 1 7,⟨some 9,.mk 9 4 1 1 [.bool false] (.t 8) (.t 8),none⟩,⟨some 3,.allocN 3 [.nils],none⟩,js 1 3 9]
abbrev QBi:IL:=[jb 10 0 1,jc 11 10,ji 12 1 11,jd 13 0]
abbrev QBj:IL:=[jn 14 13 12]
abbrev QBk:IL:=[jb 15 0 1,jc 16 15,ji 17 1 16,jd 18 0]
abbrev QBl:IL:=[jn 19 18 17]
abbrev QBm:IL:=[ja 20 18,jk 21 3 16 18,jf 22 3 21,⟨some 5,.allocN 5 [.str [],.nils,.int .i64 0],none⟩,ja 4 20,js 3 5 22]
abbrev QBn:IL:=[yb 23 0 3 3,ja 24 4,yb 25 0 3 3,ja 26 4,jk 27 1 25 26,zx 28 27,ja 29 28,jp 30 1 5 29,zl 31 0 5 30 29,⟨some 32,.val (.mkfn (.func 174) [] [(.t 3)]),(some (29,false))⟩,⟨some 33,.callK 0 3 (.f 139) [(.t 31),(.t 32)],(some (29,false))⟩,ze 34 33 29,jo 35 29 34,jk 36 1 23 24,js 1 36 35]
abbrev QBo:IL:=[jm 37 18 1,ja 18 37]
abbrev QBp:RC:=.gho (.drop 5) (jQ QBl (.seq (jX 19 2) (.seq (.block 3 (jQ QBm (.draw QBn))) (.reg QBo))))
abbrev QBq:IL:=[jm 38 13 1,ja 13 38]
abbrev QBr:RC:=.gho (.drop 5) (jQ QBj (.seq (jX 14 0) (.seq (.block 1 (jQ QBk (.block 2 (.loop QBp)))) (.reg QBq))))
abbrev Qb2:IL:=[jc 39 3,⟨some 40,.call (.f 175) [(.t 39),(.c (.bool false))],none⟩,ja 2 40]
abbrev r89:RC:=jQ QBg (jQ QBh (.seq (jQ QBi (.block 0 (.loop QBr))) (jQ Qb2 (.ret))))
abbrev o89:List RR:=[.tmp 2]
theorem k89:CT 89 41 r89 o89:=ck Tryz.func89 Tryz.ntmps89 (by decide +kernel)
abbrev QBs:IL:=[je 1 1 0,jh 2]
abbrev QBt:IL:=[jb 4 0 1,jc 5 4,jq 6 5 7,ja 7 6,jp 8 0 1 7,jt 9 8 7,ys 10 9 8 7,jo 11 7 10,ja 3 11]
abbrev QBu:IL:=[jb 12 0 1,jc 13 12,yg 14 13 11,ja 15 14,jl 16 3 1 15,ju 17 16 15,yt 18 1 17 15,F6 19 18 0 15,jj 20 15 19,ja 21 20,jp 22 0 1 21,jt 23 22 21,NV 24 23 12 21,jv 25 24 21,jl 26 4 1 25,ju 27 26 25,yt 28 1 27 25,F6 29 28 0 25,yw 30 25 29 21,jo 31 21 30,ja 32 31,jp 33 0 1 32,jt 34 33 32,NV 35 34 10 32,jv 36 35 32,jl 37 5 1 36,ju 38 37 36,yt 39 1 38 36,jl 40 6 1 36,ju 41 40 36,yt 42 1 41 36,⟨some 43,.val (.bin .num .add (.t 39) (.t 42)),(some (36,true))⟩,F6 44 43 0 36,yw 45 36 44 32,jo 46 32 45,ja 47 46,jp 48 1 1 47,jt 49 48 47,⟨some 50,.val (.bin .num .neq (.t 49) (.c (.int .u64 0))),(some (47,false))⟩,jv 51 50 47,jg 52 3 51,jg 53 52 51,jp 54 0 1 53,jt 55 54 53,⟨some 56,.val (.bin .num .geq (.t 55) (.c (.int .i64 10))),(some (53,false))⟩,jv 57 56 53,jl 58 0 1 57,ju 59 58 57,yy 60 59 12 57,yw 61 57 60 53,zf 62 53 61 51,yw 63 51 62 47,jo 64 47 63,ja 65 64,jp 66 2 1 65,jt 67 66 65,⟨some 68,.val (.bin .str .neq (.t 67) (.c (.str []))),(some (65,false))⟩,jv 69 68 65,jg 70 3 69,yx 71 70 69,yw 72 69 71 65,jo 73 65 72,ja 2 73]
abbrev r90:RC:=jQ QBs (jQ QBt (jQ QBu (.ret)))
abbrev o90:List RR:=[.tmp 2]
theorem k90:CT 90 74 r90 o90:=ck Tryz.func90 Tryz.ntmps90 (by decide +kernel)
abbrev QBv:IL:=[je 5 5 0,je 6 6 1,jd 10 0]
abbrev QBw:IL:=[jw 18 0 6 3 6,ja 19 2,ja 20 3,jk 21 8 19 20,jb 22 0 21,zx 23 22,jy 24 72 18 23,ja 17 24,jx 25 17 0,jx 26 17 1,zd 11 11,zp 0 11 8 11 25,ja 12 26]
abbrev QBx:IL:=[ja 27 12,jz 28 27]
abbrev QBy:IL:=[jd 10 8]
abbrev QBz:IL:=[ja 29 2,ja 30 3,D0 31 8 29 30,DX 32 176 11,yr 33 92 31 32]
abbrev QBA:IL:=[jd 10 9]
abbrev QBB:IL:=[ja 34 2,ja 35 3,D0 36 8 34 35,ji 37 1 36,jd 38 0]
abbrev QBC:IL:=[jn 39 38 37]
abbrev QBD:IL:=[jk 40 8 36 38,jf 41 8 40,NR 14 14,js 8 14 41]
abbrev QBE:IL:=[jf 43 3 6,jb 44 0 14,jc 45 44,jy 46 72 43 45,ja 42 46,jx 47 42 0,jx 48 42 1,zd 15 15,js 8 15 47,ja 16 48]
abbrev Qb3:IL:=[jb 49 7 11,jc 50 49,yg 51 50 (-1),ja 52 51,jl 53 7 15 52,ju 54 53 52,jl 55 7 11 52,ju 56 55 52,MA 57 54 56 52,jj 58 52 57]
abbrev Qb4:IL:=[jd 10 15]
abbrev Qb5:IL:=[jm 59 38 1,ja 38 59]
abbrev QBF:RC:=.gho (.drop 15) (.gho (.drop 14) (jQ QBC (.seq (jX 39 0) (.seq (.block 1 (jQ QBD (jQ QBE (jQ Qb3 (.cond (.t 58) (jQ Qb4 (.ret)) (.skip)))))) (.reg Qb5)))))
abbrev Qb6:IL:=[jw 60 0 5 2 5,jw 61 0 11 8 11,ja 62 2,ja 63 3,jk 64 8 62 63,jb 65 1 64,ya 66 7 65,ja 67 4,zj 68 177 60 61 66 67,ja 10 68]
abbrev r91:RC:=jQ QBv (jD QBw (.seq (jQ QBx (.cond (.t 28) (jQ QBy (.ret)) (.skip))) (.seq (jQ QBz (.cond (.t 33) (jQ QBA (.ret)) (.skip))) (.seq (jQ QBB (.block 0 (.loop QBF))) (jD Qb6 (.ret))))))
abbrev o91:List RR:=[.tmp 10]
theorem k91:CT 91 69 r91 o91:=ck Tryz.func91 Tryz.ntmps91 (by decide +kernel)
abbrev QBG:IL:=[jh 4]
abbrev QBH:IL:=[ja 5 0,ja 6 1,yr 7 178 5 6,yn 8 7 0,ja 4 8]
abbrev r92:RC:=jQ QBG (jQ QBH (.ret))
abbrev o92:List RR:=[.tmp 4]
theorem k92:CT 92 9 r92 o92:=ck Tryz.func92 Tryz.ntmps92 (by decide +kernel)
abbrev QBI:IL:=[je 1 1 0,ye 2]
abbrev QBJ:IL:=[jb 8 3 1,jc 9 8,NU 10 180 9,ja 3 10]
abbrev QBK:IL:=[jb 11 4 1,jc 12 11,ji 13 1 12,jd 14 0]
abbrev QBL:IL:=[jn 15 14 13]
abbrev QBM:IL:=[jk 16 14 12 14,jf 17 14 16,MB 5 5,js 14 5 17]
abbrev QBN:IL:=[ja 18 3,jb 19 0 5,jf 20 7 19,jb 21 7 5,jf 22 7 21,⟨some 23,.bsl 7 2 [.int .i64 0,.int .u64 0,.str [],.nils,.nils,.nils,.nils] [(0,7,(.t 20)),(7,7,(.t 22))],none⟩,yh 24 7 128 32 18 23,ja 3 24]
abbrev QBO:IL:=[jm 25 14 1,ja 14 25]
abbrev QBP:RC:=.gho (.drop 5) (jQ QBL (.seq (jX 15 0) (.seq (.block 1 (jQ QBM (.reg QBN))) (.reg QBO))))
abbrev QBQ:IL:=[jb 26 5 1,jc 27 26,ji 28 1 27,jd 29 0]
abbrev QBR:IL:=[jn 30 29 28]
abbrev QBS:IL:=[jk 31 8 27 29,jf 32 8 31,NR 7 7,js 8 7 32]
abbrev Qb7:IL:=[ja 33 3,jb 34 1 7,jf 35 7 34,⟨some 36,.bsl 7 1 [.int .i64 0,.int .u64 0,.str [],.nils,.nils,.nils,.nils] [(0,7,(.t 35))],none⟩,yh 37 7 128 32 33 36,ja 3 37]
abbrev Qb8:IL:=[jm 38 29 1,ja 29 38]
abbrev QBT:RC:=.gho (.drop 7) (jQ QBR (.seq (jX 30 2) (.seq (.block 3 (jQ QBS (.reg Qb7))) (.reg Qb8))))
abbrev Qb9:IL:=[ja 39 3,ja 2 39]
abbrev r95:RC:=jQ QBI (jQ QBJ (.seq (jQ QBK (.block 0 (.loop QBP))) (.seq (jQ QBQ (.block 2 (.loop QBT))) (jQ Qb9 (.ret)))))
abbrev o95:List RR:=[.tmp 2]
theorem k95:CT 95 40 r95 o95:=ck Tryz.func95 Tryz.ntmps95 (by decide +kernel)
def V0:IL:=[ye 2]
def V1:IL:=[ja 3 0,⟨some 4,.isnil false (.t 3),none⟩]
def V2:IL:=[ye 2]
def V3:IL:=[⟨some 5,.bsl0 5 4,none⟩,ja 6 0,yh 7 4 40 52 5 6,ja 2 7]
def SH:RC:=jQ V0 (.seq (jQ V1 (.cond (.t 4) (jQ V2 (.gho (.vec 2 2 4) (.gho (.give 2 2 1 1000) (.ret)))) (.skip))) (jQ V3 (.gho (.give 2 5 1 1000) (.ret))))
def N0:List RR:=[.tmp 2]
theorem k96:CT 96 8 SH N0:=ck Tryz.func96 Tryz.ntmps96 (by decide +kernel)
abbrev QBU:IL:=[ye 2]
abbrev QBV:IL:=[ja 7 0,NU 8 181 7,ja 3 8]
abbrev QBW:IL:=[ja 9 3,Hi 10 182 9 183]
abbrev QBX:IL:=[ye 4]
abbrev QBY:IL:=[ja 11 3,ji 12 1 11,jd 13 0]
abbrev QBZ:IL:=[jn 14 13 12]
abbrev QB0:IL:=[ja 15 13,jk 16 8 11 13,jf 17 8 16,NR 6 6,ja 5 15,js 8 6 17]
abbrev QB1:IL:=[ja 18 5,jm 19 18 1,ja 20 3,ji 21 1 20,zm 22 19 21,ja 23 22,jp 24 0 6 23,zl 25 0 6 24 23,jv 26 3 23,jv 27 5 23,⟨some 28,.val (.bin .num .add (.t 27) (.c (.int .i64 1))),(some (23,false))⟩,yz 29 8 26 28 23,jp 30 0 29 23,NW 31 30 23,Mw 32 25 31 23,jo 33 23 32]
abbrev QB2:IL:=[ja 34 4,jf 35 8 6,⟨some 36,.bsl 8 1 [.int .i64 0,.int .i64 0,.int .u64 0,.str [],.nils,.nils,.nils,.nils] [(0,8,(.t 35))],none⟩,yh 37 8 136 47 34 36,ja 4 37]
abbrev QB3:IL:=[jm 38 13 1,ja 13 38]
abbrev QB4:RC:=.gho (.drop 6) (jQ QBZ (.seq (jX 14 0) (.seq (.block 1 (jQ QB0 (jD QB1 (.cond (.t 33) (.reg QB2) (.skip))))) (.reg QB3))))
abbrev Qcb:IL:=[ja 39 4,ja 2 39]
abbrev r97:RC:=jQ QBU (jQ QBV (jQ QBW (jQ QBX (.gho (.vec 4 4 8) (.seq (jQ QBY (.block 0 (.loop QB4))) (jQ Qcb (.ret)))))))
abbrev o97:List RR:=[.tmp 2]
theorem k97:CT 97 40 r97 o97:=ck Tryz.func97 Tryz.ntmps97 (by decide +kernel)
abbrev QB5:IL:=[je 3 3 0,je 4 4 1,je 5 5 2,yu 6 6]
abbrev QB6:IL:=[jb 13 3 4,jc 14 13]
abbrev QB7:IL:=[jq 16 14 4,ja 15 16]
abbrev QB8:IL:=[⟨some 17,.val (.build [.int .i64 0,.int .u64 0,.str [],.nils,.nils,.nils,.nils] [(0,1,(.c (.int .i64 11)))]),none⟩,yu 7 7,js 7 7 17]
abbrev QB9:IL:=[jb 18 3 5,jc 19 18,ji 20 1 19,jd 21 0]
abbrev QCa:IL:=[jn 22 21 20]
abbrev QCb:IL:=[jk 23 7 19 21,jf 24 7 23,yu 9 9,js 7 9 24]
abbrev QCc:IL:=[jb 25 3 7,yb 26 0 7 25,jw 27 0 3 2 3,jw 28 0 4 8 4,jw 29 0 9 7 9,yd 30 184 27 28 29,⟨some 31,.bsl 7 1 [.int .i64 0,.int .u64 0,.str [],.nils,.nils,.nils,.nils] [(0,7,(.t 30))],none⟩,yh 32 7 128 32 26 31,jb 33 3 7,zp 0 7 1 33 32]
abbrev QCd:IL:=[jm 34 21 1,ja 21 34]
abbrev QCe:RC:=.gho (.drop 9) (jQ QCa (.seq (jX 22 1) (.seq (.block 2 (jQ QCb (.draw QCc))) (.reg QCd))))
abbrev QCf:IL:=[jf 35 7 7,js 7 6 35]
abbrev Qcc:IL:=[jq 37 14 5,ja 36 37]
abbrev Qcd:IL:=[⟨some 38,.val (.build [.int .i64 0,.int .u64 0,.str [],.nils,.nils,.nils,.nils] [(0,1,(.c (.int .i64 12)))]),none⟩,yu 10 10,js 7 10 38]
abbrev Qce:IL:=[jb 39 4 5,jc 40 39,jr 41 185 40,ji 42 1 41,jd 43 0]
abbrev Qcf:IL:=[jn 44 43 42]
abbrev Qcg:IL:=[jk 45 14 41 43,jf 46 14 45,MB 12 12,js 14 12 46]
abbrev Qch:IL:=[jb 47 4 10,yb 48 0 10 47,jb 49 0 12,jw 50 0 12 7 49,jr 51 51 50,jw 52 0 3 2 3,jw 53 0 4 8 4,jb 54 7 12,jw 55 0 12 7 54,yd 56 184 52 53 55,⟨some 57,.val (.build [.int .i64 0,.int .u64 0,.str [],.nils,.nils,.nils,.nils,.int .i64 0,.int .u64 0,.str [],.nils,.nils,.nils,.nils] [(0,7,(.t 51)),(7,7,(.t 56))]),none⟩,⟨some 58,.bsl 14 1 [.int .i64 0,.int .u64 0,.str [],.nils,.nils,.nils,.nils,.int .i64 0,.int .u64 0,.str [],.nils,.nils,.nils,.nils] [(0,14,(.t 57))],none⟩,yh 59 14 256 75 48 58,jb 60 4 10,zp 0 10 1 60 59]
abbrev Qci:IL:=[jm 61 43 1,ja 43 61]
abbrev QCg:RC:=.gho (.drop 12) (jQ Qcf (.seq (jX 44 3) (.seq (.block 4 (jQ Qcg (.draw Qch))) (.reg Qci))))
abbrev Qcj:IL:=[jf 62 7 10,js 7 6 62]
abbrev Qck:IL:=[jf 63 2 3,jf 64 8 4,jf 65 7 5,yd 66 184 63 64 65,js 7 6 66]
abbrev r98:RC:=jQ QB5 (.seq (jQ QB6 (.block 0 (jQ QB7 (.cond (.t 15) (jQ QB8 (.gho (.vecc 7 3 1100 7) (.seq (jQ QB9 (.block 1 (.loop QCe))) (jQ QCf (.ret))))) (jQ Qcc (.cond (.t 36) (jQ Qcd (.gho (.vecc 10 4 1101 14) (.seq (jQ Qce (.block 3 (.loop QCg))) (jQ Qcj (.ret))))) (.skip))))))) (jQ Qck (.ret)))
abbrev o98:List RR:=[.cell 6 (some 7)]
theorem SI:CT 98 67 r98 o98:=ck Tryz.func98 Tryz.ntmps98 (by decide +kernel)
abbrev QCh:IL:=[je 1 1 0,jh 2]
abbrev QCi:IL:=[jb 3 0 1,jc 4 3,jq 5 4 11,ja 6 5,jl 7 3 1 6,ju 8 7 6,yt 9 1 8 6,ym 10 9 0 6,jj 11 6 10,ja 12 11,jp 13 0 1 12,jt 14 13 12,ys 15 14 12 12,jv 16 15 12,jl 17 4 1 16,ju 18 17 16,yt 19 1 18 16,ym 20 19 0 16,yw 21 16 20 12,jo 22 12 21,ja 23 22,yv 24 7 1 23,zi 25 186 24 23,jo 26 23 25,ja 2 26]
abbrev r99:RC:=jQ QCh (jQ QCi (.ret))
abbrev o99:List RR:=[.tmp 2]
theorem k99:CT 99 27 r99 o99:=ck Tryz.func99 Tryz.ntmps99 (by decide +kernel)
abbrev Qcl:IL:=[ja 4 0,ja 5 0,ji 6 1 5,ja 7 1,⟨some 8,.callF (.f 187) [(.t 4),(.t 6),(.t 7)],none⟩]
abbrev Qcm:RC:=.reg Qcl
abbrev Qcn:List RR:=[]
theorem QLP:CT 100 9 Qcm Qcn:=ck Tryz.func100 Tryz.ntmps100 (by decide +kernel)
abbrev Qco:IL:=[jd 4 0]
abbrev Qcp:IL:=[ja 7 0,jr 8 188 7,ja 5 8]
abbrev Qcq:IL:=[ja 9 1,jr 10 188 9,ja 6 10]
abbrev Qcr:IL:=[ja 11 5]
abbrev Qcs:IL:=[ja 12 6]
abbrev Qct:IL:=[jd 4 0]
abbrev Qcu:IL:=[jd 4 (-1)]
abbrev Qcv:IL:=[ja 13 6]
abbrev Qcw:IL:=[jd 4 1]
abbrev Qcx:IL:=[ja 14 0,ja 15 1,jn 16 14 15]
abbrev A1:IL:=[jd 4 (-1)]
abbrev A2:IL:=[ja 17 0,ja 18 1,F3 19 17 18]
abbrev A3:IL:=[jd 4 1]
abbrev A4:IL:=[jd 4 0]
abbrev Qcy:RC:=jQ Qco (jQ Qcp (jQ Qcq (.seq (jQ Qcr (.cond (.t 11) (.seq (jQ Qcs (.cond (.t 12) (jQ Qct (.ret)) (.skip))) (jQ Qcu (.ret))) (.skip))) (.seq (jQ Qcv (.cond (.t 13) (jQ Qcw (.ret)) (.skip))) (.seq (jQ Qcx (.cond (.t 16) (jQ A1 (.ret)) (.skip))) (.seq (jQ A2 (.cond (.t 19) (jQ A3 (.ret)) (.skip))) (jQ A4 (.ret))))))))
abbrev Qcz:List RR:=[.tmp 4]
theorem QcA:CT 102 20 Qcy Qcz:=ck Tryz.func102 Tryz.ntmps102 (by decide +kernel)
abbrev QcB:IL:=[je 1 1 0,jh 2]
abbrev QcC:IL:=[jb 6 0 1,jc 7 6,jb 8 1 1,jc 9 8,jy 10 104 7 9,ja 5 10,jx 11 5 0,jx 12 5 1,ja 3 11,ja 4 12]
abbrev QcD:IL:=[ja 13 4,yg 14 13 0]
abbrev QcE:IL:=[jh 2]
abbrev QcF:IL:=[jb 15 1 1,jc 16 15,jr 17 107 16]
abbrev QcG:IL:=[jb 18 3 1,jc 19 18,⟨some 20,.val (.bin .str .eql (.t 19) (.c (.str []))),none⟩,ja 2 20]
abbrev QcH:IL:=[jb 21 2 1,jc 22 21,Gs 23 22 0,ja 2 23]
abbrev QcI:RC:=jQ QcB (.seq (jQ QcC (jQ QcD (.cond (.t 14) (jQ QcE (.ret)) (.skip)))) (.seq (jQ QcF (.cond (.t 17) (jQ QcG (.ret)) (.skip))) (jQ QcH (.ret))))
abbrev QcJ:List RR:=[.tmp 2]
theorem QcK:CT 103 24 QcI QcJ:=ck Tryz.func103 Tryz.ntmps103 (by decide +kernel)
abbrev QcL:IL:=[yi 4,jd 5 0]
abbrev QcM:IL:=[ja 6 0,yo 7 6 1,ja 8 7,jv 9 0 8,yk 10 9 65535 8,jo 11 8 10,ja 12 11,jv 13 1 12,F7 14 13 0 12,jo 15 12 14,ja 16 15,jv 17 1 16,yk 18 17 6 16,jo 19 16 18]
abbrev QcN:IL:=[yi 4,jd 5 6]
abbrev QcO:IL:=[ja 20 0,⟨some 21,.val (.bin .num .mul (.t 20) (.c (.int .i64 8))),none⟩,ja 22 1,yj 23 21 22,zo 24 23,jr 25 108 24,ja 4 25,jd 5 0]
abbrev QcP:RC:=jQ QcL (.seq (jQ QcM (.cond (.t 19) (jQ QcN (.ret)) (.skip))) (jQ QcO (.ret)))
abbrev QcQ:List RR:=[.tmp 4,.tmp 5]
theorem QcR:CT 104 26 QcP QcQ:=ck Tryz.func104 Tryz.ntmps104 (by decide +kernel)
abbrev QcS:IL:=[jd 4 0,⟨some 5,.val (.mov (.c (.nili))),none⟩]
abbrev QcT:IL:=[ja 6 0,NU 7 189 6]
abbrev QcU:IL:=[ja 8 0,ja 9 0,F8 10 9,jb 11 1 10,jc 12 11,ja 13 1,⟨some 14,.appS 5 (.t 12) (.t 13),none⟩,F8 15 8,jb 16 1 15,js 1 16 14]
abbrev QcV:IL:=[ja 17 1,ji 18 0 17,ja 4 18,⟨some 5,.val (.mov (.c (.nili))),none⟩]
abbrev QcW:RC:=jQ QcS (jQ QcT (jQ QcU (jQ QcV (.ret))))
abbrev QcX:List RR:=[.tmp 4,.tmp 5]
theorem QcY:CT 105 19 QcW QcX:=ck Tryz.func105 Tryz.ntmps105 (by decide +kernel)
abbrev QcZ:IL:=[jh 2]
abbrev Qc0:IL:=[ja 3 0,jq 4 3 0,ja 5 4,jv 6 0 5,ys 7 6 1 5,jo 8 5 7,ja 9 8,jv 10 0 9,ys 11 10 2 9,jo 12 9 11,ja 2 12]
abbrev Qc1:RC:=jQ QcZ (jQ Qc0 (.ret))
abbrev Qc2:List RR:=[.tmp 2]
theorem Qc3:CT 107 13 Qc1 Qc2:=ck Tryz.func107 Tryz.ntmps107 (by decide +kernel)
abbrev Qc4:IL:=[yi 2]
abbrev Qc5:IL:=[ye 3]
abbrev Qc6:IL:=[ja 4 0,⟨some 5,.val (.bin .num .geq (.t 4) (.c (.int .u64 128))),none⟩]
abbrev Qc7:IL:=[ja 6 3,ja 7 0,D1 8 7,⟨some 9,.val (.bin .num .or (.t 8) (.c (.int .u8 128))),none⟩,NX 10 1 1 0 1 9,yh 11 1 1 5 6 10,ja 3 11]
abbrev Qc8:IL:=[ja 12 0,jbb 13 12 7,ja 0 13]
abbrev Qc9:RC:=.seq (jQ Qc6 (jX 5 0)) (.block 1 (jQ Qc7 (.reg Qc8)))
abbrev Qda:IL:=[ja 14 3,ja 15 0,D1 16 15,NX 17 1 1 0 1 16,yh 18 1 1 5 14 17,NY 19 18,ja 2 19]
abbrev Qdb:RC:=jQ Qc4 (jQ Qc5 (.gho (.vec 3 3 1) (.seq (.block 0 (.loop Qc9)) (jQ Qda (.ret)))))
abbrev Qdc:List RR:=[.tmp 2]
theorem Qdd:CT 108 20 Qdb Qdc:=ck Tryz.func108 Tryz.ntmps108 (by decide +kernel)
abbrev Qde:IL:=[yi 2]
abbrev Qdf:IL:=[ja 3 0,F8 4 3,jb 5 1 4,⟨some 6,.val (.loado none (.t 5)),none⟩,⟨some 7,.usd (.t 6),none⟩,ja 8 0,F8 9 8,jb 10 1 9,⟨some 11,.val (.loado none (.t 10)),none⟩,ji 12 1 11,⟨some 13,.ustr 5 (.t 7) (.t 12),none⟩,ja 2 13]
abbrev Qdg:RC:=jQ Qde (jD Qdf (.ret))
abbrev Qdh:List RR:=[.tmp 2]
theorem Qdi:CT 109 14 Qdg Qdh:=ck Tryz.func109 Tryz.ntmps109 (by decide +kernel)
abbrev Qdj:IL:=[je 2 2 0,jh 3]
abbrev Qdk:IL:=[jb 4 0 2,jc 5 4,jc 6 1,zm 7 5 6,ja 3 7]
abbrev Qdl:RC:=jQ Qdj (jQ Qdk (.ret))
abbrev Qdm:List RR:=[.tmp 3]
theorem Qdn:CT 116 8 Qdl Qdm:=ck Tryz.func116 Tryz.ntmps116 (by decide +kernel)
abbrev Qdo:IL:=[je 2 2 0,je 3 3 1,zd 4 4,jh 5]
abbrev Qdp:IL:=[jb 7 1 3,jc 8 7,jb 9 0 2,jc 10 9,yr 11 195 8 10,ja 6 11]
abbrev Qdq:IL:=[ja 12 6,yo 13 12 0]
abbrev Qdr:IL:=[⟨some 14,.val (.build [.int .i64 0,.str [],.str [],.int .i64 0,.int .i64 0,.int .i64 0,.int .i64 0,.int .i64 0] []),none⟩,js 8 4 14,jh 5]
abbrev Qds:IL:=[jb 15 1 3,jc 16 15,ja 17 6,jk 18 8 16 17,jf 19 8 18,js 8 4 19,yl 5]
abbrev Qdt:RC:=jQ Qdo (jQ Qdp (.seq (jQ Qdq (.cond (.t 13) (jQ Qdr (.ret)) (.skip))) (jQ Qds (.ret))))
abbrev Qdu:List RR:=[.cell 4 (some 8),.tmp 5]
theorem Qdv:CT 117 20 Qdt Qdu:=ck Tryz.func117 Tryz.ntmps117 (by decide +kernel)
abbrev Qdw:IL:=[je 1 1 0,jh 2]
abbrev Qdx:IL:=[jb 3 3 1,jc 4 3,jq 5 4 4,ja 6 5,jl 7 5 1 6,ju 8 7 6,Hj 9 8 1 6,jg 10 9 6,jl 11 5 1 10,ju 12 11 10,yy 13 12 6 10,⟨some 14,.val (.pick (.t 10) (.t 13) (.c (.bool false))),(some (6,true))⟩,jg 15 14 6,jp 16 5 1 15,jt 17 16 15,ys 18 17 9 15,zf 19 15 18 6,jj 20 6 19,ja 2 20]
abbrev Qdy:RC:=jQ Qdw (jQ Qdx (.ret))
abbrev Qdz:List RR:=[.tmp 2]
theorem QdA:CT 119 21 Qdy Qdz:=ck Tryz.func119 Tryz.ntmps119 (by decide +kernel)
abbrev QdB:IL:=[je 3 3 0,je 4 4 1,je 5 5 2,ye 6]
abbrev QdC:IL:=[jf 13 8 4,zd 7 7,js 8 7 13]
abbrev QdD:IL:=[jb 14 3 7,⟨none,.store 1 (.t 14) (.c (.int .i64 2)),none⟩]
abbrev QdE:IL:=[jf 15 8 7,jr 16 198 15,ja 8 16]
abbrev QdF:IL:=[ja 17 8,D1 18 17,⟨some 19,.bslv 19 1 1 [.int .u8 0] [(0,1,(.t 18))],none⟩,ja 9 19]
abbrev QdG:IL:=[jb 20 3 5,jc 21 20,ji 22 1 21,jd 23 0]
abbrev QdH:IL:=[jn 24 23 22]
abbrev QdI:IL:=[jk 25 7 21 23,jf 26 7 25,yu 11 11,js 7 11 26]
abbrev QdJ:IL:=[jf 27 7 11,jr 28 25 27,⟨some 29,.val (.fld 2 none (.t 28)),none⟩,ja 12 29]
abbrev QdK:IL:=[ja 30 8,jq 31 30 2]
abbrev A5:IL:=[ja 32 9,ja 33 12,jr 34 106 33,⟨some 35,.appS 5 (.t 32) (.t 34),none⟩,ja 9 35]
abbrev A6:IL:=[ja 36 9,ja 37 12,jr 38 108 37,⟨some 39,.appS 5 (.t 36) (.t 38),none⟩,ja 9 39]
abbrev A7:IL:=[jm 40 23 1,ja 23 40]
abbrev QdL:RC:=.gho (.drop 11) (jQ QdH (.seq (jX 24 0) (.seq (.block 1 (jQ QdI (jQ QdJ (jQ QdK (.cond (.t 31) (.reg A5) (.reg A6)))))) (.reg A7))))
abbrev A8:IL:=[jb 41 0 4,jc 42 41,ja 43 9,NY 44 43,⟨some 45,.val (.build [.int .i64 0,.int .i64 0,.int .u64 0,.str []] [(0,1,(.t 42)),(1,1,(.c (.int .i64 5))),(3,1,(.t 44))]),none⟩,zw 46 4 1 0 4 45,ja 6 46]
abbrev QdM:RC:=jQ QdB (jQ QdC (jQ QdD (jQ QdE (jQ QdF (.seq (jQ QdG (.block 0 (.loop QdL))) (jQ A8 (.ret)))))))
abbrev QdN:List RR:=[.tmp 6]
theorem QdO:CT 120 47 QdM QdN:=ck Tryz.func120 Tryz.ntmps120 (by decide +kernel)
abbrev QdP:IL:=[je 3 3 0,je 4 4 1,je 5 5 2,ye 6]
abbrev QdQ:IL:=[jb 7 0 4,yb 8 0 4 7,jw 9 0 3 2 3,jw 10 0 4 8 4,jw 11 0 5 7 5,yd 12 197 9 10 11,jy 13 196 8 12,zw 14 4 1 0 4 13,ja 6 14]
abbrev QdR:RC:=jQ QdP (jD QdQ (.ret))
abbrev QdS:List RR:=[.tmp 6]
theorem QdT:CT 122 15 QdR QdS:=ck Tryz.func122 Tryz.ntmps122 (by decide +kernel)
abbrev QdU:IL:=[jh 4]
abbrev QdV:IL:=[ja 5 0,ja 6 1,yr 7 203 5 6,ja 4 7]
abbrev QdW:RC:=jQ QdU (jQ QdV (.ret))
abbrev QdX:List RR:=[.tmp 4]
theorem QdY:CT 133 8 QdW QdX:=ck Tryz.func133 Tryz.ntmps133 (by decide +kernel)
abbrev QdZ:IL:=[je 1 1 0,jh 2]
abbrev Qd0:IL:=[jb 3 1 1,jc 4 3,ji 5 1 4,yq 6 5 64,ja 2 6]
abbrev Qd1:RC:=jQ QdZ (jQ Qd0 (.ret))
abbrev Qd2:List RR:=[.tmp 2]
theorem Qd3:CT 134 7 Qd1 Qd2:=ck Tryz.func134 Tryz.ntmps134 (by decide +kernel)
abbrev Qd4:IL:=[jh 4]
abbrev Qd5:IL:=[ja 5 0,ja 6 1,yr 7 204 5 6,ja 4 7]
abbrev Qd6:RC:=jQ Qd4 (jQ Qd5 (.ret))
abbrev Qd7:List RR:=[.tmp 4]
theorem Qd8:CT 135 8 Qd6 Qd7:=ck Tryz.func135 Tryz.ntmps135 (by decide +kernel)
abbrev Qd9:IL:=[je 1 1 0,jh 2]
abbrev Qea:IL:=[jb 3 0 1,jc 4 3,jr 5 138 4,jz 6 5,ja 7 6,jp 8 1 1 7,jt 9 8 7,zq 10 139 9 140 7,jo 11 7 10,ja 2 11]
abbrev Qeb:RC:=jQ Qd9 (jQ Qea (.ret))
abbrev Qec:List RR:=[.tmp 2]
theorem Qed:CT 137 12 Qeb Qec:=ck Tryz.func137 Tryz.ntmps137 (by decide +kernel)
abbrev Qee:IL:=[jh 2]
abbrev Qef:IL:=[ja 3 0,jr 4 205 3,ja 5 4,jg 6 0 5,⟨some 7,.call (.f 207) [(.t 6),(.c (.str [46]))],(some (5,true))⟩,⟨some 8,.callF (.f 206) [(.t 7),(.f 208)],(some (5,true))⟩,yx 9 8 5,jj 10 5 9,ja 2 10]
abbrev Qeg:RC:=jQ Qee (jQ Qef (.ret))
abbrev Qeh:List RR:=[.tmp 2]
theorem Qei:CT 138 11 Qeg Qeh:=ck Tryz.func138 Tryz.ntmps138 (by decide +kernel)
abbrev Qej:IL:=[jh 4]
abbrev Qek:IL:=[ja 5 0,ja 6 1,yr 7 209 5 6,ja 4 7]
abbrev Qel:RC:=jQ Qej (jQ Qek (.ret))
abbrev Qem:List RR:=[.tmp 4]
theorem Qen:CT 139 8 Qel Qem:=ck Tryz.func139 Tryz.ntmps139 (by decide +kernel)
abbrev Qeo:IL:=[je 1 1 0,jh 2]
abbrev Qep:IL:=[jb 3 1 1,jc 4 3,jr 5 141 4,jz 6 5,ja 2 6]
abbrev Qeq:RC:=jQ Qeo (jQ Qep (.ret))
abbrev Qer:List RR:=[.tmp 2]
theorem Qes:CT 140 7 Qeq Qer:=ck Tryz.func140 Tryz.ntmps140 (by decide +kernel)
abbrev Qet:IL:=[jh 2]
abbrev Qeu:IL:=[ja 3 0,jr 4 210 3,ja 5 4,jg 6 0 5,zh 7 208 6 5,yx 8 7 5,jj 9 5 8,ja 2 9]
abbrev Qev:RC:=jQ Qet (jQ Qeu (.ret))
abbrev Qew:List RR:=[.tmp 2]
theorem Qex:CT 141 10 Qev Qew:=ck Tryz.func141 Tryz.ntmps141 (by decide +kernel)
abbrev Qey:IL:=[jh 4]
abbrev Qez:IL:=[jd 5 1]
abbrev QeA:IL:=[ja 6 5,ja 7 0,ji 8 1 7,jn 9 6 8]
abbrev QeB:IL:=[ja 12 1,ja 13 0,ja 14 5,za 15 14 1,jk 16 3 13 15,ya 17 3 16,ja 18 0,ja 19 5,jk 20 3 18 19,ya 21 3 20,⟨some 22,.callF (.t 12) [(.t 17),(.t 21)],none⟩,jz 23 22]
abbrev QeC:IL:=[jh 4]
abbrev QeD:IL:=[ja 10 5,jm 11 10 1,ja 5 11]
abbrev QeE:RC:=.seq (jQ QeA (jX 9 0)) (.seq (.block 1 (jD QeB (.cond (.t 23) (jQ QeC (.ret)) (.skip)))) (.reg QeD))
abbrev QeF:IL:=[yl 4]
abbrev QeG:RC:=jQ Qey (.seq (jQ Qez (.block 0 (.loop QeE))) (jQ QeF (.ret)))
abbrev QeH:List RR:=[.tmp 4]
theorem QeI:CT 145 24 QeG QeH:=ck Tryz.func145 Tryz.ntmps145 (by decide +kernel)
abbrev QeJ:IL:=[jh 4]
abbrev QeK:IL:=[jd 5 1]
abbrev QeL:IL:=[ja 6 5,ja 7 0,ji 8 1 7,jn 9 6 8]
abbrev QeM:IL:=[ja 12 1,ja 13 0,ja 14 5,za 15 14 1,jk 16 5 13 15,ya 17 5 16,ja 18 0,ja 19 5,jk 20 5 18 19,ya 21 5 20,⟨some 22,.callF (.t 12) [(.t 17),(.t 21)],none⟩,jz 23 22]
abbrev QeN:IL:=[jh 4]
abbrev QeO:IL:=[ja 10 5,jm 11 10 1,ja 5 11]
abbrev QeP:RC:=.seq (jQ QeL (jX 9 0)) (.seq (.block 1 (jD QeM (.cond (.t 23) (jQ QeN (.ret)) (.skip)))) (.reg QeO))
abbrev QeQ:IL:=[yl 4]
abbrev QeR:RC:=jQ QeJ (.seq (jQ QeK (.block 0 (.loop QeP))) (jQ QeQ (.ret)))
abbrev QeS:List RR:=[.tmp 4]
theorem QeT:CT 147 24 QeR QeS:=ck Tryz.func147 Tryz.ntmps147 (by decide +kernel)
abbrev QeU:IL:=[je 1 1 0,jh 2]
abbrev QeV:IL:=[jb 3 1 1,jc 4 3,Hi 5 150 4 151,jz 6 5,ja 2 6]
abbrev QeW:RC:=jQ QeU (jQ QeV (.ret))
abbrev QeX:List RR:=[.tmp 2]
theorem QeY:CT 149 7 QeW QeX:=ck Tryz.func149 Tryz.ntmps149 (by decide +kernel)
abbrev QeZ:IL:=[jh 4]
abbrev Qe0:IL:=[jd 5 1]
abbrev Qe1:IL:=[ja 6 5,ja 7 0,ji 8 1 7,jn 9 6 8]
abbrev Qe2:IL:=[ja 12 1,ja 13 0,ja 14 5,za 15 14 1,jk 16 8 13 15,ya 17 8 16,ja 18 0,ja 19 5,jk 20 8 18 19,ya 21 8 20,⟨some 22,.callF (.t 12) [(.t 17),(.t 21)],none⟩,jz 23 22]
abbrev Qe3:IL:=[jh 4]
abbrev Qe4:IL:=[ja 10 5,jm 11 10 1,ja 5 11]
abbrev Qe5:RC:=.seq (jQ Qe1 (jX 9 0)) (.seq (.block 1 (jD Qe2 (.cond (.t 23) (jQ Qe3 (.ret)) (.skip)))) (.reg Qe4))
abbrev Qe6:IL:=[yl 4]
abbrev Qe7:RC:=jQ QeZ (.seq (jQ Qe0 (.block 0 (.loop Qe5))) (jQ Qe6 (.ret)))
abbrev Qe8:List RR:=[.tmp 4]
theorem Qe9:CT 150 24 Qe7 Qe8:=ck Tryz.func150 Tryz.ntmps150 (by decide +kernel)
abbrev Qfa:IL:=[je 2 2 0,je 3 3 1,jh 4]
abbrev Qfb:IL:=[jb 5 0 2,jc 6 5,jb 7 0 3,jc 8 7,jn 9 6 8,ja 4 9]
abbrev Qfc:RC:=jQ Qfa (jQ Qfb (.ret))
abbrev Qfd:List RR:=[.tmp 4]
theorem Qfe:CT 151 10 Qfc Qfd:=ck Tryz.func151 Tryz.ntmps151 (by decide +kernel)
abbrev Qff:IL:=[je 2 2 0,jh 3]
abbrev Qfg:IL:=[jb 4 1 1,jc 5 4,DX 6 156 2,yr 7 135 5 6,ja 8 7,jp 9 1 2 8,jt 10 9 8,zq 11 157 10 158 8,jo 12 8 11,ja 3 12]
abbrev Qfh:RC:=jQ Qff (jQ Qfg (.ret))
abbrev Qfi:List RR:=[.tmp 3]
theorem Qfj:CT 155 13 Qfh Qfi:=ck Tryz.func155 Tryz.ntmps155 (by decide +kernel)
abbrev Qfk:IL:=[je 3 3 1,jh 4]
abbrev Qfl:IL:=[ja 7 0,ji 8 1 7,jd 9 0]
abbrev Qfm:IL:=[jn 10 9 8]
abbrev Qfn:IL:=[ja 11 9,jk 12 8 7 9,jf 13 8 12,zd 6 6,ja 5 11,js 8 6 13]
abbrev Qfo:IL:=[ja 14 0,ja 15 5,D0 16 8 14 15,⟨some 17,.val (.mkfn (.func 212) [] [(.t 3),(.t 6)]),none⟩,yr 18 139 16 17]
abbrev Qfp:IL:=[yl 4]
abbrev Qfq:IL:=[jm 19 9 1,ja 9 19]
abbrev Qfr:RC:=.gho (.drop 6) (jQ Qfm (.seq (jX 10 0) (.seq (.block 1 (jQ Qfn (jQ Qfo (.cond (.t 18) (jQ Qfp (.ret)) (.skip))))) (.reg Qfq))))
abbrev Qfs:IL:=[jh 4]
abbrev Qft:RC:=jQ Qfk (.seq (jQ Qfl (.block 0 (.loop Qfr))) (jQ Qfs (.ret)))
abbrev Qfu:List RR:=[.tmp 4]
theorem Qfv:CT 157 20 Qft Qfu:=ck Tryz.func157 Tryz.ntmps157 (by decide +kernel)
abbrev Qfw:IL:=[je 1 1 0,yi 2]
abbrev Qfx:IL:=[jb 3 1 1,jc 4 3,ja 2 4]
abbrev Qfy:RC:=jQ Qfw (jQ Qfx (.ret))
abbrev Qfz:List RR:=[.tmp 2]
theorem QfA:CT 158 5 Qfy Qfz:=ck Tryz.func158 Tryz.ntmps158 (by decide +kernel)
abbrev QfB:IL:=[je 1 1 0,jh 2]
abbrev QfC:IL:=[jb 3 1 1,jc 4 3,Hi 5 139 4 163,ja 2 5]
abbrev QfD:RC:=jQ QfB (jQ QfC (.ret))
abbrev QfE:List RR:=[.tmp 2]
theorem QfF:CT 162 6 QfD QfE:=ck Tryz.func162 Tryz.ntmps162 (by decide +kernel)
abbrev QfG:IL:=[je 1 1 0,jh 2]
abbrev QfH:IL:=[jb 3 0 1,jc 4 3,yo 5 4 1,ja 6 5,jp 7 0 1 6,jt 8 7 6,yk 9 8 65535 6,jo 10 6 9,ja 2 10]
abbrev QfI:RC:=jQ QfG (jQ QfH (.ret))
abbrev QfJ:List RR:=[.tmp 2]
theorem QfK:CT 163 11 QfI QfJ:=ck Tryz.func163 Tryz.ntmps163 (by decide +kernel)
abbrev QfL:IL:=[je 2 2 0,jh 3]
abbrev QfM:IL:=[jf 4 3 2,jr 5 166 4,jz 6 5,ja 7 6,jp 8 1 2 7,jt 9 8 7,⟨some 10,.val (.mkfn (.func 167) [] [(.t 1)]),(some (7,false))⟩,⟨some 11,.callF (.f 139) [(.t 9),(.t 10)],(some (7,false))⟩,jo 12 7 11,ja 3 12]
abbrev QfN:RC:=jQ QfL (jQ QfM (.ret))
abbrev QfO:List RR:=[.tmp 3]
theorem QfP:CT 165 13 QfN QfO:=ck Tryz.func165 Tryz.ntmps165 (by decide +kernel)
abbrev QfQ:IL:=[je 1 1 0,jh 2]
abbrev QfR:IL:=[jd 3 (-1),jd 4 (-1)]
abbrev QfS:IL:=[jb 7 1 1,jc 8 7,ji 9 1 8,jd 10 0]
abbrev QfT:IL:=[jn 11 10 9]
abbrev QfU:IL:=[jk 12 8 8 10,jf 13 8 12,zd 6 6,js 8 6 13]
abbrev QfV:IL:=[jb 14 7 6,jc 15 14,yg 16 15 (-1),ja 17 16,jl 18 3 6 17,ju 19 18 17,zv 20 19 2 17,jg 21 20 17,jp 22 7 6 21,jt 23 22 21,jv 24 3 21,⟨some 25,.val (.bin .num .add (.t 24) (.c (.int .i64 1))),(some (21,false))⟩,Mw 26 23 25 21,jv 27 26 21,jl 28 7 6 27,ju 29 28 27,jg 30 4 27,⟨some 31,.val (.bin .num .neq (.t 29) (.t 30)),(some (27,true))⟩,yw 32 27 31 21,zf 33 21 32 17,jj 34 17 33]
abbrev QfW:IL:=[jh 2]
abbrev QfX:IL:=[ja 35 3,jb 36 7 6,yb 37 0 6 36,⟨some 38,.val (.mnx true (.t 35) (.t 37)),none⟩,jb 39 7 6,yb 40 0 6 39,ja 3 38,ja 4 40]
abbrev QfY:IL:=[jm 41 10 1,ja 10 41]
abbrev QfZ:RC:=.gho (.drop 6) (jQ QfT (.seq (jX 11 0) (.seq (.block 1 (jQ QfU (.seq (jQ QfV (.cond (.t 34) (jQ QfW (.ret)) (.skip))) (.draw QfX)))) (.reg QfY))))
abbrev Qf0:IL:=[jb 42 2 1,jc 43 42,ja 44 3,jm 45 44 1,zm 46 43 45,ja 2 46]
abbrev Qf1:RC:=jQ QfQ (jQ QfR (.seq (jQ QfS (.block 0 (.loop QfZ))) (jQ Qf0 (.ret))))
abbrev Qf2:List RR:=[.tmp 2]
theorem Qf3:CT 166 47 Qf1 Qf2:=ck Tryz.func166 Tryz.ntmps166 (by decide +kernel)
abbrev Qf4:IL:=[je 2 2 0,jh 3]
abbrev Qf5:IL:=[jb 4 2 2,jc 5 4,jr 6 168 5,jz 7 6,ja 8 7,jp 9 2 2 8,jt 10 9 8,yf 11 0 10 8,yk 12 11 4096 8,jo 13 8 12,ja 14 13,jp 15 3 2 14,jt 16 15 14,F7 17 16 1 14,jo 18 14 17,ja 19 18,jp 20 3 2 19,jt 21 20 19,yk 22 21 5 19,jo 23 19 22,ja 24 23,yv 25 8 2 24,zi 26 169 25 24,ze 27 26 24,jo 28 24 27,ja 29 28,yv 30 2 1 29,yv 31 8 2 29,SB 32 170 30 31 29,ze 33 32 29,jo 34 29 33,ja 3 34]
abbrev Qf6:RC:=jQ Qf4 (jQ Qf5 (.ret))
abbrev Qf7:List RR:=[.tmp 3]
theorem Qf8:CT 167 35 Qf6 Qf7:=ck Tryz.func167 Tryz.ntmps167 (by decide +kernel)
abbrev Qf9:IL:=[jh 2]
abbrev Qga:IL:=[ja 3 0,jr 4 216 3,yo 5 4 0,ja 2 5]
abbrev Qgb:RC:=jQ Qf9 (jQ Qga (.ret))
abbrev Qgc:List RR:=[.tmp 2]
theorem Qgd:CT 168 6 Qgb Qgc:=ck Tryz.func168 Tryz.ntmps168 (by decide +kernel)
abbrev Qge:IL:=[je 1 1 0,jh 2]
abbrev Qgf:IL:=[jb 3 3 1,jc 4 3,yg 5 4 5]
abbrev Qgg:IL:=[jb 6 4 1,jc 7 6,jq 8 7 0,ja 2 8]
abbrev Qgh:IL:=[jb 9 4 1,jc 10 9,yn 11 10 1,ja 12 11,jl 13 4 1 12,ju 14 13 12,yy 15 14 7 12,jj 16 12 15,ja 17 16,jl 18 4 1 17,ju 19 18 17,zv 20 19 6 17,jj 21 17 20,ja 2 21]
abbrev Qgi:RC:=jQ Qge (.seq (jQ Qgf (.cond (.t 5) (jQ Qgg (.ret)) (.skip))) (jQ Qgh (.ret)))
abbrev Qgj:List RR:=[.tmp 2]
theorem Qgk:CT 169 22 Qgi Qgj:=ck Tryz.func169 Tryz.ntmps169 (by decide +kernel)
abbrev Qgl:IL:=[je 2 2 0,je 3 3 1,jh 4]
abbrev Qgm:IL:=[jb 5 5 3,jc 6 5]
abbrev Qgn:IL:=[jq 8 6 10,ja 7 8]
abbrev Qgo:IL:=[jb 9 6 3,jc 10 9,yn 11 10 0,ja 12 11,jl 13 6 3 12,ju 14 13 12,jl 15 0 2 12,ju 16 15 12,yt 17 1 16 12,zu 18 14 17 12,jj 19 12 18,ja 20 19,jl 21 3 3 20,ju 22 21 20,zv 23 22 3 20,jj 24 20 23,ja 4 24]
abbrev Qgp:IL:=[jq 26 6 9,ja 25 26]
abbrev Qgq:IL:=[jb 27 6 3,jc 28 27,yn 29 28 0,ja 30 29,jl 31 6 3 30,ju 32 31 30,jl 33 1 2 30,ju 34 33 30,yt 35 1 34 30,zu 36 32 35 30,jj 37 30 36,ja 4 37]
abbrev Qgr:IL:=[jb 38 5 3,jc 39 38,jr 40 217 39,ja 41 40,jl 42 6 3 41,ju 43 42 41,ym 44 43 (-1) 41,jj 45 41 44,ja 4 45]
abbrev Qgs:RC:=jQ Qgl (.seq (jQ Qgm (.block 0 (jQ Qgn (.cond (.t 7) (jQ Qgo (.ret)) (jQ Qgp (.cond (.t 25) (jQ Qgq (.ret)) (.skip))))))) (jQ Qgr (.ret)))
abbrev Qgt:List RR:=[.tmp 4]
theorem Qgu:CT 170 46 Qgs Qgt:=ck Tryz.func170 Tryz.ntmps170 (by decide +kernel)
abbrev Qgv:IL:=[je 2 2 0,jh 3]
abbrev Qgw:IL:=[jb 4 3 2,jc 5 4,jq 6 5 1,ja 7 6,jl 8 5 2 7,ju 9 8 7,ym 10 9 10 7,jj 11 7 10,ja 12 11,ju 13 1 12,jl 14 6 2 12,ju 15 14 12,yc 16 1 13 15 12,ju 17 16 12,yx 18 17 12,jj 19 12 18,ja 3 19]
abbrev Qgx:RC:=jQ Qgv (jQ Qgw (.ret))
abbrev Qgy:List RR:=[.tmp 3]
theorem Qgz:CT 174 20 Qgx Qgy:=ck Tryz.func174 Tryz.ntmps174 (by decide +kernel)
abbrev QgA:IL:=[jh 4]
abbrev QgB:IL:=[ja 5 0,ja 6 1,jy 7 219 5 6,yn 8 7 0,ja 4 8]
abbrev QgC:RC:=jQ QgA (jQ QgB (.ret))
abbrev QgD:List RR:=[.tmp 4]
theorem QgE:CT 175 9 QgC QgD:=ck Tryz.func175 Tryz.ntmps175 (by decide +kernel)
abbrev QgF:IL:=[je 2 2 0,jh 3]
abbrev QgG:IL:=[jb 4 0 2,jc 5 4,jb 6 0 1,jc 7 6,zm 8 5 7,ja 3 8]
abbrev QgH:RC:=jQ QgF (jQ QgG (.ret))
abbrev QgI:List RR:=[.tmp 3]
theorem QgJ:CT 176 9 QgH QgI:=ck Tryz.func176 Tryz.ntmps176 (by decide +kernel)
abbrev QgK:IL:=[je 4 4 0,je 5 5 1,je 6 6 2,jd 8 0]
abbrev QgL:IL:=[jb 12 3 5,jc 13 12]
abbrev QgM:IL:=[jq 15 13 4,ja 14 15]
abbrev QgN:IL:=[jb 16 0 6,jc 17 16,yg 18 17 11,ja 19 18,yv 20 7 6 19,zi 21 90 20 19,jo 22 19 21]
abbrev QgO:IL:=[jd 8 12]
abbrev QgP:IL:=[jb 23 3 6,jc 24 23,ji 25 1 24,jd 26 0]
abbrev QgQ:IL:=[jn 27 26 25]
abbrev QgR:IL:=[jk 28 7 24 26,jf 29 7 28,yu 10 10,js 7 10 29]
abbrev QgS:IL:=[jf 30 2 4,jf 31 8 5,jf 32 7 10,ja 33 3,zj 34 220 30 31 32 33,ja 11 34]
abbrev QgT:IL:=[ja 35 11,yg 36 35 0]
abbrev A9:IL:=[ja 37 11,ja 8 37]
abbrev Ea:IL:=[jm 38 26 1,ja 26 38]
abbrev QgU:RC:=.gho (.drop 10) (jQ QgQ (.seq (jX 27 1) (.seq (.block 2 (jQ QgR (jQ QgS (jQ QgT (.cond (.t 36) (jQ A9 (.ret)) (.skip)))))) (.reg Ea))))
abbrev Eb:IL:=[jd 8 0]
abbrev Ec:IL:=[jq 40 13 5,ja 39 40]
abbrev Ed:IL:=[jb 41 0 6,jc 42 41,yg 43 42 12,ja 44 43,yv 45 7 6 44,zi 46 90 45 44,jo 47 44 46]
abbrev Ee:IL:=[jd 8 12]
abbrev Ef:IL:=[jf 48 2 4,jf 49 8 5,jb 50 4 6,jc 51 50,ja 52 3,zj 53 221 48 49 51 52,ja 8 53]
abbrev Eg:IL:=[jf 54 2 4,jf 55 8 5,jf 56 7 6,ja 57 3,zj 58 220 54 55 56 57,ja 8 58]
abbrev QgV:RC:=jQ QgK (.seq (jQ QgL (.block 0 (jQ QgM (.cond (.t 14) (.seq (jQ QgN (.cond (.t 22) (jQ QgO (.ret)) (.skip))) (.seq (jQ QgP (.block 1 (.loop QgU))) (jQ Eb (.ret)))) (jQ Ec (.cond (.t 39) (.seq (jQ Ed (.cond (.t 47) (jQ Ee (.ret)) (.skip))) (jQ Ef (.ret))) (.skip))))))) (jQ Eg (.ret)))
abbrev QgW:List RR:=[.tmp 8]
theorem QgX:CT 177 59 QgV QgW:=ck Tryz.func177 Tryz.ntmps177 (by decide +kernel)
abbrev QgY:IL:=[jd 4 0]
abbrev QgZ:IL:=[ja 6 0,ji 7 1 6,jd 8 0]
abbrev Qg0:IL:=[jn 9 8 7]
abbrev Qg1:IL:=[ja 10 8,ja 5 10]
abbrev Qg2:IL:=[ja 11 1,ja 12 0,ja 13 5,jk 14 8 12 13,jf 15 8 14,DZ 16 11 15]
abbrev Qg3:IL:=[ja 17 5,ja 4 17]
abbrev Qg4:IL:=[jm 18 8 1,ja 8 18]
abbrev Qg5:RC:=jQ Qg0 (.seq (jX 9 0) (.seq (.block 1 (jQ Qg1 (jQ Qg2 (.cond (.t 16) (jQ Qg3 (.ret)) (.skip))))) (.reg Qg4)))
abbrev Qg6:IL:=[jd 4 (-1)]
abbrev Qg7:RC:=jQ QgY (.seq (jQ QgZ (.block 0 (.loop Qg5))) (jQ Qg6 (.ret)))
abbrev Qg8:List RR:=[.tmp 4]
theorem Qg9:CT 178 19 Qg7 Qg8:=ck Tryz.func178 Tryz.ntmps178 (by decide +kernel)
def Bb:IL:=[ye 2]
def Bc:IL:=[ja 3 0,⟨some 4,.isnil false (.t 3),none⟩]
def Bd:IL:=[ye 2]
def Be:IL:=[⟨some 5,.bsl0 5 7,none⟩,ja 6 0,yh 7 7 128 32 5 6,ja 2 7]
def V4:RC:=jQ Bb (.seq (jQ Bc (.cond (.t 4) (jQ Bd (.gho (.vec 2 2 7) (.gho (.give 2 2 1 1000) (.ret)))) (.skip))) (jQ Be (.gho (.give 2 5 1 1000) (.ret))))
def Dk:List RR:=[.tmp 2]
theorem Rr:CT 180 8 V4 Dk:=ck Tryz.func180 Tryz.ntmps180 (by decide +kernel)
def Bf:IL:=[ye 2]
def Bg:IL:=[ja 3 0,⟨some 4,.isnil false (.t 3),none⟩]
def Bh:IL:=[ye 2]
def Bi:IL:=[⟨some 5,.bsl0 5 8,none⟩,ja 6 0,yh 7 8 136 47 5 6,ja 2 7]
def V5:RC:=jQ Bf (.seq (jQ Bg (.cond (.t 4) (jQ Bh (.gho (.vec 2 2 8) (.gho (.give 2 2 1 1000) (.ret)))) (.skip))) (jQ Bi (.gho (.give 2 5 1 1000) (.ret))))
def Dl:List RR:=[.tmp 2]
theorem Rs:CT 181 8 V5 Dl:=ck Tryz.func181 Tryz.ntmps181 (by decide +kernel)
abbrev Qha:IL:=[ja 4 0,ja 5 0,ji 6 1 5,ja 7 1,⟨some 8,.callF (.f 223) [(.t 4),(.t 6),(.t 7)],none⟩]
abbrev Qhb:RC:=.reg Qha
abbrev Qhc:List RR:=[]
theorem QLQ:CT 182 9 Qhb Qhc:=ck Tryz.func182 Tryz.ntmps182 (by decide +kernel)
abbrev Qhd:IL:=[je 2 2 0,je 3 3 1,jd 4 0]
abbrev Qhe:IL:=[jb 5 0 2,jc 6 5,jb 7 0 3,jc 8 7,jy 9 102 6 8,ja 4 9]
abbrev Qhf:RC:=jQ Qhd (jQ Qhe (.ret))
abbrev Qhg:List RR:=[.tmp 4]
theorem Qhh:CT 183 10 Qhf Qhg:=ck Tryz.func183 Tryz.ntmps183 (by decide +kernel)
abbrev Qhi:IL:=[je 3 3 0,je 4 4 1,je 5 5 2,yu 6 6]
abbrev Qhj:IL:=[jb 7 5 4,jc 8 7,jq 9 8 10]
abbrev Qhk:IL:=[jf 10 2 3,jb 11 6 4,jc 12 11,jf 13 7 5,yd 14 57 10 12 13,js 7 6 14]
abbrev Qhl:IL:=[jf 15 7 5,jr 16 51 15,js 7 6 16]
abbrev Qhm:RC:=jQ Qhi (.seq (jQ Qhj (.cond (.t 9) (jQ Qhk (.ret)) (.skip))) (jQ Qhl (.ret)))
abbrev Qhn:List RR:=[.cell 6 (some 7)]
theorem Rt:CT 184 17 Qhm Qhn:=ck Tryz.func184 Tryz.ntmps184 (by decide +kernel)
abbrev Qho:IL:=[je 1 1 0,jh 2]
abbrev Qhp:IL:=[jb 3 0 1,jc 4 3,jr 5 217 4,ja 6 5,zk 7 7 1 6,zh 8 229 7 6,jj 9 6 8,ja 10 9,jl 11 1 1 10,ju 12 11 10,My 13 12 0 10,jj 14 10 13,ja 15 14,jl 16 2 1 15,ju 17 16 15,⟨some 18,.val (.bin .str .eql (.t 17) (.c (.str []))),(some (15,true))⟩,jj 19 15 18,ja 2 19]
abbrev Qhq:RC:=jQ Qho (jQ Qhp (.ret))
abbrev Qhr:List RR:=[.tmp 2]
theorem Qhs:CT 186 20 Qhq Qhr:=ck Tryz.func186 Tryz.ntmps186 (by decide +kernel)
def Qht:IL:=[jd 6 20]
def Qhu:IL:=[ja 10 6,jd 7 0,ja 8 10]
def Qhv:IL:=[ja 11 8,ja 12 1,F9 13 11 12]
def Qhw:IL:=[ja 14 0,ja 15 7,ja 16 8,ja 17 2,⟨some 18,.callF (.f 230) [(.t 14),(.t 15),(.t 16),(.t 17)],none⟩]
def Qhx:IL:=[ja 19 8,ja 7 19]
def Qhy:IL:=[ja 20 8,ja 21 6,yj 22 20 21,ja 8 22]
def Qhz:RC:=.seq (jQ Qhv (jX 13 0)) (.block 1 (jQ Qhw (jQ Qhx (.reg Qhy))))
def QhA:IL:=[ja 23 0,ja 24 7,ja 25 1,ja 26 2,⟨some 27,.callF (.f 230) [(.t 23),(.t 24),(.t 25),(.t 26)],none⟩]
def QhB:IL:=[ja 28 6,ja 29 1,jn 30 28 29]
def QhC:IL:=[ja 31 6,MD 32 2 31,jd 7 0,ja 8 32]
def QhD:IL:=[ja 33 8,ja 34 1,F9 35 33 34]
def Eh:IL:=[ja 36 0,ja 37 7,ja 38 7,ja 39 6,yj 40 38 39,ja 41 8,ja 42 2,SA 43 231 36 37 40 41 42]
def Ei:IL:=[ja 44 8,ja 7 44]
def Ej:IL:=[ja 45 8,ja 46 6,MD 47 2 46,yj 48 45 47,ja 8 48]
def QhE:RC:=.seq (jQ QhD (jX 35 4)) (.block 5 (jQ Eh (jQ Ei (.reg Ej))))
def Ek:IL:=[ja 49 7,ja 50 6,yj 51 49 50,ja 9 51]
def Em:IL:=[ja 52 9,ja 53 1,jn 54 52 53]
def Eo:IL:=[ja 55 0,ja 56 7,ja 57 9,ja 58 1,ja 59 2,SA 60 231 55 56 57 58 59]
def Ep:IL:=[ja 61 6,⟨some 62,.val (.bin .num .mul (.t 61) (.c (.int .i64 2))),none⟩,ja 6 62]
def QhF:RC:=.seq (jQ QhB (jX 30 2)) (.block 3 (jQ QhC (.seq (.block 4 (.loop QhE)) (.seq (jQ Ek (jQ Em (.cond (.t 54) (.reg Eo) (.skip)))) (.reg Ep)))))
def QhG:RC:=jQ Qht (jQ Qhu (.seq (.block 0 (.loop Qhz)) (jQ QhA (.block 2 (.loop QhF)))))
def QhH:List RR:=[]
theorem QLR:CT 187 63 QhG QhH:=ck Tryz.func187 Tryz.ntmps187 (by decide +kernel)
abbrev QhI:IL:=[jh 2]
abbrev QhJ:IL:=[ja 3 0,ja 4 0,zs 5 3 4,ja 2 5]
abbrev QhK:RC:=jQ QhI (jQ QhJ (.ret))
abbrev QhL:List RR:=[.tmp 2]
theorem QhM:CT 188 6 QhK QhL:=ck Tryz.func188 Tryz.ntmps188 (by decide +kernel)
abbrev QhN:IL:=[ja 2 0,F8 3 2,jb 4 0 3,jc 5 4,⟨some 6,.val (.bin .ptr .eql (.t 5) (.c (.nilp))),none⟩]
abbrev QhO:IL:=[ja 7 0,ja 8 0,⟨some 9,.val (.toU (.t 8)),none⟩,⟨some 10,.val (.same (.t 9)),none⟩,⟨some 11,.val (.ofU 128 2 (.t 10)),none⟩,F8 12 7,jb 13 0 12,js 1 13 11]
abbrev QhP:IL:=[ja 14 0,F8 15 14,jb 16 0 15,jc 17 16,ja 18 0,⟨some 19,.val (.bin .ptr .neq (.t 17) (.t 18)),none⟩]
abbrev QhQ:RC:=jQ QhN (.cond (.t 6) (.reg QhO) (jQ QhP (.cond (.t 19) (.no) (.skip))))
abbrev QhR:List RR:=[]
theorem QhS:CT 189 20 QhQ QhR:=ck Tryz.func189 Tryz.ntmps189 (by decide +kernel)
abbrev QhT:IL:=[jd 4 0]
abbrev QhU:IL:=[ja 6 0,ji 7 1 6,jd 8 0]
abbrev QhV:IL:=[jn 9 8 7]
abbrev QhW:IL:=[ja 10 8,ja 5 10]
abbrev QhX:IL:=[ja 11 1,ja 12 0,ja 13 5,jk 14 8 12 13,jf 15 8 14,DZ 16 11 15]
abbrev QhY:IL:=[ja 17 5,ja 4 17]
abbrev QhZ:IL:=[jm 18 8 1,ja 8 18]
abbrev Qh0:RC:=jQ QhV (.seq (jX 9 0) (.seq (.block 1 (jQ QhW (jQ QhX (.cond (.t 16) (jQ QhY (.ret)) (.skip))))) (.reg QhZ)))
abbrev Qh1:IL:=[jd 4 (-1)]
abbrev Qh2:RC:=jQ QhT (.seq (jQ QhU (.block 0 (.loop Qh0))) (jQ Qh1 (.ret)))
abbrev Qh3:List RR:=[.tmp 4]
theorem Ru:CT 195 19 Qh2 Qh3:=ck Tryz.func195 Tryz.ntmps195 (by decide +kernel)
abbrev Qh4:IL:=[je 3 3 1,zn 4 4]
abbrev Qh5:IL:=[ja 5 0,jb 6 0 3,js 1 6 5]
abbrev Qh6:IL:=[jf 7 4 3,js 4 4 7]
abbrev Qh7:RC:=jQ Qh4 (jQ Qh5 (jQ Qh6 (.ret)))
abbrev Qh8:List RR:=[.cell 4 (some 4)]
theorem Qh9:CT 196 8 Qh7 Qh8:=ck Tryz.func196 Tryz.ntmps196 (by decide +kernel)
abbrev Qia:IL:=[je 3 3 0,je 4 4 1,je 5 5 2,zn 6 6]
abbrev Qib:IL:=[jb 7 5 4,jc 8 7,jq 9 8 10]
abbrev Qic:IL:=[jf 10 2 3,jb 11 6 4,jc 12 11,jf 13 7 5,yd 14 29 10 12 13,⟨some 15,.val (.build [.int .i64 0,.int .i64 0,.int .u64 0,.str []] [(1,1,(.c (.int .i64 4))),(3,1,(.t 14))]),none⟩,js 4 6 15]
abbrev Qid:IL:=[jf 16 7 5,jr 17 25 16,js 4 6 17]
abbrev Qie:RC:=jQ Qia (.seq (jQ Qib (.cond (.t 9) (jQ Qic (.ret)) (.skip))) (jQ Qid (.ret)))
abbrev Qif:List RR:=[.cell 6 (some 4)]
theorem Rv:CT 197 18 Qie Qif:=ck Tryz.func197 Tryz.ntmps197 (by decide +kernel)
abbrev Qig:IL:=[je 1 1 0,jd 2 0]
abbrev Qih:IL:=[jb 4 3 1,jc 5 4,jq 6 5 5,ja 3 6]
abbrev Qii:IL:=[jd 2 6]
abbrev Qij:IL:=[jf 8 8 1,jr 9 119 8,ja 7 9]
abbrev Qik:IL:=[jd 2 5]
abbrev Qil:IL:=[jb 10 5 1,jc 11 10]
abbrev Qim:IL:=[jq 13 11 1,ja 12 13]
abbrev Qin:IL:=[jq 14 11 4,ja 12 14]
abbrev Qio:IL:=[jq 15 11 5,ja 12 15]
abbrev Qip:IL:=[jq 16 11 9,ja 12 16]
abbrev Er:IL:=[jd 2 0]
abbrev Es:IL:=[jq 18 11 2,ja 17 18]
abbrev Et:IL:=[jq 19 11 3,ja 17 19]
abbrev Eu:IL:=[jd 2 1]
abbrev Ex:IL:=[jq 21 11 6,ja 20 21]
abbrev Ey:IL:=[jd 2 2]
abbrev EA:IL:=[jq 23 11 7,ja 22 23]
abbrev EB:IL:=[jq 24 11 8,ja 22 24]
abbrev EC:IL:=[jd 2 3]
abbrev ED:IL:=[jq 26 11 10,ja 25 26]
abbrev EE:IL:=[jd 2 4]
abbrev EF:IL:=[jd 2 (-1)]
abbrev Qiq:RC:=jQ Qig (.seq (.block 0 (jQ Qih (.cond (.t 3) (jQ Qii (.ret)) (jQ Qij (.cond (.t 7) (jQ Qik (.ret)) (.skip)))))) (.seq (jQ Qil (.block 1 (.seq (jQ Qim (.cond (.t 12) (.skip) (jQ Qin (.cond (.t 12) (.skip) (jQ Qio (.cond (.t 12) (.skip) (.reg Qip))))))) (.cond (.t 12) (jQ Er (.ret)) (.seq (jQ Es (.cond (.t 17) (.skip) (.reg Et))) (.cond (.t 17) (jQ Eu (.ret)) (jQ Ex (.cond (.t 20) (jQ Ey (.ret)) (.seq (jQ EA (.cond (.t 22) (.skip) (.reg EB))) (.cond (.t 22) (jQ EC (.ret)) (jQ ED (.cond (.t 25) (jQ EE (.ret)) (.skip))))))))))))) (jQ EF (.ret))))
abbrev Qir:List RR:=[.tmp 2]
theorem Qis:CT 198 27 Qiq Qir:=ck Tryz.func198 Tryz.ntmps198 (by decide +kernel)
abbrev Qit:IL:=[jh 4]
abbrev Qiu:IL:=[ja 5 0,ja 6 1,yr 7 52 5 6,yn 8 7 0,ja 4 8]
abbrev Qiv:RC:=jQ Qit (jQ Qiu (.ret))
abbrev Qiw:List RR:=[.tmp 4]
theorem Qix:CT 203 9 Qiv Qiw:=ck Tryz.func203 Tryz.ntmps203 (by decide +kernel)
abbrev Qiy:IL:=[jh 4]
abbrev Qiz:IL:=[ja 5 0,ja 6 1,yr 7 241 5 6,yn 8 7 0,ja 4 8]
abbrev QiA:RC:=jQ Qiy (jQ Qiz (.ret))
abbrev QiB:List RR:=[.tmp 4]
theorem QiC:CT 204 9 QiA QiB:=ck Tryz.func204 Tryz.ntmps204 (by decide +kernel)
abbrev QiD:IL:=[jh 2]
abbrev QiE:IL:=[ja 5 0,⟨some 6,.call (.f 207) [(.t 5),(.c (.str [46]))],none⟩,ji 7 1 6,jd 8 0]
abbrev QiF:IL:=[jn 9 8 7]
abbrev QiG:IL:=[jk 10 1 6 8,jc 11 10,ja 4 11]
abbrev QiH:IL:=[ja 12 4,jr 13 210 12,jz 14 13]
abbrev QiI:IL:=[jh 2]
abbrev QiJ:IL:=[jm 15 8 1,ja 8 15]
abbrev QiK:RC:=jQ QiF (.seq (jX 9 0) (.seq (.block 1 (jQ QiG (jQ QiH (.cond (.t 14) (jQ QiI (.ret)) (.skip))))) (.reg QiJ)))
abbrev QiL:IL:=[ja 16 0,ji 17 0 16,⟨some 18,.val (.bin .num .leq (.t 17) (.c (.int .i64 120))),none⟩,ja 2 18]
abbrev QiM:RC:=jQ QiD (.seq (jQ QiE (.block 0 (.loop QiK))) (jQ QiL (.ret)))
abbrev QiN:List RR:=[.tmp 2]
theorem QiO:CT 205 19 QiM QiN:=ck Tryz.func205 Tryz.ntmps205 (by decide +kernel)
abbrev QiP:IL:=[jh 4]
abbrev QiQ:IL:=[ja 5 0,ja 6 1,yr 7 242 5 6,yn 8 7 0,ja 4 8]
abbrev QiR:RC:=jQ QiP (jQ QiQ (.ret))
abbrev QiS:List RR:=[.tmp 4]
theorem QiT:CT 206 9 QiR QiS:=ck Tryz.func206 Tryz.ntmps206 (by decide +kernel)
abbrev QiU:IL:=[ye 4]
abbrev QiV:IL:=[ja 5 0,ja 6 1,⟨some 7,.call (.f 243) [(.t 5),(.t 6),(.c (.int .i64 0)),(.c (.int .i64 (-1)))],none⟩,ja 4 7]
abbrev QiW:RC:=jQ QiU (jQ QiV (.ret))
abbrev QiX:List RR:=[.tmp 4]
theorem QiY:CT 207 8 QiW QiX:=ck Tryz.func207 Tryz.ntmps207 (by decide +kernel)
abbrev QiZ:IL:=[jh 2]
abbrev Qi0:IL:=[ja 3 0]
abbrev Qi1:IL:=[⟨some 5,.val (.bin .str .eql (.t 3) (.c (.str [109,101,115,115,97,103,101]))),none⟩,ja 4 5]
abbrev Qi2:IL:=[⟨some 6,.val (.bin .str .eql (.t 3) (.c (.str [101,110,117,109]))),none⟩,ja 4 6]
abbrev Qi3:IL:=[⟨some 7,.val (.bin .str .eql (.t 3) (.c (.str [115,101,114,118,105,99,101]))),none⟩,ja 4 7]
abbrev Qi4:IL:=[⟨some 8,.val (.bin .str .eql (.t 3) (.c (.str [117,110,105,111,110]))),none⟩,ja 4 8]
abbrev Qi5:IL:=[⟨some 9,.val (.bin .str .eql (.t 3) (.c (.str [109,97,112]))),none⟩,ja 4 9]
abbrev Qi6:IL:=[⟨some 10,.val (.bin .str .eql (.t 3) (.c (.str [108,105,115,116]))),none⟩,ja 4 10]
abbrev Qi7:IL:=[⟨some 11,.val (.bin .str .eql (.t 3) (.c (.str [114,101,113,117,105,114,101,100]))),none⟩,ja 4 11]
abbrev Qi8:IL:=[⟨some 12,.val (.bin .str .eql (.t 3) (.c (.str [111,112,116,105,111,110,97,108]))),none⟩,ja 4 12]
abbrev EG:IL:=[⟨some 13,.val (.bin .str .eql (.t 3) (.c (.str [112,108,97,105,110]))),none⟩,ja 4 13]
abbrev EH:IL:=[⟨some 14,.val (.bin .str .eql (.t 3) (.c (.str [100,101,102,97,117,108,116]))),none⟩,ja 4 14]
abbrev EI:IL:=[⟨some 15,.val (.bin .str .eql (.t 3) (.c (.str [114,101,115,101,114,118,101,100]))),none⟩,ja 4 15]
abbrev EJ:IL:=[yl 2]
abbrev EK:IL:=[⟨some 17,.val (.bin .str .eql (.t 3) (.c (.str [105,109,112,111,114,116]))),none⟩,ja 16 17]
abbrev EL:IL:=[⟨some 18,.val (.bin .str .eql (.t 3) (.c (.str [115,112,97,99,101]))),none⟩,ja 16 18]
abbrev EM:IL:=[⟨some 19,.val (.bin .str .eql (.t 3) (.c (.str [114,112,99]))),none⟩,ja 16 19]
abbrev EN:IL:=[⟨some 20,.val (.bin .str .eql (.t 3) (.c (.str [115,116,114,101,97,109]))),none⟩,ja 16 20]
abbrev EO:IL:=[⟨some 21,.val (.bin .str .eql (.t 3) (.c (.str [114,101,116,117,114,110,115]))),none⟩,ja 16 21]
abbrev EP:IL:=[⟨some 22,.val (.bin .str .eql (.t 3) (.c (.str [111,112,101,110]))),none⟩,ja 16 22]
abbrev EQ:IL:=[⟨some 23,.val (.bin .str .eql (.t 3) (.c (.str [116,114,117,101]))),none⟩,ja 16 23]
abbrev ER:IL:=[⟨some 24,.val (.bin .str .eql (.t 3) (.c (.str [102,97,108,115,101]))),none⟩,ja 16 24]
abbrev ES:IL:=[⟨some 25,.val (.bin .str .eql (.t 3) (.c (.str [110,97,110]))),none⟩,ja 16 25]
abbrev ET:IL:=[⟨some 26,.val (.bin .str .eql (.t 3) (.c (.str [105,110,102]))),none⟩,ja 16 26]
abbrev EU:IL:=[yl 2]
abbrev EV:IL:=[jh 2]
abbrev Qi9:RC:=jQ QiZ (.seq (jQ Qi0 (.block 0 (.seq (jQ Qi1 (.cond (.t 4) (.skip) (jQ Qi2 (.cond (.t 4) (.skip) (jQ Qi3 (.cond (.t 4) (.skip) (jQ Qi4 (.cond (.t 4) (.skip) (jQ Qi5 (.cond (.t 4) (.skip) (jQ Qi6 (.cond (.t 4) (.skip) (jQ Qi7 (.cond (.t 4) (.skip) (jQ Qi8 (.cond (.t 4) (.skip) (jQ EG (.cond (.t 4) (.skip) (jQ EH (.cond (.t 4) (.skip) (.reg EI))))))))))))))))))))) (.cond (.t 4) (jQ EJ (.ret)) (.seq (jQ EK (.cond (.t 16) (.skip) (jQ EL (.cond (.t 16) (.skip) (jQ EM (.cond (.t 16) (.skip) (jQ EN (.cond (.t 16) (.skip) (jQ EO (.cond (.t 16) (.skip) (jQ EP (.cond (.t 16) (.skip) (jQ EQ (.cond (.t 16) (.skip) (jQ ER (.cond (.t 16) (.skip) (jQ ES (.cond (.t 16) (.skip) (.reg ET))))))))))))))))))) (.cond (.t 16) (jQ EU (.ret)) (.skip))))))) (jQ EV (.ret)))
abbrev Qja:List RR:=[.tmp 2]
theorem Rw:CT 208 27 Qi9 Qja:=ck Tryz.func208 Tryz.ntmps208 (by decide +kernel)
abbrev Qjb:IL:=[jh 4]
abbrev Qjc:IL:=[ja 5 0,ja 6 1,yr 7 195 5 6,yn 8 7 0,ja 4 8]
abbrev Qjd:RC:=jQ Qjb (jQ Qjc (.ret))
abbrev Qje:List RR:=[.tmp 4]
theorem Qjf:CT 209 9 Qjd Qje:=ck Tryz.func209 Tryz.ntmps209 (by decide +kernel)
abbrev Qjg:IL:=[jh 2]
abbrev Qjh:IL:=[ja 6 0,⟨some 7,.rngs 7 (.t 6),none⟩]
abbrev Qji:IL:=[⟨some 8,.nxts (.t 7),none⟩,jx 9 8 0]
abbrev Qjj:IL:=[jx 10 8 1,jx 11 8 2,ja 3 10,ja 4 11]
abbrev Qjk:IL:=[ja 12 4,jr 13 244 12,ja 5 13]
abbrev Qjl:IL:=[ja 14 5,jq 15 14 0,ja 16 15,jv 17 3 16,ys 18 17 0 16,jv 19 18 16,jg 20 5 19,zv 21 20 1 19,yw 22 19 21 16,jv 23 22 16,jg 24 5 23,zv 25 24 2 23,yw 26 23 25 16,jo 27 16 26]
abbrev Qjm:IL:=[jh 2]
abbrev Qjn:RC:=jQ Qji (.seq (jX 9 0) (.block 1 (jQ Qjj (jQ Qjk (jQ Qjl (.cond (.t 27) (jQ Qjm (.ret)) (.skip)))))))
abbrev Qjo:IL:=[ja 28 0,ji 29 0 28,yn 30 29 1,ja 31 30,jg 32 0 31,yt 33 0 32 31,yy 34 33 40 31,jj 35 31 34,ja 2 35]
abbrev Qjp:RC:=jQ Qjg (.seq (jQ Qjh (.block 0 (.loop Qjn))) (jQ Qjo (.ret)))
abbrev Qjq:List RR:=[.tmp 2]
theorem Qjr:CT 210 36 Qjp Qjq:=ck Tryz.func210 Tryz.ntmps210 (by decide +kernel)
abbrev Qjs:IL:=[je 3 3 0,jh 4]
abbrev Qjt:IL:=[jc 5 1,jw 6 0 3 8 3,⟨some 7,.call (.t 5) [(.t 6)],none⟩,jc 8 1,jf 9 8 2,⟨some 10,.call (.t 8) [(.t 9)],none⟩,F5 11 7 10,ja 4 11]
abbrev Qju:RC:=jQ Qjs (jD Qjt (.ret))
abbrev Qjv:List RR:=[.tmp 4]
theorem Qjw:CT 212 12 Qju Qjv:=ck Tryz.func212 Tryz.ntmps212 (by decide +kernel)
abbrev Qjx:IL:=[jd 2 0]
abbrev Qjy:IL:=[ja 5 0,⟨some 6,.rngs 6 (.t 5),none⟩]
abbrev Qjz:IL:=[⟨some 7,.nxts (.t 6),none⟩,jx 8 7 0]
abbrev QjA:IL:=[jx 9 7 1,jx 10 7 2,ja 3 9,ja 4 10]
abbrev QjB:IL:=[ja 11 0,ja 12 3,ja 13 4,yd 14 248 11 12 13]
abbrev QjC:IL:=[ja 15 3,ja 2 15]
abbrev QjD:RC:=jQ Qjz (.seq (jX 8 0) (.block 1 (jQ QjA (jQ QjB (.cond (.t 14) (jQ QjC (.ret)) (.skip))))))
abbrev QjE:IL:=[jd 2 (-1)]
abbrev QjF:RC:=jQ Qjx (.seq (jQ Qjy (.block 0 (.loop QjD))) (jQ QjE (.ret)))
abbrev QjG:List RR:=[.tmp 2]
theorem QjH:CT 216 16 QjF QjG:=ck Tryz.func216 Tryz.ntmps216 (by decide +kernel)
abbrev QjI:IL:=[jh 2]
abbrev QjJ:IL:=[ja 3 0,yn 4 3 1,ja 5 4,jg 6 0 5,yy 7 6 9 5,jj 8 5 7,ja 2 8]
abbrev QjK:RC:=jQ QjI (jQ QjJ (.ret))
abbrev QjL:List RR:=[.tmp 2]
theorem QjM:CT 217 9 QjK QjL:=ck Tryz.func217 Tryz.ntmps217 (by decide +kernel)
abbrev QjN:IL:=[jd 4 0]
abbrev QjO:IL:=[ja 6 0,ji 7 1 6,jd 8 0]
abbrev QjP:IL:=[jn 9 8 7]
abbrev QjQ:IL:=[ja 10 8,ja 5 10]
abbrev QjR:IL:=[ja 11 1,ja 12 0,ja 13 5,jk 14 1 12 13,jc 15 14,⟨some 16,.val (.bin .bool .eql (.t 11) (.t 15)),none⟩]
abbrev QjS:IL:=[ja 17 5,ja 4 17]
abbrev QjT:IL:=[jm 18 8 1,ja 8 18]
abbrev QjU:RC:=jQ QjP (.seq (jX 9 0) (.seq (.block 1 (jQ QjQ (jQ QjR (.cond (.t 16) (jQ QjS (.ret)) (.skip))))) (.reg QjT)))
abbrev QjV:IL:=[jd 4 (-1)]
abbrev QjW:RC:=jQ QjN (.seq (jQ QjO (.block 0 (.loop QjU))) (jQ QjV (.ret)))
abbrev QjX:List RR:=[.tmp 4]
theorem QjY:CT 219 19 QjW QjX:=ck Tryz.func219 Tryz.ntmps219 (by decide +kernel)
abbrev QjZ:IL:=[je 4 4 0,je 5 5 1,je 6 6 2,jd 8 0]
abbrev Qj0:IL:=[jb 9 5 5,jc 10 9,jq 11 10 10]
abbrev Qj1:IL:=[jw 12 0 4 2 4,jb 13 0 4,jb 14 0 13,yb 15 0 4 14,jb 16 6 5,yb 17 0 5 16,jk 18 3 15 17,ya 19 3 18,jw 20 0 6 7 6,ja 21 3,jm 22 21 1,zj 23 55 12 19 20 22,ja 8 23]
abbrev Qj2:IL:=[jf 24 2 4,jb 25 5 5,jc 26 25,jb 27 6 5,jc 28 27,jf 29 7 6,zj 30 251 24 26 28 29,ja 8 30]
abbrev Qj3:RC:=jQ QjZ (.seq (jQ Qj0 (.cond (.t 11) (jD Qj1 (.ret)) (.skip))) (jQ Qj2 (.ret)))
abbrev Qj4:List RR:=[.tmp 8]
theorem Qj5:CT 220 31 Qj3 Qj4:=ck Tryz.func220 Tryz.ntmps220 (by decide +kernel)
abbrev Qj6:IL:=[jd 6 20]
abbrev Qj7:IL:=[ja 10 6,jd 7 0,ja 8 10]
abbrev Qj8:IL:=[ja 11 8,ja 12 1,F9 13 11 12]
abbrev Qj9:IL:=[ja 14 0,ja 15 7,ja 16 8,ja 17 2,⟨some 18,.callF (.f 254) [(.t 14),(.t 15),(.t 16),(.t 17)],none⟩]
abbrev Qka:IL:=[ja 19 8,ja 7 19]
abbrev Qkb:IL:=[ja 20 8,ja 21 6,yj 22 20 21,ja 8 22]
abbrev Qkc:RC:=.seq (jQ Qj8 (jX 13 0)) (.block 1 (jQ Qj9 (jQ Qka (.reg Qkb))))
abbrev Qkd:IL:=[ja 23 0,ja 24 7,ja 25 1,ja 26 2,⟨some 27,.callF (.f 254) [(.t 23),(.t 24),(.t 25),(.t 26)],none⟩]
abbrev Qke:IL:=[ja 28 6,ja 29 1,jn 30 28 29]
abbrev Qkf:IL:=[ja 31 6,MD 32 2 31,jd 7 0,ja 8 32]
abbrev Qkg:IL:=[ja 33 8,ja 34 1,F9 35 33 34]
abbrev EX:IL:=[ja 36 0,ja 37 7,ja 38 7,ja 39 6,yj 40 38 39,ja 41 8,ja 42 2,SA 43 255 36 37 40 41 42]
abbrev EY:IL:=[ja 44 8,ja 7 44]
abbrev EZ:IL:=[ja 45 8,ja 46 6,MD 47 2 46,yj 48 45 47,ja 8 48]
abbrev Qkh:RC:=.seq (jQ Qkg (jX 35 4)) (.block 5 (jQ EX (jQ EY (.reg EZ))))
abbrev E0:IL:=[ja 49 7,ja 50 6,yj 51 49 50,ja 9 51]
abbrev E1:IL:=[ja 52 9,ja 53 1,jn 54 52 53]
abbrev E2:IL:=[ja 55 0,ja 56 7,ja 57 9,ja 58 1,ja 59 2,SA 60 255 55 56 57 58 59]
abbrev E3:IL:=[ja 61 6,⟨some 62,.val (.bin .num .mul (.t 61) (.c (.int .i64 2))),none⟩,ja 6 62]
abbrev Qki:RC:=.seq (jQ Qke (jX 30 2)) (.block 3 (jQ Qkf (.seq (.block 4 (.loop Qkh)) (.seq (jQ E0 (jQ E1 (.cond (.t 54) (.reg E2) (.skip)))) (.reg E3)))))
abbrev Qkj:RC:=jQ Qj6 (jQ Qj7 (.seq (.block 0 (.loop Qkc)) (jQ Qkd (.block 2 (.loop Qki)))))
abbrev Qkk:List RR:=[]
theorem QLS:CT 223 63 Qkj Qkk:=ck Tryz.func223 Tryz.ntmps223 (by decide +kernel)
abbrev Qkl:IL:=[je 1 1 0,jh 2]
abbrev Qkm:IL:=[jb 3 3 1,jc 4 3,ji 5 1 4,jb 6 4 1,jc 7 6,ji 8 1 7,yj 9 5 8,jb 10 5 1,jc 11 10,ji 12 1 11,yj 13 9 12,jb 14 6 1,jc 15 14,ji 16 1 15,yj 17 13 16,yq 18 17 0]
abbrev Qkn:IL:=[jh 2]
abbrev Qko:IL:=[jb 19 0 1,jc 20 19,jr 21 267 20]
abbrev Qkp:IL:=[jb 22 1 1,jc 23 22,Gs 24 23 0,ja 2 24]
abbrev Qkq:IL:=[jb 25 2 1,jc 26 25,⟨some 27,.val (.bin .str .eql (.t 26) (.c (.str []))),none⟩,ja 2 27]
abbrev Qkr:RC:=jQ Qkl (.seq (jQ Qkm (.cond (.t 18) (jQ Qkn (.ret)) (.skip))) (.seq (jQ Qko (.cond (.t 21) (jQ Qkp (.ret)) (.skip))) (jQ Qkq (.ret))))
abbrev Qks:List RR:=[.tmp 2]
theorem Qkt:CT 229 28 Qkr Qks:=ck Tryz.func229 Tryz.ntmps229 (by decide +kernel)
abbrev Qku:IL:=[ja 10 1,jm 11 10 1,ja 8 11]
abbrev Qkv:IL:=[ja 12 8,ja 13 2,jn 14 12 13]
abbrev Qkw:IL:=[ja 17 8,ja 9 17]
abbrev Qkx:IL:=[ja 18 9,ja 19 1,F3 20 18 19,ja 21 20,jg 22 3 21,jg 23 0 21,jg 24 9 21,yc 25 4 23 24 21,Gt 26 4 25 21,jg 27 0 21,jg 28 9 21,D2 29 28 1 21,yc 30 4 27 29 21,Gt 31 4 30 21,⟨some 32,.call (.t 22) [(.t 26),(.t 31)],(some (21,true))⟩,⟨some 33,.val (.bin .num .lss (.t 32) (.c (.int .i64 0))),(some (21,true))⟩,jj 34 21 33]
abbrev Qky:IL:=[ja 37 0,ja 38 9,ja 39 0,ja 40 9,za 41 40 1,ja 42 0,ja 43 9,za 44 43 1,jk 45 4 42 44,ya 46 4 45,ja 47 0,ja 48 9,jk 49 4 47 48,ya 50 4 49,jk 51 4 37 38,js 4 51 46,jk 52 4 39 41,js 4 52 50]
abbrev Qkz:IL:=[ja 35 9,za 36 35 1,ja 9 36]
abbrev QkA:RC:=.seq (jD Qkx (jX 34 2)) (.seq (.block 3 (.draw Qky)) (.reg Qkz))
abbrev QkB:IL:=[ja 15 8,jm 16 15 1,ja 8 16]
abbrev QkC:RC:=.seq (jQ Qkv (jX 14 0)) (.seq (.block 1 (jQ Qkw (.block 2 (.loop QkA)))) (.reg QkB))
abbrev QkD:RC:=jQ Qku (.block 0 (.loop QkC))
abbrev QkE:List RR:=[]
theorem QLT:CT 230 53 QkD QkE:=ck Tryz.func230 Tryz.ntmps230 (by decide +kernel)
abbrev QkF:IL:=[jd 4 0]
abbrev QkG:IL:=[ja 6 0,ji 7 1 6,jd 8 0]
abbrev QkH:IL:=[jn 9 8 7]
abbrev QkI:IL:=[ja 10 8,ja 5 10]
abbrev QkJ:IL:=[ja 11 1,ja 12 0,ja 13 5,jk 14 5 12 13,jf 15 5 14,DZ 16 11 15]
abbrev QkK:IL:=[ja 17 5,ja 4 17]
abbrev QkL:IL:=[jm 18 8 1,ja 8 18]
abbrev QkM:RC:=jQ QkH (.seq (jX 9 0) (.seq (.block 1 (jQ QkI (jQ QkJ (.cond (.t 16) (jQ QkK (.ret)) (.skip))))) (.reg QkL)))
abbrev QkN:IL:=[jd 4 (-1)]
abbrev QkO:RC:=jQ QkF (.seq (jQ QkG (.block 0 (.loop QkM))) (jQ QkN (.ret)))
abbrev QkP:List RR:=[.tmp 4]
theorem QkQ:CT 241 19 QkO QkP:=ck Tryz.func241 Tryz.ntmps241 (by decide +kernel)
abbrev QkR:IL:=[jd 4 0]
abbrev QkS:IL:=[ja 6 0,ji 7 1 6,jd 8 0]
abbrev QkT:IL:=[jn 9 8 7]
abbrev QkU:IL:=[ja 10 8,ja 5 10]
abbrev QkV:IL:=[ja 11 1,ja 12 0,ja 13 5,jk 14 1 12 13,jc 15 14,DZ 16 11 15]
abbrev QkW:IL:=[ja 17 5,ja 4 17]
abbrev QkX:IL:=[jm 18 8 1,ja 8 18]
abbrev QkY:RC:=jQ QkT (.seq (jX 9 0) (.seq (.block 1 (jQ QkU (jQ QkV (.cond (.t 16) (jQ QkW (.ret)) (.skip))))) (.reg QkX)))
abbrev QkZ:IL:=[jd 4 (-1)]
abbrev Qk0:RC:=jQ QkR (.seq (jQ QkS (.block 0 (.loop QkY))) (jQ QkZ (.ret)))
abbrev Qk1:List RR:=[.tmp 4]
theorem Qk2:CT 242 19 Qk0 Qk1:=ck Tryz.func242 Tryz.ntmps242 (by decide +kernel)
abbrev Qk3:IL:=[ye 8]
abbrev Qk4:IL:=[ja 12 3,jq 13 12 0]
abbrev Qk5:IL:=[ye 8]
abbrev Qk6:IL:=[ja 14 1,⟨some 15,.val (.bin .str .eql (.t 14) (.c (.str []))),none⟩]
abbrev Qk7:IL:=[ja 16 0,ja 17 3,jy 18 273 16 17,ja 8 18]
abbrev Qk8:IL:=[ja 19 3,yo 20 19 0]
abbrev Qk9:IL:=[ja 21 0,ja 22 1,jy 23 274 21 22,jm 24 23 1,ja 3 24]
abbrev Qla:IL:=[ja 25 3,ja 26 0,ji 27 0 26,jm 28 27 1,⟨some 29,.val (.mnx false (.t 25) (.t 28)),none⟩,ja 3 29]
abbrev Qlb:IL:=[ja 30 3,⟨some 31,.mk 31 9 1 16 [.str []] (.t 30) (.t 30),none⟩,ja 9 31]
abbrev Qlc:IL:=[ja 32 3,za 33 32 1,ja 3 33]
abbrev E4:IL:=[jd 10 0]
abbrev E5:IL:=[ja 34 10,ja 35 3,jn 36 34 35]
abbrev E6:IL:=[ja 37 0,ja 38 1,jy 39 275 37 38,ja 11 39]
abbrev E7:IL:=[ja 40 11,yo 41 40 0]
abbrev E8:IL:=[ja 42 9,ja 43 10,ja 44 0,ja 45 11,ja 46 2,yj 47 45 46,⟨some 48,.val (.slc none (.t 44) none (some (.t 47)) none),none⟩,jk 49 1 42 43,js 1 49 48]
abbrev E9:IL:=[ja 50 0,ja 51 11,ja 52 1,ji 53 0 52,yj 54 51 53,ME 55 50 54,ja 0 55]
abbrev Ia:IL:=[ja 56 10,jm 57 56 1,ja 10 57]
abbrev Qld:RC:=.seq (jQ E5 (jX 36 0)) (.block 1 (jQ E6 (.seq (jQ E7 (.cond (.t 41) (.exit 0) (.skip))) (jQ E8 (jQ E9 (.reg Ia))))))
abbrev Ib:IL:=[ja 58 9,ja 59 10,ja 60 0,jk 61 1 58 59,js 1 61 60]
abbrev Ic:IL:=[ja 62 9,ja 63 10,jm 64 63 1,D0 65 1 62 64,ja 8 65]
abbrev Qle:RC:=jQ Qk3 (.seq (jQ Qk4 (.cond (.t 13) (jQ Qk5 (.ret)) (.skip))) (.seq (jQ Qk6 (.cond (.t 15) (jQ Qk7 (.ret)) (.skip))) (.seq (jQ Qk8 (.cond (.t 20) (.reg Qk9) (.skip))) (jQ Qla (jQ Qlb (jQ Qlc (jQ E4 (.seq (.block 0 (.loop Qld)) (jQ Ib (jQ Ic (.ret)))))))))))
abbrev Qlf:List RR:=[.tmp 8]
theorem Qlg:CT 243 66 Qle Qlf:=ck Tryz.func243 Tryz.ntmps243 (by decide +kernel)
abbrev Qlh:IL:=[jd 2 0]
abbrev Qli:IL:=[ja 4 0,⟨some 5,.val (.bin .num .geq (.t 4) (.c (.int .i32 97))),none⟩,ja 6 5,jg 7 0 6,⟨some 8,.val (.bin .num .leq (.t 7) (.c (.int .i32 122))),(some (6,true))⟩,jj 9 6 8,ja 3 9]
abbrev Qlj:IL:=[jd 2 1]
abbrev Qlk:IL:=[ja 11 0,⟨some 12,.val (.bin .num .geq (.t 11) (.c (.int .i32 65))),none⟩,ja 13 12,jg 14 0 13,⟨some 15,.val (.bin .num .leq (.t 14) (.c (.int .i32 90))),(some (13,true))⟩,jj 16 13 15,ja 10 16]
abbrev Qll:IL:=[jd 2 2]
abbrev Qlm:IL:=[ja 18 0,⟨some 19,.val (.bin .num .geq (.t 18) (.c (.int .i32 48))),none⟩,ja 20 19,jg 21 0 20,⟨some 22,.val (.bin .num .leq (.t 21) (.c (.int .i32 57))),(some (20,true))⟩,jj 23 20 22,ja 17 23]
abbrev Qln:IL:=[jd 2 3]
abbrev Qlo:IL:=[ja 25 0,⟨some 26,.val (.bin .num .eql (.t 25) (.c (.int .i32 95))),none⟩,ja 24 26]
abbrev Qlp:IL:=[jd 2 4]
abbrev Qlq:IL:=[jd 2 0]
abbrev Qlr:RC:=jQ Qlh (.seq (.block 0 (jQ Qli (.cond (.t 3) (jQ Qlj (.ret)) (jQ Qlk (.cond (.t 10) (jQ Qll (.ret)) (jQ Qlm (.cond (.t 17) (jQ Qln (.ret)) (jQ Qlo (.cond (.t 24) (jQ Qlp (.ret)) (.skip)))))))))) (jQ Qlq (.ret)))
abbrev Qls:List RR:=[.tmp 2]
theorem Qlt:CT 244 27 Qlr Qls:=ck Tryz.func244 Tryz.ntmps244 (by decide +kernel)
abbrev Qlu:IL:=[je 4 4 0,je 7 7 3,jd 8 0]
abbrev Qlv:IL:=[jb 10 0 7,jc 11 10,ja 12 1,zs 13 11 12,ja 14 13,yv 15 7 7 14,zi 16 90 15 14,jo 17 14 16,ja 9 17]
abbrev Qlw:IL:=[jd 8 12]
abbrev Qlx:IL:=[jb 19 2 7,jc 20 19,ji 21 0 20,yq 22 21 4096,ja 18 22]
abbrev Qly:IL:=[jd 8 3]
abbrev Qlz:IL:=[ja 24 1,jq 25 24 7,ja 26 25,jl 27 2 7 26,ju 28 27 26,zh 29 168 28 26,yx 30 29 26,jj 31 26 30,ja 23 31]
abbrev QlA:IL:=[jd 8 7]
abbrev QlB:IL:=[ja 33 1,jf 34 7 7,jy 35 279 33 34,jz 36 35,ja 32 36]
abbrev QlC:IL:=[jd 8 12]
abbrev QlD:IL:=[ja 38 1,jq 39 38 9,ja 40 39,jl 41 0 4 40,zk 42 2 41 40,jg 43 2 40,jl 44 1 7 40,ju 45 44 40,D3 46 179 42 43 45 40,yx 47 46 40,jj 48 40 47,ja 37 48]
abbrev Ie:IL:=[jd 8 16]
abbrev Ig:IL:=[jd 8 0]
abbrev QlE:RC:=jQ Qlu (.seq (.block 0 (jQ Qlv (.cond (.t 9) (jQ Qlw (.ret)) (jQ Qlx (.cond (.t 18) (jQ Qly (.ret)) (jQ Qlz (.cond (.t 23) (jQ QlA (.ret)) (jQ QlB (.cond (.t 32) (jQ QlC (.ret)) (jQ QlD (.cond (.t 37) (jQ Ie (.ret)) (.skip)))))))))))) (jQ Ig (.ret)))
abbrev QlF:List RR:=[.tmp 8]
theorem QlG:CT 251 49 QlE QlF:=ck Tryz.func251 Tryz.ntmps251 (by decide +kernel)
abbrev QlH:IL:=[ja 10 1,jm 11 10 1,ja 8 11]
abbrev QlI:IL:=[ja 12 8,ja 13 2,jn 14 12 13]
abbrev QlJ:IL:=[ja 17 8,ja 9 17]
abbrev QlK:IL:=[ja 18 9,ja 19 1,F3 20 18 19,ja 21 20,jg 22 3 21,jg 23 0 21,jg 24 9 21,yc 25 8 23 24 21,Gt 26 8 25 21,jg 27 0 21,jg 28 9 21,D2 29 28 1 21,yc 30 8 27 29 21,Gt 31 8 30 21,⟨some 32,.call (.t 22) [(.t 26),(.t 31)],(some (21,true))⟩,⟨some 33,.val (.bin .num .lss (.t 32) (.c (.int .i64 0))),(some (21,true))⟩,jj 34 21 33]
abbrev QlL:IL:=[ja 37 0,ja 38 9,ja 39 0,ja 40 9,za 41 40 1,ja 42 0,ja 43 9,za 44 43 1,jk 45 8 42 44,ya 46 8 45,ja 47 0,ja 48 9,jk 49 8 47 48,ya 50 8 49,jk 51 8 37 38,js 8 51 46,jk 52 8 39 41,js 8 52 50]
abbrev QlM:IL:=[ja 35 9,za 36 35 1,ja 9 36]
abbrev QlN:RC:=.seq (jD QlK (jX 34 2)) (.seq (.block 3 (.draw QlL)) (.reg QlM))
abbrev QlO:IL:=[ja 15 8,jm 16 15 1,ja 8 16]
abbrev QlP:RC:=.seq (jQ QlI (jX 14 0)) (.seq (.block 1 (jQ QlJ (.block 2 (.loop QlN)))) (.reg QlO))
abbrev QlQ:RC:=jQ QlH (.block 0 (.loop QlP))
abbrev QlR:List RR:=[]
theorem QLU:CT 254 53 QlQ QlR:=ck Tryz.func254 Tryz.ntmps254 (by decide +kernel)
abbrev QlS:IL:=[jh 2]
abbrev QlT:IL:=[ja 3 0,jq 4 3 7,ja 5 4,jv 6 0 5,ys 7 6 8 5,jo 8 5 7,ja 2 8]
abbrev QlU:RC:=jQ QlS (jQ QlT (.ret))
abbrev QlV:List RR:=[.tmp 2]
theorem QlW:CT 267 9 QlU QlV:=ck Tryz.func267 Tryz.ntmps267 (by decide +kernel)
abbrev QlX:IL:=[jd 4 0]
abbrev QlY:IL:=[ja 7 1,ji 8 0 7,jq 9 8 0]
abbrev QlZ:IL:=[ja 10 0,jr 11 289 10,jm 12 11 1,ja 4 12]
abbrev Ql0:IL:=[ja 13 1,ji 14 0 13,jq 15 14 1]
abbrev Ql1:IL:=[ja 16 0,ja 17 1,⟨some 18,.val (.idx (.t 17) (.c (.int .i64 0))),none⟩,⟨some 19,.xb true 291 (.t 16) (.t 18),none⟩,ja 4 19]
abbrev Ql2:IL:=[jd 5 0]
abbrev Ql3:IL:=[ja 20 0,ja 21 1,jy 22 275 20 21,ja 6 22]
abbrev Ql4:IL:=[ja 23 6,jq 24 23 (-1)]
abbrev Ql5:IL:=[ja 25 5,ja 4 25]
abbrev Ql6:IL:=[ja 26 5,jm 27 26 1,ja 5 27]
abbrev Ih:IL:=[ja 28 0,ja 29 6,ja 30 1,ji 31 0 30,yj 32 29 31,ME 33 28 32,ja 0 33]
abbrev Ql7:RC:=.block 1 (jQ Ql3 (.seq (jQ Ql4 (.cond (.t 24) (jQ Ql5 (.ret)) (.skip))) (jQ Ql6 (.reg Ih))))
abbrev Ql8:RC:=jQ QlX (.seq (jQ QlY (.cond (.t 9) (jQ QlZ (.ret)) (.skip))) (.seq (jQ Ql0 (.cond (.t 15) (jQ Ql1 (.ret)) (.skip))) (jQ Ql2 (.block 0 (.loop Ql7)))))
abbrev Ql9:List RR:=[.tmp 4]
theorem Qma:CT 274 34 Ql8 Ql9:=ck Tryz.func274 Tryz.ntmps274 (by decide +kernel)
abbrev Qmb:IL:=[jd 4 0]
abbrev Qmc:IL:=[ja 5 0,ja 6 1,jy 7 292 5 6,ja 4 7]
abbrev Qmd:RC:=jQ Qmb (jQ Qmc (.ret))
abbrev Qme:List RR:=[.tmp 4]
theorem Qmf:CT 275 8 Qmd Qme:=ck Tryz.func275 Tryz.ntmps275 (by decide +kernel)
abbrev Qmg:IL:=[je 3 3 1,jh 4]
abbrev Qmh:IL:=[ja 5 0,jr 6 217 5,jz 7 6,ja 8 7,jp 9 0 3 8,jt 10 9 8,jv 11 0 8,Mw 12 10 11 8,jo 13 8 12,ja 14 13,yv 15 7 3 14,zi 16 229 15 14,ze 17 16 14,jo 18 14 17,ja 19 18,jv 20 0 19,jp 21 1 3 19,jt 22 21 19,SB 23 294 20 22 19,ze 24 23 19,jo 25 19 24,ja 26 25,jp 27 2 3 26,jt 28 27 26,yf 29 0 28 26,yk 30 29 4096 26,jo 31 26 30]
abbrev Qmi:IL:=[jh 4]
abbrev Qmj:IL:=[ja 32 0,yg 33 32 7,ja 34 33,jp 35 2 3 34,jt 36 35 34,zi 37 168 36 34,jo 38 34 37,ja 4 38]
abbrev Qmk:RC:=jQ Qmg (.seq (jQ Qmh (.cond (.t 31) (jQ Qmi (.ret)) (.skip))) (jQ Qmj (.ret)))
abbrev Qml:List RR:=[.tmp 4]
theorem Qmm:CT 279 39 Qmk Qml:=ck Tryz.func279 Tryz.ntmps279 (by decide +kernel)
def MM:IL:=[jd 4 0]
def MN:IL:=[ja 14 1,ji 15 0 14,ja 5 15]
def MO:IL:=[ja 17 5,jq 18 17 0,ja 19 18,jv 20 1 19,jv 21 0 19,⟨some 22,.val (.bin .str .eql (.t 20) (.t 21)),(some (19,false))⟩,jo 23 19 22,ja 16 23]
def MP:IL:=[jd 4 0]
def MQ:IL:=[ja 25 5,jq 26 25 1,ja 24 26]
def MS:IL:=[ja 27 0,ja 28 1,⟨some 29,.val (.idx (.t 28) (.c (.int .i64 0))),none⟩,jy 30 300 27 29,ja 4 30]
def MT:IL:=[ja 32 5,ja 33 0,ji 34 0 33,⟨some 35,.val (.bin .num .geq (.t 32) (.t 34)),none⟩,ja 31 35]
def MU:IL:=[jd 4 (-1)]
def MV:IL:=[ja 45 0,ja 46 1,jy 47 301 45 46,ja 4 47]
def Ii:IL:=[ja 48 1,⟨some 49,.val (.idx (.t 48) (.c (.int .i64 0))),none⟩,ja 6 49]
def Ij:IL:=[ja 50 1,⟨some 51,.val (.idx (.t 50) (.c (.int .i64 1))),none⟩,ja 7 51]
def Ik:IL:=[jd 8 0]
def Il:IL:=[ja 52 0,ji 53 0 52,ja 54 5,zg 55 53 54,jm 56 55 1,ja 9 56]
def Im:IL:=[jd 10 0]
def Io:IL:=[ja 57 8,ja 58 9,jn 59 57 58]
def Ip:IL:=[ja 60 0,ja 61 8,NZ 62 60 61,ja 63 6,zs 64 62 63]
def Iq:IL:=[ja 65 0,ja 66 8,jm 67 66 1,ja 68 9,⟨some 69,.val (.slc none (.t 65) (some (.t 67)) (some (.t 68)) none),none⟩,ja 70 6,jy 71 300 69 70,ja 11 71]
def Ir:IL:=[ja 72 11,yo 73 72 0]
def Is:IL:=[jd 4 (-1)]
def It:IL:=[ja 74 8,ja 75 11,jm 76 75 1,yj 77 74 76,ja 8 77]
def Iu:IL:=[ja 78 0,ja 79 8,jm 80 79 1,NZ 81 78 80,ja 82 7,zm 83 81 82,ja 84 83,jg 85 0 84,jg 86 8 84,jg 87 8 84,jg 88 5 84,⟨some 89,.val (.bin .num .add (.t 87) (.t 88)),(some (84,true))⟩,⟨some 90,.val (.slc none (.t 85) (some (.t 86)) (some (.t 89)) none),(some (84,true))⟩,jg 91 1 84,Mx 92 90 91 84,jj 93 84 92]
def Iv:IL:=[ja 94 8,ja 4 94]
def Iw:IL:=[ja 95 8,jm 96 95 1,ja 8 96]
def Ix:IL:=[ja 97 10,jm 98 97 1,ja 10 98]
def Iy:IL:=[ja 108 0,ja 109 8,ME 110 108 109,ja 111 1,jy 112 301 110 111,ja 12 112]
def Iz:IL:=[ja 113 12,yn 114 113 0]
def IA:IL:=[ja 115 12,ja 116 8,yj 117 115 116,ja 4 117]
def IB:IL:=[jd 4 (-1)]
def IC:IL:=[ja 133 0,ja 134 8,ME 135 133 134,ja 136 1,jy 137 303 135 136,ja 13 137]
def ID:IL:=[ja 138 13,yo 139 138 0]
def IE:IL:=[jd 4 (-1)]
def IF:IL:=[ja 140 8,ja 141 13,yj 142 140 141,ja 4 142]
def Qmn:RC:=.seq (jQ Io (jX 59 1)) (.block 2 (.seq (jQ Ip (.cond (.t 64) (jQ Iq (.seq (jQ Ir (.cond (.t 73) (jQ Is (.ret)) (.skip))) (.reg It))) (.skip))) (.seq (jQ Iu (.cond (.t 93) (jQ Iv (.ret)) (.skip))) (jQ Iw (jQ Ix (.seq (.no) (.cond (.t 107) (jQ Iy (.seq (jQ Iz (.cond (.t 114) (jQ IA (.ret)) (.skip))) (jQ IB (.ret)))) (.seq (.no) (.cond (.t 132) (jQ IC (.seq (jQ ID (.cond (.t 139) (jQ IE (.ret)) (.skip))) (jQ IF (.ret)))) (.skip))))))))))
def IG:IL:=[jd 4 (-1)]
def V6:RC:=jQ MM (jQ MN (.seq (.block 0 (jQ MO (.cond (.t 16) (jQ MP (.ret)) (jQ MQ (.cond (.t 24) (jQ MS (.ret)) (jQ MT (.cond (.t 31) (jQ MU (.ret)) (.seq (.no) (.cond (.t 36) (jQ MV (.ret)) (.skip)))))))))) (jQ Ii (jQ Ij (jQ Ik (jQ Il (jQ Im (.seq (.block 1 (.loop Qmn)) (jQ IG (.ret))))))))))
def Rx:List RR:=[.tmp 4]
theorem Qmo:CT 292 143 V6 Rx:=ck Tryz.func292 Tryz.ntmps292 (by decide +kernel)
abbrev Qmp:IL:=[jh 4]
abbrev Qmq:IL:=[NT 5 4294967295]
abbrev Qmr:IL:=[ja 6 0]
abbrev Qms:IL:=[jq 8 6 1,ja 7 8]
abbrev Qmt:IL:=[jq 10 6 2,ja 9 10]
abbrev Qmu:IL:=[jq 12 6 9,ja 11 12]
abbrev Qmv:IL:=[jq 14 6 4,ja 13 14]
abbrev Qmw:IL:=[ja 15 1,⟨some 16,.val (.bin .num .leq (.t 15) (.c (.int .u64 1))),none⟩,ja 4 16]
abbrev Qmx:IL:=[ja 17 1,NQ 18 17,yn 19 18 (-2147483648),ja 20 19,jg 21 1 20,⟨some 22,.val (.cvi .i64 (.t 21)),(some (20,true))⟩,yy 23 22 2147483647 20,jj 24 20 23,ja 4 24]
abbrev Qmy:IL:=[NT 5 2147483647]
abbrev IH:IL:=[ja 25 1,ja 26 5,F9 27 25 26,ja 4 27]
abbrev II:IL:=[yl 4]
abbrev Qmz:RC:=jQ Qmp (jQ Qmq (.seq (jQ Qmr (.block 0 (.seq (.block 4 (.seq (.block 3 (.seq (.block 2 (.seq (.block 1 (.seq (.seq (jQ Qms (.cond (.t 7) (.exit 1) (.skip))) (.seq (jQ Qmt (.cond (.t 9) (.exit 2) (.skip))) (.seq (jQ Qmu (.cond (.t 11) (.exit 3) (.skip))) (jQ Qmv (.cond (.t 13) (.exit 4) (.skip)))))) (.exit 0))) (.seq (jQ Qmw (.ret)) (.exit 0)))) (.seq (jQ Qmx (.ret)) (.exit 0)))) (.reg Qmy))) (.seq (jQ IH (.ret)) (.exit 0))))) (jQ II (.ret))))
abbrev QmA:List RR:=[.tmp 4]
theorem QmB:CT 294 28 Qmz QmA:=ck Tryz.func294 Tryz.ntmps294 (by decide +kernel)
abbrev QmC:IL:=[jd 4 0]
abbrev QmD:IL:=[ja 5 0,ja 6 1,⟨some 7,.xb false 305 (.t 5) (.t 6),none⟩,ja 4 7]
abbrev QmE:RC:=jQ QmC (jQ QmD (.ret))
abbrev QmF:List RR:=[.tmp 4]
theorem QmG:CT 300 8 QmE QmF:=ck Tryz.func300 Tryz.ntmps300 (by decide +kernel)
abbrev QCj:IL:=[je 3 3 0,je 5 5 2,jd 6 0]
abbrev QCk:IL:=[ja 8 1,yo 9 8 0,ja 10 9,jv 11 1 10,jp 12 0 3 10,jt 13 12 10,yf 14 1 13 10,DY 15 11 14 10,jo 16 10 15]
abbrev QCl:IL:=[jd 6 10]
abbrev QCm:IL:=[jf 17 2 3,ja 18 1,jf 19 7 5,⟨some 20,.call (.f 31) [(.t 17),(.t 18),(.t 19),(.c (.int .i64 1))],none⟩,ja 7 20]
abbrev QCn:IL:=[ja 21 7,yg 22 21 0]
abbrev QCo:IL:=[ja 23 7,ja 6 23]
abbrev QCp:IL:=[jf 24 7 5,jr 25 32 24,yq 26 25 4096]
abbrev QCq:IL:=[jd 6 3]
abbrev QCr:IL:=[jd 6 0]
abbrev Ww:RC:=jQ QCj (.seq (jQ QCk (.cond (.t 16) (jQ QCl (.ret)) (.skip))) (.seq (jQ QCm (jQ QCn (.cond (.t 22) (jQ QCo (.ret)) (.skip)))) (.seq (jQ QCp (.cond (.t 26) (jQ QCq (.ret)) (.skip))) (jQ QCr (.ret)))))
abbrev o14:List RR:=[.tmp 6]
theorem k14:CT 14 27 Ww o14:=ck Tryz.func14 Tryz.ntmps14 (by decide +kernel)
end Go.Proofs.YtipjfckmopekaaaGreatDoor.Rc

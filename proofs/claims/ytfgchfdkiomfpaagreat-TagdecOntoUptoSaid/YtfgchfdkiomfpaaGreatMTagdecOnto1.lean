/- Parts of the proof, in order. -/
import Derived.Deep.LoopGhost
import Derived.Scope
import Derived.Orders
import Derived.Defers
import Derived.Below
import Derived.ChangeSame
import Derived.ProofKit
import Derived.Test.YtfgchfdkiomfpaaGreatProg
import Derived.Test.YtfgchfdkiomfpaaGreatMTagdecOnto0

namespace Go.Proofs.YtfgchfdkiomfpaaGreat.Am
open Go

def Qj (P:Program)(k:FuncId)(args:List AV)(v:AV):Prop:=H7 P k args (· = v)

def Ud (P:Program)(d:Option Nat)(op:RO)(st:St)(K:St→Prop):Prop :=
 match op with
 |.val vo=>∃x,Qn st.f st.m vo=some x∧K { st with f:=Qk st.f d x }
 |.allocN s z=>X8 st.m s=true∧K { st with m:=Am.put st.m 0 s (.cells z),f:=Qk st.f d (.ptr 0 s 0) }
 |.boxN s r=>X8 st.m s=true∧(r.ev st.f).cells.all AV.leaf=true∧K { st with m:=Am.put st.m 0 s (.cells (r.ev st.f).cells),f:=Qk st.f d (.ptr 0 s 0) }
 |.store n p r=>(r.ev st.f).cells.length=n∧(r.ev st.f).cells.all AV.leaf=true∧∃m',Q6 st.m (p.ev st.f) (r.ev st.f).cells=some m'∧K { st with m:=m',f:=Qk st.f d (.tup []) }
 |.app sz bytes el s r=>∃l site g n xs ys,s.ev st.f=.vec l site g 0 n false∧Qd st.m l site=.vec g sz xs∧Zk site el=true∧n≤xs.length∧QY st.m (r.ev st.f)=some ys∧ys.all (fun e=>e.cells.length==sz)=true∧n+ys.length≤maxLen∧(n+ys.length)*bytes≤140737488355328∧
   K { st with m:=Am.put st.m l site (.vec (g+1) sz (xs.take n++ys)),f:=Qk st.f d (.vec l site (g+1) 0 (n+ys.length) false) }
 |.appl sz bytes el s r=>∃site g n xs ys,s.ev st.f=.vec 0 site g 0 n false∧Qd st.m 0 site=.vec g sz xs∧Zk site el=true∧n≤xs.length∧QY st.m (r.ev st.f)=some ys∧ys.all (fun e=>e.cells.length==sz)=true∧n+ys.length≤maxLen∧(n+ys.length)*bytes≤140737488355328∧
   K { st with m:=Am.put st.m 0 site (.vec (g+1+1) sz []),f:=Qk st.f d (.list (xs.take n++ys)) }
 |.storev l s n p r=>(∃o,p.ev st.f=.ptr l s o)∧(r.ev st.f).cells.length=n∧(r.ev st.f).cells.all AV.leaf=true∧∃m',Q6 st.m (p.ev st.f) (r.ev st.f).cells=some m'∧K { st with m:=m',f:=Qk st.f d (.tup []) }
 |.call f args=>∃k fa fb ys v,f.ev st.f=.fn (.func k) fa fb∧AV.stillL false st.m (fa++args.map (RA.ev st.f)++fb)=some ys∧AV.rfL ys=true∧Qj P k ys v∧v.rf=true∧(AV.rfL (fa++args.map (RA.ev st.f)++fb)=true∨v.nl=true)∧K { st with f:=Qk st.f d v }
 |.callF f args=>∃k fa fb v m',f.ev st.f=.fn (.func k) fa fb∧Qu P k (fa++args.map (RA.ev st.f)++fb) st.m (fun x m=>x=v∧m=m')∧K { st with m:=m',f:=Qk st.f d v }
 |.callG f args=>∃k fa fb R,f.ev st.f=.fn (.func k) fa fb∧Qu P k (fa++args.map (RA.ev st.f)++fb) st.m R∧∀x m',R x m'→m'.length=st.m.length→K { st with m:=m',f:=Qk st.f d x }
 |.bsl sz len z ps=>∃y,fill st.f ps (XD z sz len)=some y∧AV.rfL y=true∧y.all AV.leaf=true∧K { st with f:=Qk st.f d (.list (XP sz len (y.map nn0))) }
 |.bslv site sz len z ps=>∃y,fill st.f ps (XD z sz len)=some y∧AV.rfL y=true∧y.all AV.leaf=true∧Qi (Qd st.m 0 site)=true∧
   K { st with m:=Am.put st.m 0 site (.vec (Qo st.m 0 site) sz (XP sz len (y.map nn0))),f:=Qk st.f d (.vec 0 site (Qo st.m 0 site) 0 len false) }
 |.bsl0 site sz=>Qi (Qd st.m 0 site)=true∧K { st with m:=Am.put st.m 0 site (.vec (Qo st.m 0 site) sz []),f:=Qk st.f d (.vec 0 site (Qo st.m 0 site) 0 0 false) }
 |.appc site sz bytes _ s r=>∃xs ys,s.ev st.f=.lcap xs∧QY st.m (r.ev st.f)=some ys∧ys≠[]∧xs.all (fun e=>e.cells.length==sz)=true∧ys.all (fun e=>e.cells.length==sz)=true∧xs.length+ys.length≤maxLen∧(xs.length+ys.length)*bytes≤140737488355328∧Qi (Qd st.m 0 site)=true∧
   K { st with m:=Am.put st.m 0 site (.vec (Qo st.m 0 site) sz (xs++ys)),f:=Qk st.f d (.vec 0 site (Qo st.m 0 site) 0 (xs.length+ys.length) false) }
 |.isnil neg r=>∃ys,QY st.m (r.ev st.f)=some ys∧(r.ev st.f≠.nils→K { st with f:=Qk st.f d (.bool neg) })∧((r.ev st.f=.nils∨QP ys=[])→K { st with f:=Qk st.f d (.bool (!neg)) })
 |.callR f args=>∃k fa fb ys R,f.ev st.f=.fn (.func k) fa fb∧AV.stillL false st.m (fa++args.map (RA.ev st.f)++fb)=some ys∧AV.rfL ys=true∧H7 P k ys R∧(∀v,R v→v.rf=true∧(AV.rfL (fa++args.map (RA.ev st.f)++fb)=true∨v.nl=true))∧∀v,R v→K { st with f:=Qk st.f d v }
 |.rngs s r=>∃t,r.ev st.f=.str t∧X8 st.m s=true∧K { st with m:=Am.put st.m 0 s (.iter (.str t) 0),f:=Qk st.f d (.ptr 0 s 0) }
 |.nxts r=>∃l s t p,r.ev st.f=.ptr l s 0∧Qd st.m l s=.iter (.str t) p∧
   (p<t.length→K { st with m:=Am.put st.m l s (.iter (.str t) (p+(X9 t p).2)),f:=Qk st.f d (.tup [.bool true,.int .i64 (p:Nat),.int .i32 ((X9 t p).1:Nat)]) })∧(t.length≤p→K { st with f:=Qk st.f d (.tup [.bool false]) })
 |.mk site _ sz bytes z l c=>∃(kl kc:IntKind) (n k:Nat),l.ev st.f=.int kl (n:Int)∧c.ev st.f=.int kc (k:Int)∧n≤k∧k≤9223372036854775807∧bytes*k≤281474976710656∧Qi (Qd st.m 0 site)=true∧
   K { st with m:=Am.put st.m 0 site (.vec (Qo st.m 0 site) sz (List.replicate n (K4 sz z))),f:=Qk st.f d (.vec 0 site (Qo st.m 0 site) 0 n false) }
 |.s2b site _ r=>∃s,r.ev st.f=.str s∧s.length≤9223372036854775807∧Qi (Qd st.m 0 site)=true∧
   K { st with m:=Am.put st.m 0 site (.vec (Qo st.m 0 site) 1 (Xm s)),f:=Qk st.f d (.vec 0 site (Qo st.m 0 site) 0 s.length false) }
 |.dfr f args=>∃fn fa fb,f.ev st.f=.fn fn fa fb∧K { st with ds:=⟨fn,fb,fa++args.map (RA.ev st.f)⟩ :: st.ds,f:=Qk st.f d (.tup []) }

def X6 (P:Program)(it:Item)(st:St)(K:St→Prop):Prop :=
 match it.g with
 |none=>Ud P it.dst it.op st K
 |some (j,want)=>match st.f j with
  |.bool b=>(b=want→Ud P it.dst it.op st K)∧(b=(!want)→K { st with f:=Qk st.f it.dst (.tup []) })
  |.tup l=>l=[]∧K { st with f:=Qk st.f it.dst (.tup []) }
  |_=>False

def QC (P:Program):List Item→St→(St→Prop)→Prop
 | [],st,K=>K st
 |it :: Qe,st,K=>X6 P it st fun st'=>QC P Qe st' K

section
variable {P:Program}{N:Nat}

theorem Nz {α:Type}{f:Nat→α}{s:Nat}{x y:α}:QG (QG f s x) s y=QG f s y:=by
 funext i;by_cases h:i=s
 ·subst h;rw[Xe,Xe]
 ·rw[Xc _ _ h,Xc _ _ h,Xc _ _ h]
theorem DH {m:Qh}{s:Nat}{o q:Ob}:Am.put (Am.put m 0 s o) 0 s q=Am.put m 0 s q:=by
 cases m with
 |nil=>rfl
 |cons fr m=>show QG (QG fr s o) s q :: m=QG fr s q :: m;rw[Nz]

theorem Qv.appl {d:Option Nat}{sz bytes el:Nat}{s r:RA}{Qe:List Item}{st:St}{Q:St→Prop}{site g n:Nat}{xs ys:List AV}(hs:s.ev st.f=.vec 0 site g 0 n false)(hlk:Qd st.m 0 site=.vec g sz xs)(hte:Zk site el=true)(hn:n≤xs.length)
  (hy:QY st.m (r.ev st.f)=some ys) (hsz:ys.all (fun e=>e.cells.length==sz)=true) (hmax:n+ys.length≤maxLen) (hb:(n+ys.length)*bytes≤140737488355328)
  (h:Qv P N Qe { st with m:=Am.put st.m 0 site (.vec (g+1+1) sz []),f:=Qk st.f d (.list (xs.take n++ys)) } Q):Qv P N (⟨d,.appl sz bytes el s r,none⟩ :: Qe) st Q:=by
 refine .same (ro:=.app sz bytes el s r) (fun _=>rfl) (.app hs hlk hte hn hy hsz hmax hb ?_);intro ops l hc G B a w hr QQ hq;have hne:=hr.ne;have hlk':Qd (Am.put st.m 0 site (.vec (g+1) sz (xs.take n++ys))) 0 site=.vec (g+1) sz (xs.take n++ys):=by
  refine Ql (QPZ.2 ?_);rintro e;exact hne (by show Am.put st.m 0 site _=[];rw[e];rfl)
 have hlen:(xs.take n++ys).length=n+ys.length:=by rw[QPi,QPB];omega
 cases d with
 |none=>
  obtain⟨G',h1,h2,_,_⟩:=hr.pub0 hlk';rw[←DH (o:=.vec (g+1) sz (xs.take n++ys))]at h;exact h ops l hc G' B a w h1 QQ fun G2 st' a' w' k1 k2 k3=>hq G2 st' a' w' k1 k2 (h2.trans k3)
 |some t=>
  obtain⟨G',h1,h2⟩:=hr.publish (slot:=t) (site:=site) (g:=g+1) (sz:=sz) (o:=0) (n:=n+ys.length) (q:=false) (by show QG st.f t _ t=_;rw[Xe]) hlk' (by rw[hlen];omega);have e2:Qk st.f (some t) (.list (xs.take n++ys))=QG (QG st.f t (.vec 0 site (g+1) 0 (n+ys.length) false)) t (.list (((xs.take n++ys).drop 0).take (n+ys.length))):=by
   have e3:(xs.take n++ys).take (n+ys.length)=xs.take n++ys:=QPe (QPp hlen);rw[Nz,QPn,e3];rfl
  rw[←DH (o:=.vec (g+1) sz (xs.take n++ys)),e2]at h;exact h ops l hc G' B a w h1 QQ fun G2 st' a' w' k1 k2 k3=>hq G2 st' a' w' k1 k2 (h2.trans k3)

theorem Mi {d:Option Nat}{op:RO}{Qe:List Item}{st:St}{Q:St→Prop}(h:Ud P d op st fun st'=>Qv P N Qe st' Q):Qv P N (⟨d,op,none⟩ :: Qe) st Q:=by
 cases op with
 |val vo=>obtain⟨x,hx,h⟩:=h;exact .val hx h
 |allocN s z=>exact .allocN h.1 h.2
 |boxN s r=>exact .boxN h.1 h.2.1 h.2.2
 |store n p r=>obtain⟨h1,h2,m',h3,h⟩:=h;exact .store h1 h2 h3 h
 |app sz bytes el s r=>obtain⟨l,site,g,n,xs,ys,h1,h2,ht,h3,h4,h5,h6,h7,h⟩:=h;exact .app h1 h2 ht h3 h4 h5 h6 h7 h
 |appl sz bytes el s r=>obtain⟨site,g,n,xs,ys,h1,h2,ht,h3,h4,h5,h6,h7,h⟩:=h;exact .appl h1 h2 ht h3 h4 h5 h6 h7 h
 |mk site el sz bytes z l c=>obtain⟨kl,kc,n,k,h1,h2,h3,h4,h5,h6,h⟩:=h;exact .mk h1 h2 h3 h4 h5 h6 h
 |s2b site el r=>obtain⟨s,h1,h2,h3,h⟩:=h;exact .s2b h1 h2 h3 h
 |storev l s n p r=>obtain⟨_,h1,h2,m',h3,h⟩:=h;exact .same (ro:=.store n p r) (fun _=>rfl) (.store h1 h2 h3 h)
 |call f args=>
  obtain⟨k,fa,fb,ys,v,hf,h1,h2,h3,h4,h5,h⟩:=h;exact .callPure hf h1 h2 h3 (fun x hx=>by subst hx;exact⟨h4,h5⟩) fun x hx=>by subst hx;exact h
 |callF f args=>
  obtain⟨k,fa,fb,v,m',hf,h1,h⟩:=h;exact .same (ro:=.call f args) (fun _=>rfl) (.callFull hf h1 fun x m hx _=>by obtain⟨rfl,rfl⟩:=hx;exact h)
 |callG f args=>
  obtain⟨k,fa,fb,R,hf,h1,h⟩:=h;exact .same (ro:=.call f args) (fun _=>rfl) (.callFull hf h1 h)
 |bsl sz len z ps=>obtain⟨y,h1,h2,h3,h⟩:=h;exact .bsl h1 h2 h3 h
 |bslv site sz len z ps=>obtain⟨y,h1,h2,h3,h4,h⟩:=h;exact .bslv h1 h2 h3 h4 h
 |bsl0 site sz=>exact .bsl0 h.1 h.2
 |isnil neg r=>obtain⟨ys,h1,h2,h3⟩:=h;exact .isnil h1 h2 h3
 |appc site sz bytes el s r=>obtain⟨xs,ys,h1,h2,h3,h4,h5,h6,h7,h8,h⟩:=h;exact .appc h1 h2 h3 h4 h5 h6 h7 h8 h
 |dfr f args=>obtain⟨fn,fa,fb,h1,h⟩:=h;exact .dfr h1 h
 |callR f args=>
  obtain⟨k,fa,fb,ys,R,hf,h1,h2,h3,h4,h⟩:=h;exact .same (ro:=.call f args) (fun _=>rfl) (.callPure hf h1 h2 h3 h4 h)
 |rngs s r=>obtain⟨t,h1,h2,h⟩:=h;exact .rngs h1 h2 h
 |nxts r=>obtain⟨l,s,t,p,h1,h2,h3,h4⟩:=h;exact .nxts h1 h2 h3 h4

theorem Fy {it:Item}{Qe:List Item}{st:St}{Q:St→Prop}(h:X6 P it st fun st'=>Qv P N Qe st' Q):Qv P N (it :: Qe) st Q:=by
 obtain⟨d,op,g⟩:=it;cases g with
 |none=>exact Mi h
 |some p=>
  obtain⟨j,want⟩:=p;simp only[X6]at h;split at h
  ·rename_i b hj;by_cases hb:b=want
   ·subst hb;exact .yes hj (Mi (h.1 rfl))
   ·have hb':b=!want:=by cases b<;>cases want<;>first|rfl|exact absurd rfl hb
    subst hb';exact .no (.inl hj) (h.2 rfl)
  ·rename_i l hj;obtain⟨rfl,h⟩:=h;exact .no (.inr hj) h
  ·exact h.elim

theorem Fz {d:Option Nat}{op:RO}{st:St}{K K':St→Prop}(hk:∀s,K s→K' s)(h:Ud P d op st K):Ud P d op st K':=by
 cases op<;>simp only[Ud]at h ⊢
 case val=>obtain⟨x,a,b⟩:=h;exact⟨x,a,hk _ b⟩
 case allocN=>exact⟨h.1,hk _ h.2⟩
 case boxN=>exact⟨h.1,h.2.1,hk _ h.2.2⟩
 case store=>obtain⟨h1,h2,m',h3,h⟩:=h;exact⟨h1,h2,m',h3,hk _ h⟩
 case app=>obtain⟨l,site,g,n,xs,ys,h1,h2,ht,h3,h4,h5,h6,h7,h⟩:=h;exact⟨l,site,g,n,xs,ys,h1,h2,ht,h3,h4,h5,h6,h7,hk _ h⟩
 case appl=>obtain⟨site,g,n,xs,ys,h1,h2,ht,h3,h4,h5,h6,h7,h⟩:=h;exact⟨site,g,n,xs,ys,h1,h2,ht,h3,h4,h5,h6,h7,hk _ h⟩
 case mk=>obtain⟨kl,kc,n,k,h1,h2,h3,h4,h5,h6,h⟩:=h;exact⟨kl,kc,n,k,h1,h2,h3,h4,h5,h6,hk _ h⟩
 case s2b=>obtain⟨s,h1,h2,h3,h⟩:=h;exact⟨s,h1,h2,h3,hk _ h⟩
 case dfr=>obtain⟨fn,fa,fb,h1,h⟩:=h;exact⟨fn,fa,fb,h1,hk _ h⟩
 case bsl=>obtain⟨y,h1,h2,h3,h⟩:=h;exact⟨y,h1,h2,h3,hk _ h⟩
 case bslv=>obtain⟨y,h1,h2,h3,h4,h⟩:=h;exact⟨y,h1,h2,h3,h4,hk _ h⟩
 case bsl0=>exact⟨h.1,hk _ h.2⟩
 case appc=>obtain⟨xs,ys,h1,h2,h3,h4,h5,h6,h7,h8,h⟩:=h;exact⟨xs,ys,h1,h2,h3,h4,h5,h6,h7,h8,hk _ h⟩
 case isnil=>obtain⟨ys,h1,h2,h3⟩:=h;exact⟨ys,h1,fun e=>hk _ (h2 e),fun e=>hk _ (h3 e)⟩
 case callR=>obtain⟨k,fa,fb,ys,R,hf,h1,h2,h3,h4,h⟩:=h;exact⟨k,fa,fb,ys,R,hf,h1,h2,h3,h4,fun v hv=>hk _ (h v hv)⟩
 case rngs=>obtain⟨t,h1,h2,h⟩:=h;exact⟨t,h1,h2,hk _ h⟩
 case nxts=>obtain⟨l,s,t,p,h1,h2,h3,h4⟩:=h;exact⟨l,s,t,p,h1,h2,fun e=>hk _ (h3 e),fun e=>hk _ (h4 e)⟩
 case storev=>obtain⟨h0,h1,h2,m',h3,h⟩:=h;exact⟨h0,h1,h2,m',h3,hk _ h⟩
 case call=>obtain⟨k,fa,fb,ys,v,hf,h1,h2,h3,h4,h5,h⟩:=h;exact⟨k,fa,fb,ys,v,hf,h1,h2,h3,h4,h5,hk _ h⟩
 case callF=>obtain⟨k,fa,fb,v,m',hf,h1,h⟩:=h;exact⟨k,fa,fb,v,m',hf,h1,hk _ h⟩
 case callG=>obtain⟨k,fa,fb,R,hf,h1,h⟩:=h;exact⟨k,fa,fb,R,hf,h1,fun x m' hr hl=>hk _ (h x m' hr hl)⟩

theorem YM {it:Item}{st:St}{K K':St→Prop}(hk:∀s,K s→K' s)(h:X6 P it st K):X6 P it st K':=by
 unfold X6 at h ⊢;split at h
 ·exact Fz hk h
 ·split at h
  ·exact⟨fun e=>Fz hk (h.1 e),fun e=>hk _ (h.2 e)⟩
  ·exact⟨h.1,hk _ h.2⟩
  ·exact h.elim

theorem NA:∀ {Qe:List Item} {st:St} {Q:St→Prop},QC P Qe st Q→Qv P N Qe st Q
 | [],_,_,h=>.nil h
 |_ :: _,_,_,h=>Fy (YM (fun _ hs=>NA hs) h)

end

inductive GO where
 |vec (slot site sz:Nat)
 |drop (s:Nat)
 |vecc (s idx site sz:Nat)
 |pub (slot site:Nat)
 |give (slot site l S:Nat)
 |lst (slot:Nat)

def ZI (g:GO)(st:St):Option St :=
 match g with
 |.vec slot site sz=>match st.f slot with
  |.nils=>bif Qi (Qd st.m 0 site)then some { st with m:=Am.put st.m 0 site (.vec (Qo st.m 0 site) sz []),f:=QG st.f slot (.vec 0 site (Qo st.m 0 site) 0 0 false) } else none
  |_=>none
 |.drop s=>bif YJ st.m s then some (st.drop s)else none
 |.vecc s idx site sz=>match Qd st.m 0 s with
  |.cells xs=>match xs[idx]? with
   |some .nils=>bif Qi (Qd st.m 0 site) && !(Nat.beq site s)then some { st with m:=Am.put (Am.put st.m 0 site (.vec (Qo st.m 0 site) sz [])) 0 s (.cells (xs.set idx (.vec 0 site (Qo st.m 0 site) 0 0 false))) } else none
   |some _=>some st
   |none=>none
  |_=>none
 |.pub slot site=>match st.f slot with
  |.vec 0 s' g o n _=>match Qd st.m 0 site with
   |.vec g' sz xs=>bif Nat.beq s' site&&Nat.beq g g'&&Nat.ble (o+n) xs.length then some { st with m:=Am.put st.m 0 site (.vec (g+1) sz []),f:=QG st.f slot (.list ((xs.drop o).take n)) } else none
   |_=>none
  |.list _=>some st
  |_=>none
 |.give slot site l S=>match st.f slot with
  |.vec 0 s' g o n q=>match Qd st.m 0 site with
   |.vec g' sz xs=>bif Nat.beq s' site&&Nat.beq g g'&&Nat.blt l st.m.length && !(Nat.beq l 0)&&Qi (Qd st.m l S)&&Nat.blt S 2000 then some { st with m:=Am.put (Am.put st.m 0 site (.vec (g+1) sz [])) l S (.vec (Qo st.m l S) sz xs),f:=QG st.f slot (.vec l S (Qo st.m l S) o n q) } else none
   |_=>none
  |_=>none
 |.lst slot=>match st.f slot with
  |.nils=>some { st with f:=QG st.f slot (.list []) }
  |.list l=>some { st with f:=QG st.f slot (.list l) }
  |_=>none

inductive RC where
 |skip
 |reg (Qe:List Item)
 |draw (Qe:List Item)
 |seq (a b:RC)
 |cond (c:RA) (a b:RC)
 |block (id:Nat) (a:RC)
 |loop (a:RC)
 |exit (id:Nat)
 |scope (a:RC)
 |lab
 |ret
 |gho (g:GO) (a:RC)
 |no

def Ks (f:St→Prop)(Q:Exit→St→Prop):Exit→St→Prop
 |.normal,st=>f st
 |e,st=>Q e st
def Kb (id:Nat)(Q:Exit→St→Prop):Exit→St→Prop
 |.exit i,st=>if i=id then Q .normal st else Q (.exit i) st
 |e,st=>Q e st
def Kg (Q:Exit→St→Prop):Exit→St→Prop
 |.goto _,_=>False
 |e,st=>Q e st

def QJ (P:Program):RC→St→(Exit→St→Prop)→Prop
 |.skip,st,Q=>Q .normal st
 |.reg Qe,st,Q=>QC P Qe st (Q .normal)
 |.draw Qe,st,Q=>QC P Qe st (Q .normal)
 |.seq a b,st,Q=>QJ P a st (Ks (fun st'=>QJ P b st' Q) Q)
 |.cond c a b,st,Q=>∃t,c.ev st.f=.bool t∧(t=true→QJ P a st Q)∧(t=false→QJ P b st Q)
 |.block id a,st,Q=>QJ P a st (Kb id Q)
 |.loop a,st,Q=>∃(I:Nat→St→Prop) (n:Nat),I n st∧∀n st',I n st'→QJ P a st' (Ks (fun s=>∃k,k<n∧I k s) Q)
 |.exit id,st,Q=>Q (.exit id) st
 |.scope a,st,Q=>QJ P a st (Kg Q)
 |.lab,st,Q=>Q .normal st
 |.ret,st,Q=>Q .ret st
 |.gho g a,st,Q=>∃st',ZI g st=some st'∧QJ P a st' Q
 |.no,_,_=>False

theorem Ul {G:Gh}{f:Fr}{a:Act}(hs:∀i,Rep G (f i) (a.tmps.getD i undef)){d:Nat}{x:AV}(hx:Rep G x (a.tmps.getD d undef)):∀i,Rep G (QG f d x i) (a.tmps.getD i undef):=by
 intro i;by_cases hi:i=d
 ·subst hi;rw[Xe];exact hx
 ·rw[Xc _ _ hi];exact hs i

theorem Rr {G:Gh}{B N:Nat}{st st':St}{a:Act}{w:World}(h:Rel G B N st a w){g:GO}(hg:ZI g st=some st'):∃G',Rel G' B N st' a w∧Ext 1 G w G' w:=by
 cases g with
 |vec slot site sz=>
  simp only[ZI]at hg;split at hg
  ·rename_i hn;cases hro:Qi (Qd st.m 0 site)with
   |false=>rw[hro]at hg;cases hg
   |true=>
    rw[hro]at hg;simp only[cond_true,QO3]at hg;subst hg;have hl:0<st.m.length:=QPZ.2 h.ne;obtain⟨h1,h2⟩:=h.vecput (w':=w) (sz:=sz) (cap:=0) (b:=none) (ys:=[]) hl hro (Ja h.mr hro) rfl rfl rfl (QOE _) (fun _ _ _=>rfl) (fun k e=>by cases e) ⟨by simp,rfl,rfl⟩ (.inl ⟨rfl,rfl⟩);refine⟨_,⟨h1.mr,h1.size,Ul h1.slots ?_,h1.ds,h1.base,h1.top,h1.ne⟩,h2⟩;have hs:=h.slots slot;rw[hn]at hs;generalize a.tmps.getD slot undef=v at hs;cases hs;exact .vec rfl (QPp (by simp[Gh.row])) fun _=>.inl ⟨by simp[Gh.row],rfl,rfl,none,rfl,fun _=>rfl⟩
  ·cases hg
 |drop s=>
  simp only[ZI]at hg;cases hro:YJ st.m s with
  |false=>rw[hro]at hg;cases hg
  |true=>
   rw[hro]at hg;simp only[cond_true,QO3]at hg;subst hg;exact⟨_,h.drop s hro⟩
 |vecc s idx site sz=>
  simp only[ZI]at hg;split at hg
  ·rename_i xs hlk;split at hg
   ·rename_i hn;cases hro:(Qi (Qd st.m 0 site) && !(Nat.beq site s))with
    |false=>rw[hro]at hg;cases hg
    |true=>
     rw[hro]at hg;simp only[cond_true,QO3]at hg;subst hg;rw[QO2]at hro;have hne:s≠site:=fun e=>by
      have h2:=hro.2;rw[e]at h2;simp at h2
     have hl:0<st.m.length:=QPZ.2 h.ne;obtain⟨h1,h2⟩:=h.vecput (w':=w) (sz:=sz) (cap:=0) (b:=none) (ys:=[]) hl hro.1 (Ja h.mr hro.1) rfl rfl rfl (QOE _) (fun _ _ _=>rfl) (fun k e=>by cases e) ⟨by simp,rfl,rfl⟩ (.inl ⟨rfl,rfl⟩);have hlk':Qd (Am.put st.m 0 site (.vec (Qo st.m 0 site) sz [])) 0 s=.cells xs:=by
      rw[Qq (.inr hne)];exact hlk
     obtain⟨b,cs,hb,hsoft,hrep⟩:=h1.mr.cells 0 s xs hlk';obtain⟨v,hv,hr⟩:=hrep.at_ hn;have hvn:v=.slice none 0 0:=by cases hr;rfl
     subst hvn;have hset:cs.toList.set idx (.slice none 0 0)=cs.toList:=by
      obtain⟨hi,he⟩:=QOG.1 hv;rw[←he,List.set_getElem_self]
     have hrep':=hrep.set idx (x:=.vec 0 site (Qo st.m 0 site) 0 0 false) (v:=.slice none 0 0) (.vec rfl (QPp (by simp[Gh.row,Gh.dn])) fun _=>.inl ⟨by simp[Gh.row,Gh.dn],rfl,rfl,none,rfl,fun _=>rfl⟩);rw[hset]at hrep';exact⟨_,⟨h1.mr.stored hlk' hb (Turned.refl b w) hsoft hrep',h1.size,h1.slots,h1.ds,h1.base,h1.top,K9 h1.ne⟩,h2⟩
   ·cases hg;exact⟨G,h,Ext.refl 1 G w⟩
   ·cases hg
  ·cases hg
 |pub slot site=>
  simp only[ZI]at hg;split at hg
  ·rename_i s' g o n q hs;split at hg
   ·rename_i g' sz xs hlk;cases hb:(Nat.beq s' site&&Nat.beq g g'&&Nat.ble (o+n) xs.length)with
    |false=>rw[hb]at hg;cases hg
    |true=>
     rw[hb]at hg;simp only[cond_true,QO3]at hg;subst hg;simp only[QO2]at hb;obtain⟨⟨b1,b2⟩,b3⟩:=hb;have e1:=QOC b1;have e2:=QOC b2;subst e1 e2;exact h.publish hs hlk (QP8 b3)
   ·cases hg
  ·cases hg;exact⟨G,h,Ext.refl 1 G w⟩
  ·cases hg
 |give slot site l S=>
  simp only[ZI]at hg;split at hg
  ·rename_i s' g o n q hs;split at hg
   ·rename_i g' sz xs hlk;cases hb:(Nat.beq s' site&&Nat.beq g g'&&Nat.blt l st.m.length && !(Nat.beq l 0)&&Qi (Qd st.m l S)&&Nat.blt S 2000)with
    |false=>rw[hb]at hg;cases hg
    |true=>
     rw[hb]at hg;simp only[cond_true,QO3]at hg;subst hg;simp only[QO2]at hb;obtain⟨⟨⟨⟨⟨b1,b2⟩,b3⟩,b4⟩,b5⟩,b6⟩:=hb;have e1:=QOC b1;have e2:=QOC b2;subst e1 e2;have b4':l≠0:=fun e=>by rw[e]at b4;simp at b4
     exact h.give hs hlk (QP8 b3) b4' b5 (QP8 b6)
   ·cases hg
  ·cases hg
 |lst slot=>
  simp only[ZI]at hg;split at hg
  ·rename_i hs;cases hg;refine⟨G,⟨h.mr,h.size,Ul h.slots ?_,h.ds,h.base,h.top,h.ne⟩,Ext.refl 1 G w⟩;have hr:=h.slots slot;rw[hs]at hr;exact hr.nn0
  ·rename_i l hs;cases hg;refine⟨G,⟨h.mr,h.size,Ul h.slots ?_,h.ds,h.base,h.top,h.ne⟩,Ext.refl 1 G w⟩;have hr:=h.slots slot;rw[hs]at hr;exact hr
  ·cases hg

def RA.sl:RA→List Nat
 |.t n=>[n]
 |_=>[]
def FA:Option RA→List Nat
 |some r=>r.sl
 |none=>[]
def VO.sl:VO→List Nat
 |.mov x=>x.sl
 |.pick c a b=>c.sl++(a.sl++b.sl)
 |.build _ ps=>ps.flatMap fun p=>p.2.2.sl
 |.load _ x=>x.sl
 |.loadv _ _ _ x=>x.sl
 |.loado _ x=>x.sl
 |.loadr _ x=>x.sl
 |.nilck x=>x.sl
 |.un _ x=>x.sl
 |.cvi _ x=>x.sl
 |.b2s x=>x.sl
 |.faddr _ x=>x.sl
 |.faddv _ x=>x.sl
 |.ext x _=>x.sl
 |.len _ x=>x.sl
 |.bin _ _ x y=>x.sl++y.sl
 |.eqs _ _ x y=>x.sl++y.sl
 |.iaddr _ _ x y=>x.sl++y.sl
 |.idx x y=>x.sl++y.sl
 |.mnx _ x y=>x.sl++y.sl
 |.slc _ x lo hi mx=>x.sl++(FA lo++(FA hi++FA mx))
 |.slcl x hi mx=>x.sl++(hi.sl++mx.sl)
 |.slcp _ x lo hi mx=>x.sl++(FA lo++(FA hi++FA mx))
 |.mkfn _ a b=>a.flatMap RA.sl++b.flatMap RA.sl
 |.same x=>x.sl
 |.mki _ x=>x.sl
 |.tas _ _ _ x=>x.sl
def RO.sl:RO→List Nat
 |.val v=>v.sl
 |.allocN _ _=>[]
 |.boxN _ r=>r.sl
 |.store _ p r=>p.sl++r.sl
 |.storev _ _ _ p r=>p.sl++r.sl
 |.app _ _ _ s r=>s.sl++r.sl
 |.appl _ _ _ s r=>s.sl++r.sl
 |.mk _ _ _ _ _ l c=>l.sl++c.sl
 |.s2b _ _ r=>r.sl
 |.bsl _ _ _ ps=>ps.flatMap fun p=>p.2.2.sl
 |.call f rs=>f.sl++rs.flatMap RA.sl
 |.callF f rs=>f.sl++rs.flatMap RA.sl
 |.dfr f rs=>f.sl++rs.flatMap RA.sl
 |.bslv _ _ _ _ ps=>ps.flatMap fun p=>p.2.2.sl
 |.bsl0 _ _=>[]
 |.isnil _ x=>x.sl
 |.appc _ _ _ _ s r=>s.sl++r.sl
 |.callR f rs=>f.sl++rs.flatMap RA.sl
 |.callG f rs=>f.sl++rs.flatMap RA.sl
 |.rngs _ r=>r.sl
 |.nxts r=>r.sl
def Item.sl (it:Item):List Nat:=it.op.sl++(match it.g with|some (j,_)=>[j]|none=>[])

def ZP (l:List Nat)(f f':Fr):Prop:=∀t,t∈l→f t=f' t
theorem ZP.left {a b:List Nat}{f f':Fr}(h:ZP (a++b) f f'):ZP a f f':=fun t ht=>h t (List.mem_append_left _ ht)
theorem ZP.right {a b:List Nat}{f f':Fr}(h:ZP (a++b) f f'):ZP b f f':=fun t ht=>h t (List.mem_append_right _ ht)

theorem RA.ev_same {r:RA}{f f':Fr}(h:ZP r.sl f f'):r.ev f=r.ev f':=by
 cases r with
 |t n=>exact h n (by simp[RA.sl])
 |c x=>rfl
 |f k=>rfl

theorem WQ:∀ {rs:List RA} {f f':Fr},ZP (rs.flatMap RA.sl) f f'→rs.map (RA.ev f)=rs.map (RA.ev f')
 | [],_,_,_=>rfl
 |r :: rs,f,f',h=>by
  rw[QP9]at h;rw[QPc,QPc,RA.ev_same h.left,WQ h.right]

theorem W8 {f f':Fr}:∀ {ps:List (Nat×Nat×RA)} {z:List AV},ZP (ps.flatMap fun p=>p.2.2.sl) f f'→fill f ps z=fill f' ps z
 | [],_,_=>rfl
 |(o,n,r) :: ps,z,h=>by
  rw[QP9]at h;simp only[fill,RA.ev_same h.left,W8 h.right]

theorem KS {f f':Fr}{d:Nat}{r:Option RA}(h:ZP (FA r) f f'):Jh f d r=Jh f' d r:=by
 cases r with
 |none=>rfl
 |some r=>simp only[Jh,RA.ev_same (r:=r) h]

theorem Rs {f f':Fr}{m:Qh}{vo:VO}(h:ZP vo.sl f f'):Qn f m vo=Qn f' m vo:=by
 cases vo with
 |mov x=>simp only[Qn,RA.ev_same (r:=x) h]
 |pick c a b=>simp only[Qn,RA.ev_same (r:=c) h.left,RA.ev_same (r:=a) h.right.left,RA.ev_same (r:=b) h.right.right]
 |build z ps=>simp only[Qn,W8 (ps:=ps) h]
 |load k x=>simp only[Qn,RA.ev_same (r:=x) h]
 |loadv l s k x=>simp only[Qn,RA.ev_same (r:=x) h]
 |loado k x=>simp only[Qn,RA.ev_same (r:=x) h]
 |loadr k x=>simp only[Qn,RA.ev_same (r:=x) h]
 |nilck x=>simp only[Qn,RA.ev_same (r:=x) h]
 |un o x=>simp only[Qn,RA.ev_same (r:=x) h]
 |cvi k x=>simp only[Qn,RA.ev_same (r:=x) h]
 |b2s x=>simp only[Qn,RA.ev_same (r:=x) h]
 |faddr o x=>simp only[Qn,RA.ev_same (r:=x) h]
 |faddv o x=>simp only[Qn,RA.ev_same (r:=x) h]
 |ext x i=>simp only[Qn,RA.ev_same (r:=x) h]
 |same x=>simp only[Qn,RA.ev_same (r:=x) h]
 |len k x=>simp only[Qn,RA.ev_same (r:=x) h]
 |bin t o x y=>simp only[Qn,RA.ev_same (r:=x) h.left,RA.ev_same (r:=y) h.right]
 |eqs n ks x y=>simp only[Qn,RA.ev_same (r:=x) h.left,RA.ev_same (r:=y) h.right]
 |iaddr sz len x y=>simp only[Qn,RA.ev_same (r:=x) h.left,RA.ev_same (r:=y) h.right]
 |idx x y=>simp only[Qn,RA.ev_same (r:=x) h.left,RA.ev_same (r:=y) h.right]
 |mki t x=>simp only[Qn,RA.ev_same (r:=x) h]
 |tas t ok z x=>simp only[Qn,RA.ev_same (r:=x) h]
 |mnx b x y=>simp only[Qn,RA.ev_same (r:=x) h.left,RA.ev_same (r:=y) h.right]
 |slc sz x lo hi mx=>
  have h1:=h.right.left;have h2:=h.right.right.left;have h3:=h.right.right.right;simp only[Qn,RA.ev_same (r:=x) h.left,KS (r:=lo) h1,KS (r:=hi) h2];cases mx with
  |none=>rfl
  |some r=>simp only[KS (r:=some r) h3]
 |slcp sz x lo hi mx=>
  have h1:=h.right.left;have h2:=h.right.right.left;have h3:=h.right.right.right;simp only[Qn,RA.ev_same (r:=x) h.left,KS (r:=lo) h1,KS (r:=hi) h2];cases mx with
  |none=>rfl
  |some r=>simp only[KS (r:=some r) h3]
 |mkfn fn a b=>simp only[Qn,WQ (rs:=a) h.left,WQ (rs:=b) h.right]
 |slcl x hi mx=>simp only[Qn,RA.ev_same (r:=x) h.left,RA.ev_same (r:=hi) h.right.left,RA.ev_same (r:=mx) h.right.right]

inductive MC where
 |no
 |shape
 |rows
 |cell (l s:Nat)
 |outer
 |all
 deriving DecidableEq

def VO.mc:VO→MC
 |.load _ _=>.all
 |.loadv l s _ _=>.cell l s
 |.loado _ _=>.outer
 |.loadr _ _=>.rows
 |.b2s _=>.rows
 |.nilck _=>.shape
 |.faddr _ _=>.shape
 |.len _ _=>.shape
 |.slc .. => .shape
 |.iaddr .. => .shape
 |_=>.no

def Ob.sh:Ob→Option (Nat×Nat)
 |.vec g z _=>some (g,z)
 |_=>Option.none
def Ob.row:Ob→Option (Nat×Nat×List AV)
 |.vec g z xs=>some (g,z,xs)
 |_=>Option.none

def XE:MC→Qh→Qh→Prop
 |.no,_,_=>True
 |.shape,m,m'=>∀l s,(Qd m l s).sh=(Qd m' l s).sh
 |.rows,m,m'=>∀l s,(Qd m l s).row=(Qd m' l s).row
 |.cell l s,m,m'=>Qd m l s=Qd m' l s∨((Qd m l s).isRow=true∧(Qd m' l s).isRow=true)
 |.outer,m,m'=>∀l s,Qd m (l+1) s=Qd m' (l+1) s
 |.all,m,m'=>m=m'

theorem XE.refl (c:MC)(m:Qh):XE c m m:=by
 cases c<;>simp[XE]

theorem Um {m m':Qh}{l s:Nat}(h:(Qd m l s).sh=(Qd m' l s).sh):Wk m l s=Wk m' l s:=by
 unfold Wk;cases h1:Qd m l s<;>cases h2:Qd m' l s<;>rw[h1,h2]at h<;>simp_all[Ob.sh]

theorem VM {m m':Qh}(h:XE .rows m m')(x:AV):QY m x=QY m' x:=by
 cases x with
 |vec l s g o n q=>
  have h:=h l s;simp only[QY];cases h1:Qd m l s<;>cases h2:Qd m' l s<;>rw[h1,h2]at h<;>simp_all[Ob.row]
 |_=>rfl

theorem FB {m m':Qh}(h:XE .shape m m')(sz:Option Nat)(x:AV)(lo hi:Nat)(mx:Option Nat):Xh m sz x lo hi mx=Xh m' sz x lo hi mx:=by
 cases sz with
 |none=>rfl
 |some z=>
  cases x with
  |vec l s g o n q=>
   have h:=h l s;simp only[Xh];cases h1:Qd m l s<;>cases h2:Qd m' l s<;>rw[h1,h2]at h<;>simp_all[Ob.sh]
  |_=>rfl

theorem FC {m m':Qh}(h:XE .shape m m')(sz:Nat)(len:Option Nat)(x:AV)(i:Int):Qf m sz len x i=Qf m' sz len x i:=by
 unfold Qf;cases len with
 |none=>
  cases x with
  |vec l s g o n q=>
   have h:=h l s;simp only;cases h1:Qd m l s<;>cases h2:Qd m' l s<;>rw[h1,h2]at h<;>simp_all[Ob.sh]
  |_=>rfl
 |some k=>rfl

def Ru (F:Nat→List AV→Option AV):Ob→Option AV
 |.vec g _ xs=>F g xs
 |_=>none

theorem Mj {o o':Ob}(h:o.row=o'.row)(F:Nat→List AV→Option AV):Ru F o=Ru F o':=by
  cases o<;>cases o'<;>simp only[Ob.row,QO3,Prod.mk.injEq,reduceCtorEq]at h<;>first
    |rfl
    | (obtain⟨rfl,_,rfl⟩:=h
       rfl)

theorem Gb (m:Qh)(k:Option Nat)(l s g i o:Nat):Q3 m k (.vptr l s g i o)=Ru (fun g' xs=>if g=g' then match xs[i]? with
  |some e=>part e.cells o k
  |none=>none
 else none) (Qd m l s):=by
 simp only[Q3];cases Qd m l s<;>rfl

theorem AP {f:Fr}{m m':Qh}{vo:VO}(h:XE vo.mc m m'):Qn f m vo=Qn f m' vo:=by
 cases vo<;>simp only[VO.mc]at h<;>try rfl
 case load k x=>have h:m=m':=h;subst h;rfl
 case loado k x=>
  have h:∀l s,Qd m (l+1) s=Qd m' (l+1) s:=h;simp only[Qn];split
  ·simp only[Q3,h]
  ·rfl
 case loadv l s k x=>
  have h:Qd m l s=Qd m' l s∨((Qd m l s).isRow=true∧(Qd m' l s).isRow=true):=h;simp only[Qn];split
  ·split
   ·rename_i hh;obtain⟨rfl,rfl⟩:=hh;rcases h with h|⟨h1,h2⟩
    ·simp only[Q3,h]
    ·simp only[Q3];cases e1:Qd m _ _<;>cases e2:Qd m' _ _<;>rw[e1]at h1<;>rw[e2]at h2<;>first|rfl|(simp[Ob.isRow]at h1;done)|(simp[Ob.isRow]at h2;done)
   ·rfl
  ·rfl
 case b2s x=>simp only[Qn,VM h]
 case loadr k x=>
  simp only[Qn];split
  ·rfl
  ·rename_i l s g i o e;have h4:(Qd m l s).row=(Qd m' l s).row:=h l s;rw[Gb,Gb,Mj h4]
  ·rfl
 case nilck x=>simp only[Qn,fun l s=>Um (h l s)]
 case faddr o x=>simp only[Qn,fun l s=>Um (h l s)]
 case len k x=>simp only[Qn,fun l s=>Um (h l s)]
 case slc sz x lo hi mx=>simp only[Qn,FB h]
 case iaddr sz len x i=>simp only[Qn,FC h]

mutual
theorem Gc {m m':Qh}(h:XE .rows m m'):∀x:AV,x.still false m=x.still false m'
 |.vec l s g o n q=>by
   have h:=h l s;simp only[AV.still];cases h1:Qd m l s<;>cases h2:Qd m' l s<;>rw[h1,h2]at h<;>simp_all[Ob.row]
 |.agg l=>by simp only[AV.still,K5 h l]
 |.tup l=>by simp only[AV.still,K5 h l]
 |.iface t x=>by simp only[AV.still,Gc h x]
 |.top|.int .. | .bool _|.str _|.nils|.nilp|.nilf|.nili|.nilm|.anyp|.list _|.lcap _|.fn .. | .ptr .. | .vptr .. | .rptr _|.mp .. => rfl
 |.mptr l s=>by simp only[AV.still,QQa,QOX,if_false]
theorem K5 {m m':Qh}(h:XE .rows m m'):∀l:List AV,AV.stillL false m l=AV.stillL false m' l
 | []=>rfl
 |x :: l=>by simp only[AV.stillL,Gc h x,K5 h l]
end

def RO.pure:RO→Bool
 |.val _=>true
 |.bsl .. => true
 |.call _ _=>true
 |_=>false

def RO.mc:RO→MC
 |.val v=>v.mc
 |.call _ _=>.rows
 |.bsl .. => .no
 |_=>.all

section
variable {P:Program}

def VN (P:Program)(op:RO)(st:St)(x:AV):Prop :=
 match op with
 |.val vo=>Qn st.f st.m vo=some x
 |.call f args=>∃k fa fb ys,f.ev st.f=.fn (.func k) fa fb∧AV.stillL false st.m (fa++args.map (RA.ev st.f)++fb)=some ys∧AV.rfL ys=true∧Qj P k ys x∧x.rf=true∧(AV.rfL (fa++args.map (RA.ev st.f)++fb)=true∨x.nl=true)
 |_=>False

def Zh (P:Program)(op:RO)(st:St)(x:AV)(m:Qh):Prop :=
 match op with
 |.val vo=>Qn st.f st.m vo=some x∧m=st.m
 |.call f args=>VN P (.call f args) st x∧m=st.m
 |.allocN s z=>X8 st.m s=true∧x=.ptr 0 s 0∧m=Am.put st.m 0 s (.cells z)
 |.boxN s r=>X8 st.m s=true∧(r.ev st.f).cells.all AV.leaf=true∧x=.ptr 0 s 0∧m=Am.put st.m 0 s (.cells (r.ev st.f).cells)
 |.store n p r=>(r.ev st.f).cells.length=n∧(r.ev st.f).cells.all AV.leaf=true∧Q6 st.m (p.ev st.f) (r.ev st.f).cells=some m∧x=.tup []
 |.storev l s n p r=>(∃o,p.ev st.f=.ptr l s o)∧(r.ev st.f).cells.length=n∧(r.ev st.f).cells.all AV.leaf=true∧Q6 st.m (p.ev st.f) (r.ev st.f).cells=some m∧x=.tup []
 |.app sz bytes el s r=>∃l site g n xs ys,s.ev st.f=.vec l site g 0 n false∧Qd st.m l site=.vec g sz xs∧Zk site el=true∧n≤xs.length∧QY st.m (r.ev st.f)=some ys∧ys.all (fun e=>e.cells.length==sz)=true∧n+ys.length≤maxLen∧(n+ys.length)*bytes≤140737488355328∧
   x=.vec l site (g+1) 0 (n+ys.length) false∧m=Am.put st.m l site (.vec (g+1) sz (xs.take n++ys))
 |.appl sz bytes el s r=>∃site g n xs ys,s.ev st.f=.vec 0 site g 0 n false∧Qd st.m 0 site=.vec g sz xs∧Zk site el=true∧n≤xs.length∧QY st.m (r.ev st.f)=some ys∧ys.all (fun e=>e.cells.length==sz)=true∧n+ys.length≤maxLen∧(n+ys.length)*bytes≤140737488355328∧
   x=.list (xs.take n++ys)∧m=Am.put st.m 0 site (.vec (g+1+1) sz [])
 |.bsl sz len z ps=>(∃y,fill st.f ps (XD z sz len)=some y∧AV.rfL y=true∧y.all AV.leaf=true∧x=.list (XP sz len (y.map nn0)))∧m=st.m
 |.bslv site sz len z ps=>∃y,fill st.f ps (XD z sz len)=some y∧AV.rfL y=true∧y.all AV.leaf=true∧Qi (Qd st.m 0 site)=true∧x=.vec 0 site (Qo st.m 0 site) 0 len false∧m=Am.put st.m 0 site (.vec (Qo st.m 0 site) sz (XP sz len (y.map nn0)))
 |.bsl0 site sz=>Qi (Qd st.m 0 site)=true∧x=.vec 0 site (Qo st.m 0 site) 0 0 false∧m=Am.put st.m 0 site (.vec (Qo st.m 0 site) sz [])
 |.appc site sz bytes _ s r=>∃xs ys,s.ev st.f=.lcap xs∧QY st.m (r.ev st.f)=some ys∧ys≠[]∧xs.all (fun e=>e.cells.length==sz)=true∧ys.all (fun e=>e.cells.length==sz)=true∧xs.length+ys.length≤maxLen∧(xs.length+ys.length)*bytes≤140737488355328∧Qi (Qd st.m 0 site)=true∧
   x=.vec 0 site (Qo st.m 0 site) 0 (xs.length+ys.length) false∧m=Am.put st.m 0 site (.vec (Qo st.m 0 site) sz (xs++ys))
 |.callF f args=>∃k fa fb,f.ev st.f=.fn (.func k) fa fb∧Qu P k (fa++args.map (RA.ev st.f)++fb) st.m (fun y m'=>y=x∧m'=m)
 |_=>False

def RO.keeps:RO→Bool
 |.mk .. => false
 |.s2b .. => false
 |.dfr .. => false
 |.isnil .. => false
 |.callR .. => false
 |.callG .. => false
 |.rngs .. => false
 |.nxts .. => false
 |_=>true

theorem FD {d:Option Nat}{op:RO}{st:St}{K:St→Prop}(hk:op.keeps=true):Ud P d op st K↔∃x m,Zh P op st x m∧K { st with m:=m,f:=Qk st.f d x }:=by
 cases op<;>simp only[RO.keeps,QOX]at hk<;>simp only[Ud,Zh,VN]
 case val=>exact⟨fun⟨x,h,k⟩=>⟨x,_,⟨h,rfl⟩,k⟩,fun⟨x,m,⟨h,e⟩,k⟩=>by subst e;exact⟨x,h,k⟩⟩
 case allocN=>exact⟨fun⟨h,k⟩=>⟨_,_,⟨h,rfl,rfl⟩,k⟩,fun⟨x,m,⟨h,e,e'⟩,k⟩=>by subst e e';exact⟨h,k⟩⟩
 case boxN=>exact⟨fun⟨h,h',k⟩=>⟨_,_,⟨h,h',rfl,rfl⟩,k⟩,fun⟨x,m,⟨h,h',e,e'⟩,k⟩=>by subst e e';exact⟨h,h',k⟩⟩
 case store=>exact⟨fun⟨h1,h2,m',h3,k⟩=>⟨_,m',⟨h1,h2,h3,rfl⟩,k⟩,fun⟨x,m,⟨h1,h2,h3,e⟩,k⟩=>by subst e;exact⟨h1,h2,m,h3,k⟩⟩
 case storev=>exact⟨fun⟨h0,h1,h2,m',h3,k⟩=>⟨_,m',⟨h0,h1,h2,h3,rfl⟩,k⟩,fun⟨x,m,⟨h0,h1,h2,h3,e⟩,k⟩=>by subst e;exact⟨h0,h1,h2,m,h3,k⟩⟩
 case app=>exact⟨fun⟨l,site,g,n,xs,ys,h1,h2,ht,h3,h4,h5,h6,h7,k⟩=>⟨_,_,⟨l,site,g,n,xs,ys,h1,h2,ht,h3,h4,h5,h6,h7,rfl,rfl⟩,k⟩,fun⟨x,m,⟨l,site,g,n,xs,ys,h1,h2,ht,h3,h4,h5,h6,h7,e,e'⟩,k⟩=>by subst e e';exact⟨l,site,g,n,xs,ys,h1,h2,ht,h3,h4,h5,h6,h7,k⟩⟩
 case appl=>exact⟨fun⟨site,g,n,xs,ys,h1,h2,ht,h3,h4,h5,h6,h7,k⟩=>⟨_,_,⟨site,g,n,xs,ys,h1,h2,ht,h3,h4,h5,h6,h7,rfl,rfl⟩,k⟩,fun⟨x,m,⟨site,g,n,xs,ys,h1,h2,ht,h3,h4,h5,h6,h7,e,e'⟩,k⟩=>by subst e e';exact⟨site,g,n,xs,ys,h1,h2,ht,h3,h4,h5,h6,h7,k⟩⟩
 case call=>exact⟨fun⟨k,fa,fb,ys,v,h1,h2,h3,h4,h5,h6,kk⟩=>⟨v,_,⟨⟨k,fa,fb,ys,h1,h2,h3,h4,h5,h6⟩,rfl⟩,kk⟩,fun⟨x,m,⟨⟨k,fa,fb,ys,h1,h2,h3,h4,h5,h6⟩,e⟩,kk⟩=>by subst e;exact⟨k,fa,fb,ys,x,h1,h2,h3,h4,h5,h6,kk⟩⟩
 case bsl=>exact⟨fun⟨y,h1,h2,h3,k⟩=>⟨_,_,⟨⟨y,h1,h2,h3,rfl⟩,rfl⟩,k⟩,fun⟨x,m,⟨⟨y,h1,h2,h3,e⟩,e'⟩,k⟩=>by subst e e';exact⟨y,h1,h2,h3,k⟩⟩
 case bslv=>exact⟨fun⟨y,h1,h2,h3,h4,k⟩=>⟨_,_,⟨y,h1,h2,h3,h4,rfl,rfl⟩,k⟩,fun⟨x,m,⟨y,h1,h2,h3,h4,e,e'⟩,k⟩=>by subst e e';exact⟨y,h1,h2,h3,h4,k⟩⟩
 case bsl0=>exact⟨fun⟨h1,k⟩=>⟨_,_,⟨h1,rfl,rfl⟩,k⟩,fun⟨x,m,⟨h1,e,e'⟩,k⟩=>by subst e e';exact⟨h1,k⟩⟩
 case appc=>exact⟨fun⟨xs,ys,h1,h2,h3,h4,h5,h6,h7,h8,k⟩=>⟨_,_,⟨xs,ys,h1,h2,h3,h4,h5,h6,h7,h8,rfl,rfl⟩,k⟩,fun⟨x,m,⟨xs,ys,h1,h2,h3,h4,h5,h6,h7,h8,e,e'⟩,k⟩=>by subst e e';exact⟨xs,ys,h1,h2,h3,h4,h5,h6,h7,h8,k⟩⟩
 case callF=>exact⟨fun⟨k,fa,fb,v,m',h1,h2,kk⟩=>⟨v,m',⟨k,fa,fb,h1,h2⟩,kk⟩,fun⟨x,m,⟨k,fa,fb,h1,h2⟩,kk⟩=>⟨k,fa,fb,x,m,h1,h2,kk⟩⟩

def ZJ (P:Program)(it:Item)(st:St)(x:AV)(m:Qh):Prop :=
 match it.g with
 |none=>Zh P it.op st x m
 |some (j,want)=>match st.f j with
  |.bool b=>(b=want∧Zh P it.op st x m)∨(b=(!want)∧x=.tup []∧m=st.m)
  |.tup l=>l=[]∧x=.tup []∧m=st.m
  |_=>False

theorem JO {it:Item}{st:St}{K:St→Prop}(hk:it.op.keeps=true):X6 P it st K↔∃x m,ZJ P it st x m∧K { st with m:=m,f:=Qk st.f it.dst x }:=by
 obtain⟨d,op,g⟩:=it;cases g with
 |none=>exact FD hk
 |some p=>
  obtain⟨j,want⟩:=p;simp only[X6,ZJ];cases hj:st.f j with
  |bool b=>
   simp only;rw[FD hk]
   constructor
   ·intro⟨h1,h2⟩;by_cases hb:b=want
    ·obtain⟨x,m,h,k⟩:=h1 hb;exact⟨x,m,.inl ⟨hb,h⟩,k⟩
    ·have hb':b=!want:=by cases b<;>cases want<;>first|rfl|exact absurd rfl hb
     exact⟨_,_,.inr ⟨hb',rfl,rfl⟩,h2 hb'⟩
   ·rintro⟨x,m,⟨hb,h⟩|⟨hb,rfl,rfl⟩,k⟩
    ·exact⟨fun _=>⟨x,m,h,k⟩,fun e=>by rw[hb]at e;cases want<;>cases e⟩
    ·exact⟨fun e=>(by rw[hb]at e;cases want<;>cases e),fun _=>k⟩
  |tup l=>
   constructor
   ·rintro⟨h,k⟩;exact⟨_,_,⟨h,rfl,rfl⟩,k⟩
   ·rintro⟨x,m,⟨h,rfl,rfl⟩,k⟩;exact⟨h,k⟩
  |_=>exact⟨fun h=>h.elim,fun⟨_,_,h,_⟩=>h.elim⟩

theorem Ge {op:RO}{f f':Fr}{m m':Qh}{ds ds':List DF}{x:AV}(h:ZP op.sl f f')(k:Zh P op ⟨f,m,ds⟩ x m'):Zh P op ⟨f',m,ds'⟩ x m':=by
 cases op with
 |val vo=>simp only[Zh,Rs (vo:=vo) h]at k ⊢;exact k
 |call g args=>simp only[Zh,VN,RA.ev_same (r:=g) h.left,WQ (rs:=args) h.right]at k ⊢;exact k
 |callF g args=>simp only[Zh,RA.ev_same (r:=g) h.left,WQ (rs:=args) h.right]at k ⊢;exact k
 |allocN s z=>exact k
 |boxN s r=>simp only[Zh,RA.ev_same (r:=r) h]at k ⊢;exact k
 |store n p r=>simp only[Zh,RA.ev_same (r:=p) h.left,RA.ev_same (r:=r) h.right]at k ⊢;exact k
 |storev l s n p r=>simp only[Zh,RA.ev_same (r:=p) h.left,RA.ev_same (r:=r) h.right]at k ⊢;exact k
 |app sz bytes el s r=>simp only[Zh,RA.ev_same (r:=s) h.left,RA.ev_same (r:=r) h.right]at k ⊢;exact k
 |appl sz bytes el s r=>simp only[Zh,RA.ev_same (r:=s) h.left,RA.ev_same (r:=r) h.right]at k ⊢;exact k
 |appc site sz bytes el s r=>simp only[Zh,RA.ev_same (r:=s) h.left,RA.ev_same (r:=r) h.right]at k ⊢;exact k
 |bsl sz len z ps=>simp only[Zh,W8 (ps:=ps) h]at k ⊢;exact k
 |bslv site sz len z ps=>simp only[Zh,W8 (ps:=ps) h]at k ⊢;exact k
 |bsl0 site sz=>exact k
 |_=>exact k.elim

theorem Wx {it:Item}{f f':Fr}{m m':Qh}{ds ds':List DF}{x:AV}(h:ZP it.sl f f')(k:ZJ P it ⟨f,m,ds⟩ x m'):ZJ P it ⟨f',m,ds'⟩ x m':=by
 obtain⟨d,op,g⟩:=it;cases g with
 |none=>exact Ge (ZP.left h) k
 |some p=>
  obtain⟨j,want⟩:=p;have hj:f j=f' j:=(ZP.right h) j (by simp);simp only[ZJ]at k ⊢;rw[←hj];cases he:f j with
  |bool b=>rw[he]at k;exact k.imp (fun h1=>⟨h1.1,Ge (ZP.left h) h1.2⟩) id
  |tup l=>rw[he]at k;exact k
  |_=>rw[he]at k;exact k

theorem FE {op:RO}(hp:op.pure=true){f:Fr}{m m' m1:Qh}{ds ds':List DF}{x:AV}(h:XE op.mc m m')(k:Zh P op ⟨f,m,ds⟩ x m1):m1=m∧Zh P op ⟨f,m',ds'⟩ x m':=by
 cases op with
 |bsl sz len z ps=>obtain⟨k,e⟩:=k;exact⟨e,k,rfl⟩
 |val vo=>obtain⟨k,e⟩:=k;exact⟨e,by rw[←AP (f:=f) h];exact k,rfl⟩
 |call g args=>
  obtain⟨⟨k,fa,fb,ys,h1,h2,h3,h4,h5,h6⟩,e⟩:=k;refine⟨e,⟨k,fa,fb,ys,h1,?_,h3,h4,h5,h6⟩,rfl⟩;rw[←K5 h];exact h2
 |_=>cases hp

theorem Un {it:Item}(hp:it.op.pure=true){f:Fr}{m m' m1:Qh}{ds ds':List DF}{x:AV}(h:XE it.op.mc m m')(k:ZJ P it ⟨f,m,ds⟩ x m1):m1=m∧ZJ P it ⟨f,m',ds'⟩ x m':=by
 obtain⟨d,op,g⟩:=it;cases g with
 |none=>exact FE hp h k
 |some p=>
  obtain⟨j,want⟩:=p;simp only[ZJ]at k ⊢;cases he:f j with
  |bool b=>
   rw[he]at k;rcases k with⟨h1,k⟩|⟨h1,h2,h3⟩
   ·obtain⟨a,b⟩:=FE hp h k;exact⟨a,.inl ⟨h1,b⟩⟩
   ·exact⟨h3,.inr ⟨h1,h2,trivial⟩⟩
  |tup l=>rw[he]at k;exact⟨k.2.2,k.1,k.2.1,trivial⟩
  |_=>rw[he]at k;exact k.elim

def RO.lets (op:RO)(c:MC):Bool :=
 match op with
 |.val _=>true
 |.call _ _=>true
 |.store .. => c == .no||c == .shape
 |.storev l s _ _ _=>match c with
  |.cell l' s'=>l' != l||s' != s
  |.outer=>l==0
  |.all=>false
  |_=>true
 |.allocN s _=>match c with
  |.cell l' s'=>l' != 0||s' != s
  |.all=>false
  |_=>true
 |.boxN s _=>match c with
  |.cell l' s'=>l' != 0||s' != s
  |.all=>false
  |_=>true
 |.app .. => match c with
  |.no=>true
  |.cell _ _=>true
  |_=>false
 |.appl .. => match c with
  |.no=>true
  |.cell _ _=>true
  |_=>false
 |.bsl .. => true
 |.bslv s _ _ _ _=>match c with
  |.no=>true
  |.cell l' s'=>l' != 0||s' != s
  |.outer=>true
  |_=>false
 |.bsl0 s _=>match c with
  |.no=>true
  |.cell l' s'=>l' != 0||s' != s
  |.outer=>true
  |_=>false
 |.appc s _ _ _ _ _=>match c with
  |.no=>true
  |.cell l' s'=>l' != 0||s' != s
  |.outer=>true
  |_=>false
 |.callF .. => c == .no
 |_=>false

theorem Ym {m:Qh}{l s:Nat}{o o':Ob}(hl:Qd m l s=o)(ho:o.row=none)(ho':o'.row=none)(hlt:l<m.length){c:MC}(hc:match c with
  |.cell l' s'=>(l' != l||s' != s)=true
  |.outer=>(l==0)=true
  |.all=>False
  |_=>True):XE c m (Am.put m l s o'):=by
 have key:∀l' s',(l'=l∧s'=s)∨Qd (Am.put m l s o') l' s'=Qd m l' s':=by
  intro l' s';by_cases hh:l'=l∧s'=s
  ·exact .inl hh
  ·exact .inr (Qq (by omega))
 have hsh:∀ {x:Ob},x.row=none→x.sh=none:=by intro x;cases x<;>simp[Ob.row,Ob.sh]
 cases c with
 |no=>trivial
 |shape=>
  intro l' s';rcases key l' s' with⟨rfl,rfl⟩|e
  ·rw[Ql hlt,hl,hsh ho,hsh ho']
  ·rw[e]
 |rows=>
  intro l' s';rcases key l' s' with⟨rfl,rfl⟩|e
  ·rw[Ql hlt,hl,ho,ho']
  ·rw[e]
 |cell l' s'=>
  show Qd m l' s'=Qd _ l' s'∨_;rcases key l' s' with⟨rfl,rfl⟩|e
  ·simp at hc
  ·exact .inl e.symm
 |outer=>
  intro l' s';have hc:l=0:=by simpa using hc
  exact(Qq (by omega)).symm
 |all=>exact hc.elim

theorem Mk {m:Qh}{s:Nat}(h:X8 m s=true):Qd m 0 s=.none:=by
 unfold X8 at h;split at h
 ·assumption
 ·cases h

end

theorem XE.symm {c:MC}{m m':Qh}(h:XE c m m'):XE c m' m:=by
 cases c with
 |no=>trivial
 |shape=>exact fun l s=>(h l s).symm
 |rows=>exact fun l s=>(h l s).symm
 |cell l s=>exact Or.imp Eq.symm And.symm h
 |outer=>exact fun l s=>(h l s).symm
 |all=>exact Eq.symm h

theorem FF {m m':Qh}{p:AV}{ys:List AV}(h:Q6 m p ys=some m'):XE .shape m m':=by
 cases p with
 |ptr l s o=>
  simp only[Q6]at h;split at h
  ·rename_i xs hlk;split at h
   ·split at h
    ·cases h;exact Ym (c:=.shape) hlk rfl rfl (Q8 (by rw[hlk];simp)) trivial
    ·cases h
   ·cases h
  ·cases h
 |vptr l s g i o=>
  simp only[Q6]at h;split at h
  ·rename_i g' sz xs hlk;split at h
   ·rename_i hg;subst hg;split at h
    ·split at h
     ·cases h;intro l' s';by_cases hh:l'=l∧s'=s
      ·obtain⟨rfl,rfl⟩:=hh;rw[Ql (Q8 (by rw[hlk];simp)),hlk];rfl
      ·rw[Qq (by omega)]
     ·cases h
    ·cases h
   ·cases h
  ·cases h
 |_=>simp[Q6]at h

section
variable {P:Program}{N:Nat}

theorem FG {m:Qh}{s:Nat}{xs:List AV}(h:X8 m s=true){c:MC}(hc:match c with
  |.cell l' s'=>(l' != 0||s' != s)=true
  |.all=>False
  |_=>True):XE c m (Am.put m 0 s (.cells xs)):=by
 cases m with
 |nil=>exact XE.refl c _
 |cons fr m=>exact Ym (Mk h) rfl rfl (by simp) (by cases c<;>first|exact hc|rfl)

theorem Gf {op:RO}{c:MC}(hc:op.lets c=true){st:St}{x:AV}{m:Qh}(h:Zh P op st x m):XE c st.m m:=by
 cases op with
 |val vo=>rw[h.2];exact XE.refl c _
 |call f args=>rw[h.2];exact XE.refl c _
 |store n p r=>
  simp only[RO.lets,QPE,QO5]at hc;rcases hc with rfl|rfl
  ·trivial
  ·exact FF h.2.2.1
 |storev l s n p r=>
  obtain⟨⟨o,ho⟩,h1,h2,h3,h4⟩:=h;rw[ho]at h3;simp only[Q6]at h3;split at h3
  ·rename_i xs hlk;split at h3
   ·split at h3
    ·cases h3;refine Ym hlk rfl rfl (Q8 (by rw[hlk];simp)) ?_;cases c<;>first|trivial|exact hc|cases hc
    ·cases h3
   ·cases h3
  ·cases h3
 |allocN s z=>
  rw[h.2.2];refine FG h.1 ?_;cases c<;>first|trivial|exact hc|cases hc
 |boxN s r=>
  rw[h.2.2.2];refine FG h.1 ?_;cases c<;>first|trivial|exact hc|cases hc
 |app sz bytes el s r=>
  obtain⟨l,site,g,n,xs,ys,_,hlk,_,_,_,_,_,_,_,rfl⟩:=h;cases c with
  |no=>trivial
  |cell l' s'=>
   show Qd st.m l' s'=Qd _ l' s'∨_;by_cases hh:l'=l∧s'=site
   ·obtain⟨rfl,rfl⟩:=hh;refine .inr ⟨by rw[hlk];rfl,?_⟩;rw[Ql (Q8 (by rw[hlk];simp))];rfl
   ·exact .inl (Qq (by omega)).symm
  |_=>simp[RO.lets]at hc
 |appl sz bytes el s r=>
  obtain⟨site,g,n,xs,ys,_,hlk,_,_,_,_,_,_,_,rfl⟩:=h;cases c with
  |no=>trivial
  |cell l' s'=>
   show Qd st.m l' s'=Qd _ l' s'∨_;by_cases hh:l'=0∧s'=site
   ·obtain⟨rfl,rfl⟩:=hh;refine .inr ⟨by rw[hlk];rfl,?_⟩;rw[Ql (Q8 (by rw[hlk];simp))];rfl
   ·exact .inl (Qq (by omega)).symm
  |_=>simp[RO.lets]at hc
 |bsl sz len z ps=>rw[h.2];exact XE.refl c _
 |bslv site sz len z ps=>
  obtain⟨y,_,_,_,_,_,rfl⟩:=h;cases c with
  |no=>trivial
  |cell l' s'=>
   simp only[RO.lets,QPE,QO6]at hc;exact .inl (Qq (by omega)).symm
  |outer=>exact fun l' s'=>(Qq (.inl (Nat.succ_ne_zero l'))).symm
  |_=>simp[RO.lets]at hc
 |bsl0 site sz=>
  obtain⟨_,_,rfl⟩:=h;cases c with
  |no=>trivial
  |cell l' s'=>
   simp only[RO.lets,QPE,QO6]at hc;exact .inl (Qq (by omega)).symm
  |outer=>exact fun l' s'=>(Qq (.inl (Nat.succ_ne_zero l'))).symm
  |_=>simp[RO.lets]at hc
 |appc site sz bytes el s r=>
  obtain⟨xs,ys,_,_,_,_,_,_,_,_,_,rfl⟩:=h;cases c with
  |no=>trivial
  |cell l' s'=>
   simp only[RO.lets,QPE,QO6]at hc;exact .inl (Qq (by omega)).symm
  |outer=>exact fun l' s'=>(Qq (.inl (Nat.succ_ne_zero l'))).symm
  |_=>simp[RO.lets]at hc
 |callF f args=>
  simp only[RO.lets,QO5]at hc;subst hc;trivial
 |_=>exact h.elim

theorem Gg {it:Item}{c:MC}(hc:it.op.lets c=true){st:St}{x:AV}{m:Qh}(h:ZJ P it st x m):XE c st.m m:=by
 obtain⟨d,op,g⟩:=it;cases g with
 |none=>exact Gf hc h
 |some p=>
  obtain⟨j,want⟩:=p;simp only[ZJ]at h;cases he:st.f j with
  |bool b=>
   rw[he]at h;rcases h with⟨_,h⟩|⟨_,_,h⟩
   ·exact Gf hc h
   ·rw[h];exact XE.refl c _
  |tup l=>rw[he]at h;rw[h.2.2];exact XE.refl c _
  |_=>rw[he]at h;exact h.elim

def UZ (a b:Item):Bool :=
  (match a.dst with
   |some d=>!(b.sl.contains d)&&b.dst != some d
   |none=>true) &&
  (match b.dst with
   |some d=>!(a.sl.contains d)
   |none=>true)

def FH (a b:Item):Bool :=
 match a.op,b.op,a.g,b.g with
 |.allocN s _,.allocN t _,none,none=>s != t
 |_,_,_,_=>false

def U0 (a b:Item):Bool :=
 a.op.keeps&&b.op.keeps&&UZ a b&&((a.op.pure&&b.op.lets a.op.mc)||(b.op.pure&&a.op.lets b.op.mc)||FH a b)

theorem FI {m:Qh}{s t:Nat}{o:Ob}(h:s≠t):X8 (Am.put m 0 s o) t=X8 m t:=by
 unfold X8;rw[Qq (.inr (Ne.symm h))]
theorem Rv {m:Qh}{s t:Nat}{o q:Ob}(h:s≠t):Am.put (Am.put m 0 s o) 0 t q=Am.put (Am.put m 0 t q) 0 s o:=by
 cases m with
 |nil=>rfl
 |cons fr m=>
  simp only[Am.put];congr 1
  funext i;by_cases h1:i=t
  ·subst h1;rw[Xe,Xc _ _ (Ne.symm h),Xe]
  ·rw[Xc _ _ h1];by_cases h2:i=s
   ·subst h2;rw[Xe,Xe]
   ·rw[Xc _ _ h2,Xc _ _ h2,Xc _ _ h1]
theorem Nl {a b:Item}(h:FH a b=true){st:St}{f:Fr}{x y:AV}{m m2:Qh}(ga:ZJ P a st x m)(gb:ZJ P b { st with m:=m,f:=f } y m2) :
  ∃m1,ZJ P b st y m1∧∀f',ZJ P a { st with m:=m1,f:=f' } x m2:=by
 obtain⟨da,oa,ga'⟩:=a;obtain⟨db,ob,gb'⟩:=b;unfold FH at h;dsimp only at h;split at h
 ·rename_i s z t w;have hne:s≠t:=by simpa using h
  obtain⟨h1,rfl,rfl⟩:=ga;obtain⟨h2,rfl,rfl⟩:=gb;dsimp only at h2;rw[FI hne]at h2;refine⟨_,⟨h2,rfl,rfl⟩,fun f'=>⟨?_,rfl,?_⟩⟩
  ·dsimp only;rw[FI (Ne.symm hne)];exact h1
  ·exact Rv hne
 ·cases h

theorem DI {l:List Nat}{f:Fr}{d:Option Nat}{x:AV}(h:∀k,d=some k→k∉l):ZP l f (Qk f d x):=by
 intro t ht;cases d with
 |none=>rfl
 |some k=>
  have:t≠k:=fun e=>h k rfl (e▸ht)
  show f t=QG f k x t;rw[Xc _ _ this]

theorem Ml {f:Fr}{d e:Option Nat}{x y:AV}(h:∀k,d=some k→e≠some k):Qk (Qk f d x) e y=Qk (Qk f e y) d x:=by
 cases d with
 |none=>rfl
 |some d=>
  cases e with
  |none=>rfl
  |some e=>
   have hne:d≠e:=fun hh=>h d rfl (hh▸rfl)
   funext i;show QG (QG f d x) e y i=QG (QG f e y) d x i;by_cases h1:i=e
   ·subst h1;rw[Xe,Xc _ _ (Ne.symm hne),Xe]
   ·rw[Xc _ _ h1];by_cases h2:i=d
    ·subst h2;rw[Xe,Xe]
    ·rw[Xc _ _ h2,Xc _ _ h2,Xc _ _ h1]

theorem VP {a b:Item}(h:UZ a b=true):(∀k,a.dst=some k→k∉b.sl)∧(∀k,a.dst=some k→b.dst≠some k)∧(∀k,b.dst=some k→k∉a.sl):=by
 unfold UZ at h;simp only[QO2]at h;refine⟨fun k e=>?_,fun k e=>?_,fun k e=>?_⟩
 ·have:=h.1;rw[e]at this;simp at this;exact this.1
 ·have:=h.1;rw[e]at this;simp at this;exact this.2
 ·have:=h.2;rw[e]at this;simpa using this

theorem VQ {a b:Item}(h:U0 a b=true){st:St}{K:St→Prop}(k:X6 P a st fun s=>X6 P b s K):X6 P b st fun s=>X6 P a s K:=by
 unfold U0 at h;simp only[QO2,QPE]at h;obtain⟨⟨⟨ka,kb⟩,hap⟩,hor⟩:=h;obtain⟨h1,h2,h3⟩:=VP hap;rw[JO ka]at k;obtain⟨x,m,ga,k⟩:=k;rw[JO kb]at k;obtain⟨y,m2,gb,k⟩:=k;rw[JO kb];have hs1:∀f:Fr,ZP b.sl f (Qk f a.dst x):=fun f=>DI h1
 have hs3:∀f:Fr,ZP a.sl f (Qk f b.dst y):=fun f=>DI h3
 have hsym:∀ {l f f'},ZP l f f'→ZP l f' f:=fun h t ht=>(h t ht).symm
 have hK:K { st with m:=m2,f:=Qk (Qk st.f b.dst y) a.dst x }:=by
  rw[←Ml h2];exact k
 rcases hor with(⟨pa,lb⟩|⟨pb,la⟩)|hf
 ·have e:m=st.m:=(Un (m':=st.m) (ds':=st.ds) pa (XE.refl _ _) ga).1;subst e;have gb':ZJ P b st y m2:=Wx (hsym (hs1 st.f)) gb;refine⟨y,m2,gb',?_⟩;rw[JO ka];have ga':ZJ P a { st with m:=m2 } x m2:=(Un pa (Gg lb gb') ga).2;exact⟨x,m2,Wx (hs3 st.f) ga',hK⟩
 ·have hag:=Gg la ga;obtain⟨e,gb1⟩:=Un (m':=st.m) (ds':=st.ds) pb hag.symm gb;have e:m2=m:=e;subst e;have gb':ZJ P b st y st.m:=Wx (hsym (hs1 st.f)) gb1;refine⟨y,st.m,gb',?_⟩;rw[JO ka];exact⟨x,m2,Wx (hs3 st.f) ga,hK⟩
 ·obtain⟨m1,gb',ga'⟩:=Nl hf ga gb;refine⟨y,m1,gb',?_⟩;rw[JO ka];exact⟨x,m2,ga' _,hK⟩

theorem Mm {ops:Array Oper}{o:Oper}{i:Nat}(hi:ops[i]? = some o){it:Item}(hc:Uj P N ops o it=true){st:St}{K:St→Prop}(h:X6 P it st K){G:Gh}{B:Nat}{a:Act}{w:World}(hr:Rel G B N st a w){KK:Act→World→Prop}{QQ:Exit→Act→World→Prop}
  (hk:∀G' st' a' w',K st'→Rel G' B N st' a' w'→Ext 1 G w G' w'→KK a' w'):wpOp P ops QQ i KK a w:=by
 have h1:Qv P N [it] st K:=Fy (YM (fun _ hs=>Qv.nil hs) h);have h2:=h1 ops [o] (by simp[Zg,hc]) G B a w hr (fun e a w=>match e with
  |.normal=>KK a w
  |e=>QQ e a w) (fun G' st' a' w' h1 h2 h3=>hk G' st' a' w' h1 h2 h3)
 unfold wpOp;simp only[hi];unfold wpList at h2;split
 ·rename_i hw;rw[QO9 hw]at h2;rcases h2 with h2|h2
  ·left
   unfold Oper.wp at h2 ⊢;generalize (execOp a.eval o).run P w=r at h2 ⊢;cases r with
   |ok n w'=>
    cases n<;>simp only[Oper.upon]at h2 ⊢<;>first
     |exact h2
     |exact Calls.mono h2 (fun e w'' he=>by cases e<;>exact he)
   |halt x w'=>cases x<;>simp only[Oper.upon]at h2 ⊢<;>exact h2
  ·exact .inr h2
 ·rename_i hw;rw[QOS hw]at h2;exact h2

def Wl:Item:=⟨none,.val (.mov (.c .top)),none⟩
def YN (Qe:List Item)(l:List Nat):List Item:=l.map fun i=>Qe.getD i Wl

theorem Mn {Qe:List Item}{i:Nat}{post:List Nat}{Q:St→Prop}:∀ {pre:List Nat} {st:St},(∀p,p∈pre→U0 (Qe.getD p Wl) (Qe.getD i Wl)=true)→
  QC P (YN Qe (pre++i :: post)) st Q→X6 P (Qe.getD i Wl) st fun s=>QC P (YN Qe (pre++post)) s Q
 | [],_,_,h=>h
 |p :: pre,st,hp,h=>by
  have h':X6 P (Qe.getD p Wl) st fun s=>QC P (YN Qe (pre++i :: post)) s Q:=h
  have h2:=YM (fun s hs=>Mn (fun q hq=>hp q (QOU _ hq)) hs) h';exact VQ (hp p (QOW ..)) h2

inductive Bef (ops:Array Oper):Nat→Nat→Prop
 |one {i:Nat} {o:Oper} {e:Edge} (ho:ops[i]? = some o) (he:e∈o.after) (hb:Region.binds .any e=true):Bef ops e.on i
 |more {i p:Nat} {o:Oper} {e:Edge} (ho:ops[i]? = some o) (he:e∈o.after) (hb:Region.binds .any e=true) (h:Bef ops p e.on):Bef ops p i

def VR (acc:List Nat)(m:Nat)(e:Edge):Nat:=if Region.binds .any e then(m ||| 2 ^ e.on) ||| acc.getD e.on 0 else m
def Mo (acc:List Nat)(o:Oper):Nat:=o.after.toList.foldl (VR acc) 0
def VS:List Oper→List Nat→List Nat
 | [],acc=>acc
 |o :: os,acc=>VS os (acc++[Mo acc o])

theorem Gi {acc:List Nat}{p:Nat}:∀(l:List Edge) (m:Nat),(l.foldl (VR acc) m).testBit p=true→m.testBit p=true∨∃e∈l,Region.binds .any e=true∧(p=e.on∨(acc.getD e.on 0).testBit p=true)
 | [],m,h=>.inl h
 |e :: l,m,h=>by
  rw[List.foldl_cons]at h;rcases Gi l _ h with h1|⟨e',h1,h2,h3⟩
  ·unfold VR at h1;split at h1
   ·rename_i hb;rw[Nat.testBit_or,Nat.testBit_or,QPE,QPE]at h1;rcases h1 with(h1|h1)|h1
    ·exact .inl h1
    ·rw[Nat.testBit_two_pow]at h1;exact .inr ⟨e,QOW ..,hb,.inl (of_decide_eq_true h1).symm⟩
    ·exact .inr ⟨e,QOW ..,hb,.inr h1⟩
   ·exact .inl h1
  ·exact .inr ⟨e',QOU _ h1,h2,h3⟩

theorem FJ {ops:Array Oper}:∀(l:List Oper) (acc:List Nat),ops.toList=ops.toList.take acc.length++l→acc.length+l.length=ops.size→(∀i p,(acc.getD i 0).testBit p=true→Bef ops p i)→∀i p,((VS l acc).getD i 0).testBit p=true→Bef ops p i
 | [],acc,_,_,h=>h
 |o :: l,acc,e,hn,h=>by
  have hlen:acc.length<ops.toList.length:=by simp at hn ⊢;omega
  have hat:ops[acc.length]? = some o:=by
   rw[←QO7,e,QP6 (by simp;omega)];simp;have:acc.length-min acc.length ops.size=0:=by simp at hlen;omega
   rw[this];rfl
  refine FJ l (acc++[Mo acc o]) ?_ (by simp at hn ⊢;omega) fun i p hb=>?_
  ·rw[QPi,QQb,QOY hlen,QOZ];have:ops.toList[acc.length]=o:=by
    have:=QOH hlen;rw[QO7,hat]at this;cases this;rfl
   rw[this];exact e
  ·rw[List.getD_eq_getElem?_getD]at hb;by_cases hi:i<acc.length
   ·rw[QP4 hi,←List.getD_eq_getElem?_getD]at hb;exact h i p hb
   ·by_cases hi2:i=acc.length
    ·subst hi2;rw[QP6 (QOE _)]at hb;simp only[Nat.sub_self,QPH,QPP]at hb;rcases Gi _ _ hb with h1|⟨e',h1,h2,h3⟩
     ·simp at h1
     ·rcases h3 with rfl|h3
      ·exact .one hat (by simpa using h1) h2
      ·exact .more hat (by simpa using h1) h2 (h _ _ h3)
    ·rw[QP3 (by simp;omega)]at hb;simp at hb

def Da (ops:Array Oper)(Qe:List Item):Bool :=
 (List.range ops.size).all fun i=>match ops[i]? with
  |some o=>o.after.all (fun e=>!Region.binds .any e||decide (e.on<i))&&(List.range i).all fun p=>((VS ops.toList []).getD i 0).testBit p||U0 (Qe.getD p Wl) (Qe.getD i Wl)
  |none=>true

theorem Bef.listed {ops:Array Oper}{L:Nat→Prop}(hcl:∀q,L q→∀o e,ops[q]? = some o→e∈o.after→Region.binds .any e=true→L e.on){p i:Nat}(h:Bef ops p i)(hi:∀o e,ops[i]? = some o→e∈o.after→Region.binds .any e=true→L e.on):L p:=by
 induction h with
 |one ho he hb=>exact hi _ _ ho he hb
 |more ho he hb _ ih=>exact ih (hcl _ (hi _ _ ho he hb))

def Wa (n:Nat)(listed:Array Bool):List Nat:=(List.range n).filter fun i=>!listed.getD i true

theorem Hw {ops:Array Oper}:∀ {l:List Oper} {Qe:List Item},Zg P N ops l Qe=true→l.length=Qe.length∧∀(i:Nat) (o:Oper),l[i]? = some o→Uj P N ops o (Qe.getD i Wl)=true
 | [],Qe,h=>by
  cases Qe with
  |nil=>exact⟨rfl,by simp⟩
  |cons it Qe=>simp[Zg]at h
 |o :: l,Qe,h=>by
  cases Qe with
  |nil=>simp[Zg]at h
  |cons it Qe=>
   simp only[Zg,QO2]at h;obtain⟨e,h2⟩:=Hw h.2;refine⟨by simp[e],fun i o' ho=>?_⟩;cases i with
   |zero=>simp at ho;subst ho;exact h.1
   |succ i=>simpa using h2 i o' (by simpa using ho)

theorem Rw {ops:Array Oper}{Qe:List Item}(hc:Zg P N ops ops.toList Qe=true)(hd:Da ops Qe=true){B:Nat}{Q:St→Prop}{QQ:Exit→Act→World→Prop} :
  ∀(fuel:Nat) (listed:Array Bool),listed.size=ops.size→(∀q,listed.getD q false=true→∀o e,ops[q]? = some o→e∈o.after→Region.binds .any e=true→listed.getD e.on false=true)→(Wa ops.size listed).length≤fuel→∀(st:St) (G:Gh) (a:Act) (w:World),QC P (YN Qe (Wa ops.size listed)) st Q→Rel G B N st a w→
   (∀G' st' a' w',Q st'→Rel G' B N st' a' w'→Ext 1 G w G' w'→QQ .normal a' w')→wpAny P .any ops QQ fuel listed a w:=by
 obtain⟨hlen,hcs⟩:=Hw hc;have hready:∀(listed:Array Bool) i,i∈Region.ready .any ops listed→i∈Wa ops.size listed:=by
  intro listed i hi;obtain⟨h0,o,ho,_⟩:=mem_ready.1 hi;exact QQc.2 ⟨QQd.2 (QOK.1 ho).1,by simp[h0]⟩
 have hat:∀i,i<ops.size→∃o,ops[i]? = some o∧(∀e∈o.after,Region.binds .any e=true→e.on<i)∧∀p,p<i→Bef ops p i∨U0 (Qe.getD p Wl) (Qe.getD i Wl)=true:=by
  intro i hi;refine⟨ops[i],QOV hi,?_⟩;have h1:=QOQ.1 hd i (QQd.2 hi);rw[QOV hi]at h1;simp only[QO2]at h1;refine⟨fun e he hb=>?_,fun p hp=>?_⟩
  ·have h2:=Array.all_eq_true_iff_forall_mem.1 h1.1 e he
   simpa [hb]using h2
  ·have h2:=QOQ.1 h1.2 p (QQd.2 hp);rw[QPE]at h2;rcases h2 with h2|h2
   ·exact .inl (FJ ops.toList [] (by simp) (by simp) (fun i p hb=>by simp at hb) i p h2)
   ·exact .inr h2
 -- the first that is left is ready
 have hfirst:∀(listed:Array Bool),listed.size=ops.size→Region.ready .any ops listed=[]→Wa ops.size listed=[]:=by
  intro listed hsz hr;cases hu:Wa ops.size listed with
  |nil=>rfl
  |cons i rest=>
   exfalso;have hpw:(Wa ops.size listed).Pairwise (· < ·):=List.Pairwise.filter _ List.pairwise_lt_range;have hi:i∈Wa ops.size listed:=by rw[hu];exact QOW ..
   obtain⟨hi1,hi2⟩:=QQc.1 hi;obtain⟨o,ho,h1,_⟩:=hat i (QQd.1 hi1);have:i∈Region.ready .any ops listed:=by
    refine mem_ready.2 ⟨by simpa using hi2,o,ho,fun e he hb=>?_⟩;have hlt:=h1 e he hb;cases hg:listed.getD e.on false with
    |true=>rfl
    |false=>
     have hin:e.on∈Wa ops.size listed:=by
      refine QQc.2 ⟨QQd.2 (Nat.lt_trans hlt (QQd.1 hi1)),?_⟩;have hlt':e.on<listed.size:=by rw[hsz];exact Nat.lt_trans hlt (QQd.1 hi1)
      simp[QOV hlt']at hg ⊢;exact hg
     rw[hu]at hin hpw;rcases QP0.1 hin with e'|e'
     ·omega
     ·have:=(QQe.1 hpw).1 _ e';omega
   rw[hr]at this;cases this
 intro fuel
 induction fuel with
 |zero=>
  intro listed hsz hcl hl st G a w h hr hq;have hu:Wa ops.size listed=[]:=QPJ (by omega);refine⟨?_,?_⟩
  ·cases hx:Region.ready .any ops listed with
   |nil=>rfl
   |cons i r=>
    have:=hready listed i (by rw[hx];exact QOW ..);rw[hu]at this;cases this
  ·rw[hu]at h;exact hq G st a w h hr (Ext.refl 1 G w)
 |succ fuel ih=>
  intro listed hsz hcl hl st G a w h hr hq;refine⟨fun hx=>?_,fun i hi=>?_⟩
  ·rw[hfirst listed hsz hx]at h;exact hq G st a w h hr (Ext.refl 1 G w)
  ·have hiu:=hready listed i hi;obtain⟨pre,post,hsplit⟩:=List.append_of_mem hiu;have hpw:(Wa ops.size listed).Pairwise (· < ·):=List.Pairwise.filter _ List.pairwise_lt_range;rw[hsplit]at h hpw;obtain⟨_,hp2,hp3⟩:=QQf.1 hpw;obtain⟨hi1,hi2⟩:=QQc.1 hiu;obtain⟨o,ho,h1,h2⟩:=hat i (QQd.1 hi1);obtain⟨_,o',ho',h3⟩:=mem_ready.1 hi;rw[ho]at ho';cases ho';have hind:∀p,p∈pre→U0 (Qe.getD p Wl) (Qe.getD i Wl)=true:=by
    intro p hp;rcases h2 p (hp3 p hp i (QOW ..))with hbef|h
    ·exfalso;have hl1:=hbef.listed (L:=fun q=>listed.getD q false=true) hcl (fun o2 e ho2 he hb=>by rw[ho]at ho2;cases ho2;exact h3 e he hb);have hpu:p∈Wa ops.size listed:=by rw[hsplit];exact List.mem_append_left _ hp
     obtain⟨hr1,hr2⟩:=QQc.1 hpu;have hlt':p<listed.size:=by rw[hsz];exact QQd.1 hr1
     simp[QOV hlt']at hl1 hr2;rw[hl1]at hr2;cases hr2
    ·exact h
   have hb:=Mn (P:=P) hind h;have hnext:Wa ops.size (listed.setIfInBounds i true)=pre++post:=by
    have e1:Wa ops.size (listed.setIfInBounds i true)=(Wa ops.size listed).filter fun j=>j != i:=by
     unfold Wa;rw[List.filter_filter];refine List.filter_congr fun j hj=>?_
     by_cases hji:j=i
     ·subst hji;have hlt':j<listed.size:=by rw[hsz];exact QQd.1 hj
      simp[hlt']
     ·rw[getD_set_ne true (fun e=>hji e.symm)];simp[hji]
    rw[e1,hsplit,List.filter_append,QQg];have e2:pre.filter (fun j=>j != i)=pre:=List.filter_eq_self.2 fun j hj=>by
     have:=hp3 j hj i (QOW ..);simp;omega
    have e3:post.filter (fun j=>j != i)=post:=List.filter_eq_self.2 fun j hj=>by
     have:=(QQe.1 hp2).1 j hj;simp;omega
    rw[e2,e3];simp
   have hset:∀q,listed.getD q false=true→(listed.setIfInBounds i true).getD q false=true:=fun q hq'=>by
    by_cases hqi:q=i
    ·subst hqi;have hlt':q<listed.size:=by rw[hsz];exact QQd.1 hi1
     simp[hlt']
    ·rw[getD_set_ne false (fun e=>hqi e.symm)];exact hq'
   have hcl':∀q,(listed.setIfInBounds i true).getD q false=true→∀o e,ops[q]? = some o→e∈o.after→Region.binds .any e=true→(listed.setIfInBounds i true).getD e.on false=true:=fun q hq' o2 e ho2 he2 hb2=>by
    by_cases hqi:q=i
    ·subst hqi;rw[ho]at ho2;cases ho2;exact hset _ (h3 e he2 hb2)
    ·rw[getD_set_ne false (fun e=>hqi e.symm)]at hq';exact hset _ (hcl q hq' o2 e ho2 he2 hb2)
   refine Mm ho (hcs i o (by simpa using ho)) hb hr fun G' st' a' w' hk hr' he=>?_
   refine ih (listed.setIfInBounds i true) (by simpa using hsz) hcl' ?_ st' G' a' w' (by rw[hnext];exact hk) hr' fun G2 st2 a2 w2 hq2 hr2 he2=>hq G2 st2 a2 w2 hq2 hr2 (he.trans he2)
   rw[hnext];rw[hsplit]at hl;simp only[QPi,QOT]at hl ⊢;omega

theorem Mp {Qe:List Item}:YN Qe (List.range Qe.length)=Qe:=by
 apply List.ext_getElem
 ·simp[YN]
 ·intro i h1 h2;simp[YN,h2]

theorem AQ {ops:Array Oper}{Qe:List Item}(hm:P.follows .mixedOrders=true)(hc:Zg P N ops ops.toList Qe=true)(hd:Da ops Qe=true){st:St}{Q:St→Prop}(h:QC P Qe st Q){G:Gh}{B:Nat}{a:Act}{w:World}(hr:Rel G B N st a w){QQ:Exit→Act→World→Prop}{id:Nat}
  (hq:∀G' st' a' w',Q st'→Rel G' B N st' a' w'→Ext 1 G w G' w'→QQ .normal a' w'):(Code.region id ops true).wp P QQ a w:=by
 refine wp_region_any hm ?_;have hlen:=(Hw hc).1;simp only[QPa]at hlen;have hu:Wa ops.size (Array.replicate ops.size false)=List.range Qe.length:=by
  unfold Wa;rw[hlen];refine List.filter_eq_self.2 fun i hi=>?_
  simp[QQd.1 hi]
 refine Rw hc hd ops.size (Array.replicate ops.size false) (by simp) (fun q hq'=>by rw[QON]at hq';simp[Array.getElem?_replicate]at hq';split at hq'<;>cases hq') (by rw[hu];simp[hlen]) st G a _ (by rw[hu,Mp];exact h) hr.drew fun G' st' a' w' h1 h2 h3=>hq G' st' a' w' h1 h2 ((Ext.drew G w).trans h3)

end

def Zl (P:Program)(N:Nat):RC→Code→Bool
 |.gho _ r,c=>Zl P N r c
 |.no,_=>true
 |.skip,c=>match c with
  |.skip=>true
  |_=>false
 |.reg Qe,c=>match c with
  |.region _ ops false=>Zg P N ops ops.toList Qe
  |_=>false
 |.draw Qe,c=>match c with
  |.region _ ops true=>P.follows .mixedOrders&&Zg P N ops ops.toList Qe&&Da ops Qe
  |_=>false
 |.seq a b,c=>match c with
  |.seq x y=>Zl P N a x&&Zl P N b y
  |_=>false
 |.cond r a b,c=>match c with
  |.cond o x y=>QR o r&&Zl P N a x&&Zl P N b y
  |_=>false
 |.block i a,c=>match c with
  |.block j x=>i==j&&Zl P N a x
  |_=>false
 |.loop a,c=>match c with
  |.loop x=>Zl P N a x
  |_=>false
 |.exit i,c=>match c with
  |.exit j=>i==j
  |_=>false
 |.scope a,c=>match c with
  |.scope x=>Zl P N a x
  |_=>false
 |.lab,c=>match c with
  |.label _=>true
  |_=>false
 |.ret,c=>match c with
  |.ret=>true
  |_=>false

section
variable {P:Program}{N B:Nat}

theorem Mq:∀ {rc:RC} {c:Code} {st:St} {Q:Exit→St→Prop},QJ P rc st Q→Zl P N rc c=true→∀ {G:Gh} {a:Act} {w:World},Rel G B N st a w→∀ {QQ:Exit→Act→World→Prop},
  (∀e G' st' a' w',Q e st'→Rel G' B N st' a' w'→Ext 1 G w G' w'→QQ e a' w')→c.wp P QQ a w:=by
 intro rc
 induction rc with
 |skip=>
  intro c st Q h hc G a w hr QQ hq;cases c<;>simp only[Zl,QOX]at hc;exact wp_skip (hq _ _ _ _ _ h hr (Ext.refl 1 G w))
 |reg Qe=>
  intro c st Q h hc G a w hr QQ hq;cases c<;>simp only[Zl,QOX]at hc;rename_i id ops d;cases d<;>simp only[QOX]at hc;refine wp_region_list ?_;exact NA (N:=N) h ops ops.toList hc G B a w hr QQ fun G' st' a' w' h1 h2 h3=>hq _ _ _ _ _ h1 h2 h3
 |draw Qe=>
  intro c st Q h hc G a w hr QQ hq;cases c<;>simp only[Zl,QOX]at hc;rename_i id ops d;cases d<;>simp only[QOX,QO2]at hc;exact AQ hc.1.1 hc.1.2 hc.2 h hr fun G' st' a' w' h1 h2 h3=>hq _ _ _ _ _ h1 h2 h3
 |seq x y ihx ihy=>
  intro c st Q h hc G a w hr QQ hq;cases c<;>simp only[Zl,QOX,QO2]at hc;refine wp_seq (ihx h hc.1 hr fun e G' st' a' w' h1 h2 h3=>?_);cases e with
  |normal=>exact ihy h1 hc.2 h2 fun e G2 st2 a2 w2 k1 k2 k3=>hq _ _ _ _ _ k1 k2 (h3.trans k3)
  |_=>exact hq _ _ _ _ _ h1 h2 h3
 |cond r x y ihx ihy=>
  intro c st Q h hc G a w hr QQ hq;cases c<;>simp only[Zl,QOX,QO2]at hc;rename_i o cx cy;obtain⟨t,ht,h1,h2⟩:=h;have hv:=Qz hr hc.1.1;rw[ht]at hv;have hv':a.eval o=.bool t:=by
   generalize a.eval o=v at hv;cases hv;rfl
  refine wp_cond_split hv' (fun e=>?_) (fun e=>?_)
  ·exact ihx (h1 e) hc.1.2 hr hq
  ·exact ihy (h2 e) hc.2 hr hq
 |block i x ih=>
  intro c st Q h hc G a w hr QQ hq;cases c<;>simp only[Zl,QOX,QO2,QO5]at hc;obtain⟨rfl,hc⟩:=hc;refine wp_block (ih h hc hr fun e G' st' a' w' h1 h2 h3=>?_);cases e with
  |exit j=>
   simp only[Exit.inBlock];simp only[Kb]at h1;split
   ·rename_i hh;rw[QO9 hh]at h1;exact hq _ _ _ _ _ h1 h2 h3
   ·rename_i hh;rw[QOS hh]at h1;exact hq _ _ _ _ _ h1 h2 h3
  |_=>exact hq _ _ _ _ _ h1 h2 h3
 |loop x ih=>
  intro c st Q h hc G a w hr QQ hq;cases c<;>simp only[Zl,QOX]at hc;obtain⟨I,n,h0,hI⟩:=h;refine wp_loop_ghost (fun k a' w'=>∃G' st',I k st'∧Rel G' B N st' a' w'∧Ext 1 G w G' w') n ⟨G,st,h0,hr,Ext.refl 1 G w⟩ ?_;rintro k a' w' ⟨G',st',i1,i2,i3⟩;refine ih (hI k st' i1) hc i2 fun e G2 st2 a2 w2 h1 h2 h3=>?_
  cases e with
  |normal=>
   obtain⟨k',hk,hi⟩:=h1;exact⟨k',hk,G2,st2,hi,h2,i3.trans h3⟩
  |_=>exact hq _ _ _ _ _ h1 h2 (i3.trans h3)
 |exit i=>
  intro c st Q h hc G a w hr QQ hq;cases c<;>simp only[Zl,QOX,QO5]at hc;subst hc;exact wp_exit (hq _ _ _ _ _ h hr (Ext.refl 1 G w))
 |scope x ih=>
  intro c st Q h hc G a w hr QQ hq;cases c<;>simp only[Zl,QOX]at hc;refine wp_scope_straight (ih h hc hr fun e G' st' a' w' h1 h2 h3=>?_);cases e with
  |goto l=>exact h1.elim
  |_=>exact hq _ _ _ _ _ h1 h2 h3
 |lab=>
  intro c st Q h hc G a w hr QQ hq;cases c<;>simp only[Zl,QOX]at hc;exact wp_label (hq _ _ _ _ _ h hr (Ext.refl 1 G w))
 |ret=>
  intro c st Q h hc G a w hr QQ hq;cases c<;>simp only[Zl,QOX]at hc;exact wp_ret (hq _ _ _ _ _ h hr (Ext.refl 1 G w))
 |gho g x ih=>
  intro c st Q h hc G a w hr QQ hq;obtain⟨st',hg,h⟩:=h;obtain⟨G',h1,h2⟩:=Rr hr hg;exact ih h hc h1 fun e G2 st2 a2 w2 k1 k2 k3=>hq _ _ _ _ _ k1 k2 (h2.trans k3)
 |no=>
  intro c st Q h;exact h.elim

theorem MR.out {G:Gh}{fr:Nat→Ob}{m:Qh}{w:World}(h:MR G (fr :: m) w){S:Nat→Prop}(hS:∀b,S b→(∃s,G.vm 0 s=some b)∨∃s,G.nm 0 s=some b):MR ((G.pub w S).dn 1) m w:=by
 have hnS:∀l s b,G.nm (l+1) s=some b→¬S b:=fun l s b e hs=>by
  rcases hS b hs with⟨s',e'⟩|⟨s',e'⟩
  ·exact h.inj3 _ _ _ _ _ e e'
  ·have:=(h.inj1 _ _ _ _ _ e e').1;omega
 have hvS:∀l s b,G.vm (l+1) s=some b→¬S b:=fun l s b e hs=>by
  rcases hS b hs with⟨s',e'⟩|⟨s',e'⟩
  ·have:=(h.inj2 _ _ _ _ _ e e').1;omega
  ·exact h.inj3 _ _ _ _ _ e' e
 have hgle:Gle G (G.pub w S):=Gh.pub_gle h.stab;refine⟨fun b o v e=>?_,fun l s xs e=>?_,fun l s b e=>?_,fun l s g sz xs e=>?_,fun l s b e=>?_,fun l s e=>?_,fun l s l' s' b e e'=>?_,fun l s l' s' b e e'=>?_,fun l s l' s' b e e'=>?_,fun l s t p e=>h.iter (l+1) s t p e⟩
 ·have e:(G.pub w S).stab b o=some v:=e;by_cases hs:S b
  ·rw[Gh.pub_in hs]at e;exact Fg e
  ·rw[Gh.pub_out hs]at e;exact h.stab b o v e
 ·obtain⟨b,cs,e',hc,hr⟩:=h.cells (l+1) s xs e;refine⟨b,cs,e',hc,?_⟩;rw[Gh.dn_dn];exact hr.mono (hgle.dn (l+1))
 ·obtain⟨h1,h2⟩:=h.nm (l+1) s b e;refine⟨h1,fun o=>?_⟩;show(G.pub w S).stab b o=none;rw[Gh.pub_out (hnS _ _ _ e)];exact h2 o
 ·obtain⟨a1,a2,a3,a4⟩:=h.vec (l+1) s g sz xs e;exact⟨a1,a2,a3,a4.imp id fun⟨b,e',r⟩=>⟨b,e',r.of rfl fun vs hv=>RepL.rfd (G:=G) (G':=(G.pub w S).dn 1) hgle.stab a3.rf hv⟩⟩
 ·obtain⟨h1,h2⟩:=h.vm (l+1) s b e;refine⟨h1,fun o=>?_⟩;show(G.pub w S).stab b o=none;rw[Gh.pub_out (hvS _ _ _ e)];exact h2 o
 ·exact h.gone (l+1) s e
 ·obtain⟨h1,h2⟩:=h.inj1 _ _ _ _ _ e e';exact⟨by omega,h2⟩
 ·obtain⟨h1,h2⟩:=h.inj2 _ _ _ _ _ e e';exact⟨by omega,h2⟩
 ·exact h.inj3 _ _ _ _ _ e e'

def ZC (rs:List RR)(n:Nat)(R:AV→Qh→Prop):Exit→St→Prop:=fun e st=>
 (e=.normal∨e=.ret)∧st.ds=[]∧∃x y fr m,KR st rs=some x∧Ww st.m x=some y∧st.m=fr :: m∧m.length=n∧R y m

theorem Nm {G:Gh}{args:List AV}{vs:List Value}(h:RepL G args vs){N:Nat}(i:Nat):Rep G.up (Fu (AV.shL args) i) (((vs.toArray++Array.replicate (N-vs.toArray.size) undef):Array Value).getD i undef):=by
 have h':RepL G.up (AV.shL args) vs:=RepL.sh (G:=G.up) (by rw[Gh.up_dn];exact h);have hl:=h'.length;unfold Fu;by_cases hi:i<vs.length
 ·obtain⟨x,e,hx⟩:=h'.back (QOH hi);rw[e];simp only[QPP,QON];rw[Array.getElem?_append_left (by simpa using hi)]
  simpa [hi]using hx
 ·rw[QP3 (by omega)];simp only[QQh,QON];rw[Array.getElem?_append_right (by simpa using hi)];cases hx:(Array.replicate (N-vs.toArray.size) undef)[i-vs.toArray.size]? with
  |none=>exact .tup .nil
  |some v=>
   have:=QOK.1 hx;obtain⟨_,h2⟩:=this;simp at h2;subst h2;exact .tup .nil

theorem DJ {fn:Func}{args:List AV}{m:Qh}{G:Gh}{w:World}{vs:List Value}(hvs:RepL G args vs)(hm:MR G m w)(hN:fn.ntmps=N)(ha:args.length≤N) :
  Rel G.up w.heap.size N (St.enter args m) { tmps:=vs.toArray++Array.replicate (fn.ntmps-vs.toArray.size) undef,defers:=[] } w:=by
 have hlen:=hvs.length;refine⟨hm.up,?_,fun i=>Nm hvs i,.nil,fun s b e=>?_,QOE _,by simp[St.enter]⟩
 ·simp;omega
 ·rcases e with e|e<;>cases e

theorem NB {fn:Func}{rs:List RR}{G G':Gh}{m m':Qh}{w w':World}{st':St}{a':Act}{fr:Nat→Ob}{x y:AV}{R:AV→Qh→Prop}(hr:JX P fn.results.toList rs=true)(hr':Rel G' w.heap.size N st' a' w')(he:Ext 1 G.up w G' w')
  (hx:KR st' rs=some x) (hy:Ww st'.m x=some y) (hst:st'.m=fr :: m') (hml:m'.length=m.length) (hR:R y m') :
  ∃v,(results fn a'.tmps).run P w'=.ok v w'∧(∃G'' x v' m'',(Ending.returned v)=.returned v'∧R x m''∧Rep G'' x v'∧MR G'' m'' w'∧Ext 0 G w G'' w'∧m''.length=m.length):=by
 obtain⟨v,hrun,hv⟩:=AO (P:=P) hr' hr hx
 let S:Nat→Prop:=fun b=>(∃s,G'.vm 0 s=some b)∨∃s,G'.nm 0 s=some b
 have hmr:=hr'.mr;have hSt:∀l s b,(true&&l != 0)=false→G'.vm l s=some b→S b:=by
  intro l s b hl e;have:l=0:=by simpa using hl
  subst this;exact .inl ⟨s,e⟩
 unfold Ww at hy;rw[QOO]at hy;obtain⟨z,hz,hy⟩:=hy;have hv2:=Rep.un (Hu hmr (own:=true) (S:=S) hSt (fun _ s b _ _ _ e _=>.inr ⟨s,e⟩) hv z hz) y hy;rw[hst]at hmr;have hout:=hmr.out (S:=S) (fun b hs=>hs);have hmine:∀b,((G'.pub w' S).dn 1).mine b→G'.mine b:=by
  rintro b (⟨l,s,e⟩|⟨l,s,e⟩)
  ·exact .inl ⟨l+1,s,e⟩
  ·exact .inr ⟨l+1,s,e⟩
 have hext:Ext 0 G w ((G'.pub w' S).dn 1) w':=by
  refine⟨he.os,he.tape,he.output,he.size,fun b o v e=>?_,fun l s _=>he.nm (l+1) s (by omega),fun l s=>he.vg (l+1) s,fun l s e=>he.vs (l+1) s e,fun b hb hnm=>?_,fun b hb=>?_,fun l s b e=>?_⟩
  ·exact(Gh.pub_gle (S:=S) hr'.mr.stab).stab b o v (he.stab b o v e)
  ·obtain⟨h1,h2⟩:=he.old b hb (fun hx=>hnm (Gh.up_mine.1 hx));refine⟨h1,fun o=>?_⟩;have hnS:¬S b:=by
    rintro(⟨s,e⟩|⟨s,e⟩)
    ·have:=hr'.base s b (.inr e);omega
    ·have:=hr'.base s b (.inl e);omega
   show(G'.pub w' S).stab b o=G.stab b o;rw[Gh.pub_out hnS];exact h2 o
  ·rcases he.mine b (hmine b hb)with h1|h1
   ·exact .inl (Gh.up_mine.1 h1)
   ·exact .inr h1
  ·rcases he.mv (l+1) s b e with⟨i,t,hi,h1⟩|h1
   ·cases i with
    |zero=>cases h1
    |succ i=>exact .inl ⟨i,t,by omega,h1⟩
   ·exact .inr h1
 exact⟨v,hrun,_,y,v,m',rfl,hR,hv2,hout,hext,hml⟩

theorem Ue {k:FuncId} {fn:Func} {c:Code} {rc:RC} {rs:List RR} {args:List AV} {m:Qh} {R:AV→Qh→Prop} (hf:P.funcs[k]? = some fn) (hb:fn.body=some c) (hn:(fn.name == "runtime.NumGoroutine")=false) (hN:fn.ntmps=N) (hc:Zl P N rc c=true) (hr:JX P fn.results.toList rs=true)
  (ha:args.length≤N) (h:QJ P rc (St.enter args m) (ZC rs m.length R)):Qu P k args m R:=by
 refine⟨⟨fn,hf,hn,by rw[hb];rfl⟩,fun G w vs hvs hm=>?_⟩;refine calls_of_wp hf hb ?_;refine Mq h hc (DJ hvs hm hN ha) fun e G' st' a' w' hq hr' he=>?_
 obtain⟨hex,hds,x,y,fr,m',hx,hy,hst,hml,hR⟩:=hq;have hdef:a'.defers=[]:=by
  have:=hr'.ds;rw[hds]at this;cases hd:a'.defers with
  |nil=>rfl
  |cons d l=>rw[hd]at this;cases this
 have hfin:=NB (R:=R) hr hr' he hx hy hst hml hR;rcases hex with rfl|rfl
 ·exact⟨hdef,hfin⟩
 ·exact⟨hdef,hfin⟩

def Yu (P:Program)(k:FuncId)(args:List AV)(m:Qh)(R:AV→Qh→Prop):Prop :=
 YL P k∧∀(G:Gh) (w:World) (vs:List Value),RepL G args vs→MR G m w→∀u,CallsD P k ⟨vs⟩ u w fun e u' w'=>u'=u∧∃G' x v m',e=.returned v∧R x m'∧Rep G' x v∧MR G' m' w'∧Ext 0 G w G' w'∧m'.length=m.length

theorem Db {k:FuncId} {fn:Func} {c:Code} {rc:RC} {rs:List RR} {args:List AV} {m:Qh} {R:AV→Qh→Prop} (hf:P.funcs[k]? = some fn) (hb:fn.body=some c) (hn:(fn.name == "runtime.NumGoroutine")=false) (hN:fn.ntmps=N) (hc:Zl P N rc c=true) (hr:JX P fn.results.toList rs=true)
  (ha:args.length≤N) (h:QJ P rc (St.enter args m) (ZC rs m.length R)):Yu P k args m R:=by
 refine⟨⟨fn,hf,hn,by rw[hb];rfl⟩,fun G w vs hvs hm u=>?_⟩;refine callsD_of_wp (R:=fun e w'=>∃G' x v m',e=.returned v∧R x m'∧Rep G' x v∧MR G' m' w'∧Ext 0 G w G' w'∧m'.length=m.length) hf hb ?_;refine Mq h hc (DJ hvs hm hN ha) fun e G' st' a' w' hq hr' he=>?_
 obtain⟨hex,hds,x,y,fr,m',hx,hy,hst,hml,hR⟩:=hq;have hdef:a'.defers=[]:=by
  have:=hr'.ds;rw[hds]at this;cases hd:a'.defers with
  |nil=>rfl
  |cons d l=>rw[hd]at this;cases this
 have hfin:=NB (R:=R) hr hr' he hx hy hst hml hR;rcases hex with rfl|rfl
 ·exact⟨hdef,hfin⟩
 ·exact⟨hdef,hfin⟩

end

def CK (P:Program)(k N:Nat)(rc:RC)(rs:List RR):Prop :=
 ∃fn c, P.funcs[k]? = some fn∧fn.body=some c∧(fn.name == "runtime.NumGoroutine")=false∧fn.ntmps=N∧Zl P N rc c=true∧JX P fn.results.toList rs=true
theorem CK.go {P:Program}{k N:Nat}{rc:RC}{rs:List RR}{args:List AV}{m:Qh}{R:AV→Qh→Prop}(h:CK P k N rc rs)(ha:args.length≤N)(w:QJ P rc (St.enter args m) (ZC rs m.length R)):Qu P k args m R:=by
 obtain⟨fn,c,h1,h2,h3,h4,h5,h6⟩:=h;exact Ue h1 h2 h3 h4 h5 h6 ha w
theorem ck {P:Program} {k N:Nat} {fn:Func} {rc:RC} {rs:List RR} (hf:P.funcs[k]? = some fn) (hN:fn.ntmps=N) (h:(fn.body.isSome && !(fn.name == "runtime.NumGoroutine")&&Zl P N rc (fn.body.getD .skip)&&JX P fn.results.toList rs)=true):CK P k N rc rs := by
 simp only[QO2,QPC,QO4]at h;obtain⟨⟨⟨⟨c,hc⟩,h1⟩,h2⟩,h3⟩:=h;rw[hc]at h2;exact⟨fn,c,hf,hc,h1,hN,h2,h3⟩
theorem CK.dd {P:Program}{k N:Nat}{rc:RC}{rs:List RR}{args:List AV}{m:Qh}{R:AV→Qh→Prop}(h:CK P k N rc rs)(ha:args.length≤N)(w:QJ P rc (St.enter args m) (ZC rs m.length R)):Yu P k args m R:=by
 obtain⟨fn,c,h1,h2,h3,h4,h5,h6⟩:=h;exact Db h1 h2 h3 h4 h5 h6 ha w
theorem CK.rl {P:Program}{k N:Nat}{rc:RC}{rs:List RR}{args:List AV}{R:AV→Prop}(h:CK P k N rc rs)(ha:args.length≤N)(w:QJ P rc (St.enter args []) (ZC rs 0 fun x _=>R x)):H7 P k args R:=h.go ha w
theorem CK.fn {P:Program}{k N:Nat}{rc:RC}{rs:List RR}{args:List AV}{v:AV}(h:CK P k N rc rs)(ha:args.length≤N)(w:QJ P rc (St.enter args []) (ZC rs 0 fun x _=>x=v)):Qj P k args v:=h.go ha w

section
variable {P:Program}{f:Fr}{m:Qh}{ds:List DF}{K:St→Prop}{Q:Exit→St→Prop}{Qe:List Item}{d:Nat}

def Kc (P:Program)(b:RC)(Q:Exit→St→Prop):Exit→St→Prop:=Ks (fun st'=>QJ P b st' Q) Q
def Kl (I:Nat→St→Prop)(n:Nat)(Q:Exit→St→Prop):Exit→St→Prop:=Ks (fun s=>∃k,k<n∧I k s) Q

theorem Yv {st:St}:QJ P .skip st Q=Q .normal st:=id rfl
theorem QFB {st:St}:QJ P .no st Q=False:=id rfl
theorem SG {st:St}:QJ P .lab st Q=Q .normal st:=id rfl
theorem SH {st:St}:QJ P .ret st Q=Q .ret st:=id rfl
theorem Mr {st:St}{i:Nat}:QJ P (.exit i) st Q=Q (.exit i) st:=id rfl
theorem YO {st:St}:QJ P (.reg Qe) st Q=QC P Qe st (Q .normal):=id rfl
theorem Ms {st:St}:QJ P (.draw Qe) st Q=QC P Qe st (Q .normal):=id rfl
theorem YP {st:St}{a b:RC}:QJ P (.seq a b) st Q=QJ P a st (Kc P b Q):=id rfl
theorem NC {st:St}{i:Nat}{a:RC}:QJ P (.block i a) st Q=QJ P a st (Kb i Q):=id rfl
theorem ND {st:St}{a:RC}:QJ P (.scope a) st Q=QJ P a st (Kg Q):=id rfl
def Dc:AV→Bool
 |.bool b=>b
 |_=>false
def Mt:AV→Prop
 |.bool _=>True
 |_=>False
theorem Mu (b:Bool):Dc (.bool b)=b:=id rfl
theorem SI (b:Bool):Mt (.bool b)=True:=id rfl
def Hx (P:Program)(v:AV)(a b:RC)(st:St)(Q:Exit→St→Prop):Prop:=Mt v∧(Dc v=true→QJ P a st Q)∧(Dc v=false→QJ P b st Q)
theorem YQ {a b:RC}{st:St}:Hx P (.bool true) a b st Q=QJ P a st Q:=by simp[Hx,Mt,Dc]
theorem KT {a b:RC}{st:St}:Hx P (.bool false) a b st Q=QJ P b st Q:=by simp[Hx,Mt,Dc]
theorem QI {t:Bool}{a b:RC}{st:St}(h1:t=true→QJ P a st Q)(h2:t=false→QJ P b st Q):Hx P (.bool t) a b st Q:=⟨trivial,h1,h2⟩
theorem Wb {c:RA}{a b:RC}:QJ P (.cond c a b) ⟨f,m,ds⟩ Q=Hx P (c.ev f) a b ⟨f,m,ds⟩ Q:=by
 simp only[QJ,Hx];generalize c.ev f=v;cases v<;>simp[Dc,Mt]

theorem Z3 {b:RC}{st:St}:Kc P b Q .normal st=QJ P b st Q:=id rfl
theorem Mv {b:RC}{st:St}{i:Nat}:Kc P b Q (.exit i) st=Q (.exit i) st:=id rfl
theorem Mw {b:RC}{st:St}:Kc P b Q .ret st=Q .ret st:=id rfl
theorem Mx {st:St}{i:Nat}:Kb i Q .normal st=Q .normal st:=id rfl
theorem Gj {st:St}{i j:Nat}:Kb i Q (.exit j) st=if j=i then Q .normal st else Q (.exit j) st:=id rfl
theorem My {st:St}{i:Nat}:Kb i Q .ret st=Q .ret st:=id rfl
theorem Mz {st:St}:Kg Q .normal st=Q .normal st:=id rfl
theorem MA {st:St}{j:Nat}:Kg Q (.exit j) st=Q (.exit j) st:=id rfl
theorem MB {st:St}:Kg Q .ret st=Q .ret st:=id rfl
theorem MD {I:Nat→St→Prop}{n:Nat}{st:St}:Kl I n Q .normal st = ∃k,k<n∧I k st:=id rfl
theorem ME {I:Nat→St→Prop}{n:Nat}{st:St}{j:Nat}:Kl I n Q (.exit j) st=Q (.exit j) st:=id rfl
theorem MF {I:Nat→St→Prop}{n:Nat}{st:St}:Kl I n Q .ret st=Q .ret st:=id rfl

theorem Qg {a:RC}{st:St}(I:Nat→St→Prop)(n:Nat)(h0:I n st)(h:∀n st',I n st'→QJ P a st' (Kl I n Q)):QJ P (.loop a) st Q:=⟨I,n,h0,h⟩

theorem Kx {st:St}:QC P [] st K=K st:=id rfl
def XH (x:Option AV):AV:=x.getD .top
def Zv (x:Option AV):Prop:=x.isSome=true
theorem Z4 (x:AV):XH (some x)=x:=id rfl
theorem Ky (x:AV):Zv (some x)=True:=by simp[Zv]
theorem Kz {vo:VO}:QC P (⟨some d,.val vo,none⟩ :: Qe) ⟨f,m,ds⟩ K=(Zv (Qn f m vo)∧QC P Qe ⟨QG f d (XH (Qn f m vo)),m,ds⟩ K):=by
 simp only[QC,X6,Ud,Qk];generalize Qn f m vo=v;cases v<;>simp[XH,Zv]

def FK (x:Option Qh):Qh:=x.getD []
def NE (x:Option Qh):Prop:=x.isSome=true
theorem Qar (x:Qh):FK (some x)=x:=id rfl
theorem Qtg (x:Qh):NE (some x)=True:=by simp[NE]
theorem AR {n:Nat}{p r:RA}:QC P (⟨none,.store n p r,none⟩ :: Qe) ⟨f,m,ds⟩ K=((r.ev f).cells.length=n∧(r.ev f).cells.all AV.leaf=true∧NE (Q6 m (p.ev f) (r.ev f).cells)∧QC P Qe ⟨f,FK (Q6 m (p.ev f) (r.ev f).cells),ds⟩ K):=by
 simp only[QC,X6,Ud,Qk];generalize Q6 m (p.ev f) (r.ev f).cells=v;cases v<;>simp[FK,NE]
def Rx (l s:Nat)(v:AV):Prop:=∃o,v=.ptr l s o
theorem Qas (l s o:Nat):Rx l s (.ptr l s o)=True:=eq_true ⟨o,rfl⟩
theorem Ry {l s n:Nat}{p r:RA}:QC P (⟨none,.storev l s n p r,none⟩ :: Qe) ⟨f,m,ds⟩ K=(Rx l s (p.ev f)∧(r.ev f).cells.length=n∧(r.ev f).cells.all AV.leaf=true∧NE (Q6 m (p.ev f) (r.ev f).cells)∧QC P Qe ⟨f,FK (Q6 m (p.ev f) (r.ev f).cells),ds⟩ K):=by
 simp only[QC,X6,Ud,Qk,Rx];generalize Q6 m (p.ev f) (r.ev f).cells=v;cases v<;>simp[FK,NE]
theorem Rz {s:Nat}{z:List AV}:QC P (⟨some d,.allocN s z,none⟩ :: Qe) ⟨f,m,ds⟩ K=(X8 m s=true∧QC P Qe ⟨QG f d (.ptr 0 s 0),Am.put m 0 s (.cells z),ds⟩ K):=id rfl
theorem Qat {s:Nat}{r:RA}:QC P (⟨some d,.boxN s r,none⟩ :: Qe) ⟨f,m,ds⟩ K=(X8 m s=true∧(r.ev f).cells.all AV.leaf=true∧QC P Qe ⟨QG f d (.ptr 0 s 0),Am.put m 0 s (.cells (r.ev f).cells),ds⟩ K):=id rfl

theorem Qth {sz len:Nat}{z:List AV}{ps:List (Nat×Nat×RA)}{y:List AV}(hy:fill f ps (XD z sz len)=some y)(h1:AV.rfL y=true)(h2:y.all AV.leaf=true):QC P (⟨some d,.bsl sz len z ps,none⟩ :: Qe) ⟨f,m,ds⟩ K=QC P Qe ⟨QG f d (.list (XP sz len (y.map nn0))),m,ds⟩ K:=by
 apply propext
 constructor
 ·rintro⟨y',h,_,_,k⟩;have h:fill f ps (XD z sz len)=some y':=h;rw[hy]at h;cases h;exact k
 ·intro k;exact⟨y,hy,h1,h2,k⟩
theorem DK {sz:Nat}{z l:List AV}{r:RA}(hr:r.ev f=.agg l)(hl:l.length=sz)(h1:sz≠1)(hf:AV.rfL l=true)(hlf:l.all AV.leaf=true)(h:QC P Qe ⟨QG f d (.list [.agg (l.map nn0)]),m,ds⟩ K) :
  QC P (⟨some d,.bsl sz 1 z [(0,sz,r)],none⟩ :: Qe) ⟨f,m,ds⟩ K:=by
 have hz:(XD z sz 1).length=sz:=by simp[XD]
 have hy:fill f [(0,sz,r)] (XD z sz 1)=some l:=by
  simp only[fill,hr,AV.cells,hl,hlf,QPm,hz,QOE,and_self,if_true,splice,QPN,QO1];rw[QPh (by omega),QPI]
 rw[Qth hy hf hlf];have hc:XP sz 1 (l.map nn0)=[.agg (l.map nn0)]:=by
  simp only[XP,QOS h1];rw[QPe (by rw[QPz];omega)]
 rw[hc];exact h

theorem Yu.mono {k:FuncId}{args:List AV}{m:Qh}{R R':AV→Qh→Prop}(h:Yu P k args m R)(hr:∀x m',R x m'→R' x m'):Yu P k args m R' :=
 ⟨h.1,fun G w vs h1 h2 u c cs hu=>by
  obtain⟨e,u',w',fr,⟨h3,G',x,v,m',h4,h5,h6⟩,h7⟩:=h.2 G w vs h1 h2 u c cs hu;exact⟨e,u',w',fr,⟨h3,G',x,v,m',h4,hr _ _ h5,h6⟩,h7⟩⟩

theorem JP {slot site sz:Nat}{a:RC}{fr:Nat→Ob}(h1:f slot=.nils)(h2:fr site=.none)(h:QJ P a ⟨QG f slot (.vec 0 site 1 0 0 false),QG fr site (.vec 1 sz []) :: m,ds⟩ Q):QJ P (.gho (.vec slot site sz) a) ⟨f,fr :: m,ds⟩ Q:=by
 refine⟨_,?_,h⟩;have e:Qd (fr :: m) 0 site=.none:=h2;simp[ZI,h1,e,Qi,Qo,Am.put]

theorem MG {fr:Nat→Ob}{site g sz n:Nat}{q:Bool}{xs:List AV}(hl:fr site=.vec g sz xs)(hn:n=xs.length):QY (fr :: m) (.vec 0 site g 0 n q)=some xs:=by
 subst hn;simp[QY,Am.Qd,hl]

theorem QF {sz bytes el:Nat}{s r:RA}{site g n:Nat}{fr:Nat→Ob}{xs ys:List AV}(hs:s.ev f=.vec 0 site g 0 n false)(hl:fr site=.vec g sz xs)(ht:Zk site el=true)(hn:n=xs.length)(hr:r.ev f=.list ys)(hz:ys.all (fun e=>e.cells.length==sz)=true)(hm:n+ys.length≤maxLen)(hb:(n+ys.length)*bytes≤140737488355328)
  (h:QC P Qe ⟨QG f d (.vec 0 site (g+1) 0 (n+ys.length) false),QG fr site (.vec (g+1) sz (xs++ys)) :: m,ds⟩ K):QC P (⟨some d,.app sz bytes el s r,none⟩ :: Qe) ⟨f,fr :: m,ds⟩ K:=by
 refine⟨0,site,g,n,xs,ys,hs,hl,ht,by omega,?_,hz,hm,hb,?_⟩
 ·show QY (fr :: m) (r.ev f)=some ys;rw[hr];rfl
 ·subst hn;rw[QQi];exact h

theorem Qa {k:Nat}{args:List RA}{ys:List AV}{v:AV}(hk:Qj P k ys v)(hy:AV.stillL false m (args.map (RA.ev f))=some ys)(h1:AV.rfL ys=true)(h2:v.rf=true)(h3:AV.rfL (args.map (RA.ev f))=true∨v.nl=true)(h:QC P Qe ⟨QG f d v,m,ds⟩ K) :
  QC P (⟨some d,.call (.f k) args,none⟩ :: Qe) ⟨f,m,ds⟩ K:=by
 refine⟨k,[],[],ys,v,rfl,?_,h1,hk,h2,?_,h⟩
 ·simpa using hy
 ·simpa using h3

theorem JQ {k:Nat}{args:List RA}{ys:List AV}{R:AV→Prop}(hk:H7 P k ys R)(hy:AV.stillL false m (args.map (RA.ev f))=some ys)(h1:AV.rfL ys=true)(h2:∀v,R v→v.rf=true∧(AV.rfL (args.map (RA.ev f))=true∨v.nl=true))(h:∀v,R v→QC P Qe ⟨QG f d v,m,ds⟩ K) :
  QC P (⟨some d,.callR (.f k) args,none⟩ :: Qe) ⟨f,m,ds⟩ K:=by
 refine⟨k,[],[],ys,R,rfl,?_,h1,hk,?_,h⟩
 ·simpa using hy
 ·simpa using h2

theorem MH {s:Nat}{r:RA}{fr:Nat→Ob}{t:List UInt8}(ht:r.ev f=.str t)(hn:fr s=.none)(h:QC P Qe ⟨QG f d (.ptr 0 s 0),QG fr s (.iter (.str t) 0) :: m,ds⟩ K) :
  QC P (⟨some d,.rngs s r,none⟩ :: Qe) ⟨f,fr :: m,ds⟩ K:=by
 refine⟨t,ht,?_,h⟩;show(match fr s with|.none=>true|_=>false)=true;rw[hn]

theorem MI {s p:Nat}{r:RA}{fr:Nat→Ob}{t:List UInt8}(hr:r.ev f=.ptr 0 s 0)(hl:fr s=.iter (.str t) p)
  (h1:p<t.length→QC P Qe ⟨QG f d (.tup [.bool true,.int .i64 (p:Nat),.int .i32 ((X9 t p).1:Nat)]),QG fr s (.iter (.str t) (p+(X9 t p).2)) :: m,ds⟩ K)
  (h2:t.length≤p→QC P Qe ⟨QG f d (.tup [.bool false]),fr :: m,ds⟩ K) :
  QC P (⟨some d,.nxts r,none⟩ :: Qe) ⟨f,fr :: m,ds⟩ K :=
 ⟨0,s,t,p,hr,hl,h1,h2⟩

theorem QU {k:Nat}{args:List RA}{ys:List AV}{v:AV}{m':Qh}(hk:Qu P k ys m fun x m1=>x=v∧m1=m')(hy:args.map (RA.ev f)=ys)(h:QC P Qe ⟨QG f d v,m',ds⟩ K) :
  QC P (⟨some d,.callF (.f k) args,none⟩ :: Qe) ⟨f,m,ds⟩ K:=by
 refine⟨k,[],[],v,m',rfl,?_,h⟩;show Qu P k (args.map (RA.ev f)++[]) m fun x m1=>x=v∧m1=m'
 rw[QPI,hy];exact hk

theorem QH {k:Nat}{args:List RA}{ys:List AV}{R:AV→Qh→Prop}(hk:Qu P k ys m R)(hy:args.map (RA.ev f)=ys)(h:∀x m',R x m'→m'.length=m.length→QC P Qe ⟨QG f d x,m',ds⟩ K) :
  QC P (⟨some d,.callG (.f k) args,none⟩ :: Qe) ⟨f,m,ds⟩ K:=by
 refine⟨k,[],[],R,rfl,?_,h⟩;show Qu P k (args.map (RA.ev f)++[]) m R;rw[QPI,hy];exact hk
theorem AS {site el sz bytes:Nat}{z:List AV}{l c:RA}{kl kc:IntKind}{n k:Nat}{fr:Nat→Ob}(hl:l.ev f=.int kl (n:Int))(hc:c.ev f=.int kc (k:Int))(hnk:n≤k)(hk:k≤9223372036854775807)(hb:bytes*k≤281474976710656)(hs:fr site=.none)
  (h:QC P Qe ⟨QG f d (.vec 0 site 1 0 n false),QG fr site (.vec 1 sz (List.replicate n (K4 sz z))) :: m,ds⟩ K):QC P (⟨some d,.mk site el sz bytes z l c,none⟩ :: Qe) ⟨f,fr :: m,ds⟩ K:=by
 have e:Qd (fr :: m) 0 site=.none:=hs;refine⟨kl,kc,n,k,hl,hc,hnk,hk,hb,?_,?_⟩
 ·show Qi (Qd (fr :: m) 0 site)=true;rw[e];rfl
 ·have hg:Qo (fr :: m) 0 site=1:=by unfold Qo;rw[e]
  simp only[hg];exact h

theorem RD {site el:Nat}{r:RA}{s:List UInt8}{fr:Nat→Ob}(hr:r.ev f=.str s)(hl:s.length≤9223372036854775807)(hs:fr site=.none)
  (h:QC P Qe ⟨QG f d (.vec 0 site 1 0 s.length false),QG fr site (.vec 1 1 (Xm s)) :: m,ds⟩ K):QC P (⟨some d,.s2b site el r,none⟩ :: Qe) ⟨f,fr :: m,ds⟩ K:=by
 have e:Qd (fr :: m) 0 site=.none:=hs;refine⟨s,hr,hl,?_,?_⟩
 ·show Qi (Qd (fr :: m) 0 site)=true;rw[e];rfl
 ·have hg:Qo (fr :: m) 0 site=1:=by unfold Qo;rw[e]
  simp only[hg];exact h

theorem MJ {s:Nat}{a:RC}{fr:Nat→Ob}:QJ P (.gho (.drop s) a) ⟨f,fr :: m,ds⟩ Q=((fr s).isRow=false∧QJ P a ⟨fun i=>(f i).scrub s,QG (fun i=>(fr i).scrub s) s .none :: m,ds.map (DF.scrub s)⟩ Q):=by
 apply propext
 have hn:YJ (fr :: m) s=!(fr s).isRow:=by
  unfold YJ;show(match fr s with|.vec .. => false|_=>true)=_;cases fr s<;>rfl
 constructor
 ·rintro⟨st',h1,h2⟩;simp only[ZI,hn]at h1;cases hr:(fr s).isRow with
  |true=>rw[hr]at h1;cases h1
  |false=>rw[hr]at h1;cases h1;exact⟨rfl,h2⟩
 ·rintro⟨h1,h2⟩;refine⟨_,?_,h2⟩;simp only[ZI,hn,h1];rfl
theorem MK (s:Nat):AV.top.scrub s=.top:=id rfl
theorem ML (s:Nat)(k:IntKind)(n:Int):(AV.int k n).scrub s=.int k n:=id rfl
theorem VT (s:Nat)(b:Bool):(AV.bool b).scrub s=.bool b:=id rfl
theorem MM (s:Nat)(b:List UInt8):(AV.str b).scrub s=.str b:=id rfl
theorem VU (s:Nat):AV.nils.scrub s=.nils:=id rfl
theorem VV (s:Nat):AV.nilp.scrub s=.nilp:=id rfl
theorem VW (s:Nat):AV.nili.scrub s=.nili:=id rfl
theorem VX (s:Nat):AV.nilf.scrub s=.nilf:=id rfl
theorem VY (s:Nat)(l:List AV):(AV.list l).scrub s=.list l:=id rfl
theorem MN (s l t g o n:Nat)(q:Bool):(AV.vec l t g o n q).scrub s=.vec l t g o n q:=id rfl
theorem MO (s:Nat)(l:List AV):(AV.agg l).scrub s=.agg (AV.scrubL s l):=id rfl
theorem MP (s:Nat)(l:List AV):(AV.tup l).scrub s=.tup (AV.scrubL s l):=id rfl
theorem MQ (s t o:Nat):(AV.ptr 0 t o).scrub s=bif Nat.beq t s then .top else .ptr 0 t o:=id rfl
theorem VZ (s l t o:Nat):(AV.ptr (l+1) t o).scrub s=.ptr (l+1) t o:=id rfl
theorem MS (s:Nat):AV.scrubL s []=[]:=id rfl
theorem V0 (s:Nat)(x:AV)(l:List AV):AV.scrubL s (x :: l)=x.scrub s :: AV.scrubL s l:=id rfl
theorem Nn (s:Nat)(l:List AV):(Ob.cells l).scrub s=.cells (AV.scrubL s l):=id rfl
theorem MT (s g z:Nat)(l:List AV):(Ob.vec g z l).scrub s=.vec g z l:=id rfl
theorem V1 (s:Nat):Ob.none.scrub s=.none:=id rfl
theorem Hf (s:Nat)(o:Ob):(o.scrub s).isRow=o.isRow:=by cases o<;>rfl
theorem No (l:List AV):(Ob.cells l).isRow=false:=id rfl
theorem V2:Ob.none.isRow=false:=id rfl

def Z5 (P:Program)(v:AV)(w:Bool)(d:Option Nat)(ro:RO)(Qe:List Item)(st:St)(K:St→Prop):Prop :=
 match v with
 |.bool b=>(b=w→QC P (⟨d,ro,none⟩ :: Qe) st K)∧(b=(!w)→QC P Qe { st with f:=Qk st.f d (.tup []) } K)
 |.tup l=>l=[]∧QC P Qe { st with f:=Qk st.f d (.tup []) } K
 |_=>False
theorem Xk {b:Bool}{d:Option Nat}{ro:RO}{st:St}(h1:b=true→QC P (⟨d,ro,none⟩ :: Qe) st K)(h2:b=false→QC P Qe { st with f:=Qk st.f d (.tup []) } K):Z5 P (.bool b) true d ro Qe st K:=⟨h1,h2⟩
theorem Xl {b:Bool}{d:Option Nat}{ro:RO}{st:St}(h1:b=false→QC P (⟨d,ro,none⟩ :: Qe) st K)(h2:b=true→QC P Qe { st with f:=Qk st.f d (.tup []) } K):Z5 P (.bool b) false d ro Qe st K:=⟨h1,h2⟩
theorem KU {d:Option Nat}{ro:RO}{st:St}:Z5 P (.bool true) true d ro Qe st K=QC P (⟨d,ro,none⟩ :: Qe) st K:=by simp[Z5]
theorem FL {d:Option Nat}{ro:RO}{st:St}:Z5 P (.bool false) false d ro Qe st K=QC P (⟨d,ro,none⟩ :: Qe) st K:=by simp[Z5]
theorem DL {ro:RO}:Z5 P (.bool true) false (some d) ro Qe ⟨f,m,ds⟩ K=QC P Qe ⟨QG f d (.tup []),m,ds⟩ K:=by simp[Z5,Qk]
theorem W9 {ro:RO}:Z5 P (.bool false) true (some d) ro Qe ⟨f,m,ds⟩ K=QC P Qe ⟨QG f d (.tup []),m,ds⟩ K:=by simp[Z5,Qk]
theorem FM {ro:RO}{w:Bool}:Z5 P (.tup []) w (some d) ro Qe ⟨f,m,ds⟩ K=QC P Qe ⟨QG f d (.tup []),m,ds⟩ K:=by simp[Z5,Qk]
theorem Gk {ro:RO}{st:St}:Z5 P (.bool true) false none ro Qe st K=QC P Qe st K:=by simp[Z5,Qk]
theorem Gl {ro:RO}{st:St}:Z5 P (.bool false) true none ro Qe st K=QC P Qe st K:=by simp[Z5,Qk]
theorem DM {ro:RO}{w:Bool}{st:St}:Z5 P (.tup []) w none ro Qe st K=QC P Qe st K:=by simp[Z5,Qk]
theorem Hg {ro:RO}{j:Nat}{w:Bool}{d:Option Nat}:QC P (⟨d,ro,some (j,w)⟩ :: Qe) ⟨f,m,ds⟩ K=Z5 P (f j) w d ro Qe ⟨f,m,ds⟩ K:=by
 simp only[QC,X6,Z5]
 all_goals(generalize f j=v;cases v<;>rfl)

theorem FN {rs:List RR}{n:Nat}{R:AV→Qh→Prop}{fr:Nat→Ob}:ZC rs n R .ret ⟨f,fr :: m,ds⟩=(ds=[]∧Zv (KR ⟨f,fr :: m,ds⟩ rs)∧Zv (Ww (fr :: m) (XH (KR ⟨f,fr :: m,ds⟩ rs)))∧m.length=n∧R (XH (Ww (fr :: m) (XH (KR ⟨f,fr :: m,ds⟩ rs)))) m):=by
 apply propext
 constructor
 ·rintro⟨_,h1,x,y,fr',m',h2,h3,h4,h5,h6⟩;cases h4;have h1:ds=[]:=h1;rw[h2,Z4,h3];exact⟨h1,rfl,rfl,h5,h6⟩
 ·rintro⟨h1,h2,h3,h4,h5⟩;generalize hv:KR ⟨f,fr :: m,ds⟩ rs=v at h2 h3 h5;cases v with
  |none=>cases h2
  |some x=>
   rw[Z4]at h3 h5;cases hl:Ww (fr :: m) x with
   |none=>rw[hl]at h3;cases h3
   |some y=>
    rw[hl]at h5;exact⟨.inr rfl,h1,x,y,fr,m,hv,hl,rfl,h4,h5⟩
theorem FO {rs:List RR}{n:Nat}{R:AV→Qh→Prop}{st:St}:ZC rs n R .normal st=ZC rs n R .ret st:=by
 simp[ZC]

theorem KA {α:Type}(f:Nat→α)(d:Nat)(x:α)(i:Nat):QG f d x i=bif Nat.beq i d then x else f i:=id rfl
theorem Jx (a b:Nat):Nat.beq a b=(a==b):=by
 cases h:Nat.beq a b with
 |true=>rw[QOC h];simp
 |false=>have:=Nat.ne_of_beq_eq_false h;simp[this]
theorem Jy {s idx site sz:Nat}{a:RC}{fr:Nat→Ob}{xs:List AV}(h1:fr s=.cells xs)(h2:xs[idx]? = some .nils)(h3:fr site=.none)(hne:Nat.beq site s=false)(h:QJ P a ⟨f,QG (QG fr site (.vec 1 sz [])) s (.cells (xs.set idx (.vec 0 site 1 0 0 false))) :: m,ds⟩ Q):QJ P (.gho (.vecc s idx site sz) a) ⟨f,fr :: m,ds⟩ Q:=by
 refine⟨_,?_,h⟩;have e1:Qd (fr :: m) 0 s=.cells xs:=h1;have e:Qd (fr :: m) 0 site=.none:=h3;simp[ZI,e1,h2,e,Qi,Qo,Am.put,hne]
theorem NF {α:Type}(f:Nat→α)(d:Nat)(x y:α):QG (QG f d x) d y=QG f d y:=by
 funext i;by_cases h:i=d
 ·subst h;rw[Xe,Xe]
 ·rw[Xc _ _ h,Xc _ _ h,Xc _ _ h]
theorem Uo (n:Nat):(RA.t n).ev f=f n:=id rfl
theorem DN (x:AV):(RA.c x).ev f=x:=id rfl
theorem e_f (k:Nat):(RA.f k).ev f=.fn (.func k) [] []:=id rfl

end

end Go.Proofs.YtfgchfdkiomfpaaGreat.Am

namespace Go.Proofs.YtfgchfdkiomfpaaGreat.Br
open Go Am Go.RowKit Go.WideShapes Go.ChangeShapes Go.ChangeAt

theorem FP {P:Program}{k:FuncId}{args:List AV}{v:Bool}(h:Qj P k args (.bool v)){stab:Nat→Nat→Option SV}{w:World}(hs:∀b o u,stab b o=some u→rd w b o u){vs:List Value}(hr:RepL (Gh.bare stab) args vs) :
  Calls P k ⟨vs⟩ w fun e w'=>e=.returned (.bool v)∧Below w.heap.size w w' :=
 (h.2 (Gh.bare stab) w vs hr (MR.bare hs)).mono fun e w' ⟨G',x,u,m',he,hx,hu,_,hex,_⟩=>by
  subst hx;cases hu;exact⟨he,hex.os,hex.tape,hex.output,hex.size,fun b hb=>(hex.old b hb Gh.bare_mine).1⟩

theorem Dd {G:Gh}(s:ByteArray):Rep G (.str s.data.toList) (.string s):=by
 obtain⟨⟨l⟩⟩:=s;exact .str l

theorem Qau {n:Int}(h:(Lit.int .i64 n).wf=true) : -9223372036854775808≤n:=by
 simp[Lit.wf,IntKind.min,IntKind.max,IntKind.bits,IntKind.signed]at h;omega
theorem FQ {n:Int}(h:(Lit.int .i64 n).wf=true):n<9223372036854775808:=by
 simp[Lit.wf,IntKind.min,IntKind.max,IntKind.bits,IntKind.signed]at h;omega
theorem Qav {n:Int}(h:(Lit.int .u64 n).wf=true):0≤n:=by
 simp[Lit.wf,IntKind.min,IntKind.max,IntKind.bits,IntKind.signed]at h;omega
theorem Qaw {n:Int}(h:(Lit.int .u64 n).wf=true):n<18446744073709551616:=by
 simp[Lit.wf,IntKind.min,IntKind.max,IntKind.bits,IntKind.signed]at h;omega

section
variable {H:Type}{enc:TypeId×Value→H}{P:Program}
theorem Ff {f:Func}{s:ChangeSpec}{UZ fresh handsOn again:Bool}{W W':World}{args:Array Value}{v:Value}{ds gs:List (DataW H)}{before pa pv:List MemPlace}
  (hW:DataW.Whole enc P f.params.toList s.vars UZ W args.toList ds gs before)
  (hres:∀(b:Nat) (sp:Nat→Bool) (hd:Bool),DataW.TrodAll enc P W' b sp hd f.resultTypes.toList (v.resultList f.resultTypes.size) (s.fn H (ds++gs)).results [])
  (hargs:∀sp:Nat→Bool,(∀p∈before,sp p.block=true)→DataW.TrodAll enc P W' 0 sp true f.params.toList args.toList (s.fn H (ds++gs)).args pa)
  (hvars:∀sp:Nat→Bool,(∀p∈before,sp p.block=true)→DataW.TrodVars enc P W' sp s.vars (s.fn H (ds++gs)).vars pv)
  (hps:before=pa++pv) (hb:Below W.heap.size W W')
  (hok:∀(j:Nat) (t:TypeId) (r:Value),f.resultTypes[j]? = some t→(v.resultList f.resultTypes.size)[j]? = some r→Value.okWide P W' .any 0 t r) :
  s.post enc P f UZ fresh handsOn again W args v W':=by
 have hlt:∀p∈before,p.block<W.heap.size:=fun p hp=>hW.lt p hp
 have hold:∀p∈before,(fun b=>decide (b<W.heap.size)) p.block=true:=fun p hp=>by simpa using hlt p hp
 refine⟨ds,gs,before,[],pa,pv,hW,hres _ _ _,hargs _ hold,hvars _ hold,World.keptBut_mono (fun p hp=>⟨hp,?_⟩) (hb.frame (·∈before)),fun _=>?_⟩
 ·rw[hps,QPX]at hp;exact Or.inr hp
 ·obtain⟨_,_,_,_,_,hz,hn⟩:=hW;refine⟨hok,_,_,([]++pa)++pv,⟨[]++pa,pv,trodAll_append (hargs _ (fun _ _=>rfl)) (hres _ _ _),hvars _ (fun _ _=>rfl),rfl,?_,?_⟩,?_⟩
  ·intro b off hp;have hin:MemPlace.cell b off∈before:=by rw[hps];simpa using hp
   rw[hb.frozen (hlt _ hin)];exact hz b off hin
  ·intro ha;have:=hn ha;rw[hps]at this
   simpa using this
  ·intro p hp _;rw[hps]
   simpa using hp
end

end Go.Proofs.YtfgchfdkiomfpaaGreat.Br

namespace Go.Proofs.YtfgchfdkiomfpaaGreat.Am
open Go

variable {P:Program}{f:Fr}{m:Qh}{ds:List DF}{Qe:List Item}{d:Nat}

theorem MU {K:St→Prop}{sz bytes el:Nat}{s r:RA}{site g n:Nat}{fr:Nat→Ob}{xs ys:List AV}(hs:s.ev f=.vec 0 site g 0 n false)(hl:fr site=.vec g sz xs)(ht:Zk site el=true)(hn:n=xs.length)(hr:r.ev f=.list ys)(hz:ys.all (fun e=>e.cells.length==sz)=true)(hm:n+ys.length≤maxLen)(hb:(n+ys.length)*bytes≤140737488355328)
  (h:QC P Qe ⟨QG f d (.list (xs++ys)),QG fr site (.vec (g+1+1) sz []) :: m,ds⟩ K):QC P (⟨some d,.appl sz bytes el s r,none⟩ :: Qe) ⟨f,fr :: m,ds⟩ K:=by
 refine⟨site,g,n,xs,ys,hs,hl,ht,by omega,?_,hz,hm,hb,?_⟩
 ·show QY (fr :: m) (r.ev f)=some ys;rw[hr];rfl
 ·subst hn;rw[QQi];exact h

theorem KV {Q:Exit→St→Prop}{a:RC}{slot site g sz n:Nat}{fr:Nat→Ob}{xs:List AV}(h1:f slot=.vec 0 site g 0 n false)(h2:fr site=.vec g sz xs)(hn:n≤xs.length)
  (h:QJ P a ⟨QG f slot (.list (xs.take n)),QG fr site (.vec (g+1) sz []) :: m,ds⟩ Q):QJ P (.gho (.pub slot site) a) ⟨f,fr :: m,ds⟩ Q:=by
 refine⟨_,?_,h⟩;have e:Qd (fr :: m) 0 site=.vec g sz xs:=h2;simp only[ZI,h1,e];rw[show Nat.beq site site=true from Nat.beq_refl site,show Nat.beq g g=true from Nat.beq_refl g,show Nat.ble (0+n) xs.length=true from Nat.ble_eq_true_of_le (by omega)];rfl

theorem RE {Q:Exit→St→Prop}{a:RC}{slot site:Nat}{l:List AV}(h1:f slot=.list l)(h:QJ P a ⟨f,m,ds⟩ Q):QJ P (.gho (.pub slot site) a) ⟨f,m,ds⟩ Q:=by
 refine⟨_,?_,h⟩;simp only[ZI,h1]

def Fh:List Nat→RC→RC
 | [],a=>a
 |s :: l,a=>.gho (.drop s) (Fh l a)
def V3:List Nat→AV→AV
 | [],x=>x
 |s :: l,x=>V3 l (x.scrub s)
def Gm:List Nat→Ob→Ob
 | [],x=>x
 |s :: l,x=>Gm l (x.scrub s)

theorem V4 (l:List Nat):Gm l .none=.none:=by
 induction l with
 |nil=>rfl
 |cons s l ih=>exact ih

theorem Q7 {Q:Exit→St→Prop}{a:RC}(l:List Nat):∀ {f:Fr} {fr:Nat→Ob},(∀s∈l,(fr s).isRow=false)→
  (∀f' fr',(∀i,f' i=V3 l (f i))→(∀i,i∉l→fr' i=Gm l (fr i))→(∀i∈l,fr' i=.none)→QJ P a ⟨f',fr' :: m,[]⟩ Q)→QJ P (Fh l a) ⟨f,fr :: m,[]⟩ Q:=by
 induction l with
 |nil=>intro f fr _ h;exact h f fr (fun _=>rfl) (fun _ _=>rfl) (fun _ h=>by cases h)
 |cons s l ih=>
  intro f fr hr h;show QJ P (.gho (.drop s) (Fh l a)) _ _;rw[MJ];refine⟨hr s (by simp),?_⟩;show QJ P (Fh l a) ⟨_,_ :: m,[]⟩ Q;refine ih ?_ ?_
  ·intro t ht;by_cases e:t=s
   ·subst e;rw[Xe];rfl
   ·rw[Xc _ _ e,Hf];exact hr t (by simp[ht])
  ·intro f' fr' h1 h2 h3;refine h f' fr' h1 ?_ ?_
   ·intro i hi;rw[h2 i (fun h=>hi (QOU _ h)),Xc _ _ (fun e=>hi (by rw[e];exact QOW))];rfl
   ·intro i hi;by_cases hl:i∈l
    ·exact h3 i hl
    ·have e:i=s:=by
      rcases QP0.1 hi with e|e
      ·exact e
      ·exact absurd e hl
     rw[h2 i hl,e,Xe,V4]

def Xu:Ob→Nat
 |.vec g _ _=>g+1
 |_=>1

theorem Km {fr:Nat→Ob}{s:Nat}:Qo (fr :: m) 0 s=Xu (fr s):=by
 unfold Qo Xu;rfl

theorem JR {K:St→Prop}{neg:Bool}{r:RA}{ys:List AV}(hr:r.ev f=.list ys)(h0:QC P Qe ⟨QG f d (.bool neg),m,ds⟩ K)(h1:ys=[]∨QP ys=[]→QC P Qe ⟨QG f d (.bool (!neg)),m,ds⟩ K):QC P (⟨some d,.isnil neg r,none⟩ :: Qe) ⟨f,m,ds⟩ K:=by
 refine⟨ys,?_,fun _=>h0,fun e=>h1 ?_⟩
 ·show QY m (r.ev f)=some ys;rw[hr];rfl
 ·rcases e with e|e
  ·have e:r.ev f=.nils:=e;rw[hr]at e;cases e
  ·exact .inr e

theorem Ya {K:St→Prop}{site sz bytes el:Nat}{s r:RA}{fr:Nat→Ob}{xs ys:List AV}(hs:s.ev f=.lcap xs)(hr:r.ev f=.list ys)(hne:ys≠[])(hxz:xs.all (fun e=>e.cells.length==sz)=true)(hsz:ys.all (fun e=>e.cells.length==sz)=true)(hm:xs.length+ys.length≤maxLen)(hb:(xs.length+ys.length)*bytes≤140737488355328)(hro:Qi (fr site)=true)
  (h:QC P Qe ⟨QG f d (.vec 0 site (Xu (fr site)) 0 (xs.length+ys.length) false),QG fr site (.vec (Xu (fr site)) sz (xs++ys)) :: m,ds⟩ K):QC P (⟨some d,.appc site sz bytes el s r,none⟩ :: Qe) ⟨f,fr :: m,ds⟩ K:=by
 refine⟨xs,ys,hs,?_,hne,hxz,hsz,hm,hb,hro,h⟩;show QY (fr :: m) (r.ev f)=some ys;rw[hr];rfl

theorem XN {K:St→Prop}{site sz:Nat}{fr:Nat→Ob}(hs:Qi (fr site)=true)
  (h:QC P Qe ⟨QG f d (.vec 0 site (Xu (fr site)) 0 0 false),QG fr site (.vec (Xu (fr site)) sz []) :: m,ds⟩ K):QC P (⟨some d,.bsl0 site sz,none⟩ :: Qe) ⟨f,fr :: m,ds⟩ K :=
 ⟨hs,h⟩

theorem Uq {K:St→Prop}{site sz len:Nat}{z:List AV}{ps:List (Nat×Nat×RA)}{fr:Nat→Ob}{y:List AV}(hy:fill f ps (XD z sz len)=some y)(h1:AV.rfL y=true)(h2:y.all AV.leaf=true)(hs:Qi (fr site)=true)
  (h:QC P Qe ⟨QG f d (.vec 0 site (Xu (fr site)) 0 len false),QG fr site (.vec (Xu (fr site)) sz (XP sz len (y.map nn0))) :: m,ds⟩ K):QC P (⟨some d,.bslv site sz len z ps,none⟩ :: Qe) ⟨f,fr :: m,ds⟩ K :=
 ⟨y,hy,h1,h2,hs,h⟩

theorem YR {K:St→Prop}{site sz:Nat}{z l:List AV}{r:RA}{fr:Nat→Ob}(hr:r.ev f=.agg l)(hl:l.length=sz)(h1:sz≠1)(hf:AV.rfL l=true)(hlf:l.all AV.leaf=true)(hs:Qi (fr site)=true)
  (h:QC P Qe ⟨QG f d (.vec 0 site (Xu (fr site)) 0 1 false),QG fr site (.vec (Xu (fr site)) sz [.agg (l.map nn0)]) :: m,ds⟩ K):QC P (⟨some d,.bslv site sz 1 z [(0,sz,r)],none⟩ :: Qe) ⟨f,fr :: m,ds⟩ K:=by
 have hz:(XD z sz 1).length=sz:=by simp[XD]
 have hy:fill f [(0,sz,r)] (XD z sz 1)=some l:=by
  simp only[fill,hr,AV.cells,hl,hlf,QPm,hz,QOE,and_self,if_true,splice,QPN,QO1];rw[QPh (by omega),QPI]
 have hc:XP sz 1 (l.map nn0)=[.agg (l.map nn0)]:=by
  simp only[XP,QOS h1];rw[QPe (by rw[QPz];omega)]
 refine Uq hy hf hlf hs ?_;rw[hc];exact h

theorem Zm {Q:Exit→St→Prop}{a:RC}{slot site l S g sz o n:Nat}{q:Bool}{fr:Nat→Ob}{xs:List AV}(h1:f slot=.vec 0 site g o n q)(h2:fr site=.vec g sz xs)(hl:l<m.length)(hS:S<2000)(hr:Qi (Qd m l S)=true)
  (h:QJ P a ⟨QG f slot (.vec (l+1) S (Qo m l S) o n q),QG fr site (.vec (g+1) sz []) :: Am.put m l S (.vec (Qo m l S) sz xs),ds⟩ Q):QJ P (.gho (.give slot site (l+1) S) a) ⟨f,fr :: m,ds⟩ Q:=by
 refine⟨_,?_,h⟩;have e:Qd (fr :: m) 0 site=.vec g sz xs:=h2;have e1:Qi (Qd (fr :: m) (l+1) S)=true:=hr;have e2:Qo (fr :: m) (l+1) S=Qo m l S:=rfl;simp only[ZI,h1,e,e1,e2];rw[show Nat.beq site site=true from Nat.beq_refl site,show Nat.beq g g=true from Nat.beq_refl g,show Nat.blt (l+1) (fr :: m).length=true from Nat.ble_eq_true_of_le (by simp;omega),show Nat.blt S 2000=true from Nat.ble_eq_true_of_le hS];rfl

theorem Hy {Q:Exit→St→Prop}{a:RC}{slot:Nat}(h1:f slot=.nils)(h:QJ P a ⟨QG f slot (.list []),m,ds⟩ Q):QJ P (.gho (.lst slot) a) ⟨f,m,ds⟩ Q:=by
 refine⟨_,?_,h⟩;simp only[ZI,h1]

theorem YS {K:St→Prop}{k:Nat}{r:RA}{args:List RA}{fa fb ys:List AV}{v:AV}{m':Qh}(hr:r.ev f=.fn (.func k) fa fb)(hk:Qu P k ys m fun x m1=>x=v∧m1=m')(hy:fa++args.map (RA.ev f)++fb=ys)(h:QC P Qe ⟨QG f d v,m',ds⟩ K) :
  QC P (⟨some d,.callF r args,none⟩ :: Qe) ⟨f,m,ds⟩ K:=by
 refine⟨k,fa,fb,v,m',hr,?_,h⟩;show Qu P k (fa++args.map (RA.ev f)++fb) m fun x m1=>x=v∧m1=m'
 rw[hy];exact hk

end Go.Proofs.YtfgchfdkiomfpaaGreat.Am

namespace Go.Proofs.YtfgchfdkiomfpaaGreat.Am
open Go

abbrev NG:=FuncId→Option (RC×List RR×Nat)

def Fj (P:Program)(T:NG):Prop :=
 ∀k c rs N, T k=some (c, rs, N)→∃fn body, P.funcs[k]? = some fn∧fn.body=some body∧(fn.name == "runtime.NumGoroutine")=false∧fn.ntmps=N∧Zl P N c body=true∧JX P fn.results.toList rs=true

abbrev Wq:=FuncId→List AV→Qh→Option (AV×Qh)

def Zs (call:Wq)(d:Option Nat)(op:RO)(st:St):Option St :=
 match op with
 |.val vo=>match Qn st.f st.m vo with
  |some x=>some { st with f:=Qk st.f d x }
  |none=>none
 |.allocN s z=>bif X8 st.m s then some { st with m:=Am.put st.m 0 s (.cells z),f:=Qk st.f d (.ptr 0 s 0) } else none
 |.boxN s r=>bif X8 st.m s&&(r.ev st.f).cells.all AV.leaf then some { st with m:=Am.put st.m 0 s (.cells (r.ev st.f).cells),f:=Qk st.f d (.ptr 0 s 0) } else none
 |.store n p r=>bif Nat.beq (r.ev st.f).cells.length n&&(r.ev st.f).cells.all AV.leaf then match Q6 st.m (p.ev st.f) (r.ev st.f).cells with
   |some m'=>some { st with m:=m',f:=Qk st.f d (.tup []) }
   |none=>none
  else none
 |.storev l s n p r=>match p.ev st.f with
  |.ptr l' s' _=>bif Nat.beq l' l&&Nat.beq s' s&&Nat.beq (r.ev st.f).cells.length n&&(r.ev st.f).cells.all AV.leaf then match Q6 st.m (p.ev st.f) (r.ev st.f).cells with
    |some m'=>some { st with m:=m',f:=Qk st.f d (.tup []) }
    |none=>none
   else none
  |_=>none
 |.app sz bytes el s r=>match s.ev st.f with
  |.vec l site g 0 n false=>match Qd st.m l site with
   |.vec g' sz' xs=>match QY st.m (r.ev st.f)with
    |some ys=>bif Nat.beq g' g&&Nat.beq sz' sz&&Zk site el&&Nat.ble n xs.length&&ys.all (fun e=>e.cells.length==sz)&&Nat.ble (n+ys.length) maxLen&&Nat.ble ((n+ys.length)*bytes) 140737488355328 then
      some { st with m:=Am.put st.m l site (.vec (g+1) sz (xs.take n++ys)),f:=Qk st.f d (.vec l site (g+1) 0 (n+ys.length) false) }
     else none
    |none=>none
   |_=>none
  |_=>none
 |.appl .. => none
 |.call f args=>match f.ev st.f with
  |.fn (.func k) fa fb=>match AV.stillL false st.m (fa++args.map (RA.ev st.f)++fb)with
   |some ys=>bif AV.rfL ys then match call k ys []with
     |some (v,_)=>bif v.rf&&(AV.rfL (fa++args.map (RA.ev st.f)++fb)||v.nl)then some { st with f:=Qk st.f d v } else none
     |none=>none
    else none
   |none=>none
  |_=>none
 |.callF f args=>match f.ev st.f with
  |.fn (.func k) fa fb=>match call k (fa++args.map (RA.ev st.f)++fb) st.m with
   |some (v,m')=>some { st with m:=m',f:=Qk st.f d v }
   |none=>none
  |_=>none
 |.callG f args=>match f.ev st.f with
  |.fn (.func k) fa fb=>match call k (fa++args.map (RA.ev st.f)++fb) st.m with
   |some (v,m')=>some { st with m:=m',f:=Qk st.f d v }
   |none=>none
  |_=>none
 |.bsl sz len z ps=>match fill st.f ps (XD z sz len)with
  |some y=>bif AV.rfL y&&y.all AV.leaf then some { st with f:=Qk st.f d (.list (XP sz len (y.map nn0))) } else none
  |none=>none
 |.bslv site sz len z ps=>match fill st.f ps (XD z sz len)with
  |some y=>bif AV.rfL y&&y.all AV.leaf&&Qi (Qd st.m 0 site)then some { st with m:=Am.put st.m 0 site (.vec (Qo st.m 0 site) sz (XP sz len (y.map nn0))),f:=Qk st.f d (.vec 0 site (Qo st.m 0 site) 0 len false) } else none
  |none=>none
 |.bsl0 site sz=>bif Qi (Qd st.m 0 site)then some { st with m:=Am.put st.m 0 site (.vec (Qo st.m 0 site) sz []),f:=Qk st.f d (.vec 0 site (Qo st.m 0 site) 0 0 false) } else none
 |.appc site sz bytes _ s r=>match s.ev st.f with
  |.lcap xs=>match QY st.m (r.ev st.f)with
   |some (y :: ys)=>bif xs.all (fun e=>e.cells.length==sz)&&(y :: ys).all (fun e=>e.cells.length==sz)&&Nat.ble (xs.length+(y :: ys).length) maxLen&&Nat.ble ((xs.length+(y :: ys).length)*bytes) 140737488355328&&Qi (Qd st.m 0 site)then
     some { st with m:=Am.put st.m 0 site (.vec (Qo st.m 0 site) sz (xs++y :: ys)),f:=Qk st.f d (.vec 0 site (Qo st.m 0 site) 0 (xs.length+(y :: ys).length) false) }
    else none
   |_=>none
  |_=>none
 |.isnil neg r=>match r.ev st.f with
  |.nils=>some { st with f:=Qk st.f d (.bool (!neg)) }
  |.list l=>match QP l with
   |_ :: _=>some { st with f:=Qk st.f d (.bool neg) }
   | []=>none
  |_=>none
 |.callR f args=>match f.ev st.f with
  |.fn (.func k) fa fb=>match AV.stillL false st.m (fa++args.map (RA.ev st.f)++fb)with
   |some ys=>bif AV.rfL ys then match call k ys []with
     |some (v,_)=>bif v.rf&&(AV.rfL (fa++args.map (RA.ev st.f)++fb)||v.nl)then some { st with f:=Qk st.f d v } else none
     |none=>none
    else none
   |none=>none
  |_=>none
 |.rngs s r=>match r.ev st.f with
  |.str t=>bif X8 st.m s then some { st with m:=Am.put st.m 0 s (.iter (.str t) 0),f:=Qk st.f d (.ptr 0 s 0) } else none
  |_=>none
 |.nxts r=>match r.ev st.f with
  |.ptr l s 0=>match Qd st.m l s with
   |.iter (.str t) p=>bif Nat.blt p t.length then some { st with m:=Am.put st.m l s (.iter (.str t) (p+(X9 t p).2)),f:=Qk st.f d (.tup [.bool true,.int .i64 (p:Nat),.int .i32 ((X9 t p).1:Nat)]) } else some { st with f:=Qk st.f d (.tup [.bool false]) }
   |_=>none
  |_=>none
 |.mk site _ sz bytes z l c=>match l.ev st.f,c.ev st.f with
  |.int _ (.ofNat n),.int _ (.ofNat k)=>bif Nat.ble n k&&Nat.ble k 9223372036854775807&&Nat.ble (bytes*k) 281474976710656&&Qi (Qd st.m 0 site)then
    some { st with m:=Am.put st.m 0 site (.vec (Qo st.m 0 site) sz (List.replicate n (K4 sz z))),f:=Qk st.f d (.vec 0 site (Qo st.m 0 site) 0 n false) }
   else none
  |_,_=>none
 |.s2b site _ r=>match r.ev st.f with
  |.str s=>bif Nat.ble s.length 9223372036854775807&&Qi (Qd st.m 0 site)then
    some { st with m:=Am.put st.m 0 site (.vec (Qo st.m 0 site) 1 (Xm s)),f:=Qk st.f d (.vec 0 site (Qo st.m 0 site) 0 s.length false) }
   else none
  |_=>none
 |.dfr _ _=>none
where
  isBytes:List AV→List UInt8→Bool
  | [],[]=>true
  |.int .u8 (.ofNat n) :: l,b :: t=>Nat.beq n b.toNat&&isBytes l t
  |_,_=>false

def FR (call:Wq)(it:Item)(st:St):Option St :=
 match it.g with
 |none=>Zs call it.dst it.op st
 |some (j,want)=>match st.f j with
  |.bool b=>bif b==want then Zs call it.dst it.op st else some { st with f:=Qk st.f it.dst (.tup []) }
  |.tup []=>some { st with f:=Qk st.f it.dst (.tup []) }
  |_=>none

def Gn (call:Wq):List Item→St→Option St
 | [],st=>some st
 |it :: Qe,st=>match FR call it st with
  |some st'=>Gn call Qe st'
  |none=>none

def Gp (rs:List RR)(n:Nat)(r:Option (Exit×St)):Option (AV×Qh) :=
 match r with
 |some (.normal,st)=>fin st
 |some (.ret,st)=>fin st
 |_=>none
where
 fin (st:St):Option (AV×Qh):=match st.ds with
  | []=>match KR st rs with
   |some x=>match Ww st.m x with
    |some y=>match st.m with
     |_ :: m=>bif Nat.beq m.length n then some (y,m)else none
     | []=>none
    |none=>none
   |none=>none
  |_=>none

def Ur (nat:Wq)(T:NG)(body:RC→St→Option (Exit×St)):Wq:=fun k args m=>
 match nat k args m with
 |some r=>some r
 |none=>match T k with
  |some (c,rs,N)=>bif Nat.ble args.length N then Gp rs m.length (body c (St.enter args m))else none
  |none=>none

def Jz (nat:Wq)(T:NG):Nat→RC→St→Option (Exit×St)
 |0,_,_=>none
 |n+1,c,st=>match c with
  |.skip=>some (.normal,st)
  |.reg Qe=>match Gn (Ur nat T (Jz nat T n)) Qe st with
   |some st'=>some (.normal,st')
   |none=>none
  |.draw Qe=>match Gn (Ur nat T (Jz nat T n)) Qe st with
   |some st'=>some (.normal,st')
   |none=>none
  |.seq a b=>match Jz nat T n a st with
   |some (.normal,st')=>Jz nat T n b st'
   |r=>r
  |.cond c a b=>match c.ev st.f with
   |.bool t=>bif t then Jz nat T n a st else Jz nat T n b st
   |_=>none
  |.block id a=>match Jz nat T n a st with
   |some (.exit i,st')=>if i=id then some (.normal,st')else some (.exit i,st')
   |r=>r
  |.loop a=>match Jz nat T n a st with
   |some (.normal,st')=>Jz nat T n (.loop a) st'
   |r=>r
  |.exit id=>some (.exit id,st)
  |.scope a=>match Jz nat T n a st with
   |some (.goto _,_)=>none
   |r=>r
  |.lab=>some (.normal,st)
  |.ret=>some (.ret,st)
  |.gho g a=>match ZI g st with
   |some st'=>Jz nat T n a st'
   |none=>none
  |.no=>none

section
variable {P:Program}{T:NG}

def Wy (P:Program)(call:Wq):Prop:=∀k args m v m',call k args m=some (v,m')→Qu P k args m fun x m1=>x=v∧m1=m'

theorem NH {call:Wq}(hc:Wy P call){d:Option Nat}{op:RO}{st st':St}(h:Zs call d op st=some st'){K:St→Prop}(hK:K st'):Ud P d op st K:=by
 cases op with
 |val vo=>
  simp only[Zs]at h;split at h
  ·rename_i x hx;cases h;exact⟨x,hx,hK⟩
  ·cases h
 |allocN s z=>
  simp only[Zs]at h;cases h1:X8 st.m s<;>rw[h1]at h<;>simp only[cond_true,cond_false,reduceCtorEq,QO3]at h;subst h;exact⟨h1,hK⟩
 |boxN s r=>
  simp only[Zs]at h;cases h1:(X8 st.m s&&(r.ev st.f).cells.all AV.leaf)<;>rw[h1]at h<;>simp only[cond_true,cond_false,reduceCtorEq,QO3]at h;rw[QO2]at h1;subst h;exact⟨h1.1,h1.2,hK⟩
 |store n p r=>
  simp only[Zs]at h;cases h1:(Nat.beq (r.ev st.f).cells.length n&&(r.ev st.f).cells.all AV.leaf)<;>rw[h1]at h<;>simp only[cond_true,cond_false,reduceCtorEq]at h;rw[QO2]at h1;split at h
  ·rename_i m' hm;cases h;exact⟨QOC h1.1,h1.2,m',hm,hK⟩
  ·cases h
 |storev l s n p r=>
  simp only[Zs]at h;split at h
  ·rename_i l' s' o hp;cases h1:(Nat.beq l' l&&Nat.beq s' s&&Nat.beq (r.ev st.f).cells.length n&&(r.ev st.f).cells.all AV.leaf)<;>rw[h1]at h<;>simp only[cond_true,cond_false,reduceCtorEq]at h;simp only[QO2]at h1;obtain⟨⟨⟨a1,a2⟩,a3⟩,a4⟩:=h1;have e1:=QOC a1;have e2:=QOC a2;subst e1 e2;split at h
   ·rename_i m' hm;cases h;exact⟨⟨o,hp⟩,QOC a3,a4,m',hm,hK⟩
   ·cases h
  ·cases h
 |app sz bytes el s r=>
  simp only[Zs]at h;split at h
  ·rename_i l site g n hs;split at h
   ·rename_i g' sz' xs hl;split at h
    ·rename_i ys hy;cases h1:(Nat.beq g' g&&Nat.beq sz' sz&&Zk site el&&Nat.ble n xs.length&&ys.all (fun e=>e.cells.length==sz)&&Nat.ble (n+ys.length) maxLen&&Nat.ble ((n+ys.length)*bytes) 140737488355328)<;>rw[h1]at h<;>simp only[cond_true,cond_false,reduceCtorEq,QO3]at h;simp only[QO2]at h1;obtain⟨⟨⟨⟨⟨⟨a1,a2⟩,a3⟩,a4⟩,a5⟩,a6⟩,a7⟩:=h1;have e1:=QOC a1;have e2:=QOC a2;subst e1 e2 h;exact⟨l,site,_,n,xs,ys,hs,hl,a3,QP8 a4,hy,a5,QP8 a6,QP8 a7,hK⟩
    ·cases h
   ·cases h
  ·cases h
 |appl sz bytes el s r=>
  simp only[Zs]at h;cases h
 |call f args=>
  simp only[Zs]at h;split at h
  ·rename_i k fa fb hf;split at h
   ·rename_i ys hy;cases h1:AV.rfL ys<;>rw[h1]at h<;>simp only[cond_true,cond_false,reduceCtorEq]at h;split at h
    ·rename_i v m' hv;cases h2:(v.rf&&(AV.rfL (fa++args.map (RA.ev st.f)++fb)||v.nl))<;>rw[h2]at h<;>simp only[cond_true,cond_false,reduceCtorEq,QO3]at h;rw[QO2,QPE]at h2;subst h;exact⟨k,fa,fb,ys,v,hf,hy,h1,(hc _ _ _ _ _ hv).mono (fun _ _ e=>e.1),h2.1,h2.2,hK⟩
    ·cases h
   ·cases h
  ·cases h
 |callF f args=>
  simp only[Zs]at h;split at h
  ·rename_i k fa fb hf;split at h
   ·rename_i v m' hv;cases h;exact⟨k,fa,fb,v,m',hf,hc _ _ _ _ _ hv,hK⟩
   ·cases h
  ·cases h
 |callG f args=>
  simp only[Zs]at h;split at h
  ·rename_i k fa fb hf;split at h
   ·rename_i v m' hv;cases h;exact⟨k,fa,fb,_,hf,hc _ _ _ _ _ hv,fun x m1 hx _=>by obtain⟨rfl,rfl⟩:=hx;exact hK⟩
   ·cases h
  ·cases h
 |bsl sz len z ps=>
  simp only[Zs]at h;split at h
  ·rename_i y hy;cases h1:(AV.rfL y&&y.all AV.leaf)<;>rw[h1]at h<;>simp only[cond_true,cond_false,reduceCtorEq,QO3]at h;rw[QO2]at h1;subst h;exact⟨y,hy,h1.1,h1.2,hK⟩
  ·cases h
 |bslv site sz len z ps=>
  simp only[Zs]at h;split at h
  ·rename_i y hy;cases h1:(AV.rfL y&&y.all AV.leaf&&Qi (Qd st.m 0 site))<;>rw[h1]at h<;>simp only[cond_true,cond_false,reduceCtorEq,QO3]at h;simp only[QO2]at h1;subst h;exact⟨y,hy,h1.1.1,h1.1.2,h1.2,hK⟩
  ·cases h
 |bsl0 site sz=>
  simp only[Zs]at h;cases h1:Qi (Qd st.m 0 site)<;>rw[h1]at h<;>simp only[cond_true,cond_false,reduceCtorEq,QO3]at h;subst h;exact⟨h1,hK⟩
 |appc site sz bytes el s r=>
  simp only[Zs]at h;split at h
  ·rename_i xs hs;split at h
   ·rename_i y ys hy;cases h1:(xs.all (fun e=>e.cells.length==sz)&&(y :: ys).all (fun e=>e.cells.length==sz)&&Nat.ble (xs.length+(y :: ys).length) maxLen&&Nat.ble ((xs.length+(y :: ys).length)*bytes) 140737488355328&&Qi (Qd st.m 0 site))<;>rw[h1]at h<;>simp only[cond_true,cond_false,reduceCtorEq,QO3]at h;simp only[QO2]at h1;obtain⟨⟨⟨⟨a1,a2⟩,a3⟩,a4⟩,a5⟩:=h1;subst h;exact⟨xs,y :: ys,hs,hy,by simp,a1,a2,QP8 a3,QP8 a4,a5,hK⟩
   ·cases h
  ·cases h
 |isnil neg r=>
  simp only[Zs]at h;split at h
  ·rename_i hr;cases h;exact⟨[],by rw[hr];rfl,fun e=>absurd hr e,fun _=>hK⟩
  ·rename_i l hr;split at h
   ·rename_i z zs hf;cases h;exact⟨l,by rw[hr];rfl,fun _=>hK,fun e=>by
     rcases e with e|e
     ·rw[hr]at e;cases e
     ·rw[hf]at e;cases e⟩
   ·cases h
  ·cases h
 |callR f args=>
  simp only[Zs]at h;split at h
  ·rename_i k fa fb hf;split at h
   ·rename_i ys hy;cases h1:AV.rfL ys<;>rw[h1]at h<;>simp only[cond_true,cond_false,reduceCtorEq]at h;split at h
    ·rename_i v m' hv;cases h2:(v.rf&&(AV.rfL (fa++args.map (RA.ev st.f)++fb)||v.nl))<;>rw[h2]at h<;>simp only[cond_true,cond_false,reduceCtorEq,QO3]at h;rw[QO2,QPE]at h2;subst h;exact⟨k,fa,fb,ys,(· = v),hf,hy,h1,(hc _ _ _ _ _ hv).mono (fun _ _ e=>e.1),fun x hx=>by subst hx;exact h2,fun x hx=>by subst hx;exact hK⟩
    ·cases h
   ·cases h
  ·cases h
 |rngs s r=>
  simp only[Zs]at h;split at h
  ·rename_i t ht;cases h1:X8 st.m s<;>rw[h1]at h<;>simp only[cond_true,cond_false,reduceCtorEq,QO3]at h;subst h;exact⟨t,ht,h1,hK⟩
  ·cases h
 |nxts r=>
  simp only[Zs]at h;split at h
  ·rename_i l s hr;split at h
   ·rename_i t p hl;refine⟨l,s,t,p,hr,hl,fun e=>?_,fun e=>?_⟩
    ·have hb:Nat.blt p t.length=true:=by simp[Nat.blt_eq,e]
     rw[hb]at h;cases h;exact hK
    ·have hb:Nat.blt p t.length=false:=by
      cases hb:Nat.blt p t.length with
      |false=>rfl
      |true=>rw[Nat.blt_eq]at hb;omega
     rw[hb]at h;cases h;exact hK
   ·cases h
  ·cases h
 |mk site el sz bytes z l c=>
  simp only[Zs]at h;split at h
  ·rename_i kl n kc k hl hcc;cases h1:(Nat.ble n k&&Nat.ble k 9223372036854775807&&Nat.ble (bytes*k) 281474976710656&&Qi (Qd st.m 0 site))<;>rw[h1]at h<;>simp only[cond_true,cond_false,reduceCtorEq,QO3]at h;simp only[QO2]at h1;obtain⟨⟨⟨a1,a2⟩,a3⟩,a4⟩:=h1;subst h;exact⟨kl,kc,n,k,hl,hcc,QP8 a1,QP8 a2,QP8 a3,a4,hK⟩
  ·cases h
 |s2b site el r=>
  simp only[Zs]at h;split at h
  ·rename_i s hs;cases h1:(Nat.ble s.length 9223372036854775807&&Qi (Qd st.m 0 site))<;>rw[h1]at h<;>simp only[cond_true,cond_false,reduceCtorEq,QO3]at h;simp only[QO2]at h1;subst h;exact⟨s,hs,QP8 h1.1,h1.2,hK⟩
  ·cases h
 |dfr f args=>simp[Zs]at h

theorem MV {call:Wq}(hc:Wy P call){it:Item}{st st':St}(h:FR call it st=some st'){K:St→Prop}(hK:K st'):X6 P it st K:=by
 obtain⟨d,op,g⟩:=it;cases g with
 |none=>exact NH (d:=d) hc h hK
 |some p=>
  obtain⟨j,want⟩:=p;simp only[FR]at h;simp only[X6];split at h
  ·rename_i b hj;simp only[hj];cases hb:(b==want)with
   |true=>
    rw[hb]at h;have e:b=want:=by simpa using hb
    exact⟨fun _=>NH hc h hK,fun e'=>by rw[e]at e';cases want<;>cases e'⟩
   |false=>
    rw[hb]at h;simp only[cond_false,QO3]at h;subst h;exact⟨fun e=>by rw[e]at hb;simp at hb,fun _=>hK⟩
  ·rename_i hj;cases h;simp only[hj];exact⟨trivial,hK⟩
  ·cases h

theorem Hz {call:Wq}(hc:Wy P call):∀ {Qe:List Item} {st st':St},Gn call Qe st=some st'→∀ {K:St→Prop},K st'→QC P Qe st K
 | [],_,_,h,_,hK=>by cases h;exact hK
 |it :: Qe,st,st',h,K,hK=>by
  simp only[Gn]at h;split at h
  ·rename_i st1 h1;exact MV hc h1 (Hz hc h hK)
  ·cases h

theorem RF {rs:List RR}{n:Nat}{r:Option (Exit×St)}{v:AV}{m':Qh}(h:Gp rs n r=some (v,m')):∃e st,r=some (e,st)∧ZC rs n (fun x m1=>x=v∧m1=m') e st:=by
 have fin:∀ {e:Exit} {st:St},(e=.normal∨e=.ret)→Gp.fin rs n st=some (v,m')→ZC rs n (fun x m1=>x=v∧m1=m') e st:=by
  intro e st he h;unfold Gp.fin at h;split at h
  ·rename_i hds;split at h
   ·rename_i x hx;split at h
    ·rename_i y hy;split at h
     ·rename_i fr m hm;cases hb:Nat.beq m.length n with
      |false=>rw[hb]at h;cases h
      |true=>
       rw[hb]at h;simp only[cond_true,QO3,Prod.mk.injEq]at h;exact⟨he,hds,x,y,fr,m,hx,hy,hm,QOC hb,h.1,h.2⟩
     ·cases h
    ·cases h
   ·cases h
  ·cases h
 unfold Gp at h;split at h
 ·exact⟨_,_,rfl,fin (.inl rfl) h⟩
 ·exact⟨_,_,rfl,fin (.inr rfl) h⟩
 ·cases h

theorem Us {nat:Wq}(hN:Wy P nat)(hT:Fj P T){body:RC→St→Option (Exit×St)}(hb:∀c st e st',body c st=some (e,st')→∀Q:Exit→St→Prop,Q e st'→QJ P c st Q):Wy P (Ur nat T body):=by
 intro k args m v m' h;unfold Ur at h;split at h
 ·rename_i r hr;cases h;exact hN _ _ _ _ _ hr
 split at h
 ·rename_i c rs N hk;cases hN:Nat.ble args.length N with
  |false=>rw[hN]at h;cases h
  |true=>
   rw[hN]at h;simp only[cond_true]at h;obtain⟨e,st,h1,h2⟩:=RF h;obtain⟨fn,cd,a1,a2,a3,a4,a5,a6⟩:=hT k c rs N hk;exact Ue a1 a2 a3 a4 a5 a6 (QP8 hN) (hb _ _ _ _ h1 _ h2)
 ·cases h

theorem Qax {nat:Wq}(hN:Wy P nat)(hT:Fj P T):∀(n:Nat) (c:RC) (st:St) (e:Exit) (st':St),Jz nat T n c st=some (e,st')→∀Q:Exit→St→Prop,Q e st'→QJ P c st Q:=by
 intro n
 induction n using Nat.strongRecOn with
 |_ n ihs=>
 cases n with
 |zero=>intro c st e st' h;cases h
 |succ n=>
  intro c st e st' h Q hQ;have ih:=ihs n (Nat.lt_succ_self n);cases c with
  |skip=>cases h;exact hQ
  |reg Qe=>
   simp only[Jz]at h;split at h
   ·rename_i st1 h1;cases h;exact Hz (Us hN hT ih) h1 hQ
   ·cases h
  |draw Qe=>
   simp only[Jz]at h;split at h
   ·rename_i st1 h1;cases h;exact Hz (Us hN hT ih) h1 hQ
   ·cases h
  |seq a b=>
   simp only[Jz]at h;split at h
   ·rename_i st1 h1;exact ih _ _ _ _ h1 _ (ih _ _ _ _ h Q hQ)
   ·rename_i h1;refine ih _ _ _ _ h _ ?_;cases e with
    |normal=>exact absurd h (h1 st')
    |_=>exact hQ
  |cond c a b=>
   simp only[Jz]at h;split at h
   ·rename_i t ht;cases t with
    |true=>exact⟨true,ht,fun _=>ih _ _ _ _ h Q hQ,(fun e=>by cases e)⟩
    |false=>exact⟨false,ht,(fun e=>by cases e),fun _=>ih _ _ _ _ h Q hQ⟩
   ·cases h
  |block id a=>
   simp only[Jz]at h;split at h
   ·rename_i i st1 h1;refine ih _ _ _ _ h1 _ ?_;show if i=id then Q .normal st1 else Q (.exit i) st1
    split at h
    ·rename_i hi;cases h;rw[QO9 hi];exact hQ
    ·rename_i hi;cases h;rw[QOS hi];exact hQ
   ·rename_i h1;refine ih _ _ _ _ h _ ?_;cases e with
    |exit i=>exact absurd h (h1 i st')
    |_=>exact hQ
  |loop a=>
   refine⟨fun k s=>k≤n∧Jz nat T (k+1) (.loop a) s=some (e,st'),n,⟨QOE _,h⟩,fun k s hh=>?_⟩;obtain⟨hk,hs⟩:=hh;simp only[Jz]at hs;split at hs
   ·rename_i st1 h1;refine ihs k (by omega) _ _ _ _ h1 _ ?_;show ∃j,j<k∧j≤n∧Jz nat T (j+1) (.loop a) st1=some (e,st');cases k with
    |zero=>cases h1
    |succ j=>exact⟨j,Nat.lt_succ_self j,by omega,hs⟩
   ·rename_i h1;refine ihs k (by omega) _ _ _ _ hs _ ?_;cases e with
    |normal=>exact absurd hs (h1 st')
    |_=>exact hQ
  |exit id=>cases h;exact hQ
  |scope a=>
   simp only[Jz]at h;split at h
   ·cases h
   ·rename_i h1;refine ih _ _ _ _ h _ ?_;cases e with
    |goto i=>exact absurd h (h1 i st')
    |_=>exact hQ
  |lab=>cases h;exact hQ
  |ret=>cases h;exact hQ
  |gho g a=>
   simp only[Jz]at h;split at h
   ·rename_i st1 h1;exact⟨st1,h1,ih _ _ _ _ h Q hQ⟩
   ·cases h
  |no=>cases h

def evT (nat:Wq)(T:NG)(n:Nat)(k:FuncId)(args:List AV):Bool :=
 match Ur nat T (Jz nat T n) k args []with
 |some (.bool true,_)=>true
 |_=>false

theorem V5 {nat:Wq}(hN:Wy P nat)(hT:Fj P T){n:Nat}{k:FuncId}{args:List AV}(h:evT nat T n k args=true):Qj P k args (.bool true):=by
 unfold evT at h;split at h
 ·rename_i m' h1;exact(Us hN hT (Qax hN hT n) _ _ _ _ _ h1).mono fun _ _ e=>e.1
 ·cases h

end

set_option linter.defProp false in
def Qb:=(QQj (QQj (QQj (QQj (QQj (QQj (QQj (QQj @Am.YP @Am.YO) (QQj @Am.Ms @Am.Kx)) (QQj (QQj @Am.Z3 @Am.Mv) (QQj @Am.Mw (QQj @Am.NC @Am.ND)))) (QQj (QQj (QQj @Am.Yv @Am.SG) (QQj @Am.SH @Am.Mr)) (QQj (QQj @Am.Mx @Am.Gj) (QQj @Am.My (QQj @Am.Mz @Am.MA))))) (QQj (QQj (QQj (QQj @Am.MB @Am.MD) (QQj @Am.ME @Am.MF)) (QQj (QQj @Am.Wb @Am.Mu) (QQj @Am.SI (QQj @Am.DN @Am.Uo)))) (QQj (QQj (QQj @Am.e_f @Am.Kz) (QQj @Am.Z4 @Am.Ky)) (QQj (QQj @Am.KA @Am.Hg) (QQj @Am.KU (QQj @Am.FL @Am.DL)))))) (QQj (QQj (QQj (QQj (QQj @Am.W9 @Am.FM) (QQj @Am.Gk @Am.Gl)) (QQj (QQj @Am.DM @Am.YQ) (QQj @Am.KT (QQj @Am.FN @Am.FO)))) (QQj (QQj (QQj @Am.Jx @Am.Qn.eq_1) (QQj @Am.Qn.eq_2 @Am.Qn.eq_3)) (QQj (QQj @Am.Qn.eq_4 @Am.Qn.eq_5) (QQj @Am.Qn.eq_6 (QQj @Am.Qn.eq_7 @Am.Qn.eq_8))))) (QQj (QQj (QQj (QQj @Am.Qn.eq_9 @Am.Qn.eq_10) (QQj @Am.Qn.eq_11 @Am.Qn.eq_12)) (QQj (QQj @Am.Qn.eq_13 @Am.Qn.eq_14) (QQj @Am.Qn.eq_15 (QQj @Am.Qn.eq_16 @Am.Qn.eq_17)))) (QQj (QQj (QQj @Am.Qn.eq_18 @Am.Qn.eq_19) (QQj @Am.Qn.eq_20 @Am.Qn.eq_21)) (QQj (QQj @Am.Qn.eq_22 @Am.Qn.eq_23) (QQj @Am.Qn.eq_24 (QQj @Am.Qn.eq_25 @Am.Qn.eq_26))))))) (QQj (QQj (QQj (QQj (QQj (QQj @Am.Qn.eq_27 @Am.Qn.eq_28) (QQj @Am.Qn.eq_29 @Am.Qn.eq_1)) (QQj (QQj @Am.Qn.eq_1 @Am.Qn.eq_1) (QQj @Am.Qn.eq_1 (QQj @Am.Qn.eq_1 @Am.Qn.eq_1)))) (QQj (QQj (QQj @Am.QZ.eq_1 @Am.QZ.eq_2) (QQj @Am.QZ.eq_3 @Am.QZ.eq_4)) (QQj (QQj @Am.QZ.eq_5 @Am.QZ.eq_6) (QQj @Am.QZ.eq_7 (QQj @Am.QZ.eq_8 @Am.QZ.eq_9))))) (QQj (QQj (QQj (QQj @Am.QZ.eq_10 @Am.QZ.eq_11) (QQj @Am.QZ.eq_12 @Am.QZ.eq_13)) (QQj (QQj @Am.QZ.eq_14 @Am.QZ.eq_15) (QQj @Am.QZ.eq_16 (QQj @Am.QZ.eq_17 @Am.Xb.eq_1)))) (QQj (QQj (QQj @Am.Xb.eq_2 @Am.Xb.eq_3) (QQj @Am.Xb.eq_4 @Am.Xb.eq_5)) (QQj (QQj @Am.Xb.eq_6 @Am.Xb.eq_7) (QQj @Am.Xb.eq_8 (QQj @Am.Xb.eq_9 @Am.Xb.eq_10)))))) (QQj (QQj (QQj (QQj (QQj @Am.Xb.eq_11 @Am.Xb.eq_12) (QQj @Am.Xb.eq_13 @Am.Xb.eq_14)) (QQj (QQj @Am.Xb.eq_15 @Am.Xb.eq_16) (QQj @Am.Uh.eq_1 (QQj @Am.Uh.eq_2 @Am.Uh.eq_3)))) (QQj (QQj (QQj @Am.Uh.eq_4 @cond_true.{0}) (QQj @cond_true.{1} @cond_false.{0})) (QQj (QQj @cond_false.{1} @true_and) (QQj @and_true (QQj @QPH.{0} @QPL.{0}))))) (QQj (QQj (QQj (QQj @List.getElem?_nil.{0} @QPP.{0}) (QQj @QQh.{0} @Am.St.enter.eq_1)) (QQj (QQj @Am.Fu.eq_1 @Am.AV.shL.eq_1) (QQj @Am.AV.shL.eq_2 (QQj @Am.AV.sh.eq_1 @Am.AV.sh.eq_2)))) (QQj (QQj (QQj @Am.AV.sh.eq_3 @Am.AV.sh.eq_4) (QQj @Am.AV.sh.eq_5 @Am.AV.sh.eq_6)) (QQj (QQj @Am.AV.sh.eq_7 @Am.AV.sh.eq_8) (QQj @Am.AV.sh.eq_9 (QQj @Am.KR.eq_1 @Am.KR.eq_2)))))))) (QQj (QQj (QQj (QQj (QQj (QQj (QQj @Am.RR.ev.eq_1 @Am.RR.ev.eq_2) (QQj @Am.RR.evL.eq_1 @Am.RR.evL.eq_2)) (QQj (QQj @Am.Ww.eq_1 @Am.AV.still.eq_1) (QQj @Am.AV.still.eq_2 (QQj @Am.AV.still.eq_3 @Am.AV.still.eq_4)))) (QQj (QQj (QQj @Am.AV.still.eq_5 @Am.AV.still.eq_6) (QQj @Am.AV.still.eq_7 @Am.AV.still.eq_8)) (QQj (QQj @Am.AV.stillL.eq_1 @Am.AV.stillL.eq_2) (QQj @Am.AV.un.eq_1 (QQj @Am.AV.un.eq_2 @Am.AV.un.eq_3))))) (QQj (QQj (QQj (QQj @Am.AV.un.eq_4 @Am.AV.un.eq_5) (QQj @Am.AV.un.eq_6 @Am.AV.un.eq_7)) (QQj (QQj @Am.AV.un.eq_8 @Am.AV.un.eq_9) (QQj @Am.AV.un.eq_10 (QQj @Am.AV.un.eq_11 @Am.AV.un.eq_12)))) (QQj (QQj (QQj @Am.AV.un.eq_13 @Am.AV.unL.eq_1) (QQj @Am.AV.unL.eq_2 @Option.bind_some.{0,0})) (QQj (QQj @QPw.{0,0} @if_true.{0}) (QQj @if_true.{1} (QQj @if_false.{0} @if_false.{1})))))) (QQj (QQj (QQj (QQj (QQj @QOX @Go.IntKind.bits.eq_1) (QQj @Go.IntKind.bits.eq_2 @Go.IntKind.bits.eq_3)) (QQj (QQj @Go.IntKind.bits.eq_4 @Go.IntKind.bits.eq_5) (QQj @Go.IntKind.bits.eq_6 (QQj @Go.IntKind.bits.eq_7 @Go.IntKind.bits.eq_8)))) (QQj (QQj (QQj @QPA.{0} @QOT.{0}) (QQj @QQk @QPS)) (QQj (QQj @forall_const.{1} @not_true_eq_false) (QQj @not_false_eq_true (QQj @Am.NF @QQl))))) (QQj (QQj (QQj (QQj @QPM @Am.Wk.eq_1) (QQj @ne_eq.{1} @Nat.one_ne_zero)) (QQj (QQj @decide_true @decide_false) (QQj @Am.AR (QQj @Am.Ry @Am.Qas)))) (QQj (QQj (QQj @Am.Rz @Am.Qat) (QQj @Am.Qar @Am.Qtg)) (QQj (QQj @Am.X8.eq_1 @Am.AV.unNL.eq_1) (QQj @Am.AV.unNL.eq_2 (QQj @Am.AV.unNL_zero @Am.AV.shNL.eq_1))))))) (QQj (QQj (QQj (QQj (QQj (QQj @Am.AV.shNL.eq_2 @Am.AV.shN.eq_1) (QQj @Am.AV.shN.eq_2 @Am.splice.eq_1)) (QQj (QQj @Am.part.eq_1 @Am.part.eq_2) (QQj @Am.fill.eq_1 (QQj @Am.fill.eq_2 @Am.AV.leaf.eq_1)))) (QQj (QQj (QQj @Am.AV.leaf.eq_2 @Am.AV.leaf.eq_3) (QQj @Am.AV.leaf.eq_4 @QPQ.{0})) (QQj (QQj @QPR.{0} @QPd.{0}) (QQj @QPN.{0} (QQj @List.take_nil.{0} @QPg.{0}))))) (QQj (QQj (QQj (QQj @QPn.{0} @QPT.{0}) (QQj @QO1.{0} @QO0.{0})) (QQj (QQj @QPI.{0} @Am.QD.eq_1) (QQj @and_self (QQj @Am.Jq.eq_1 @Am.Jq.eq_2)))) (QQj (QQj (QQj @Am.Jq.eq_3 @Am.Jq.eq_4) (QQj @Am.Jq.eq_5 @Am.Jq.eq_6)) (QQj (QQj @Am.Jh.eq_1 @Am.Jh.eq_2) (QQj @Am.Xh.eq_1 (QQj @Am.Xh.eq_2 @Am.Xh.eq_3)))))) (QQj (QQj (QQj (QQj (QQj @Am.Xh.eq_4 @Am.Xh.eq_5) (QQj @Am.Xh.eq_6 @Am.Xh.eq_7)) (QQj (QQj @Am.U9.eq_1 @Am.U9.eq_2) (QQj @Am.U9.eq_3 (QQj @Am.H1.eq_1 @Am.H1.eq_2)))) (QQj (QQj (QQj @Am.H1.eq_3 @Am.H1.eq_4) (QQj @Am.QFB @Am.MJ)) (QQj (QQj @Am.MK @Am.ML) (QQj @Am.VT (QQj @Am.MM @Am.VU))))) (QQj (QQj (QQj (QQj @Am.VV @Am.VW) (QQj @Am.VX @Am.VY)) (QQj (QQj @Am.MN @Am.MO) (QQj @Am.MP (QQj @Am.MQ @Am.VZ)))) (QQj (QQj (QQj @Am.MS @Am.V0) (QQj @Am.Nn @Am.MT)) (QQj (QQj @Am.V1 @Am.Hf) (QQj @Am.No (QQj @Am.V2 @QPG.{0,0})))))))))

set_option linter.defProp false in
def MX:=(QQj (QQj (QQj @Am.Q6.eq_1 (QQj @Am.Q6.eq_2 @Am.Q6.eq_3)) (QQj (QQj @Am.Q3.eq_1 @Am.Q3.eq_2) (QQj @Am.Q3.eq_3 @Am.Q3.eq_4))) (QQj (QQj (QQj @Am.Qd.eq_1 @Am.Qd.eq_2) (QQj @Am.Qd.eq_3 @Am.put.eq_1)) (QQj (QQj @Am.put.eq_2 @Am.put.eq_3) (QQj @Am.AV.cells.eq_1 @Am.AV.cells.eq_2))))

set_option linter.defProp false in
def eE := QQj Qb MX

set_option linter.defProp false in
def Zp:=(QQj (QQj (QQj (QQj (QQj (QQj (QQj @Am.YP (QQj @Am.YO @Am.Ms)) (QQj @Am.Kx (QQj @Am.Z3 @Am.Mv))) (QQj (QQj @Am.Mw (QQj @Am.NC @Am.ND)) (QQj @Am.Yv (QQj @Am.SG @Am.SH)))) (QQj (QQj (QQj @Am.Mr (QQj @Am.Mx @Am.Gj)) (QQj @Am.My (QQj @Am.Mz @Am.MA))) (QQj (QQj @Am.MB (QQj @Am.MD @Am.ME)) (QQj @Am.MF (QQj @Am.Wb @Am.Mu))))) (QQj (QQj (QQj (QQj @Am.SI (QQj @Am.DN @Am.Uo)) (QQj @Am.e_f (QQj @Am.Kz @Am.Z4))) (QQj (QQj @Am.Ky (QQj @Am.KA @Am.Hg)) (QQj @Am.KU (QQj @Am.FL @Am.DL)))) (QQj (QQj (QQj @Am.W9 (QQj @Am.FM @Am.Gk)) (QQj @Am.Gl (QQj @Am.DM @Am.YQ))) (QQj (QQj @Am.KT (QQj @Am.FN @Am.FO)) (QQj (QQj @Am.Jx @Am.Qn.eq_1) (QQj @Am.Qn.eq_2 @Am.Qn.eq_3)))))) (QQj (QQj (QQj (QQj (QQj @Am.Qn.eq_4 (QQj @Am.Qn.eq_5 @Am.Qn.eq_6)) (QQj @Am.Qn.eq_7 (QQj @Am.Qn.eq_8 @Am.Qn.eq_9))) (QQj (QQj @Am.Qn.eq_10 (QQj @Am.Qn.eq_11 @Am.Qn.eq_12)) (QQj @Am.Qn.eq_13 (QQj @Am.Qn.eq_14 @Am.Qn.eq_15)))) (QQj (QQj (QQj @Am.Qn.eq_16 (QQj @Am.Qn.eq_17 @Am.Qn.eq_18)) (QQj @Am.Qn.eq_19 (QQj @Am.Qn.eq_20 @Am.Qn.eq_21))) (QQj (QQj @Am.Qn.eq_22 (QQj @Am.Qn.eq_23 @Am.Qn.eq_24)) (QQj @Am.Qn.eq_25 (QQj @Am.Qn.eq_26 @Am.Qn.eq_27))))) (QQj (QQj (QQj (QQj @Am.Qn.eq_28 (QQj @Am.Qn.eq_29 @Am.Qn.eq_1)) (QQj @Am.Qn.eq_1 (QQj @Am.Qn.eq_1 @Am.Qn.eq_1))) (QQj (QQj @Am.Qn.eq_1 (QQj @Am.Qn.eq_1 @Am.QZ.eq_1)) (QQj @Am.QZ.eq_2 (QQj @Am.QZ.eq_3 @Am.QZ.eq_4)))) (QQj (QQj (QQj @Am.QZ.eq_5 (QQj @Am.QZ.eq_6 @Am.QZ.eq_7)) (QQj @Am.QZ.eq_8 (QQj @Am.QZ.eq_9 @Am.QZ.eq_10))) (QQj (QQj @Am.QZ.eq_11 (QQj @Am.QZ.eq_12 @Am.QZ.eq_13)) (QQj (QQj @Am.QZ.eq_14 @Am.QZ.eq_15) (QQj @Am.QZ.eq_16 @Am.QZ.eq_17))))))) (QQj (QQj (QQj (QQj (QQj (QQj @Am.Xb.eq_1 (QQj @Am.Xb.eq_2 @Am.Xb.eq_3)) (QQj @Am.Xb.eq_4 (QQj @Am.Xb.eq_5 @Am.Xb.eq_6))) (QQj (QQj @Am.Xb.eq_7 (QQj @Am.Xb.eq_8 @Am.Xb.eq_9)) (QQj @Am.Xb.eq_10 (QQj @Am.Xb.eq_11 @Am.Xb.eq_12)))) (QQj (QQj (QQj @Am.Xb.eq_13 (QQj @Am.Xb.eq_14 @Am.Xb.eq_15)) (QQj @Am.Xb.eq_16 (QQj @Am.Uh.eq_1 @Am.Uh.eq_2))) (QQj (QQj @Am.Uh.eq_3 (QQj @Am.Uh.eq_4 @cond_true.{0})) (QQj @cond_true.{1} (QQj @cond_false.{0} @cond_false.{1}))))) (QQj (QQj (QQj (QQj @true_and (QQj @and_true @QPH.{0})) (QQj @QPL.{0} (QQj @List.getElem?_nil.{0} @QPP.{0}))) (QQj (QQj @QQh.{0} (QQj @Am.St.enter.eq_1 @Am.Fu.eq_1)) (QQj @Am.AV.shL.eq_1 (QQj @Am.AV.shL.eq_2 @Am.AV.sh.eq_1)))) (QQj (QQj (QQj @Am.AV.sh.eq_2 (QQj @Am.AV.sh.eq_3 @Am.AV.sh.eq_4)) (QQj @Am.AV.sh.eq_5 (QQj @Am.AV.sh.eq_6 @Am.AV.sh.eq_7))) (QQj (QQj @Am.AV.sh.eq_8 (QQj @Am.AV.sh.eq_9 @Am.KR.eq_1)) (QQj (QQj @Am.KR.eq_2 @Am.RR.ev.eq_1) (QQj @Am.RR.ev.eq_2 @Am.RR.evL.eq_1)))))) (QQj (QQj (QQj (QQj (QQj @Am.RR.evL.eq_2 (QQj @Am.Ww.eq_1 @Am.AV.still.eq_1)) (QQj @Am.AV.still.eq_2 (QQj @Am.AV.still.eq_3 @Am.AV.still.eq_4))) (QQj (QQj @Am.AV.still.eq_5 (QQj @Am.AV.still.eq_6 @Am.AV.still.eq_7)) (QQj @Am.AV.still.eq_8 (QQj @Am.AV.stillL.eq_1 @Am.AV.stillL.eq_2)))) (QQj (QQj (QQj @Am.AV.un.eq_1 (QQj @Am.AV.un.eq_2 @Am.AV.un.eq_3)) (QQj @Am.AV.un.eq_4 (QQj @Am.AV.un.eq_5 @Am.AV.un.eq_6))) (QQj (QQj @Am.AV.un.eq_7 (QQj @Am.AV.un.eq_8 @Am.AV.un.eq_9)) (QQj @Am.AV.un.eq_10 (QQj @Am.AV.un.eq_11 @Am.AV.un.eq_12))))) (QQj (QQj (QQj (QQj @Am.AV.un.eq_13 (QQj @Am.AV.unL.eq_1 @Am.AV.unL.eq_2)) (QQj @Option.bind_some.{0,0} (QQj @QPw.{0,0} @if_true.{0}))) (QQj (QQj @if_true.{1} (QQj @if_false.{0} @if_false.{1})) (QQj @QOX (QQj @Go.IntKind.bits.eq_1 @Go.IntKind.bits.eq_2)))) (QQj (QQj (QQj @Go.IntKind.bits.eq_3 (QQj @Go.IntKind.bits.eq_4 @Go.IntKind.bits.eq_5)) (QQj @Go.IntKind.bits.eq_6 (QQj @Go.IntKind.bits.eq_7 @Go.IntKind.bits.eq_8))) (QQj (QQj @QPA.{0} (QQj @QOT.{0} @QQk)) (QQj (QQj @QPS @forall_const.{1}) (QQj @not_true_eq_false @not_false_eq_true))))))))

end Go.Proofs.YtfgchfdkiomfpaaGreat.Am

namespace Go.Proofs.YtfgchfdkiomfpaaGreat.Rc
open Go Am
abbrev ja (a b:Nat):Am.Item:=⟨some a,.val (.mov (.t b)),none⟩
abbrev jb (a b c:Nat):Am.Item:=⟨some a,.val (.faddr b (.t c)),none⟩
abbrev jc (a:Nat)(b:Int):Am.Item:=⟨some a,.val (.mov (.c (.int .i64 b))),none⟩
abbrev jd (a b c:Nat):Am.Item:=⟨some a,.val (.load (some b) (.t c)),none⟩
abbrev je (a b:Nat):Am.Item:=⟨some a,.val (.load none (.t b)),none⟩
abbrev jf (a b c:Nat):Am.Item:=⟨none,.store a (.t b) (.t c),none⟩
abbrev jg (a b c:Nat):Am.Item:=⟨some a,.val (.ext (.t b) c),none⟩
abbrev jh (a b c:Nat):Am.Item:=⟨some a,.boxN b (.t c),none⟩
abbrev ji (a b c d e:Nat):Am.Item:=⟨some a,.val (.loadv b c (some d) (.t e)),none⟩
abbrev jj (a b c d e:Nat):Am.Item:=⟨none,.storev a b c (.t d) (.t e),none⟩
abbrev jk (a b c:Nat):Am.Item:=⟨some a,.val (.mov (.t b)),some (c,true)⟩
abbrev jl (a b c:Nat):Am.Item:=⟨some a,.call (.f b) [(.t c)],none⟩
abbrev jm (a b c:Nat):Am.Item:=⟨some a,.val (.pick (.t b) (.t c) (.c (.bool false))),none⟩
abbrev jn (a b:Nat)(c:Int):Am.Item:=⟨some a,.val (.bin .num .eql (.t b) (.c (.int .i64 c))),none⟩
abbrev jo (a b c d:Nat):Am.Item:=⟨some a,.val (.faddr b (.t c)),some (d,true)⟩
abbrev jp (a b c:Nat):Am.Item:=⟨some a,.val (.len b (.t c)),none⟩
abbrev jq (a:Nat):Am.Item:=⟨some a,.val (.mov (.c (.bool false))),none⟩
abbrev jr (a b c d:Nat):Am.Item:=⟨some a,.val (.iaddr b none (.t c) (.t d)),none⟩
abbrev js (a b:Nat)(c:Int):Am.Item:=⟨some a,.val (.bin .num .neq (.t b) (.c (.int .i64 c))),none⟩
abbrev jt (a b:Nat):Am.Item:=⟨some a,.allocN b [.int .i64 0,.int .u64 0,.str [],.nils,.nils,.nils,.nils],none⟩
abbrev ju (a b c d:Nat):Am.Item:=⟨some a,.call (.f b) [(.t c),(.t d)],none⟩
abbrev jv (a b c:Nat):Am.Item:=⟨some a,.val (.bin .num .lss (.t b) (.t c)),none⟩
abbrev jw (a b:Nat)(c:Int):Am.Item:=⟨some a,.val (.bin .num .add (.t b) (.c (.int .i64 c))),none⟩
abbrev jx (a b c:Nat):Am.Item:=⟨some a,.val (.load none (.t b)),some (c,true)⟩
abbrev jy (a b:Nat):Am.Item:=⟨some a,.allocN b [.str [],.int .i64 0,.int .i64 0,.int .i64 0,.int .i64 0,.int .i64 0],none⟩
abbrev jz (a b c d:Nat):Am.Item:=⟨some a,.val (.faddr b (.t c)),some (d,false)⟩
abbrev ya (a b c:Nat):Am.Item:=⟨some a,.val (.pick (.t b) (.c (.bool true)) (.t c)),none⟩
abbrev yb (a b c:Nat):Am.Item:=⟨some a,.val (.load none (.t b)),some (c,false)⟩
abbrev yc (a b c:Nat):Am.Item:=⟨some a,.val (.mov (.t b)),some (c,false)⟩
abbrev yd (a b:Nat):Am.Item:=⟨some a,.val (.un .not (.t b)),none⟩
abbrev ye (a b c d e:Nat):Am.Item:=⟨some a,.val (.iaddr b none (.t c) (.t d)),some (e,true)⟩
abbrev yf (a b:Nat):Am.Item:=⟨some a,.val (.nilck (.t b)),none⟩
abbrev yg (a b c d:Nat):Am.Item:=⟨some a,.val (.loadv b c none (.t d)),none⟩
abbrev yh (a:Nat):Am.Item:=⟨some a,.val (.build [.int .i64 0,.int .u64 0,.str [],.nils,.nils,.nils,.nils] []),none⟩
abbrev yi (a:Nat):Am.Item:=⟨some a,.val (.mov (.c (.bool true))),none⟩
abbrev yj (a b c d e f:Nat):Am.Item:=⟨some a,.app b c d (.t e) (.t f),none⟩
abbrev yk (a b c:Nat):Am.Item:=⟨some a,.val (.bin .num .add (.t b) (.t c)),none⟩
abbrev yl (a:Nat)(b:Int):Am.Item:=⟨some a,.val (.mov (.c (.int .u64 b))),none⟩
abbrev ym (a b:Nat)(c:Int):Am.Item:=⟨some a,.val (.bin .num .lss (.t b) (.c (.int .i64 c))),none⟩
abbrev yn (a b c:Nat):Am.Item:=⟨some a,.val (.loadr (some b) (.t c)),none⟩
abbrev yo (a b:Nat)(c:Int)(d:Nat):Am.Item:=⟨some a,.val (.bin .num .eql (.t b) (.c (.int .i64 c))),some (d,true)⟩
abbrev yp (a b c d e:Nat):Am.Item:=⟨some a,.call (.f b) [(.t c),(.t d),(.t e)],none⟩
abbrev yq (a b c d:Nat):Am.Item:=⟨some a,.val (.len b (.t c)),some (d,true)⟩
abbrev yr (a b c:Nat):Am.Item:=⟨some a,.val (.bin .num .gtr (.t b) (.t c)),none⟩
abbrev ys (a:Nat):Am.Item:=⟨some a,.val (.mov (.c (.str []))),none⟩
abbrev yt (a b c:Nat):Am.Item:=⟨some a,.val (.loadr none (.t b)),some (c,true)⟩
abbrev yu (a b:Nat)(c:Int)(d:Nat):Am.Item:=⟨some a,.val (.bin .num .eql (.t b) (.c (.int .i64 c))),some (d,false)⟩
abbrev yv (a b:Nat):Am.Item:=⟨some a,.val (.cvi .i64 (.t b)),none⟩
abbrev yw (a:Nat):Am.Item:=⟨some a,.val (.mov (.c (.nils))),none⟩
abbrev yx (a b c:Nat):Am.Item:=⟨some a,.val (.bin .num .neq (.t b) (.t c)),none⟩
abbrev yy (a b c d:Nat):Am.Item:=⟨some a,.val (.load (some b) (.t c)),some (d,true)⟩
abbrev yz (a b:Nat)(c:Int)(d:Nat):Am.Item:=⟨some a,.val (.bin .num .leq (.t b) (.c (.int .i64 c))),some (d,true)⟩
abbrev za (a b c d:Nat):Am.Item:=⟨some a,.call (.f b) [(.t c)],some (d,true)⟩
abbrev zb (a b c d e f:Nat):Am.Item:=⟨some a,.call (.f b) [(.t c),(.t d),(.t e),(.t f)],none⟩
abbrev WR (a b:Nat)(c:Int):Am.Item:=⟨some a,.val (.bin .num .sub (.t b) (.c (.int .i64 c))),none⟩
abbrev zd (a b:Nat):Am.Item:=⟨some a,.allocN b [.int .i64 0,.str [],.str [],.int .i64 0,.int .i64 0,.int .i64 0,.int .i64 0,.int .i64 0],none⟩
abbrev ze (a b:Nat):Am.Item:=⟨some a,.allocN b [.int .i64 0,.int .i64 0,.int .u64 0,.str []],none⟩
abbrev zf (a b c d:Nat):Am.Item:=⟨some a,.val (.pick (.t b) (.c (.bool true)) (.t c)),some (d,true)⟩
abbrev zg (a b:Nat)(c:Int):Am.Item:=⟨some a,.val (.bin .num .geq (.t b) (.c (.int .i64 c))),none⟩
abbrev zh (a b c:Nat):Am.Item:=⟨some a,.val (.bin .num .eql (.t b) (.t c)),none⟩
abbrev zi (a b:Nat)(c:Int):Am.Item:=⟨some a,.val (.bin .num .gtr (.t b) (.c (.int .i64 c))),none⟩
abbrev zj (a b c:Nat)(d:Int):Am.Item:=⟨some a,.call (.f b) [(.t c),(.c (.int .i64 d))],none⟩
abbrev zk (a b c d e:Nat):Am.Item:=⟨some a,.val (.loadv b c none (.t d)),some (e,true)⟩
abbrev zl (a b c d e f g:Nat):Am.Item:=⟨some a,.call (.f b) [(.t c),(.t d),(.t e),(.t f),(.t g)],none⟩
abbrev zm (a b c d:Nat):Am.Item:=⟨some a,.val (.len b (.t c)),some (d,false)⟩
abbrev zn (a b:Nat)(c:Int):Am.Item:=⟨some a,.val (.bin .num .eql (.t b) (.c (.int .u64 c))),none⟩
abbrev zo (a b c d e:Nat):Am.Item:=⟨some a,.val (.iaddr b none (.t c) (.t d)),some (e,false)⟩
abbrev zp (a b:Nat):Am.Item:=⟨some a,.val (.cvi .u64 (.t b)),none⟩
abbrev zq (a b:Nat)(c:Int)(d:Nat):Am.Item:=⟨some a,.val (.bin .num .add (.t b) (.c (.int .i64 c))),some (d,true)⟩
abbrev Hh (a b:Nat)(c:Int)(d:Nat):Am.Item:=⟨some a,.val (.bin .num .lss (.t b) (.c (.int .i64 c))),some (d,false)⟩
abbrev zs (a b c d:Nat):Am.Item:=⟨some a,.call (.f b) [(.t c)],some (d,false)⟩
abbrev zt (a b c:Nat):Am.Item:=⟨some a,.val (.un .not (.t b)),some (c,true)⟩
abbrev zu (a b c d e:Nat):Am.Item:=⟨some a,.val (.loadv b c none (.t d)),some (e,false)⟩
abbrev zv (a b c d:Nat):Am.Item:=⟨some a,.val (.loadr (some b) (.t c)),some (d,true)⟩
abbrev zw (a b c:Nat):Am.Item:=⟨some a,.val (.idx (.t b) (.t c)),none⟩
abbrev zx (a b c:Nat):Am.Item:=⟨some a,.bsl0 b c,none⟩
abbrev zy (a b c d:Nat):Am.Item:=⟨some a,.callG (.f b) [(.t c),(.t d)],none⟩
abbrev zz (a b:Nat)(c:Int)(d:Nat):Am.Item:=⟨some a,.val (.bin .num .gtr (.t b) (.c (.int .i64 c))),some (d,false)⟩
abbrev DO (a b c d:Nat):Am.Item:=⟨some a,.val (.bin .num .lss (.t b) (.t c)),some (d,true)⟩
abbrev DP (a b c d e:Nat):Am.Item:=⟨some a,.call (.f b) [(.t c),(.t d)],some (e,true)⟩
abbrev FS (a b c:Nat):Am.Item:=⟨some a,.val (.un .not (.t b)),some (c,false)⟩
abbrev FT (a b c d e f:Nat):Am.Item:=⟨some a,.bsl b c [.int .i64 0,.int .i64 0,.int .u64 0,.str [],.nils,.nils,.nils,.nils] [(d,e,(.t f))],none⟩
abbrev FU (a b:Nat)(c:Int):Am.Item:=⟨some a,.val (.bin .num .rem (.t b) (.c (.int .u64 c))),none⟩
abbrev NI (a b c d:Nat):Am.Item:=⟨some a,.val (.pick (.t b) (.t c) (.c (.bool false))),some (d,false)⟩
abbrev FV (a b:Nat)(c:Int)(d:Nat):Am.Item:=⟨some a,.val (.bin .num .sub (.t b) (.c (.int .i64 c))),some (d,true)⟩
abbrev FX (a b c d:Nat):Am.Item:=⟨some a,.val (.bin .num .leq (.t b) (.t c)),some (d,true)⟩
abbrev FY (a:Nat):Am.Item:=⟨some a,.val (.build [.int .i64 0,.int .i64 0,.int .u64 0,.str []] []),none⟩
abbrev FZ (a b c d:Nat)(e:Int)(f:Nat):Am.Item:=⟨some a,.call (.f b) [(.t c),(.t d),(.c (.int .i64 e))],some (f,true)⟩
abbrev NJ (a:Nat):Am.Item:=⟨some a,.val (.build [.int .i64 0,.int .u64 0,.str [],.nils,.nils,.nils,.nils] [(0,1,(.c (.int .i64 10)))]),none⟩
abbrev NK (a b c d:Nat):Am.Item:=⟨some a,.val (.load (some b) (.t c)),some (d,false)⟩
abbrev NL (a b c:Nat):Am.Item:=⟨some a,.val (.bin .num .leq (.t b) (.t c)),none⟩
abbrev NM (a:Nat)(b:Int)(c:Nat):Am.Item:=⟨some a,.val (.bin .num .mul (.c (.int .i64 b)) (.t c)),none⟩
abbrev NN (a b:Nat)(c:Int):Am.Item:=⟨some a,.val (.bin .num .quo (.t b) (.c (.int .u64 c))),none⟩
abbrev NO (a b:Nat)(c:Int):Am.Item:=⟨some a,.val (.bin .num .lss (.t b) (.c (.int .u64 c))),none⟩
abbrev NP (a b c d e f:Nat):Am.Item:=⟨some a,.callG (.f b) [(.t c),(.t d),(.t e),(.t f)],none⟩
abbrev NQ (a b c:Nat):Am.Item:=⟨some a,.val (.loadr none (.t b)),some (c,false)⟩
abbrev NR (a b c d:Nat):Am.Item:=⟨some a,.val (.bin .num .neq (.t b) (.t c)),some (d,false)⟩
abbrev SJ (a b c d e f:Nat):Am.Item:=⟨some a,.bsl b c [.int .i64 0,.int .u64 0,.str [],.nils,.nils,.nils,.nils] [(d,e,(.t f))],none⟩
abbrev MY (a b:Nat):Am.Item:=⟨some a,.allocN b [.int .i64 0,.int .u64 0,.str [],.nils,.nils,.nils,.nils,.int .i64 0,.int .u64 0,.str [],.nils,.nils,.nils,.nils],none⟩
abbrev NS (a b:Nat)(c:Int)(d:Nat):Am.Item:=⟨some a,.val (.bin .num .geq (.t b) (.c (.int .i64 c))),some (d,true)⟩
abbrev NT (a b c d:Nat):Am.Item:=⟨some a,.val (.slc none (.t b) (some (.t c)) (some (.t d)) none),none⟩
abbrev MZ (a b c d:Nat):Am.Item:=⟨some a,.callF (.f b) [(.t c),(.t d)],none⟩
abbrev M0 (a b c d e f:Nat):Am.Item:=⟨some a,.bsl b c [.int .i64 0,.int .u64 0,.str [],.nils,.nils,.nils,.nils,.int .i64 0,.int .u64 0,.str [],.nils,.nils,.nils,.nils] [(d,e,(.t f))],none⟩
abbrev M1 (a b c d e f g:Nat):Am.Item:=⟨some a,.val (.build [.int .i64 0,.int .i64 0,.int .u64 0,.str []] [(b,c,(.t d)),(e,f,(.t g))]),none⟩
abbrev M2 (a b c d:Nat):Am.Item:=⟨some a,.val (.build [.int .i64 0,.int .u64 0,.str [],.nils,.nils,.nils,.nils] [(b,c,(.t d))]),none⟩
abbrev M3 (a b:Nat)(c:Int)(d:Nat):Am.Item:=⟨some a,.val (.bin .num .neq (.t b) (.c (.int .i64 c))),some (d,true)⟩
abbrev M4 (a b c d:Nat):Am.Item:=⟨some a,.val (.bin .num .gtr (.t b) (.t c)),some (d,false)⟩
abbrev M5 (a b:Nat):Am.Item:=⟨some a,.val (.loadr none (.t b)),none⟩
abbrev M6 (a b:Nat)(c:Int):Am.Item:=⟨some a,.val (.bin .num .geq (.t b) (.c (.int .u8 c))),none⟩
abbrev M7 (a b:Nat)(c:Int)(d:Nat):Am.Item:=⟨some a,.val (.bin .num .leq (.t b) (.c (.int .u8 c))),some (d,true)⟩
abbrev M8 (a b:Nat)(c:Int):Am.Item:=⟨some a,.val (.bin .num .eql (.t b) (.c (.int .u8 c))),none⟩
abbrev M9 (a b c d:Nat):Am.Item:=⟨some a,.val (.idx (.t b) (.t c)),some (d,true)⟩
abbrev jQ (g:List Am.Item)(c:RC):RC:=.seq (.reg g) c
abbrev jD (g:List Am.Item)(c:RC):RC:=.seq (.draw g) c
abbrev jX (a b:Nat):RC:=.cond (.t a) .skip (.exit b)
abbrev IL:=List Am.Item
abbrev CT (k n:Nat)(r:RC)(o:List RR):Prop:=CK Tryz.prog k n r o
abbrev QFC:IL:=[jh 4 4 0,jh 7 7 3,jt 8 8,jc 9 0]
abbrev QFD:IL:=[jd 15 2 4,ja 16 1,NJ 17,ja 18 2,jd 19 4 7,zl 20 12 15 16 17 18 19,ja 14 20,jg 21 14 0,jg 22 14 1,jt 10 10,jf 7 10 21,ja 11 22]
abbrev QFE:IL:=[ja 23 11,js 24 23 0]
abbrev QFF:IL:=[yh 25,ja 26 11,jf 7 8 25,ja 9 26]
abbrev QFG:IL:=[jd 28 2 4,ja 29 1,ju 30 14 28 29,ja 27 30,jg 31 27 0,jg 32 27 1,ja 12 31,ja 13 32]
abbrev QFH:IL:=[jd 33 2 4,ja 34 12,jd 35 7 10,yp 36 15 33 34 35,yd 37 36]
abbrev QFI:IL:=[yh 38,jf 7 8 38,jc 9 14]
abbrev QFJ:IL:=[jd 39 7 10,jf 7 8 39,jc 9 0]
abbrev r6:RC:=jQ QFC (jQ QFD (.seq (jQ QFE (.cond (.t 24) (jQ QFF (.ret)) (.skip))) (jQ QFG (.seq (jQ QFH (.cond (.t 37) (jQ QFI (.ret)) (.skip))) (jQ QFJ (.ret))))))
abbrev o6:List RR:=[.cell 8 (some 7),.tmp 9]
theorem k6:CT 6 40 r6 o6:=ck Tryz.func6 Tryz.ntmps6 (by decide +kernel)
abbrev QFK:IL:=[jq 0]
abbrev QFL:IL:=[⟨some 4,.val (.build [.int .i64 0,.str [],.str [],.int .i64 0,.int .i64 0,.int .i64 0,.int .i64 0,.int .i64 0] [(0,1,(.c (.int .i64 1))),(1,1,(.c (.str [97]))),(3,1,(.c (.int .i64 3))),(5,1,(.c (.int .i64 4))),(6,1,(.c (.int .i64 (-1)))),(7,1,(.c (.int .i64 (-1))))]),none⟩,⟨some 5,.val (.build [.int .i64 0,.str [],.str [],.int .i64 0,.int .i64 0,.int .i64 0,.int .i64 0,.int .i64 0] [(0,1,(.c (.int .i64 3))),(1,1,(.c (.str [99]))),(3,1,(.c (.int .i64 4))),(5,1,(.c (.int .i64 2))),(6,1,(.c (.int .i64 (-1)))),(7,1,(.c (.int .i64 (-1))))]),none⟩,⟨some 6,.bsl 8 2 [.int .i64 0,.str [],.str [],.int .i64 0,.int .i64 0,.int .i64 0,.int .i64 0,.int .i64 0] [(0,8,(.t 4)),(8,8,(.t 5))],none⟩,⟨some 7,.val (.build [.str [],.nils,.int .i64 0] [(0,1,(.c (.str [77]))),(1,1,(.t 6))]),none⟩,⟨some 1,.allocN 1 [.str [],.nils,.int .i64 0],none⟩,jf 3 1 7]
abbrev QFM:IL:=[ji 9 0 1 3 1,⟨some 10,.bsl 3 1 [.str [],.nils,.int .i64 0] [(0,3,(.t 9))],none⟩,⟨some 11,.val (.build [.nils,.nils] [(0,1,(.t 10))]),none⟩,⟨some 12,.call (.f 19) [],none⟩,⟨some 13,.call (.f 6) [(.t 11),(.c (.str [77])),(.c (.str [8,5,29,3,1,2,3])),(.t 12)],none⟩,ja 8 13,jg 14 8 0,jg 15 8 1,jt 2 2,jj 0 2 7 2 14,ja 3 15]
abbrev QFN:IL:=[ja 16 3,jn 17 16 0,ja 18 17,jo 19 5 2 18,jx 20 19 18,yq 21 1 20 18,yo 22 21 2 18,jm 23 18 22,ja 24 23,jo 25 5 2 24,jx 26 25 24,⟨some 27,.val (.iaddr 8 none (.t 26) (.c (.int .i64 0))),(some (24,true))⟩,jo 28 1 27 24,jo 29 1 28 24,jx 30 29 24,⟨some 31,.val (.bin .num .eql (.t 30) (.c (.int .u64 5))),(some (24,true))⟩,jm 32 24 31,ja 33 32,jo 34 5 2 33,jx 35 34 33,⟨some 36,.val (.iaddr 8 none (.t 35) (.c (.int .i64 1))),(some (33,true))⟩,jo 37 1 36 33,jo 38 3 37 33,jx 39 38 33,yq 40 1 39 33,yo 41 40 2 33,jm 42 33 41,ja 43 42,⟨some 44,.call (.f 19) [],(some (43,true))⟩,⟨some 45,.call (.f 11) [],(some (43,true))⟩,⟨some 46,.val (.eqs false [.num,.num,.num,.num] (.t 44) (.t 45)),(some (43,true))⟩,jm 47 43 46,ja 0 47]
abbrev r9:RC:=jQ QFK (jQ QFL (jD QFM (jQ QFN (.ret))))
abbrev o9:List RR:=[.tmp 0]
theorem k9:CT 9 48 r9 o9:=ck Tryz.func9 Tryz.ntmps9 (by decide +kernel)
abbrev Qti:IL:=[jh 3 3 1,jy 4 4,jc 5 0]
abbrev Qtj:IL:=[jb 7 0 3,je 8 7,ym 9 8 0,ja 10 9,jz 11 1 3 10,yb 12 11 10,Hh 13 12 0 10,ya 14 10 13,ja 15 14,jz 16 2 3 15,yb 17 16 15,Hh 18 17 0 15,ya 19 15 18,ja 20 19,jz 21 3 3 20,yb 22 21 20,Hh 23 22 0 20,ya 24 20 23,ja 6 24]
abbrev Qtk:IL:=[⟨some 25,.val (.build [.str [],.int .i64 0,.int .i64 0,.int .i64 0,.int .i64 0,.int .i64 0] []),none⟩,jf 6 4 25,jc 5 1]
abbrev Qtl:IL:=[ja 27 0,jp 28 0 27,jb 29 0 3,je 30 29,yr 31 28 30,ja 26 31]
abbrev Qtm:IL:=[⟨some 32,.val (.build [.str [],.int .i64 0,.int .i64 0,.int .i64 0,.int .i64 0,.int .i64 0] []),none⟩,jf 6 4 32,jc 5 3]
abbrev Qtn:IL:=[ja 33 0,ja 34 0,jp 35 0 34,jb 36 1 3,je 37 36,jb 38 2 3,je 39 38,jb 40 3 3,je 41 40,⟨some 42,.val (.build [.str [],.int .i64 0,.int .i64 0,.int .i64 0,.int .i64 0,.int .i64 0] [(0,1,(.t 33)),(2,1,(.t 35)),(3,1,(.t 37)),(4,1,(.t 39)),(5,1,(.t 41))]),none⟩,jf 6 4 42,jc 5 0]
abbrev r24:RC:=jQ Qti (.seq (.block 0 (jQ Qtj (.cond (.t 6) (jQ Qtk (.ret)) (jQ Qtl (.cond (.t 26) (jQ Qtm (.ret)) (.skip)))))) (jQ Qtn (.ret)))
abbrev o24:List RR:=[.cell 4 (some 6),.tmp 5]
theorem k24:CT 24 43 r24 o24:=ck Tryz.func24 Tryz.ntmps24 (by decide +kernel)
abbrev Qto:IL:=[jh 5 5 0,jh 7 7 2,jh 9 9 4,jt 10 10,jc 11 0]
abbrev Qtp:IL:=[jd 19 2 5,ja 20 1,ju 21 14 19 20,ja 18 21,jg 22 18 0,jg 23 18 1,ja 12 22,ja 13 23]
abbrev Qtq:IL:=[ja 24 13,yd 25 24]
abbrev Qtr:IL:=[yh 26,jf 7 10 26,jc 11 10]
abbrev Qts:IL:=[jb 27 0 7,je 28 27,js 29 28 10]
abbrev Qtt:IL:=[yh 30,jf 7 10 30,jc 11 12]
abbrev Qtu:IL:=[ja 32 3,jd 33 4 9,ju 34 24 32 33,ja 31 34,jg 35 31 0,jg 36 31 1,jy 14 14,jf 6 14 35,ja 15 36]
abbrev Qtv:IL:=[ja 37 15,js 38 37 0]
abbrev Qtw:IL:=[yh 39,ja 40 15,jf 7 10 39,ja 11 40]
abbrev Qtx:IL:=[jb 41 3 14,je 42 41,ym 43 42 1]
abbrev Qaz:IL:=[yh 44,jf 7 10 44,jc 11 17]
abbrev QaA:IL:=[jb 45 3 14,je 46 45,WR 47 46 1,jb 48 3 14,jf 1 48 47]
abbrev QaB:IL:=[jd 49 2 5,jd 50 6 14,⟨some 51,.val (.build [.nils,.nils,.str [],.int .i64 0,.int .i64 0,.int .i64 0,.int .i64 0,.int .i64 0] [(0,2,(.t 49)),(2,6,(.t 50))]),none⟩,jh 52 52 51,ja 16 52]
abbrev QaC:IL:=[ja 53 16,⟨some 54,.callG (.f 25) [(.t 53),(.c (.int .i64 1))],none⟩,ja 15 54]
abbrev QaD:IL:=[ja 55 15,js 56 55 0]
abbrev QaE:IL:=[yh 57,ja 58 15,jf 7 10 57,ja 11 58]
abbrev QaF:IL:=[ja 60 16,ja 61 12,jd 62 7 7,⟨some 63,.callG (.f 26) [(.t 60),(.t 61),(.t 62)],none⟩,ja 59 63,jg 64 59 0,jg 65 59 1,jt 17 17,jf 7 17 64,ja 15 65]
abbrev QaG:IL:=[ja 66 15,js 67 66 0]
abbrev QaH:IL:=[yh 68,ja 69 15,jf 7 10 68,ja 11 69]
abbrev QaI:IL:=[jd 70 2 5,ja 71 12,jd 72 7 17,yp 73 27 70 71 72,jf 7 10 73,jc 11 0]
abbrev Ut:RC:=jQ Qto (jQ Qtp (.seq (jQ Qtq (.cond (.t 25) (jQ Qtr (.ret)) (.skip))) (.seq (jQ Qts (.cond (.t 29) (jQ Qtt (.ret)) (.skip))) (jQ Qtu (.seq (jQ Qtv (.cond (.t 38) (jQ Qtw (.ret)) (.skip))) (.seq (jQ Qtx (.cond (.t 43) (jQ Qaz (.ret)) (.skip))) (jQ QaA (jQ QaB (.seq (jQ QaC (jQ QaD (.cond (.t 56) (jQ QaE (.ret)) (.skip)))) (jQ QaF (.seq (jQ QaG (.cond (.t 67) (jQ QaH (.ret)) (.skip))) (jQ QaI (.ret)))))))))))))
abbrev o12:List RR:=[.cell 10 (some 7),.tmp 11]
theorem NU:CT 12 74 Ut o12:=ck Tryz.func12 Tryz.ntmps12 (by decide +kernel)
abbrev Qty:IL:=[jh 2 2 0,jh 3 3 1,jc 4 0,jq 5]
abbrev Qtz:IL:=[jb 7 0 2,je 8 7,⟨some 9,.val (.mkfn (.func 36) [] [(.t 3)]),none⟩,MZ 10 35 8 9,ja 6 10]
abbrev QtA:IL:=[ja 11 6,⟨some 12,.val (.mnx true (.t 11) (.c (.int .i64 0))),none⟩,ja 13 6,zg 14 13 0,ja 4 12,ja 5 14]
abbrev r14:RC:=jQ Qty (jQ Qtz (jQ QtA (.ret)))
abbrev o14:List RR:=[.tmp 4,.tmp 5]
theorem k14:CT 14 15 r14 o14:=ck Tryz.func14 Tryz.ntmps14 (by decide +kernel)
abbrev QtB:IL:=[jh 3 3 0,jh 5 5 2,jq 6]
abbrev QtC:IL:=[jb 13 0 3,je 14 13,ja 15 1,jr 16 3 14 15,jb 17 1 16,je 18 17,jp 19 1 18,jc 20 0]
abbrev QtD:IL:=[jv 21 20 19]
abbrev QtE:IL:=[jr 22 8 18 20,jd 23 8 22,zd 8 8,jf 8 8 23]
abbrev QtF:IL:=[jd 25 7 5,jb 26 0 8,je 27 26,ju 28 37 25 27,ja 24 28,jg 29 24 0,jg 30 24 1,jt 9 9,jf 7 9 29,ja 10 30]
abbrev QtG:IL:=[ja 31 10,yd 32 31]
abbrev QtH:IL:=[jb 33 3 8,je 34 33,jn 35 34 1]
abbrev QtI:IL:=[jq 6]
abbrev QtJ:IL:=[jb 36 5 8,je 37 36,js 38 37 10]
abbrev QtK:IL:=[jd 39 7 9,jl 40 38 39,jp 41 1 40,jc 42 0]
abbrev QaJ:IL:=[jv 43 42 41]
abbrev QaK:IL:=[jr 44 7 40 42,jd 45 7 44,jt 12 12,jf 7 12 45]
abbrev QaL:IL:=[jd 46 2 3,jb 47 6 8,je 48 47,jd 49 7 12,yp 50 15 46 48 49,yd 51 50]
abbrev QaM:IL:=[jq 6]
abbrev QaN:IL:=[jw 52 42 1,ja 42 52]
abbrev QtL:RC:=.gho (.drop 12) (jQ QaJ (.seq (jX 43 2) (.seq (.block 3 (jQ QaK (jQ QaL (.cond (.t 51) (jQ QaM (.ret)) (.skip))))) (.reg QaN))))
abbrev QaO:IL:=[jw 53 20 1,ja 20 53]
abbrev QtM:RC:=.gho (.drop 12) (.gho (.drop 9) (.gho (.drop 8) (jQ QtD (.seq (jX 21 0) (.seq (.block 1 (jQ QtE (jQ QtF (.seq (jQ QtG (.cond (.t 32) (.seq (jQ QtH (.cond (.t 35) (jQ QtI (.ret)) (.skip))) (.exit 1)) (.skip))) (.seq (jQ QtJ (.cond (.t 38) (.exit 1) (.skip))) (jQ QtK (.block 2 (.loop QtL)))))))) (.reg QaO))))))
abbrev QaP:IL:=[yi 6]
abbrev r15:RC:=jQ QtB (.seq (jQ QtC (.block 0 (.loop QtM))) (jQ QaP (.ret)))
abbrev o15:List RR:=[.tmp 6]
theorem k15:CT 15 54 r15 o15:=ck Tryz.func15 Tryz.ntmps15 (by decide +kernel)
abbrev QtN:IL:=[⟨some 0,.allocN 0 [.int .i64 0,.int .i64 0,.int .i64 0,.int .i64 0],none⟩]
abbrev QtO:IL:=[⟨some 1,.val (.build [.int .i64 0,.int .i64 0,.int .i64 0,.int .i64 0] [(0,1,(.c (.int .i64 65536))),(1,1,(.c (.int .i64 16))),(2,1,(.c (.int .i64 4096))),(3,1,(.c (.int .i64 4096)))]),none⟩,jf 4 0 1]
abbrev r19:RC:=jQ QtN (jQ QtO (.ret))
abbrev o19:List RR:=[.cell 0 (some 4)]
theorem k19:CT 19 2 r19 o19:=ck Tryz.func19 Tryz.ntmps19 (by decide +kernel)
abbrev QtP:IL:=[⟨some 0,.allocN 0 [.int .i64 0,.int .i64 0,.int .i64 0,.int .i64 0],none⟩]
abbrev QtQ:IL:=[⟨some 1,.val (.build [.int .i64 0,.int .i64 0,.int .i64 0,.int .i64 0] [(0,1,(.c (.int .i64 65536))),(1,1,(.c (.int .i64 16))),(2,1,(.c (.int .i64 4096))),(3,1,(.c (.int .i64 4096)))]),none⟩,jf 4 0 1]
abbrev Yb:RC:=jQ QtP (jQ QtQ (.ret))
abbrev o11:List RR:=[.cell 0 (some 4)]
theorem k11:CT 11 2 Yb o11:=ck Tryz.func11 Tryz.ntmps11 (by decide +kernel)
def V6:IL:=[yw 2]
def V7:IL:=[ja 3 0,⟨some 4,.isnil false (.t 3),none⟩]
def V8:IL:=[yw 2]
def V9:IL:=[zx 5 5 4,ja 6 0,yj 7 4 40 86 5 6,ja 2 7]
def SK:RC:=jQ V6 (.seq (jQ V7 (.cond (.t 4) (jQ V8 (.gho (.vec 2 2 4) (.gho (.give 2 2 1 1000) (.ret)))) (.skip))) (jQ V9 (.gho (.give 2 5 1 1000) (.ret))))
def NV:List RR:=[.tmp 2]
theorem k53:CT 53 8 SK NV:=ck Tryz.func53 Tryz.ntmps53 (by decide +kernel)
abbrev QtR:IL:=[ja 4 0,ja 5 0,jp 6 1 5,ja 7 1,⟨some 8,.callF (.f 106) [(.t 4),(.t 6),(.t 7)],none⟩]
abbrev r58:RC:=.reg QtR
abbrev o58:List RR:=[]
theorem k58:CT 58 9 r58 o58:=ck Tryz.func58 Tryz.ntmps58 (by decide +kernel)
abbrev QtS:IL:=[jc 4 0]
abbrev QtT:IL:=[ja 7 0,jl 8 107 7,ja 5 8]
abbrev QtU:IL:=[ja 9 1,jl 10 107 9,ja 6 10]
abbrev QtV:IL:=[ja 11 5]
abbrev QtW:IL:=[ja 12 6]
abbrev QtX:IL:=[jc 4 0]
abbrev QtY:IL:=[jc 4 (-1)]
abbrev QtZ:IL:=[ja 13 6]
abbrev Qt0:IL:=[jc 4 1]
abbrev Qt1:IL:=[ja 14 0,ja 15 1,jv 16 14 15]
abbrev QaR:IL:=[jc 4 (-1)]
abbrev QaS:IL:=[ja 17 0,ja 18 1,yr 19 17 18]
abbrev QaT:IL:=[jc 4 1]
abbrev QaU:IL:=[jc 4 0]
abbrev r60:RC:=jQ QtS (jQ QtT (jQ QtU (.seq (jQ QtV (.cond (.t 11) (.seq (jQ QtW (.cond (.t 12) (jQ QtX (.ret)) (.skip))) (jQ QtY (.ret))) (.skip))) (.seq (jQ QtZ (.cond (.t 13) (jQ Qt0 (.ret)) (.skip))) (.seq (jQ Qt1 (.cond (.t 16) (jQ QaR (.ret)) (.skip))) (.seq (jQ QaS (.cond (.t 19) (jQ QaT (.ret)) (.skip))) (jQ QaU (.ret))))))))
abbrev o60:List RR:=[.tmp 4]
theorem k60:CT 60 20 r60 o60:=ck Tryz.func60 Tryz.ntmps60 (by decide +kernel)
abbrev Qt2:IL:=[jc 4 0]
abbrev Qt3:IL:=[ja 8 0,yf 9 8,jb 10 2 9,jd 11 6 10,ja 12 1,ju 13 47 11 12,ja 7 13,jg 14 7 0,jg 15 7 1,jy 5 5,jf 6 5 14,ja 6 15]
abbrev Qt4:IL:=[ja 16 0,jd 17 6 5,yf 18 16,jb 19 2 18,jf 6 19 17]
abbrev Qt5:IL:=[ja 20 6,ja 4 20]
abbrev r25:RC:=jQ Qt2 (jQ Qt3 (jQ Qt4 (jQ Qt5 (.ret))))
abbrev o25:List RR:=[.tmp 4]
theorem k25:CT 25 21 r25 o25:=ck Tryz.func25 Tryz.ntmps25 (by decide +kernel)
abbrev Qt6:IL:=[jh 5 5 2,jt 6 6,jc 7 0]
abbrev Qt7:IL:=[ja 17 0,yf 18 17,jb 19 0 18,jb 20 0 19,je 21 20,ja 22 1,jr 23 3 21 22,jd 24 3 23,⟨some 8,.allocN 8 [.str [],.nils,.int .i64 0],none⟩,jf 3 8 24]
abbrev Qt8:IL:=[ja 25 0,yf 26 25,jb 27 2 26,jd 28 6 27,jl 29 48 28,zi 30 29 0]
abbrev Qt9:IL:=[ja 31 0,yf 32 31,jb 33 2 32,jd 34 6 33,jy 9 9,jf 6 9 34]
abbrev Qua:IL:=[jd 36 6 9,jl 37 49 36,ja 35 37,jg 38 35 0,jg 39 35 1,jg 40 35 2,jg 41 35 3,jy 12 12,ja 10 38,ja 11 39,jf 6 12 40,ja 13 41]
abbrev Qub:IL:=[ja 42 13,js 43 42 0]
abbrev Quc:IL:=[jd 44 7 5,ja 45 13,jf 7 6 44,ja 7 45]
abbrev Qud:IL:=[jb 46 1 8,je 47 46,jp 48 1 47,jc 49 0]
abbrev Que:IL:=[jv 50 49 48]
abbrev Quf:IL:=[jr 51 8 47 49,jd 52 8 51,zd 15 15,jf 8 15 52]
abbrev QaV:IL:=[jb 53 0 15,je 54 53,ja 55 10,yx 56 54 55]
abbrev QaW:IL:=[ja 57 0,jd 58 6 12,yf 59 57,jb 60 2 59,jf 6 60 58]
abbrev QaX:IL:=[ja 62 0,jd 63 3 8,jd 64 7 5,jd 65 8 15,ja 66 11,⟨some 67,.callG (.f 50) [(.t 62),(.t 63),(.t 64),(.t 65),(.t 66)],none⟩,ja 61 67,jg 68 61 0,jg 69 61 1,jf 7 5 68,ja 13 69]
abbrev QaY:IL:=[ja 70 13,js 71 70 0]
abbrev QaZ:IL:=[jd 72 7 5,ja 73 13,jf 7 6 72,ja 7 73]
abbrev Qa0:IL:=[jw 74 49 1,ja 49 74]
abbrev SL:RC:=.gho (.drop 15) (jQ Que (.seq (jX 50 2) (.seq (.block 3 (jQ Quf (.seq (jQ QaV (.cond (.t 56) (.exit 3) (.skip))) (jQ QaW (jQ QaX (.seq (jQ QaY (.cond (.t 71) (jQ QaZ (.ret)) (.skip))) (.exit 1))))))) (.reg Qa0))))
abbrev Qa1:IL:=[jd 76 6 9,jl 77 51 76,ja 75 77,jg 78 75 0,jg 79 75 1,jg 80 75 2,ze 16 16,jf 4 16 78,jf 6 12 79,ja 13 80]
abbrev Qa2:IL:=[ja 81 13,js 82 81 0]
abbrev Qa3:IL:=[jd 83 7 5,ja 84 13,jf 7 6 83,ja 7 84]
abbrev Qa4:IL:=[ja 85 0,jd 86 6 12,yf 87 85,jb 88 2 87,jf 6 88 86]
abbrev Qa5:IL:=[jd 89 7 5,jd 90 4 16,ju 91 52 89 90,jf 7 5 91]
abbrev SM:RC:=.gho (.drop 16) (.gho (.drop 15) (.gho (.drop 12) (.gho (.drop 9) (.seq (jQ Qt8 (jX 30 0)) (.block 1 (jQ Qt9 (jQ Qua (.seq (jQ Qub (.cond (.t 43) (jQ Quc (.ret)) (.skip))) (.seq (jQ Qud (.block 2 (.loop SL))) (jQ Qa1 (.seq (jQ Qa2 (.cond (.t 82) (jQ Qa3 (.ret)) (.skip))) (jQ Qa4 (.reg Qa5)))))))))))))
abbrev Qa6:IL:=[jd 92 7 5,jf 7 6 92,jc 7 0]
abbrev r26:RC:=jQ Qt6 (.scope (jQ Qt7 (.seq (.lab) (.seq (.block 0 (.loop SM)) (jQ Qa6 (.ret))))))
abbrev o26:List RR:=[.cell 6 (some 7),.tmp 7]
theorem k26:CT 26 93 r26 o26:=ck Tryz.func26 Tryz.ntmps26 (by decide +kernel)
abbrev Qug:IL:=[jh 3 3 0,jh 5 5 2,jt 6 6]
abbrev Quh:IL:=[jb 14 6 5,je 15 14,⟨some 16,.callF (.f 53) [(.t 15)],none⟩,⟨some 17,.val (.build [.int .i64 0,.int .u64 0,.str [],.nils,.nils,.nils,.nils] [(0,1,(.c (.int .i64 10))),(6,1,(.t 16))]),none⟩,jt 7 7,jf 7 7 17]
abbrev Qui:IL:=[ja 18 1,ym 19 18 0,ja 20 19,yc 21 1 20,jz 22 0 3 20,yb 23 22 20,zm 24 1 23 20,⟨some 25,.val (.bin .num .geq (.t 21) (.t 24)),(some (20,false))⟩,ya 26 20 25]
abbrev Quj:IL:=[jd 27 7 7,jf 7 6 27]
abbrev Quk:IL:=[jb 28 5 5,je 29 28,jl 30 54 29,jp 31 1 30,jc 32 0]
abbrev Qul:IL:=[jv 33 32 31]
abbrev Qum:IL:=[jr 34 8 30 32,jd 35 8 34,⟨some 9,.allocN 9 [.int .i64 0,.int .i64 0,.int .u64 0,.str [],.nils,.nils,.nils,.nils],none⟩,jf 8 9 35]
abbrev Qun:IL:=[jb 37 0 3,yg 38 0 3 37,ja 39 1,jr 40 3 38 39,yn 41 3 40,jb 42 0 9,yg 43 0 9 42,ju 44 55 41 43,ja 36 44,jg 45 36 0,jg 46 36 1,zd 10 10,jj 0 10 8 10 45,ja 11 46]
abbrev Quo:IL:=[jb 47 3 10,je 48 47,jn 49 48 3,ja 50 49,jz 51 3 10 50,yb 52 51 50,yu 53 52 4 50,ya 54 50 53,ja 55 54,jz 56 3 10 55,yb 57 56 55,yu 58 57 5 55,ya 59 55 58,ja 12 59]
abbrev Qup:IL:=[jd 60 2 3,jd 61 8 10,jb 62 1 9,jd 63 7 62,yp 64 56 60 61 63,jt 13 13,jf 7 13 64]
abbrev Qa7:IL:=[ja 65 12,yd 66 65,ja 67 66,NK 68 7 13 67,zs 69 57 68 67,FS 70 69 67,ya 71 67 70]
abbrev Qa8:IL:=[jb 72 5 7,je 73 72,jb 74 0 9,je 75 74,jd 76 7 13,⟨some 77,.val (.build [.int .i64 0,.int .i64 0,.int .u64 0,.str [],.nils,.nils,.nils,.nils] [(0,1,(.t 75)),(1,7,(.t 76))]),none⟩,FT 78 8 1 0 8 77,yj 79 8 136 56 73 78,jb 80 5 7,jf 1 80 79]
abbrev Qa9:IL:=[jw 81 32 1,ja 32 81]
abbrev Quq:RC:=.gho (.drop 13) (.gho (.drop 10) (.gho (.drop 9) (jQ Qul (.seq (jX 33 0) (.seq (.block 1 (jQ Qum (jD Qun (jQ Quo (jQ Qup (jQ Qa7 (.cond (.t 71) (.reg Qa8) (.skip)))))))) (.reg Qa9))))))
abbrev Qba:IL:=[jb 82 6 7,je 83 82,⟨some 84,.callF (.f 58) [(.t 83),(.f 59)],none⟩]
abbrev Qbb:IL:=[jd 85 7 7,jf 7 6 85]
abbrev r27:RC:=jQ Qug (jQ Quh (.gho (.vecc 7 5 1100 8) (.seq (jQ Qui (.cond (.t 26) (jQ Quj (.ret)) (.skip))) (.seq (jQ Quk (.block 0 (.loop Quq))) (jQ Qba (jQ Qbb (.ret)))))))
abbrev o27:List RR:=[.cell 6 (some 7)]
theorem k27:CT 27 86 r27 o27:=ck Tryz.func27 Tryz.ntmps27 (by decide +kernel)
abbrev Qur:IL:=[jc 4 0]
abbrev Qus:IL:=[ja 6 0,jp 7 1 6,jc 8 0]
abbrev Qut:IL:=[jv 9 8 7]
abbrev Quu:IL:=[ja 10 8,ja 5 10]
abbrev Quv:IL:=[ja 11 1,ja 12 0,ja 13 5,jr 14 3 12 13,jd 15 3 14,⟨some 16,.callF (.t 11) [(.t 15)],none⟩]
abbrev Quw:IL:=[ja 17 5,ja 4 17]
abbrev Qux:IL:=[jw 18 8 1,ja 8 18]
abbrev Quy:RC:=jQ Qut (.seq (jX 9 0) (.seq (.block 1 (jQ Quu (jQ Quv (.cond (.t 16) (jQ Quw (.ret)) (.skip))))) (.reg Qux)))
abbrev Quz:IL:=[jc 4 (-1)]
abbrev r35:RC:=jQ Qur (.seq (jQ Qus (.block 0 (.loop Quy))) (jQ Quz (.ret)))
abbrev o35:List RR:=[.tmp 4]
theorem k35:CT 35 19 r35 o35:=ck Tryz.func35 Tryz.ntmps35 (by decide +kernel)
abbrev QuA:IL:=[jh 2 2 0,jq 3]
abbrev QuB:IL:=[jb 4 0 2,je 5 4,je 6 1,⟨some 7,.val (.bin .str .eql (.t 5) (.t 6)),none⟩,ja 3 7]
abbrev r36:RC:=jQ QuA (jQ QuB (.ret))
abbrev o36:List RR:=[.tmp 3]
theorem k36:CT 36 8 r36 o36:=ck Tryz.func36 Tryz.ntmps36 (by decide +kernel)
abbrev QuC:IL:=[jh 2 2 0,jt 4 4,jq 5]
abbrev QuD:IL:=[jb 8 5 2,je 9 8,jp 10 1 9,jc 11 0]
abbrev QuE:IL:=[jv 12 11 10]
abbrev QuF:IL:=[jr 13 8 9 11,jd 14 8 13,⟨some 7,.allocN 7 [.int .i64 0,.int .i64 0,.int .u64 0,.str [],.nils,.nils,.nils,.nils],none⟩,jf 8 7 14]
abbrev QuG:IL:=[jb 15 0 7,je 16 15,ja 17 1,zh 18 16 17]
abbrev QuH:IL:=[jb 19 1 7,jd 20 7 19,jf 7 4 20,yi 5]
abbrev QuI:IL:=[jw 21 11 1,ja 11 21]
abbrev QuJ:RC:=.gho (.drop 7) (jQ QuE (.seq (jX 12 0) (.seq (.block 1 (jQ QuF (jQ QuG (.cond (.t 18) (jQ QuH (.ret)) (.skip))))) (.reg QuI))))
abbrev QuK:IL:=[yh 22,jf 7 4 22,jq 5]
abbrev SN:RC:=jQ QuC (.seq (jQ QuD (.block 0 (.loop QuJ))) (jQ QuK (.ret)))
abbrev o37:List RR:=[.cell 4 (some 7),.tmp 5]
theorem k37:CT 37 23 SN o37:=ck Tryz.func37 Tryz.ntmps37 (by decide +kernel)
abbrev Qbc:IL:=[jc 6 20]
abbrev Qbd:IL:=[ja 10 6,jc 7 0,ja 8 10]
abbrev Qbe:IL:=[ja 11 8,ja 12 1,NL 13 11 12]
abbrev Qbf:IL:=[ja 14 0,ja 15 7,ja 16 8,ja 17 2,⟨some 18,.callF (.f 165) [(.t 14),(.t 15),(.t 16),(.t 17)],none⟩]
abbrev Qbg:IL:=[ja 19 8,ja 7 19]
abbrev Qbh:IL:=[ja 20 8,ja 21 6,yk 22 20 21,ja 8 22]
abbrev Qbi:RC:=.seq (jQ Qbe (jX 13 0)) (.block 1 (jQ Qbf (jQ Qbg (.reg Qbh))))
abbrev Qbj:IL:=[ja 23 0,ja 24 7,ja 25 1,ja 26 2,⟨some 27,.callF (.f 165) [(.t 23),(.t 24),(.t 25),(.t 26)],none⟩]
abbrev Qbk:IL:=[ja 28 6,ja 29 1,jv 30 28 29]
abbrev Qbl:IL:=[ja 31 6,NM 32 2 31,jc 7 0,ja 8 32]
abbrev Qbm:IL:=[ja 33 8,ja 34 1,NL 35 33 34]
abbrev AT:IL:=[ja 36 0,ja 37 7,ja 38 7,ja 39 6,yk 40 38 39,ja 41 8,ja 42 2,⟨some 43,.callF (.f 166) [(.t 36),(.t 37),(.t 40),(.t 41),(.t 42)],none⟩]
abbrev AU:IL:=[ja 44 8,ja 7 44]
abbrev AW:IL:=[ja 45 8,ja 46 6,NM 47 2 46,yk 48 45 47,ja 8 48]
abbrev Qbn:RC:=.seq (jQ Qbm (jX 35 4)) (.block 5 (jQ AT (jQ AU (.reg AW))))
abbrev AX:IL:=[ja 49 7,ja 50 6,yk 51 49 50,ja 9 51]
abbrev AY:IL:=[ja 52 9,ja 53 1,jv 54 52 53]
abbrev AZ:IL:=[ja 55 0,ja 56 7,ja 57 9,ja 58 1,ja 59 2,⟨some 60,.callF (.f 166) [(.t 55),(.t 56),(.t 57),(.t 58),(.t 59)],none⟩]
abbrev A1:IL:=[ja 61 6,⟨some 62,.val (.bin .num .mul (.t 61) (.c (.int .i64 2))),none⟩,ja 6 62]
abbrev Qbo:RC:=.seq (jQ Qbk (jX 30 2)) (.block 3 (jQ Qbl (.seq (.block 4 (.loop Qbn)) (.seq (jQ AX (jQ AY (.cond (.t 54) (.reg AZ) (.skip)))) (.reg A1)))))
abbrev Qbp:RC:=jQ Qbc (jQ Qbd (.seq (.block 0 (.loop Qbi)) (jQ Qbj (.block 2 (.loop Qbo)))))
abbrev Qbq:List RR:=[]
theorem QFO:CT 106 63 Qbp Qbq:=ck Tryz.func106 Tryz.ntmps106 (by decide +kernel)
abbrev Qbr:IL:=[jq 2]
abbrev Qbs:IL:=[ja 3 0,ja 4 0,yx 5 3 4,ja 2 5]
abbrev Qbt:RC:=jQ Qbr (jQ Qbs (.ret))
abbrev Qbu:List RR:=[.tmp 2]
theorem Qbv:CT 107 6 Qbt Qbu:=ck Tryz.func107 Tryz.ntmps107 (by decide +kernel)
abbrev QuL:IL:=[jh 1 1 0,jc 2 0,jc 3 0,jy 4 4,jc 5 0]
abbrev QuM:IL:=[jd 10 6 1,jl 11 89 10,ja 9 11,jg 12 9 0,jg 13 9 1,jg 14 9 2,jy 7 7,ja 6 12,jf 6 7 13,ja 8 14]
abbrev QuN:IL:=[ja 16 8,js 17 16 0,ja 15 17]
abbrev QuO:IL:=[ji 18 0 1 6 1,ja 19 8,jc 2 0,jc 3 0,jj 0 4 6 4 18,ja 5 19]
abbrev QuP:IL:=[ja 21 6,FU 22 21 8,zn 23 22 7,ja 20 23]
abbrev QuQ:IL:=[ji 24 0 1 6 1,jc 2 0,jc 3 0,jj 0 4 6 4 24,jc 5 5]
abbrev QuR:IL:=[ja 26 6,NN 27 26 8,NO 28 27 1,ja 29 28,yc 30 6 29,⟨some 31,.val (.bin .num .quo (.t 30) (.c (.int .u64 8))),(some (29,false))⟩,⟨some 32,.val (.bin .num .gtr (.t 31) (.c (.int .u64 65535))),(some (29,false))⟩,ya 33 29 32,ja 25 33]
abbrev QuS:IL:=[ji 34 0 1 6 1,jc 2 0,jc 3 0,jj 0 4 6 4 34,jc 5 6]
abbrev QuT:IL:=[ja 35 6,NN 36 35 8,yv 37 36,ja 38 6,FU 39 38 8,yv 40 39,ji 41 0 7 6 7,ja 2 37,ja 3 40,jj 0 4 6 4 41,jc 5 0]
abbrev r49:RC:=jQ QuL (jQ QuM (.seq (.block 0 (jQ QuN (.cond (.t 15) (jD QuO (.ret)) (jQ QuP (.cond (.t 20) (jD QuQ (.ret)) (jQ QuR (.cond (.t 25) (jD QuS (.ret)) (.skip)))))))) (jD QuT (.ret))))
abbrev o49:List RR:=[.tmp 2,.tmp 3,.cell 4 (some 6),.tmp 5]
theorem k49:CT 49 42 r49 o49:=ck Tryz.func49 Tryz.ntmps49 (by decide +kernel)
abbrev QuU:IL:=[jh 2 2 0,jy 4 4,jc 5 0]
abbrev QuV:IL:=[ja 7 1,ym 8 7 0,ja 6 8]
abbrev QuW:IL:=[jd 9 6 2,jf 6 4 9,jc 5 1]
abbrev QuX:IL:=[ja 11 1,jb 12 4 2,je 13 12,yr 14 11 13,ja 10 14]
abbrev QuY:IL:=[jd 15 6 2,jf 6 4 15,jc 5 3]
abbrev QuZ:IL:=[jb 16 4 2,je 17 16,ja 18 1,⟨some 19,.val (.bin .num .sub (.t 17) (.t 18)),none⟩,jb 20 4 2,jf 1 20 19]
abbrev Qu0:IL:=[jd 21 6 2,jf 6 4 21,jc 5 0]
abbrev r47:RC:=jQ QuU (.seq (.block 0 (jQ QuV (.cond (.t 6) (jQ QuW (.ret)) (jQ QuX (.cond (.t 10) (jQ QuY (.ret)) (.skip)))))) (jQ QuZ (jQ Qu0 (.ret))))
abbrev o47:List RR:=[.cell 4 (some 6),.tmp 5]
theorem k47:CT 47 22 r47 o47:=ck Tryz.func47 Tryz.ntmps47 (by decide +kernel)
abbrev Qu1:IL:=[jh 1 1 0,jc 2 0]
abbrev Qu2:IL:=[jd 3 6 1,jl 4 88 3,yd 5 4]
abbrev Qu3:IL:=[jc 2 0]
abbrev Qu4:IL:=[jb 6 2 1,je 7 6,jb 8 1 1,je 9 8,⟨some 10,.val (.bin .num .sub (.t 7) (.t 9)),none⟩,ja 2 10]
abbrev r48:RC:=jQ Qu1 (.seq (jQ Qu2 (.cond (.t 5) (jQ Qu3 (.ret)) (.skip))) (jQ Qu4 (.ret)))
abbrev o48:List RR:=[.tmp 2]
theorem k48:CT 48 11 r48 o48:=ck Tryz.func48 Tryz.ntmps48 (by decide +kernel)
abbrev Qu5:IL:=[jh 6 6 1,jh 7 7 2,jh 8 8 3,jt 10 10,jc 11 0]
abbrev Qu6:IL:=[jb 13 3 8,je 14 13,jn 15 14 5,ja 12 15]
abbrev Qu7:IL:=[ja 16 4,js 17 16 6]
abbrev Qu8:IL:=[jd 18 7 7,jf 7 10 18,jc 11 13]
abbrev Qu9:IL:=[ja 19 0,jd 20 3 6,jd 21 7 7,jd 22 8 8,NP 23 90 19 20 21 22,jg 24 23 0,jg 25 23 1,jf 7 10 24,ja 11 25]
abbrev Qva:IL:=[ja 27 4,jn 28 27 5,ja 29 28,yy 30 8 8 29,za 31 91 30 29,jm 32 29 31,ja 26 32]
abbrev Qvb:IL:=[ja 33 0,jd 34 3 6,jd 35 7 7,jd 36 8 8,NP 37 92 33 34 35 36,jg 38 37 0,jg 39 37 1,jf 7 10 38,ja 11 39]
abbrev Qvc:IL:=[ja 41 4,jd 42 8 8,jl 43 93 42,yx 44 41 43,ja 40 44]
abbrev Qvd:IL:=[jd 45 7 7,jf 7 10 45,jc 11 13]
abbrev Qve:IL:=[jb 47 5 8,je 48 47,jn 49 48 10,ja 46 49]
abbrev Qbw:IL:=[ja 50 0,jd 51 3 6,jd 52 7 7,jd 53 8 8,NP 54 94 50 51 52 53,jg 55 54 0,jg 56 54 1,jf 7 10 55,ja 11 56]
abbrev Qbx:IL:=[ja 57 0,jd 58 3 6,jd 59 7 7,jd 60 8 8,NP 61 95 57 58 59 60,jg 62 61 0,jg 63 61 1,jf 7 10 62,ja 11 63]
abbrev r50:RC:=jQ Qu5 (.seq (.block 0 (jQ Qu6 (.cond (.t 12) (.seq (jQ Qu7 (.cond (.t 17) (jQ Qu8 (.ret)) (.skip))) (jQ Qu9 (.ret))) (jQ Qva (.cond (.t 26) (jQ Qvb (.ret)) (jQ Qvc (.cond (.t 40) (jQ Qvd (.ret)) (jQ Qve (.cond (.t 46) (jQ Qbw (.ret)) (.skip)))))))))) (jQ Qbx (.ret)))
abbrev o50:List RR:=[.cell 10 (some 7),.tmp 11]
theorem k50:CT 50 64 r50 o50:=ck Tryz.func50 Tryz.ntmps50 (by decide +kernel)
abbrev Qvf:IL:=[yw 2]
abbrev Qvg:IL:=[ja 7 0,⟨some 8,.callF (.f 97) [(.t 7)],none⟩,ja 3 8]
abbrev Qvh:IL:=[ja 9 3,⟨some 10,.callF (.f 98) [(.t 9),(.f 99)],none⟩]
abbrev Qvi:IL:=[yw 4]
abbrev Qvj:IL:=[ja 11 3,jp 12 1 11,jc 13 0]
abbrev Qvk:IL:=[jv 14 13 12]
abbrev Qvl:IL:=[ja 15 13,jr 16 8 11 13,jd 17 8 16,⟨some 6,.allocN 6 [.int .i64 0,.int .i64 0,.int .u64 0,.str [],.nils,.nils,.nils,.nils],none⟩,ja 5 15,jf 8 6 17]
abbrev Qvm:IL:=[ja 18 5,jw 19 18 1,ja 20 3,jp 21 1 20,zh 22 19 21,ja 23 22,jz 24 0 6 23,zu 25 0 6 24 23,yc 26 3 23,yc 27 5 23,⟨some 28,.val (.bin .num .add (.t 27) (.c (.int .i64 1))),(some (23,false))⟩,zo 29 8 26 28 23,jz 30 0 29 23,NQ 31 30 23,NR 32 25 31 23,ya 33 23 32]
abbrev Qvn:IL:=[ja 34 4,jd 35 8 6,FT 36 8 1 0 8 35,yj 37 8 136 56 34 36,ja 4 37]
abbrev Qvo:IL:=[jw 38 13 1,ja 13 38]
abbrev Qvp:RC:=.gho (.drop 6) (jQ Qvk (.seq (jX 14 0) (.seq (.block 1 (jQ Qvl (jD Qvm (.cond (.t 33) (.reg Qvn) (.skip))))) (.reg Qvo))))
abbrev Qby:IL:=[ja 39 4,ja 2 39]
abbrev r54:RC:=jQ Qvf (jQ Qvg (jQ Qvh (jQ Qvi (.gho (.vec 4 4 8) (.seq (jQ Qvj (.block 0 (.loop Qvp))) (jQ Qby (.ret)))))))
abbrev o54:List RR:=[.tmp 2]
theorem k54:CT 54 40 r54 o54:=ck Tryz.func54 Tryz.ntmps54 (by decide +kernel)
abbrev Qvq:IL:=[jh 2 2 0,jh 3 3 1,zd 4 4,jq 5]
abbrev Qvr:IL:=[⟨some 6,.val (.mkfn (.func 100) [] [(.t 3)]),none⟩,⟨some 7,.val (.build [.nilf] [(0,1,(.t 6))]),none⟩,jd 8 3 2,MZ 9 101 7 8,jg 10 9 0,jg 11 9 1,jf 8 4 10,ja 5 11]
abbrev r55:RC:=jQ Qvq (jQ Qvr (.ret))
abbrev o55:List RR:=[.cell 4 (some 8),.tmp 5]
theorem k55:CT 55 12 r55 o55:=ck Tryz.func55 Tryz.ntmps55 (by decide +kernel)
abbrev Qvs:IL:=[jh 3 3 0,jh 4 4 1,jh 5 5 2,jt 6 6]
abbrev Qvt:IL:=[jb 13 3 4,je 14 13]
abbrev Qvu:IL:=[jn 16 14 4,ja 15 16]
abbrev Qvv:IL:=[⟨some 17,.val (.build [.int .i64 0,.int .u64 0,.str [],.nils,.nils,.nils,.nils] [(0,1,(.c (.int .i64 11)))]),none⟩,jt 7 7,jf 7 7 17]
abbrev Qvw:IL:=[jb 18 3 5,je 19 18,jp 20 1 19,jc 21 0]
abbrev Qvx:IL:=[jv 22 21 20]
abbrev Qvy:IL:=[jr 23 7 19 21,jd 24 7 23,jt 9 9,jf 7 9 24]
abbrev Qvz:IL:=[jb 25 3 7,yg 26 0 7 25,ji 27 0 3 2 3,ji 28 0 4 8 4,ji 29 0 9 7 9,yp 30 102 27 28 29,SJ 31 7 1 0 7 30,yj 32 7 128 35 26 31,jb 33 3 7,jj 0 7 1 33 32]
abbrev QvA:IL:=[jw 34 21 1,ja 21 34]
abbrev QvB:RC:=.gho (.drop 9) (jQ Qvx (.seq (jX 22 1) (.seq (.block 2 (jQ Qvy (.draw Qvz))) (.reg QvA))))
abbrev QvC:IL:=[jd 35 7 7,jf 7 6 35]
abbrev Qbz:IL:=[jn 37 14 5,ja 36 37]
abbrev QbA:IL:=[⟨some 38,.val (.build [.int .i64 0,.int .u64 0,.str [],.nils,.nils,.nils,.nils] [(0,1,(.c (.int .i64 12)))]),none⟩,jt 10 10,jf 7 10 38]
abbrev QbB:IL:=[jb 39 4 5,je 40 39,jl 41 103 40,jp 42 1 41,jc 43 0]
abbrev QbC:IL:=[jv 44 43 42]
abbrev QbD:IL:=[jr 45 14 41 43,jd 46 14 45,MY 12 12,jf 14 12 46]
abbrev QbE:IL:=[jb 47 4 10,yg 48 0 10 47,jb 49 0 12,ji 50 0 12 7 49,jl 51 104 50,ji 52 0 3 2 3,ji 53 0 4 8 4,jb 54 7 12,ji 55 0 12 7 54,yp 56 102 52 53 55,⟨some 57,.val (.build [.int .i64 0,.int .u64 0,.str [],.nils,.nils,.nils,.nils,.int .i64 0,.int .u64 0,.str [],.nils,.nils,.nils,.nils] [(0,7,(.t 51)),(7,7,(.t 56))]),none⟩,M0 58 14 1 0 14 57,yj 59 14 256 113 48 58,jb 60 4 10,jj 0 10 1 60 59]
abbrev QbF:IL:=[jw 61 43 1,ja 43 61]
abbrev QvD:RC:=.gho (.drop 12) (jQ QbC (.seq (jX 44 3) (.seq (.block 4 (jQ QbD (.draw QbE))) (.reg QbF))))
abbrev QbG:IL:=[jd 62 7 10,jf 7 6 62]
abbrev QbH:IL:=[jd 63 2 3,jd 64 8 4,jd 65 7 5,yp 66 102 63 64 65,jf 7 6 66]
abbrev r56:RC:=jQ Qvs (.seq (jQ Qvt (.block 0 (jQ Qvu (.cond (.t 15) (jQ Qvv (.gho (.vecc 7 3 1100 7) (.seq (jQ Qvw (.block 1 (.loop QvB))) (jQ QvC (.ret))))) (jQ Qbz (.cond (.t 36) (jQ QbA (.gho (.vecc 10 4 1101 14) (.seq (jQ QbB (.block 3 (.loop QvD))) (jQ QbG (.ret))))) (.skip))))))) (jQ QbH (.ret)))
abbrev o56:List RR:=[.cell 6 (some 7)]
theorem SO:CT 56 67 r56 o56:=ck Tryz.func56 Tryz.ntmps56 (by decide +kernel)
abbrev QvE:IL:=[jh 1 1 0,jq 2]
abbrev QvF:IL:=[jb 3 0 1,je 4 3,jn 5 4 11,ja 6 5,jo 7 3 1 6,jx 8 7 6,yq 9 1 8 6,yo 10 9 0 6,jm 11 6 10,ja 12 11,jz 13 0 1 12,yb 14 13 12,yu 15 14 12 12,yc 16 15 12,jo 17 4 1 16,jx 18 17 16,yq 19 1 18 16,yo 20 19 0 16,NI 21 16 20 12,ya 22 12 21,ja 23 22,NK 24 7 1 23,zs 25 105 24 23,ya 26 23 25,ja 2 26]
abbrev r57:RC:=jQ QvE (jQ QvF (.ret))
abbrev o57:List RR:=[.tmp 2]
theorem k57:CT 57 27 r57 o57:=ck Tryz.func57 Tryz.ntmps57 (by decide +kernel)
abbrev QbI:IL:=[ja 10 1,jw 11 10 1,ja 8 11]
abbrev QbJ:IL:=[ja 12 8,ja 13 2,jv 14 12 13]
abbrev QbK:IL:=[ja 17 8,ja 9 17]
abbrev QbL:IL:=[ja 18 9,ja 19 1,yr 20 18 19,ja 21 20,jk 22 3 21,jk 23 0 21,jk 24 9 21,ye 25 4 23 24 21,zv 26 4 25 21,jk 27 0 21,jk 28 9 21,FV 29 28 1 21,ye 30 4 27 29 21,zv 31 4 30 21,⟨some 32,.call (.t 22) [(.t 26),(.t 31)],(some (21,true))⟩,⟨some 33,.val (.bin .num .lss (.t 32) (.c (.int .i64 0))),(some (21,true))⟩,jm 34 21 33]
abbrev QbM:IL:=[ja 37 0,ja 38 9,ja 39 0,ja 40 9,WR 41 40 1,ja 42 0,ja 43 9,WR 44 43 1,jr 45 4 42 44,yn 46 4 45,ja 47 0,ja 48 9,jr 49 4 47 48,yn 50 4 49,jr 51 4 37 38,jf 4 51 46,jr 52 4 39 41,jf 4 52 50]
abbrev QbN:IL:=[ja 35 9,WR 36 35 1,ja 9 36]
abbrev QbO:RC:=.seq (jD QbL (jX 34 2)) (.seq (.block 3 (.draw QbM)) (.reg QbN))
abbrev QbP:IL:=[ja 15 8,jw 16 15 1,ja 8 16]
abbrev QbQ:RC:=.seq (jQ QbJ (jX 14 0)) (.seq (.block 1 (jQ QbK (.block 2 (.loop QbO)))) (.reg QbP))
abbrev QbR:RC:=jQ QbI (.block 0 (.loop QbQ))
abbrev QbS:List RR:=[]
theorem QFP:CT 165 53 QbR QbS:=ck Tryz.func165 Tryz.ntmps165 (by decide +kernel)
abbrev QvG:IL:=[jh 1 1 0,yl 2 0,jy 3 3,jc 4 0]
abbrev QvH:IL:=[jd 9 6 1,zj 10 140 9 10,jl 11 139 10,ja 8 11,jg 12 8 0,jg 13 8 1,jg 14 8 2,ja 5 12,ja 6 13,ja 7 14]
abbrev QvI:IL:=[ja 15 7,js 16 15 0]
abbrev QvJ:IL:=[ji 17 0 1 6 1,ja 18 7,yl 2 0,jj 0 3 6 3 17,ja 4 18]
abbrev QvK:IL:=[ja 19 5,jd 20 6 1,ja 21 6,ju 22 141 20 21,ja 2 19,jf 6 3 22,jc 4 0]
abbrev r89:RC:=jQ QvG (jQ QvH (.seq (jQ QvI (.cond (.t 16) (jD QvJ (.ret)) (.skip))) (jQ QvK (.ret))))
abbrev o89:List RR:=[.tmp 2,.cell 3 (some 6),.tmp 4]
theorem k89:CT 89 23 r89 o89:=ck Tryz.func89 Tryz.ntmps89 (by decide +kernel)
abbrev QvL:IL:=[jh 1 1 0,jq 2]
abbrev QvM:IL:=[jb 3 1 1,je 4 3,zg 5 4 0,ja 6 5,jo 7 1 1 6,jx 8 7 6,jo 9 2 1 6,jx 10 9 6,FX 11 8 10 6,jm 12 6 11,ja 13 12,jo 14 2 1 13,jx 15 14 13,jo 16 0 1 13,jx 17 16 13,yq 18 0 17 13,FX 19 15 18 13,jm 20 13 19,ja 2 20]
abbrev r88:RC:=jQ QvL (jQ QvM (.ret))
abbrev o88:List RR:=[.tmp 2]
theorem k88:CT 88 21 r88 o88:=ck Tryz.func88 Tryz.ntmps88 (by decide +kernel)
abbrev QvN:IL:=[jh 1 1 0,jq 2]
abbrev QvO:IL:=[jb 3 3 1,je 4 3,jn 5 4 4,ja 6 5,jo 7 5 1 6,jx 8 7 6,NS 9 8 1 6,jk 10 9 6,jo 11 5 1 10,jx 12 11 10,yz 13 12 6 10,⟨some 14,.val (.pick (.t 10) (.t 13) (.c (.bool false))),(some (6,true))⟩,jk 15 14 6,jz 16 5 1 15,yb 17 16 15,yu 18 17 9 15,zf 19 15 18 6,jm 20 6 19,ja 2 20]
abbrev r91:RC:=jQ QvN (jQ QvO (.ret))
abbrev o91:List RR:=[.tmp 2]
theorem k91:CT 91 21 r91 o91:=ck Tryz.func91 Tryz.ntmps91 (by decide +kernel)
abbrev QvP:IL:=[jh 5 5 1,jh 6 6 2,jh 7 7 3,jt 8 8,jc 9 0]
abbrev QvQ:IL:=[ja 19 0,⟨some 20,.callG (.f 142) [(.t 19)],none⟩,ja 18 20,jg 21 18 0,jg 22 18 1,ja 10 21,ja 11 22]
abbrev QvR:IL:=[ja 23 11,js 24 23 0]
abbrev QvS:IL:=[jd 25 7 6,ja 26 11,jf 7 8 25,ja 9 26]
abbrev QvT:IL:=[ja 27 0,ja 28 10,zy 29 143 27 28,jy 12 12,jf 6 12 29]
abbrev QvU:IL:=[ja 31 0,yf 32 31,jb 33 2 32,jd 34 6 33,jl 35 147 34,ja 30 35,jg 36 30 0,jg 37 30 1,jg 38 30 2,jy 14 14,ja 13 36,jf 6 14 37,ja 11 38]
abbrev QvV:IL:=[ja 39 11,js 40 39 0]
abbrev QvW:IL:=[jd 41 7 6,ja 42 11,jf 7 8 41,ja 9 42]
abbrev QvX:IL:=[ja 43 0,jd 44 6 14,yf 45 43,jb 46 2 45,jf 6 46 44]
abbrev QvY:IL:=[ja 47 13,yv 48 47,jd 49 8 7,jl 50 93 49,yx 51 48 50]
abbrev QbT:IL:=[jd 52 7 6,jf 7 8 52,jc 9 13]
abbrev QbU:IL:=[jd 54 7 6,jb 55 0 7,je 56 55,ju 57 37 54 56,ja 53 57,jg 58 53 0,jg 59 53 1,jt 15 15,jf 7 15 58,ja 16 59]
abbrev QbV:IL:=[ja 60 16,yd 61 60]
abbrev QbW:IL:=[ja 62 0,⟨some 63,.callG (.f 25) [(.t 62),(.c (.int .i64 1))],none⟩,ja 17 63]
abbrev QbX:IL:=[ja 64 17,js 65 64 0]
abbrev QbY:IL:=[jd 66 7 6,ja 67 17,jf 7 8 66,ja 9 67]
abbrev QbZ:IL:=[jd 68 3 5,jd 69 7 6,jd 70 8 7,⟨some 71,.val (.build [.int .i64 0,.int .u64 0,.str [],.nils,.nils,.nils,.nils] [(0,1,(.c (.int .i64 11)))]),none⟩,zb 72 146 68 69 70 71,jf 7 6 72]
abbrev Qb0:IL:=[ja 73 0,yf 74 73,jb 75 2 74,jd 76 6 75,jl 77 48 76,zi 78 77 0]
abbrev Qb1:IL:=[ja 80 0,jd 81 3 5,jd 82 7 6,jd 83 8 7,NP 84 95 80 81 82 83,ja 79 84,jg 85 79 0,jg 86 79 1,jf 7 6 85,ja 11 86]
abbrev Qb2:IL:=[ja 87 11,js 88 87 0]
abbrev Qb3:IL:=[jd 89 7 6,ja 90 11,jf 7 8 89,ja 9 90]
abbrev SP:RC:=.seq (jQ Qb0 (jX 78 0)) (.block 1 (jQ Qb1 (jQ Qb2 (.cond (.t 88) (jQ Qb3 (.ret)) (.skip)))))
abbrev Qb4:IL:=[ja 91 0,jd 92 6 12,zy 93 145 91 92]
abbrev Qb5:IL:=[jd 94 7 6,jf 7 8 94,jc 9 0]
abbrev r92:RC:=jQ QvP (jQ QvQ (.seq (jQ QvR (.cond (.t 24) (jQ QvS (.ret)) (.skip))) (jQ QvT (jQ QvU (.seq (jQ QvV (.cond (.t 40) (jQ QvW (.ret)) (.skip))) (jQ QvX (.seq (jQ QvY (.cond (.t 51) (jQ QbT (.ret)) (.skip))) (.seq (jQ QbU (jQ QbV (.cond (.t 61) (.seq (jQ QbW (jQ QbX (.cond (.t 65) (jQ QbY (.ret)) (.skip)))) (.reg QbZ)) (.skip)))) (.seq (.block 0 (.loop SP)) (jQ Qb4 (jQ Qb5 (.ret))))))))))))
abbrev o92:List RR:=[.cell 8 (some 7),.tmp 9]
theorem k92:CT 92 95 r92 o92:=ck Tryz.func92 Tryz.ntmps92 (by decide +kernel)
abbrev QvZ:IL:=[jh 1 1 0,jc 2 0]
abbrev Qv0:IL:=[jb 3 3 1,⟨none,.store 1 (.t 3) (.c (.int .i64 2)),none⟩]
abbrev Qv1:IL:=[jd 4 8 1,jl 5 148 4,ja 2 5]
abbrev r93:RC:=jQ QvZ (jQ Qv0 (jQ Qv1 (.ret)))
abbrev o93:List RR:=[.tmp 2]
theorem k93:CT 93 6 r93 o93:=ck Tryz.func93 Tryz.ntmps93 (by decide +kernel)
abbrev Qv2:IL:=[jh 5 5 1,jh 6 6 2,jh 7 7 3,jt 8 8,jc 9 0]
abbrev Qv3:IL:=[ja 17 0,⟨some 18,.callG (.f 25) [(.t 17),(.c (.int .i64 1))],none⟩,ja 10 18]
abbrev Qv4:IL:=[ja 19 10,js 20 19 0]
abbrev Qv5:IL:=[jd 21 7 6,ja 22 10,jf 7 8 21,ja 9 22]
abbrev Qv6:IL:=[ja 24 0,jd 25 8 7,jl 26 93 25,zy 27 151 24 26,ja 23 27,jg 28 23 0,jg 29 23 1,ze 11 11,jf 4 11 28,ja 12 29]
abbrev Qv7:IL:=[ja 30 12,js 31 30 0]
abbrev Qv8:IL:=[jd 32 7 6,ja 33 12,jf 7 8 32,ja 9 33]
abbrev Qv9:IL:=[ja 35 0,yf 36 35,jb 37 0 36,⟨some 38,.val (.loado (some 2) (.t 37)),none⟩,ji 39 0 7 8 7,ji 40 0 11 4 11,yp 41 152 38 39 40,ja 34 41,jg 42 34 0,jg 43 34 1,jt 13 13,jj 0 13 7 13 42,ja 12 43]
abbrev Qwa:IL:=[ja 44 12,jn 45 44 16]
abbrev Qwb:IL:=[jd 46 7 6,jb 47 0 7,je 48 47,jb 49 2 11,je 50 49,⟨some 51,.val (.build [.int .i64 0,.int .i64 0,.int .u64 0,.str []] [(0,1,(.t 48)),(1,1,(.c (.int .i64 0))),(2,1,(.t 50))]),none⟩,ju 52 52 46 51,jf 7 8 52,jc 9 0]
abbrev Qb6:IL:=[ja 53 12,js 54 53 0]
abbrev Qb7:IL:=[jd 55 7 6,ja 56 12,jf 7 8 55,ja 9 56]
abbrev Qb8:IL:=[jb 57 3 7,je 58 57,js 59 58 4]
abbrev Qb9:IL:=[jd 60 3 5,jd 61 7 6,jd 62 8 7,jd 63 7 13,zb 64 146 60 61 62 63,jf 7 8 64,jc 9 0]
abbrev Qca:IL:=[jd 66 7 6,jb 67 0 7,je 68 67,ju 69 37 66 68,ja 65 69,jg 70 65 0,jg 71 65 1,jt 14 14,jf 7 14 70,ja 15 71]
abbrev Qcb:IL:=[ja 72 15,yd 73 72]
abbrev Qcc:IL:=[ja 74 0,⟨some 75,.callG (.f 25) [(.t 74),(.c (.int .i64 1))],none⟩,ja 16 75]
abbrev Qcd:IL:=[ja 76 16,js 77 76 0]
abbrev Qce:IL:=[jd 78 7 6,ja 79 16,jf 7 8 78,ja 9 79]
abbrev Qcf:IL:=[ji 80 0 5 3 5,ji 81 0 6 7 6,ji 82 0 7 8 7,ji 83 0 14 7 14,ji 84 0 13 7 13,ju 85 150 83 84,zb 86 146 80 81 82 85,jj 0 8 7 8 86,jc 9 0]
abbrev r95:RC:=jQ Qv2 (.seq (jQ Qv3 (jQ Qv4 (.cond (.t 20) (jQ Qv5 (.ret)) (.skip)))) (jQ Qv6 (.seq (jQ Qv7 (.cond (.t 31) (jQ Qv8 (.ret)) (.skip))) (jD Qv9 (.seq (jQ Qwa (.cond (.t 45) (jQ Qwb (.ret)) (.skip))) (.seq (jQ Qb6 (.cond (.t 54) (jQ Qb7 (.ret)) (.skip))) (.seq (jQ Qb8 (.cond (.t 59) (jQ Qb9 (.ret)) (.skip))) (jQ Qca (.seq (jQ Qcb (.cond (.t 73) (jQ Qcc (jQ Qcd (.cond (.t 77) (jQ Qce (.ret)) (.skip)))) (.skip))) (jD Qcf (.ret)))))))))))
abbrev o95:List RR:=[.cell 8 (some 7),.tmp 9]
theorem k95:CT 95 87 r95 o95:=ck Tryz.func95 Tryz.ntmps95 (by decide +kernel)
def Ca:IL:=[yw 2]
def Cb:IL:=[ja 3 0,⟨some 4,.isnil false (.t 3),none⟩]
def Cc:IL:=[yw 2]
def Cd:IL:=[zx 5 5 8,ja 6 0,yj 7 8 136 56 5 6,ja 2 7]
def SQ:RC:=jQ Ca (.seq (jQ Cb (.cond (.t 4) (jQ Cc (.gho (.vec 2 2 8) (.gho (.give 2 2 1 1000) (.ret)))) (.skip))) (jQ Cd (.gho (.give 2 5 1 1000) (.ret))))
def NW:List RR:=[.tmp 2]
theorem k97:CT 97 8 SQ NW:=ck Tryz.func97 Tryz.ntmps97 (by decide +kernel)
abbrev Qwc:IL:=[ja 4 0,ja 5 0,jp 6 1 5,ja 7 1,⟨some 8,.callF (.f 155) [(.t 4),(.t 6),(.t 7)],none⟩]
abbrev r98:RC:=.reg Qwc
abbrev o98:List RR:=[]
theorem k98:CT 98 9 r98 o98:=ck Tryz.func98 Tryz.ntmps98 (by decide +kernel)
abbrev Qwd:IL:=[jh 2 2 0,jh 3 3 1,jc 4 0]
abbrev Qwe:IL:=[jb 5 0 2,je 6 5,jb 7 0 3,je 8 7,ju 9 60 6 8,ja 4 9]
abbrev r99:RC:=jQ Qwd (jQ Qwe (.ret))
abbrev o99:List RR:=[.tmp 4]
theorem k99:CT 99 10 r99 o99:=ck Tryz.func99 Tryz.ntmps99 (by decide +kernel)
abbrev Qch:IL:=[jh 2 2 0,jq 3]
abbrev Qci:IL:=[jb 4 0 2,je 5 4,je 6 1,zh 7 5 6,ja 3 7]
abbrev Qcj:RC:=jQ Qch (jQ Qci (.ret))
abbrev Qck:List RR:=[.tmp 3]
theorem Qcl:CT 100 8 Qcj Qck:=ck Tryz.func100 Tryz.ntmps100 (by decide +kernel)
abbrev Qcm:IL:=[jh 2 2 0,jh 3 3 1,zd 4 4,jq 5]
abbrev Qcn:IL:=[jb 7 1 3,je 8 7,jb 9 0 2,je 10 9,MZ 11 156 8 10,ja 6 11]
abbrev Qco:IL:=[ja 12 6,ym 13 12 0]
abbrev Qcp:IL:=[⟨some 14,.val (.build [.int .i64 0,.str [],.str [],.int .i64 0,.int .i64 0,.int .i64 0,.int .i64 0,.int .i64 0] []),none⟩,jf 8 4 14,jq 5]
abbrev Qcq:IL:=[jb 15 1 3,je 16 15,ja 17 6,jr 18 8 16 17,jd 19 8 18,jf 8 4 19,yi 5]
abbrev Qcr:RC:=jQ Qcm (jQ Qcn (.seq (jQ Qco (.cond (.t 13) (jQ Qcp (.ret)) (.skip))) (jQ Qcq (.ret))))
abbrev Qcs:List RR:=[.cell 4 (some 8),.tmp 5]
theorem Qct:CT 101 20 Qcr Qcs:=ck Tryz.func101 Tryz.ntmps101 (by decide +kernel)
abbrev Qcu:IL:=[jh 3 3 0,jh 4 4 1,jh 5 5 2,jt 6 6]
abbrev Qcv:IL:=[jb 7 5 4,je 8 7,jn 9 8 10]
abbrev Qcw:IL:=[jd 10 2 3,jb 11 6 4,je 12 11,jd 13 7 5,yp 14 27 10 12 13,jf 7 6 14]
abbrev Qcx:IL:=[jd 15 7 5,jl 16 104 15,jf 7 6 16]
abbrev Qcy:RC:=jQ Qcu (.seq (jQ Qcv (.cond (.t 9) (jQ Qcw (.ret)) (.skip))) (jQ Qcx (.ret)))
abbrev Qcz:List RR:=[.cell 6 (some 7)]
theorem RG:CT 102 17 Qcy Qcz:=ck Tryz.func102 Tryz.ntmps102 (by decide +kernel)
abbrev QcA:IL:=[jh 1 1 0,jt 2 2]
abbrev QcB:IL:=[jb 3 0 1,je 4 3,jn 5 4 6,ja 6 5,jo 7 1 1 6,jx 8 7 6,za 9 162 8 6,yo 10 9 0 6,jm 11 6 10]
abbrev QcC:IL:=[jb 12 1 1,⟨none,.store 1 (.t 12) (.c (.int .u64 9221120237041090560)),none⟩]
abbrev QcD:IL:=[jd 13 7 1,jf 7 2 13]
abbrev QcE:RC:=jQ QcA (.seq (jQ QcB (.cond (.t 11) (.reg QcC) (.skip))) (jQ QcD (.ret)))
abbrev QcF:List RR:=[.cell 2 (some 7)]
theorem QcG:CT 104 14 QcE QcF:=ck Tryz.func104 Tryz.ntmps104 (by decide +kernel)
abbrev QcH:IL:=[jh 1 1 0,jq 2]
abbrev QcI:IL:=[jb 3 0 1,je 4 3,jl 5 163 4,ja 6 5,yy 7 7 1 6,za 8 164 7 6,jm 9 6 8,ja 10 9,jo 11 1 1 10,jx 12 11 10,⟨some 13,.val (.bin .num .eql (.t 12) (.c (.int .u64 0))),(some (10,true))⟩,jm 14 10 13,ja 15 14,jo 16 2 1 15,jx 17 16 15,⟨some 18,.val (.bin .str .eql (.t 17) (.c (.str []))),(some (15,true))⟩,jm 19 15 18,ja 2 19]
abbrev QcJ:RC:=jQ QcH (jQ QcI (.ret))
abbrev QcK:List RR:=[.tmp 2]
theorem QcL:CT 105 20 QcJ QcK:=ck Tryz.func105 Tryz.ntmps105 (by decide +kernel)
abbrev QcM:IL:=[yl 2 0,jc 3 0,jc 4 0]
abbrev QcN:IL:=[yl 5 0]
abbrev QcO:IL:=[jc 6 0]
abbrev QcP:IL:=[ja 8 6,ja 9 0,jp 10 0 9,zh 11 8 10]
abbrev QcQ:IL:=[yl 2 0,jc 3 0,jc 4 4]
abbrev QcR:IL:=[ja 12 0,ja 13 6,zw 14 12 13,ja 7 14]
abbrev QcS:IL:=[ja 15 6,jn 16 15 9,ja 17 16,jk 18 7 17,⟨some 19,.val (.bin .num .gtr (.t 18) (.c (.int .u8 1))),(some (17,true))⟩,jm 20 17 19]
abbrev QcT:IL:=[yl 2 0,jc 3 0,jc 4 6]
abbrev QcU:IL:=[ja 21 5,ja 22 7,⟨some 23,.val (.bin .num .and (.t 22) (.c (.int .u8 127))),none⟩,zp 24 23,ja 25 6,NM 26 7 25,⟨some 27,.val (.bin .num .shl (.t 24) (.t 26)),none⟩,⟨some 28,.val (.bin .num .or (.t 21) (.t 27)),none⟩,ja 5 28]
abbrev QcV:IL:=[ja 29 6,jw 30 29 1,ja 6 30]
abbrev A2:IL:=[ja 32 7,⟨some 33,.val (.bin .num .lss (.t 32) (.c (.int .u8 128))),none⟩,ja 31 33]
abbrev QcW:RC:=.block 1 (.seq (jQ QcP (.cond (.t 11) (jQ QcQ (.ret)) (.skip))) (jQ QcR (.seq (jQ QcS (.cond (.t 20) (jQ QcT (.ret)) (.skip))) (jQ QcU (jQ QcV (.block 2 (jQ A2 (.cond (.t 31) (.exit 0) (.skip)))))))))
abbrev A3:IL:=[ja 34 5,ja 35 6,ja 2 34,ja 3 35,jc 4 0]
abbrev QcX:RC:=jQ QcM (.scope (jQ QcN (jQ QcO (.seq (.lab) (.seq (.block 0 (.loop QcW)) (jQ A3 (.ret)))))))
abbrev QcY:List RR:=[.tmp 2,.tmp 3,.tmp 4]
theorem QcZ:CT 139 36 QcX QcY:=ck Tryz.func139 Tryz.ntmps139 (by decide +kernel)
abbrev Qc0:IL:=[jh 2 2 0,ys 4]
abbrev Qc1:IL:=[jd 5 6 2,jl 6 88 5,yd 7 6]
abbrev Qc2:IL:=[ys 4]
abbrev Qc3:IL:=[jb 8 0 2,je 9 8,jb 10 1 2,je 11 10,jb 12 2 2,je 13 12,jb 14 1 2,je 15 14,ja 16 1,yk 17 15 16,⟨some 18,.val (.mnx false (.t 13) (.t 17)),none⟩,NT 19 9 11 18,ja 4 19]
abbrev Qc4:RC:=jQ Qc0 (.seq (jQ Qc1 (.cond (.t 7) (jQ Qc2 (.ret)) (.skip))) (jQ Qc3 (.ret)))
abbrev Qc5:List RR:=[.tmp 4]
theorem Qc6:CT 140 20 Qc4 Qc5:=ck Tryz.func140 Tryz.ntmps140 (by decide +kernel)
abbrev Qc7:IL:=[jh 2 2 0,jy 4 4]
abbrev Qc8:IL:=[jb 5 1 2,je 6 5,ja 7 1,yk 8 6 7,jb 9 1 2,jf 1 9 8]
abbrev Qc9:IL:=[jd 10 6 2,jf 6 4 10]
abbrev Qda:RC:=jQ Qc7 (jQ Qc8 (jQ Qc9 (.ret)))
abbrev Qdb:List RR:=[.cell 4 (some 6)]
theorem Qdc:CT 141 11 Qda Qdb:=ck Tryz.func141 Tryz.ntmps141 (by decide +kernel)
abbrev Qdd:IL:=[jc 2 0,jc 3 0]
abbrev Qde:IL:=[ja 8 0,yf 9 8,jb 10 2 9,jd 11 6 10,jl 12 89 11,ja 7 12,jg 13 7 0,jg 14 7 1,jg 15 7 2,jy 5 5,ja 4 13,jf 6 5 14,ja 6 15]
abbrev Qdf:IL:=[ja 16 6,js 17 16 0]
abbrev Qdg:IL:=[ja 18 6,jc 2 0,ja 3 18]
abbrev Qdh:IL:=[ja 19 4,jd 20 6 5,jl 21 48 20,zp 22 21,yr 23 19 22]
abbrev Qdi:IL:=[jc 2 0,jc 3 4]
abbrev Qdj:IL:=[ja 24 0,jd 25 6 5,yf 26 24,jb 27 2 26,jf 6 27 25]
abbrev Qdk:IL:=[ja 28 4,yv 29 28,ja 2 29,jc 3 0]
abbrev Qdl:RC:=jQ Qdd (jQ Qde (.seq (jQ Qdf (.cond (.t 17) (jQ Qdg (.ret)) (.skip))) (.seq (jQ Qdh (.cond (.t 23) (jQ Qdi (.ret)) (.skip))) (jQ Qdj (jQ Qdk (.ret))))))
abbrev Qdm:List RR:=[.tmp 2,.tmp 3]
theorem Qdn:CT 142 30 Qdl Qdm:=ck Tryz.func142 Tryz.ntmps142 (by decide +kernel)
abbrev Qdo:IL:=[jy 4 4]
abbrev Qdp:IL:=[ja 6 0,yf 7 6,jb 8 2 7,jd 9 6 8,jy 5 5,jf 6 5 9]
abbrev Qdq:IL:=[ja 10 0,ja 11 0,yf 12 11,jb 13 2 12,jb 14 1 13,je 15 14,ja 16 1,yk 17 15 16,yf 18 10,jb 19 2 18,jb 20 2 19,jf 1 20 17]
abbrev Qdr:IL:=[jd 21 6 5,jf 6 4 21]
abbrev Qds:RC:=jQ Qdo (jQ Qdp (jQ Qdq (jQ Qdr (.ret))))
abbrev Qdt:List RR:=[.cell 4 (some 6)]
theorem Qdu:CT 143 22 Qds Qdt:=ck Tryz.func143 Tryz.ntmps143 (by decide +kernel)
abbrev Qdv:IL:=[jh 3 3 1]
abbrev Qdw:IL:=[ja 4 0,yf 5 4,jb 6 2 5,jb 7 2 6,⟨some 8,.val (.loado none (.t 7)),none⟩,ja 9 0,yf 10 9,jb 11 2 10,jb 12 4 11,⟨some 13,.val (.loado none (.t 12)),none⟩,jb 14 1 3,jj 0 3 1 14 8,jb 15 4 3,jj 0 3 1 15 13]
abbrev Qdx:IL:=[ja 16 0,jd 17 6 3,yf 18 16,jb 19 2 18,jf 6 19 17]
abbrev Qdy:RC:=jQ Qdv (jD Qdw (.reg Qdx))
abbrev Qdz:List RR:=[]
theorem QdA:CT 145 20 Qdy Qdz:=ck Tryz.func145 Tryz.ntmps145 (by decide +kernel)
abbrev QdB:IL:=[jh 4 4 0,jh 5 5 1,jh 6 6 2,jh 7 7 3,jt 8 8]
abbrev QdC:IL:=[jb 14 6 5,je 15 14,⟨some 16,.val (.build [.int .i64 0,.int .u64 0,.str [],.nils,.nils,.nils,.nils] [(0,1,(.c (.int .i64 10))),(6,1,(.t 15))]),none⟩,jt 9 9,jf 7 9 16]
abbrev QdD:IL:=[jb 17 5 5,je 18 17,jp 19 1 18,jc 20 0]
abbrev QdE:IL:=[jv 21 20 19]
abbrev QdF:IL:=[jr 22 8 18 20,jd 23 8 22,⟨some 11,.allocN 11 [.int .i64 0,.int .i64 0,.int .u64 0,.str [],.nils,.nils,.nils,.nils],none⟩,jf 8 11 23]
abbrev QdG:IL:=[jb 24 0 11,je 25 24,jb 26 0 6,je 27 26,zh 28 25 27]
abbrev QdH:IL:=[jd 30 3 4,jb 31 0 11,je 32 31,ju 33 55 30 32,ja 29 33,jg 34 29 0,jg 35 29 1,zd 12 12,jf 8 12 34,ja 13 35]
abbrev QdI:IL:=[ja 36 13,ja 37 36,jo 38 7 6 37,jx 39 38 37,NS 40 39 0 37,jm 41 37 40,ja 42 41,jo 43 7 12 42,jx 44 43 42,jo 45 7 6 42,jx 46 45 42,⟨some 47,.val (.bin .num .eql (.t 44) (.t 46)),(some (42,true))⟩,jm 48 42 47]
abbrev QdJ:IL:=[jb 49 5 9,je 50 49,jd 51 8 11,FT 52 8 1 0 8 51,yj 53 8 136 56 50 52,jb 54 5 9,jf 1 54 53]
abbrev QdK:IL:=[jw 55 20 1,ja 20 55]
abbrev QdL:RC:=.gho (.drop 12) (.gho (.drop 11) (jQ QdE (.seq (jX 21 0) (.seq (.block 1 (jQ QdF (.seq (jQ QdG (.cond (.t 28) (.exit 1) (.skip))) (.seq (jQ QdH (jQ QdI (.cond (.t 48) (.exit 1) (.skip)))) (.reg QdJ))))) (.reg QdK)))))
abbrev A4:IL:=[jb 56 5 9,je 57 56,jb 58 0 6,je 59 58,jd 60 7 7,⟨some 61,.val (.build [.int .i64 0,.int .i64 0,.int .u64 0,.str [],.nils,.nils,.nils,.nils] [(0,1,(.t 59)),(1,7,(.t 60))]),none⟩,FT 62 8 1 0 8 61,yj 63 8 136 56 57 62,jb 64 5 9,jf 1 64 63]
abbrev A5:IL:=[jd 65 7 9,jf 7 8 65]
abbrev QdM:RC:=jQ QdB (jQ QdC (.gho (.vecc 9 5 1100 8) (.seq (jQ QdD (.block 0 (.loop QdL))) (jQ A4 (jQ A5 (.ret))))))
abbrev QdN:List RR:=[.cell 8 (some 7)]
theorem QdO:CT 146 66 QdM QdN:=ck Tryz.func146 Tryz.ntmps146 (by decide +kernel)
abbrev QdP:IL:=[jh 1 1 0,⟨some 2,.val (.mov (.c (.int .u8 0))),none⟩,jy 3 3,jc 4 0]
abbrev QdQ:IL:=[jd 5 6 1,jl 6 48 5,ym 7 6 1]
abbrev QdR:IL:=[ji 8 0 1 6 1,⟨some 2,.val (.mov (.c (.int .u8 0))),none⟩,jj 0 3 6 3 8,jc 4 4]
abbrev QdS:IL:=[jb 9 0 1,yg 10 0 1 9,jb 11 1 1,yg 12 0 1 11,zw 13 10 12,ji 14 0 1 6 1,zj 15 141 14 1,ja 2 13,jj 0 3 6 3 15,jc 4 0]
abbrev QdT:RC:=jQ QdP (.seq (jQ QdQ (.cond (.t 7) (jD QdR (.ret)) (.skip))) (jD QdS (.ret)))
abbrev QdU:List RR:=[.tmp 2,.cell 3 (some 6),.tmp 4]
theorem QdV:CT 147 16 QdT QdU:=ck Tryz.func147 Tryz.ntmps147 (by decide +kernel)
abbrev QdW:IL:=[jh 1 1 0,jc 2 0]
abbrev QdX:IL:=[jb 4 3 1,je 5 4,jn 6 5 5,ja 3 6]
abbrev QdY:IL:=[jc 2 6]
abbrev QdZ:IL:=[jd 8 8 1,jl 9 91 8,ja 7 9]
abbrev Qd0:IL:=[jc 2 5]
abbrev Qd1:IL:=[jb 10 5 1,je 11 10]
abbrev Qd2:IL:=[jn 13 11 1,ja 12 13]
abbrev Qd3:IL:=[jn 14 11 4,ja 12 14]
abbrev Qd4:IL:=[jn 15 11 5,ja 12 15]
abbrev Qd5:IL:=[jn 16 11 9,ja 12 16]
abbrev A6:IL:=[jc 2 0]
abbrev A7:IL:=[jn 18 11 2,ja 17 18]
abbrev A8:IL:=[jn 19 11 3,ja 17 19]
abbrev A9:IL:=[jc 2 1]
abbrev Ea:IL:=[jn 21 11 6,ja 20 21]
abbrev Eb:IL:=[jc 2 2]
abbrev Ec:IL:=[jn 23 11 7,ja 22 23]
abbrev Ed:IL:=[jn 24 11 8,ja 22 24]
abbrev Ee:IL:=[jc 2 3]
abbrev Ef:IL:=[jn 26 11 10,ja 25 26]
abbrev Eg:IL:=[jc 2 4]
abbrev Eh:IL:=[jc 2 (-1)]
abbrev Qd6:RC:=jQ QdW (.seq (.block 0 (jQ QdX (.cond (.t 3) (jQ QdY (.ret)) (jQ QdZ (.cond (.t 7) (jQ Qd0 (.ret)) (.skip)))))) (.seq (jQ Qd1 (.block 1 (.seq (jQ Qd2 (.cond (.t 12) (.skip) (jQ Qd3 (.cond (.t 12) (.skip) (jQ Qd4 (.cond (.t 12) (.skip) (.reg Qd5))))))) (.cond (.t 12) (jQ A6 (.ret)) (.seq (jQ A7 (.cond (.t 17) (.skip) (.reg A8))) (.cond (.t 17) (jQ A9 (.ret)) (jQ Ea (.cond (.t 20) (jQ Eb (.ret)) (.seq (jQ Ec (.cond (.t 22) (.skip) (.reg Ed))) (.cond (.t 22) (jQ Ee (.ret)) (jQ Ef (.cond (.t 25) (jQ Eg (.ret)) (.skip))))))))))))) (jQ Eh (.ret))))
abbrev Qd7:List RR:=[.tmp 2]
theorem Qd8:CT 148 27 Qd6 Qd7:=ck Tryz.func148 Tryz.ntmps148 (by decide +kernel)
abbrev Qd9:IL:=[jh 2 2 0,jh 3 3 1,jt 4 4]
abbrev Qea:IL:=[jb 6 3 2,je 7 6,jp 8 1 7,ja 5 8]
abbrev Qeb:IL:=[jb 9 3 2,yg 10 0 2 9,ja 11 5,ja 12 5,⟨some 13,.val (.slcl (.t 10) (.t 11) (.t 12)),none⟩,ji 14 0 3 7 3,SJ 15 7 1 0 7 14,⟨some 16,.appc 16 7 128 35 (.t 13) (.t 15),none⟩,⟨some 17,.val (.build [.int .i64 0,.int .u64 0,.str [],.nils,.nils,.nils,.nils] [(0,1,(.c (.int .i64 11))),(3,1,(.t 16))]),none⟩,jj 0 4 7 4 17]
abbrev Qec:RC:=jQ Qd9 (jQ Qea (jD Qeb (.ret)))
abbrev Qed:List RR:=[.cell 4 (some 7)]
theorem Qee:CT 150 18 Qec Qed:=ck Tryz.func150 Tryz.ntmps150 (by decide +kernel)
abbrev Qef:IL:=[ze 4 4,jc 5 0]
abbrev Qeg:IL:=[ja 10 1,⟨some 11,.val (.build [.int .i64 0,.int .i64 0,.int .u64 0,.str []] [(1,1,(.t 10))]),none⟩,ze 6 6,jf 4 6 11]
abbrev Qeh:IL:=[jc 7 0]
abbrev Qei:IL:=[ja 12 1]
abbrev Qej:IL:=[jn 27 12 3,ja 26 27]
abbrev Qek:IL:=[ja 29 0,⟨some 30,.callG (.f 142) [(.t 29)],none⟩,ja 28 30,jg 31 28 0,jg 32 28 1,ja 8 31,ja 9 32]
abbrev Qel:IL:=[ja 33 9,js 34 33 0]
abbrev Qem:IL:=[jd 35 4 6,ja 36 9,jf 4 4 35,ja 5 36]
abbrev Qen:IL:=[ja 38 0,ja 39 0,yf 40 39,jb 41 2 40,jd 42 6 41,ja 43 8,ju 44 183 42 43,ja 37 44,jg 45 37 0,jg 46 37 1,jg 47 37 2,jb 48 3 6,jf 1 48 45,yf 49 38,jb 50 2 49,jf 6 50 46,ja 7 47]
abbrev Ei:IL:=[jn 52 12 2,ja 51 52]
abbrev Ej:IL:=[ja 54 0,ja 55 0,yf 56 55,jb 57 2 56,jd 58 6 57,jl 59 153 58,ja 53 59,jg 60 53 0,jg 61 53 1,jg 62 53 2,jb 63 2 6,jf 1 63 60,yf 64 54,jb 65 2 64,jf 6 65 61,ja 7 62]
abbrev Qeo:IL:=[ja 14 0,ja 15 0,yf 16 15,jb 17 2 16,jd 18 6 17,jl 19 89 18,ja 13 19,jg 20 13 0,jg 21 13 1,jg 22 13 2,jb 23 2 6,jf 1 23 20,yf 24 14,jb 25 2 24,jf 6 25 21,ja 7 22]
abbrev Ek:IL:=[jd 66 4 6,ja 67 7,jf 4 4 66,ja 5 67]
abbrev Qep:RC:=jQ Qef (jQ Qeg (jQ Qeh (.seq (jQ Qei (.block 0 (jQ Qej (.cond (.t 26) (jQ Qek (.seq (jQ Qel (.cond (.t 34) (jQ Qem (.ret)) (.skip))) (.reg Qen))) (jQ Ei (.cond (.t 51) (.reg Ej) (.reg Qeo))))))) (jQ Ek (.ret)))))
abbrev Qeq:List RR:=[.cell 4 (some 4),.tmp 5]
theorem Qer:CT 151 68 Qep Qeq:=ck Tryz.func151 Tryz.ntmps151 (by decide +kernel)
abbrev Qes:IL:=[jh 3 3 0,jh 4 4 1,jh 5 5 2,jt 6 6,jc 7 0]
abbrev Qet:IL:=[jb 9 5 4,je 10 9,jl 11 163 10,yd 12 11]
abbrev Qeu:IL:=[yh 13,jf 7 6 13,jc 7 12]
abbrev Qev:IL:=[jb 14 1 5,yg 15 0 5 14,ji 16 0 4 8 4,jl 17 93 16,yx 18 15 17]
abbrev Qew:IL:=[yh 19,jf 7 6 19,jc 7 13]
abbrev Qex:IL:=[jb 20 1 5,je 21 20,jn 22 21 3]
abbrev Qey:IL:=[jb 23 5 4,je 24 23,jn 25 24 7,ja 26 25,jo 27 3 5 26,jx 28 27 26,za 29 184 28 26,zt 30 29 26,jm 31 26 30]
abbrev Qez:IL:=[yh 32,jf 7 6 32,jc 7 7]
abbrev QeA:IL:=[jb 33 5 4,je 34 33,jb 35 3 5,je 36 35,⟨some 37,.val (.build [.int .i64 0,.int .u64 0,.str [],.nils,.nils,.nils,.nils] [(0,1,(.t 34)),(2,1,(.t 36))]),none⟩,jf 7 6 37,jc 7 0]
abbrev QeB:IL:=[jb 38 5 4,je 39 38,jb 40 2 5,je 41 40,⟨some 42,.val (.build [.int .i64 0,.int .u64 0,.str [],.nils,.nils,.nils,.nils] [(0,1,(.t 39)),(1,1,(.t 41))]),none⟩,jt 8 8,jf 7 8 42]
abbrev Em:IL:=[jb 43 1 5,je 44 43,jn 45 44 1]
abbrev Eo:IL:=[jb 46 2 5,je 47 46,jl 48 185 47,zp 49 48,jb 50 1 8,jf 1 50 49]
abbrev Ep:IL:=[jb 51 5 4,je 52 51,jd 53 7 8,ju 54 186 52 53,yd 55 54]
abbrev Er:IL:=[yh 56,jf 7 6 56,jc 7 6]
abbrev Es:IL:=[jb 57 5 4,je 58 57,jn 59 58 9,ja 60 59,yy 61 2 3 60,jo 62 6 4 60,jx 63 62 60,jo 64 1 8 60,jx 65 64 60,⟨some 66,.call (.f 187) [(.t 61),(.t 63),(.t 65)],(some (60,true))⟩,zt 67 66 60,jm 68 60 67]
abbrev Et:IL:=[yh 69,jf 7 6 69,jc 7 16]
abbrev Eu:IL:=[jd 70 7 8,jl 71 104 70,jf 7 6 71,jc 7 0]
abbrev QeC:RC:=jQ Qes (.seq (jQ Qet (.cond (.t 12) (jQ Qeu (.ret)) (.skip))) (.seq (jD Qev (.cond (.t 18) (jQ Qew (.ret)) (.skip))) (.seq (jQ Qex (.cond (.t 22) (.seq (jQ Qey (.cond (.t 31) (jQ Qez (.ret)) (.skip))) (jQ QeA (.ret))) (.skip))) (jQ QeB (.seq (jQ Em (.cond (.t 45) (.reg Eo) (.skip))) (.seq (jQ Ep (.cond (.t 55) (jQ Er (.ret)) (.skip))) (.seq (jQ Es (.cond (.t 68) (jQ Et (.ret)) (.skip))) (jQ Eu (.ret)))))))))
abbrev QeD:List RR:=[.cell 6 (some 7),.tmp 7]
theorem QeE:CT 152 72 QeC QeD:=ck Tryz.func152 Tryz.ntmps152 (by decide +kernel)
abbrev QeF:IL:=[jc 6 20]
abbrev QeG:IL:=[ja 10 6,jc 7 0,ja 8 10]
abbrev QeH:IL:=[ja 11 8,ja 12 1,NL 13 11 12]
abbrev QeI:IL:=[ja 14 0,ja 15 7,ja 16 8,ja 17 2,⟨some 18,.callF (.f 189) [(.t 14),(.t 15),(.t 16),(.t 17)],none⟩]
abbrev QeJ:IL:=[ja 19 8,ja 7 19]
abbrev QeK:IL:=[ja 20 8,ja 21 6,yk 22 20 21,ja 8 22]
abbrev QeL:RC:=.seq (jQ QeH (jX 13 0)) (.block 1 (jQ QeI (jQ QeJ (.reg QeK))))
abbrev QeM:IL:=[ja 23 0,ja 24 7,ja 25 1,ja 26 2,⟨some 27,.callF (.f 189) [(.t 23),(.t 24),(.t 25),(.t 26)],none⟩]
abbrev QeN:IL:=[ja 28 6,ja 29 1,jv 30 28 29]
abbrev QeO:IL:=[ja 31 6,NM 32 2 31,jc 7 0,ja 8 32]
abbrev QeP:IL:=[ja 33 8,ja 34 1,NL 35 33 34]
abbrev Ex:IL:=[ja 36 0,ja 37 7,ja 38 7,ja 39 6,yk 40 38 39,ja 41 8,ja 42 2,⟨some 43,.callF (.f 190) [(.t 36),(.t 37),(.t 40),(.t 41),(.t 42)],none⟩]
abbrev Ey:IL:=[ja 44 8,ja 7 44]
abbrev EA:IL:=[ja 45 8,ja 46 6,NM 47 2 46,yk 48 45 47,ja 8 48]
abbrev QeQ:RC:=.seq (jQ QeP (jX 35 4)) (.block 5 (jQ Ex (jQ Ey (.reg EA))))
abbrev EB:IL:=[ja 49 7,ja 50 6,yk 51 49 50,ja 9 51]
abbrev EC:IL:=[ja 52 9,ja 53 1,jv 54 52 53]
abbrev ED:IL:=[ja 55 0,ja 56 7,ja 57 9,ja 58 1,ja 59 2,⟨some 60,.callF (.f 190) [(.t 55),(.t 56),(.t 57),(.t 58),(.t 59)],none⟩]
abbrev EE:IL:=[ja 61 6,⟨some 62,.val (.bin .num .mul (.t 61) (.c (.int .i64 2))),none⟩,ja 6 62]
abbrev QeR:RC:=.seq (jQ QeN (jX 30 2)) (.block 3 (jQ QeO (.seq (.block 4 (.loop QeQ)) (.seq (jQ EB (jQ EC (.cond (.t 54) (.reg ED) (.skip)))) (.reg EE)))))
abbrev QeS:RC:=jQ QeF (jQ QeG (.seq (.block 0 (.loop QeL)) (jQ QeM (.block 2 (.loop QeR)))))
abbrev QeT:List RR:=[]
theorem QFQ:CT 155 63 QeS QeT:=ck Tryz.func155 Tryz.ntmps155 (by decide +kernel)
abbrev QeU:IL:=[jc 4 0]
abbrev QeV:IL:=[ja 6 0,jp 7 1 6,jc 8 0]
abbrev QeW:IL:=[jv 9 8 7]
abbrev QeX:IL:=[ja 10 8,ja 5 10]
abbrev QeY:IL:=[ja 11 1,ja 12 0,ja 13 5,jr 14 8 12 13,jd 15 8 14,⟨some 16,.callF (.t 11) [(.t 15)],none⟩]
abbrev QeZ:IL:=[ja 17 5,ja 4 17]
abbrev Qe0:IL:=[jw 18 8 1,ja 8 18]
abbrev Qe1:RC:=jQ QeW (.seq (jX 9 0) (.seq (.block 1 (jQ QeX (jQ QeY (.cond (.t 16) (jQ QeZ (.ret)) (.skip))))) (.reg Qe0)))
abbrev Qe2:IL:=[jc 4 (-1)]
abbrev Qe3:RC:=jQ QeU (.seq (jQ QeV (.block 0 (.loop Qe1))) (jQ Qe2 (.ret)))
abbrev Qe4:List RR:=[.tmp 4]
theorem Qe5:CT 156 19 Qe3 Qe4:=ck Tryz.func156 Tryz.ntmps156 (by decide +kernel)
def F0:IL:=[yw 2]
def F1:IL:=[ja 3 0,⟨some 4,.isnil false (.t 3),none⟩]
def F2:IL:=[yw 2]
def F3:IL:=[zx 5 5 14,ja 6 0,yj 7 14 256 113 5 6,ja 2 7]
def Ce:RC:=jQ F0 (.seq (jQ F1 (.cond (.t 4) (jQ F2 (.gho (.vec 2 2 14) (.gho (.give 2 2 1 1000) (.ret)))) (.skip))) (jQ F3 (.gho (.give 2 5 1 1000) (.ret))))
def De:List RR:=[.tmp 2]
theorem RH:CT 157 8 Ce De:=ck Tryz.func157 Tryz.ntmps157 (by decide +kernel)
abbrev Qe6:IL:=[jc 2 0]
abbrev Qe7:IL:=[ja 5 0,⟨some 6,.val (.bin .num .and (.t 5) (.c (.int .u64 9218868437227405312))),none⟩,ja 7 0,⟨some 8,.val (.bin .num .and (.t 7) (.c (.int .u64 4503599627370495))),none⟩,ja 3 6,ja 4 8]
abbrev Qe8:IL:=[ja 10 3,zn 11 10 9218868437227405312,ja 12 11,jk 13 4 12,⟨some 14,.val (.bin .num .neq (.t 13) (.c (.int .u64 0))),(some (12,true))⟩,jm 15 12 14,ja 9 15]
abbrev Qe9:IL:=[jc 2 0]
abbrev Qfa:IL:=[ja 17 3,zn 18 17 9218868437227405312,ja 16 18]
abbrev Qfb:IL:=[jc 2 1]
abbrev Qfc:IL:=[ja 20 3,zn 21 20 0,ja 22 21,jk 23 4 22,⟨some 24,.val (.bin .num .eql (.t 23) (.c (.int .u64 0))),(some (22,true))⟩,jm 25 22 24,ja 19 25]
abbrev Qfd:IL:=[jc 2 2]
abbrev Qfe:IL:=[ja 27 3,zn 28 27 0,ja 26 28]
abbrev Qff:IL:=[jc 2 3]
abbrev EF:IL:=[jc 2 4]
abbrev Qfg:RC:=jQ Qe6 (.seq (jQ Qe7 (.block 0 (jQ Qe8 (.cond (.t 9) (jQ Qe9 (.ret)) (jQ Qfa (.cond (.t 16) (jQ Qfb (.ret)) (jQ Qfc (.cond (.t 19) (jQ Qfd (.ret)) (jQ Qfe (.cond (.t 26) (jQ Qff (.ret)) (.skip))))))))))) (jQ EF (.ret)))
abbrev Qfh:List RR:=[.tmp 2]
theorem Qfi:CT 162 29 Qfg Qfh:=ck Tryz.func162 Tryz.ntmps162 (by decide +kernel)
abbrev Qfj:IL:=[jq 2]
abbrev Qfk:IL:=[ja 3 0,zg 4 3 1,ja 5 4,jk 6 0 5,yz 7 6 9 5,jm 8 5 7,ja 2 8]
abbrev Qfl:RC:=jQ Qfj (jQ Qfk (.ret))
abbrev Qfm:List RR:=[.tmp 2]
theorem Qfn:CT 163 9 Qfl Qfm:=ck Tryz.func163 Tryz.ntmps163 (by decide +kernel)
abbrev Qfo:IL:=[jh 1 1 0,jq 2]
abbrev Qfp:IL:=[jb 3 3 1,je 4 3,jp 5 1 4,jb 6 4 1,je 7 6,jp 8 1 7,yk 9 5 8,jb 10 5 1,je 11 10,jp 12 1 11,yk 13 9 12,jb 14 6 1,je 15 14,jp 16 1 15,yk 17 13 16,zi 18 17 0]
abbrev Qfq:IL:=[jq 2]
abbrev Qfr:IL:=[jb 19 0 1,je 20 19,jl 21 202 20]
abbrev Qfs:IL:=[jb 22 1 1,je 23 22,zn 24 23 0,ja 2 24]
abbrev Qft:IL:=[jb 25 2 1,je 26 25,⟨some 27,.val (.bin .str .eql (.t 26) (.c (.str []))),none⟩,ja 2 27]
abbrev Qfu:RC:=jQ Qfo (.seq (jQ Qfp (.cond (.t 18) (jQ Qfq (.ret)) (.skip))) (.seq (jQ Qfr (.cond (.t 21) (jQ Qfs (.ret)) (.skip))) (jQ Qft (.ret))))
abbrev Qfv:List RR:=[.tmp 2]
theorem Qfw:CT 164 28 Qfu Qfv:=ck Tryz.func164 Tryz.ntmps164 (by decide +kernel)
abbrev Qfx:IL:=[jq 2]
abbrev Qfy:IL:=[ja 3 0,jl 4 206 3,ym 5 4 0,ja 2 5]
abbrev Qfz:RC:=jQ Qfx (jQ Qfy (.ret))
abbrev QfA:List RR:=[.tmp 2]
theorem QfB:CT 184 6 Qfz QfA:=ck Tryz.func184 Tryz.ntmps184 (by decide +kernel)
abbrev QfC:IL:=[jc 2 0]
abbrev QfD:IL:=[ja 3 0,⟨some 4,.val (.bin .num .shr (.t 3) (.c (.int .u64 1))),none⟩,yv 5 4,ja 6 0,⟨some 7,.val (.bin .num .and (.t 6) (.c (.int .u64 1))),none⟩,yv 8 7,⟨some 9,.val (.un .neg (.t 8)),none⟩,⟨some 10,.val (.bin .num .xor (.t 5) (.t 9)),none⟩,ja 2 10]
abbrev QfE:RC:=jQ QfC (jQ QfD (.ret))
abbrev QfF:List RR:=[.tmp 2]
theorem QfG:CT 185 11 QfE QfF:=ck Tryz.func185 Tryz.ntmps185 (by decide +kernel)
abbrev QfH:IL:=[jh 3 3 1,jq 4]
abbrev QfI:IL:=[ja 5 0,jl 6 163 5,yd 7 6,ja 8 7,jz 9 0 3 8,yb 10 9 8,yc 11 0 8,NR 12 10 11 8,ya 13 8 12,ja 14 13,NK 15 7 3 14,zs 16 164 15 14,FS 17 16 14,ya 18 14 17,ja 19 18,yc 20 0 19,jz 21 1 3 19,yb 22 21 19,⟨some 23,.call (.f 207) [(.t 20),(.t 22)],(some (19,false))⟩,FS 24 23 19,ya 25 19 24,ja 26 25,jz 27 2 3 26,yb 28 27 26,zm 29 0 28 26,zz 30 29 4096 26,ya 31 26 30]
abbrev QfJ:IL:=[jq 4]
abbrev QfK:IL:=[ja 32 0,js 33 32 7,ja 34 33,jz 35 2 3 34,yb 36 35 34,zs 37 184 36 34,ya 38 34 37,ja 4 38]
abbrev QfL:RC:=jQ QfH (.seq (jQ QfI (.cond (.t 31) (jQ QfJ (.ret)) (.skip))) (jQ QfK (.ret)))
abbrev QfM:List RR:=[.tmp 4]
theorem QfN:CT 186 39 QfL QfM:=ck Tryz.func186 Tryz.ntmps186 (by decide +kernel)
abbrev QfO:IL:=[jh 3 3 0,jh 5 5 2,jq 6]
abbrev QfP:IL:=[ja 8 1,ym 9 8 0,ja 10 9,yc 11 1 10,jz 12 1 3 10,yb 13 12 10,zm 14 1 13 10,⟨some 15,.val (.bin .num .geq (.t 11) (.t 14)),(some (10,false))⟩,ya 16 10 15,ja 17 16,yb 18 5 17,⟨some 19,.val (.bin .num .gtr (.t 18) (.c (.int .u64 2147483647))),(some (17,false))⟩,ya 20 17 19]
abbrev QfQ:IL:=[jq 6]
abbrev QfR:IL:=[jb 21 1 3,je 22 21,ja 23 1,jr 24 5 22 23,jd 25 5 24,⟨some 7,.allocN 7 [.str [],.bool false,.nils,.nils,.nils],none⟩,jf 5 7 25]
abbrev QfS:IL:=[jb 26 1 7,je 27 26,ja 28 27,jz 29 2 7 28,yb 30 29 28,⟨some 31,.val (.mkfn (.func 209) [] [(.t 5)]),(some (28,false))⟩,⟨some 32,.callF (.f 208) [(.t 30),(.t 31)],(some (28,false))⟩,ya 33 28 32,ja 6 33]
abbrev QfT:RC:=jQ QfO (.seq (jQ QfP (.cond (.t 20) (jQ QfQ (.ret)) (.skip))) (jQ QfR (jQ QfS (.ret))))
abbrev QfU:List RR:=[.tmp 6]
theorem QfV:CT 187 34 QfT QfU:=ck Tryz.func187 Tryz.ntmps187 (by decide +kernel)
abbrev QfW:IL:=[ja 10 1,jw 11 10 1,ja 8 11]
abbrev QfX:IL:=[ja 12 8,ja 13 2,jv 14 12 13]
abbrev QfY:IL:=[ja 17 8,ja 9 17]
abbrev QfZ:IL:=[ja 18 9,ja 19 1,yr 20 18 19,ja 21 20,jk 22 3 21,jk 23 0 21,jk 24 9 21,ye 25 8 23 24 21,zv 26 8 25 21,jk 27 0 21,jk 28 9 21,FV 29 28 1 21,ye 30 8 27 29 21,zv 31 8 30 21,⟨some 32,.call (.t 22) [(.t 26),(.t 31)],(some (21,true))⟩,⟨some 33,.val (.bin .num .lss (.t 32) (.c (.int .i64 0))),(some (21,true))⟩,jm 34 21 33]
abbrev Qf0:IL:=[ja 37 0,ja 38 9,ja 39 0,ja 40 9,WR 41 40 1,ja 42 0,ja 43 9,WR 44 43 1,jr 45 8 42 44,yn 46 8 45,ja 47 0,ja 48 9,jr 49 8 47 48,yn 50 8 49,jr 51 8 37 38,jf 8 51 46,jr 52 8 39 41,jf 8 52 50]
abbrev Qf1:IL:=[ja 35 9,WR 36 35 1,ja 9 36]
abbrev Qf2:RC:=.seq (jD QfZ (jX 34 2)) (.seq (.block 3 (.draw Qf0)) (.reg Qf1))
abbrev Qf3:IL:=[ja 15 8,jw 16 15 1,ja 8 16]
abbrev Qf4:RC:=.seq (jQ QfX (jX 14 0)) (.seq (.block 1 (jQ QfY (.block 2 (.loop Qf2)))) (.reg Qf3))
abbrev Qf5:RC:=jQ QfW (.block 0 (.loop Qf4))
abbrev Qf6:List RR:=[]
theorem QFR:CT 189 53 Qf5 Qf6:=ck Tryz.func189 Tryz.ntmps189 (by decide +kernel)
abbrev Qf7:IL:=[jq 2]
abbrev Qf8:IL:=[ja 3 0,jn 4 3 7,ja 5 4,yc 6 0 5,yu 7 6 8 5,ya 8 5 7,ja 2 8]
abbrev Qf9:RC:=jQ Qf7 (jQ Qf8 (.ret))
abbrev Qga:List RR:=[.tmp 2]
theorem Qgb:CT 202 9 Qf9 Qga:=ck Tryz.func202 Tryz.ntmps202 (by decide +kernel)
abbrev Qgc:IL:=[jq 4]
abbrev Qgd:IL:=[yl 5 4294967295]
abbrev Qge:IL:=[ja 6 0]
abbrev Qgf:IL:=[jn 8 6 1,ja 7 8]
abbrev Qgg:IL:=[jn 10 6 2,ja 9 10]
abbrev Qgh:IL:=[jn 12 6 9,ja 11 12]
abbrev Qgi:IL:=[jn 14 6 4,ja 13 14]
abbrev Qgj:IL:=[ja 15 1,⟨some 16,.val (.bin .num .leq (.t 15) (.c (.int .u64 1))),none⟩,ja 4 16]
abbrev Qgk:IL:=[ja 17 1,yv 18 17,zg 19 18 (-2147483648),ja 20 19,jk 21 1 20,⟨some 22,.val (.cvi .i64 (.t 21)),(some (20,true))⟩,yz 23 22 2147483647 20,jm 24 20 23,ja 4 24]
abbrev Qgl:IL:=[yl 5 2147483647]
abbrev EG:IL:=[ja 25 1,ja 26 5,NL 27 25 26,ja 4 27]
abbrev EH:IL:=[yi 4]
abbrev Qgm:RC:=jQ Qgc (jQ Qgd (.seq (jQ Qge (.block 0 (.seq (.block 4 (.seq (.block 3 (.seq (.block 2 (.seq (.block 1 (.seq (.seq (jQ Qgf (.cond (.t 7) (.exit 1) (.skip))) (.seq (jQ Qgg (.cond (.t 9) (.exit 2) (.skip))) (.seq (jQ Qgh (.cond (.t 11) (.exit 3) (.skip))) (jQ Qgi (.cond (.t 13) (.exit 4) (.skip)))))) (.exit 0))) (.seq (jQ Qgj (.ret)) (.exit 0)))) (.seq (jQ Qgk (.ret)) (.exit 0)))) (.reg Qgl))) (.seq (jQ EG (.ret)) (.exit 0))))) (jQ EH (.ret))))
abbrev Qgn:List RR:=[.tmp 4]
theorem Qgo:CT 207 28 Qgm Qgn:=ck Tryz.func207 Tryz.ntmps207 (by decide +kernel)
abbrev Qgp:IL:=[jq 4]
abbrev Qgq:IL:=[ja 5 0,ja 6 1,MZ 7 220 5 6,zg 8 7 0,ja 4 8]
abbrev Qgr:RC:=jQ Qgp (jQ Qgq (.ret))
abbrev Qgs:List RR:=[.tmp 4]
theorem Qgt:CT 208 9 Qgr Qgs:=ck Tryz.func208 Tryz.ntmps208 (by decide +kernel)
abbrev Qgu:IL:=[jh 2 2 0,jq 3]
abbrev Qgv:IL:=[jb 4 1 2,je 5 4,zp 6 5,je 7 1,zh 8 6 7,ja 3 8]
abbrev Qgw:RC:=jQ Qgu (jQ Qgv (.ret))
abbrev Qgx:List RR:=[.tmp 3]
theorem Qgy:CT 209 9 Qgw Qgx:=ck Tryz.func209 Tryz.ntmps209 (by decide +kernel)
abbrev Qgz:IL:=[jq 6]
abbrev QgA:IL:=[ja 7 2,⟨some 8,.val (.bin .num .eql (.t 7) (.c (.int .i32 65533))),none⟩,ja 9 8,jk 10 0 9,jk 11 1 9,⟨some 12,.val (.slc none (.t 10) (some (.t 11)) none none),(some (9,true))⟩,⟨some 13,.call (.f 225) [(.t 12),(.c (.str [239,191,189]))],(some (9,true))⟩,zt 14 13 9,jm 15 9 14,ja 6 15]
abbrev QgB:RC:=jQ Qgz (jQ QgA (.ret))
abbrev QgC:List RR:=[.tmp 6]
theorem QgD:CT 219 16 QgB QgC:=ck Tryz.func219 Tryz.ntmps219 (by decide +kernel)
abbrev QgE:IL:=[jc 4 0]
abbrev QgF:IL:=[ja 6 0,jp 7 1 6,jc 8 0]
abbrev QgG:IL:=[jv 9 8 7]
abbrev QgH:IL:=[ja 10 8,ja 5 10]
abbrev QgI:IL:=[ja 11 1,ja 12 0,ja 13 5,jr 14 3 12 13,jd 15 3 14,⟨some 16,.callF (.t 11) [(.t 15)],none⟩]
abbrev QgJ:IL:=[ja 17 5,ja 4 17]
abbrev QgK:IL:=[jw 18 8 1,ja 8 18]
abbrev QgL:RC:=jQ QgG (.seq (jX 9 0) (.seq (.block 1 (jQ QgH (jQ QgI (.cond (.t 16) (jQ QgJ (.ret)) (.skip))))) (.reg QgK)))
abbrev QgM:IL:=[jc 4 (-1)]
abbrev QgN:RC:=jQ QgE (.seq (jQ QgF (.block 0 (.loop QgL))) (jQ QgM (.ret)))
abbrev QgO:List RR:=[.tmp 4]
theorem QgP:CT 220 19 QgN QgO:=ck Tryz.func220 Tryz.ntmps220 (by decide +kernel)
abbrev QgQ:IL:=[jq 4]
abbrev QgR:IL:=[ja 5 0,ja 6 1,ju 7 227 5 6,ja 4 7]
abbrev QgS:RC:=jQ QgQ (jQ QgR (.ret))
abbrev QgT:List RR:=[.tmp 4]
theorem QgU:CT 225 8 QgS QgT:=ck Tryz.func225 Tryz.ntmps225 (by decide +kernel)
abbrev QgV:IL:=[jq 4]
abbrev QgW:IL:=[ja 5 0,jp 6 0 5,ja 7 1,jp 8 0 7,⟨some 9,.val (.bin .num .geq (.t 6) (.t 8)),none⟩,ja 10 9,jk 11 0 10,jk 12 1 10,yq 13 0 12 10,⟨some 14,.val (.slc none (.t 11) none (some (.t 13)) none),(some (10,true))⟩,jk 15 1 10,⟨some 16,.val (.bin .str .eql (.t 14) (.t 15)),(some (10,true))⟩,jm 17 10 16,ja 4 17]
abbrev QgX:RC:=jQ QgV (jQ QgW (.ret))
abbrev QgY:List RR:=[.tmp 4]
theorem QgZ:CT 227 18 QgX QgY:=ck Tryz.func227 Tryz.ntmps227 (by decide +kernel)
abbrev Qwf:IL:=[jh 1 1 0,ze 2 2,jy 3 3,jc 4 0]
abbrev Qwg:IL:=[jd 11 6 1,jl 12 49 11,ja 10 12,jg 13 10 0,jg 14 10 1,jg 15 10 2,jg 16 10 3,jy 7 7,ja 5 13,ja 6 14,jf 6 7 15,ja 8 16]
abbrev Qwh:IL:=[ja 17 8,js 18 17 0]
abbrev Qwi:IL:=[FY 19,ji 20 0 1 6 1,ja 21 8,jj 0 2 4 2 19,jj 0 3 6 3 20,ja 4 21]
abbrev Qwj:IL:=[jd 23 6 7,zj 24 47 23 1,ja 22 24,jg 25 22 0,jg 26 22 1,jf 6 7 25,ja 8 26]
abbrev Qwk:IL:=[ja 27 8,js 28 27 0]
abbrev Qwl:IL:=[FY 29,ji 30 0 1 6 1,ja 31 8,jj 0 2 4 2 29,jj 0 3 6 3 30,ja 4 31]
abbrev Qwm:IL:=[ja 32 5,ja 33 6,M1 34 0 1 32 1 1 33,ze 9 9,jf 4 9 34]
abbrev Qwn:IL:=[jd 36 6 7,MZ 37 96 36 9,ja 35 37,jg 38 35 0,jg 39 35 1,jf 6 7 38,ja 8 39]
abbrev Qwo:IL:=[ja 40 8,js 41 40 0]
abbrev Qg0:IL:=[FY 42,ji 43 0 1 6 1,ja 44 8,jj 0 2 4 2 42,jj 0 3 6 3 43,ja 4 44]
abbrev Qg1:IL:=[ji 45 0 9 4 9,ji 46 0 7 6 7,jj 0 2 4 2 45,jj 0 3 6 3 46,jc 4 0]
abbrev r51:RC:=jQ Qwf (jQ Qwg (.seq (jQ Qwh (.cond (.t 18) (jD Qwi (.ret)) (.skip))) (.seq (jQ Qwj (jQ Qwk (.cond (.t 28) (jD Qwl (.ret)) (.skip)))) (jQ Qwm (.seq (jQ Qwn (jQ Qwo (.cond (.t 41) (jD Qg0 (.ret)) (.skip)))) (jD Qg1 (.ret)))))))
abbrev o51:List RR:=[.cell 2 (some 4),.cell 3 (some 6),.tmp 4]
theorem k51:CT 51 47 r51 o51:=ck Tryz.func51 Tryz.ntmps51 (by decide +kernel)
abbrev Qwp:IL:=[jh 2 2 0,jy 4 4,jc 5 0]
abbrev Qwq:IL:=[jc 6 0]
abbrev Qwr:IL:=[ja 7 1,yf 8 7,jb 9 1 8,je 10 9]
abbrev Qws:IL:=[jn 25 10 0,ja 24 25]
abbrev Qwt:IL:=[jn 26 10 1,ja 24 26]
abbrev Qwu:IL:=[ja 28 1,jd 29 6 2,jl 30 89 29,ja 27 30,jg 31 27 0,jg 32 27 1,jg 33 27 2,yf 34 28,jb 35 2 34,jf 1 35 31,jf 6 2 32,ja 6 33]
abbrev Qwv:IL:=[jn 37 10 2,ja 36 37]
abbrev Qww:IL:=[ja 39 1,jd 40 6 2,jl 41 153 40,ja 38 41,jg 42 38 0,jg 43 38 1,jg 44 38 2,yf 45 39,jb 46 2 45,jf 1 46 42,jf 6 2 43,ja 6 44]
abbrev Qwx:IL:=[ja 12 1,ji 13 0 2 6 2,ja 14 1,yf 15 14,jb 16 1 15,⟨some 17,.val (.loado none (.t 16)),none⟩,ju 18 154 13 17,ja 11 18,jg 19 11 0,jg 20 11 1,jg 21 11 2,yf 22 12,jb 23 3 22,jf 1 23 19,jj 0 2 6 2 20,ja 6 21]
abbrev Qwy:IL:=[jd 47 6 2,ja 48 6,jf 6 4 47,ja 5 48]
abbrev r96:RC:=jQ Qwp (jQ Qwq (.seq (jQ Qwr (.block 0 (.seq (jQ Qws (.cond (.t 24) (.skip) (.reg Qwt))) (.cond (.t 24) (.reg Qwu) (jQ Qwv (.cond (.t 36) (.reg Qww) (.draw Qwx))))))) (jQ Qwy (.ret))))
abbrev o96:List RR:=[.cell 4 (some 6),.tmp 5]
theorem k96:CT 96 49 r96 o96:=ck Tryz.func96 Tryz.ntmps96 (by decide +kernel)
abbrev Qwz:IL:=[jh 2 2 0,jh 3 3 1,jt 4 4]
abbrev QwA:IL:=[jb 6 6 2,je 7 6,jp 8 1 7,ja 5 8]
abbrev QwB:IL:=[jb 9 6 2,yg 10 0 2 9,ja 11 5,ja 12 5,⟨some 13,.val (.slcl (.t 10) (.t 11) (.t 12)),none⟩,ji 14 0 3 4 3,⟨some 15,.bsl 4 1 [.int .i64 0,.int .i64 0,.int .u64 0,.str []] [(0,4,(.t 14))],none⟩,⟨some 16,.appc 16 4 40 86 (.t 13) (.t 15),none⟩,jb 17 6 2,jj 0 2 1 17 16]
abbrev QwC:IL:=[jd 18 7 2,jf 7 4 18]
abbrev r52:RC:=jQ Qwz (jQ QwA (jD QwB (jQ QwC (.ret))))
abbrev o52:List RR:=[.cell 4 (some 7)]
theorem k52:CT 52 19 r52 o52:=ck Tryz.func52 Tryz.ntmps52 (by decide +kernel)
abbrev QwD:IL:=[jh 2 2 0,jh 3 3 1,jc 4 0]
abbrev QwE:IL:=[jb 5 0 2,je 6 5,jb 7 0 3,je 8 7,ju 9 60 6 8,ja 4 9]
abbrev r59:RC:=jQ QwD (jQ QwE (.ret))
abbrev o59:List RR:=[.tmp 4]
theorem k59:CT 59 10 r59 o59:=ck Tryz.func59 Tryz.ntmps59 (by decide +kernel)
abbrev Qg2:IL:=[jh 1 1 0,yl 2 0,jy 3 3,jc 4 0]
abbrev Qg3:IL:=[jd 8 6 1,zj 9 140 8 8,jl 10 188 9,ja 7 10,jg 11 7 0,jg 12 7 1,ja 5 11,ja 6 12]
abbrev Qg4:IL:=[ja 13 6,js 14 13 0]
abbrev Qg5:IL:=[ji 15 0 1 6 1,ja 16 6,yl 2 0,jj 0 3 6 3 15,ja 4 16]
abbrev Qg6:IL:=[ja 17 5,jd 18 6 1,zj 19 141 18 8,ja 2 17,jf 6 3 19,jc 4 0]
abbrev QFS:RC:=jQ Qg2 (jQ Qg3 (.seq (jQ Qg4 (.cond (.t 14) (jD Qg5 (.ret)) (.skip))) (jQ Qg6 (.ret))))
abbrev QFT:List RR:=[.tmp 2,.cell 3 (some 6),.tmp 4]
theorem QFU:CT 153 20 QFS QFT:=ck Tryz.func153 Tryz.ntmps153 (by decide +kernel)
abbrev Qg7:IL:=[jh 2 2 0,ys 4,jy 5 5,jc 6 0]
abbrev Qg8:IL:=[jd 14 6 2,jl 15 89 14,ja 13 15,jg 16 13 0,jg 17 13 1,jg 18 13 2,jy 8 8,ja 7 16,jf 6 8 17,ja 9 18]
abbrev Qg9:IL:=[ja 19 9,js 20 19 0]
abbrev Qha:IL:=[ji 21 0 2 6 2,ja 22 9,ys 4,jj 0 5 6 5 21,ja 6 22]
abbrev Qhb:IL:=[jc 10 65536]
abbrev Qhc:IL:=[ja 23 1,jn 24 23 3]
abbrev Qhd:IL:=[jb 25 5 2,je 26 25,ja 10 26]
abbrev Qhe:IL:=[ja 27 7,jd 28 6 8,jl 29 48 28,zp 30 29,yr 31 27 30]
abbrev Qhf:IL:=[ji 32 0 2 6 2,ys 4,jj 0 5 6 5 32,jc 6 4]
abbrev Qhg:IL:=[ja 33 7,yv 34 33,ja 11 34]
abbrev EI:IL:=[ja 35 11,ja 36 10,yr 37 35 36]
abbrev EJ:IL:=[ji 38 0 2 6 2,ys 4,jj 0 5 6 5 38,jc 6 3]
abbrev EK:IL:=[jb 39 1 8,je 40 39,ja 12 40]
abbrev EL:IL:=[jb 41 1 8,je 42 41,ja 43 11,yk 44 42 43,jb 45 1 8,jf 1 45 44]
abbrev EM:IL:=[jb 46 0 8,yg 47 0 8 46,ja 48 12,jb 49 1 8,yg 50 0 8 49,NT 51 47 48 50,ji 52 0 8 6 8,ja 4 51,jj 0 5 6 5 52,jc 6 0]
abbrev QFV:RC:=jQ Qg7 (jQ Qg8 (.seq (jQ Qg9 (.cond (.t 20) (jD Qha (.ret)) (.skip))) (jQ Qhb (.seq (jQ Qhc (.cond (.t 24) (.reg Qhd) (.skip))) (.seq (jQ Qhe (.cond (.t 31) (jD Qhf (.ret)) (.skip))) (jQ Qhg (.seq (jQ EI (.cond (.t 37) (jD EJ (.ret)) (.skip))) (jQ EK (jQ EL (jD EM (.ret)))))))))))
abbrev QFW:List RR:=[.tmp 4,.cell 5 (some 6),.tmp 6]
theorem QFX:CT 154 53 QFV QFW:=ck Tryz.func154 Tryz.ntmps154 (by decide +kernel)
abbrev QwF:IL:=[jh 5 5 1,jh 6 6 2,jh 7 7 3,jt 8 8,jc 9 0]
abbrev QwG:IL:=[ja 27 0,⟨some 28,.callG (.f 142) [(.t 27)],none⟩,ja 26 28,jg 29 26 0,jg 30 26 1,ja 10 29,ja 11 30]
abbrev QwH:IL:=[ja 31 11,js 32 31 0]
abbrev QwI:IL:=[jd 33 7 6,ja 34 11,jf 7 8 33,ja 9 34]
abbrev QwJ:IL:=[jd 36 7 6,jb 37 0 7,je 38 37,ju 39 37 36 38,ja 35 39,jg 40 35 0,jg 41 35 1,jt 12 12,jf 7 12 40,ja 13 41]
abbrev QwK:IL:=[ja 42 0,ja 43 10,zy 44 143 42 43,jy 14 14,jf 6 14 44]
abbrev QwL:IL:=[jc 15 2]
abbrev QwM:IL:=[ja 45 13,yd 46 45]
abbrev QwN:IL:=[jc 15 3]
abbrev QwO:IL:=[ja 47 0,ja 48 15,zy 49 25 47 48,ja 16 49]
abbrev Qhh:IL:=[ja 50 16,js 51 50 0]
abbrev Qhi:IL:=[jd 52 7 6,ja 53 16,jf 7 8 52,ja 9 53]
abbrev Qhj:IL:=[jb 54 4 7,je 55 54,M2 56 0 1 55,jb 57 5 7,je 58 57,M2 59 0 1 58,⟨some 60,.val (.build [.int .i64 0,.int .u64 0,.str [],.nils,.nils,.nils,.nils,.int .i64 0,.int .u64 0,.str [],.nils,.nils,.nils,.nils] [(0,7,(.t 56)),(7,7,(.t 59))]),none⟩,MY 17 17,jf 14 17 60]
abbrev Qhk:IL:=[jq 18,jq 19]
abbrev Qhl:IL:=[ja 61 0,yf 62 61,jb 63 2 62,jd 64 6 63,jl 65 48 64,zi 66 65 0]
abbrev Qhm:IL:=[ja 68 0,yf 69 68,jb 70 2 69,jd 71 6 70,jl 72 49 71,ja 67 72,jg 73 67 0,jg 74 67 1,jg 75 67 2,jg 76 67 3,jy 22 22,ja 20 73,ja 21 74,jf 6 22 75,ja 23 76]
abbrev Qhn:IL:=[ja 78 23,js 79 78 0,ja 77 79]
abbrev Qho:IL:=[jd 80 7 6,ja 81 23,jf 7 8 80,ja 9 81]
abbrev Qhp:IL:=[ja 83 20,js 84 83 1,ja 85 84,jk 86 20 85,M3 87 86 2 85,jm 88 85 87,ja 82 88]
abbrev Qhq:IL:=[jd 89 7 6,jf 7 8 89,jc 9 18]
abbrev Qhr:IL:=[ja 91 20,jn 92 91 1,ja 93 92,jk 94 18 93,jm 95 93 94,ja 96 95,yc 97 20 96,yu 98 97 2 96,yc 99 98 96,jk 100 19 99,NI 101 99 100 96,ya 102 96 101,ja 90 102]
abbrev Qhs:IL:=[jd 103 7 6,jf 7 8 103,jc 9 9]
abbrev Qht:IL:=[ja 104 0,jd 105 6 22,yf 106 104,jb 107 2 106,jf 6 107 105]
abbrev Qhu:IL:=[ja 108 20,jn 109 108 1]
abbrev Qhv:IL:=[yi 18]
abbrev Qhw:IL:=[ja 111 0,jb 112 4 7,je 113 112,⟨some 114,.val (.build [.int .i64 0,.str [],.str [],.int .i64 0,.int .i64 0,.int .i64 0,.int .i64 0,.int .i64 0] [(5,1,(.t 113)),(6,1,(.c (.int .i64 (-1))))]),none⟩,ja 115 21,⟨some 116,.callG (.f 144) [(.t 111),(.t 114),(.t 115)],none⟩,ja 110 116,jg 117 110 0,jg 118 110 1,jb 119 0 17,jf 7 119 117,ja 23 118]
abbrev Qhx:IL:=[yi 19]
abbrev Qhy:IL:=[ja 121 0,jd 122 8 7,ja 123 21,⟨some 124,.callG (.f 144) [(.t 121),(.t 122),(.t 123)],none⟩,ja 120 124,jg 125 120 0,jg 126 120 1,jb 127 7 17,jf 7 127 125,ja 23 126]
abbrev Qhz:IL:=[ja 128 23,js 129 128 0]
abbrev QhA:IL:=[jd 130 7 6,ja 131 23,jf 7 8 130,ja 9 131]
abbrev SR:RC:=.gho (.drop 22) (.seq (jQ Qhl (jX 66 0)) (.block 1 (jQ Qhm (.seq (.block 2 (jQ Qhn (.cond (.t 77) (jQ Qho (.ret)) (jQ Qhp (.cond (.t 82) (jQ Qhq (.ret)) (jQ Qhr (.cond (.t 90) (jQ Qhs (.ret)) (.skip)))))))) (jQ Qht (.seq (jQ Qhu (.cond (.t 109) (jQ Qhv (.reg Qhw)) (jQ Qhx (.reg Qhy)))) (jQ Qhz (.cond (.t 129) (jQ QhA (.ret)) (.skip)))))))))
abbrev QhB:IL:=[ja 132 0,jd 133 6 14,zy 134 145 132 133]
abbrev QhC:IL:=[jb 135 4 12,je 136 135,jp 137 1 136,ja 24 137]
abbrev QhD:IL:=[jb 138 4 12,yg 139 0 12 138,ja 140 24,ja 141 24,⟨some 142,.val (.slcl (.t 139) (.t 140) (.t 141)),none⟩,ji 143 0 17 14 17,M0 144 14 1 0 14 143,⟨some 145,.appc 145 14 256 113 (.t 142) (.t 144),none⟩,ja 25 145]
abbrev QhE:IL:=[ji 146 0 5 3 5,ji 147 0 6 7 6,ji 148 0 7 8 7,ja 149 25,jl 150 103 149,⟨some 151,.val (.build [.int .i64 0,.int .u64 0,.str [],.nils,.nils,.nils,.nils] [(0,1,(.c (.int .i64 12))),(4,1,(.t 150))]),none⟩,zb 152 146 146 147 148 151,jj 0 8 7 8 152,jc 9 0]
abbrev r90:RC:=jQ QwF (jQ QwG (.seq (jQ QwH (.cond (.t 32) (jQ QwI (.ret)) (.skip))) (jQ QwJ (jQ QwK (jQ QwL (.seq (jQ QwM (.cond (.t 46) (.reg QwN) (.skip))) (.seq (jQ QwO (jQ Qhh (.cond (.t 51) (jQ Qhi (.ret)) (.skip)))) (jQ Qhj (jQ Qhk (.seq (.block 0 (.loop SR)) (jQ QhB (jQ QhC (jD QhD (.gho (.pub 25 145) (jD QhE (.ret))))))))))))))))
abbrev o90:List RR:=[.cell 8 (some 7),.tmp 9]
theorem k90:CT 90 153 r90 o90:=ck Tryz.func90 Tryz.ntmps90 (by decide +kernel)
abbrev QwP:IL:=[jh 5 5 1,jh 6 6 2,jh 7 7 3,jt 8 8,jc 9 0]
abbrev QwQ:IL:=[jd 19 7 6,jb 20 0 7,je 21 20,ju 22 37 19 21,ja 18 22,jg 23 18 0,jg 24 18 1,jt 10 10,jf 7 10 23,ja 11 24]
abbrev QwR:IL:=[NJ 25,jt 12 12,jf 7 12 25]
abbrev QwS:IL:=[jb 26 3 7,je 27 26,jn 28 27 4]
abbrev QwT:IL:=[jc 13 1]
abbrev QwU:IL:=[ja 29 11,yd 30 29]
abbrev QwV:IL:=[jc 13 2]
abbrev QwW:IL:=[ja 32 0,jb 33 6 7,je 34 33,jd 35 7 12,ja 36 13,NP 37 149 32 34 35 36,ja 31 37,jg 38 31 0,jg 39 31 1,jt 14 14,jf 7 14 38,ja 15 39]
abbrev QwX:IL:=[ja 40 15,js 41 40 0]
abbrev QwY:IL:=[jd 42 7 6,ja 43 15,jf 7 8 42,ja 9 43]
abbrev QhF:IL:=[ji 44 0 5 3 5,ji 45 0 6 7 6,ji 46 0 7 8 7,ji 47 0 10 7 10,ji 48 0 14 7 14,ju 49 150 47 48,zb 50 146 44 45 46 49,jj 0 8 7 8 50,jc 9 0]
abbrev QhG:IL:=[ja 51 11,yd 52 51]
abbrev QhH:IL:=[jd 53 7 12,jf 7 10 53]
abbrev QhI:IL:=[ja 55 0,jb 56 6 7,je 57 56,jd 58 7 10,⟨some 59,.callG (.f 149) [(.t 55),(.t 57),(.t 58),(.c (.int .i64 1))],none⟩,ja 54 59,jg 60 54 0,jg 61 54 1,jt 16 16,jf 7 16 60,ja 17 61]
abbrev QhJ:IL:=[ja 62 17,js 63 62 0]
abbrev QhK:IL:=[jd 64 7 6,ja 65 17,jf 7 8 64,ja 9 65]
abbrev QhL:IL:=[jd 66 3 5,jd 67 7 6,jd 68 8 7,jd 69 7 16,zb 70 146 66 67 68 69,jf 7 8 70,jc 9 0]
abbrev r94:RC:=jQ QwP (jQ QwQ (jQ QwR (.seq (jQ QwS (.cond (.t 28) (jQ QwT (.seq (jQ QwU (.cond (.t 30) (.reg QwV) (.skip))) (jQ QwW (.seq (jQ QwX (.cond (.t 41) (jQ QwY (.ret)) (.skip))) (jD QhF (.ret)))))) (.skip))) (.seq (jQ QhG (.cond (.t 52) (.reg QhH) (.skip))) (jQ QhI (.seq (jQ QhJ (.cond (.t 63) (jQ QhK (.ret)) (.skip))) (jQ QhL (.ret))))))))
abbrev o94:List RR:=[.cell 8 (some 7),.tmp 9]
theorem k94:CT 94 71 r94 o94:=ck Tryz.func94 Tryz.ntmps94 (by decide +kernel)
abbrev QhM:IL:=[yw 2]
abbrev QhN:IL:=[ja 7 0,⟨some 8,.callF (.f 157) [(.t 7)],none⟩,ja 3 8]
abbrev QhO:IL:=[ja 9 3,⟨some 10,.callF (.f 158) [(.t 9),(.f 159)],none⟩]
abbrev QhP:IL:=[yw 4]
abbrev QhQ:IL:=[ja 11 3,jp 12 1 11,jc 13 0]
abbrev QhR:IL:=[jv 14 13 12]
abbrev QhS:IL:=[ja 15 13,jr 16 14 11 13,jd 17 14 16,MY 6 6,ja 5 15,jf 14 6 17]
abbrev QhT:IL:=[ja 18 5,jw 19 18 1,ja 20 3,jp 21 1 20,zh 22 19 21,ja 23 22,jz 24 0 6 23,⟨some 25,.val (.loadv 0 6 (some 7) (.t 24)),(some (23,false))⟩,yc 26 3 23,yc 27 5 23,⟨some 28,.val (.bin .num .add (.t 27) (.c (.int .i64 1))),(some (23,false))⟩,zo 29 14 26 28 23,jz 30 0 29 23,⟨some 31,.val (.loadr (some 7) (.t 30)),(some (23,false))⟩,⟨some 32,.call (.f 161) [(.t 25),(.t 31)],(some (23,false))⟩,FS 33 32 23,ya 34 23 33]
abbrev QhU:IL:=[ja 35 4,jd 36 14 6,M0 37 14 1 0 14 36,yj 38 14 256 113 35 37,ja 4 38]
abbrev QhV:IL:=[jw 39 13 1,ja 13 39]
abbrev QhW:RC:=.gho (.drop 6) (jQ QhR (.seq (jX 14 0) (.seq (.block 1 (jQ QhS (jD QhT (.cond (.t 34) (.reg QhU) (.skip))))) (.reg QhV))))
abbrev EN:IL:=[ja 40 4,ja 2 40]
abbrev QFY:RC:=jQ QhM (jQ QhN (jQ QhO (jQ QhP (.gho (.vec 4 4 14) (.seq (jQ QhQ (.block 0 (.loop QhW))) (jQ EN (.ret)))))))
abbrev QFZ:List RR:=[.tmp 2]
theorem QhX:CT 103 41 QFY QFZ:=ck Tryz.func103 Tryz.ntmps103 (by decide +kernel)
abbrev QhY:IL:=[yl 2 0,jc 3 0]
abbrev QhZ:IL:=[ja 6 0,jp 7 0 6,ym 8 7 8]
abbrev Qh0:IL:=[yl 2 0,jc 3 4]
abbrev Qh1:IL:=[yl 4 0]
abbrev Qh2:IL:=[jc 9 0]
abbrev Qh3:IL:=[ym 10 9 8]
abbrev Qh4:IL:=[ja 11 9,ja 5 11]
abbrev Qh5:IL:=[ja 12 4,ja 13 0,ja 14 5,zw 15 13 14,zp 16 15,ja 17 5,NM 18 8 17,⟨some 19,.val (.bin .num .shl (.t 16) (.t 18)),none⟩,⟨some 20,.val (.bin .num .or (.t 12) (.t 19)),none⟩,ja 4 20]
abbrev Qh6:IL:=[jw 21 9 1,ja 9 21]
abbrev Qh7:RC:=jQ Qh3 (.seq (jX 10 0) (.seq (.block 1 (jQ Qh4 (.reg Qh5))) (.reg Qh6)))
abbrev Qh8:IL:=[ja 22 4,ja 2 22,jc 3 0]
abbrev QF0:RC:=jQ QhY (.seq (jQ QhZ (.cond (.t 8) (jQ Qh0 (.ret)) (.skip))) (jQ Qh1 (.seq (jQ Qh2 (.block 0 (.loop Qh7))) (jQ Qh8 (.ret)))))
abbrev QF1:List RR:=[.tmp 2,.tmp 3]
theorem QF2:CT 188 23 QF0 QF1:=ck Tryz.func188 Tryz.ntmps188 (by decide +kernel)
abbrev Qh9:IL:=[jh 4 4 1,jt 6 6,jc 7 0]
abbrev Qia:IL:=[ja 10 2,jd 11 8 4,jl 12 93 11,yx 13 10 12]
abbrev Qib:IL:=[yh 14,jf 7 6 14,jc 7 13]
abbrev Qic:IL:=[jb 15 5 4,je 16 15,jn 17 16 10]
abbrev Qid:IL:=[ja 18 0,jb 19 6 4,je 20 19,NJ 21,⟨some 22,.callG (.f 149) [(.t 18),(.t 20),(.t 21),(.c (.int .i64 0))],none⟩,jg 23 22 0,jg 24 22 1,jf 7 6 23,ja 7 24]
abbrev Qie:IL:=[ja 26 0,ja 27 2,zy 28 151 26 27,ja 25 28,jg 29 25 0,jg 30 25 1,ze 8 8,jf 4 8 29,ja 9 30]
abbrev Qif:IL:=[ja 31 9,js 32 31 0]
abbrev Qig:IL:=[yh 33,ja 34 9,jf 7 6 33,ja 7 34]
abbrev Qih:IL:=[ja 35 0,yf 36 35,jb 37 0 36,⟨some 38,.val (.loado (some 2) (.t 37)),none⟩,ji 39 0 4 8 4,ji 40 0 8 4 8,yp 41 152 38 39 40,jg 42 41 0,jg 43 41 1,jj 0 6 7 6 42,ja 7 43]
abbrev QF3:RC:=jQ Qh9 (.seq (jQ Qia (.cond (.t 13) (jQ Qib (.ret)) (.skip))) (.seq (jQ Qic (.cond (.t 17) (jQ Qid (.ret)) (.skip))) (jQ Qie (.seq (jQ Qif (.cond (.t 32) (jQ Qig (.ret)) (.skip))) (jD Qih (.ret))))))
abbrev QF4:List RR:=[.cell 6 (some 7),.tmp 7]
theorem QF5:CT 144 44 QF3 QF4:=ck Tryz.func144 Tryz.ntmps144 (by decide +kernel)
abbrev Qii:IL:=[jh 6 6 2,jt 8 8,jc 9 0]
abbrev Qij:IL:=[ja 15 0,⟨some 16,.callG (.f 142) [(.t 15)],none⟩,ja 14 16,jg 17 14 0,jg 18 14 1,ja 10 17,ja 11 18]
abbrev Qik:IL:=[ja 19 11,js 20 19 0]
abbrev Qil:IL:=[jd 21 7 6,ja 22 11,jf 7 8 21,ja 9 22]
abbrev Qim:IL:=[ja 23 0,yf 24 23,jb 25 2 24,jd 26 6 25,jy 12 12,jf 6 12 26]
abbrev Qin:IL:=[ja 28 0,jd 29 6 12,ja 30 10,ju 31 181 29 30,ja 27 31,jg 32 27 0,jg 33 27 1,yf 34 28,jb 35 2 34,jf 6 35 32,ja 11 33]
abbrev Qio:IL:=[ja 36 11,js 37 36 0]
abbrev Qip:IL:=[jd 38 7 6,ja 39 11,jf 7 8 38,ja 9 39]
abbrev Qiq:IL:=[ja 40 0,ja 41 3,zy 42 25 40 41,ja 11 42]
abbrev Qir:IL:=[ja 43 11,js 44 43 0]
abbrev EO:IL:=[jd 45 7 6,ja 46 11,jf 7 8 45,ja 9 46]
abbrev EP:IL:=[ja 48 0,ja 49 1,jd 50 7 6,⟨some 51,.callG (.f 26) [(.t 48),(.t 49),(.t 50)],none⟩,ja 47 51,jg 52 47 0,jg 53 47 1,jt 13 13,jf 7 13 52,ja 11 53]
abbrev EQ:IL:=[ja 54 11,js 55 54 0]
abbrev ER:IL:=[jd 56 7 6,ja 57 11,jf 7 8 56,ja 9 57]
abbrev ES:IL:=[ja 58 0,ji 59 0 12 6 12,ja 60 0,yf 61 60,jb 62 2 61,⟨some 63,.val (.loado (some 6) (.t 62)),none⟩,ju 64 182 59 63,yf 65 58,jb 66 2 65,jf 6 66 64]
abbrev ET:IL:=[jd 67 7 13,jf 7 8 67,jc 9 0]
abbrev QF6:RC:=jQ Qii (jQ Qij (.seq (jQ Qik (.cond (.t 20) (jQ Qil (.ret)) (.skip))) (jQ Qim (jQ Qin (.seq (jQ Qio (.cond (.t 37) (jQ Qip (.ret)) (.skip))) (.seq (jQ Qiq (jQ Qir (.cond (.t 44) (jQ EO (.ret)) (.skip)))) (jQ EP (.seq (jQ EQ (.cond (.t 55) (jQ ER (.ret)) (.skip))) (jD ES (jQ ET (.ret)))))))))))
abbrev QF7:List RR:=[.cell 8 (some 7),.tmp 9]
theorem QF8:CT 149 68 QF6 QF7:=ck Tryz.func149 Tryz.ntmps149 (by decide +kernel)
abbrev Qis:IL:=[jh 2 2 0,jh 3 3 1,jc 4 0]
abbrev Qit:IL:=[jb 5 0 2,jd 6 7 5,jb 7 0 3,jd 8 7 7,ju 9 160 6 8,ja 4 9]
abbrev QF9:RC:=jQ Qis (jQ Qit (.ret))
abbrev QGa:List RR:=[.tmp 4]
theorem QGb:CT 159 10 QF9 QGa:=ck Tryz.func159 Tryz.ntmps159 (by decide +kernel)
abbrev Qiu:IL:=[jh 2 2 0,jh 3 3 1,jq 4]
abbrev Qiv:IL:=[jd 5 7 2,jd 6 7 3,ju 7 160 5 6,jn 8 7 0,ja 4 8]
abbrev QGc:RC:=jQ Qiu (jQ Qiv (.ret))
abbrev QGd:List RR:=[.tmp 4]
theorem QGe:CT 161 9 QGc QGd:=ck Tryz.func161 Tryz.ntmps161 (by decide +kernel)
abbrev Qiw:IL:=[jh 2 2 0,jy 4 4,jc 5 0]
abbrev Qix:IL:=[ja 7 1,ym 8 7 0,ja 6 8]
abbrev Qiy:IL:=[jd 9 6 2,jf 6 4 9,jc 5 1]
abbrev Qiz:IL:=[ja 11 1,jd 12 6 2,jl 13 48 12,yr 14 11 13,ja 10 14]
abbrev QiA:IL:=[jd 15 6 2,jf 6 4 15,jc 5 4]
abbrev QiB:IL:=[jb 17 3 2,je 18 17,ym 19 18 1,ja 16 19]
abbrev QiC:IL:=[jd 20 6 2,jf 6 4 20,jc 5 17]
abbrev QiD:IL:=[jb 21 1 2,je 22 21,ja 23 1,yk 24 22 23,jb 25 2 2,jf 1 25 24]
abbrev QiE:IL:=[jb 26 3 2,je 27 26,WR 28 27 1,jb 29 3 2,jf 1 29 28]
abbrev QiF:IL:=[jd 30 6 2,jf 6 4 30,jc 5 0]
abbrev QGf:RC:=jQ Qiw (.seq (.block 0 (jQ Qix (.cond (.t 6) (jQ Qiy (.ret)) (jQ Qiz (.cond (.t 10) (jQ QiA (.ret)) (jQ QiB (.cond (.t 16) (jQ QiC (.ret)) (.skip)))))))) (jQ QiD (jQ QiE (jQ QiF (.ret)))))
abbrev QGg:List RR:=[.cell 4 (some 6),.tmp 5]
theorem QGh:CT 181 31 QGf QGg:=ck Tryz.func181 Tryz.ntmps181 (by decide +kernel)
abbrev QiG:IL:=[jh 2 2 0,jh 3 3 1,jy 4 4]
abbrev QiH:IL:=[jd 5 6 2,jl 6 88 5,yd 7 6,ja 8 7,jz 9 2 3 8,yb 10 9 8,jz 11 1 2 8,yb 12 11 8,⟨some 13,.val (.bin .num .lss (.t 10) (.t 12)),(some (8,false))⟩,ya 14 8 13,ja 15 14,jz 16 2 3 15,yb 17 16 15,jz 18 2 2 15,yb 19 18 15,M4 20 17 19 15,ya 21 15 20,ja 22 21,jz 23 4 3 22,yb 24 23 22,Hh 25 24 0 22,ya 26 22 25,ja 27 26,jz 28 4 3 27,yb 29 28 27,jz 30 4 2 27,yb 31 30 27,M4 32 29 31 27,ya 33 27 32]
abbrev QiI:IL:=[jd 34 6 2,jf 6 4 34]
abbrev QiJ:IL:=[jb 35 2 3,yg 36 0 3 35,jb 37 4 3,yg 38 0 3 37,jb 39 1 2,jj 0 2 1 39 36,jb 40 4 2,jj 0 2 1 40 38]
abbrev QiK:IL:=[jd 41 6 2,jf 6 4 41]
abbrev QGi:RC:=jQ QiG (.seq (jQ QiH (.cond (.t 33) (jQ QiI (.ret)) (.skip))) (jD QiJ (jQ QiK (.ret))))
abbrev QGj:List RR:=[.cell 4 (some 6)]
theorem QGk:CT 182 42 QGi QGj:=ck Tryz.func182 Tryz.ntmps182 (by decide +kernel)
abbrev QiL:IL:=[jh 2 2 0,ys 4,jy 5 5,jc 6 0]
abbrev QiM:IL:=[ja 8 1,ym 9 8 0,ja 7 9]
abbrev QiN:IL:=[ji 10 0 2 6 2,ys 4,jj 0 5 6 5 10,jc 6 1]
abbrev QiO:IL:=[ja 12 1,jd 13 6 2,jl 14 48 13,yr 15 12 14,ja 11 15]
abbrev QiP:IL:=[ji 16 0 2 6 2,ys 4,jj 0 5 6 5 16,jc 6 4]
abbrev QiQ:IL:=[ja 18 1,jb 19 5 2,je 20 19,yr 21 18 20,ja 17 21]
abbrev QiR:IL:=[ji 22 0 2 6 2,ys 4,jj 0 5 6 5 22,jc 6 3]
abbrev QiS:IL:=[ja 23 1,jn 24 23 0]
abbrev QiT:IL:=[ji 25 0 2 6 2,ys 4,jj 0 5 6 5 25,jc 6 0]
abbrev QiU:IL:=[ji 26 0 2 6 2,ja 27 1,ju 28 205 26 27,⟨some 29,.val (.b2s (.t 28)),none⟩,ji 30 0 2 6 2,ja 31 1,ju 32 141 30 31,ja 4 29,jj 0 5 6 5 32,jc 6 0]
abbrev QGl:RC:=jQ QiL (.seq (.block 0 (jQ QiM (.cond (.t 7) (jD QiN (.ret)) (jQ QiO (.cond (.t 11) (jD QiP (.ret)) (jQ QiQ (.cond (.t 17) (jD QiR (.ret)) (.skip)))))))) (.seq (jQ QiS (.cond (.t 24) (jD QiT (.ret)) (.skip))) (jD QiU (.ret))))
abbrev QGm:List RR:=[.tmp 4,.cell 5 (some 6),.tmp 6]
theorem QGn:CT 183 33 QGl QGm:=ck Tryz.func183 Tryz.ntmps183 (by decide +kernel)
abbrev QiV:IL:=[jh 2 2 0,jh 3 3 1,jc 4 0]
abbrev QiW:IL:=[jb 6 0 2,je 7 6,jb 8 0 3,je 9 8,yx 10 7 9,ja 5 10]
abbrev QiX:IL:=[jb 11 0 2,je 12 11,jb 13 0 3,je 14 13,ju 15 60 12 14,ja 4 15]
abbrev QiY:IL:=[jb 17 0 2,je 18 17,jl 19 163 18,yd 20 19,ja 16 20]
abbrev QiZ:IL:=[jc 4 0]
abbrev Qi0:IL:=[jb 22 0 2,je 23 22,jl 24 202 23,ja 21 24]
abbrev Qi1:IL:=[jb 25 2 2,je 26 25,jb 27 2 3,je 28 27,ju 29 213 26 28,ja 4 29]
abbrev Qi2:IL:=[jb 31 0 2,je 32 31,jn 33 32 2,ja 34 33,jz 35 0 2 34,yb 36 35 34,yu 37 36 3 34,ya 38 34 37,ja 30 38]
abbrev Qi3:IL:=[jb 39 1 2,je 40 39,yv 41 40,jb 42 1 3,je 43 42,yv 44 43,ju 45 60 41 44,ja 4 45]
abbrev Qi4:IL:=[jb 47 0 2,je 48 47,jn 49 48 6,ja 46 49]
abbrev EU:IL:=[jb 50 1 2,yg 51 0 2 50,jl 52 215 51,jb 53 1 3,yg 54 0 3 53,jl 55 215 54,ju 56 214 52 55,ja 4 56]
abbrev EV:IL:=[jb 57 1 2,je 58 57,jb 59 1 3,je 60 59,ju 61 214 58 60,ja 4 61]
abbrev QGo:RC:=jQ QiV (.seq (.block 0 (jQ QiW (.cond (.t 5) (jQ QiX (.ret)) (jQ QiY (.cond (.t 16) (jQ QiZ (.ret)) (jQ Qi0 (.cond (.t 21) (jQ Qi1 (.ret)) (jQ Qi2 (.cond (.t 30) (jQ Qi3 (.ret)) (jQ Qi4 (.cond (.t 46) (jD EU (.ret)) (.skip)))))))))))) (jQ EV (.ret)))
abbrev QGp:List RR:=[.tmp 4]
theorem QGq:CT 193 62 QGo QGp:=ck Tryz.func193 Tryz.ntmps193 (by decide +kernel)
abbrev Qi5:IL:=[jh 2 2 0,yw 4]
abbrev Qi6:IL:=[jb 6 0 2,je 7 6,jb 8 1 2,je 9 8,jb 10 1 2,je 11 10,ja 12 1,yk 13 11 12,NT 14 7 9 13,⟨some 15,.s2b 15 5 (.t 14),none⟩,ja 5 15]
abbrev Qi7:IL:=[ja 16 5,ja 17 1,ja 18 1,⟨some 19,.val (.slc (some 1) (.t 16) none (some (.t 17)) (some (.t 18))),none⟩,ja 4 19]
abbrev QGr:RC:=jQ Qi5 (jQ Qi6 (jQ Qi7 (.ret)))
abbrev QGs:List RR:=[.tmp 4]
theorem QGt:CT 205 20 QGr QGs:=ck Tryz.func205 Tryz.ntmps205 (by decide +kernel)
abbrev Qi8:IL:=[jc 4 0]
abbrev Qi9:IL:=[ja 7 0,jl 8 223 7,ja 5 8]
abbrev Qja:IL:=[ja 9 1,jl 10 223 9,ja 6 10]
abbrev Qjb:IL:=[ja 11 5]
abbrev Qjc:IL:=[ja 12 6]
abbrev Qjd:IL:=[jc 4 0]
abbrev Qje:IL:=[jc 4 (-1)]
abbrev Qjf:IL:=[ja 13 6]
abbrev Qjg:IL:=[jc 4 1]
abbrev Qjh:IL:=[ja 14 0,ja 15 1,⟨some 16,.val (.bin .str .lss (.t 14) (.t 15)),none⟩]
abbrev EX:IL:=[jc 4 (-1)]
abbrev EY:IL:=[ja 17 0,ja 18 1,⟨some 19,.val (.bin .str .gtr (.t 17) (.t 18)),none⟩]
abbrev EZ:IL:=[jc 4 1]
abbrev E0:IL:=[jc 4 0]
abbrev QGu:RC:=jQ Qi8 (jQ Qi9 (jQ Qja (.seq (jQ Qjb (.cond (.t 11) (.seq (jQ Qjc (.cond (.t 12) (jQ Qjd (.ret)) (.skip))) (jQ Qje (.ret))) (.skip))) (.seq (jQ Qjf (.cond (.t 13) (jQ Qjg (.ret)) (.skip))) (.seq (jQ Qjh (.cond (.t 16) (jQ EX (.ret)) (.skip))) (.seq (jQ EY (.cond (.t 19) (jQ EZ (.ret)) (.skip))) (jQ E0 (.ret))))))))
abbrev QGv:List RR:=[.tmp 4]
theorem QGw:CT 213 20 QGu QGv:=ck Tryz.func213 Tryz.ntmps213 (by decide +kernel)
abbrev Qji:IL:=[jc 4 0]
abbrev Qjj:IL:=[ja 7 0,jl 8 224 7,ja 5 8]
abbrev Qjk:IL:=[ja 9 1,jl 10 224 9,ja 6 10]
abbrev Qjl:IL:=[ja 11 5]
abbrev Qjm:IL:=[ja 12 6]
abbrev Qjn:IL:=[jc 4 0]
abbrev Qjo:IL:=[jc 4 (-1)]
abbrev Qjp:IL:=[ja 13 6]
abbrev Qjq:IL:=[jc 4 1]
abbrev Qjr:IL:=[ja 14 0,ja 15 1,jv 16 14 15]
abbrev E1:IL:=[jc 4 (-1)]
abbrev E2:IL:=[ja 17 0,ja 18 1,yr 19 17 18]
abbrev E3:IL:=[jc 4 1]
abbrev E4:IL:=[jc 4 0]
abbrev QGx:RC:=jQ Qji (jQ Qjj (jQ Qjk (.seq (jQ Qjl (.cond (.t 11) (.seq (jQ Qjm (.cond (.t 12) (jQ Qjn (.ret)) (.skip))) (jQ Qjo (.ret))) (.skip))) (.seq (jQ Qjp (.cond (.t 13) (jQ Qjq (.ret)) (.skip))) (.seq (jQ Qjr (.cond (.t 16) (jQ E1 (.ret)) (.skip))) (.seq (jQ E2 (.cond (.t 19) (jQ E3 (.ret)) (.skip))) (jQ E4 (.ret))))))))
abbrev QGy:List RR:=[.tmp 4]
theorem QGz:CT 214 20 QGx QGy:=ck Tryz.func214 Tryz.ntmps214 (by decide +kernel)
abbrev Qjs:IL:=[jq 2]
abbrev Qjt:IL:=[ja 3 0,ja 4 0,⟨some 5,.val (.bin .str .neq (.t 3) (.t 4)),none⟩,ja 2 5]
abbrev QGA:RC:=jQ Qjs (jQ Qjt (.ret))
abbrev QGB:List RR:=[.tmp 2]
theorem QGC:CT 223 6 QGA QGB:=ck Tryz.func223 Tryz.ntmps223 (by decide +kernel)
abbrev Qju:IL:=[jq 2]
abbrev Qjv:IL:=[ja 3 0,ja 4 0,yx 5 3 4,ja 2 5]
abbrev QGD:RC:=jQ Qju (jQ Qjv (.ret))
abbrev QGE:List RR:=[.tmp 2]
theorem QGF:CT 224 6 QGD QGE:=ck Tryz.func224 Tryz.ntmps224 (by decide +kernel)
abbrev QwZ:IL:=[jc 4 0]
abbrev Qw0:IL:=[ja 5 0,ja 6 1,jv 7 5 6]
abbrev Qw1:IL:=[jc 4 (-1)]
abbrev Qw2:IL:=[ja 8 0,ja 9 1,yr 10 8 9]
abbrev Qw3:IL:=[jc 4 1]
abbrev Qw4:IL:=[jc 4 0]
abbrev r67:RC:=jQ QwZ (.seq (jQ Qw0 (.cond (.t 7) (jQ Qw1 (.ret)) (.skip))) (.seq (jQ Qw2 (.cond (.t 10) (jQ Qw3 (.ret)) (.skip))) (jQ Qw4 (.ret))))
abbrev o67:List RR:=[.tmp 4]
theorem k67:CT 67 11 r67 o67:=ck Tryz.func67 Tryz.ntmps67 (by decide +kernel)
abbrev Qjw:IL:=[jh 2 2 0,jh 3 3 1,jc 4 0]
abbrev Qjx:IL:=[jb 6 0 2,je 7 6,jb 8 0 3,je 9 8,yx 10 7 9,ja 5 10]
abbrev Qjy:IL:=[jb 11 0 2,je 12 11,jb 13 0 3,je 14 13,ju 15 67 12 14,ja 4 15]
abbrev Qjz:IL:=[jb 17 1 2,je 18 17,jb 19 1 3,je 20 19,yx 21 18 20,ja 16 21]
abbrev QjA:IL:=[jb 22 1 2,je 23 22,jb 24 1 3,je 25 24,ju 26 67 23 25,ja 4 26]
abbrev QjB:IL:=[jb 28 2 2,je 29 28,jb 30 2 3,je 31 30,jv 32 29 31,ja 27 32]
abbrev QjC:IL:=[jc 4 (-1)]
abbrev QjD:IL:=[jb 34 2 2,je 35 34,jb 36 2 3,je 37 36,yr 38 35 37,ja 33 38]
abbrev QjE:IL:=[jc 4 1]
abbrev QjF:IL:=[jb 40 3 2,je 41 40,jb 42 3 3,je 43 42,⟨some 44,.val (.bin .str .lss (.t 41) (.t 43)),none⟩,ja 39 44]
abbrev E5:IL:=[jc 4 (-1)]
abbrev E6:IL:=[jb 46 3 2,je 47 46,jb 48 3 3,je 49 48,⟨some 50,.val (.bin .str .gtr (.t 47) (.t 49)),none⟩,ja 45 50]
abbrev E7:IL:=[jc 4 1]
abbrev E8:IL:=[jc 4 0]
abbrev QGG:RC:=jQ Qjw (.seq (.block 0 (jQ Qjx (.cond (.t 5) (jQ Qjy (.ret)) (jQ Qjz (.cond (.t 16) (jQ QjA (.ret)) (jQ QjB (.cond (.t 27) (jQ QjC (.ret)) (jQ QjD (.cond (.t 33) (jQ QjE (.ret)) (jQ QjF (.cond (.t 39) (jQ E5 (.ret)) (jQ E6 (.cond (.t 45) (jQ E7 (.ret)) (.skip)))))))))))))) (jQ E8 (.ret)))
abbrev QGH:List RR:=[.tmp 4]
theorem QGI:CT 117 51 QGG QGH:=ck Tryz.func117 Tryz.ntmps117 (by decide +kernel)
abbrev Qw5:IL:=[jc 4 0]
abbrev Qw6:IL:=[jc 5 0]
abbrev Qw7:IL:=[ja 7 5,ja 8 0,jp 9 1 8,jv 10 7 9,ja 11 10,jk 12 5 11,jk 13 1 11,yq 14 1 13 11,DO 15 12 14 11,jm 16 11 15]
abbrev Qw8:IL:=[ja 19 0,ja 20 5,jr 21 4 19 20,yn 22 4 21,ja 23 1,ja 24 5,jr 25 4 23 24,yn 26 4 25,ju 27 117 22 26,ja 6 27]
abbrev Qw9:IL:=[ja 28 6,js 29 28 0]
abbrev Qxa:IL:=[ja 30 6,ja 4 30]
abbrev Qxb:IL:=[ja 17 5,jw 18 17 1,ja 5 18]
abbrev Qxc:RC:=.seq (jQ Qw7 (jX 16 0)) (.seq (.block 1 (jD Qw8 (jQ Qw9 (.cond (.t 29) (jQ Qxa (.ret)) (.skip))))) (.reg Qxb))
abbrev Qxd:IL:=[ja 31 0,jp 32 1 31,ja 33 1,jp 34 1 33,ju 35 67 32 34,ja 4 35]
abbrev r71:RC:=jQ Qw5 (.seq (jQ Qw6 (.block 0 (.loop Qxc))) (jQ Qxd (.ret)))
abbrev o71:List RR:=[.tmp 4]
theorem k71:CT 71 36 r71 o71:=ck Tryz.func71 Tryz.ntmps71 (by decide +kernel)
abbrev Qxe:IL:=[jc 4 0]
abbrev Qxf:IL:=[jc 5 0]
abbrev Qxg:IL:=[ja 8 5,ja 9 0,jp 10 1 9,jv 11 8 10,ja 12 11,jk 13 5 12,jk 14 1 12,yq 15 1 14 12,DO 16 13 15 12,jm 17 12 16]
abbrev Qxh:IL:=[ja 20 0,ja 21 5,jr 22 8 20 21,jb 23 0 22,M5 24 23,ja 25 1,ja 26 5,jr 27 8 25 26,jb 28 0 27,M5 29 28,ju 30 67 24 29,ja 6 30]
abbrev Qxi:IL:=[ja 31 6,js 32 31 0]
abbrev Qxj:IL:=[ja 33 6,ja 4 33]
abbrev Qxk:IL:=[ja 34 0,ja 35 5,jr 36 8 34 35,jb 37 1 36,yn 38 7 37,ja 39 1,ja 40 5,jr 41 8 39 40,jb 42 1 41,yn 43 7 42,ju 44 41 38 43,ja 7 44]
abbrev Qxl:IL:=[ja 45 7,js 46 45 0]
abbrev Qxm:IL:=[ja 47 7,ja 4 47]
abbrev Qxn:IL:=[ja 18 5,jw 19 18 1,ja 5 19]
abbrev Qxo:RC:=.seq (jQ Qxg (jX 17 0)) (.seq (.block 1 (.seq (jD Qxh (jQ Qxi (.cond (.t 32) (jQ Qxj (.ret)) (.skip)))) (jD Qxk (jQ Qxl (.cond (.t 46) (jQ Qxm (.ret)) (.skip)))))) (.reg Qxn))
abbrev QjG:IL:=[ja 48 0,jp 49 1 48,ja 50 1,jp 51 1 50,ju 52 67 49 51,ja 4 52]
abbrev r70:RC:=jQ Qxe (.seq (jQ Qxf (.block 0 (.loop Qxo))) (jQ QjG (.ret)))
abbrev o70:List RR:=[.tmp 4]
theorem k70:CT 70 53 r70 o70:=ck Tryz.func70 Tryz.ntmps70 (by decide +kernel)
abbrev Qxp:IL:=[jh 2 2 0,jh 3 3 1,jc 4 0]
abbrev Qxq:IL:=[jb 6 0 2,je 7 6,jb 8 0 3,je 9 8,yx 10 7 9]
abbrev Qxr:IL:=[jb 11 0 2,je 12 11,jb 13 0 3,je 14 13,ju 15 67 12 14,ja 4 15]
abbrev Qxs:IL:=[jb 16 0 2,je 17 16]
abbrev Qxt:IL:=[jn 19 17 11,ja 18 19]
abbrev Qxu:IL:=[jb 20 3 2,je 21 20,jb 22 3 3,je 23 22,ju 24 68 21 23,ja 4 24]
abbrev Qxv:IL:=[jn 26 17 12,ja 25 26]
abbrev Qxw:IL:=[jb 27 4 2,je 28 27,jb 29 4 3,je 30 29,ju 31 69 28 30,ja 4 31]
abbrev Qxx:IL:=[jn 33 17 10,ja 32 33]
abbrev Qxy:IL:=[jb 34 5 2,je 35 34,jb 36 5 3,je 37 36,ju 38 70 35 37,ja 5 38]
abbrev QjH:IL:=[ja 39 5,js 40 39 0]
abbrev QjI:IL:=[ja 41 5,ja 4 41]
abbrev QjJ:IL:=[jb 42 6 2,je 43 42,jb 44 6 3,je 45 44,ju 46 71 43 45,ja 4 46]
abbrev QjK:IL:=[jd 47 7 2,jd 48 7 3,ju 49 72 47 48,ja 4 49]
abbrev r41:RC:=jQ Qxp (.seq (jQ Qxq (.cond (.t 10) (jQ Qxr (.ret)) (.skip))) (.seq (jQ Qxs (.block 0 (jQ Qxt (.cond (.t 18) (jQ Qxu (.ret)) (jQ Qxv (.cond (.t 25) (jQ Qxw (.ret)) (jQ Qxx (.cond (.t 32) (.seq (jQ Qxy (jQ QjH (.cond (.t 40) (jQ QjI (.ret)) (.skip)))) (jQ QjJ (.ret))) (.skip))))))))) (jQ QjK (.ret))))
abbrev o41:List RR:=[.tmp 4]
theorem k41:CT 41 50 r41 o41:=ck Tryz.func41 Tryz.ntmps41 (by decide +kernel)
abbrev Qxz:IL:=[jh 2 2 0,jh 3 3 1,jq 4]
abbrev QxA:IL:=[jd 5 7 2,jd 6 7 3,ju 7 41 5 6,jn 8 7 0,ja 4 8]
abbrev r18:RC:=jQ Qxz (jQ QxA (.ret))
abbrev o18:List RR:=[.tmp 4]
theorem k18:CT 18 9 r18 o18:=ck Tryz.func18 Tryz.ntmps18 (by decide +kernel)
def QjL:IL:=[jh 2 2 0,jh 3 3 1,jq 4]
def QjM:IL:=[jd 5 7 2,jd 6 7 3,ju 7 18 5 6,ja 4 7]
def r8:RC:=jQ QjL (jQ QjM (.ret))
def o8:List RR:=[.tmp 4]
theorem k8:CT 8 8 r8 o8:=ck Tryz.func8 Tryz.ntmps8 (by decide +kernel)
abbrev QxB:IL:=[jh 3 3 0,jh 5 5 2,jt 6 6]
abbrev QxC:IL:=[ja 12 1,ym 13 12 0,ja 14 13,yc 15 1 14,jz 16 0 3 14,yb 17 16 14,zm 18 1 17 14,⟨some 19,.val (.bin .num .geq (.t 15) (.t 18)),(some (14,false))⟩,ya 20 14 19]
abbrev QxD:IL:=[yh 21,jf 7 6 21]
abbrev QxE:IL:=[jb 22 6 5,je 23 22,jl 24 44 23,⟨some 25,.val (.build [.int .i64 0,.int .u64 0,.str [],.nils,.nils,.nils,.nils] [(0,1,(.c (.int .i64 10))),(6,1,(.t 24))]),none⟩,jt 7 7,jf 7 7 25]
abbrev QxF:IL:=[jc 8 0]
abbrev QxG:IL:=[ja 26 8,jb 27 0 3,je 28 27,ja 29 1,jr 30 3 28 29,jb 31 1 30,je 32 31,jp 33 1 32,jv 34 26 33]
abbrev QxH:IL:=[jb 37 0 3,je 38 37,ja 39 1,jr 40 3 38 39,jb 41 1 40,je 42 41,ja 43 8,jr 44 8 42 43,jd 45 8 44,zd 9 9,jf 8 9 45]
abbrev QxI:IL:=[jc 10 0]
abbrev QxJ:IL:=[ja 46 10,jb 47 5 5,je 48 47,jp 49 1 48,jv 50 46 49]
abbrev QjN:IL:=[jb 53 5 5,yg 54 0 5 53,ja 55 10,jr 56 8 54 55,jb 57 0 56,M5 58 57,jb 59 0 9,yg 60 0 9 59,yx 61 58 60]
abbrev QjO:IL:=[ji 62 0 3 2 3,ji 63 0 9 8 9,jb 64 5 5,yg 65 0 5 64,ja 66 10,jr 67 8 65 66,jb 68 1 67,yn 69 7 68,yp 70 45 62 63 69,jt 11 11,jj 0 11 7 11 70]
abbrev QjP:IL:=[jb 71 3 9,je 72 71,ym 73 72 3,ja 74 73,NK 75 7 11 74,zs 76 46 75 74,FS 77 76 74,ya 78 74 77]
abbrev QjQ:IL:=[jb 79 5 7,je 80 79,jb 81 0 9,je 82 81,jd 83 7 11,⟨some 84,.val (.build [.int .i64 0,.int .i64 0,.int .u64 0,.str [],.nils,.nils,.nils,.nils] [(0,1,(.t 82)),(1,7,(.t 83))]),none⟩,FT 85 8 1 0 8 84,yj 86 8 136 56 80 85,jb 87 5 7,jf 1 87 86]
abbrev QjR:IL:=[ja 51 10,jw 52 51 1,ja 10 52]
abbrev SS:RC:=.gho (.drop 11) (.seq (jQ QxJ (jX 50 2)) (.seq (.block 3 (.seq (jD QjN (.cond (.t 61) (.exit 3) (.skip))) (jD QjO (jQ QjP (.cond (.t 78) (.reg QjQ) (.skip)))))) (.reg QjR)))
abbrev QxK:IL:=[ja 35 8,jw 36 35 1,ja 8 36]
abbrev QxL:RC:=.gho (.drop 11) (.gho (.drop 9) (.seq (jQ QxG (jX 34 0)) (.seq (.block 1 (jQ QxH (jQ QxI (.block 2 (.loop SS))))) (.reg QxK))))
abbrev QjS:IL:=[jd 88 7 7,jf 7 6 88]
abbrev r23:RC:=jQ QxB (.seq (jQ QxC (.cond (.t 20) (jQ QxD (.ret)) (.skip))) (jQ QxE (.gho (.vecc 7 5 1100 8) (.seq (jQ QxF (.block 0 (.loop QxL))) (jQ QjS (.ret))))))
abbrev o23:List RR:=[.cell 6 (some 7)]
theorem k23:CT 23 89 r23 o23:=ck Tryz.func23 Tryz.ntmps23 (by decide +kernel)
abbrev QxM:IL:=[jh 3 3 0,jh 4 4 1,jh 5 5 2,jt 6 6]
abbrev QxN:IL:=[jb 7 5 4,je 8 7,jn 9 8 10]
abbrev QxO:IL:=[jd 10 2 3,jb 11 6 4,je 12 11,jd 13 7 5,yp 14 23 10 12 13,jf 7 6 14]
abbrev QxP:IL:=[jd 15 7 5,jl 16 86 15,jf 7 6 16]
abbrev r84:RC:=jQ QxM (.seq (jQ QxN (.cond (.t 9) (jQ QxO (.ret)) (.skip))) (jQ QxP (.ret)))
abbrev o84:List RR:=[.cell 6 (some 7)]
theorem k84:CT 84 17 r84 o84:=ck Tryz.func84 Tryz.ntmps84 (by decide +kernel)
abbrev QxQ:IL:=[jh 3 3 0,jh 4 4 1,jh 5 5 2,jt 6 6]
abbrev QxR:IL:=[jb 12 3 4,je 13 12]
abbrev QxS:IL:=[jn 15 13 4,ja 14 15]
abbrev QxT:IL:=[⟨some 16,.val (.build [.int .i64 0,.int .u64 0,.str [],.nils,.nils,.nils,.nils] [(0,1,(.c (.int .i64 11)))]),none⟩,jt 7 7,jf 7 7 16]
abbrev QxU:IL:=[jc 8 0]
abbrev QxV:IL:=[ja 17 8,jb 18 3 5,je 19 18,jp 20 1 19,jv 21 17 20]
abbrev QxW:IL:=[jb 24 3 7,yg 25 0 7 24,ji 26 0 3 2 3,ji 27 0 4 8 4,jb 28 3 5,yg 29 0 5 28,ja 30 8,jr 31 7 29 30,yn 32 7 31,yp 33 84 26 27 32,SJ 34 7 1 0 7 33,yj 35 7 128 35 25 34,jb 36 3 7,jj 0 7 1 36 35]
abbrev QxX:IL:=[ja 22 8,jw 23 22 1,ja 8 23]
abbrev QxY:RC:=.seq (jQ QxV (jX 21 1)) (.seq (.block 2 (.draw QxW)) (.reg QxX))
abbrev QxZ:IL:=[jd 37 7 7,jf 7 6 37]
abbrev Qx0:IL:=[jn 39 13 5,ja 38 39]
abbrev QjT:IL:=[⟨some 40,.val (.build [.int .i64 0,.int .u64 0,.str [],.nils,.nils,.nils,.nils] [(0,1,(.c (.int .i64 12)))]),none⟩,jt 9 9,jf 7 9 40]
abbrev QjU:IL:=[jb 41 4 5,je 42 41,jl 43 85 42,ja 10 43]
abbrev QjV:IL:=[jc 11 0]
abbrev QjW:IL:=[ja 44 11,ja 45 10,jp 46 1 45,jv 47 44 46]
abbrev QjX:IL:=[jb 50 4 9,yg 51 0 9 50,ja 52 10,ja 53 11,jr 54 14 52 53,jb 55 0 54,yn 56 7 55,jl 57 86 56,ji 58 0 3 2 3,ji 59 0 4 8 4,ja 60 10,ja 61 11,jr 62 14 60 61,jb 63 7 62,yn 64 7 63,yp 65 84 58 59 64,⟨some 66,.val (.build [.int .i64 0,.int .u64 0,.str [],.nils,.nils,.nils,.nils,.int .i64 0,.int .u64 0,.str [],.nils,.nils,.nils,.nils] [(0,7,(.t 57)),(7,7,(.t 65))]),none⟩,M0 67 14 1 0 14 66,yj 68 14 256 113 51 67,jb 69 4 9,jj 0 9 1 69 68]
abbrev QjY:IL:=[ja 48 11,jw 49 48 1,ja 11 49]
abbrev Qx1:RC:=.seq (jQ QjW (jX 47 3)) (.seq (.block 4 (.draw QjX)) (.reg QjY))
abbrev QjZ:IL:=[jd 70 7 9,jf 7 6 70]
abbrev Qj0:IL:=[jd 71 2 3,jd 72 8 4,jd 73 7 5,yp 74 84 71 72 73,jf 7 6 74]
abbrev r45:RC:=jQ QxQ (.seq (jQ QxR (.block 0 (jQ QxS (.cond (.t 14) (jQ QxT (.gho (.vecc 7 3 1100 7) (.seq (jQ QxU (.block 1 (.loop QxY))) (jQ QxZ (.ret))))) (jQ Qx0 (.cond (.t 38) (jQ QjT (.gho (.vecc 9 4 1101 14) (jQ QjU (.seq (jQ QjV (.block 3 (.loop Qx1))) (jQ QjZ (.ret)))))) (.skip))))))) (jQ Qj0 (.ret)))
abbrev o45:List RR:=[.cell 6 (some 7)]
theorem k45:CT 45 75 r45 o45:=ck Tryz.func45 Tryz.ntmps45 (by decide +kernel)
abbrev Qx2:IL:=[yw 2]
abbrev Qx3:IL:=[yw 3]
abbrev Qx4:IL:=[jc 4 0]
abbrev Qx5:IL:=[ja 7 4,ja 8 0,jp 9 1 8,jv 10 7 9]
abbrev Qx6:IL:=[ja 13 3,jp 14 1 13,ja 5 14]
abbrev Qx7:IL:=[ja 15 5,zi 16 15 0,ja 17 16,jk 18 3 17,jk 19 5 17,FV 20 19 1 17,ye 21 4 18 20 17,jo 22 0 21 17,yt 23 22 17,jk 24 0 17,jk 25 4 17,ye 26 4 24 25 17,jo 27 0 26 17,yt 28 27 17,⟨some 29,.val (.bin .num .gtr (.t 23) (.t 28)),(some (17,true))⟩,jm 30 17 29]
abbrev Qx8:IL:=[ja 31 5,WR 32 31 1,ja 5 32]
abbrev ST:RC:=.seq (jD Qx7 (jX 30 2)) (.block 3 (.reg Qx8))
abbrev Qx9:IL:=[ja 33 0,ja 34 4,jr 35 4 33 34,yn 36 4 35,⟨some 37,.bslv 37 4 1 [.int .i64 0,.int .i64 0,.int .u64 0,.str []] [(0,4,(.t 36))],none⟩,ja 38 3,ja 39 5,⟨some 40,.val (.slcp (some 4) (.t 38) (some (.t 39)) none none),none⟩,yj 41 4 40 86 37 40,ja 6 41]
abbrev Qya:IL:=[zx 42 42 4,ja 43 3,ja 44 5,⟨some 45,.val (.slc (some 4) (.t 43) none (some (.t 44)) none),none⟩,yj 46 4 40 86 42 45,ja 47 6,yj 48 4 40 86 46 47,ja 3 48]
abbrev Qyb:IL:=[ja 11 4,jw 12 11 1,ja 4 12]
abbrev Qyc:RC:=.seq (jQ Qx5 (jX 10 0)) (.seq (.block 1 (jQ Qx6 (.seq (.block 2 (.loop ST)) (jD Qx9 (.reg Qya))))) (.gho (.pub 3 42) (.reg Qyb)))
abbrev Qj2:IL:=[ja 49 3,ja 2 49]
abbrev r44:RC:=jQ Qx2 (jQ Qx3 (.gho (.lst 3) (.seq (jQ Qx4 (.block 0 (.loop Qyc))) (jQ Qj2 (.ret)))))
abbrev o44:List RR:=[.tmp 2]
theorem k44:CT 44 50 r44 o44:=ck Tryz.func44 Tryz.ntmps44 (by decide +kernel)
abbrev Qyd:IL:=[jh 1 1 0,jq 2]
abbrev Qye:IL:=[jb 3 0 1,je 4 3]
abbrev Qyf:IL:=[jn 6 4 11,ja 5 6]
abbrev Qyg:IL:=[jb 7 3 1,je 8 7,jp 9 1 8,jn 10 9 0,ja 2 10]
abbrev Qyh:IL:=[jn 12 4 12,ja 11 12]
abbrev Qyi:IL:=[jb 13 4 1,je 14 13,jp 15 1 14,jn 16 15 0,ja 2 16]
abbrev Qyj:IL:=[jd 17 7 1,jl 18 87 17,ja 2 18]
abbrev r46:RC:=jQ Qyd (.seq (jQ Qye (.block 0 (jQ Qyf (.cond (.t 5) (jQ Qyg (.ret)) (jQ Qyh (.cond (.t 11) (jQ Qyi (.ret)) (.skip))))))) (jQ Qyj (.ret)))
abbrev o46:List RR:=[.tmp 2]
theorem k46:CT 46 19 r46 o46:=ck Tryz.func46 Tryz.ntmps46 (by decide +kernel)
abbrev Qyk:IL:=[yw 2]
abbrev Qyl:IL:=[yw 3]
abbrev Qym:IL:=[jc 4 0]
abbrev Qyn:IL:=[ja 9 4,ja 10 0,jp 11 1 10,jv 12 9 11]
abbrev Qyo:IL:=[yi 5]
abbrev Qyp:IL:=[ja 15 4,jw 16 15 1,ja 6 16]
abbrev Qyq:IL:=[ja 17 6,ja 18 0,jp 19 1 18,jv 20 17 19]
abbrev Qyr:IL:=[ja 23 5,ja 24 23,jk 25 0 24,jk 26 4 24,ye 27 14 25 26 24,jo 28 0 27 24,zv 29 7 28 24,jk 30 0 24,jk 31 6 24,ye 32 14 30 31 24,jo 33 0 32 24,zv 34 7 33 24,DP 35 41 29 34 24,M3 36 35 0 24,jm 37 24 36,ja 5 37]
abbrev Qys:IL:=[ja 21 6,jw 22 21 1,ja 6 22]
abbrev Cf:RC:=.seq (jQ Qyq (jX 20 2)) (.seq (.block 3 (.draw Qyr)) (.reg Qys))
abbrev Qj3:IL:=[ja 38 5]
abbrev Qj4:IL:=[jc 7 0]
abbrev Qj5:IL:=[ja 39 7,ja 40 3,jp 41 1 40,jv 42 39 41,ja 43 42,jk 44 3 43,jk 45 7 43,ye 46 14 44 45 43,jo 47 0 46 43,zv 48 7 47 43,jk 49 0 43,jk 50 4 43,ye 51 14 49 50 43,jo 52 0 51 43,zv 53 7 52 43,DP 54 41 48 53 43,⟨some 55,.val (.bin .num .lss (.t 54) (.c (.int .i64 0))),(some (43,true))⟩,jm 56 43 55]
abbrev Qj6:IL:=[ja 57 7,jw 58 57 1,ja 7 58]
abbrev SU:RC:=.seq (jD Qj5 (jX 56 4)) (.block 5 (.reg Qj6))
abbrev Qj7:IL:=[ja 59 0,ja 60 4,jr 61 14 59 60,yn 62 14 61,⟨some 63,.bslv 63 14 1 [.int .i64 0,.int .u64 0,.str [],.nils,.nils,.nils,.nils,.int .i64 0,.int .u64 0,.str [],.nils,.nils,.nils,.nils] [(0,14,(.t 62))],none⟩,ja 64 3,ja 65 7,⟨some 66,.val (.slcp (some 14) (.t 64) (some (.t 65)) none none),none⟩,yj 67 14 256 113 63 66,ja 8 67]
abbrev Qj8:IL:=[zx 68 68 14,ja 69 3,ja 70 7,⟨some 71,.val (.slc (some 14) (.t 69) none (some (.t 70)) none),none⟩,yj 72 14 256 113 68 71,ja 73 8,yj 74 14 256 113 72 73,ja 3 74]
abbrev Qyt:IL:=[ja 13 4,jw 14 13 1,ja 4 14]
abbrev Qyu:RC:=.seq (jQ Qyn (jX 12 0)) (.seq (.block 1 (jQ Qyo (.seq (jQ Qyp (.block 2 (.loop Cf))) (jQ Qj3 (.cond (.t 38) (jQ Qj4 (.seq (.block 4 (.loop SU)) (jD Qj7 (.reg Qj8)))) (.skip)))))) (.gho (.pub 3 68) (.reg Qyt)))
abbrev Qj9:IL:=[ja 75 3,ja 2 75]
abbrev r85:RC:=jQ Qyk (jQ Qyl (.gho (.lst 3) (.seq (jQ Qym (.block 0 (.loop Qyu))) (jQ Qj9 (.ret)))))
abbrev o85:List RR:=[.tmp 2]
theorem k85:CT 85 76 r85 o85:=ck Tryz.func85 Tryz.ntmps85 (by decide +kernel)
abbrev Qyv:IL:=[jh 1 1 0,jt 2 2]
abbrev Qyw:IL:=[jb 3 0 1,je 4 3,jn 5 4 6,ja 6 5,jo 7 1 1 6,jx 8 7 6,za 9 137 8 6,yo 10 9 0 6,jm 11 6 10]
abbrev Qyx:IL:=[jb 12 1 1,⟨none,.store 1 (.t 12) (.c (.int .u64 9221120237041090560)),none⟩]
abbrev Qyy:IL:=[jd 13 7 1,jf 7 2 13]
abbrev r86:RC:=jQ Qyv (.seq (jQ Qyw (.cond (.t 11) (.reg Qyx) (.skip))) (jQ Qyy (.ret)))
abbrev o86:List RR:=[.cell 2 (some 7)]
theorem k86:CT 86 14 r86 o86:=ck Tryz.func86 Tryz.ntmps86 (by decide +kernel)
abbrev Qyz:IL:=[jh 1 1 0,jq 2]
abbrev QyA:IL:=[jb 3 0 1,je 4 3,jl 5 118 4,ja 6 5,jo 7 1 1 6,jx 8 7 6,⟨some 9,.val (.bin .num .eql (.t 8) (.c (.int .u64 0))),(some (6,true))⟩,jm 10 6 9,ja 11 10,jo 12 2 1 11,jx 13 12 11,⟨some 14,.val (.bin .str .eql (.t 13) (.c (.str []))),(some (11,true))⟩,jm 15 11 14,ja 16 15,yy 17 7 1 16,za 18 138 17 16,jm 19 16 18,ja 2 19]
abbrev r87:RC:=jQ Qyz (jQ QyA (.ret))
abbrev o87:List RR:=[.tmp 2]
theorem k87:CT 87 20 r87 o87:=ck Tryz.func87 Tryz.ntmps87 (by decide +kernel)
abbrev Qka:IL:=[jc 2 0]
abbrev Qkb:IL:=[jc 3 0]
abbrev Qkc:IL:=[ja 5 3,ja 6 0,jp 7 0 6,jv 8 5 7]
abbrev Qkd:IL:=[ja 9 0,ja 10 3,ju 11 204 9 10,ja 4 11]
abbrev Qke:IL:=[ja 12 4,jn 13 12 0]
abbrev Qkf:IL:=[ja 14 3,ja 2 14]
abbrev Qkg:IL:=[ja 15 3,ja 16 4,yk 17 15 16,ja 3 17]
abbrev Qkh:RC:=.seq (jQ Qkc (jX 8 0)) (.block 1 (jQ Qkd (.seq (jQ Qke (.cond (.t 13) (jQ Qkf (.ret)) (.skip))) (.reg Qkg))))
abbrev Qki:IL:=[jc 2 (-1)]
abbrev QGJ:RC:=jQ Qka (.seq (jQ Qkb (.block 0 (.loop Qkh))) (jQ Qki (.ret)))
abbrev QGK:List RR:=[.tmp 2]
theorem QGL:CT 170 18 QGJ QGK:=ck Tryz.func170 Tryz.ntmps170 (by decide +kernel)
def Pa:IL:=[jc 4 0]
def Pb:IL:=[ja 6 0,ja 7 1,zw 8 6 7,ja 5 8]
def Pd:IL:=[ja 10 5,⟨some 11,.val (.bin .num .lss (.t 10) (.c (.int .u8 128))),none⟩,ja 9 11]
def Pe:IL:=[jc 4 1]
def F4:IL:=[ja 13 5,M6 14 13 194,ja 15 14,jk 16 5 15,M7 17 16 223 15,jm 18 15 17,ja 19 18,jk 20 0 19,jk 21 1 19,zq 22 21 1 19,FZ 23 217 20 22 1 19,jm 24 19 23,ja 12 24]
def Pf:IL:=[jc 4 2]
def F5:IL:=[ja 26 5,M8 27 26 224,ja 28 27,jk 29 0 28,jk 30 1 28,zq 31 30 1 28,⟨some 32,.call (.f 218) [(.t 29),(.t 31),(.c (.int .u8 160)),(.c (.int .u8 191))],(some (28,true))⟩,jm 33 28 32,ja 34 33,jk 35 0 34,jk 36 1 34,zq 37 36 2 34,FZ 38 217 35 37 1 34,jm 39 34 38,ja 25 39]
def Ph:IL:=[jc 4 3]
def F6:IL:=[ja 41 5,M8 42 41 237,ja 43 42,jk 44 0 43,jk 45 1 43,zq 46 45 1 43,⟨some 47,.call (.f 218) [(.t 44),(.t 46),(.c (.int .u8 128)),(.c (.int .u8 159))],(some (43,true))⟩,jm 48 43 47,ja 49 48,jk 50 0 49,jk 51 1 49,zq 52 51 2 49,FZ 53 217 50 52 1 49,jm 54 49 53,ja 40 54]
def Pi:IL:=[jc 4 3]
def Df:IL:=[ja 56 5,M6 57 56 225,ja 58 57,jk 59 5 58,M7 60 59 239 58,jm 61 58 60,ja 62 61,jk 63 5 62,⟨some 64,.val (.bin .num .neq (.t 63) (.c (.int .u8 237))),(some (62,true))⟩,jm 65 62 64,ja 66 65,jk 67 0 66,jk 68 1 66,zq 69 68 1 66,FZ 70 217 67 69 2 66,jm 71 66 70,ja 55 71]
def NX:IL:=[jc 4 3]
def Dg:IL:=[ja 73 5,M8 74 73 240,ja 75 74,jk 76 0 75,jk 77 1 75,zq 78 77 1 75,⟨some 79,.call (.f 218) [(.t 76),(.t 78),(.c (.int .u8 144)),(.c (.int .u8 191))],(some (75,true))⟩,jm 80 75 79,ja 81 80,jk 82 0 81,jk 83 1 81,zq 84 83 2 81,FZ 85 217 82 84 2 81,jm 86 81 85,ja 72 86]
def NY:IL:=[jc 4 4]
def Dh:IL:=[ja 88 5,M6 89 88 241,ja 90 89,jk 91 5 90,M7 92 91 243 90,jm 93 90 92,ja 94 93,jk 95 0 94,jk 96 1 94,zq 97 96 1 94,FZ 98 217 95 97 3 94,jm 99 94 98,ja 87 99]
def NZ:IL:=[jc 4 4]
def Di:IL:=[ja 101 5,M8 102 101 244,ja 103 102,jk 104 0 103,jk 105 1 103,zq 106 105 1 103,⟨some 107,.call (.f 218) [(.t 104),(.t 106),(.c (.int .u8 128)),(.c (.int .u8 143))],(some (103,true))⟩,jm 108 103 107,ja 109 108,jk 110 0 109,jk 111 1 109,zq 112 111 2 109,FZ 113 217 110 112 2 109,jm 114 109 113,ja 100 114]
def N0:IL:=[jc 4 4]
def N1:IL:=[jc 4 0]
def Qkj:RC:=jQ Pa (jQ Pb (.seq (.block 0 (jQ Pd (.cond (.t 9) (jQ Pe (.ret)) (jQ F4 (.cond (.t 12) (jQ Pf (.ret)) (jQ F5 (.cond (.t 25) (jQ Ph (.ret)) (jQ F6 (.cond (.t 40) (jQ Pi (.ret)) (jQ Df (.cond (.t 55) (jQ NX (.ret)) (jQ Dg (.cond (.t 72) (jQ NY (.ret)) (jQ Dh (.cond (.t 87) (jQ NZ (.ret)) (jQ Di (.cond (.t 100) (jQ N0 (.ret)) (.skip)))))))))))))))))) (jQ N1 (.ret))))
def Qkk:List RR:=[.tmp 4]
theorem QGM:CT 204 115 Qkj Qkk:=ck Tryz.func204 Tryz.ntmps204 (by decide +kernel)
abbrev Qkl:IL:=[jq 2]
abbrev Qkm:IL:=[ja 3 0,jl 4 170 3,ym 5 4 0,ja 2 5]
abbrev QGN:RC:=jQ Qkl (jQ Qkm (.ret))
abbrev QGO:List RR:=[.tmp 2]
theorem QGP:CT 115 6 QGN QGO:=ck Tryz.func115 Tryz.ntmps115 (by decide +kernel)
abbrev Qkn:IL:=[jq 8]
abbrev Qko:IL:=[ja 9 1,ja 10 0,jp 11 0 10,jv 12 9 11,ja 13 12,jk 14 0 13,jk 15 1 13,M9 16 14 15 13,jk 17 2 13,⟨some 18,.val (.bin .num .geq (.t 16) (.t 17)),(some (13,true))⟩,jm 19 13 18,ja 20 19,jk 21 0 20,jk 22 1 20,M9 23 21 22 20,jk 24 3 20,FX 25 23 24 20,jm 26 20 25,ja 8 26]
abbrev QGQ:RC:=jQ Qkn (jQ Qko (.ret))
abbrev QGR:List RR:=[.tmp 8]
theorem QGS:CT 218 27 QGQ QGR:=ck Tryz.func218 Tryz.ntmps218 (by decide +kernel)
abbrev Qkp:IL:=[jq 6]
abbrev Qkq:IL:=[jc 7 0]
abbrev Qkr:IL:=[ja 8 7,ja 9 2,jv 10 8 9]
abbrev Qks:IL:=[ja 13 0,ja 14 1,ja 15 7,yk 16 14 15,⟨some 17,.call (.f 218) [(.t 13),(.t 16),(.c (.int .u8 128)),(.c (.int .u8 191))],none⟩,yd 18 17]
abbrev Qkt:IL:=[jq 6]
abbrev Qku:IL:=[ja 11 7,jw 12 11 1,ja 7 12]
abbrev Qkv:RC:=.seq (jQ Qkr (jX 10 0)) (.seq (.block 1 (jQ Qks (.cond (.t 18) (jQ Qkt (.ret)) (.skip)))) (.reg Qku))
abbrev Qkw:IL:=[yi 6]
abbrev QGT:RC:=jQ Qkp (.seq (jQ Qkq (.block 0 (.loop Qkv))) (jQ Qkw (.ret)))
abbrev QGU:List RR:=[.tmp 6]
theorem QGV:CT 217 19 QGT QGU:=ck Tryz.func217 Tryz.ntmps217 (by decide +kernel)
abbrev Qkx:IL:=[jh 3 3 1,jq 4]
abbrev Qky:IL:=[ja 6 0,jl 7 118 6,yd 8 7,ja 9 8,jz 10 0 3 9,yb 11 10 9,yc 12 0 9,NR 13 11 12 9,ya 14 9 13,ja 15 14,NK 16 7 3 15,zs 17 138 16 15,FS 18 17 15,ya 19 15 18]
abbrev Qkz:IL:=[jq 4]
abbrev QkA:IL:=[ja 20 0,jl 21 119 20]
abbrev QkB:IL:=[jb 22 1 3,je 23 22,zn 24 23 0,ja 25 24,jo 26 2 3 25,jx 27 26 25,yq 28 0 27 25,yz 29 28 4096 25,jm 30 25 29,ja 31 30,jk 32 0 31,yo 33 32 8 31,jk 34 33 31,jz 35 2 3 34,yb 36 35 34,zs 37 115 36 34,zf 38 34 37 31,jm 39 31 38,ja 4 39]
abbrev QkC:IL:=[jb 40 2 3,je 41 40,⟨some 42,.val (.bin .str .neq (.t 41) (.c (.str []))),none⟩]
abbrev QkD:IL:=[jq 4]
abbrev QkE:IL:=[ja 43 0]
abbrev QkF:IL:=[jn 45 43 1,ja 44 45]
abbrev QkG:IL:=[jb 46 1 3,je 47 46,⟨some 48,.val (.bin .num .leq (.t 47) (.c (.int .u64 1))),none⟩,ja 4 48]
abbrev E9:IL:=[jn 50 43 2,ja 49 50]
abbrev Ia:IL:=[jb 51 1 3,je 52 51,yv 53 52,ja 5 53]
abbrev Ib:IL:=[ja 54 5,zg 55 54 (-2147483648),ja 56 55,jk 57 5 56,yz 58 57 2147483647 56,jm 59 56 58,ja 4 59]
abbrev Ic:IL:=[jn 61 43 4,ja 60 61]
abbrev Id:IL:=[jb 62 1 3,je 63 62,NO 64 63 4294967296,ja 4 64]
abbrev Ie:IL:=[jn 66 43 9,ja 65 66]
abbrev Ig:IL:=[jb 67 1 3,je 68 67,NO 69 68 2147483648,ja 4 69]
abbrev Ih:IL:=[yi 4]
abbrev QGW:RC:=jQ Qkx (.seq (jQ Qky (.cond (.t 19) (jQ Qkz (.ret)) (.skip))) (.seq (jQ QkA (.cond (.t 21) (jQ QkB (.ret)) (.skip))) (.seq (jQ QkC (.cond (.t 42) (jQ QkD (.ret)) (.skip))) (.seq (jQ QkE (.block 0 (jQ QkF (.cond (.t 44) (jQ QkG (.ret)) (jQ E9 (.cond (.t 49) (jQ Ia (jQ Ib (.ret))) (jQ Ic (.cond (.t 60) (jQ Id (.ret)) (jQ Ie (.cond (.t 65) (jQ Ig (.ret)) (.skip))))))))))) (jQ Ih (.ret))))))
abbrev QGX:List RR:=[.tmp 4]
theorem QkH:CT 169 70 QGW QGX:=ck Tryz.func169 Tryz.ntmps169 (by decide +kernel)
abbrev QkI:IL:=[jq 2]
abbrev QkJ:IL:=[ja 3 0,zg 4 3 1,ja 5 4,jk 6 0 5,yz 7 6 9 5,jm 8 5 7,ja 2 8]
abbrev QGY:RC:=jQ QkI (jQ QkJ (.ret))
abbrev QGZ:List RR:=[.tmp 2]
theorem QG0:CT 118 9 QGY QGZ:=ck Tryz.func118 Tryz.ntmps118 (by decide +kernel)
abbrev QkK:IL:=[jh 1 1 0,jq 2]
abbrev QkL:IL:=[jb 3 3 1,je 4 3,jp 5 1 4,jn 6 5 0,ja 7 6,jo 8 4 1 7,jx 9 8 7,yq 10 1 9 7,yo 11 10 0 7,jm 12 7 11,ja 13 12,jo 14 5 1 13,jx 15 14 13,yq 16 1 15 13,yo 17 16 0 13,jm 18 13 17,ja 19 18,jo 20 6 1 19,jx 21 20 19,yq 22 1 21 19,yo 23 22 0 19,jm 24 19 23,ja 2 24]
abbrev QG1:RC:=jQ QkK (jQ QkL (.ret))
abbrev QG2:List RR:=[.tmp 2]
theorem QG3:CT 138 25 QG1 QG2:=ck Tryz.func138 Tryz.ntmps138 (by decide +kernel)
abbrev QkM:IL:=[jq 2]
abbrev QkN:IL:=[ja 3 0,jn 4 3 7,ja 5 4,yc 6 0 5,yu 7 6 8 5,ya 8 5 7,ja 2 8]
abbrev QG4:RC:=jQ QkM (jQ QkN (.ret))
abbrev QG5:List RR:=[.tmp 2]
theorem QG6:CT 119 9 QG4 QG5:=ck Tryz.func119 Tryz.ntmps119 (by decide +kernel)
abbrev QkO:IL:=[jq 2]
abbrev QkP:IL:=[ja 5 0,jp 6 0 5,zi 7 6 120]
abbrev QkQ:IL:=[jq 2]
abbrev QkR:IL:=[ys 3]
abbrev QkS:IL:=[jc 4 0]
abbrev QkT:IL:=[ja 8 4,ja 9 0,jp 10 0 9,jv 11 8 10]
abbrev QkU:IL:=[ja 14 0,ja 15 4,zw 16 14 15,⟨some 17,.val (.bin .num .neq (.t 16) (.c (.int .u8 46))),none⟩]
abbrev QkV:IL:=[ja 18 3,ja 19 0,ja 20 4,ja 21 4,jw 22 21 1,NT 23 19 20 22,⟨some 24,.val (.bin .str .add (.t 18) (.t 23)),none⟩,ja 3 24]
abbrev QkW:IL:=[ja 25 3,jl 26 111 25,yd 27 26]
abbrev Ii:IL:=[jq 2]
abbrev Ij:IL:=[ys 3]
abbrev QkX:IL:=[ja 12 4,jw 13 12 1,ja 4 13]
abbrev QkY:RC:=.seq (jQ QkT (jX 11 0)) (.seq (.block 1 (.seq (jQ QkU (.cond (.t 17) (jQ QkV (.exit 1)) (.skip))) (.seq (jQ QkW (.cond (.t 27) (jQ Ii (.ret)) (.skip))) (.reg Ij)))) (.reg QkX))
abbrev Ik:IL:=[ja 28 3,jl 29 111 28,ja 2 29]
abbrev QG7:RC:=jQ QkO (.seq (jQ QkP (.cond (.t 7) (jQ QkQ (.ret)) (.skip))) (jQ QkR (.seq (jQ QkS (.block 0 (.loop QkY))) (jQ Ik (.ret)))))
abbrev QG8:List RR:=[.tmp 2]
theorem QG9:CT 108 30 QG7 QG8:=ck Tryz.func108 Tryz.ntmps108 (by decide +kernel)
abbrev QkZ:IL:=[jq 2]
abbrev Qk0:IL:=[ja 4 0,jp 5 0 4,jn 6 5 0,ja 7 6,yc 8 0 7,zm 9 0 8 7,zz 10 9 40 7,ya 11 7 10,ja 12 11,yc 13 0 12,⟨some 14,.val (.idx (.t 13) (.c (.int .i64 0))),(some (12,false))⟩,zs 15 167 14 12,FS 16 15 12,yc 17 16 12,jk 18 0 17,⟨some 19,.val (.idx (.t 18) (.c (.int .i64 0))),(some (17,true))⟩,za 20 168 19 17,zt 21 20 17,NI 22 17 21 12,ya 23 12 22]
abbrev Qk1:IL:=[jq 2]
abbrev Qk2:IL:=[jc 3 1]
abbrev Qk3:IL:=[ja 24 3,ja 25 0,jp 26 0 25,jv 27 24 26]
abbrev Qk4:IL:=[ja 30 0,ja 31 3,zw 32 30 31,jl 33 167 32,yd 34 33,ja 35 34,jk 36 0 35,jk 37 3 35,M9 38 36 37 35,za 39 168 38 35,zt 40 39 35,jm 41 35 40,ja 42 41,jk 43 0 42,jk 44 3 42,M9 45 43 44 42,⟨some 46,.val (.bin .num .neq (.t 45) (.c (.int .u8 95))),(some (42,true))⟩,jm 47 42 46,ja 48 47,jk 49 0 48,jk 50 3 48,M9 51 49 50 48,⟨some 52,.val (.bin .num .lss (.t 51) (.c (.int .u8 48))),(some (48,true))⟩,jk 53 52 48,yc 54 0 53,yc 55 3 53,⟨some 56,.val (.idx (.t 54) (.t 55)),(some (53,false))⟩,⟨some 57,.val (.bin .num .gtr (.t 56) (.c (.int .u8 57))),(some (53,false))⟩,zf 58 53 57 48,jm 59 48 58]
abbrev Qk5:IL:=[jq 2]
abbrev Qk6:IL:=[ja 28 3,jw 29 28 1,ja 3 29]
abbrev Pj:RC:=.seq (jQ Qk3 (jX 27 0)) (.seq (.block 1 (jQ Qk4 (.cond (.t 59) (jQ Qk5 (.ret)) (.skip)))) (.reg Qk6))
abbrev Qk7:IL:=[yi 2]
abbrev QHa:RC:=jQ QkZ (.seq (jQ Qk0 (.cond (.t 23) (jQ Qk1 (.ret)) (.skip))) (.seq (jQ Qk2 (.block 0 (.loop Pj))) (jQ Qk7 (.ret))))
abbrev QHb:List RR:=[.tmp 2]
theorem QHc:CT 111 60 QHa QHb:=ck Tryz.func111 Tryz.ntmps111 (by decide +kernel)
abbrev Qk8:IL:=[jq 2]
abbrev Qk9:IL:=[ja 3 0]
abbrev Qla:IL:=[⟨some 5,.val (.bin .str .eql (.t 3) (.c (.str [109,101,115,115,97,103,101]))),none⟩,ja 4 5]
abbrev Qlb:IL:=[⟨some 6,.val (.bin .str .eql (.t 3) (.c (.str [101,110,117,109]))),none⟩,ja 4 6]
abbrev Qlc:IL:=[⟨some 7,.val (.bin .str .eql (.t 3) (.c (.str [115,101,114,118,105,99,101]))),none⟩,ja 4 7]
abbrev Qld:IL:=[⟨some 8,.val (.bin .str .eql (.t 3) (.c (.str [117,110,105,111,110]))),none⟩,ja 4 8]
abbrev Qle:IL:=[⟨some 9,.val (.bin .str .eql (.t 3) (.c (.str [109,97,112]))),none⟩,ja 4 9]
abbrev Qlf:IL:=[⟨some 10,.val (.bin .str .eql (.t 3) (.c (.str [108,105,115,116]))),none⟩,ja 4 10]
abbrev Qlg:IL:=[⟨some 11,.val (.bin .str .eql (.t 3) (.c (.str [114,101,113,117,105,114,101,100]))),none⟩,ja 4 11]
abbrev Qlh:IL:=[⟨some 12,.val (.bin .str .eql (.t 3) (.c (.str [111,112,116,105,111,110,97,108]))),none⟩,ja 4 12]
abbrev Il:IL:=[⟨some 13,.val (.bin .str .eql (.t 3) (.c (.str [112,108,97,105,110]))),none⟩,ja 4 13]
abbrev Im:IL:=[⟨some 14,.val (.bin .str .eql (.t 3) (.c (.str [100,101,102,97,117,108,116]))),none⟩,ja 4 14]
abbrev Io:IL:=[⟨some 15,.val (.bin .str .eql (.t 3) (.c (.str [114,101,115,101,114,118,101,100]))),none⟩,ja 4 15]
abbrev Ip:IL:=[⟨some 16,.val (.bin .str .eql (.t 3) (.c (.str [105,109,112,111,114,116]))),none⟩,ja 4 16]
abbrev Iq:IL:=[⟨some 17,.val (.bin .str .eql (.t 3) (.c (.str [115,112,97,99,101]))),none⟩,ja 4 17]
abbrev Ir:IL:=[⟨some 18,.val (.bin .str .eql (.t 3) (.c (.str [114,112,99]))),none⟩,ja 4 18]
abbrev Is:IL:=[⟨some 19,.val (.bin .str .eql (.t 3) (.c (.str [115,116,114,101,97,109]))),none⟩,ja 4 19]
abbrev It:IL:=[⟨some 20,.val (.bin .str .eql (.t 3) (.c (.str [114,101,116,117,114,110,115]))),none⟩,ja 4 20]
abbrev Iu:IL:=[⟨some 21,.val (.bin .str .eql (.t 3) (.c (.str [111,112,101,110]))),none⟩,ja 4 21]
abbrev Iv:IL:=[⟨some 22,.val (.bin .str .eql (.t 3) (.c (.str [116,114,117,101]))),none⟩,ja 4 22]
abbrev Iw:IL:=[⟨some 23,.val (.bin .str .eql (.t 3) (.c (.str [102,97,108,115,101]))),none⟩,ja 4 23]
abbrev Ix:IL:=[⟨some 24,.val (.bin .str .eql (.t 3) (.c (.str [110,97,110]))),none⟩,ja 4 24]
abbrev Iy:IL:=[⟨some 25,.val (.bin .str .eql (.t 3) (.c (.str [105,110,102]))),none⟩,ja 4 25]
abbrev Iz:IL:=[yi 2]
abbrev IA:IL:=[jq 2]
abbrev QHd:RC:=jQ Qk8 (.seq (jQ Qk9 (.block 0 (.seq (jQ Qla (.cond (.t 4) (.skip) (jQ Qlb (.cond (.t 4) (.skip) (jQ Qlc (.cond (.t 4) (.skip) (jQ Qld (.cond (.t 4) (.skip) (jQ Qle (.cond (.t 4) (.skip) (jQ Qlf (.cond (.t 4) (.skip) (jQ Qlg (.cond (.t 4) (.skip) (jQ Qlh (.cond (.t 4) (.skip) (jQ Il (.cond (.t 4) (.skip) (jQ Im (.cond (.t 4) (.skip) (jQ Io (.cond (.t 4) (.skip) (jQ Ip (.cond (.t 4) (.skip) (jQ Iq (.cond (.t 4) (.skip) (jQ Ir (.cond (.t 4) (.skip) (jQ Is (.cond (.t 4) (.skip) (jQ It (.cond (.t 4) (.skip) (jQ Iu (.cond (.t 4) (.skip) (jQ Iv (.cond (.t 4) (.skip) (jQ Iw (.cond (.t 4) (.skip) (jQ Ix (.cond (.t 4) (.skip) (.reg Iy))))))))))))))))))))))))))))))))))))))))) (.cond (.t 4) (jQ Iz (.ret)) (.skip))))) (jQ IA (.ret)))
abbrev QHe:List RR:=[.tmp 2]
theorem QHf:CT 110 26 QHd QHe:=ck Tryz.func110 Tryz.ntmps110 (by decide +kernel)
abbrev Qli:IL:=[ys 2,ys 3]
abbrev Qlj:IL:=[ja 5 0,jp 6 0 5,WR 7 6 1,ja 4 7]
abbrev Qlk:IL:=[ja 8 4,zg 9 8 0]
abbrev Qll:IL:=[ja 12 0,ja 13 4,zw 14 12 13,M8 15 14 46]
abbrev Qlm:IL:=[ja 16 0,ja 17 4,⟨some 18,.val (.slc none (.t 16) none (some (.t 17)) none),none⟩,ja 19 0,ja 20 4,jw 21 20 1,⟨some 22,.val (.slc none (.t 19) (some (.t 21)) none none),none⟩,ja 2 18,ja 3 22]
abbrev Qln:IL:=[ja 10 4,WR 11 10 1,ja 4 11]
abbrev Qlo:RC:=.seq (jQ Qlk (jX 9 0)) (.seq (.block 1 (jQ Qll (.cond (.t 15) (jD Qlm (.ret)) (.skip)))) (.reg Qln))
abbrev Qlp:IL:=[ja 23 0,ys 2,ja 3 23]
abbrev QHg:RC:=jQ Qli (.seq (jQ Qlj (.block 0 (.loop Qlo))) (jQ Qlp (.ret)))
abbrev QHh:List RR:=[.tmp 2,.tmp 3]
theorem QHi:CT 109 24 QHg QHh:=ck Tryz.func109 Tryz.ntmps109 (by decide +kernel)
abbrev Qlq:IL:=[jq 2]
abbrev Qlr:IL:=[ja 3 0,M6 4 3 65,ja 5 4,jk 6 0 5,M7 7 6 90 5,jm 8 5 7,ja 2 8]
abbrev QHj:RC:=jQ Qlq (jQ Qlr (.ret))
abbrev QHk:List RR:=[.tmp 2]
theorem QHl:CT 168 9 QHj QHk:=ck Tryz.func168 Tryz.ntmps168 (by decide +kernel)
abbrev Qls:IL:=[jq 2]
abbrev Qlt:IL:=[ja 3 0,M6 4 3 97,ja 5 4,jk 6 0 5,M7 7 6 122 5,jm 8 5 7,ja 2 8]
abbrev QHm:RC:=jQ Qls (jQ Qlt (.ret))
abbrev QHn:List RR:=[.tmp 2]
theorem QHo:CT 167 9 QHm QHn:=ck Tryz.func167 Tryz.ntmps167 (by decide +kernel)
abbrev QyB:IL:=[jc 4 0]
abbrev QyC:IL:=[ja 6 0,jp 7 1 6,zi 8 7 8]
abbrev QyD:IL:=[jc 4 3]
abbrev QyE:IL:=[jc 5 0]
abbrev QyF:IL:=[ja 9 5,ja 10 0,jp 11 1 10,jv 12 9 11]
abbrev QyG:IL:=[ja 15 0,ja 16 5,jr 17 8 15 16,jb 18 0 17,je 19 18,jl 20 112 19,jn 21 20 0]
abbrev QyH:IL:=[jc 4 8]
abbrev QyI:IL:=[ja 22 0,ja 23 5,jr 24 8 22 23,jb 25 0 24,je 26 25,ja 27 1,ju 28 113 26 27,yd 29 28]
abbrev QyJ:IL:=[jc 4 1]
abbrev Qlu:IL:=[ja 30 0,ja 31 5,jr 32 8 30 31,jd 33 8 32,jl 34 114 33,yd 35 34]
abbrev Qlv:IL:=[jc 4 12]
abbrev Qlw:IL:=[ja 36 5,zi 37 36 0,ja 38 37,jk 39 0 38,jk 40 5 38,ye 41 8 39 40 38,jo 42 0 41 38,yt 43 42 38,jk 44 0 38,jk 45 5 38,FV 46 45 1 38,ye 47 8 44 46 38,jo 48 0 47 38,yt 49 48 38,⟨some 50,.val (.bin .str .lss (.t 43) (.t 49)),(some (38,true))⟩,jm 51 38 50]
abbrev Qlx:IL:=[jc 4 11]
abbrev Qly:IL:=[ja 52 5,zi 53 52 0,ja 54 53,jk 55 0 54,jk 56 5 54,ye 57 8 55 56 54,jo 58 0 57 54,yt 59 58 54,jk 60 0 54,jk 61 5 54,FV 62 61 1 54,ye 63 8 60 62 54,jo 64 0 63 54,yt 65 64 54,⟨some 66,.val (.bin .str .eql (.t 59) (.t 65)),(some (54,true))⟩,jm 67 54 66]
abbrev Qlz:IL:=[jc 4 9]
abbrev QyK:IL:=[ja 13 5,jw 14 13 1,ja 5 14]
abbrev QyL:RC:=.seq (jQ QyF (jX 12 0)) (.seq (.block 1 (.seq (jQ QyG (.cond (.t 21) (jQ QyH (.ret)) (.skip))) (.seq (jQ QyI (.cond (.t 29) (jQ QyJ (.ret)) (.skip))) (.seq (jQ Qlu (.cond (.t 35) (jQ Qlv (.ret)) (.skip))) (.seq (jD Qlw (.cond (.t 51) (jQ Qlx (.ret)) (.skip))) (jD Qly (.cond (.t 67) (jQ Qlz (.ret)) (.skip)))))))) (.reg QyK))
abbrev QlA:IL:=[jc 4 0]
abbrev r64:RC:=jQ QyB (.seq (jQ QyC (.cond (.t 8) (jQ QyD (.ret)) (.skip))) (.seq (jQ QyE (.block 0 (.loop QyL))) (jQ QlA (.ret))))
abbrev o64:List RR:=[.tmp 4]
theorem k64:CT 64 68 r64 o64:=ck Tryz.func64 Tryz.ntmps64 (by decide +kernel)
abbrev QlB:IL:=[jc 2 0]
abbrev QlC:IL:=[ja 3 0]
abbrev QlD:IL:=[⟨some 5,.val (.bin .str .eql (.t 3) (.c (.str [100,101,112,114,101,99,97,116,101,100]))),none⟩,ja 4 5]
abbrev QlE:IL:=[⟨some 6,.val (.bin .str .eql (.t 3) (.c (.str [115,101,99,114,101,116]))),none⟩,ja 4 6]
abbrev QlF:IL:=[⟨some 7,.val (.bin .str .eql (.t 3) (.c (.str [105,100,101,109,112,111,116,101,110,116]))),none⟩,ja 4 7]
abbrev QlG:IL:=[jc 2 1]
abbrev QlH:IL:=[⟨some 9,.val (.bin .str .eql (.t 3) (.c (.str [100,111,99]))),none⟩,ja 8 9]
abbrev QlI:IL:=[⟨some 10,.val (.bin .str .eql (.t 3) (.c (.str [97,108,105,97,115]))),none⟩,ja 8 10]
abbrev QlJ:IL:=[⟨some 11,.val (.bin .str .eql (.t 3) (.c (.str [114,111,117,116,101]))),none⟩,ja 8 11]
abbrev QlK:IL:=[⟨some 12,.val (.bin .str .eql (.t 3) (.c (.str [111,119,110,101,114]))),none⟩,ja 8 12]
abbrev IB:IL:=[jc 2 7]
abbrev IC:IL:=[⟨some 14,.val (.bin .str .eql (.t 3) (.c (.str [115,105,110,99,101]))),none⟩,ja 13 14]
abbrev ID:IL:=[⟨some 15,.val (.bin .str .eql (.t 3) (.c (.str [117,110,116,105,108]))),none⟩,ja 13 15]
abbrev IE:IL:=[⟨some 16,.val (.bin .str .eql (.t 3) (.c (.str [108,101,110,103,116,104]))),none⟩,ja 13 16]
abbrev IF:IL:=[⟨some 17,.val (.bin .str .eql (.t 3) (.c (.str [116,105,109,101,111,117,116]))),none⟩,ja 13 17]
abbrev IG:IL:=[jc 2 4]
abbrev IH:IL:=[⟨some 19,.val (.bin .str .eql (.t 3) (.c (.str [109,105,110]))),none⟩,ja 18 19]
abbrev II:IL:=[⟨some 20,.val (.bin .str .eql (.t 3) (.c (.str [109,97,120]))),none⟩,ja 18 20]
abbrev IJ:IL:=[jc 2 3]
abbrev IK:IL:=[jc 2 0]
abbrev QHp:RC:=jQ QlB (.seq (jQ QlC (.block 0 (.seq (jQ QlD (.cond (.t 4) (.skip) (jQ QlE (.cond (.t 4) (.skip) (.reg QlF))))) (.cond (.t 4) (jQ QlG (.ret)) (.seq (jQ QlH (.cond (.t 8) (.skip) (jQ QlI (.cond (.t 8) (.skip) (jQ QlJ (.cond (.t 8) (.skip) (.reg QlK))))))) (.cond (.t 8) (jQ IB (.ret)) (.seq (jQ IC (.cond (.t 13) (.skip) (jQ ID (.cond (.t 13) (.skip) (jQ IE (.cond (.t 13) (.skip) (.reg IF))))))) (.cond (.t 13) (jQ IG (.ret)) (.seq (jQ IH (.cond (.t 18) (.skip) (.reg II))) (.cond (.t 18) (jQ IJ (.ret)) (.skip))))))))))) (jQ IK (.ret)))
abbrev QHq:List RR:=[.tmp 2]
theorem QHr:CT 112 21 QHp QHq:=ck Tryz.func112 Tryz.ntmps112 (by decide +kernel)
abbrev QlL:IL:=[jh 1 1 0,jq 2]
abbrev QlM:IL:=[jb 4 0 1,je 5 4,jl 6 112 5,ja 3 6]
abbrev QlN:IL:=[ja 7 3,js 8 7 0,ja 9 8,jo 10 1 1 9,jo 11 0 10 9,jx 12 11 9,jk 13 3 9,⟨some 14,.val (.bin .num .eql (.t 12) (.t 13)),(some (9,true))⟩,jm 15 9 14,ja 16 15,jk 17 3 16,jo 18 1 1 16,yy 19 7 18 16,DP 20 169 17 19 16,jm 21 16 20,ja 2 21]
abbrev QHs:RC:=jQ QlL (jQ QlM (jQ QlN (.ret)))
abbrev QHt:List RR:=[.tmp 2]
theorem QHu:CT 114 22 QHs QHt:=ck Tryz.func114 Tryz.ntmps114 (by decide +kernel)
abbrev QlO:IL:=[jq 4]
abbrev QlP:IL:=[ja 5 0]
abbrev QlQ:IL:=[⟨some 7,.val (.bin .str .eql (.t 5) (.c (.str [100,101,112,114,101,99,97,116,101,100]))),none⟩,ja 6 7]
abbrev QlR:IL:=[⟨some 8,.val (.bin .str .eql (.t 5) (.c (.str [100,111,99]))),none⟩,ja 6 8]
abbrev QlS:IL:=[ja 9 1,zg 10 9 1,ja 11 10,jk 12 1 11,yz 13 12 6 11,jm 14 11 13,ja 4 14]
abbrev QlT:IL:=[⟨some 16,.val (.bin .str .eql (.t 5) (.c (.str [97,108,105,97,115]))),none⟩,ja 15 16]
abbrev QlU:IL:=[⟨some 17,.val (.bin .str .eql (.t 5) (.c (.str [115,105,110,99,101]))),none⟩,ja 15 17]
abbrev QlV:IL:=[⟨some 18,.val (.bin .str .eql (.t 5) (.c (.str [117,110,116,105,108]))),none⟩,ja 15 18]
abbrev QlW:IL:=[ja 19 1,jn 20 19 2,ja 21 20,yc 22 1 21,yu 23 22 4 21,ya 24 21 23,ja 25 24,yc 26 1 25,yu 27 26 6 25,ya 28 25 27,ja 4 28]
abbrev QlX:IL:=[⟨some 30,.val (.bin .str .eql (.t 5) (.c (.str [109,105,110]))),none⟩,ja 29 30]
abbrev IM:IL:=[⟨some 31,.val (.bin .str .eql (.t 5) (.c (.str [109,97,120]))),none⟩,ja 29 31]
abbrev IN:IL:=[⟨some 32,.val (.bin .str .eql (.t 5) (.c (.str [108,101,110,103,116,104]))),none⟩,ja 29 32]
abbrev IP:IL:=[⟨some 33,.val (.bin .str .eql (.t 5) (.c (.str [115,101,99,114,101,116]))),none⟩,ja 29 33]
abbrev IQ:IL:=[ja 34 1,jn 35 34 2,ja 4 35]
abbrev IR:IL:=[⟨some 37,.val (.bin .str .eql (.t 5) (.c (.str [105,100,101,109,112,111,116,101,110,116]))),none⟩,ja 36 37]
abbrev IS:IL:=[⟨some 38,.val (.bin .str .eql (.t 5) (.c (.str [116,105,109,101,111,117,116]))),none⟩,ja 36 38]
abbrev IU:IL:=[⟨some 39,.val (.bin .str .eql (.t 5) (.c (.str [114,111,117,116,101]))),none⟩,ja 36 39]
abbrev IV:IL:=[ja 40 1,jn 41 40 6,ja 4 41]
abbrev IW:IL:=[ja 42 1,jn 43 42 1,ja 44 43,yc 45 1 44,yu 46 45 5 44,ya 47 44 46,ja 4 47]
abbrev QHv:RC:=jQ QlO (.seq (jQ QlP (.block 0 (.seq (jQ QlQ (.cond (.t 6) (.skip) (.reg QlR))) (.cond (.t 6) (jQ QlS (.ret)) (.seq (jQ QlT (.cond (.t 15) (.skip) (jQ QlU (.cond (.t 15) (.skip) (.reg QlV))))) (.cond (.t 15) (jQ QlW (.ret)) (.seq (jQ QlX (.cond (.t 29) (.skip) (jQ IM (.cond (.t 29) (.skip) (jQ IN (.cond (.t 29) (.skip) (.reg IP))))))) (.cond (.t 29) (jQ IQ (.ret)) (.seq (jQ IR (.cond (.t 36) (.skip) (jQ IS (.cond (.t 36) (.skip) (.reg IU))))) (.cond (.t 36) (jQ IV (.ret)) (.skip))))))))))) (jQ IW (.ret)))
abbrev QHw:List RR:=[.tmp 4]
theorem QHx:CT 113 48 QHv QHw:=ck Tryz.func113 Tryz.ntmps113 (by decide +kernel)
abbrev QyM:IL:=[jq 4]
abbrev QyN:IL:=[jc 5 0]
abbrev QyO:IL:=[ja 6 5,ja 7 0,jp 8 1 7,jv 9 6 8]
abbrev QyP:IL:=[ja 12 0,ja 13 5,jr 14 2 12 13,jb 15 0 14,je 16 15,ja 17 1,NL 18 16 17,ja 19 18,jk 20 1 19,jk 21 0 19,jk 22 5 19,ye 23 2 21 22 19,jo 24 1 23 19,jx 25 24 19,FX 26 20 25 19,jm 27 19 26]
abbrev QyQ:IL:=[yi 4]
abbrev QyR:IL:=[ja 10 5,jw 11 10 1,ja 5 11]
abbrev QyS:RC:=.seq (jQ QyO (jX 9 0)) (.seq (.block 1 (jQ QyP (.cond (.t 27) (jQ QyQ (.ret)) (.skip)))) (.reg QyR))
abbrev QyT:IL:=[jq 4]
abbrev N2:RC:=jQ QyM (.seq (jQ QyN (.block 0 (.loop QyS))) (jQ QyT (.ret)))
abbrev o63:List RR:=[.tmp 4]
theorem k63:CT 63 28 N2 o63:=ck Tryz.func63 Tryz.ntmps63 (by decide +kernel)
abbrev QyU:IL:=[jh 1 1 0,jc 2 0]
abbrev QyV:IL:=[jd 4 2 1,jl 5 28 4,yd 6 5,ja 3 6]
abbrev QyW:IL:=[jc 2 3]
abbrev QyX:IL:=[jd 8 2 1,jl 9 29 8,yd 10 9,ja 7 10]
abbrev QyY:IL:=[jc 2 8]
abbrev QyZ:IL:=[jd 12 2 1,jl 13 30 12,yd 14 13,ja 11 14]
abbrev Qy0:IL:=[jc 2 11]
abbrev Qy1:IL:=[jd 16 2 1,jl 17 31 16,yd 18 17,ja 15 18]
abbrev Qy2:IL:=[jc 2 9]
abbrev Qy3:IL:=[jd 20 2 1,jl 21 32 20,yd 22 21,ja 19 22]
abbrev QlY:IL:=[jc 2 6]
abbrev QlZ:IL:=[jd 24 2 1,jl 25 33 24,yd 26 25,ja 23 26]
abbrev Ql0:IL:=[jc 2 1]
abbrev Ql1:IL:=[jd 28 2 1,jl 29 34 28,yd 30 29,ja 27 30]
abbrev Ql2:IL:=[jc 2 19]
abbrev Ql3:IL:=[jc 2 0]
abbrev SX:RC:=jQ QyU (.seq (.block 0 (jQ QyV (.cond (.t 3) (jQ QyW (.ret)) (jQ QyX (.cond (.t 7) (jQ QyY (.ret)) (jQ QyZ (.cond (.t 11) (jQ Qy0 (.ret)) (jQ Qy1 (.cond (.t 15) (jQ Qy2 (.ret)) (jQ Qy3 (.cond (.t 19) (jQ QlY (.ret)) (jQ QlZ (.cond (.t 23) (jQ Ql0 (.ret)) (jQ Ql1 (.cond (.t 27) (jQ Ql2 (.ret)) (.skip)))))))))))))))) (jQ Ql3 (.ret)))
abbrev o13:List RR:=[.tmp 2]
theorem k13:CT 13 31 SX o13:=ck Tryz.func13 Tryz.ntmps13 (by decide +kernel)
abbrev Qy4:IL:=[jh 1 1 0,jq 2]
abbrev Qy5:IL:=[yi 3]
abbrev Qy6:IL:=[jc 4 0]
abbrev Qy7:IL:=[ja 9 4,jb 10 1 1,je 11 10,jp 12 1 11,jv 13 9 12]
abbrev Qy8:IL:=[ja 16 3,ja 17 16,jo 18 1 1 17,jx 19 18 17,jk 20 4 17,ye 21 5 19 20 17,jo 22 4 21 17,jx 23 22 17,yq 24 1 23 17,yo 25 24 0 17,jm 26 17 25,ja 3 26]
abbrev Qy9:IL:=[jc 5 0]
abbrev Qza:IL:=[ja 27 5,jb 28 1 1,je 29 28,ja 30 4,jr 31 5 29 30,jb 32 2 31,je 33 32,jp 34 1 33,jv 35 27 34]
abbrev Qzb:IL:=[jb 38 1 1,je 39 38,ja 40 4,jr 41 5 39 40,jb 42 2 41,je 43 42,ja 44 5,jr 45 3 43 44,jb 46 2 45,je 47 46,ja 6 47]
abbrev Ql4:IL:=[ja 48 3,ja 49 48,jk 50 6 49,yq 51 1 50 49,yo 52 51 0 49,jk 53 52 49,yc 54 6 53,zm 55 1 54 53,yu 56 55 1 53,yc 57 56 53,jk 58 6 57,⟨some 59,.val (.iaddr 8 none (.t 58) (.c (.int .i64 0))),(some (57,true))⟩,jo 60 0 59 57,jx 61 60 57,⟨some 62,.val (.bin .str .eql (.t 61) (.c (.str [97,108,105,97,115]))),(some (57,true))⟩,NI 63 57 62 53,yc 64 63 53,jk 65 6 64,⟨some 66,.call (.f 64) [(.t 65),(.c (.int .i64 4))],(some (64,true))⟩,yo 67 66 0 64,NI 68 64 67 53,zf 69 53 68 49,jm 70 49 69,ja 3 70]
abbrev Qzc:IL:=[ja 36 5,jw 37 36 1,ja 5 37]
abbrev SY:RC:=.seq (jQ Qza (jX 35 2)) (.seq (.block 3 (jQ Qzb (.reg Ql4))) (.reg Qzc))
abbrev Qzd:IL:=[ja 14 4,jw 15 14 1,ja 4 15]
abbrev SZ:RC:=.seq (jQ Qy7 (jX 13 0)) (.seq (.block 1 (jQ Qy8 (jQ Qy9 (.block 2 (.loop SY))))) (.reg Qzd))
abbrev Ql5:IL:=[jc 7 0]
abbrev Ql6:IL:=[ja 71 7,jb 72 0 1,je 73 72,jp 74 1 73,jv 75 71 74]
abbrev Ql7:IL:=[ja 78 3,ja 79 78,jo 80 0 1 79,jx 81 80 79,jk 82 7 79,ye 83 3 81 82 79,yy 84 3 83 79,za 85 65 84 79,jm 86 79 85,ja 3 86]
abbrev Ql8:IL:=[jc 8 0]
abbrev Ql9:IL:=[ja 87 8,jb 88 0 1,je 89 88,ja 90 7,jr 91 3 89 90,jb 92 1 91,je 93 92,jp 94 1 93,jv 95 87 94]
abbrev Qma:IL:=[ja 98 3,ja 99 98,⟨some 100,.val (.loadv 0 1 (some 2) (.t 1)),(some (99,true))⟩,jo 101 0 1 99,zk 102 0 1 101 99,jk 103 7 99,ye 104 3 102 103 99,jo 105 1 104 99,yt 106 105 99,jk 107 8 99,ye 108 8 106 107 99,zv 109 8 108 99,DP 110 66 100 109 99,jm 111 99 110,ja 3 111]
abbrev Qmb:IL:=[ja 96 8,jw 97 96 1,ja 8 97]
abbrev S0:RC:=.seq (jQ Ql9 (jX 95 6)) (.seq (.block 7 (.draw Qma)) (.reg Qmb))
abbrev Qmc:IL:=[ja 76 7,jw 77 76 1,ja 7 77]
abbrev S1:RC:=.seq (jQ Ql6 (jX 75 4)) (.seq (.block 5 (jQ Ql7 (jQ Ql8 (.block 6 (.loop S0))))) (.reg Qmc))
abbrev Qmd:IL:=[ja 112 3,ja 2 112]
abbrev r33:RC:=jQ Qy4 (jQ Qy5 (.seq (jQ Qy6 (.block 0 (.loop SZ))) (.seq (jQ Ql5 (.block 4 (.loop S1))) (jQ Qmd (.ret)))))
abbrev o33:List RR:=[.tmp 2]
theorem k33:CT 33 113 r33 o33:=ck Tryz.func33 Tryz.ntmps33 (by decide +kernel)
abbrev Qze:IL:=[jq 2]
abbrev Qzf:IL:=[ja 5 0,jl 6 108 5,yd 7 6]
abbrev Qzg:IL:=[jq 2]
abbrev Qzh:IL:=[ja 8 0,⟨some 9,.val (.bin .str .neq (.t 8) (.c (.str []))),none⟩]
abbrev Qzi:IL:=[ja 11 0,jl 12 109 11,ja 10 12,jg 13 10 0,jg 14 10 1,ja 3 13,ja 4 14]
abbrev Qzj:IL:=[ja 15 4,jl 16 110 15]
abbrev Qzk:IL:=[jq 2]
abbrev Qzl:IL:=[ja 17 3,ja 0 17]
abbrev Qzm:RC:=.seq (jQ Qzh (jX 9 0)) (.block 1 (jQ Qzi (.seq (jQ Qzj (.cond (.t 16) (jQ Qzk (.ret)) (.skip))) (.reg Qzl))))
abbrev Qzn:IL:=[yi 2]
abbrev r61:RC:=jQ Qze (.seq (jQ Qzf (.cond (.t 7) (jQ Qzg (.ret)) (.skip))) (.seq (.block 0 (.loop Qzm)) (jQ Qzn (.ret))))
abbrev o61:List RR:=[.tmp 2]
theorem k61:CT 61 18 r61 o61:=ck Tryz.func61 Tryz.ntmps61 (by decide +kernel)
abbrev Qzo:IL:=[jh 1 1 0,jq 2]
abbrev Qzp:IL:=[jb 9 0 1,je 10 9,jp 11 1 10,⟨some 12,.mk 12 4 1 1 [.bool false] (.t 11) (.t 11),none⟩,ja 3 12]
abbrev Qzq:IL:=[jb 13 0 1,je 14 13,jp 15 1 14,jn 16 15 0,ja 4 16]
abbrev Qzr:IL:=[jb 17 0 1,je 18 17,jp 19 1 18,jc 20 0]
abbrev Qzs:IL:=[jv 21 20 19]
abbrev Qzt:IL:=[yi 4]
abbrev Qzu:IL:=[jc 5 0]
abbrev Qzv:IL:=[ja 22 5,jb 23 0 1,je 24 23,jp 25 1 24,jv 26 22 25]
abbrev Qzw:IL:=[yi 6]
abbrev Qme:IL:=[jc 7 0]
abbrev Qmf:IL:=[ja 29 7,jb 30 0 1,je 31 30,ja 32 5,jr 33 3 31 32,jb 34 1 33,je 35 34,jp 36 1 35,jv 37 29 36]
abbrev Qmg:IL:=[jb 40 0 1,je 41 40,ja 42 5,jr 43 3 41 42,jb 44 1 43,je 45 44,ja 46 7,jr 47 8 45 46,jd 48 8 47,zd 8 8,jf 8 8 48]
abbrev Qmh:IL:=[ja 49 6,ja 50 49,jo 51 3 8 50,jx 52 51 50,M3 53 52 1 50,jk 54 53 50,jz 55 5 8 54,yb 56 55 54,⟨some 57,.val (.bin .num .neq (.t 56) (.c (.int .i64 10))),(some (54,false))⟩,zf 58 54 57 50,jk 59 58 50,yc 60 3 59,jz 61 6 8 59,yb 62 61 59,zo 63 1 60 62 59,yb 64 63 59,zf 65 59 64 50,jm 66 50 65,ja 6 66]
abbrev Qmi:IL:=[ja 38 7,jw 39 38 1,ja 7 39]
abbrev S2:RC:=.gho (.drop 8) (.seq (jQ Qmf (jX 37 4)) (.seq (.block 5 (jQ Qmg (.reg Qmh))) (.reg Qmi)))
abbrev Qmj:IL:=[ja 67 3,ja 68 5,ja 69 6,jr 70 1 67 68,jf 1 70 69]
abbrev Qmk:IL:=[ja 71 4,ja 72 71,jk 73 6 72,jm 74 72 73,ja 4 74]
abbrev Qzx:IL:=[ja 27 5,jw 28 27 1,ja 5 28]
abbrev S3:RC:=.gho (.drop 8) (.seq (jQ Qzv (jX 26 2)) (.seq (.block 3 (jQ Qzw (.seq (jQ Qme (.block 4 (.loop S2))) (jQ Qmj (.reg Qmk))))) (.reg Qzx)))
abbrev Qml:IL:=[jw 75 20 1,ja 20 75]
abbrev Qzy:RC:=.gho (.drop 8) (jQ Qzs (.seq (jX 21 0) (.seq (.block 1 (jQ Qzt (jQ Qzu (.block 2 (.loop S3))))) (.reg Qml))))
abbrev Qmm:IL:=[ja 76 4,ja 2 76]
abbrev r34:RC:=jQ Qzo (jQ Qzp (jQ Qzq (.seq (jQ Qzr (.block 0 (.loop Qzy))) (jQ Qmm (.ret)))))
abbrev o34:List RR:=[.tmp 2]
theorem k34:CT 34 77 r34 o34:=ck Tryz.func34 Tryz.ntmps34 (by decide +kernel)
abbrev Qzz:IL:=[jh 1 1 0,jq 2]
abbrev QzA:IL:=[jc 3 0]
abbrev QzB:IL:=[jc 4 0]
abbrev QzC:IL:=[ja 6 4,jb 7 1 1,je 8 7,jp 9 1 8,jv 10 6 9]
abbrev QzD:IL:=[jb 13 1 1,je 14 13,ja 15 4,jr 16 8 14 15,jb 17 7 16,je 18 17,ja 5 18]
abbrev QzE:IL:=[ja 20 5,ja 21 3,zh 22 20 21,ja 19 22]
abbrev QzF:IL:=[ja 23 3,jw 24 23 1,ja 3 24]
abbrev QzG:IL:=[ja 26 5,js 27 26 (-1),ja 28 27,jk 29 4 28,yo 30 29 0 28,jk 31 30 28,jz 32 1 1 31,yb 33 32 31,yc 34 4 31,⟨some 35,.val (.bin .num .sub (.t 34) (.c (.int .i64 1))),(some (31,false))⟩,zo 36 8 33 35 31,jz 37 7 36 31,yb 38 37 31,yc 39 5 31,NR 40 38 39 31,zf 41 31 40 28,jm 42 28 41,ja 25 42]
abbrev QzH:IL:=[jq 2]
abbrev QzI:IL:=[ja 11 4,jw 12 11 1,ja 4 12]
abbrev QzJ:RC:=.seq (jQ QzC (jX 10 0)) (.seq (.block 1 (jQ QzD (.block 2 (jQ QzE (.cond (.t 19) (.reg QzF) (jQ QzG (.cond (.t 25) (jQ QzH (.ret)) (.skip)))))))) (.reg QzI))
abbrev Qmn:IL:=[jb 43 2 1,je 44 43,ja 45 3,zh 46 44 45,ja 2 46]
abbrev r65:RC:=jQ Qzz (jQ QzA (.seq (jQ QzB (.block 0 (.loop QzJ))) (jQ Qmn (.ret))))
abbrev o65:List RR:=[.tmp 2]
theorem k65:CT 65 47 r65 o65:=ck Tryz.func65 Tryz.ntmps65 (by decide +kernel)
abbrev QzK:IL:=[jh 1 1 0,jq 2]
abbrev QzL:IL:=[jb 7 0 1,je 8 7,jp 9 1 8,⟨some 10,.val (.bin .num .leq (.t 9) (.c (.int .i64 64))),none⟩,ja 11 10,jo 12 1 1 11,jx 13 12 11,yq 14 1 13 11,yz 15 14 64 11,jm 16 11 15,ja 3 16]
abbrev QzM:IL:=[jc 4 0]
abbrev QzN:IL:=[ja 17 4,jb 18 0 1,je 19 18,jp 20 1 19,jv 21 17 20]
abbrev QzO:IL:=[ja 24 3,ja 25 24,jo 26 0 1 25,jx 27 26 25,jk 28 4 25,ye 29 3 27 28 25,jo 30 1 29 25,jx 31 30 25,yq 32 1 31 25,yz 33 32 64 25,jm 34 25 33,ja 3 34]
abbrev QzP:IL:=[ja 22 4,jw 23 22 1,ja 4 23]
abbrev S4:RC:=.seq (jQ QzN (jX 21 0)) (.seq (.block 1 (.reg QzO)) (.reg QzP))
abbrev QzQ:IL:=[jc 5 0]
abbrev QzR:IL:=[ja 35 5,jb 36 1 1,je 37 36,jp 38 1 37,jv 39 35 38]
abbrev QzS:IL:=[jb 42 1 1,je 43 42,ja 44 5,jr 45 5 43 44,jb 46 2 45,je 47 46,jp 48 1 47,ja 6 48]
abbrev Qmo:IL:=[ja 49 3,ja 50 49,jk 51 6 50,NS 52 51 1 50,jm 53 50 52,ja 54 53,jk 55 6 54,yz 56 55 64 54,jm 57 54 56,ja 58 57,jo 59 1 1 58,jx 60 59 58,jk 61 5 58,ye 62 5 60 61 58,jo 63 3 62 58,jx 64 63 58,yq 65 1 64 58,yz 66 65 16 58,jm 67 58 66,ja 3 67]
abbrev QzT:IL:=[ja 40 5,jw 41 40 1,ja 5 41]
abbrev S5:RC:=.seq (jQ QzR (jX 39 2)) (.seq (.block 3 (jQ QzS (.reg Qmo))) (.reg QzT))
abbrev Qmp:IL:=[ja 68 3,ja 2 68]
abbrev r28:RC:=jQ QzK (jQ QzL (.seq (jQ QzM (.block 0 (.loop S4))) (.seq (jQ QzQ (.block 2 (.loop S5))) (jQ Qmp (.ret)))))
abbrev o28:List RR:=[.tmp 2]
theorem k28:CT 28 69 r28 o28:=ck Tryz.func28 Tryz.ntmps28 (by decide +kernel)
abbrev QzU:IL:=[jh 1 1 0,jq 2]
abbrev QzV:IL:=[yi 3]
abbrev QzW:IL:=[jc 4 0]
abbrev QzX:IL:=[ja 8 4,jb 9 0 1,je 10 9,jp 11 1 10,jv 12 8 11]
abbrev QzY:IL:=[ja 15 3,ja 16 15,jo 17 0 1 16,jx 18 17 16,jk 19 4 16,ye 20 3 18 19 16,jo 21 0 20 16,jx 22 21 16,za 23 61 22 16,jm 24 16 23,ja 3 24]
abbrev QzZ:IL:=[jc 5 0]
abbrev Qz0:IL:=[ja 25 5,jb 26 0 1,je 27 26,ja 28 4,jr 29 3 27 28,jb 30 1 29,je 31 30,jp 32 1 31,jv 33 25 32]
abbrev Qz1:IL:=[ja 36 3,ja 37 36,jo 38 0 1 37,jx 39 38 37,jk 40 4 37,ye 41 3 39 40 37,jo 42 1 41 37,jx 43 42 37,jk 44 5 37,ye 45 8 43 44 37,jo 46 1 45 37,jx 47 46 37,za 48 62 47 37,jm 49 37 48,ja 3 49]
abbrev Qz2:IL:=[ja 34 5,jw 35 34 1,ja 5 35]
abbrev S6:RC:=.seq (jQ Qz0 (jX 33 2)) (.seq (.block 3 (.reg Qz1)) (.reg Qz2))
abbrev Qz3:IL:=[ja 13 4,jw 14 13 1,ja 4 14]
abbrev S7:RC:=.seq (jQ QzX (jX 12 0)) (.seq (.block 1 (jQ QzY (jQ QzZ (.block 2 (.loop S6))))) (.reg Qz3))
abbrev Qmq:IL:=[jc 6 0]
abbrev Qmr:IL:=[ja 50 6,jb 51 1 1,je 52 51,jp 53 1 52,jv 54 50 53]
abbrev Qms:IL:=[ja 57 3,ja 58 57,jo 59 1 1 58,jx 60 59 58,jk 61 6 58,ye 62 5 60 61 58,jo 63 0 62 58,jx 64 63 58,za 65 61 64 58,jm 66 58 65,ja 3 66]
abbrev Qmt:IL:=[jc 7 0]
abbrev Qmu:IL:=[ja 67 7,jb 68 1 1,je 69 68,ja 70 6,jr 71 5 69 70,jb 72 2 71,je 73 72,jp 74 1 73,jv 75 67 74]
abbrev Qmv:IL:=[ja 78 3,ja 79 78,jo 80 1 1 79,jx 81 80 79,jk 82 6 79,ye 83 5 81 82 79,jo 84 2 83 79,jx 85 84 79,jk 86 7 79,ye 87 3 85 86 79,jo 88 0 87 79,jx 89 88 79,za 90 62 89 79,jm 91 79 90,ja 3 91]
abbrev Qmw:IL:=[ja 76 7,jw 77 76 1,ja 7 77]
abbrev S8:RC:=.seq (jQ Qmu (jX 75 6)) (.seq (.block 7 (.reg Qmv)) (.reg Qmw))
abbrev Qmx:IL:=[ja 55 6,jw 56 55 1,ja 6 56]
abbrev S9:RC:=.seq (jQ Qmr (jX 54 4)) (.seq (.block 5 (jQ Qms (jQ Qmt (.block 6 (.loop S8))))) (.reg Qmx))
abbrev Qmy:IL:=[ja 92 3,ja 2 92]
abbrev r29:RC:=jQ QzU (jQ QzV (.seq (jQ QzW (.block 0 (.loop S7))) (.seq (jQ Qmq (.block 4 (.loop S9))) (jQ Qmy (.ret)))))
abbrev o29:List RR:=[.tmp 2]
theorem k29:CT 29 93 r29 o29:=ck Tryz.func29 Tryz.ntmps29 (by decide +kernel)
def Ta:IL:=[jh 2 2 0,jh 3 3 1,jq 4]
def Tb:IL:=[jb 6 2 3,je 7 6,jl 8 115 7,yd 9 8,ja 10 9,jz 11 2 3 10,yb 12 11 10,zm 13 0 12 10,zz 14 13 4096 10,ya 15 10 14,ja 16 15,jz 17 3 3 16,yb 18 17 16,Hh 19 18 1 16,ya 20 16 19,ja 21 20,jz 22 3 3 21,yb 23 22 21,zz 24 23 5 21,ya 25 21 24,ja 26 25,jz 27 5 3 26,yb 28 27 26,Hh 29 28 1 26,ya 30 26 29,ja 31 30,jz 32 5 3 31,yb 33 32 31,zz 34 33 10 31,ya 35 31 34]
def Tc:IL:=[jq 4]
def Td:IL:=[jb 36 4 3,je 37 36,zg 38 37 1,ja 39 38,jo 40 4 3 39,jx 41 40 39,yz 42 41 5 39,jm 43 39 42,ja 44 43,jz 45 4 3 44,yb 46 45 44,yu 47 46 7 44,ya 48 44 47,ja 5 48]
def Te:IL:=[jb 49 3 3,je 50 49,js 51 50 5]
def Tf:IL:=[jb 52 4 3,je 53 52,jn 54 53 0,ja 5 54]
def Cg:IL:=[ja 55 5,ja 56 55,yy 57 2 2 56,yy 58 8 3 56,DP 59 116 57 58 56,jm 60 56 59,ja 61 60,jo 62 7 3 61,jx 63 62 61,yo 64 63 (-1) 61,jk 65 64 61,jz 66 3 3 65,yb 67 66 65,yu 68 67 2 65,zf 69 65 68 61,jm 70 61 69,ja 4 70]
def r66:RC:=jQ Ta (.seq (jQ Tb (.cond (.t 35) (jQ Tc (.ret)) (.skip))) (jQ Td (.seq (jQ Te (.cond (.t 51) (.reg Tf) (.skip))) (jQ Cg (.ret)))))
def o66:List RR:=[.tmp 4]
theorem k66:CT 66 71 r66 o66:=ck Tryz.func66 Tryz.ntmps66 (by decide +kernel)
end Go.Proofs.YtfgchfdkiomfpaaGreat.Rc

/- Parts of the proof, in order. -/
import Derived.Deep.LoopGhost
import Derived.Scope
import Derived.Orders
import Derived.Defers
import Derived.Below
import Derived.ChangeSame
import Derived.ProofKit
import Derived.OpenShut
import Derived.ChangeArms
import Derived.Lib.SmallJoins
import Derived.Deep.Slices
import Derived.DataShut
import Derived.Test.YtjjmjopabpakoaaGreatDoorRows
import Derived.Test.YtjjmjopabpakoaaGreatDoorProg
import Derived.WalkKit
import Derived.Test.YtjjmjopabpakoaaGreatDoorMBase0

namespace Go.Proofs.YtjjmjopabpakoaaGreatDoor.Am
open Go

def Qj (P:Program)(k:FuncId)(args:List AV)(v:AV):Prop:=Fn? P k args (· = v)

def YJ (P:Program)(d:Option Nat)(op:RO)(st:St)(K:St→Prop):Prop :=
 match op with
 |.val vo=>∃x,QH st.f st.m vo=some x∧K { st with f:=Qm st.f d x }
 |.allocN s z=>XQ st.m s=true∧K { st with m:=Am.put st.m 0 s (.cells z),f:=Qm st.f d (.ptr 0 s 0) }
 |.boxN s r=>XQ st.m s=true∧(r.ev st.f).cells.all AV.leaf=true∧K { st with m:=Am.put st.m 0 s (.cells (r.ev st.f).cells),f:=Qm st.f d (.ptr 0 s 0) }
 |.store n p r=>(r.ev st.f).cells.length=n∧(r.ev st.f).cells.all AV.leaf=true∧∃m',Xb st.m (p.ev st.f) (r.ev st.f).cells=some m'∧K { st with m:=m',f:=Qm st.f d (.tup []) }
 |.app sz bytes el s r=>∃l site g n xs ys,s.ev st.f=.vec l site g 0 n false∧Qe st.m l site=.vec g sz xs∧XC site el=true∧n≤xs.length∧Xj st.m (r.ev st.f)=some ys∧ys.all (fun e=>e.cells.length==sz)=true∧n+ys.length≤maxLen∧(n+ys.length)*bytes≤140737488355328∧
   K { st with m:=Am.put st.m l site (.vec (g+1) sz (xs.take n++ys)),f:=Qm st.f d (.vec l site (g+1) 0 (n+ys.length) false) }
 |.appl sz bytes el s r=>∃site g n xs ys,s.ev st.f=.vec 0 site g 0 n false∧Qe st.m 0 site=.vec g sz xs∧XC site el=true∧n≤xs.length∧Xj st.m (r.ev st.f)=some ys∧ys.all (fun e=>e.cells.length==sz)=true∧n+ys.length≤maxLen∧(n+ys.length)*bytes≤140737488355328∧
   K { st with m:=Am.put st.m 0 site (.vec (g+1+1) sz []),f:=Qm st.f d (.list (xs.take n++ys)) }
 |.storev l s n p r=>(∃o,p.ev st.f=.ptr l s o)∧(r.ev st.f).cells.length=n∧(r.ev st.f).cells.all AV.leaf=true∧∃m',Xb st.m (p.ev st.f) (r.ev st.f).cells=some m'∧K { st with m:=m',f:=Qm st.f d (.tup []) }
 |.call f args=>∃k fa fb ys v,f.ev st.f=.fn (.func k) fa fb∧AV.stillL false st.m (fa++args.map (RA.ev st.f)++fb)=some ys∧AV.rfL ys=true∧Qj P k ys v∧v.rf=true∧(AV.rfL (fa++args.map (RA.ev st.f)++fb)=true∨v.nl=true)∧K { st with f:=Qm st.f d v }
 |.callF f args=>∃k fa fb v m',f.ev st.f=.fn (.func k) fa fb∧Qp P k (fa++args.map (RA.ev st.f)++fb) st.m (fun x m=>x=v∧m=m')∧K { st with m:=m',f:=Qm st.f d v }
 |.bsl sz len z ps=>∃y,fill st.f ps (Xt z sz len)=some y∧AV.rfL y=true∧y.all AV.leaf=true∧K { st with f:=Qm st.f d (.list (XP sz len (y.map nn0))) }
 |.bslv site sz len z ps=>∃y,fill st.f ps (Xt z sz len)=some y∧AV.rfL y=true∧y.all AV.leaf=true∧Qr (Qe st.m 0 site)=true∧
   K { st with m:=Am.put st.m 0 site (.vec (QD st.m 0 site) sz (XP sz len (y.map nn0))),f:=Qm st.f d (.vec 0 site (QD st.m 0 site) 0 len false) }
 |.bsl0 site sz=>Qr (Qe st.m 0 site)=true∧K { st with m:=Am.put st.m 0 site (.vec (QD st.m 0 site) sz []),f:=Qm st.f d (.vec 0 site (QD st.m 0 site) 0 0 false) }
 |.lit0 _=>K { st with f:=Qm st.f d (.lcap []) }
 |.appe sz bytes _ s r=>∃xs ys,s.ev st.f=.lcap xs∧r.ev st.f=.list ys∧xs.all (fun e=>e.cells.length==sz)=true∧ys.all (fun e=>e.cells.length==sz)=true∧xs.length+ys.length≤maxLen∧(xs.length+ys.length)*bytes≤140737488355328∧K { st with f:=Qm st.f d (.list (xs++ys)) }
 |.isnil neg r=>∃ys,Xj st.m (r.ev st.f)=some ys∧(r.ev st.f≠.nils→K { st with f:=Qm st.f d (.bool neg) })∧((r.ev st.f=.nils∨QS ys=[])→K { st with f:=Qm st.f d (.bool (!neg)) })
 |.xb cnt _ s c=>∃t b,s.ev st.f=.str t∧c.ev st.f=.int .u8 b∧K { st with f:=Qm st.f d (.int .i64 (HP cnt t b)) }
 |.rngs s r=>∃t,r.ev st.f=.str t∧XQ st.m s=true∧K { st with m:=Am.put st.m 0 s (.iter (.str t) 0),f:=Qm st.f d (.ptr 0 s 0) }
 |.mkm s=>XQ st.m s=true∧K { st with m:=Am.put st.m 0 s (.iter (.mp [] []) 0),f:=Qm st.f d (.mptr 0 s) }
 |.mput x i v=>∃l s ks vs p k,x.ev st.f=.mptr l s∧Qe st.m l s=.iter (.mp ks vs) p∧i.ev st.f=.str k∧(v.ev st.f).gr=true∧AV.grL vs=true∧ks.length=vs.length∧K { st with m:=Am.put st.m l s (.iter (.mp (XT k (v.ev st.f) ks vs).1 (XT k (v.ev st.f) ks vs).2) p),f:=Qm st.f d (.tup []) }
 |.nxts r=>∃l s t p,r.ev st.f=.ptr l s 0∧Qe st.m l s=.iter (.str t) p∧
   (p<t.length→K { st with m:=Am.put st.m l s (.iter (.str t) (p+(Xz t p).2)),f:=Qm st.f d (.tup [.bool true,.int .i64 (p:Nat),.int .i32 ((Xz t p).1:Nat)]) })∧(t.length≤p→K { st with f:=Qm st.f d (.tup [.bool false]) })
 |.mk site _ sz bytes z l c=>∃(kl kc:IntKind) (n k:Nat),l.ev st.f=.int kl (n:Int)∧c.ev st.f=.int kc (k:Int)∧n≤k∧k≤9223372036854775807∧bytes*k≤281474976710656∧Qr (Qe st.m 0 site)=true∧
   K { st with m:=Am.put st.m 0 site (.vec (QD st.m 0 site) sz (List.replicate n (Km sz z))),f:=Qm st.f d (.vec 0 site (QD st.m 0 site) 0 n false) }

def X5 (P:Program)(it:Item)(st:St)(K:St→Prop):Prop :=
 match it.g with
 |none=>YJ P it.dst it.op st K
 |some (j,want)=>match st.f j with
  |.bool b=>(b=want→YJ P it.dst it.op st K)∧(b=(!want)→K { st with f:=Qm st.f it.dst (.tup []) })
  |.tup l=>l=[]∧K { st with f:=Qm st.f it.dst (.tup []) }
  |_=>False

def Ql (P:Program):List Item→St→(St→Prop)→Prop
 | [],st,K=>K st
 |it :: its,st,K=>X5 P it st fun st'=>Ql P its st' K

section
variable {P:Program}{N:Nat}

theorem NN {α:Type}{f:Nat→α}{s:Nat}{x y:α}:Qn (Qn f s x) s y=Qn f s y:=by
 funext i;by_cases h:i=s
 ·subst h;rw[QP,QP]
 ·rw[QX _ _ h,QX _ _ h,QX _ _ h]
theorem Du {m:Qo}{s:Nat}{o q:Ob}:Am.put (Am.put m 0 s o) 0 s q=Am.put m 0 s q:=by
 cases m with
 |nil=>rfl
 |cons fr m=>show Qn (Qn fr s o) s q :: m=Qn fr s q :: m;rw[NN]

theorem Qw.appl {d:Option Nat}{sz bytes el:Nat}{s r:RA}{its:List Item}{st:St}{Q:St→Prop}{site g n:Nat}{xs ys:List AV}(hs:s.ev st.f=.vec 0 site g 0 n false)(hlk:Qe st.m 0 site=.vec g sz xs)(hte:XC site el=true)(hn:n≤xs.length)
  (hy:Xj st.m (r.ev st.f)=some ys) (hsz:ys.all (fun e=>e.cells.length==sz)=true) (hmax:n+ys.length≤maxLen) (hb:(n+ys.length)*bytes≤140737488355328)
  (h:Qw P N its { st with m:=Am.put st.m 0 site (.vec (g+1+1) sz []),f:=Qm st.f d (.list (xs.take n++ys)) } Q):Qw P N (⟨d,.appl sz bytes el s r,none⟩ :: its) st Q:=by
 refine .same (ro:=.app sz bytes el s r) (fun _=>rfl) (.app hs hlk hte hn hy hsz hmax hb ?_);intro ops l hc G B a w hr QQ hq;have hne:=hr.ne;have hlk':Qe (Am.put st.m 0 site (.vec (g+1) sz (xs.take n++ys))) 0 site=.vec (g+1) sz (xs.take n++ys):=by
  refine QG (QWx.2 ?_);rintro e;exact hne (by show Am.put st.m 0 site _=[];rw[e];rfl)
 have hlen:(xs.take n++ys).length=n+ys.length:=by rw[QVU,QV8];omega
 cases d with
 |none=>
  obtain⟨G',h1,h2,_,_⟩:=hr.pub0 hlk';rw[←Du (o:=.vec (g+1) sz (xs.take n++ys))]at h;exact h ops l hc G' B a w h1 QQ fun G2 st' a' w' k1 k2 k3=>hq G2 st' a' w' k1 k2 (h2.trans k3)
 |some t=>
  obtain⟨G',h1,h2⟩:=hr.publish (slot:=t) (site:=site) (g:=g+1) (sz:=sz) (o:=0) (n:=n+ys.length) (q:=false) (by show Qn st.f t _ t=_;rw[QP]) hlk' (by rw[hlen];omega);have e2:Qm st.f (some t) (.list (xs.take n++ys))=Qn (Qn st.f t (.vec 0 site (g+1) 0 (n+ys.length) false)) t (.list (((xs.take n++ys).drop 0).take (n+ys.length))):=by
   have e3:(xs.take n++ys).take (n+ys.length)=xs.take n++ys:=QVQ (QV0 hlen);rw[NN,QVY,e3];rfl
  rw[←Du (o:=.vec (g+1) sz (xs.take n++ys)),e2]at h;exact h ops l hc G' B a w h1 QQ fun G2 st' a' w' k1 k2 k3=>hq G2 st' a' w' k1 k2 (h2.trans k3)

theorem Md {d:Option Nat}{op:RO}{its:List Item}{st:St}{Q:St→Prop}(h:YJ P d op st fun st'=>Qw P N its st' Q):Qw P N (⟨d,op,none⟩ :: its) st Q:=by
 cases op with
 |val vo=>obtain⟨x,hx,h⟩:=h;exact .val hx h
 |allocN s z=>exact .allocN h.1 h.2
 |boxN s r=>exact .boxN h.1 h.2.1 h.2.2
 |store n p r=>obtain⟨h1,h2,m',h3,h⟩:=h;exact .store h1 h2 h3 h
 |app sz bytes el s r=>obtain⟨l,site,g,n,xs,ys,h1,h2,ht,h3,h4,h5,h6,h7,h⟩:=h;exact .app h1 h2 ht h3 h4 h5 h6 h7 h
 |appl sz bytes el s r=>obtain⟨site,g,n,xs,ys,h1,h2,ht,h3,h4,h5,h6,h7,h⟩:=h;exact .appl h1 h2 ht h3 h4 h5 h6 h7 h
 |mk site el sz bytes z l c=>obtain⟨kl,kc,n,k,h1,h2,h3,h4,h5,h6,h⟩:=h;exact .mk h1 h2 h3 h4 h5 h6 h
 |storev l s n p r=>obtain⟨_,h1,h2,m',h3,h⟩:=h;exact .same (ro:=.store n p r) (fun _=>rfl) (.store h1 h2 h3 h)
 |call f args=>
  obtain⟨k,fa,fb,ys,v,hf,h1,h2,h3,h4,h5,h⟩:=h;exact .callPure hf h1 h2 h3 (fun x hx=>by subst hx;exact⟨h4,h5⟩) fun x hx=>by subst hx;exact h
 |callF f args=>
  obtain⟨k,fa,fb,v,m',hf,h1,h⟩:=h;exact .same (ro:=.call f args) (fun _=>rfl) (.callFull hf h1 fun x m hx _=>by obtain⟨rfl,rfl⟩:=hx;exact h)
 |bsl sz len z ps=>obtain⟨y,h1,h2,h3,h⟩:=h;exact .bsl h1 h2 h3 h
 |bslv site sz len z ps=>obtain⟨y,h1,h2,h3,h4,h⟩:=h;exact .bslv h1 h2 h3 h4 h
 |bsl0 site sz=>exact .bsl0 h.1 h.2
 |lit0 sz=>exact .lit0 h
 |appe sz bytes el s r=>obtain⟨xs,ys,h1,h2,h3,h4,h5,h6,h⟩:=h;exact .appe h1 h2 h3 h4 h5 h6 h
 |isnil neg r=>obtain⟨ys,h1,h2,h3⟩:=h;exact .isnil h1 h2 h3
 |xb cnt k s c=>obtain⟨t,b,h1,h2,h⟩:=h;exact .xb h1 h2 h
 |rngs s r=>obtain⟨t,h1,h2,h⟩:=h;exact .rngs h1 h2 h
 |nxts r=>obtain⟨l,s,t,p,h1,h2,h3,h4⟩:=h;exact .nxts h1 h2 h3 h4
 |mkm s=>obtain⟨h1,h⟩:=h;exact .mkm h1 h
 |mput x i v=>obtain⟨l,s,ks,vs,p,k,h1,h2,h3,h4,h5,h6,h⟩:=h;exact .mput h1 h2 h3 h4 h5 h6 h

theorem FG {it:Item}{its:List Item}{st:St}{Q:St→Prop}(h:X5 P it st fun st'=>Qw P N its st' Q):Qw P N (it :: its) st Q:=by
 obtain⟨d,op,g⟩:=it;cases g with
 |none=>exact Md h
 |some p=>
  obtain⟨j,want⟩:=p;simp only[X5]at h;split at h
  ·rename_i b hj;by_cases hb:b=want
   ·subst hb;exact .yes hj (Md (h.1 rfl))
   ·have hb':b=!want:=by cases b<;>cases want<;>first|rfl|exact absurd rfl hb
    subst hb';exact .no (.inl hj) (h.2 rfl)
  ·rename_i l hj;obtain⟨rfl,h⟩:=h;exact .no (.inr hj) h
  ·exact h.elim

theorem FH {d:Option Nat}{op:RO}{st:St}{K K':St→Prop}(hk:∀s,K s→K' s)(h:YJ P d op st K):YJ P d op st K':=by
 cases op<;>simp only[YJ]at h ⊢
 case val=>obtain⟨x,a,b⟩:=h;exact⟨x,a,hk _ b⟩
 case allocN=>exact⟨h.1,hk _ h.2⟩
 case boxN=>exact⟨h.1,h.2.1,hk _ h.2.2⟩
 case store=>obtain⟨h1,h2,m',h3,h⟩:=h;exact⟨h1,h2,m',h3,hk _ h⟩
 case app=>obtain⟨l,site,g,n,xs,ys,h1,h2,ht,h3,h4,h5,h6,h7,h⟩:=h;exact⟨l,site,g,n,xs,ys,h1,h2,ht,h3,h4,h5,h6,h7,hk _ h⟩
 case appl=>obtain⟨site,g,n,xs,ys,h1,h2,ht,h3,h4,h5,h6,h7,h⟩:=h;exact⟨site,g,n,xs,ys,h1,h2,ht,h3,h4,h5,h6,h7,hk _ h⟩
 case mk=>obtain⟨kl,kc,n,k,h1,h2,h3,h4,h5,h6,h⟩:=h;exact⟨kl,kc,n,k,h1,h2,h3,h4,h5,h6,hk _ h⟩
 case bsl=>obtain⟨y,h1,h2,h3,h⟩:=h;exact⟨y,h1,h2,h3,hk _ h⟩
 case bslv=>obtain⟨y,h1,h2,h3,h4,h⟩:=h;exact⟨y,h1,h2,h3,h4,hk _ h⟩
 case bsl0=>exact⟨h.1,hk _ h.2⟩
 case lit0=>exact hk _ h
 case appe=>obtain⟨xs,ys,h1,h2,h3,h4,h5,h6,h⟩:=h;exact⟨xs,ys,h1,h2,h3,h4,h5,h6,hk _ h⟩
 case isnil=>obtain⟨ys,h1,h2,h3⟩:=h;exact⟨ys,h1,fun e=>hk _ (h2 e),fun e=>hk _ (h3 e)⟩
 case xb=>obtain⟨t,b,h1,h2,h⟩:=h;exact⟨t,b,h1,h2,hk _ h⟩
 case rngs=>obtain⟨t,h1,h2,h⟩:=h;exact⟨t,h1,h2,hk _ h⟩
 case mkm=>obtain⟨h1,h⟩:=h;exact⟨h1,hk _ h⟩
 case mput=>obtain⟨l,s,ks,vs,p,k,h1,h2,h3,h4,h5,h6,h⟩:=h;exact⟨l,s,ks,vs,p,k,h1,h2,h3,h4,h5,h6,hk _ h⟩
 case nxts=>obtain⟨l,s,t,p,h1,h2,h3,h4⟩:=h;exact⟨l,s,t,p,h1,h2,fun e=>hk _ (h3 e),fun e=>hk _ (h4 e)⟩
 case storev=>obtain⟨h0,h1,h2,m',h3,h⟩:=h;exact⟨h0,h1,h2,m',h3,hk _ h⟩
 case call=>obtain⟨k,fa,fb,ys,v,hf,h1,h2,h3,h4,h5,h⟩:=h;exact⟨k,fa,fb,ys,v,hf,h1,h2,h3,h4,h5,hk _ h⟩
 case callF=>obtain⟨k,fa,fb,v,m',hf,h1,h⟩:=h;exact⟨k,fa,fb,v,m',hf,h1,hk _ h⟩

theorem Ym {it:Item}{st:St}{K K':St→Prop}(hk:∀s,K s→K' s)(h:X5 P it st K):X5 P it st K':=by
 unfold X5 at h ⊢;split at h
 ·exact FH hk h
 ·split at h
  ·exact⟨fun e=>FH hk (h.1 e),fun e=>hk _ (h.2 e)⟩
  ·exact⟨h.1,hk _ h.2⟩
  ·exact h.elim

theorem NO:∀ {its:List Item} {st:St} {Q:St→Prop},Ql P its st Q→Qw P N its st Q
 | [],_,_,h=>.nil h
 |_ :: _,_,_,h=>FG (Ym (fun _ hs=>NO hs) h)

end

inductive GO where
 |vec (slot site sz:Nat)
 |drop (s:Nat)
 |vecc (s idx site sz:Nat)
 |pub (slot site:Nat)
 |pubc (s idx site:Nat)
 |give (slot site l S:Nat)

def Zx (g:GO)(st:St):Option St :=
 match g with
 |.vec slot site sz=>match st.f slot with
  |.nils=>bif Qr (Qe st.m 0 site)then some { st with m:=Am.put st.m 0 site (.vec (QD st.m 0 site) sz []),f:=Qn st.f slot (.vec 0 site (QD st.m 0 site) 0 0 false) } else none
  |_=>none
 |.drop s=>bif Yf st.m s then some (st.drop s)else none
 |.vecc s idx site sz=>match Qe st.m 0 s with
  |.cells xs=>match xs[idx]? with
   |some .nils=>bif Qr (Qe st.m 0 site) && !(Nat.beq site s)then some { st with m:=Am.put (Am.put st.m 0 site (.vec (QD st.m 0 site) sz [])) 0 s (.cells (xs.set idx (.vec 0 site (QD st.m 0 site) 0 0 false))) } else none
   |some _=>some st
   |none=>none
  |_=>none
 |.pub slot site=>match st.f slot with
  |.vec 0 s' g o n _=>match Qe st.m 0 site with
   |.vec g' sz xs=>bif Nat.beq s' site&&Nat.beq g g'&&Nat.ble (o+n) xs.length then some { st with m:=Am.put st.m 0 site (.vec (g+1) sz []),f:=Qn st.f slot (.list ((xs.drop o).take n)) } else none
   |_=>none
  |.list _=>some st
  |_=>none
 |.pubc s idx site=>match Qe st.m 0 s with
  |.cells cs=>match cs[idx]? with
   |some (.vec 0 s' g o n _)=>match Qe st.m 0 site with
    |.vec g' sz xs=>bif Nat.beq s' site&&Nat.beq g g'&&Nat.ble (o+n) xs.length then some { st with m:=Am.put (Am.put st.m 0 site (.vec (g+1) sz [])) 0 s (.cells (cs.set idx (.list ((xs.drop o).take n)))) } else none
    |_=>none
   |_=>none
  |_=>none
 |.give slot site l S=>match st.f slot with
  |.vec 0 s' g o n q=>match Qe st.m 0 site with
   |.vec g' sz xs=>bif Nat.beq s' site&&Nat.beq g g'&&Nat.blt l st.m.length && !(Nat.beq l 0)&&Qr (Qe st.m l S)&&Nat.blt S 2000 then some { st with m:=Am.put (Am.put st.m 0 site (.vec (g+1) sz [])) l S (.vec (QD st.m l S) sz xs),f:=Qn st.f slot (.vec l S (QD st.m l S) o n q) } else none
   |_=>none
  |_=>none

inductive RC where
 |skip
 |reg (its:List Item)
 |draw (its:List Item)
 |seq (a b:RC)
 |cond (c:RA) (a b:RC)
 |block (id:Nat) (a:RC)
 |loop (a:RC)
 |exit (id:Nat)
 |scope (a:RC)
 |lab
 |ret
 |gho (g:GO) (a:RC)
 |no

def Ks (f:St→Prop)(Q:Exit→St→Prop):Exit→St→Prop
 |.normal,st=>f st
 |e,st=>Q e st
def Kb (id:Nat)(Q:Exit→St→Prop):Exit→St→Prop
 |.exit i,st=>if i=id then Q .normal st else Q (.exit i) st
 |e,st=>Q e st
def Kg (Q:Exit→St→Prop):Exit→St→Prop
 |.goto _,_=>False
 |e,st=>Q e st

def QJ (P:Program):RC→St→(Exit→St→Prop)→Prop
 |.skip,st,Q=>Q .normal st
 |.reg its,st,Q=>Ql P its st (Q .normal)
 |.draw its,st,Q=>Ql P its st (Q .normal)
 |.seq a b,st,Q=>QJ P a st (Ks (fun st'=>QJ P b st' Q) Q)
 |.cond c a b,st,Q=>∃t,c.ev st.f=.bool t∧(t=true→QJ P a st Q)∧(t=false→QJ P b st Q)
 |.block id a,st,Q=>QJ P a st (Kb id Q)
 |.loop a,st,Q=>∃(I:Nat→St→Prop) (n:Nat),I n st∧∀n st',I n st'→QJ P a st' (Ks (fun s=>∃k,k<n∧I k s) Q)
 |.exit id,st,Q=>Q (.exit id) st
 |.scope a,st,Q=>QJ P a st (Kg Q)
 |.lab,st,Q=>Q .normal st
 |.ret,st,Q=>Q .ret st
 |.gho g a,st,Q=>∃st',Zx g st=some st'∧QJ P a st' Q
 |.no,_,_=>False

theorem Me {G:Gh}{f:Fr}{a:Act}(hs:∀i,Rep G (f i) (a.tmps.getD i undef)){d:Nat}{x:AV}(hx:Rep G x (a.tmps.getD d undef)):∀i,Rep G (Qn f d x i) (a.tmps.getD i undef):=by
 intro i;by_cases hi:i=d
 ·subst hi;rw[QP];exact hx
 ·rw[QX _ _ hi];exact hs i

theorem Tb {G:Gh}{B N:Nat}{st st':St}{a:Act}{w:World}(h:Rel G B N st a w){g:GO}(hg:Zx g st=some st'):∃G',Rel G' B N st' a w∧Ext 1 G w G' w:=by
 cases g with
 |vec slot site sz=>
  simp only[Zx]at hg;split at hg
  ·rename_i hn;cases hro:Qr (Qe st.m 0 site)with
   |false=>rw[hro]at hg;cases hg
   |true=>
    rw[hro]at hg;simp only[cond_true,QVJ]at hg;subst hg;have hl:0<st.m.length:=QWx.2 h.ne;obtain⟨h1,h2⟩:=h.vecput (w':=w) (sz:=sz) (cap:=0) (b:=none) (ys:=[]) hl hro (J2 h.mr hro) rfl rfl rfl (QVi _) (fun _ _ _=>rfl) (fun k e=>by cases e) ⟨by simp,rfl,rfl⟩ (.inl ⟨rfl,rfl⟩);refine⟨_,⟨h1.mr,h1.size,Me h1.slots ?_,h1.ds,h1.base,h1.top,h1.ne⟩,h2⟩;have hs:=h.slots slot;rw[hn]at hs;generalize a.tmps.getD slot undef=v at hs;cases hs;exact .vec rfl (QV0 (by simp[Gh.row])) fun _=>.inl ⟨by simp[Gh.row],rfl,rfl,none,rfl,fun _=>rfl⟩
  ·cases hg
 |drop s=>
  simp only[Zx]at hg;cases hro:Yf st.m s with
  |false=>rw[hro]at hg;cases hg
  |true=>
   rw[hro]at hg;simp only[cond_true,QVJ]at hg;subst hg;exact⟨_,h.drop s hro⟩
 |vecc s idx site sz=>
  simp only[Zx]at hg;split at hg
  ·rename_i xs hlk;split at hg
   ·rename_i hn;cases hro:(Qr (Qe st.m 0 site) && !(Nat.beq site s))with
    |false=>rw[hro]at hg;cases hg
    |true=>
     rw[hro]at hg;simp only[cond_true,QVJ]at hg;subst hg;rw[QVF]at hro;have hne:s≠site:=fun e=>by
      have h2:=hro.2;rw[e]at h2;simp at h2
     have hl:0<st.m.length:=QWx.2 h.ne;obtain⟨h1,h2⟩:=h.vecput (w':=w) (sz:=sz) (cap:=0) (b:=none) (ys:=[]) hl hro.1 (J2 h.mr hro.1) rfl rfl rfl (QVi _) (fun _ _ _=>rfl) (fun k e=>by cases e) ⟨by simp,rfl,rfl⟩ (.inl ⟨rfl,rfl⟩);have hlk':Qe (Am.put st.m 0 site (.vec (QD st.m 0 site) sz [])) 0 s=.cells xs:=by
      rw[Qt (.inr hne)];exact hlk
     obtain⟨b,cs,hb,hsoft,hrep⟩:=h1.mr.cells 0 s xs hlk';obtain⟨v,hv,hr⟩:=hrep.at_ hn;have hvn:v=.slice none 0 0:=by cases hr;rfl
     subst hvn;have hset:cs.toList.set idx (.slice none 0 0)=cs.toList:=by
      obtain⟨hi,he⟩:=QVk.1 hv;rw[←he,List.set_getElem_self]
     have hrep':=hrep.set idx (x:=.vec 0 site (QD st.m 0 site) 0 0 false) (v:=.slice none 0 0) (.vec rfl (QV0 (by simp[Gh.row,Gh.dn])) fun _=>.inl ⟨by simp[Gh.row,Gh.dn],rfl,rfl,none,rfl,fun _=>rfl⟩);rw[hset]at hrep';exact⟨_,⟨h1.mr.stored hlk' hb (Turned.refl b w) hsoft hrep',h1.size,h1.slots,h1.ds,h1.base,h1.top,JG h1.ne⟩,h2⟩
   ·cases hg;exact⟨G,h,Ext.refl 1 G w⟩
   ·cases hg
  ·cases hg
 |pub slot site=>
  simp only[Zx]at hg;split at hg
  ·rename_i s' g o n q hs;split at hg
   ·rename_i g' sz xs hlk;cases hb:(Nat.beq s' site&&Nat.beq g g'&&Nat.ble (o+n) xs.length)with
    |false=>rw[hb]at hg;cases hg
    |true=>
     rw[hb]at hg;simp only[cond_true,QVJ]at hg;subst hg;simp only[QVF]at hb;obtain⟨⟨b1,b2⟩,b3⟩:=hb;have e1:=QVg b1;have e2:=QVg b2;subst e1 e2;exact h.publish hs hlk (QWJ b3)
   ·cases hg
  ·cases hg;exact⟨G,h,Ext.refl 1 G w⟩
  ·cases hg
 |pubc s idx site=>
  simp only[Zx]at hg;split at hg
  ·rename_i cs hc;split at hg
   ·rename_i s' g o n q hs;split at hg
    ·rename_i g' sz xs hlk;cases hb:(Nat.beq s' site&&Nat.beq g g'&&Nat.ble (o+n) xs.length)with
     |false=>rw[hb]at hg;cases hg
     |true=>
      rw[hb]at hg;simp only[cond_true,QVJ]at hg;subst hg;simp only[QVF]at hb;obtain⟨⟨b1,b2⟩,b3⟩:=hb;have e1:=QVg b1;have e2:=QVg b2;subst e1 e2;exact h.publishc hc hs hlk (QWJ b3)
    ·cases hg
   ·cases hg
  ·cases hg
 |give slot site l S=>
  simp only[Zx]at hg;split at hg
  ·rename_i s' g o n q hs;split at hg
   ·rename_i g' sz xs hlk;cases hb:(Nat.beq s' site&&Nat.beq g g'&&Nat.blt l st.m.length && !(Nat.beq l 0)&&Qr (Qe st.m l S)&&Nat.blt S 2000)with
    |false=>rw[hb]at hg;cases hg
    |true=>
     rw[hb]at hg;simp only[cond_true,QVJ]at hg;subst hg;simp only[QVF]at hb;obtain⟨⟨⟨⟨⟨b1,b2⟩,b3⟩,b4⟩,b5⟩,b6⟩:=hb;have e1:=QVg b1;have e2:=QVg b2;subst e1 e2;have b4':l≠0:=fun e=>by rw[e]at b4;simp at b4
     exact h.give hs hlk (QWJ b3) b4' b5 (QWJ b6)
   ·cases hg
  ·cases hg

def RA.sl:RA→List Nat
 |.t n=>[n]
 |_=>[]
def AB:Option RA→List Nat
 |some r=>r.sl
 |none=>[]
def VO.sl:VO→List Nat
 |.mov x=>x.sl
 |.pick c a b=>c.sl++(a.sl++b.sl)
 |.build _ ps=>ps.flatMap fun p=>p.2.2.sl
 |.load _ x=>x.sl
 |.loadv _ _ _ x=>x.sl
 |.loado _ x=>x.sl
 |.loadr _ x=>x.sl
 |.nilck x=>x.sl
 |.un _ x=>x.sl
 |.cvi _ x=>x.sl
 |.faddr _ x=>x.sl
 |.faddv _ x=>x.sl
 |.fld _ _ x=>x.sl
 |.ext x _=>x.sl
 |.len _ x=>x.sl
 |.bin _ _ x y=>x.sl++y.sl
 |.eqs _ _ x y=>x.sl++y.sl
 |.iaddr _ _ x y=>x.sl++y.sl
 |.idx x y=>x.sl++y.sl
 |.mnx _ x y=>x.sl++y.sl
 |.slc _ x lo hi mx=>x.sl++(AB lo++(AB hi++AB mx))
 |.slcl x hi mx=>x.sl++(hi.sl++mx.sl)
 |.mkfn _ a b=>a.flatMap RA.sl++b.flatMap RA.sl
 |.same x=>x.sl
 |.mget _ _ x y=>x.sl++y.sl
 |.mgetp _ _ x y=>x.sl++y.sl
 |.aidx _ _ _ x y=>x.sl++y.sl
def RO.sl:RO→List Nat
 |.val v=>v.sl
 |.allocN _ _=>[]
 |.boxN _ r=>r.sl
 |.store _ p r=>p.sl++r.sl
 |.storev _ _ _ p r=>p.sl++r.sl
 |.app _ _ _ s r=>s.sl++r.sl
 |.appl _ _ _ s r=>s.sl++r.sl
 |.mk _ _ _ _ _ l c=>l.sl++c.sl
 |.bsl _ _ _ ps=>ps.flatMap fun p=>p.2.2.sl
 |.call f rs=>f.sl++rs.flatMap RA.sl
 |.callF f rs=>f.sl++rs.flatMap RA.sl
 |.bslv _ _ _ _ ps=>ps.flatMap fun p=>p.2.2.sl
 |.bsl0 _ _=>[]
 |.lit0 _=>[]
 |.appe _ _ _ s r=>s.sl++r.sl
 |.isnil _ x=>x.sl
 |.xb _ _ s c=>s.sl++c.sl
 |.rngs _ r=>r.sl
 |.nxts r=>r.sl
 |.mkm _=>[]
 |.mput x y z=>x.sl++(y.sl++z.sl)
def Item.sl (it:Item):List Nat:=it.op.sl++(match it.g with|some (j,_)=>[j]|none=>[])

def ZI (l:List Nat)(f f':Fr):Prop:=∀t,t∈l→f t=f' t
theorem ZI.left {a b:List Nat}{f f':Fr}(h:ZI (a++b) f f'):ZI a f f':=fun t ht=>h t (List.mem_append_left _ ht)
theorem ZI.right {a b:List Nat}{f f':Fr}(h:ZI (a++b) f f'):ZI b f f':=fun t ht=>h t (List.mem_append_right _ ht)

theorem RA.ev_same {r:RA}{f f':Fr}(h:ZI r.sl f f'):r.ev f=r.ev f':=by
 cases r with
 |t n=>exact h n (by simp[RA.sl])
 |c x=>rfl
 |f k=>rfl
 |g k l=>rfl

theorem Wh:∀ {rs:List RA} {f f':Fr},ZI (rs.flatMap RA.sl) f f'→rs.map (RA.ev f)=rs.map (RA.ev f')
 | [],_,_,_=>rfl
 |r :: rs,f,f',h=>by
  rw[QWK]at h;rw[QVP,QVP,RA.ev_same h.left,Wh h.right]

theorem Wy {f f':Fr}:∀ {ps:List (Nat×Nat×RA)} {z:List AV},ZI (ps.flatMap fun p=>p.2.2.sl) f f'→fill f ps z=fill f' ps z
 | [],_,_=>rfl
 |(o,n,r) :: ps,z,h=>by
  rw[QWK]at h;simp only[fill,RA.ev_same h.left,Wy h.right]

theorem Hc {f f':Fr}{d:Nat}{r:Option RA}(h:ZI (AB r) f f'):KN f d r=KN f' d r:=by
 cases r with
 |none=>rfl
 |some r=>simp only[KN,RA.ev_same (r:=r) h]

theorem Tc {f f':Fr}{m:Qo}{vo:VO}(h:ZI vo.sl f f'):QH f m vo=QH f' m vo:=by
 cases vo with
 |mov x=>simp only[QH,RA.ev_same (r:=x) h]
 |pick c a b=>simp only[QH,RA.ev_same (r:=c) h.left,RA.ev_same (r:=a) h.right.left,RA.ev_same (r:=b) h.right.right]
 |build z ps=>simp only[QH,Wy (ps:=ps) h]
 |load k x=>simp only[QH,RA.ev_same (r:=x) h]
 |loadv l s k x=>simp only[QH,RA.ev_same (r:=x) h]
 |loado k x=>simp only[QH,RA.ev_same (r:=x) h]
 |loadr k x=>simp only[QH,RA.ev_same (r:=x) h]
 |nilck x=>simp only[QH,RA.ev_same (r:=x) h]
 |un o x=>simp only[QH,RA.ev_same (r:=x) h]
 |cvi k x=>simp only[QH,RA.ev_same (r:=x) h]
 |faddr o x=>simp only[QH,RA.ev_same (r:=x) h]
 |faddv o x=>simp only[QH,RA.ev_same (r:=x) h]
 |fld o k x=>simp only[QH,RA.ev_same (r:=x) h]
 |ext x i=>simp only[QH,RA.ev_same (r:=x) h]
 |same x=>simp only[QH,RA.ev_same (r:=x) h]
 |len k x=>simp only[QH,RA.ev_same (r:=x) h]
 |bin t o x y=>simp only[QH,RA.ev_same (r:=x) h.left,RA.ev_same (r:=y) h.right]
 |eqs n ks x y=>simp only[QH,RA.ev_same (r:=x) h.left,RA.ev_same (r:=y) h.right]
 |iaddr sz len x y=>simp only[QH,RA.ev_same (r:=x) h.left,RA.ev_same (r:=y) h.right]
 |idx x y=>simp only[QH,RA.ev_same (r:=x) h.left,RA.ev_same (r:=y) h.right]
 |mget ok z x y=>simp only[QH,RA.ev_same (r:=x) h.left,RA.ev_same (r:=y) h.right]
 |mgetp ok z x y=>simp only[QH,RA.ev_same (r:=x) h.left,RA.ev_same (r:=y) h.right]
 |aidx n sz k x y=>simp only[QH,RA.ev_same (r:=x) h.left,RA.ev_same (r:=y) h.right]
 |mnx b x y=>simp only[QH,RA.ev_same (r:=x) h.left,RA.ev_same (r:=y) h.right]
 |slc sz x lo hi mx=>
  have h1:=h.right.left;have h2:=h.right.right.left;have h3:=h.right.right.right;simp only[QH,RA.ev_same (r:=x) h.left,Hc (r:=lo) h1,Hc (r:=hi) h2];cases mx with
  |none=>rfl
  |some r=>simp only[Hc (r:=some r) h3]
 |mkfn fn a b=>simp only[QH,Wh (rs:=a) h.left,Wh (rs:=b) h.right]
 |slcl x hi mx=>simp only[QH,RA.ev_same (r:=x) h.left,RA.ev_same (r:=hi) h.right.left,RA.ev_same (r:=mx) h.right.right]

inductive MC where
 |no
 |shape
 |rows
 |cell (l s:Nat)
 |outer
 |all
 deriving DecidableEq

def VO.mc:VO→MC
 |.load _ _=>.all
 |.loadv l s _ _=>.cell l s
 |.loado _ _=>.outer
 |.loadr _ _=>.rows
 |.nilck _=>.shape
 |.faddr _ _=>.shape
 |.len _ _=>.shape
 |.slc .. => .shape
 |.iaddr .. => .shape
 |.mget .. => .all
 |_=>.no

def Ob.sh:Ob→Option (Nat×Nat)
 |.vec g z _=>some (g,z)
 |_=>Option.none
def Ob.row:Ob→Option (Nat×Nat×List AV)
 |.vec g z xs=>some (g,z,xs)
 |_=>Option.none

def XA:MC→Qo→Qo→Prop
 |.no,_,_=>True
 |.shape,m,m'=>∀l s,(Qe m l s).sh=(Qe m' l s).sh
 |.rows,m,m'=>∀l s,(Qe m l s).row=(Qe m' l s).row
 |.cell l s,m,m'=>Qe m l s=Qe m' l s∨((Qe m l s).isRow=true∧(Qe m' l s).isRow=true)
 |.outer,m,m'=>∀l s,Qe m (l+1) s=Qe m' (l+1) s
 |.all,m,m'=>m=m'

theorem XA.refl (c:MC)(m:Qo):XA c m m:=by
 cases c<;>simp[XA]

theorem Y1 {m m':Qo}{l s:Nat}(h:(Qe m l s).sh=(Qe m' l s).sh):Yg m l s=Yg m' l s:=by
 unfold Yg;cases h1:Qe m l s<;>cases h2:Qe m' l s<;>rw[h1,h2]at h<;>simp_all[Ob.sh]

theorem FI {m m':Qo}(h:XA .shape m m')(sz:Option Nat)(x:AV)(lo hi:Nat)(mx:Option Nat):XI m sz x lo hi mx=XI m' sz x lo hi mx:=by
 cases sz with
 |none=>rfl
 |some z=>
  cases x with
  |vec l s g o n q=>
   have h:=h l s;simp only[XI];cases h1:Qe m l s<;>cases h2:Qe m' l s<;>rw[h1,h2]at h<;>simp_all[Ob.sh]
  |_=>rfl

theorem FJ {m m':Qo}(h:XA .shape m m')(sz:Nat)(len:Option Nat)(x:AV)(i:Int):Qb m sz len x i=Qb m' sz len x i:=by
 unfold Qb;cases len with
 |none=>
  cases x with
  |vec l s g o n q=>
   have h:=h l s;simp only;cases h1:Qe m l s<;>cases h2:Qe m' l s<;>rw[h1,h2]at h<;>simp_all[Ob.sh]
  |_=>rfl
 |some k=>rfl

def Td (F:Nat→List AV→Option AV):Ob→Option AV
 |.vec g _ xs=>F g xs
 |_=>none

theorem Mf {o o':Ob}(h:o.row=o'.row)(F:Nat→List AV→Option AV):Td F o=Td F o':=by
  cases o<;>cases o'<;>simp only[Ob.row,QVJ,Prod.mk.injEq,reduceCtorEq]at h<;>first
    |rfl
    | (obtain⟨rfl,_,rfl⟩:=h
       rfl)

theorem HQ (m:Qo)(k:Option Nat)(l s g i o:Nat):Xy m k (.vptr l s g i o)=Td (fun g' xs=>if g=g' then match xs[i]? with
  |some e=>part e.cells o k
  |none=>none
 else none) (Qe m l s):=by
 simp only[Xy];cases Qe m l s<;>rfl

theorem IW {f:Fr}{m m':Qo}{vo:VO}(h:XA vo.mc m m'):QH f m vo=QH f m' vo:=by
 cases vo<;>simp only[VO.mc]at h<;>try rfl
 case load k x=>have h:m=m':=h;subst h;rfl
 case mget ok z x i=>have h:m=m':=h;subst h;rfl
 case loado k x=>
  have h:∀l s,Qe m (l+1) s=Qe m' (l+1) s:=h;simp only[QH];split
  ·simp only[Xy,h]
  ·rfl
 case loadv l s k x=>
  have h:Qe m l s=Qe m' l s∨((Qe m l s).isRow=true∧(Qe m' l s).isRow=true):=h;simp only[QH];split
  ·split
   ·rename_i hh;obtain⟨rfl,rfl⟩:=hh;rcases h with h|⟨h1,h2⟩
    ·simp only[Xy,h]
    ·simp only[Xy];cases e1:Qe m _ _<;>cases e2:Qe m' _ _<;>rw[e1]at h1<;>rw[e2]at h2<;>first|rfl|(simp[Ob.isRow]at h1;done)|(simp[Ob.isRow]at h2;done)
   ·rfl
  ·rfl
 case loadr k x=>
  simp only[QH];split
  ·rfl
  ·rename_i l s g i o e;have h4:(Qe m l s).row=(Qe m' l s).row:=h l s;rw[HQ,HQ,Mf h4]
  ·rfl
 case nilck x=>simp only[QH,fun l s=>Y1 (h l s)]
 case faddr o x=>simp only[QH,fun l s=>Y1 (h l s)]
 case len k x=>simp only[QH,fun l s=>Y1 (h l s)]
 case slc sz x lo hi mx=>simp only[QH,FI h]
 case iaddr sz len x i=>simp only[QH,FJ h]

mutual
theorem HR {m m':Qo}(h:XA .rows m m'):∀x:AV,x.still false m=x.still false m'
 |.vec l s g o n q=>by
   have h:=h l s;simp only[AV.still];cases h1:Qe m l s<;>cases h2:Qe m' l s<;>rw[h1,h2]at h<;>simp_all[Ob.row]
 |.agg l=>by simp only[AV.still,KI h l]
 |.tup l=>by simp only[AV.still,KI h l]
 |.iface t x=>by simp only[AV.still,HR h x]
 |.top|.int .. | .bool _|.str _|.nils|.nilp|.nilf|.nili|.nilm|.anyp|.list _|.lcap _|.fn .. | .ptr .. | .vptr .. | .rptr _|.mp .. => rfl
 |.mptr l s=>by simp only[AV.still,QWL,QVB,if_false]
theorem KI {m m':Qo}(h:XA .rows m m'):∀l:List AV,AV.stillL false m l=AV.stillL false m' l
 | []=>rfl
 |x :: l=>by simp only[AV.stillL,HR h x,KI h l]
end

def RO.pure:RO→Bool
 |.val _=>true
 |.bsl .. => true
 |.call _ _=>true
 |.lit0 _=>true
 |.appe .. => true
 |_=>false

def RO.mc:RO→MC
 |.val v=>v.mc
 |.call _ _=>.rows
 |.bsl .. => .no
 |.lit0 _=>.no
 |.appe .. => .no
 |_=>.all

section
variable {P:Program}

def Cg (P:Program)(op:RO)(st:St)(x:AV):Prop :=
 match op with
 |.val vo=>QH st.f st.m vo=some x
 |.call f args=>∃k fa fb ys,f.ev st.f=.fn (.func k) fa fb∧AV.stillL false st.m (fa++args.map (RA.ev st.f)++fb)=some ys∧AV.rfL ys=true∧Qj P k ys x∧x.rf=true∧(AV.rfL (fa++args.map (RA.ev st.f)++fb)=true∨x.nl=true)
 |_=>False

def Za (P:Program)(op:RO)(st:St)(x:AV)(m:Qo):Prop :=
 match op with
 |.val vo=>QH st.f st.m vo=some x∧m=st.m
 |.call f args=>Cg P (.call f args) st x∧m=st.m
 |.allocN s z=>XQ st.m s=true∧x=.ptr 0 s 0∧m=Am.put st.m 0 s (.cells z)
 |.boxN s r=>XQ st.m s=true∧(r.ev st.f).cells.all AV.leaf=true∧x=.ptr 0 s 0∧m=Am.put st.m 0 s (.cells (r.ev st.f).cells)
 |.store n p r=>(r.ev st.f).cells.length=n∧(r.ev st.f).cells.all AV.leaf=true∧Xb st.m (p.ev st.f) (r.ev st.f).cells=some m∧x=.tup []
 |.storev l s n p r=>(∃o,p.ev st.f=.ptr l s o)∧(r.ev st.f).cells.length=n∧(r.ev st.f).cells.all AV.leaf=true∧Xb st.m (p.ev st.f) (r.ev st.f).cells=some m∧x=.tup []
 |.app sz bytes el s r=>∃l site g n xs ys,s.ev st.f=.vec l site g 0 n false∧Qe st.m l site=.vec g sz xs∧XC site el=true∧n≤xs.length∧Xj st.m (r.ev st.f)=some ys∧ys.all (fun e=>e.cells.length==sz)=true∧n+ys.length≤maxLen∧(n+ys.length)*bytes≤140737488355328∧
   x=.vec l site (g+1) 0 (n+ys.length) false∧m=Am.put st.m l site (.vec (g+1) sz (xs.take n++ys))
 |.appl sz bytes el s r=>∃site g n xs ys,s.ev st.f=.vec 0 site g 0 n false∧Qe st.m 0 site=.vec g sz xs∧XC site el=true∧n≤xs.length∧Xj st.m (r.ev st.f)=some ys∧ys.all (fun e=>e.cells.length==sz)=true∧n+ys.length≤maxLen∧(n+ys.length)*bytes≤140737488355328∧
   x=.list (xs.take n++ys)∧m=Am.put st.m 0 site (.vec (g+1+1) sz [])
 |.bsl sz len z ps=>(∃y,fill st.f ps (Xt z sz len)=some y∧AV.rfL y=true∧y.all AV.leaf=true∧x=.list (XP sz len (y.map nn0)))∧m=st.m
 |.bslv site sz len z ps=>∃y,fill st.f ps (Xt z sz len)=some y∧AV.rfL y=true∧y.all AV.leaf=true∧Qr (Qe st.m 0 site)=true∧x=.vec 0 site (QD st.m 0 site) 0 len false∧m=Am.put st.m 0 site (.vec (QD st.m 0 site) sz (XP sz len (y.map nn0)))
 |.lit0 _=>x=.lcap []∧m=st.m
 |.appe sz bytes _ s r=>(∃xs ys,s.ev st.f=.lcap xs∧r.ev st.f=.list ys∧xs.all (fun e=>e.cells.length==sz)=true∧ys.all (fun e=>e.cells.length==sz)=true∧xs.length+ys.length≤maxLen∧(xs.length+ys.length)*bytes≤140737488355328∧x=.list (xs++ys))∧m=st.m
 |.bsl0 site sz=>Qr (Qe st.m 0 site)=true∧x=.vec 0 site (QD st.m 0 site) 0 0 false∧m=Am.put st.m 0 site (.vec (QD st.m 0 site) sz [])
 |.callF f args=>∃k fa fb,f.ev st.f=.fn (.func k) fa fb∧Qp P k (fa++args.map (RA.ev st.f)++fb) st.m (fun y m'=>y=x∧m'=m)
 |_=>False

def RO.keeps:RO→Bool
 |.mk .. => false
 |.isnil .. => false
 |.xb .. => false
 |.rngs .. => false
 |.nxts .. => false
 |.mkm .. => false
 |.mput .. => false
 |_=>true

theorem FK {d:Option Nat}{op:RO}{st:St}{K:St→Prop}(hk:op.keeps=true):YJ P d op st K↔∃x m,Za P op st x m∧K { st with m:=m,f:=Qm st.f d x }:=by
 cases op<;>simp only[RO.keeps,QVB]at hk<;>simp only[YJ,Za,Cg]
 case val=>exact⟨fun⟨x,h,k⟩=>⟨x,_,⟨h,rfl⟩,k⟩,fun⟨x,m,⟨h,e⟩,k⟩=>by subst e;exact⟨x,h,k⟩⟩
 case allocN=>exact⟨fun⟨h,k⟩=>⟨_,_,⟨h,rfl,rfl⟩,k⟩,fun⟨x,m,⟨h,e,e'⟩,k⟩=>by subst e e';exact⟨h,k⟩⟩
 case boxN=>exact⟨fun⟨h,h',k⟩=>⟨_,_,⟨h,h',rfl,rfl⟩,k⟩,fun⟨x,m,⟨h,h',e,e'⟩,k⟩=>by subst e e';exact⟨h,h',k⟩⟩
 case store=>exact⟨fun⟨h1,h2,m',h3,k⟩=>⟨_,m',⟨h1,h2,h3,rfl⟩,k⟩,fun⟨x,m,⟨h1,h2,h3,e⟩,k⟩=>by subst e;exact⟨h1,h2,m,h3,k⟩⟩
 case storev=>exact⟨fun⟨h0,h1,h2,m',h3,k⟩=>⟨_,m',⟨h0,h1,h2,h3,rfl⟩,k⟩,fun⟨x,m,⟨h0,h1,h2,h3,e⟩,k⟩=>by subst e;exact⟨h0,h1,h2,m,h3,k⟩⟩
 case app=>exact⟨fun⟨l,site,g,n,xs,ys,h1,h2,ht,h3,h4,h5,h6,h7,k⟩=>⟨_,_,⟨l,site,g,n,xs,ys,h1,h2,ht,h3,h4,h5,h6,h7,rfl,rfl⟩,k⟩,fun⟨x,m,⟨l,site,g,n,xs,ys,h1,h2,ht,h3,h4,h5,h6,h7,e,e'⟩,k⟩=>by subst e e';exact⟨l,site,g,n,xs,ys,h1,h2,ht,h3,h4,h5,h6,h7,k⟩⟩
 case appl=>exact⟨fun⟨site,g,n,xs,ys,h1,h2,ht,h3,h4,h5,h6,h7,k⟩=>⟨_,_,⟨site,g,n,xs,ys,h1,h2,ht,h3,h4,h5,h6,h7,rfl,rfl⟩,k⟩,fun⟨x,m,⟨site,g,n,xs,ys,h1,h2,ht,h3,h4,h5,h6,h7,e,e'⟩,k⟩=>by subst e e';exact⟨site,g,n,xs,ys,h1,h2,ht,h3,h4,h5,h6,h7,k⟩⟩
 case call=>exact⟨fun⟨k,fa,fb,ys,v,h1,h2,h3,h4,h5,h6,kk⟩=>⟨v,_,⟨⟨k,fa,fb,ys,h1,h2,h3,h4,h5,h6⟩,rfl⟩,kk⟩,fun⟨x,m,⟨⟨k,fa,fb,ys,h1,h2,h3,h4,h5,h6⟩,e⟩,kk⟩=>by subst e;exact⟨k,fa,fb,ys,x,h1,h2,h3,h4,h5,h6,kk⟩⟩
 case bsl=>exact⟨fun⟨y,h1,h2,h3,k⟩=>⟨_,_,⟨⟨y,h1,h2,h3,rfl⟩,rfl⟩,k⟩,fun⟨x,m,⟨⟨y,h1,h2,h3,e⟩,e'⟩,k⟩=>by subst e e';exact⟨y,h1,h2,h3,k⟩⟩
 case bslv=>exact⟨fun⟨y,h1,h2,h3,h4,k⟩=>⟨_,_,⟨y,h1,h2,h3,h4,rfl,rfl⟩,k⟩,fun⟨x,m,⟨y,h1,h2,h3,h4,e,e'⟩,k⟩=>by subst e e';exact⟨y,h1,h2,h3,h4,k⟩⟩
 case lit0=>exact⟨fun k=>⟨_,_,⟨rfl,rfl⟩,k⟩,fun⟨x,m,⟨e,e'⟩,k⟩=>by subst e e';exact k⟩
 case appe=>exact⟨fun⟨xs,ys,h1,h2,h3,h4,h5,h6,k⟩=>⟨_,_,⟨⟨xs,ys,h1,h2,h3,h4,h5,h6,rfl⟩,rfl⟩,k⟩,fun⟨x,m,⟨⟨xs,ys,h1,h2,h3,h4,h5,h6,e⟩,e'⟩,k⟩=>by subst e e';exact⟨xs,ys,h1,h2,h3,h4,h5,h6,k⟩⟩
 case bsl0=>exact⟨fun⟨h1,k⟩=>⟨_,_,⟨h1,rfl,rfl⟩,k⟩,fun⟨x,m,⟨h1,e,e'⟩,k⟩=>by subst e e';exact⟨h1,k⟩⟩
 case callF=>exact⟨fun⟨k,fa,fb,v,m',h1,h2,kk⟩=>⟨v,m',⟨k,fa,fb,h1,h2⟩,kk⟩,fun⟨x,m,⟨k,fa,fb,h1,h2⟩,kk⟩=>⟨k,fa,fb,x,m,h1,h2,kk⟩⟩

def Zy (P:Program)(it:Item)(st:St)(x:AV)(m:Qo):Prop :=
 match it.g with
 |none=>Za P it.op st x m
 |some (j,want)=>match st.f j with
  |.bool b=>(b=want∧Za P it.op st x m)∨(b=(!want)∧x=.tup []∧m=st.m)
  |.tup l=>l=[]∧x=.tup []∧m=st.m
  |_=>False

theorem Jv {it:Item}{st:St}{K:St→Prop}(hk:it.op.keeps=true):X5 P it st K↔∃x m,Zy P it st x m∧K { st with m:=m,f:=Qm st.f it.dst x }:=by
 obtain⟨d,op,g⟩:=it;cases g with
 |none=>exact FK hk
 |some p=>
  obtain⟨j,want⟩:=p;simp only[X5,Zy];cases hj:st.f j with
  |bool b=>
   simp only;rw[FK hk]
   constructor
   ·intro⟨h1,h2⟩;by_cases hb:b=want
    ·obtain⟨x,m,h,k⟩:=h1 hb;exact⟨x,m,.inl ⟨hb,h⟩,k⟩
    ·have hb':b=!want:=by cases b<;>cases want<;>first|rfl|exact absurd rfl hb
     exact⟨_,_,.inr ⟨hb',rfl,rfl⟩,h2 hb'⟩
   ·rintro⟨x,m,⟨hb,h⟩|⟨hb,rfl,rfl⟩,k⟩
    ·exact⟨fun _=>⟨x,m,h,k⟩,fun e=>by rw[hb]at e;cases want<;>cases e⟩
    ·exact⟨fun e=>(by rw[hb]at e;cases want<;>cases e),fun _=>k⟩
  |tup l=>
   constructor
   ·rintro⟨h,k⟩;exact⟨_,_,⟨h,rfl,rfl⟩,k⟩
   ·rintro⟨x,m,⟨h,rfl,rfl⟩,k⟩;exact⟨h,k⟩
  |_=>exact⟨fun h=>h.elim,fun⟨_,_,h,_⟩=>h.elim⟩

theorem HS {op:RO}{f f':Fr}{m m':Qo}{ds ds':List DF}{x:AV}(h:ZI op.sl f f')(k:Za P op ⟨f,m,ds⟩ x m'):Za P op ⟨f',m,ds'⟩ x m':=by
 cases op with
 |val vo=>simp only[Za,Tc (vo:=vo) h]at k ⊢;exact k
 |call g args=>simp only[Za,Cg,RA.ev_same (r:=g) h.left,Wh (rs:=args) h.right]at k ⊢;exact k
 |callF g args=>simp only[Za,RA.ev_same (r:=g) h.left,Wh (rs:=args) h.right]at k ⊢;exact k
 |allocN s z=>exact k
 |boxN s r=>simp only[Za,RA.ev_same (r:=r) h]at k ⊢;exact k
 |store n p r=>simp only[Za,RA.ev_same (r:=p) h.left,RA.ev_same (r:=r) h.right]at k ⊢;exact k
 |storev l s n p r=>simp only[Za,RA.ev_same (r:=p) h.left,RA.ev_same (r:=r) h.right]at k ⊢;exact k
 |app sz bytes el s r=>simp only[Za,RA.ev_same (r:=s) h.left,RA.ev_same (r:=r) h.right]at k ⊢;exact k
 |appl sz bytes el s r=>simp only[Za,RA.ev_same (r:=s) h.left,RA.ev_same (r:=r) h.right]at k ⊢;exact k
 |bsl sz len z ps=>simp only[Za,Wy (ps:=ps) h]at k ⊢;exact k
 |bslv site sz len z ps=>simp only[Za,Wy (ps:=ps) h]at k ⊢;exact k
 |bsl0 site sz=>exact k
 |lit0 sz=>exact k
 |appe sz bytes el s r=>simp only[Za,RA.ev_same (r:=s) h.left,RA.ev_same (r:=r) h.right]at k ⊢;exact k
 |_=>exact k.elim

theorem K6 {it:Item}{f f':Fr}{m m':Qo}{ds ds':List DF}{x:AV}(h:ZI it.sl f f')(k:Zy P it ⟨f,m,ds⟩ x m'):Zy P it ⟨f',m,ds'⟩ x m':=by
 obtain⟨d,op,g⟩:=it;cases g with
 |none=>exact HS (ZI.left h) k
 |some p=>
  obtain⟨j,want⟩:=p;have hj:f j=f' j:=(ZI.right h) j (by simp);simp only[Zy]at k ⊢;rw[←hj];cases he:f j with
  |bool b=>rw[he]at k;exact k.imp (fun h1=>⟨h1.1,HS (ZI.left h) h1.2⟩) id
  |tup l=>rw[he]at k;exact k
  |_=>rw[he]at k;exact k

theorem FL {op:RO}(hp:op.pure=true){f:Fr}{m m' m1:Qo}{ds ds':List DF}{x:AV}(h:XA op.mc m m')(k:Za P op ⟨f,m,ds⟩ x m1):m1=m∧Za P op ⟨f,m',ds'⟩ x m':=by
 cases op with
 |bsl sz len z ps=>obtain⟨k,e⟩:=k;exact⟨e,k,rfl⟩
 |lit0 sz=>obtain⟨k,e⟩:=k;exact⟨e,k,rfl⟩
 |appe sz bytes el s r=>obtain⟨k,e⟩:=k;exact⟨e,k,rfl⟩
 |val vo=>obtain⟨k,e⟩:=k;exact⟨e,by rw[←IW (f:=f) h];exact k,rfl⟩
 |call g args=>
  obtain⟨⟨k,fa,fb,ys,h1,h2,h3,h4,h5,h6⟩,e⟩:=k;refine⟨e,⟨k,fa,fb,ys,h1,?_,h3,h4,h5,h6⟩,rfl⟩;rw[←KI h];exact h2
 |_=>cases hp

theorem Y2 {it:Item}(hp:it.op.pure=true){f:Fr}{m m' m1:Qo}{ds ds':List DF}{x:AV}(h:XA it.op.mc m m')(k:Zy P it ⟨f,m,ds⟩ x m1):m1=m∧Zy P it ⟨f,m',ds'⟩ x m':=by
 obtain⟨d,op,g⟩:=it;cases g with
 |none=>exact FL hp h k
 |some p=>
  obtain⟨j,want⟩:=p;simp only[Zy]at k ⊢;cases he:f j with
  |bool b=>
   rw[he]at k;rcases k with⟨h1,k⟩|⟨h1,h2,h3⟩
   ·obtain⟨a,b⟩:=FL hp h k;exact⟨a,.inl ⟨h1,b⟩⟩
   ·exact⟨h3,.inr ⟨h1,h2,trivial⟩⟩
  |tup l=>rw[he]at k;exact⟨k.2.2,k.1,k.2.1,trivial⟩
  |_=>rw[he]at k;exact k.elim

def RO.lets (op:RO)(c:MC):Bool :=
 match op with
 |.val _=>true
 |.call _ _=>true
 |.store .. => c == .no||c == .shape
 |.storev l s _ _ _=>match c with
  |.cell l' s'=>l' != l||s' != s
  |.outer=>l==0
  |.all=>false
  |_=>true
 |.allocN s _=>match c with
  |.cell l' s'=>l' != 0||s' != s
  |.all=>false
  |_=>true
 |.boxN s _=>match c with
  |.cell l' s'=>l' != 0||s' != s
  |.all=>false
  |_=>true
 |.app .. => match c with
  |.no=>true
  |.cell _ _=>true
  |_=>false
 |.appl .. => match c with
  |.no=>true
  |.cell _ _=>true
  |.outer=>true
  |_=>false
 |.bsl .. => true
 |.lit0 _=>true
 |.appe .. => true
 |.bslv s _ _ _ _=>match c with
  |.no=>true
  |.cell l' s'=>l' != 0||s' != s
  |.outer=>true
  |_=>false
 |.bsl0 s _=>match c with
  |.no=>true
  |.cell l' s'=>l' != 0||s' != s
  |.outer=>true
  |_=>false
 |.callF .. => c == .no
 |_=>false

theorem WQ {m:Qo}{l s:Nat}{o o':Ob}(hl:Qe m l s=o)(ho:o.row=none)(ho':o'.row=none)(hlt:l<m.length){c:MC}(hc:match c with
  |.cell l' s'=>(l' != l||s' != s)=true
  |.outer=>(l==0)=true
  |.all=>False
  |_=>True):XA c m (Am.put m l s o'):=by
 have key:∀l' s',(l'=l∧s'=s)∨Qe (Am.put m l s o') l' s'=Qe m l' s':=by
  intro l' s';by_cases hh:l'=l∧s'=s
  ·exact .inl hh
  ·exact .inr (Qt (by omega))
 have hsh:∀ {x:Ob},x.row=none→x.sh=none:=by intro x;cases x<;>simp[Ob.row,Ob.sh]
 cases c with
 |no=>trivial
 |shape=>
  intro l' s';rcases key l' s' with⟨rfl,rfl⟩|e
  ·rw[QG hlt,hl,hsh ho,hsh ho']
  ·rw[e]
 |rows=>
  intro l' s';rcases key l' s' with⟨rfl,rfl⟩|e
  ·rw[QG hlt,hl,ho,ho']
  ·rw[e]
 |cell l' s'=>
  show Qe m l' s'=Qe _ l' s'∨_;rcases key l' s' with⟨rfl,rfl⟩|e
  ·simp at hc
  ·exact .inl e.symm
 |outer=>
  intro l' s';have hc:l=0:=by simpa using hc
  exact(Qt (by omega)).symm
 |all=>exact hc.elim

theorem Mg {m:Qo}{s:Nat}(h:XQ m s=true):Qe m 0 s=.none:=by
 unfold XQ at h;split at h
 ·assumption
 ·cases h

end

theorem XA.symm {c:MC}{m m':Qo}(h:XA c m m'):XA c m' m:=by
 cases c with
 |no=>trivial
 |shape=>exact fun l s=>(h l s).symm
 |rows=>exact fun l s=>(h l s).symm
 |cell l s=>exact Or.imp Eq.symm And.symm h
 |outer=>exact fun l s=>(h l s).symm
 |all=>exact Eq.symm h

theorem FM {m m':Qo}{p:AV}{ys:List AV}(h:Xb m p ys=some m'):XA .shape m m':=by
 cases p with
 |ptr l s o=>
  simp only[Xb]at h;split at h
  ·rename_i xs hlk;split at h
   ·split at h
    ·cases h;exact WQ (c:=.shape) hlk rfl rfl (Xx (by rw[hlk];simp)) trivial
    ·cases h
   ·cases h
  ·cases h
 |vptr l s g i o=>
  simp only[Xb]at h;split at h
  ·rename_i g' sz xs hlk;split at h
   ·rename_i hg;subst hg;split at h
    ·split at h
     ·cases h;intro l' s';by_cases hh:l'=l∧s'=s
      ·obtain⟨rfl,rfl⟩:=hh;rw[QG (Xx (by rw[hlk];simp)),hlk];rfl
      ·rw[Qt (by omega)]
     ·cases h
    ·cases h
   ·cases h
  ·cases h
 |_=>simp[Xb]at h

section
variable {P:Program}{N:Nat}

theorem FN {m:Qo}{s:Nat}{xs:List AV}(h:XQ m s=true){c:MC}(hc:match c with
  |.cell l' s'=>(l' != 0||s' != s)=true
  |.all=>False
  |_=>True):XA c m (Am.put m 0 s (.cells xs)):=by
 cases m with
 |nil=>exact XA.refl c _
 |cons fr m=>exact WQ (Mg h) rfl rfl (by simp) (by cases c<;>first|exact hc|rfl)

theorem HT {op:RO}{c:MC}(hc:op.lets c=true){st:St}{x:AV}{m:Qo}(h:Za P op st x m):XA c st.m m:=by
 cases op with
 |val vo=>rw[h.2];exact XA.refl c _
 |call f args=>rw[h.2];exact XA.refl c _
 |store n p r=>
  simp only[RO.lets,QWc,QVG]at hc;rcases hc with rfl|rfl
  ·trivial
  ·exact FM h.2.2.1
 |storev l s n p r=>
  obtain⟨⟨o,ho⟩,h1,h2,h3,h4⟩:=h;rw[ho]at h3;simp only[Xb]at h3;split at h3
  ·rename_i xs hlk;split at h3
   ·split at h3
    ·cases h3;refine WQ hlk rfl rfl (Xx (by rw[hlk];simp)) ?_;cases c<;>first|trivial|exact hc|cases hc
    ·cases h3
   ·cases h3
  ·cases h3
 |allocN s z=>
  rw[h.2.2];refine FN h.1 ?_;cases c<;>first|trivial|exact hc|cases hc
 |boxN s r=>
  rw[h.2.2.2];refine FN h.1 ?_;cases c<;>first|trivial|exact hc|cases hc
 |app sz bytes el s r=>
  obtain⟨l,site,g,n,xs,ys,_,hlk,_,_,_,_,_,_,_,rfl⟩:=h;cases c with
  |no=>trivial
  |cell l' s'=>
   show Qe st.m l' s'=Qe _ l' s'∨_;by_cases hh:l'=l∧s'=site
   ·obtain⟨rfl,rfl⟩:=hh;refine .inr ⟨by rw[hlk];rfl,?_⟩;rw[QG (Xx (by rw[hlk];simp))];rfl
   ·exact .inl (Qt (by omega)).symm
  |_=>simp[RO.lets]at hc
 |appl sz bytes el s r=>
  obtain⟨site,g,n,xs,ys,_,hlk,_,_,_,_,_,_,_,rfl⟩:=h;cases c with
  |no=>trivial
  |cell l' s'=>
   show Qe st.m l' s'=Qe _ l' s'∨_;by_cases hh:l'=0∧s'=site
   ·obtain⟨rfl,rfl⟩:=hh;refine .inr ⟨by rw[hlk];rfl,?_⟩;rw[QG (Xx (by rw[hlk];simp))];rfl
   ·exact .inl (Qt (by omega)).symm
  |outer=>exact fun l' s'=>(Qt (.inl (Nat.succ_ne_zero l'))).symm
  |_=>simp[RO.lets]at hc
 |bsl sz len z ps=>rw[h.2];exact XA.refl c _
 |lit0 sz=>rw[h.2];exact XA.refl c _
 |appe sz bytes el s r=>rw[h.2];exact XA.refl c _
 |bslv site sz len z ps=>
  obtain⟨y,_,_,_,_,_,rfl⟩:=h;cases c with
  |no=>trivial
  |cell l' s'=>
   simp only[RO.lets,QWc,QVL]at hc;exact .inl (Qt (by omega)).symm
  |outer=>exact fun l' s'=>(Qt (.inl (Nat.succ_ne_zero l'))).symm
  |_=>simp[RO.lets]at hc
 |bsl0 site sz=>
  obtain⟨_,_,rfl⟩:=h;cases c with
  |no=>trivial
  |cell l' s'=>
   simp only[RO.lets,QWc,QVL]at hc;exact .inl (Qt (by omega)).symm
  |outer=>exact fun l' s'=>(Qt (.inl (Nat.succ_ne_zero l'))).symm
  |_=>simp[RO.lets]at hc
 |callF f args=>
  simp only[RO.lets,QVG]at hc;subst hc;trivial
 |_=>exact h.elim

theorem HU {it:Item}{c:MC}(hc:it.op.lets c=true){st:St}{x:AV}{m:Qo}(h:Zy P it st x m):XA c st.m m:=by
 obtain⟨d,op,g⟩:=it;cases g with
 |none=>exact HT hc h
 |some p=>
  obtain⟨j,want⟩:=p;simp only[Zy]at h;cases he:st.f j with
  |bool b=>
   rw[he]at h;rcases h with⟨_,h⟩|⟨_,_,h⟩
   ·exact HT hc h
   ·rw[h];exact XA.refl c _
  |tup l=>rw[he]at h;rw[h.2.2];exact XA.refl c _
  |_=>rw[he]at h;exact h.elim

def UA (a b:Item):Bool :=
  (match a.dst with
   |some d=>!(b.sl.contains d)&&b.dst != some d
   |none=>true) &&
  (match b.dst with
   |some d=>!(a.sl.contains d)
   |none=>true)

def FO (a b:Item):Bool :=
 match a.op,b.op,a.g,b.g with
 |.allocN s _,.allocN t _,none,none=>s != t
 |_,_,_,_=>false

def UB (a b:Item):Bool :=
 a.op.keeps&&b.op.keeps&&UA a b&&((a.op.pure&&b.op.lets a.op.mc)||(b.op.pure&&a.op.lets b.op.mc)||FO a b)

theorem FP {m:Qo}{s t:Nat}{o:Ob}(h:s≠t):XQ (Am.put m 0 s o) t=XQ m t:=by
 unfold XQ;rw[Qt (.inr (Ne.symm h))]
theorem Te {m:Qo}{s t:Nat}{o q:Ob}(h:s≠t):Am.put (Am.put m 0 s o) 0 t q=Am.put (Am.put m 0 t q) 0 s o:=by
 cases m with
 |nil=>rfl
 |cons fr m=>
  simp only[Am.put];congr 1
  funext i;by_cases h1:i=t
  ·subst h1;rw[QP,QX _ _ (Ne.symm h),QP]
  ·rw[QX _ _ h1];by_cases h2:i=s
   ·subst h2;rw[QP,QP]
   ·rw[QX _ _ h2,QX _ _ h2,QX _ _ h1]
theorem ND {a b:Item}(h:FO a b=true){st:St}{f:Fr}{x y:AV}{m m2:Qo}(ga:Zy P a st x m)(gb:Zy P b { st with m:=m,f:=f } y m2) :
  ∃m1,Zy P b st y m1∧∀f',Zy P a { st with m:=m1,f:=f' } x m2:=by
 obtain⟨da,oa,ga'⟩:=a;obtain⟨db,ob,gb'⟩:=b;unfold FO at h;dsimp only at h;split at h
 ·rename_i s z t w;have hne:s≠t:=by simpa using h
  obtain⟨h1,rfl,rfl⟩:=ga;obtain⟨h2,rfl,rfl⟩:=gb;dsimp only at h2;rw[FP hne]at h2;refine⟨_,⟨h2,rfl,rfl⟩,fun f'=>⟨?_,rfl,?_⟩⟩
  ·dsimp only;rw[FP (Ne.symm hne)];exact h1
  ·exact Te hne
 ·cases h

theorem Dv {l:List Nat}{f:Fr}{d:Option Nat}{x:AV}(h:∀k,d=some k→k∉l):ZI l f (Qm f d x):=by
 intro t ht;cases d with
 |none=>rfl
 |some k=>
  have:t≠k:=fun e=>h k rfl (e▸ht)
  show f t=Qn f k x t;rw[QX _ _ this]

theorem Mh {f:Fr}{d e:Option Nat}{x y:AV}(h:∀k,d=some k→e≠some k):Qm (Qm f d x) e y=Qm (Qm f e y) d x:=by
 cases d with
 |none=>rfl
 |some d=>
  cases e with
  |none=>rfl
  |some e=>
   have hne:d≠e:=fun hh=>h d rfl (hh▸rfl)
   funext i;show Qn (Qn f d x) e y i=Qn (Qn f e y) d x i;by_cases h1:i=e
   ·subst h1;rw[QP,QX _ _ (Ne.symm hne),QP]
   ·rw[QX _ _ h1];by_cases h2:i=d
    ·subst h2;rw[QP,QP]
    ·rw[QX _ _ h2,QX _ _ h2,QX _ _ h1]

theorem Ch {a b:Item}(h:UA a b=true):(∀k,a.dst=some k→k∉b.sl)∧(∀k,a.dst=some k→b.dst≠some k)∧(∀k,b.dst=some k→k∉a.sl):=by
 unfold UA at h;simp only[QVF]at h;refine⟨fun k e=>?_,fun k e=>?_,fun k e=>?_⟩
 ·have:=h.1;rw[e]at this;simp at this;exact this.1
 ·have:=h.1;rw[e]at this;simp at this;exact this.2
 ·have:=h.2;rw[e]at this;simpa using this

theorem Ci {a b:Item}(h:UB a b=true){st:St}{K:St→Prop}(k:X5 P a st fun s=>X5 P b s K):X5 P b st fun s=>X5 P a s K:=by
 unfold UB at h;simp only[QVF,QWc]at h;obtain⟨⟨⟨ka,kb⟩,hap⟩,hor⟩:=h;obtain⟨h1,h2,h3⟩:=Ch hap;rw[Jv ka]at k;obtain⟨x,m,ga,k⟩:=k;rw[Jv kb]at k;obtain⟨y,m2,gb,k⟩:=k;rw[Jv kb];have hs1:∀f:Fr,ZI b.sl f (Qm f a.dst x):=fun f=>Dv h1
 have hs3:∀f:Fr,ZI a.sl f (Qm f b.dst y):=fun f=>Dv h3
 have hsym:∀ {l f f'},ZI l f f'→ZI l f' f:=fun h t ht=>(h t ht).symm
 have hK:K { st with m:=m2,f:=Qm (Qm st.f b.dst y) a.dst x }:=by
  rw[←Mh h2];exact k
 rcases hor with(⟨pa,lb⟩|⟨pb,la⟩)|hf
 ·have e:m=st.m:=(Y2 (m':=st.m) (ds':=st.ds) pa (XA.refl _ _) ga).1;subst e;have gb':Zy P b st y m2:=K6 (hsym (hs1 st.f)) gb;refine⟨y,m2,gb',?_⟩;rw[Jv ka];have ga':Zy P a { st with m:=m2 } x m2:=(Y2 pa (HU lb gb') ga).2;exact⟨x,m2,K6 (hs3 st.f) ga',hK⟩
 ·have hag:=HU la ga;obtain⟨e,gb1⟩:=Y2 (m':=st.m) (ds':=st.ds) pb hag.symm gb;have e:m2=m:=e;subst e;have gb':Zy P b st y st.m:=K6 (hsym (hs1 st.f)) gb1;refine⟨y,st.m,gb',?_⟩;rw[Jv ka];exact⟨x,m2,K6 (hs3 st.f) ga,hK⟩
 ·obtain⟨m1,gb',ga'⟩:=ND hf ga gb;refine⟨y,m1,gb',?_⟩;rw[Jv ka];exact⟨x,m2,ga' _,hK⟩

theorem Mi {ops:Array Oper}{o:Oper}{i:Nat}(hi:ops[i]? = some o){it:Item}(hc:YZ P N ops o it=true){st:St}{K:St→Prop}(h:X5 P it st K){G:Gh}{B:Nat}{a:Act}{w:World}(hr:Rel G B N st a w){KK:Act→World→Prop}{QQ:Exit→Act→World→Prop}
  (hk:∀G' st' a' w',K st'→Rel G' B N st' a' w'→Ext 1 G w G' w'→KK a' w'):wpOp P ops QQ i KK a w:=by
 have h1:Qw P N [it] st K:=FG (Ym (fun _ hs=>Qw.nil hs) h);have h2:=h1 ops [o] (by simp[X9,hc]) G B a w hr (fun e a w=>match e with
  |.normal=>KK a w
  |e=>QQ e a w) (fun G' st' a' w' h1 h2 h3=>hk G' st' a' w' h1 h2 h3)
 unfold wpOp;simp only[hi];unfold wpList at h2;split
 ·rename_i hw;rw[QVq hw]at h2;rcases h2 with h2|h2
  ·left
   unfold Oper.wp at h2 ⊢;generalize (execOp a.eval o).run P w=r at h2 ⊢;cases r with
   |ok n w'=>
    cases n<;>simp only[Oper.upon]at h2 ⊢<;>first
     |exact h2
     |exact Calls.mono h2 (fun e w'' he=>by cases e<;>exact he)
   |halt x w'=>cases x<;>simp only[Oper.upon]at h2 ⊢<;>exact h2
  ·exact .inr h2
 ·rename_i hw;rw[QVp hw]at h2;exact h2

def dflt:Item:=⟨none,.val (.mov (.c .top)),none⟩
def Yn (its:List Item)(l:List Nat):List Item:=l.map fun i=>its.getD i dflt

theorem Mj {its:List Item}{i:Nat}{post:List Nat}{Q:St→Prop}:∀ {pre:List Nat} {st:St},(∀p,p∈pre→UB (its.getD p dflt) (its.getD i dflt)=true)→
  Ql P (Yn its (pre++i :: post)) st Q→X5 P (its.getD i dflt) st fun s=>Ql P (Yn its (pre++post)) s Q
 | [],_,_,h=>h
 |p :: pre,st,hp,h=>by
  have h':X5 P (its.getD p dflt) st fun s=>Ql P (Yn its (pre++i :: post)) s Q:=h
  have h2:=Ym (fun s hs=>Mj (fun q hq=>hp q (QVy _ hq)) hs) h';exact Ci (hp p (QVA ..)) h2

inductive Bef (ops:Array Oper):Nat→Nat→Prop
 |one {i:Nat} {o:Oper} {e:Edge} (ho:ops[i]? = some o) (he:e∈o.after) (hb:Region.binds .any e=true):Bef ops e.on i
 |more {i p:Nat} {o:Oper} {e:Edge} (ho:ops[i]? = some o) (he:e∈o.after) (hb:Region.binds .any e=true) (h:Bef ops p e.on):Bef ops p i

def Cj (acc:List Nat)(m:Nat)(e:Edge):Nat:=if Region.binds .any e then(m ||| 2 ^ e.on) ||| acc.getD e.on 0 else m
def Mk (acc:List Nat)(o:Oper):Nat:=o.after.toList.foldl (Cj acc) 0
def Ck:List Oper→List Nat→List Nat
 | [],acc=>acc
 |o :: os,acc=>Ck os (acc++[Mk acc o])

theorem HV {acc:List Nat}{p:Nat}:∀(l:List Edge) (m:Nat),(l.foldl (Cj acc) m).testBit p=true→m.testBit p=true∨∃e∈l,Region.binds .any e=true∧(p=e.on∨(acc.getD e.on 0).testBit p=true)
 | [],m,h=>.inl h
 |e :: l,m,h=>by
  rw[List.foldl_cons]at h;rcases HV l _ h with h1|⟨e',h1,h2,h3⟩
  ·unfold Cj at h1;split at h1
   ·rename_i hb;rw[Nat.testBit_or,Nat.testBit_or,QWc,QWc]at h1;rcases h1 with(h1|h1)|h1
    ·exact .inl h1
    ·rw[Nat.testBit_two_pow]at h1;exact .inr ⟨e,QVA ..,hb,.inl (of_decide_eq_true h1).symm⟩
    ·exact .inr ⟨e,QVA ..,hb,.inr h1⟩
   ·exact .inl h1
  ·exact .inr ⟨e',QVy _ h1,h2,h3⟩

theorem FQ {ops:Array Oper}:∀(l:List Oper) (acc:List Nat),ops.toList=ops.toList.take acc.length++l→acc.length+l.length=ops.size→(∀i p,(acc.getD i 0).testBit p=true→Bef ops p i)→∀i p,((Ck l acc).getD i 0).testBit p=true→Bef ops p i
 | [],acc,_,_,h=>h
 |o :: l,acc,e,hn,h=>by
  have hlen:acc.length<ops.toList.length:=by simp at hn ⊢;omega
  have hat:ops[acc.length]? = some o:=by
   rw[←QVM,e,QWG (by simp;omega)];simp;have:acc.length-min acc.length ops.size=0:=by simp at hlen;omega
   rw[this];rfl
  refine FQ l (acc++[Mk acc o]) ?_ (by simp at hn ⊢;omega) fun i p hb=>?_
  ·rw[QVU,QWM,List.take_succ_eq_append_getElem hlen,QVC];have:ops.toList[acc.length]=o:=by
    have:=QVl hlen;rw[QVM,hat]at this;cases this;rfl
   rw[this];exact e
  ·rw[List.getD_eq_getElem?_getD]at hb;by_cases hi:i<acc.length
   ·rw[QWF hi,←List.getD_eq_getElem?_getD]at hb;exact h i p hb
   ·by_cases hi2:i=acc.length
    ·subst hi2;rw[QWG (QVi _)]at hb;simp only[Nat.sub_self,QWf,QWo]at hb;rcases HV _ _ hb with h1|⟨e',h1,h2,h3⟩
     ·simp at h1
     ·rcases h3 with rfl|h3
      ·exact .one hat (by simpa using h1) h2
      ·exact .more hat (by simpa using h1) h2 (h _ _ h3)
    ·rw[QWD (by simp;omega)]at hb;simp at hb

def GJ (ops:Array Oper)(its:List Item):Bool :=
 (List.range ops.size).all fun i=>match ops[i]? with
  |some o=>o.after.all (fun e=>!Region.binds .any e||decide (e.on<i))&&(List.range i).all fun p=>((Ck ops.toList []).getD i 0).testBit p||UB (its.getD p dflt) (its.getD i dflt)
  |none=>true

theorem Bef.listed {ops:Array Oper}{L:Nat→Prop}(hcl:∀q,L q→∀o e,ops[q]? = some o→e∈o.after→Region.binds .any e=true→L e.on){p i:Nat}(h:Bef ops p i)(hi:∀o e,ops[i]? = some o→e∈o.after→Region.binds .any e=true→L e.on):L p:=by
 induction h with
 |one ho he hb=>exact hi _ _ ho he hb
 |more ho he hb _ ih=>exact ih (hcl _ (hi _ _ ho he hb))

def unl (n:Nat)(listed:Array Bool):List Nat:=(List.range n).filter fun i=>!listed.getD i true

theorem He {ops:Array Oper}:∀ {l:List Oper} {its:List Item},X9 P N ops l its=true→l.length=its.length∧∀(i:Nat) (o:Oper),l[i]? = some o→YZ P N ops o (its.getD i dflt)=true
 | [],its,h=>by
  cases its with
  |nil=>exact⟨rfl,by simp⟩
  |cons it its=>simp[X9]at h
 |o :: l,its,h=>by
  cases its with
  |nil=>simp[X9]at h
  |cons it its=>
   simp only[X9,QVF]at h;obtain⟨e,h2⟩:=He h.2;refine⟨by simp[e],fun i o' ho=>?_⟩;cases i with
   |zero=>simp at ho;subst ho;exact h.1
   |succ i=>simpa using h2 i o' (by simpa using ho)

theorem Tf {ops:Array Oper}{its:List Item}(hc:X9 P N ops ops.toList its=true)(hd:GJ ops its=true){B:Nat}{Q:St→Prop}{QQ:Exit→Act→World→Prop} :
  ∀(fuel:Nat) (listed:Array Bool),listed.size=ops.size→(∀q,listed.getD q false=true→∀o e,ops[q]? = some o→e∈o.after→Region.binds .any e=true→listed.getD e.on false=true)→(unl ops.size listed).length≤fuel→∀(st:St) (G:Gh) (a:Act) (w:World),Ql P (Yn its (unl ops.size listed)) st Q→Rel G B N st a w→
   (∀G' st' a' w',Q st'→Rel G' B N st' a' w'→Ext 1 G w G' w'→QQ .normal a' w')→wpAny P .any ops QQ fuel listed a w:=by
 obtain⟨hlen,hcs⟩:=He hc;have hready:∀(listed:Array Bool) i,i∈Region.ready .any ops listed→i∈unl ops.size listed:=by
  intro listed i hi;obtain⟨h0,o,ho,_⟩:=mem_ready.1 hi;exact QWN.2 ⟨QWO.2 (QVo.1 ho).1,by simp[h0]⟩
 have hat:∀i,i<ops.size→∃o,ops[i]? = some o∧(∀e∈o.after,Region.binds .any e=true→e.on<i)∧∀p,p<i→Bef ops p i∨UB (its.getD p dflt) (its.getD i dflt)=true:=by
  intro i hi;refine⟨ops[i],QVz hi,?_⟩;have h1:=QVv.1 hd i (QWO.2 hi);rw[QVz hi]at h1;simp only[QVF]at h1;refine⟨fun e he hb=>?_,fun p hp=>?_⟩
  ·have h2:=Array.all_eq_true_iff_forall_mem.1 h1.1 e he
   simpa [hb]using h2
  ·have h2:=QVv.1 h1.2 p (QWO.2 hp);rw[QWc]at h2;rcases h2 with h2|h2
   ·exact .inl (FQ ops.toList [] (by simp) (by simp) (fun i p hb=>by simp at hb) i p h2)
   ·exact .inr h2
 -- the first that is left is ready
 have hfirst:∀(listed:Array Bool),listed.size=ops.size→Region.ready .any ops listed=[]→unl ops.size listed=[]:=by
  intro listed hsz hr;cases hu:unl ops.size listed with
  |nil=>rfl
  |cons i rest=>
   exfalso;have hpw:(unl ops.size listed).Pairwise (· < ·):=List.Pairwise.filter _ List.pairwise_lt_range;have hi:i∈unl ops.size listed:=by rw[hu];exact QVA ..
   obtain⟨K0,hi2⟩:=QWN.1 hi;obtain⟨o,ho,h1,_⟩:=hat i (QWO.1 K0);have:i∈Region.ready .any ops listed:=by
    refine mem_ready.2 ⟨by simpa using hi2,o,ho,fun e he hb=>?_⟩;have hlt:=h1 e he hb;cases hg:listed.getD e.on false with
    |true=>rfl
    |false=>
     have hin:e.on∈unl ops.size listed:=by
      refine QWN.2 ⟨QWO.2 (Nat.lt_trans hlt (QWO.1 K0)),?_⟩;have hlt':e.on<listed.size:=by rw[hsz];exact Nat.lt_trans hlt (QWO.1 K0)
      simp[QVz hlt']at hg ⊢;exact hg
     rw[hu]at hin hpw;rcases QWy.1 hin with e'|e'
     ·omega
     ·have:=(List.pairwise_cons.1 hpw).1 _ e';omega
   rw[hr]at this;cases this
 intro fuel
 induction fuel with
 |zero=>
  intro listed hsz hcl hl st G a w h hr hq;have hu:unl ops.size listed=[]:=QWi (by omega);refine⟨?_,?_⟩
  ·cases hx:Region.ready .any ops listed with
   |nil=>rfl
   |cons i r=>
    have:=hready listed i (by rw[hx];exact QVA ..);rw[hu]at this;cases this
  ·rw[hu]at h;exact hq G st a w h hr (Ext.refl 1 G w)
 |succ fuel ih=>
  intro listed hsz hcl hl st G a w h hr hq;refine⟨fun hx=>?_,fun i hi=>?_⟩
  ·rw[hfirst listed hsz hx]at h;exact hq G st a w h hr (Ext.refl 1 G w)
  ·have hiu:=hready listed i hi;obtain⟨pre,post,hsplit⟩:=List.append_of_mem hiu;have hpw:(unl ops.size listed).Pairwise (· < ·):=List.Pairwise.filter _ List.pairwise_lt_range;rw[hsplit]at h hpw;obtain⟨_,hp2,hp3⟩:=List.pairwise_append.1 hpw;obtain⟨K0,hi2⟩:=QWN.1 hiu;obtain⟨o,ho,h1,h2⟩:=hat i (QWO.1 K0);obtain⟨_,o',ho',h3⟩:=mem_ready.1 hi;rw[ho]at ho';cases ho';have hind:∀p,p∈pre→UB (its.getD p dflt) (its.getD i dflt)=true:=by
    intro p hp;rcases h2 p (hp3 p hp i (QVA ..))with hbef|h
    ·exfalso;have hl1:=hbef.listed (L:=fun q=>listed.getD q false=true) hcl (fun o2 e ho2 he hb=>by rw[ho]at ho2;cases ho2;exact h3 e he hb);have hpu:p∈unl ops.size listed:=by rw[hsplit];exact List.mem_append_left _ hp
     obtain⟨hr1,hr2⟩:=QWN.1 hpu;have hlt':p<listed.size:=by rw[hsz];exact QWO.1 hr1
     simp[QVz hlt']at hl1 hr2;rw[hl1]at hr2;cases hr2
    ·exact h
   have hb:=Mj (P:=P) hind h;have hnext:unl ops.size (listed.setIfInBounds i true)=pre++post:=by
    have e1:unl ops.size (listed.setIfInBounds i true)=(unl ops.size listed).filter fun j=>j != i:=by
     unfold unl;rw[List.filter_filter];refine List.filter_congr fun j hj=>?_
     by_cases hji:j=i
     ·subst hji;have hlt':j<listed.size:=by rw[hsz];exact QWO.1 hj
      simp[hlt']
     ·rw[getD_set_ne true (fun e=>hji e.symm)];simp[hji]
    rw[e1,hsplit,List.filter_append,List.filter_cons];have e2:pre.filter (fun j=>j != i)=pre:=List.filter_eq_self.2 fun j hj=>by
     have:=hp3 j hj i (QVA ..);simp;omega
    have e3:post.filter (fun j=>j != i)=post:=List.filter_eq_self.2 fun j hj=>by
     have:=(List.pairwise_cons.1 hp2).1 j hj;simp;omega
    rw[e2,e3];simp
   have hset:∀q,listed.getD q false=true→(listed.setIfInBounds i true).getD q false=true:=fun q hq'=>by
    by_cases hqi:q=i
    ·subst hqi;have hlt':q<listed.size:=by rw[hsz];exact QWO.1 K0
     simp[hlt']
    ·rw[getD_set_ne false (fun e=>hqi e.symm)];exact hq'
   have hcl':∀q,(listed.setIfInBounds i true).getD q false=true→∀o e,ops[q]? = some o→e∈o.after→Region.binds .any e=true→(listed.setIfInBounds i true).getD e.on false=true:=fun q hq' o2 e ho2 he2 hb2=>by
    by_cases hqi:q=i
    ·subst hqi;rw[ho]at ho2;cases ho2;exact hset _ (h3 e he2 hb2)
    ·rw[getD_set_ne false (fun e=>hqi e.symm)]at hq';exact hset _ (hcl q hq' o2 e ho2 he2 hb2)
   refine Mi ho (hcs i o (by simpa using ho)) hb hr fun G' st' a' w' hk hr' he=>?_
   refine ih (listed.setIfInBounds i true) (by simpa using hsz) hcl' ?_ st' G' a' w' (by rw[hnext];exact hk) hr' fun G2 st2 a2 w2 hq2 hr2 he2=>hq G2 st2 a2 w2 hq2 hr2 (he.trans he2)
   rw[hnext];rw[hsplit]at hl;simp only[QVU,QVx]at hl ⊢;omega

theorem Ml {its:List Item}:Yn its (List.range its.length)=its:=by
 apply List.ext_getElem
 ·simp[Yn]
 ·intro i h1 h2;simp[Yn,h2]

theorem IX {ops:Array Oper}{its:List Item}(hm:P.follows .mixedOrders=true)(hc:X9 P N ops ops.toList its=true)(hd:GJ ops its=true){st:St}{Q:St→Prop}(h:Ql P its st Q){G:Gh}{B:Nat}{a:Act}{w:World}(hr:Rel G B N st a w){QQ:Exit→Act→World→Prop}{id:Nat}
  (hq:∀G' st' a' w',Q st'→Rel G' B N st' a' w'→Ext 1 G w G' w'→QQ .normal a' w'):(Code.region id ops true).wp P QQ a w:=by
 refine wp_region_any hm ?_;have hlen:=(He hc).1;simp only[QVN]at hlen;have hu:unl ops.size (Array.replicate ops.size false)=List.range its.length:=by
  unfold unl;rw[hlen];refine List.filter_eq_self.2 fun i hi=>?_
  simp[QWO.1 hi]
 refine Tf hc hd ops.size (Array.replicate ops.size false) (by simp) (fun q hq'=>by rw[QVs]at hq';simp[Array.getElem?_replicate]at hq';split at hq'<;>cases hq') (by rw[hu];simp[hlen]) st G a _ (by rw[hu,Ml];exact h) hr.drew fun G' st' a' w' h1 h2 h3=>hq G' st' a' w' h1 h2 ((Ext.drew G w).trans h3)

end

def Zg (P:Program)(N:Nat):RC→Code→Bool
 |.gho _ r,c=>Zg P N r c
 |.no,_=>true
 |.skip,c=>match c with
  |.skip=>true
  |_=>false
 |.reg its,c=>match c with
  |.region _ ops false=>X9 P N ops ops.toList its
  |_=>false
 |.draw its,c=>match c with
  |.region _ ops true=>P.follows .mixedOrders&&X9 P N ops ops.toList its&&GJ ops its
  |_=>false
 |.seq a b,c=>match c with
  |.seq x y=>Zg P N a x&&Zg P N b y
  |_=>false
 |.cond r a b,c=>match c with
  |.cond o x y=>QK o r&&Zg P N a x&&Zg P N b y
  |_=>false
 |.block i a,c=>match c with
  |.block j x=>i==j&&Zg P N a x
  |_=>false
 |.loop a,c=>match c with
  |.loop x=>Zg P N a x
  |_=>false
 |.exit i,c=>match c with
  |.exit j=>i==j
  |_=>false
 |.scope a,c=>match c with
  |.scope x=>Zg P N a x
  |_=>false
 |.lab,c=>match c with
  |.label _=>true
  |_=>false
 |.ret,c=>match c with
  |.ret=>true
  |_=>false

section
variable {P:Program}{N B:Nat}

theorem Mm:∀ {rc:RC} {c:Code} {st:St} {Q:Exit→St→Prop},QJ P rc st Q→Zg P N rc c=true→∀ {G:Gh} {a:Act} {w:World},Rel G B N st a w→∀ {QQ:Exit→Act→World→Prop},
  (∀e G' st' a' w',Q e st'→Rel G' B N st' a' w'→Ext 1 G w G' w'→QQ e a' w')→c.wp P QQ a w:=by
 intro rc
 induction rc with
 |skip=>
  intro c st Q h hc G a w hr QQ hq;cases c<;>simp only[Zg,QVB]at hc;exact wp_skip (hq _ _ _ _ _ h hr (Ext.refl 1 G w))
 |reg its=>
  intro c st Q h hc G a w hr QQ hq;cases c<;>simp only[Zg,QVB]at hc;rename_i id ops d;cases d<;>simp only[QVB]at hc;refine wp_region_list ?_;exact NO (N:=N) h ops ops.toList hc G B a w hr QQ fun G' st' a' w' h1 h2 h3=>hq _ _ _ _ _ h1 h2 h3
 |draw its=>
  intro c st Q h hc G a w hr QQ hq;cases c<;>simp only[Zg,QVB]at hc;rename_i id ops d;cases d<;>simp only[QVB,QVF]at hc;exact IX hc.1.1 hc.1.2 hc.2 h hr fun G' st' a' w' h1 h2 h3=>hq _ _ _ _ _ h1 h2 h3
 |seq x y ihx ihy=>
  intro c st Q h hc G a w hr QQ hq;cases c<;>simp only[Zg,QVB,QVF]at hc;refine wp_seq (ihx h hc.1 hr fun e G' st' a' w' h1 h2 h3=>?_);cases e with
  |normal=>exact ihy h1 hc.2 h2 fun e G2 st2 a2 w2 k1 k2 k3=>hq _ _ _ _ _ k1 k2 (h3.trans k3)
  |_=>exact hq _ _ _ _ _ h1 h2 h3
 |cond r x y ihx ihy=>
  intro c st Q h hc G a w hr QQ hq;cases c<;>simp only[Zg,QVB,QVF]at hc;rename_i o cx cy;obtain⟨t,ht,h1,h2⟩:=h;have hv:=Qv hr hc.1.1;rw[ht]at hv;have hv':a.eval o=.bool t:=by
   generalize a.eval o=v at hv;cases hv;rfl
  refine wp_cond_split hv' (fun e=>?_) (fun e=>?_)
  ·exact ihx (h1 e) hc.1.2 hr hq
  ·exact ihy (h2 e) hc.2 hr hq
 |block i x ih=>
  intro c st Q h hc G a w hr QQ hq;cases c<;>simp only[Zg,QVB,QVF,QVG]at hc;obtain⟨rfl,hc⟩:=hc;refine wp_block (ih h hc hr fun e G' st' a' w' h1 h2 h3=>?_);cases e with
  |exit j=>
   simp only[Exit.inBlock];simp only[Kb]at h1;split
   ·rename_i hh;rw[QVq hh]at h1;exact hq _ _ _ _ _ h1 h2 h3
   ·rename_i hh;rw[QVp hh]at h1;exact hq _ _ _ _ _ h1 h2 h3
  |_=>exact hq _ _ _ _ _ h1 h2 h3
 |loop x ih=>
  intro c st Q h hc G a w hr QQ hq;cases c<;>simp only[Zg,QVB]at hc;obtain⟨I,n,h0,hI⟩:=h;refine wp_loop_ghost (fun k a' w'=>∃G' st',I k st'∧Rel G' B N st' a' w'∧Ext 1 G w G' w') n ⟨G,st,h0,hr,Ext.refl 1 G w⟩ ?_;rintro k a' w' ⟨G',st',i1,i2,i3⟩;refine ih (hI k st' i1) hc i2 fun e G2 st2 a2 w2 h1 h2 h3=>?_
  cases e with
  |normal=>
   obtain⟨k',hk,hi⟩:=h1;exact⟨k',hk,G2,st2,hi,h2,i3.trans h3⟩
  |_=>exact hq _ _ _ _ _ h1 h2 (i3.trans h3)
 |exit i=>
  intro c st Q h hc G a w hr QQ hq;cases c<;>simp only[Zg,QVB,QVG]at hc;subst hc;exact wp_exit (hq _ _ _ _ _ h hr (Ext.refl 1 G w))
 |scope x ih=>
  intro c st Q h hc G a w hr QQ hq;cases c<;>simp only[Zg,QVB]at hc;refine wp_scope_straight (ih h hc hr fun e G' st' a' w' h1 h2 h3=>?_);cases e with
  |goto l=>exact h1.elim
  |_=>exact hq _ _ _ _ _ h1 h2 h3
 |lab=>
  intro c st Q h hc G a w hr QQ hq;cases c<;>simp only[Zg,QVB]at hc;exact wp_label (hq _ _ _ _ _ h hr (Ext.refl 1 G w))
 |ret=>
  intro c st Q h hc G a w hr QQ hq;cases c<;>simp only[Zg,QVB]at hc;exact wp_ret (hq _ _ _ _ _ h hr (Ext.refl 1 G w))
 |gho g x ih=>
  intro c st Q h hc G a w hr QQ hq;obtain⟨st',hg,h⟩:=h;obtain⟨G',h1,h2⟩:=Tb hr hg;exact ih h hc h1 fun e G2 st2 a2 w2 k1 k2 k3=>hq _ _ _ _ _ k1 k2 (h2.trans k3)
 |no=>
  intro c st Q h;exact h.elim

theorem MR.out {G:Gh}{fr:Nat→Ob}{m:Qo}{w:World}(h:MR G (fr :: m) w){S:Nat→Prop}(hS:∀b,S b→(∃s,G.vm 0 s=some b)∨∃s,G.nm 0 s=some b):MR ((G.pub w S).dn 1) m w:=by
 have hnS:∀l s b,G.nm (l+1) s=some b→¬S b:=fun l s b e hs=>by
  rcases hS b hs with⟨s',e'⟩|⟨s',e'⟩
  ·exact h.inj3 _ _ _ _ _ e e'
  ·have:=(h.inj1 _ _ _ _ _ e e').1;omega
 have hvS:∀l s b,G.vm (l+1) s=some b→¬S b:=fun l s b e hs=>by
  rcases hS b hs with⟨s',e'⟩|⟨s',e'⟩
  ·have:=(h.inj2 _ _ _ _ _ e e').1;omega
  ·exact h.inj3 _ _ _ _ _ e' e
 have hgle:Gle G (G.pub w S):=Gh.pub_gle h.stab;refine⟨fun b o v e=>?_,fun l s xs e=>?_,fun l s b e=>?_,fun l s g sz xs e=>?_,fun l s b e=>?_,fun l s e=>?_,fun l s l' s' b e e'=>?_,fun l s l' s' b e e'=>?_,fun l s l' s' b e e'=>?_,fun l s t p e=>h.iter (l+1) s t p e⟩
 ·have e:(G.pub w S).stab b o=some v:=e;by_cases hs:S b∧∀o,ZM b o=none
  ·rw[Gh.pub_c hs]at e;exact Hy e
  ·rw[Gh.pub_n hs]at e;exact h.stab b o v e
 ·obtain⟨b,cs,e',hc,hr⟩:=h.cells (l+1) s xs e;refine⟨b,cs,e',hc,?_⟩;rw[Gh.dn_dn];exact hr.mono (hgle.dn (l+1))
 ·obtain⟨h1,h2⟩:=h.nm (l+1) s b e;refine⟨h1,fun o=>?_⟩;show(G.pub w S).stab b o=none;rw[Gh.pub_out (hnS _ _ _ e)];exact h2 o
 ·obtain⟨a1,a2,a3,a4⟩:=h.vec (l+1) s g sz xs e;exact⟨a1,a2,a3,a4.imp id fun⟨b,e',r⟩=>⟨b,e',r.of rfl fun vs hv=>RepL.rfd (G:=G) (G':=(G.pub w S).dn 1) hgle.stab a3.rf hv⟩⟩
 ·obtain⟨h1,h2⟩:=h.vm (l+1) s b e;refine⟨h1,fun o=>?_⟩;show(G.pub w S).stab b o=none;rw[Gh.pub_out (hvS _ _ _ e)];exact h2 o
 ·exact h.gone (l+1) s e
 ·obtain⟨h1,h2⟩:=h.inj1 _ _ _ _ _ e e';exact⟨by omega,h2⟩
 ·obtain⟨h1,h2⟩:=h.inj2 _ _ _ _ _ e e';exact⟨by omega,h2⟩
 ·exact h.inj3 _ _ _ _ _ e e'

def Zi (rs:List RR)(n:Nat)(R:AV→Qo→Prop):Exit→St→Prop:=fun e st=>
 (e=.normal∨e=.ret)∧st.ds=[]∧∃x y fr m,Wg st rs=some x∧Ww st.m x=some y∧st.m=fr :: m∧m.length=n∧R y m

theorem NE {G:Gh}{args:List AV}{vs:List Value}(h:RepL G args vs){N:Nat}(i:Nat):Rep G.up (Cd (AV.shL args) i) (((vs.toArray++Array.replicate (N-vs.toArray.size) undef):Array Value).getD i undef):=by
 have h':RepL G.up (AV.shL args) vs:=RepL.sh (G:=G.up) (by rw[Gh.up_dn];exact h);have hl:=h'.length;unfold Cd;by_cases hi:i<vs.length
 ·obtain⟨x,e,hx⟩:=h'.back (QVl hi);rw[e];simp only[QWo,QVs];rw[Array.getElem?_append_left (by simpa using hi)]
  simpa [hi]using hx
 ·rw[QWD (by omega)];simp only[QWP,QVs];rw[Array.getElem?_append_right (by simpa using hi)];cases hx:(Array.replicate (N-vs.toArray.size) undef)[i-vs.toArray.size]? with
  |none=>exact .tup .nil
  |some v=>
   have:=QVo.1 hx;obtain⟨_,h2⟩:=this;simp at h2;subst h2;exact .tup .nil

theorem Dw {fn:Func}{args:List AV}{m:Qo}{G:Gh}{w:World}{vs:List Value}(hvs:RepL G args vs)(hm:MR G m w)(hN:fn.ntmps=N)(ha:args.length≤N) :
  Rel G.up w.heap.size N (St.enter args m) { tmps:=vs.toArray++Array.replicate (fn.ntmps-vs.toArray.size) undef,defers:=[] } w:=by
 have hlen:=hvs.length;refine⟨hm.up,?_,fun i=>NE hvs i,.nil,fun s b e=>?_,QVi _,by simp[St.enter]⟩
 ·simp;omega
 ·rcases e with e|e<;>cases e

theorem NP {fn:Func}{rs:List RR}{G G':Gh}{m m':Qo}{w w':World}{st':St}{a':Act}{fr:Nat→Ob}{x y:AV}{R:AV→Qo→Prop}(hr:JB P fn.results.toList rs=true)(hr':Rel G' w.heap.size N st' a' w')(he:Ext 1 G.up w G' w')
  (hx:Wg st' rs=some x) (hy:Ww st'.m x=some y) (hst:st'.m=fr :: m') (hml:m'.length=m.length) (hR:R y m') :
  ∃v,(results fn a'.tmps).run P w'=.ok v w'∧(∃G'' x v' m'',(Ending.returned v)=.returned v'∧R x m''∧Rep G'' x v'∧MR G'' m'' w'∧Ext 0 G w G'' w'∧m''.length=m.length):=by
 obtain⟨v,hrun,hv⟩:=IS (P:=P) hr' hr hx
 let S:Nat→Prop:=fun b=>(∃s,G'.vm 0 s=some b)∨∃s,G'.nm 0 s=some b
 have hmr:=hr'.mr;have hSt:∀l s b,(true&&l != 0)=false→G'.vm l s=some b→S b:=by
  intro l s b hl e;have:l=0:=by simpa using hl
  subst this;exact .inl ⟨s,e⟩
 unfold Ww at hy;rw[Option.bind_eq_some_iff]at hy;obtain⟨z,hz,hy⟩:=hy;have hv2:=Rep.un (Ha hmr (own:=true) (S:=S) hSt (fun _ s b _ _ _ e _=>.inr ⟨s,e⟩) hv z hz) y hy;rw[hst]at hmr;have hout:=hmr.out (S:=S) (fun b hs=>hs);have hmine:∀b,((G'.pub w' S).dn 1).mine b→G'.mine b:=by
  rintro b (⟨l,s,e⟩|⟨l,s,e⟩)
  ·exact .inl ⟨l+1,s,e⟩
  ·exact .inr ⟨l+1,s,e⟩
 have hext:Ext 0 G w ((G'.pub w' S).dn 1) w':=by
  refine⟨he.os,he.tape,he.output,he.size,fun b o v e=>?_,fun l s _=>he.nm (l+1) s (by omega),fun l s=>he.vg (l+1) s,fun l s e=>he.vs (l+1) s e,fun b hb hnm=>?_,fun b hb=>?_,fun l s b e=>?_⟩
  ·exact(Gh.pub_gle (S:=S) hr'.mr.stab).stab b o v (he.stab b o v e)
  ·obtain⟨h1,h2⟩:=he.old b hb (fun hx=>hnm (Gh.up_mine.1 hx));refine⟨h1,fun o=>?_⟩;have hnS:¬S b:=by
    rintro(⟨s,e⟩|⟨s,e⟩)
    ·have:=hr'.base s b (.inr e);omega
    ·have:=hr'.base s b (.inl e);omega
   show(G'.pub w' S).stab b o=G.stab b o;rw[Gh.pub_out hnS];exact h2 o
  ·rcases he.mine b (hmine b hb)with h1|h1
   ·exact .inl (Gh.up_mine.1 h1)
   ·exact .inr h1
  ·rcases he.mv (l+1) s b e with⟨i,t,hi,h1⟩|h1
   ·cases i with
    |zero=>cases h1
    |succ i=>exact .inl ⟨i,t,by omega,h1⟩
   ·exact .inr h1
 exact⟨v,hrun,_,y,v,m',rfl,hR,hv2,hout,hext,hml⟩

theorem YK {k:FuncId} {fn:Func} {c:Code} {rc:RC} {rs:List RR} {args:List AV} {m:Qo} {R:AV→Qo→Prop} (hf:P.funcs[k]? = some fn) (hb:fn.body=some c) (hn:(fn.name == "runtime.NumGoroutine")=false) (hN:fn.ntmps=N) (hc:Zg P N rc c=true) (hr:JB P fn.results.toList rs=true)
  (ha:args.length≤N) (h:QJ P rc (St.enter args m) (Zi rs m.length R)):Qp P k args m R:=by
 refine⟨⟨fn,hf,hn,by rw[hb];rfl⟩,fun G w vs hvs hm=>?_⟩;refine calls_of_wp hf hb ?_;refine Mm h hc (Dw hvs hm hN ha) fun e G' st' a' w' hq hr' he=>?_
 obtain⟨hex,hds,x,y,fr,m',hx,hy,hst,hml,hR⟩:=hq;have hdef:a'.defers=[]:=by
  have:=hr'.ds;rw[hds]at this;cases hd:a'.defers with
  |nil=>rfl
  |cons d l=>rw[hd]at this;cases this
 have hfin:=NP (R:=R) hr hr' he hx hy hst hml hR;rcases hex with rfl|rfl
 ·exact⟨hdef,hfin⟩
 ·exact⟨hdef,hfin⟩

def WV (P:Program)(k:FuncId)(args:List AV)(m:Qo)(R:AV→Qo→Prop):Prop :=
 Yl P k∧∀(G:Gh) (w:World) (vs:List Value),RepL G args vs→MR G m w→∀u,CallsD P k ⟨vs⟩ u w fun e u' w'=>u'=u∧∃G' x v m',e=.returned v∧R x m'∧Rep G' x v∧MR G' m' w'∧Ext 0 G w G' w'∧m'.length=m.length

theorem GK {k:FuncId} {fn:Func} {c:Code} {rc:RC} {rs:List RR} {args:List AV} {m:Qo} {R:AV→Qo→Prop} (hf:P.funcs[k]? = some fn) (hb:fn.body=some c) (hn:(fn.name == "runtime.NumGoroutine")=false) (hN:fn.ntmps=N) (hc:Zg P N rc c=true) (hr:JB P fn.results.toList rs=true)
  (ha:args.length≤N) (h:QJ P rc (St.enter args m) (Zi rs m.length R)):WV P k args m R:=by
 refine⟨⟨fn,hf,hn,by rw[hb];rfl⟩,fun G w vs hvs hm u=>?_⟩;refine callsD_of_wp (R:=fun e w'=>∃G' x v m',e=.returned v∧R x m'∧Rep G' x v∧MR G' m' w'∧Ext 0 G w G' w'∧m'.length=m.length) hf hb ?_;refine Mm h hc (Dw hvs hm hN ha) fun e G' st' a' w' hq hr' he=>?_
 obtain⟨hex,hds,x,y,fr,m',hx,hy,hst,hml,hR⟩:=hq;have hdef:a'.defers=[]:=by
  have:=hr'.ds;rw[hds]at this;cases hd:a'.defers with
  |nil=>rfl
  |cons d l=>rw[hd]at this;cases this
 have hfin:=NP (R:=R) hr hr' he hx hy hst hml hR;rcases hex with rfl|rfl
 ·exact⟨hdef,hfin⟩
 ·exact⟨hdef,hfin⟩

end

def CK (P:Program)(k N:Nat)(rc:RC)(rs:List RR):Prop :=
 ∃fn c, P.funcs[k]? = some fn∧fn.body=some c∧(fn.name == "runtime.NumGoroutine")=false∧fn.ntmps=N∧Zg P N rc c=true∧JB P fn.results.toList rs=true
theorem CK.go {P:Program}{k N:Nat}{rc:RC}{rs:List RR}{args:List AV}{m:Qo}{R:AV→Qo→Prop}(h:CK P k N rc rs)(ha:args.length≤N)(w:QJ P rc (St.enter args m) (Zi rs m.length R)):Qp P k args m R:=by
 obtain⟨fn,c,h1,h2,h3,h4,h5,h6⟩:=h;exact YK h1 h2 h3 h4 h5 h6 ha w
theorem ck {P:Program} {k N:Nat} {fn:Func} {rc:RC} {rs:List RR} (hf:P.funcs[k]? = some fn) (hN:fn.ntmps=N) (h:(fn.body.isSome && !(fn.name == "runtime.NumGoroutine")&&Zg P N rc (fn.body.getD .skip)&&JB P fn.results.toList rs)=true):CK P k N rc rs := by
 simp only[QVF,QV9,QVK]at h;obtain⟨⟨⟨⟨c,hc⟩,h1⟩,h2⟩,h3⟩:=h;rw[hc]at h2;exact⟨fn,c,hf,hc,h1,hN,h2,h3⟩
theorem CK.dd {P:Program}{k N:Nat}{rc:RC}{rs:List RR}{args:List AV}{m:Qo}{R:AV→Qo→Prop}(h:CK P k N rc rs)(ha:args.length≤N)(w:QJ P rc (St.enter args m) (Zi rs m.length R)):WV P k args m R:=by
 obtain⟨fn,c,h1,h2,h3,h4,h5,h6⟩:=h;exact GK h1 h2 h3 h4 h5 h6 ha w
theorem CK.rl {P:Program}{k N:Nat}{rc:RC}{rs:List RR}{args:List AV}{R:AV→Prop}(h:CK P k N rc rs)(ha:args.length≤N)(w:QJ P rc (St.enter args []) (Zi rs 0 fun x _=>R x)):Fn? P k args R:=h.go ha w
theorem CK.fn {P:Program}{k N:Nat}{rc:RC}{rs:List RR}{args:List AV}{v:AV}(h:CK P k N rc rs)(ha:args.length≤N)(w:QJ P rc (St.enter args []) (Zi rs 0 fun x _=>x=v)):Qj P k args v:=h.go ha w

section
variable {P:Program}{f:Fr}{m:Qo}{ds:List DF}{K:St→Prop}{Q:Exit→St→Prop}{its:List Item}{d:Nat}

def Kc (P:Program)(b:RC)(Q:Exit→St→Prop):Exit→St→Prop:=Ks (fun st'=>QJ P b st' Q) Q
def Kl (I:Nat→St→Prop)(n:Nat)(Q:Exit→St→Prop):Exit→St→Prop:=Ks (fun s=>∃k,k<n∧I k s) Q

theorem Qc1 {st:St}:QJ P .skip st Q=Q .normal st:=id rfl
theorem QMs {st:St}:QJ P .no st Q=False:=id rfl
theorem QAf {st:St}:QJ P .lab st Q=Q .normal st:=id rfl
theorem QAg {st:St}:QJ P .ret st Q=Q .ret st:=id rfl
theorem Qc2 {st:St}{i:Nat}:QJ P (.exit i) st Q=Q (.exit i) st:=id rfl
theorem QAh {st:St}:QJ P (.reg its) st Q=Ql P its st (Q .normal):=id rfl
theorem Qc3 {st:St}:QJ P (.draw its) st Q=Ql P its st (Q .normal):=id rfl
theorem QAi {st:St}{a b:RC}:QJ P (.seq a b) st Q=QJ P a st (Kc P b Q):=id rfl
theorem IY {st:St}{i:Nat}{a:RC}:QJ P (.block i a) st Q=QJ P a st (Kb i Q):=id rfl
theorem IZ {st:St}{a:RC}:QJ P (.scope a) st Q=QJ P a st (Kg Q):=id rfl
def GL:AV→Bool
 |.bool b=>b
 |_=>false
def Mn:AV→Prop
 |.bool _=>True
 |_=>False
theorem Qc4 (b:Bool):GL (.bool b)=b:=id rfl
theorem QAj (b:Bool):Mn (.bool b)=True:=id rfl
def Hf (P:Program)(v:AV)(a b:RC)(st:St)(Q:Exit→St→Prop):Prop:=Mn v∧(GL v=true→QJ P a st Q)∧(GL v=false→QJ P b st Q)
theorem Tg {a b:RC}{st:St}:Hf P (.bool true) a b st Q=QJ P a st Q:=by simp[Hf,Mn,GL]
theorem Th {a b:RC}{st:St}:Hf P (.bool false) a b st Q=QJ P b st Q:=by simp[Hf,Mn,GL]
theorem Zb {t:Bool}{a b:RC}{st:St}(h1:t=true→QJ P a st Q)(h2:t=false→QJ P b st Q):Hf P (.bool t) a b st Q:=⟨trivial,h1,h2⟩
theorem Qc5 {c:RA}{a b:RC}:QJ P (.cond c a b) ⟨f,m,ds⟩ Q=Hf P (c.ev f) a b ⟨f,m,ds⟩ Q:=by
 simp only[QJ,Hf];generalize c.ev f=v;cases v<;>simp[GL,Mn]

theorem Qc6 {b:RC}{st:St}:Kc P b Q .normal st=QJ P b st Q:=id rfl
theorem Qc7 {b:RC}{st:St}{i:Nat}:Kc P b Q (.exit i) st=Q (.exit i) st:=id rfl
theorem Qc8 {b:RC}{st:St}:Kc P b Q .ret st=Q .ret st:=id rfl
theorem Qc9 {st:St}{i:Nat}:Kb i Q .normal st=Q .normal st:=id rfl
theorem Qda {st:St}{i j:Nat}:Kb i Q (.exit j) st=if j=i then Q .normal st else Q (.exit j) st:=id rfl
theorem Qdb {st:St}{i:Nat}:Kb i Q .ret st=Q .ret st:=id rfl
theorem Qdc {st:St}:Kg Q .normal st=Q .normal st:=id rfl
theorem Qdd {st:St}{j:Nat}:Kg Q (.exit j) st=Q (.exit j) st:=id rfl
theorem Qde {st:St}:Kg Q .ret st=Q .ret st:=id rfl
theorem Qdf {I:Nat→St→Prop}{n:Nat}{st:St}:Kl I n Q .normal st = ∃k,k<n∧I k st:=id rfl
theorem Qdg {I:Nat→St→Prop}{n:Nat}{st:St}{j:Nat}:Kl I n Q (.exit j) st=Q (.exit j) st:=id rfl
theorem Qdh {I:Nat→St→Prop}{n:Nat}{st:St}:Kl I n Q .ret st=Q .ret st:=id rfl

theorem Qf {a:RC}{st:St}(I:Nat→St→Prop)(n:Nat)(h0:I n st)(h:∀n st',I n st'→QJ P a st' (Kl I n Q)):QJ P (.loop a) st Q:=⟨I,n,h0,h⟩

theorem QAk {st:St}:Ql P [] st K=K st:=id rfl
def Hg (x:Option AV):AV:=x.getD .top
def FR (x:Option AV):Prop:=x.isSome=true
theorem FS (x:AV):Hg (some x)=x:=id rfl
theorem QAl (x:AV):FR (some x)=True:=by simp[FR]
theorem QAm {vo:VO}:Ql P (⟨some d,.val vo,none⟩ :: its) ⟨f,m,ds⟩ K=(FR (QH f m vo)∧Ql P its ⟨Qn f d (Hg (QH f m vo)),m,ds⟩ K):=by
 simp only[Ql,X5,YJ,Qm];generalize QH f m vo=v;cases v<;>simp[Hg,FR]

def mget (x:Option Qo):Qo:=x.getD []
def NQ (x:Option Qo):Prop:=x.isSome=true
theorem Qdi (x:Qo):mget (some x)=x:=id rfl
theorem QAn (x:Qo):NQ (some x)=True:=by simp[NQ]
theorem I0 {n:Nat}{p r:RA}:Ql P (⟨none,.store n p r,none⟩ :: its) ⟨f,m,ds⟩ K=((r.ev f).cells.length=n∧(r.ev f).cells.all AV.leaf=true∧NQ (Xb m (p.ev f) (r.ev f).cells)∧Ql P its ⟨f,mget (Xb m (p.ev f) (r.ev f).cells),ds⟩ K):=by
 simp only[Ql,X5,YJ,Qm];generalize Xb m (p.ev f) (r.ev f).cells=v;cases v<;>simp[mget,NQ]
def Ti (l s:Nat)(v:AV):Prop:=∃o,v=.ptr l s o
theorem Qdj (l s o:Nat):Ti l s (.ptr l s o)=True:=eq_true ⟨o,rfl⟩
theorem Tj {l s n:Nat}{p r:RA}:Ql P (⟨none,.storev l s n p r,none⟩ :: its) ⟨f,m,ds⟩ K=(Ti l s (p.ev f)∧(r.ev f).cells.length=n∧(r.ev f).cells.all AV.leaf=true∧NQ (Xb m (p.ev f) (r.ev f).cells)∧Ql P its ⟨f,mget (Xb m (p.ev f) (r.ev f).cells),ds⟩ K):=by
 simp only[Ql,X5,YJ,Qm,Ti];generalize Xb m (p.ev f) (r.ev f).cells=v;cases v<;>simp[mget,NQ]
theorem Tk {s:Nat}{z:List AV}:Ql P (⟨some d,.allocN s z,none⟩ :: its) ⟨f,m,ds⟩ K=(XQ m s=true∧Ql P its ⟨Qn f d (.ptr 0 s 0),Am.put m 0 s (.cells z),ds⟩ K):=id rfl
theorem Qdk {s:Nat}{r:RA}:Ql P (⟨some d,.boxN s r,none⟩ :: its) ⟨f,m,ds⟩ K=(XQ m s=true∧(r.ev f).cells.all AV.leaf=true∧Ql P its ⟨Qn f d (.ptr 0 s 0),Am.put m 0 s (.cells (r.ev f).cells),ds⟩ K):=id rfl

theorem Cl {sz len:Nat}{z:List AV}{ps:List (Nat×Nat×RA)}{y:List AV}(hy:fill f ps (Xt z sz len)=some y)(h1:AV.rfL y=true)(h2:y.all AV.leaf=true):Ql P (⟨some d,.bsl sz len z ps,none⟩ :: its) ⟨f,m,ds⟩ K=Ql P its ⟨Qn f d (.list (XP sz len (y.map nn0))),m,ds⟩ K:=by
 apply propext
 constructor
 ·rintro⟨y',h,_,_,k⟩;have h:fill f ps (Xt z sz len)=some y':=h;rw[hy]at h;cases h;exact k
 ·intro k;exact⟨y,hy,h1,h2,k⟩
theorem Qdl {z:AV}{r:RA}{k:IntKind}{n:Int}(hr:r.ev f=.int k n):Ql P (⟨some d,.bsl 1 1 [z] [(0,1,r)],none⟩ :: its) ⟨f,m,ds⟩ K=Ql P its ⟨Qn f d (.list [.int k n]),m,ds⟩ K:=by
 refine Cl (y:=[.int k n]) ?_ rfl rfl;simp[fill,hr,AV.cells,AV.leaf,Xt,List.range_succ,splice]

theorem Dx {z:AV}{r:RA}{k:IntKind}{n:Int}(hr:r.ev f=.int k n)(h:Ql P its ⟨Qn f d (.list [.int k n]),m,ds⟩ K):Ql P (⟨some d,.bsl 1 1 [z] [(0,1,r)],none⟩ :: its) ⟨f,m,ds⟩ K:=by
 rw[Qdl hr];exact h

theorem QM {sz:Nat}{z l:List AV}{r:RA}(hr:r.ev f=.agg l)(hl:l.length=sz)(h1:sz≠1)(hf:AV.rfL l=true)(hlf:l.all AV.leaf=true)(h:Ql P its ⟨Qn f d (.list [.agg (l.map nn0)]),m,ds⟩ K) :
  Ql P (⟨some d,.bsl sz 1 z [(0,sz,r)],none⟩ :: its) ⟨f,m,ds⟩ K:=by
 have hz:(Xt z sz 1).length=sz:=by simp[Xt]
 have hy:fill f [(0,sz,r)] (Xt z sz 1)=some l:=by
  simp only[fill,hr,AV.cells,hl,hlf,QVH,hz,QVi,QWh,if_true,splice,QWm,QVE];rw[QVT (by omega),QWg]
 rw[Cl hy hf hlf];have hc:XP sz 1 (l.map nn0)=[.agg (l.map nn0)]:=by
  simp only[XP,QVp h1];rw[QVQ (by rw[QWE];omega)]
 rw[hc];exact h

theorem WV.mono {k:FuncId}{args:List AV}{m:Qo}{R R':AV→Qo→Prop}(h:WV P k args m R)(hr:∀x m',R x m'→R' x m'):WV P k args m R' :=
 ⟨h.1,fun G w vs h1 h2 u c cs hu=>by
  obtain⟨e,u',w',fr,⟨h3,G',x,v,m',h4,h5,h6⟩,h7⟩:=h.2 G w vs h1 h2 u c cs hu;exact⟨e,u',w',fr,⟨h3,G',x,v,m',h4,hr _ _ h5,h6⟩,h7⟩⟩

theorem Zv {slot site sz:Nat}{a:RC}{fr:Nat→Ob}(h1:f slot=.nils)(h2:fr site=.none)(h:QJ P a ⟨Qn f slot (.vec 0 site 1 0 0 false),Qn fr site (.vec 1 sz []) :: m,ds⟩ Q):QJ P (.gho (.vec slot site sz) a) ⟨f,fr :: m,ds⟩ Q:=by
 refine⟨_,?_,h⟩;have e:Qe (fr :: m) 0 site=.none:=h2;simp[Zx,h1,e,Qr,QD,Am.put]

theorem QI {sz bytes el:Nat}{s r:RA}{site g n:Nat}{fr:Nat→Ob}{xs ys:List AV}(hs:s.ev f=.vec 0 site g 0 n false)(hl:fr site=.vec g sz xs)(ht:XC site el=true)(hn:n=xs.length)(hr:r.ev f=.list ys)(hz:ys.all (fun e=>e.cells.length==sz)=true)(hm:n+ys.length≤maxLen)(hb:(n+ys.length)*bytes≤140737488355328)
  (h:Ql P its ⟨Qn f d (.vec 0 site (g+1) 0 (n+ys.length) false),Qn fr site (.vec (g+1) sz (xs++ys)) :: m,ds⟩ K):Ql P (⟨some d,.app sz bytes el s r,none⟩ :: its) ⟨f,fr :: m,ds⟩ K:=by
 refine⟨0,site,g,n,xs,ys,hs,hl,ht,by omega,?_,hz,hm,hb,?_⟩
 ·show Xj (fr :: m) (r.ev f)=some ys;rw[hr];rfl
 ·subst hn;rw[QWQ];exact h

theorem Xe {k:Nat}{args:List RA}{ys:List AV}{v:AV}(hk:Qj P k ys v)(hy:AV.stillL false m (args.map (RA.ev f))=some ys)(h1:AV.rfL ys=true)(h2:v.rf=true)(h3:AV.rfL (args.map (RA.ev f))=true∨v.nl=true)(h:Ql P its ⟨Qn f d v,m,ds⟩ K) :
  Ql P (⟨some d,.call (.f k) args,none⟩ :: its) ⟨f,m,ds⟩ K:=by
 refine⟨k,[],[],ys,v,rfl,?_,h1,hk,h2,?_,h⟩
 ·simpa using hy
 ·simpa using h3

theorem aC {k:Nat}{args:List RA}{ys:List AV}{v:AV}(hk:Qj P k ys v)(h:Ql P its ⟨Qn f d v,m,ds⟩ K)(hy:AV.stillL false m (args.map (RA.ev f))=some ys:=by rfl)(h1:AV.rfL ys=true:=by rfl)(h2:v.rf=true:=by rfl)(h3:AV.rfL (args.map (RA.ev f))=true∨v.nl=true:=by exact .inl rfl) :
  Ql P (⟨some d,.call (.f k) args,none⟩ :: its) ⟨f,m,ds⟩ K:=Xe hk hy h1 h2 h3 h

theorem NR {cnt:Bool}{k:Nat}{s c:RA}{t:List UInt8}{b:Int}(hs:s.ev f=.str t)(hb:c.ev f=.int .u8 b)(h:Ql P its ⟨Qn f d (.int .i64 (HP cnt t b)),m,ds⟩ K):Ql P (⟨some d,.xb cnt k s c,none⟩ :: its) ⟨f,m,ds⟩ K :=
 ⟨t,b,hs,hb,h⟩

theorem Dy {s:Nat}{r:RA}{fr:Nat→Ob}{t:List UInt8}(ht:r.ev f=.str t)(hn:fr s=.none)(h:Ql P its ⟨Qn f d (.ptr 0 s 0),Qn fr s (.iter (.str t) 0) :: m,ds⟩ K) :
  Ql P (⟨some d,.rngs s r,none⟩ :: its) ⟨f,fr :: m,ds⟩ K:=by
 refine⟨t,ht,?_,h⟩;show(match fr s with|.none=>true|_=>false)=true;rw[hn]

theorem Dz {s p:Nat}{r:RA}{fr:Nat→Ob}{t:List UInt8}(hr:r.ev f=.ptr 0 s 0)(hl:fr s=.iter (.str t) p)
  (h1:p<t.length→Ql P its ⟨Qn f d (.tup [.bool true,.int .i64 (p:Nat),.int .i32 ((Xz t p).1:Nat)]),Qn fr s (.iter (.str t) (p+(Xz t p).2)) :: m,ds⟩ K)
  (h2:t.length≤p→Ql P its ⟨Qn f d (.tup [.bool false]),fr :: m,ds⟩ K) :
  Ql P (⟨some d,.nxts r,none⟩ :: its) ⟨f,fr :: m,ds⟩ K :=
 ⟨0,s,t,p,hr,hl,h1,h2⟩

theorem Qc {k:Nat}{args:List RA}{ys:List AV}{v:AV}{m':Qo}(hk:Qp P k ys m fun x m1=>x=v∧m1=m')(hy:args.map (RA.ev f)=ys)(h:Ql P its ⟨Qn f d v,m',ds⟩ K) :
  Ql P (⟨some d,.callF (.f k) args,none⟩ :: its) ⟨f,m,ds⟩ K:=by
 refine⟨k,[],[],v,m',rfl,?_,h⟩;show Qp P k (args.map (RA.ev f)++[]) m fun x m1=>x=v∧m1=m'
 rw[QWg,hy];exact hk

theorem NS {site el sz bytes:Nat}{z:List AV}{l c:RA}{kl kc:IntKind}{n k:Nat}{fr:Nat→Ob}(hl:l.ev f=.int kl (n:Int))(hc:c.ev f=.int kc (k:Int))(hnk:n≤k)(hk:k≤9223372036854775807)(hb:bytes*k≤281474976710656)(hs:fr site=.none)
  (h:Ql P its ⟨Qn f d (.vec 0 site 1 0 n false),Qn fr site (.vec 1 sz (List.replicate n (Km sz z))) :: m,ds⟩ K):Ql P (⟨some d,.mk site el sz bytes z l c,none⟩ :: its) ⟨f,fr :: m,ds⟩ K:=by
 have e:Qe (fr :: m) 0 site=.none:=hs;refine⟨kl,kc,n,k,hl,hc,hnk,hk,hb,?_,?_⟩
 ·show Qr (Qe (fr :: m) 0 site)=true;rw[e];rfl
 ·have hg:QD (fr :: m) 0 site=1:=by unfold QD;rw[e]
  simp only[hg];exact h

theorem Mo {s:Nat}{a:RC}{fr:Nat→Ob}:QJ P (.gho (.drop s) a) ⟨f,fr :: m,ds⟩ Q=((fr s).isRow=false∧QJ P a ⟨fun i=>(f i).scrub s,Qn (fun i=>(fr i).scrub s) s .none :: m,ds.map (DF.scrub s)⟩ Q):=by
 apply propext
 have hn:Yf (fr :: m) s=!(fr s).isRow:=by
  unfold Yf;show(match fr s with|.vec .. => false|_=>true)=_;cases fr s<;>rfl
 constructor
 ·rintro⟨st',h1,h2⟩;simp only[Zx,hn]at h1;cases hr:(fr s).isRow with
  |true=>rw[hr]at h1;cases h1
  |false=>rw[hr]at h1;cases h1;exact⟨rfl,h2⟩
 ·rintro⟨h1,h2⟩;refine⟨_,?_,h2⟩;simp only[Zx,hn,h1];rfl
theorem Mp (s:Nat):AV.top.scrub s=.top:=id rfl
theorem Mq (s:Nat)(k:IntKind)(n:Int):(AV.int k n).scrub s=.int k n:=id rfl
theorem Cm (s:Nat)(b:Bool):(AV.bool b).scrub s=.bool b:=id rfl
theorem Mr (s:Nat)(b:List UInt8):(AV.str b).scrub s=.str b:=id rfl
theorem Cn (s:Nat):AV.nils.scrub s=.nils:=id rfl
theorem Co (s:Nat):AV.nilp.scrub s=.nilp:=id rfl
theorem Cq (s:Nat):AV.nili.scrub s=.nili:=id rfl
theorem Cr (s:Nat):AV.nilf.scrub s=.nilf:=id rfl
theorem Cs (s:Nat)(l:List AV):(AV.list l).scrub s=.list l:=id rfl
theorem Ms (s l t g o n:Nat)(q:Bool):(AV.vec l t g o n q).scrub s=.vec l t g o n q:=id rfl
theorem Mt (s:Nat)(l:List AV):(AV.agg l).scrub s=.agg (AV.scrubL s l):=id rfl
theorem Mu (s:Nat)(l:List AV):(AV.tup l).scrub s=.tup (AV.scrubL s l):=id rfl
theorem DA (s t o:Nat):(AV.ptr 0 t o).scrub s=bif Nat.beq t s then .top else .ptr 0 t o:=id rfl
theorem Ct (s l t o:Nat):(AV.ptr (l+1) t o).scrub s=.ptr (l+1) t o:=id rfl
theorem Mv (s:Nat):AV.scrubL s []=[]:=id rfl
theorem Cu (s:Nat)(x:AV)(l:List AV):AV.scrubL s (x :: l)=x.scrub s :: AV.scrubL s l:=id rfl
theorem NF (s:Nat)(l:List AV):(Ob.cells l).scrub s=.cells (AV.scrubL s l):=id rfl
theorem Mw (s g z:Nat)(l:List AV):(Ob.vec g z l).scrub s=.vec g z l:=id rfl
theorem Cv (s:Nat):Ob.none.scrub s=.none:=id rfl
theorem US (s:Nat)(o:Ob):(o.scrub s).isRow=o.isRow:=by cases o<;>rfl
theorem NG (l:List AV):(Ob.cells l).isRow=false:=id rfl
theorem Cw:Ob.none.isRow=false:=id rfl

def ZO (P:Program)(v:AV)(w:Bool)(d:Option Nat)(ro:RO)(its:List Item)(st:St)(K:St→Prop):Prop :=
 match v with
 |.bool b=>(b=w→Ql P (⟨d,ro,none⟩ :: its) st K)∧(b=(!w)→Ql P its { st with f:=Qm st.f d (.tup []) } K)
 |.tup l=>l=[]∧Ql P its { st with f:=Qm st.f d (.tup []) } K
 |_=>False
theorem ZP {b:Bool}{d:Option Nat}{ro:RO}{st:St}(h1:b=true→Ql P (⟨d,ro,none⟩ :: its) st K)(h2:b=false→Ql P its { st with f:=Qm st.f d (.tup []) } K):ZO P (.bool b) true d ro its st K:=⟨h1,h2⟩
theorem ZQ {b:Bool}{d:Option Nat}{ro:RO}{st:St}(h1:b=false→Ql P (⟨d,ro,none⟩ :: its) st K)(h2:b=true→Ql P its { st with f:=Qm st.f d (.tup []) } K):ZO P (.bool b) false d ro its st K:=⟨h1,h2⟩
theorem Tl {d:Option Nat}{ro:RO}{st:St}:ZO P (.bool true) true d ro its st K=Ql P (⟨d,ro,none⟩ :: its) st K:=by simp[ZO]
theorem Tm {d:Option Nat}{ro:RO}{st:St}:ZO P (.bool false) false d ro its st K=Ql P (⟨d,ro,none⟩ :: its) st K:=by simp[ZO]
theorem Mx {ro:RO}:ZO P (.bool true) false (some d) ro its ⟨f,m,ds⟩ K=Ql P its ⟨Qn f d (.tup []),m,ds⟩ K:=by simp[ZO,Qm]
theorem My {ro:RO}:ZO P (.bool false) true (some d) ro its ⟨f,m,ds⟩ K=Ql P its ⟨Qn f d (.tup []),m,ds⟩ K:=by simp[ZO,Qm]
theorem Tn {ro:RO}{w:Bool}:ZO P (.tup []) w (some d) ro its ⟨f,m,ds⟩ K=Ql P its ⟨Qn f d (.tup []),m,ds⟩ K:=by simp[ZO,Qm]
theorem Cx {ro:RO}{st:St}:ZO P (.bool true) false none ro its st K=Ql P its st K:=by simp[ZO,Qm]
theorem Cy {ro:RO}{st:St}:ZO P (.bool false) true none ro its st K=Ql P its st K:=by simp[ZO,Qm]
theorem Mz {ro:RO}{w:Bool}{st:St}:ZO P (.tup []) w none ro its st K=Ql P its st K:=by simp[ZO,Qm]
theorem e_g {ro:RO}{j:Nat}{w:Bool}{d:Option Nat}:Ql P (⟨d,ro,some (j,w)⟩ :: its) ⟨f,m,ds⟩ K=ZO P (f j) w d ro its ⟨f,m,ds⟩ K:=by
 simp only[Ql,X5,ZO]
 all_goals(generalize f j=v;cases v<;>rfl)

theorem To {rs:List RR}{n:Nat}{R:AV→Qo→Prop}{fr:Nat→Ob}:Zi rs n R .ret ⟨f,fr :: m,ds⟩=(ds=[]∧FR (Wg ⟨f,fr :: m,ds⟩ rs)∧FR (Ww (fr :: m) (Hg (Wg ⟨f,fr :: m,ds⟩ rs)))∧m.length=n∧R (Hg (Ww (fr :: m) (Hg (Wg ⟨f,fr :: m,ds⟩ rs)))) m):=by
 apply propext
 constructor
 ·rintro⟨_,h1,x,y,fr',m',h2,h3,h4,h5,h6⟩;cases h4;have h1:ds=[]:=h1;rw[h2,FS,h3];exact⟨h1,rfl,rfl,h5,h6⟩
 ·rintro⟨h1,h2,h3,h4,h5⟩;generalize hv:Wg ⟨f,fr :: m,ds⟩ rs=v at h2 h3 h5;cases v with
  |none=>cases h2
  |some x=>
   rw[FS]at h3 h5;cases hl:Ww (fr :: m) x with
   |none=>rw[hl]at h3;cases h3
   |some y=>
    rw[hl]at h5;exact⟨.inr rfl,h1,x,y,fr,m,hv,hl,rfl,h4,h5⟩
theorem Tp {rs:List RR}{n:Nat}{R:AV→Qo→Prop}{st:St}:Zi rs n R .normal st=Zi rs n R .ret st:=by
 simp[Zi]

theorem QAo {α:Type}(f:Nat→α)(d:Nat)(x:α)(i:Nat):Qn f d x i=bif Nat.beq i d then x else f i:=id rfl
theorem MA (a b:Nat):Nat.beq a b=(a==b):=by
 cases h:Nat.beq a b with
 |true=>rw[QVg h];simp
 |false=>have:=Nat.ne_of_beq_eq_false h;simp[this]
theorem Xm {s idx site sz:Nat}{a:RC}{fr:Nat→Ob}{xs:List AV}(h1:fr s=.cells xs)(h2:xs[idx]? = some .nils)(h3:fr site=.none)(hne:Nat.beq site s=false)(h:QJ P a ⟨f,Qn (Qn fr site (.vec 1 sz [])) s (.cells (xs.set idx (.vec 0 site 1 0 0 false))) :: m,ds⟩ Q):QJ P (.gho (.vecc s idx site sz) a) ⟨f,fr :: m,ds⟩ Q:=by
 refine⟨_,?_,h⟩;have e1:Qe (fr :: m) 0 s=.cells xs:=h1;have e:Qe (fr :: m) 0 site=.none:=h3;simp[Zx,e1,h2,e,Qr,QD,Am.put,hne]
theorem Jw {α:Type}(f:Nat→α)(d:Nat)(x y:α):Qn (Qn f d x) d y=Qn f d y:=by
 funext i;by_cases h:i=d
 ·subst h;rw[QP,QP]
 ·rw[QX _ _ h,QX _ _ h,QX _ _ h]
theorem Jl {α:Type}(f:Nat→α)(d e:Nat)(x y:α)(hde:d≠e):Qn (Qn f d x) e y=Qn (Qn f e y) d x:=by
 funext i;by_cases h:i=d
 ·subst h;rw[QP,QX _ _ hde,QP]
 ·by_cases h2:i=e
  ·subst h2;rw[QP,QX _ _ h,QP]
  ·rw[QX _ _ h2,QX _ _ h,QX _ _ h,QX _ _ h2]
theorem UC {α:Type}(f:Nat→α)(d:Nat)(x:α)(h:f d=x):Qn f d x=f:=by
 funext i;by_cases hi:i=d
 ·subst hi;rw[QP,h]
 ·rw[QX _ _ hi]
theorem e_t (n:Nat):(RA.t n).ev f=f n:=id rfl
theorem e_c (x:AV):(RA.c x).ev f=x:=id rfl
theorem e_f (k:Nat):(RA.f k).ev f=.fn (.func k) [] []:=id rfl

end

end Go.Proofs.YtjjmjopabpakoaaGreatDoor.Am

namespace Go.Proofs.YtjjmjopabpakoaaGreatDoor.Br
open Go Am Go.RowKit Go.WideShapes Go.ChangeShapes Go.ChangeAt

theorem Y3 {P:Program}{k:FuncId}{args:List AV}{v:Bool}(h:Qj P k args (.bool v)){stab:Nat→Nat→Option SV}(ht:∀b o v,ZM b o=some v→stab b o=some v){w:World}(hs:∀b o u,stab b o=some u→rd w b o u){vs:List Value}(hr:RepL (Gh.bare stab ht) args vs) :
  Calls P k ⟨vs⟩ w fun e w'=>e=.returned (.bool v)∧Below w.heap.size w w' :=
 (h.2 (Gh.bare stab ht) w vs hr (MR.bare hs)).mono fun e w' ⟨G',x,u,m',he,hx,hu,_,hex,_⟩=>by
  subst hx;cases hu;exact⟨he,hex.os,hex.tape,hex.output,hex.size,fun b hb=>(hex.old b hb Gh.bare_mine).1⟩

theorem NT {G:Gh}(s:ByteArray):Rep G (.str s.data.toList) (.string s):=by
 obtain⟨⟨l⟩⟩:=s;exact .str l

theorem MB {n:Int}(h:(Lit.int .u64 n).wf=true):0≤n:=by
 simp[Lit.wf,IntKind.min,IntKind.max,IntKind.bits,IntKind.signed]at h;omega
theorem Qdm {n:Int}(h:(Lit.int .u64 n).wf=true):n<18446744073709551616:=by
 simp[Lit.wf,IntKind.min,IntKind.max,IntKind.bits,IntKind.signed]at h;omega

section
variable {H:Type}{enc:TypeId×Value→H}{P:Program}
theorem YL {f:Func}{s:ChangeSpec}{UA fresh handsOn again:Bool}{W W':World}{args:Array Value}{v:Value}{ds gs:List (DataW H)}{before pa pv:List MemPlace}
  (hW:DataW.Whole enc P f.params.toList s.vars UA W args.toList ds gs before)
  (hres:∀(b:Nat) (sp:Nat→Bool) (hd:Bool),DataW.TrodAll enc P W' b sp hd f.resultTypes.toList (v.resultList f.resultTypes.size) (s.fn H (ds++gs)).results [])
  (hargs:∀sp:Nat→Bool,(∀p∈before,sp p.block=true)→DataW.TrodAll enc P W' 0 sp true f.params.toList args.toList (s.fn H (ds++gs)).args pa)
  (hvars:∀sp:Nat→Bool,(∀p∈before,sp p.block=true)→DataW.TrodVars enc P W' sp s.vars (s.fn H (ds++gs)).vars pv)
  (hps:before=pa++pv) (hb:Below W.heap.size W W')
  (hok:∀(j:Nat) (t:TypeId) (r:Value),f.resultTypes[j]? = some t→(v.resultList f.resultTypes.size)[j]? = some r→Value.okWide P W' .any 0 t r) :
  s.post enc P f UA fresh handsOn again W args v W':=by
 have hlt:∀p∈before,p.block<W.heap.size:=fun p hp=>hW.lt p hp
 have hold:∀p∈before,(fun b=>decide (b<W.heap.size)) p.block=true:=fun p hp=>by simpa using hlt p hp
 refine⟨ds,gs,before,[],pa,pv,hW,hres _ _ _,hargs _ hold,hvars _ hold,World.keptBut_mono (fun p hp=>⟨hp,?_⟩) (hb.frame (·∈before)),fun _=>?_⟩
 ·rw[hps,QWw]at hp;exact Or.inr hp
 ·obtain⟨_,_,_,_,_,hz,hn⟩:=hW;refine⟨hok,_,_,([]++pa)++pv,⟨[]++pa,pv,trodAll_append (hargs _ (fun _ _=>rfl)) (hres _ _ _),hvars _ (fun _ _=>rfl),rfl,?_,?_⟩,?_⟩
  ·intro b off hp;have hin:MemPlace.cell b off∈before:=by rw[hps];simpa using hp
   rw[hb.frozen (hlt _ hin)];exact hz b off hin
  ·intro ha;have:=hn ha;rw[hps]at this
   simpa using this
  ·intro p hp _;rw[hps]
   simpa using hp
end

section
variable {H:Type}{enc:TypeId×Value→H}{P:Program}{w:World}{base:Nat}{sp:Nat→Bool}{held:Bool}

def Cz (g:DataW H→Option (List Value)):List (DataW H)→Option (List Value)
 | []=>some []
 |d :: ds=>match g d,Cz g ds with
  |some a,some b=>some (a++b)
  |_,_=>none
def Yo (P:Program)(g:TypeId→DataW H→Option (List Value)):Nat→Nat→List Field→List (DataW H)→Option (List Value)
 |o,n,[],[]=>bif o==n then some []else none
 |o,n,f :: fs,d :: ds=>bif f.offset==o then match g f.type d,Yo P g (o+P.cellsOf f.type) n fs ds with
  |some a,some b=>some (a++b)
  |_,_=>none else none
 |_,_,_,_=>none
def Y4 (P:Program):Nat→TypeId→DataW H→Option (List Value)
 |0,_,_=>none
 |k+1,t,d=>match P.underlying t with
  |some (.int ik)=>match d with
   |.lit (.int ik' n)=>bif ik'==ik then some [.int ik n]else none
   |_=>none
  |some (.array n e)=>match d with
   |.agg ds=>bif P.cellsOf t==n*P.cellsOf e then Cz (Y4 P k e) ds else none
   |_=>none
  |some (.struct fs)=>match d with
   |.agg ds=>Yo P (Y4 P k) 0 (P.cellsOf t) fs.toList ds
   |_=>none
  |_=>none

theorem NU {g:DataW H→Option (List Value)}{c:Nat}:∀ {ds:List (DataW H)} {cs ls:List Value},cs.length=ds.length*c→(∀i d l,ds[i]? = some d→g d=some l→(cs.drop (i*c)).take c=l)→Cz g ds=some ls→cs=ls
 | [],cs,ls,hl,_,h=>by
  cases h;exact QWi (by simpa using hl)
 |d :: ds,cs,ls,hl,hx,h=>by
  rw[Cz]at h;split at h
  ·rename_i a b ea eb;cases h;rw[QVx,Nat.succ_mul]at hl;have h0:=hx 0 d a rfl ea;rw[Nat.zero_mul,QVY]at h0;have h1:cs.drop c=b:=NU (c:=c) (by rw[QVX];omega) (fun i d' l hd hg=>by
    have:=hx (i+1) d' l (by simpa using hd) hg;rw[List.drop_drop]
    rwa [Nat.succ_mul,Nat.add_comm]at this) eb
   rw[←h0,←h1,QWu]
  ·cases h
theorem FT {g:TypeId→DataW H→Option (List Value)}{cs:List Value}:∀ {fs:List Field} {ds:List (DataW H)} {o:Nat} {ls:List Value},(∀(i:Nat) (f:Field) (d:DataW H) l,fs[i]? = some f→ds[i]? = some d→g f.type d=some l→(cs.drop f.offset).take (P.cellsOf f.type)=l)→Yo P g o cs.length fs ds=some ls→cs.drop o=ls
 | [],[],o,ls,_,h=>by
  rw[Yo]at h;cases ho:o==cs.length with
  |false=>rw[ho]at h;cases h
  |true=>
   rw[ho]at h;cases h;rw[QVG]at ho;rw[ho,List.drop_length]
 |f :: fs,d :: ds,o,ls,hx,h=>by
  rw[Yo]at h;cases ho:f.offset==o with
  |false=>rw[ho]at h;cases h
  |true=>
   rw[ho,cond_true]at h;rw[QVG]at ho;split at h
   ·rename_i a b ea eb;cases h;have h0:=hx 0 f d a rfl rfl ea;have h1:=FT (fun i f' d' l h1 h2 h3=>hx (i+1) f' d' l (by simpa using h1) (by simpa using h2) h3) eb;rw[ho]at h0;rw[←h0,←h1,←List.drop_drop,QWu]
   ·cases h
 | [],_ :: _,_,_,_,h=>by rw[Yo]at h;cases h;all_goals simp
 |_ :: _,[],_,_,_,h=>by rw[Yo]at h;cases h;all_goals simp

theorem Y5:∀(k m:Nat) (t:TypeId) (cs:List Value) (d:DataW H) (p:List MemPlace) (ls:List Value),DataW.trod enc P w base sp held m t cs=some (d,p)→Y4 P k t d=some ls→cs=ls
 |0,_,_,_,_,_,_,_,h=>by cases h
 |k+1,m,t,cs,d,p,ls,ht,h=>by
  rw[Y4]at h;split at h
  ·rename_i ik hu;obtain⟨n,rfl,e,_⟩:=DataW.trod_int hu ht;cases e;simp only[BEq.rfl,cond_true,QVJ]at h;exact h
  ·rename_i n e hu;obtain⟨xs,m',rfl,ex,hlen,hxl,hx⟩:=DataW.trod_array hu ht;cases ex;dsimp only at h;cases hc:P.cellsOf t==n*P.cellsOf e with
   |false=>rw[hc]at h;cases h
   |true=>
    rw[hc,cond_true]at h;rw[QVG]at hc;refine NU (c:=P.cellsOf e) (by rw[QWE,hxl,hlen,hc]) (fun i d l hd hg=>?_) h;rw[QWB,QVn]at hd;obtain⟨x,h1,rfl⟩:=hd;have h2:=hx i (by rw[←hxl];exact(QVk.1 h1).1);rw[h1]at h2;exact Y5 k m' e _ x.1 x.2 l h2 hg
  ·rename_i fs hu;obtain⟨xs,m',rfl,ex,hlen,hxl,hx⟩:=DataW.trod_struct hu ht;cases ex;dsimp only at h;rw[←hlen]at h;have:=FT (P:=P) (cs:=cs) (fun i f d l hf hd hg=>by
    rw[QWB,QVn]at hd;obtain⟨x,h1,rfl⟩:=hd;have h2:=hx i f (by simpa using hf);rw[h1]at h2;exact Y5 k m' f.type _ x.1 x.2 l h2 hg) h
   rwa [QVY]at this
  ·cases h

def vEq:Value→Value→Bool
 |.int k n,.int k' n'=>k==k'&&n==n'
 |_,_=>false
theorem Qdo:∀ {a b:Value},vEq a b=true→a=b:=by
 intro a b h;unfold vEq at h;split at h
 ·rw[QVF,QVG,QVG]at h;rw[h.1,h.2]
 ·cases h
def CA:List Value→List Value→Bool
 | [],[]=>true
 |a :: l,b :: r=>vEq a b&&CA l r
 |_,_=>false
theorem NV:∀ {a b:List Value},CA a b=true→a=b
 | [],[],_=>rfl
 |a :: l,b :: r,h=>by
  rw[CA,QVF]at h;rw[Qdo h.1,NV h.2]
 | [],_ :: _,h=>by cases h
 |_ :: _,[],h=>by cases h

theorem NW {n:String}{d:DataW Unit}:∀ {l:List (String×DataW Unit)} {ps:List MemPlace},DataW.LaidVars P w l ps→(n,d)∈l→
  ∃g t cs fuel p,P.globalNamed n=some g∧(P.globals[g]?).map (·.type)=some t∧w.var? P n=some cs∧DataW.trod (fun _=>()) P w 0 (fun _=>true) false fuel t cs.toList=some (d,p)
 | [],_,_,hm=>by cases hm
 |x :: r,ps,h,hm=>by
  obtain⟨g,t,cs,fuel,p,q,k1,k2,k3,k4,k5,_⟩:=h;rcases QWy.1 hm with e|e
  ·subst e;exact⟨g,t,cs,fuel,p,k1,k2,k3,k4⟩
  ·exact NW k5 e

def QAp (P:Program)(laid:List (String×DataW Unit)):Bool :=
 Fv.all fun x=>laid.any fun y=>P.globalNamed y.1==some x.1&&(match (P.globals[x.1]?).map (·.type)with
  |some t=>(match Y4 P 6 t y.2 with
   |some l=>CA l x.2
   |none=>false)
  |none=>false)

theorem HW {b:Nat}{l:List Value}:∀ {T:List (Nat×List Value)},T.lookup b=some l→(b,l)∈T
 | [],h=>by cases h
 |(c,m) :: T,h=>by
  rw[List.lookup]at h;split at h
  ·rename_i e;cases h;rw[QVG]at e;subst e;exact QVA ..
  ·exact QVy _ (HW h)

theorem NX {laid:List (String×DataW Unit)}(h:laidMet P laid w)(ht:QAp P laid=true):YU w:=by
 intro b o v e;obtain⟨ps,hv,_⟩:=h;unfold ZM at e;cases hl:Fv.lookup b with
 |none=>rw[hl]at e;cases e
 |some l=>
  rw[hl]at e;have h1:=QVv.1 ht _ (HW hl);obtain⟨⟨n,d⟩,hy,h2⟩:=QWR.1 h1;rw[QVF]at h2;obtain⟨h2,h3⟩:=h2;have h2:P.globalNamed n=some b:=by simpa using h2
  obtain⟨g,t,cs,fuel,p,k1,k2,k3,k4⟩:=NW hv hy;rw[h2]at k1;cases k1;dsimp only at h3;rw[k2]at h3;dsimp only at h3;split at h3
  ·rename_i l' hc;have h4:=Y5 6 fuel t cs.toList d p l' k4 hc;rw[NV h3]at h4;unfold World.var? at k3;rw[h2]at k3;simp only[QWn]at k3;split at k3
   ·rename_i cs' t' fz hh;cases k3;dsimp only at e;split at e
    ·rename_i ho;cases e;exact⟨cs,t',fz,hh,by rw[ho,←h4];simp,rfl⟩
    ·obtain⟨u,hu,rfl⟩:=QVn.1 e;show w.cell? ⟨b,o,none⟩=some u;rw[cell_of_row w b o cs t' fz hh,←QVM,h4];exact hu
   ·cases k3
  ·cases h3
end

open Go.Joins Go.Deep Go.WideElems Go.Maps

section
variable {H:Type}{enc:TypeId×Value→H}{P:Program}{W:World}{base:Nat}{sp:Nat→Bool}{held:Bool}

end

theorem UT {X α:Type}{f:X→List α}{sz:Nat}(hsz:0<sz)(hf:∀x,(f x).length=sz):∀(xs:List X) (j:Nat),(xs.flatMap f)[j]? = (xs[j / sz]?).bind fun x=>(f x)[j % sz]?
 | [],j=>by simp
 |x :: xs,j=>by
  rw[QWK];by_cases hj:j<sz
  ·rw[QWF (by rw[hf];exact hj),Nat.div_eq_of_lt hj,Nat.mod_eq_of_lt hj];rfl
  ·obtain⟨i,rfl⟩:∃i,j=sz+i:=⟨j-sz,by omega⟩;rw[QWG (by rw[hf];omega),hf,UT hsz hf xs,show sz+i-sz=i by omega,show(sz+i) / sz=i / sz+1 by rw[Nat.add_div_left _ hsz],Nat.add_mod_left];rfl

section
variable {H:Type}{enc:TypeId×Value→H}{P:Program}{W:World}

structure El (enc:TypeId×Value→H)(P:Program)(e:TypeId)(sz:Nat)(X:Type) where
 av:X→AV
 vals:X→List Value
 N0:X→DataW H
 ok:X→Prop
 pos:0<sz
 len:∀x,(vals x).length=sz
 cells:∀x,(av x).cells.length=sz
 rfl':∀x,AV.rfL (av x).cells=true
 leaf:∀x,(av x).cells.all AV.leaf=true
 rep:∀(G:Gh) x,RepL G (av x).cells (vals x)
 opened:∀ {W:World} {n:Nat} {cs:List Value} {d:DataW H} {pl:List MemPlace},cs.length=sz→DataW.trod enc P W 0 (fun _=>true) true n e cs=some (d,pl)→∃x,ok x∧cs=vals x∧d=N0 x∧pl=[]
 shut:∀(W:World) (sp:Nat→Bool) x,ok x→∃n,DataW.trod enc P W 0 sp true n e (vals x)=some (N0 x,[])

end

def Q1:List AV→AV
 | [x]=>x
 |l=>.agg l

def HX (P:Program):Nat→List Field→Nat→Bool
 |o,[],n=>Nat.beq o n
 |o,f :: fs,n=>Nat.beq f.offset o&&HX P (o+P.cellsOf f.type) fs n

def MD (P:Program)(ts:List TypeId)(t:TypeId):Bool :=
 match P.underlying t with
 |some (.int _)|some .bool|some .string=>P.cellsOf t==1
 |some (.struct fs)=>HX P 0 fs.toList (P.cellsOf t)&&fs.toList.all fun f=>ts.contains f.type
 |some (.slice e)=>P.cellsOf t==1&&(decide (0<P.cellsOf e)&&decide (0<P.bytesOf e))&&ts.contains e
 |_=>false
def ME (P:Program)(ts:List TypeId):Bool:=ts.all (MD P ts)

def Q9 (P:Program)(M:Nat):Nat→TypeId→List AV→Prop
 |0,_,_=>False
 |k+1,t,cs=>match P.underlying t with
  |some (.int ik)=>∃n,cs=[.int ik n]∧(Lit.int ik n).wf=true
  |some .bool=>∃b,cs=[.bool b]
  |some .string=>∃s,cs=[.str s]∧s.length≤M
  |some (.struct fs)=>HasL (Q9 P M k) fs.toList cs
  |some (.slice e)=>∃l:List (List AV),cs=[.list (l.map Q1)]∧(l.length≤maxLen∧(M=reachBytes→l.length*P.bytesOf e≤M))∧(∀c∈l,Q9 P M k e c)∧l.length≤M
  |_=>False
where
 HasL (h:TypeId→List AV→Prop):List Field→List AV→Prop
  | [],cs=>cs=[]
  |f :: fs,cs=>∃a b,cs=a++b∧h f.type a∧HasL h fs b

theorem UU {l:List AV}(h:l.all AV.leaf=true):(Q1 l).cells=l:=by
 match l,h with
 | [],_=>rfl
 | [x],h=>cases x<;>first|rfl|simp[AV.leaf]at h
 |_ :: _ :: _,_=>rfl

mutual
def wt:AV→Nat
 |.list l=>1+JI l
 |.agg l=>JI l
 |_=>1
def JI:List AV→Nat
 | []=>0
 |x :: l=>wt x+JI l
end
theorem NY (a b:List AV):JI (a++b)=JI a+JI b:=by
 induction a with
 |nil=>simp[JI]
 |cons x a ih=>simp only[QVD,JI,ih];omega
theorem Tq:∀l:List AV,wt (Q1 l)=JI l
 | []=>by simp[Q1,wt]
 | [x]=>by simp[Q1,JI]
 |_ :: _ :: _=>by simp[Q1,wt]

theorem Y6 {G:Gh}:∀ {ls:List (List AV)} {cs:List (List Value)},ls.length=cs.length→(∀i (h1:i<ls.length) (h2:i<cs.length),RepL G ls[i] cs[i])→RepL G ls.flatten cs.flatten
 | [],[],_,_=>.nil
 |l :: ls,c :: cs,hn,h=>by
  rw[List.flatten_cons,List.flatten_cons];exact RepL.append (h 0 (by simp) (by simp)) (Y6 (by simpa using hn) fun i h1 h2=>h (i+1) (by simpa using h1) (by simpa using h2))
 | [],_ :: _,hn,_=>by simp at hn
 |_ :: _,[],hn,_=>by simp at hn

section
variable {H:Type}{enc:TypeId×Value→H}{P:Program}{W:World}{M:Nat}

theorem Hh {d:DataW H}:∀ {l:List (DataW H)},d∈l→Rows.uptoBulk d≤Rows.uptoBulkAll l
 | [],h=>by cases h
 |x :: l,h=>by
  rw[Rows.uptoBulkAll];rcases QWy.1 h with rfl|h
  ·omega
  ·have:=Hh h;omega

theorem Tr (d:DataW H):1≤Rows.uptoBulk d:=by unfold Rows.uptoBulk;split<;>omega
theorem HY {x:AV}(h:wt x=1)(d:DataW H):JI [x]≤Rows.uptoBulk d:=by
 have:=Tr d;rw[JI,JI,h];exact this
theorem Ts (a b:List (DataW H)):Rows.uptoBulkAll (a++b)=Rows.uptoBulkAll a+Rows.uptoBulkAll b:=by
 induction a with
 |nil=>simp[Rows.uptoBulkAll]
 |cons x a ih=>simp only[QVD,Rows.uptoBulkAll,ih];omega
theorem FU (F:Nat→List AV)(xs:List (DataW H))(h:∀i d,xs[i]? = some d→JI (F i)≤Rows.uptoBulk d):∀n,n≤xs.length→JI (((List.range n).map F).map Q1)≤Rows.uptoBulkAll (xs.take n)
 |0,_=>QVr _
 |n+1,hn=>by
  have hx:xs[n]? = some xs[n]:=QVl (by omega);have:=FU F xs h n (by omega);have h1:=h n _ hx;rw[List.range_succ,QWS,QWS,NY,QWT,hx,Ts];simp only[QVP,QWe,JI,Tq,QWU,Rows.uptoBulkAll];omega

def AC (P:Program)(M:Nat)(t:TypeId)(d:DataW H):Prop:=M=maxLen∨(M≠reachBytes∧Rows.uptoBulk d≤M)∨(d.weights P t).all (·≤M)=true

theorem HZ {t:TypeId}{d:DataW H}:∀ {ts:List TypeId} {ds:List (DataW H)} (i:Nat),(DataW.weightsEach P ts ds).all (·≤M)=true→ts[i]? = some t→ds[i]? = some d→(d.weights P t).all (·≤M)=true
 | [],_,_,_,h,_=>by simp at h
 |_ :: _,[],_,_,_,h=>by simp at h
 |t' :: ts,d' :: ds,0,h,h1,h2=>by
  rw[DataW.weightsEach,QWv,QVF]at h;cases h1;cases h2;exact h.1
 |t' :: ts,d' :: ds,i+1,h,h1,h2=>by
  rw[DataW.weightsEach,QWv,QVF]at h;exact HZ i h.2 (by simpa using h1) (by simpa using h2)

theorem WW {e:TypeId}{d:DataW H}:∀ {ds:List (DataW H)},(DataW.weightsAll P e ds).all (·≤M)=true→d∈ds→(d.weights P e).all (·≤M)=true
 | [],_,h=>by cases h
 |d' :: ds,h,hd=>by
  rw[DataW.weightsAll,QWv,QVF]at h;rcases QWy.1 hd with rfl|hd
  ·exact h.1
  ·exact WW h.2 hd

def Opn (W:World)(hL:YU W)(h:List AV→Prop)(B n:Nat)(cs:List Value):Prop :=
 ∃avs,h avs∧RepL (Gh.world W hL) avs cs∧avs.length=n∧AV.rfL avs=true∧avs.all AV.leaf=true∧JI avs≤B

theorem UV (hL:YU W){h:TypeId→List AV→Prop}{cs:List Value}:∀(fs:List Field) (ds:List (DataW H)) (o:Nat),HX P o fs cs.length=true→fs.length=ds.length→(∀(i:Nat) (f:Field) (d:DataW H),fs[i]? = some f→ds[i]? = some d→Opn W hL (h f.type) (Rows.uptoBulk d) (P.cellsOf f.type) ((cs.drop f.offset).take (P.cellsOf f.type)))→
  Opn W hL (Q9.HasL h fs) (Rows.uptoBulkAll ds) (cs.length-o) (cs.drop o)
 | [],_,o,hc,_,_=>by
  have e:o=cs.length:=QVg hc;refine⟨[],rfl,?_,by simp[e],rfl,rfl,QVr _⟩;rw[e,List.drop_length];exact .nil
 |_ :: _,[],_,_,hl,_=>by simp at hl
 |f :: fs,d :: ds,o,hc,hl,hf=>by
  simp only[HX,QVF]at hc;have eo:f.offset=o:=QVg hc.1;obtain⟨a,a1,a2,a3,a4,a5,a6⟩:=hf 0 f d rfl rfl;obtain⟨b,b1,b2,b3,b4,b5,b6⟩:=UV hL fs ds _ hc.2 (by simpa using hl) fun i g d hg hd=>hf (i+1) g d (by simpa using hg) (by simpa using hd)
  rw[eo]at a2;refine⟨a++b,⟨a,b,rfl,a1,b1⟩,?_,?_,by rw[Kk,a4,b4]<;>rfl,by rw[QWv,a5,b5]<;>rfl,by rw[NY,Rows.uptoBulkAll];omega⟩
  ·have:=RepL.append a2 b2
   rwa [←List.drop_drop,QWu]at this
  ·have hlen:a.length=((cs.drop o).take (P.cellsOf f.type)).length:=(RepL.length a2).symm;rw[QVU,a3,b3];rw[a3,QV8,QVX]at hlen;omega

theorem Y7 (hL:YU W){ts:List TypeId}(hP:ME P ts=true):∀(k:Nat) (t:TypeId) (cs:List Value) (d:DataW H) (pl:List MemPlace),ts.contains t=true→DataW.trod enc P W 0 (fun _=>true) true k t cs=some (d,pl)→AC P M t d→
  Opn W hL (Q9 P M k t) (Rows.uptoBulk d) (P.cellsOf t) cs
 |0,_,_,_,_,_,h,_=>by simp[DataW.trod]at h
 |k+1,t,cs,d,pl,ht,h,hb=>by
  have hp:=QVv.1 hP t (by simpa using ht);unfold MD at hp;split at hp
  ·rename_i ik hu;obtain⟨v,rfl,_,hw⟩:=DataW.trod_int hu h;refine⟨[.int ik v],?_,.cons (.int ik v) .nil,by rw[QVG]at hp;simp[hp],rfl,rfl,HY rfl _⟩;simp only[Q9,hu];exact⟨v,rfl,hw⟩
  ·rename_i hu;obtain⟨b,rfl,_⟩:=DataW.trod_bool hu h;refine⟨[.bool b],?_,.cons (.bool b) .nil,by rw[QVG]at hp;simp[hp],rfl,rfl,HY rfl _⟩;simp only[Q9,hu];exact⟨b,rfl⟩
  ·rename_i hu;obtain⟨⟨⟨s⟩⟩,rfl,e,hw⟩:=DataW.trod_string hu h;have hw:s.length≤M:=by
    cases e;rcases hb with rfl|hb|hb
    ·exact hw
    ·replace hb:=hb.2;rw[Rows.uptoBulk]at hb;exact QVj (Nat.le_succ _) hb
    ·rw[DataW.weights]at hb
     simpa using hb
   refine⟨[.str s],?_,.cons (.str s) .nil,by rw[QVG]at hp;simp[hp],rfl,rfl,HY rfl _⟩;simp only[Q9,hu];exact⟨s,rfl,hw⟩
  ·rename_i fs hu;simp only[QVF,QVv]at hp;obtain⟨xs,n',hk,e,hlen,hxl,hx⟩:=DataW.trod_struct hu h;obtain rfl:k=n':=by omega
   have hbx:∀(i:Nat) x (f:Field),xs[i]? = some x→fs[i]? = some f→AC P M f.type x.1:=fun i x f hx hf=>by
    cases e;refine hb.imp id fun hb=>hb.imp (fun hb=>⟨hb.1,?_⟩) fun hb=>?_
    ·replace hb:=hb.2;rw[Rows.uptoBulk]at hb;have:=Hh (l:=xs.map (·.1)) (QWz.2 ⟨x,QVw hx,rfl⟩);omega
    ·rw[DataW.weights,hu]at hb;exact HZ i hb (by simp[hf]) (by simp[hx])
   have:=UV hL (W:=W) (h:=Q9 P M k) (cs:=cs) fs.toList (xs.map (·.1)) 0 (by rw[hlen];exact hp.1) (by simp[hxl]) (fun i f d hi hd=>by
    have hi':fs[i]? = some f:=by simpa using hi
    have hf:f∈fs.toList:=QVw hi;obtain⟨x,hxi,rfl⟩:∃x,xs[i]? = some x∧x.1=d:=by
     rw[QWB]at hd;obtain⟨x,h1,h2⟩:=QVn.1 hd;exact⟨x,h1,h2⟩
    have h2:=hx i f hi';rw[hxi]at h2;exact Y7 hL hP k f.type _ _ _ (hp.2 f hf) h2 (hbx i _ f hxi hi'))
   rw[QVY,QWb,hlen]at this;obtain⟨avs,h1,h2,h3,h4,h5,h6⟩:=this;refine⟨avs,?_,h2,h3,h4,h5,by cases e;rw[Rows.uptoBulk];omega⟩;simp only[Q9,hu];exact h1
  ·rename_i e hu;simp only[QVF,QWA,QVG]at hp;obtain⟨⟨h1,h0,hby⟩,hpe⟩:=hp;rcases DataW.trod_slice hu h with⟨rfl,_⟩|⟨a,len,cap,elems,rest,n',hk,rfl,e0,_,hl,hm,hln0,hel,_⟩
   ·refine⟨[.list []],?_,.cons (.list (cs:=[]) (sz:=0) .nil (by simp) rfl rfl (by simp) rfl (QVr _) (QVr _)) .nil,by simp[h1],rfl,rfl,HY rfl _⟩;simp only[Q9,hu];exact⟨[],rfl,⟨QVr _,fun _=>by simp⟩,by simp,QVr _⟩
   ·obtain rfl:k=n':=by omega
    have hbx:∀x∈elems,AC P M e x.1:=fun x hx=>by
     cases e0;refine hb.imp id fun hb=>hb.imp (fun hb=>⟨hb.1,?_⟩) fun hb=>?_
     ·replace hb:=hb.2;rw[Rows.uptoBulk]at hb;have:=Hh (l:=elems.map (·.1)) (QWz.2 ⟨x,hx,rfl⟩);omega
     ·rw[DataW.weights,hu,QWq,QWv,QVF,QVF]at hb;exact WW hb.2.1 (QWz.2 ⟨x,hx,rfl⟩)
    have hlenM:len≤M:=by
     cases e0;rcases hb with rfl|hb|hb
     ·omega
     ·have key:∀l:List (DataW H),l.length≤Rows.uptoBulkAll l:=by
       intro l
       induction l with
       |nil=>simp
       |cons x l ih=>
        have:1≤Rows.uptoBulk x:=by unfold Rows.uptoBulk;split<;>omega
        rw[Rows.uptoBulkAll,QVx];omega
      replace hb:=hb.2;rw[Rows.uptoBulk]at hb;have:=key (elems.map (·.1));rw[QWE]at this;omega
     ·rw[DataW.weights,hu,QWq,QVF]at hb;have h5:=hb.1;simp only[QWA,QWE]at h5;have h6:elems.length*1≤(elems.length+rest.length)*P.bytesOf e:=Nat.mul_le_mul (Nat.le_add_right _ _) hby;omega
    have hlenB:M=reachBytes→len*P.bytesOf e≤M:=fun hM=>by
     cases e0;rcases hb with rfl|hb|hb
     ·exact absurd hM (by unfold maxLen reachBytes;omega)
     ·exact absurd hM hb.1
     ·rw[DataW.weights,hu,QWq,QVF]at hb;have h5:=hb.1;simp only[QWA,QWE]at h5;have h6:elems.length*P.bytesOf e≤(elems.length+rest.length)*P.bytesOf e:=Nat.mul_le_mul (Nat.le_add_right _ _) (QVi _);have h7:len*P.bytesOf e=elems.length*P.bytesOf e:=by rw[show len=elems.length by omega]
      omega
    haveI:Inhabited ({c:List Value // c.length=P.cellsOf e}×List AV):=⟨(⟨List.replicate (P.cellsOf e) (.bool false),by simp⟩,[])⟩
    obtain⟨F,hF⟩:=choose_lt (α:={c:List Value // c.length=P.cellsOf e}×List AV) (n:=len) (p:=fun i x=>W.cells? 0 (a.add (i*P.cellsOf e)) (P.cellsOf e)=some x.1.1∧Q9 P M k e x.2∧RepL (Gh.world W hL) x.2 x.1.1∧x.2.length=P.cellsOf e∧AV.rfL x.2=true∧x.2.all AV.leaf=true∧∀d,elems[i]? = some d→JI x.2≤Rows.uptoBulk d.1) (fun i hi=>by
     have hb:=hel i hi;rw[QVl (by omega)]at hb;obtain⟨cs',c1,c2⟩:=Option.bind_eq_some_iff.1 hb;obtain⟨_,hln,_⟩:=World.cells?_some c1;obtain⟨avs,o1,o2,o3,o4,o5,o6⟩:=Y7 hL hP k e cs' _ _ hpe c2 (hbx _ (List.getElem_mem _));exact⟨(⟨cs',hln⟩,avs),c1,o1,o2,o3,o4,o5,fun d hd=>by
      rw[QVl (by omega)]at hd;cases hd;exact o6⟩)
    have cellAt:∀i j,i<len→j<P.cellsOf e→W.cell? (a.add (i*P.cellsOf e+j))=(F i).1.1[j]?:=by
     intro i j hi hj;obtain⟨_,_,h3⟩:=World.cells?_some (hF i hi).1;rw[←h3 j hj,add_add]
    have hspot:0<len→a.spot=none:=by
     intro hc;have:=cellAt 0 0 hc h0;rw[Nat.zero_mul,show a.add (0+0)=a from rfl,QVl (by rw[(F 0).1.2];exact h0)]at this;unfold World.cell? at this;split at this
     ·split at this
      ·cases this
      ·rename_i h;simpa using h
     ·cases this
    have hel':∀c∈(List.range len).map (fun i=>(F i).2),∃i,i<len∧c=(F i).2:=by
     intro c hc;obtain⟨i,hi,rfl⟩:=QWz.1 hc;exact⟨i,QWO.1 hi,rfl⟩
    have hflat:∀L:List (List AV),(∀c∈L,c.all AV.leaf=true)→QS (L.map Q1)=L.flatten:=by
     intro L
     induction L with
     |nil=>intro _;rfl
     |cons c L ih=>
      intro hh;show(Q1 c).cells++QS (L.map Q1)=c++L.flatten;rw[UU (hh c (by simp)),ih fun x hx=>hh x (by simp[hx])]
    have hrf:∀L:List (List AV),(∀c∈L,AV.rfL c=true)→AV.rfL L.flatten=true:=by
     intro L
     induction L with
     |nil=>intro _;rfl
     |cons c L ih=>
      intro hh;rw[List.flatten_cons,Kk,hh c (by simp),ih fun x hx=>hh x (by simp[hx])]<;>rfl
    have hlf:∀L:List (List AV),(∀c∈L,c.all AV.leaf=true)→L.flatten.all AV.leaf=true:=by
     intro L
     induction L with
     |nil=>intro _;rfl
     |cons c L ih=>
      intro hh;rw[List.flatten_cons,QWv,hh c (by simp),ih fun x hx=>hh x (by simp[hx])]<;>rfl
    have hl1:∀c∈(List.range len).map (fun i=>(F i).2),c.all AV.leaf=true:=fun c hc=>by
     obtain⟨i,hi,rfl⟩:=hel' c hc;exact(hF i hi).2.2.2.2.2.1
    have hl2:∀c∈(List.range len).map (fun i=>(F i).2),AV.rfL c=true:=fun c hc=>by
     obtain⟨i,hi,rfl⟩:=hel' c hc;exact(hF i hi).2.2.2.2.1
    have hwt:JI [.list (((List.range len).map fun i=>(F i).2).map Q1)]≤Rows.uptoBulk d:=by
     cases e0;have hw:=fun n hn=>FU (fun i=>if i<len then(F i).2 else []) (elems.map (·.1)) (fun i d hd=>by
      rw[QWB]at hd;obtain⟨x,h1,rfl⟩:=QVn.1 hd;by_cases hi:i<len
      ·rw[QVq hi];exact(hF i hi).2.2.2.2.2.2 x h1
      ·rw[QVp hi];exact QVr _) n hn
     have h1:=hw len (by rw[QWE];omega);rw[QVQ (by rw[QWE];omega)]at h1;have h2:(List.range len).map (fun i=>if i<len then(F i).2 else [])=(List.range len).map fun i=>(F i).2:=by
      refine QWV fun i hi=>?_
      rw[QVq (QWO.1 hi)]
     rw[h2]at h1;rw[JI,JI,wt,Rows.uptoBulk];omega
    refine⟨[.list (((List.range len).map fun i=>(F i).2).map Q1)],?_,.cons (.list (cs:=((List.range len).map fun i=>(F i).1.1).flatten) (sz:=P.cellsOf e) ?_ ?_ ?_ ?_ ?_ (by simp) hl (by omega)) .nil,by simp[h1],rfl,rfl,hwt⟩
    ·simp only[Q9,hu];refine⟨_,rfl,⟨by simp;omega,fun hM=>by simpa using hlenB hM⟩,?_,by simpa using hlenM⟩;intro c hc;obtain⟨i,hi,rfl⟩:=hel' c hc;exact(hF i hi).2.1
    ·rw[hflat _ hl1];refine Y6 (by simp) fun i g1 g2=>?_
     simp only[QWE,List.length_range]at g1;simp only[List.getElem_map,List.getElem_range];exact(hF i (by omega)).2.2.1
    ·intro x hx;obtain⟨c,hc,rfl⟩:=QWz.1 hx;rw[UU (hl1 c hc)];obtain⟨i,hi,rfl⟩:=hel' c hc;exact(hF i hi).2.2.2.1
    ·rw[hflat _ hl1];exact hrf _ hl2
    ·rw[hflat _ hl1];exact hlf _ hl1
    ·intro j u hj;rw[←List.flatMap_def,UT h0 (fun i=>(F i).1.2)]at hj;by_cases hi:j / P.cellsOf e<len
     ·rw[QWC hi]at hj;have hj:(F (j / P.cellsOf e)).1.1[j % P.cellsOf e]? = some u:=hj;have hk:=cellAt (j / P.cellsOf e) (j % P.cellsOf e) (by omega) (Nat.mod_lt _ h0);rw[hj,Nat.div_add_mod']at hk;have hs:=hspot (Nat.lt_of_le_of_lt (QVr _) hi);obtain⟨b,o,s⟩:=a;subst hs;refine⟨b,o,rfl,?_⟩;refine Uz ?_;show W.cell? ⟨b,o+j,none⟩=some u;rw[←hk];unfold Addr.add;split
      ·rename_i h;rw[h];rfl
      ·rfl
     ·rw[QWD (by simp;omega)]at hj;cases hj
  ·cases hp

theorem K7 {t:TypeId}{v:Value}{d:DataW H}{p:List MemPlace}(hl:laidOutB P=true)(hr:P.readableRec t=true)(hrow:t<P.types.size)(h:DataW.Trod enc P W 0 (fun _=>true) true t v d p) :
  ∀(W':World) (sp:Nat→Bool),Below W.heap.size W W'→(∀q∈p,sp q.block=true)→DataW.Trod enc P W' 0 sp true t v d p:=by
 intro W' sp hb hs;obtain⟨n,hn⟩:=h;exact Trod_stays hl hr hrow ⟨n,hn⟩ (fun x hx=>hb.same (DataW.trod_lt n _ _ _ hn x hx)) hs

theorem KJ (hL:YU W){t:TypeId}{fs:Array Field}{ts:List TypeId}{r:Reach}{b0:Nat}{v:Value}{d:DataW H}{p:List MemPlace}(hP:ME P ts=true)(ht:ts.contains t=true)(hs:P.underlying t=some (.struct fs))(hv:Value.okWide P W r b0 t v)
  (h:DataW.Trod enc P W 0 (fun _=>true) true t v d p) (hb:AC P M t d):∃k avs,Q9 P M k t avs∧Rep (Gh.world W hL) (.agg avs) v:=by
 obtain⟨⟨cs⟩,rfl,_⟩:=okWide_struct hs hv;obtain⟨n,hn⟩:=h;obtain⟨avs,h1,h2,_⟩:=Y7 hL hP n t _ _ _ ht hn hb;exact⟨n,avs,h1,.agg h2⟩
theorem Xs {X:Type}{f:X→List AV}{ok:X→Prop}:∀ {l:List (List AV)},(∀c∈l,∃x,ok x∧c=f x)→∃xs:List X,l=xs.map f∧∀x∈xs,ok x
 | [],_=>⟨[],rfl,by simp⟩
 |c :: l,h=>by
  obtain⟨x,hx,rfl⟩:=h c (by simp);obtain⟨xs,rfl,hxs⟩:=Xs (l:=l) fun c hc=>h c (by simp[hc])
  exact⟨x :: xs,rfl,by simpa using ⟨hx,hxs⟩⟩

end

end Go.Proofs.YtjjmjopabpakoaaGreatDoor.Br

namespace Go.Proofs.YtjjmjopabpakoaaGreatDoor.Br
open Go Am

section
variable {P:Program}{M k:Nat}{t:TypeId}{cs:List AV}

theorem Zc {ik:IntKind}(hu:P.underlying t=some (.int ik))(h:Q9 P M k t cs):∃n,cs=[.int ik n]∧(Lit.int ik n).wf=true:=by
 cases k with
 |zero=>cases h
 |succ k=>simpa only [Q9,hu]using h

theorem FV (hu:P.underlying t=some .bool)(h:Q9 P M k t cs):∃b,cs=[.bool b]:=by
 cases k with
 |zero=>cases h
 |succ k=>simpa only [Q9,hu]using h

theorem Zd (hu:P.underlying t=some .string)(h:Q9 P M k t cs):∃s,cs=[.str s]∧s.length≤M:=by
 cases k with
 |zero=>cases h
 |succ k=>simpa only [Q9,hu]using h

theorem Xf {e:TypeId}(hu:P.underlying t=some (.slice e))(h:Q9 P M k t cs):∃(k':Nat) (l:List (List AV)),cs=[.list (l.map Q1)]∧l.length≤M∧∀c∈l,Q9 P M k' e c:=by
 cases k with
 |zero=>cases h
 |succ k=>
  simp only[Q9,hu]at h;obtain⟨l,h1,_,h3,h4⟩:=h;exact⟨k,l,h1,h4,h3⟩

theorem XW {fs:Array Field}(hu:P.underlying t=some (.struct fs))(h:Q9 P M k t cs):∃k',Q9.HasL (Q9 P M k') fs.toList cs:=by
 cases k with
 |zero=>cases h
 |succ k=>
  simp only[Q9,hu]at h;exact⟨k,h⟩

end

structure PO where
 num:Int
 name:List UInt8
 alias:List UInt8
 card:Int
 key:Int
 kind:Int
 target:Int
 union:Int

def PO.cells (o:PO):List AV:=[.int .i64 o.num,.str o.name,.str o.alias,.int .i64 o.card,.int .i64 o.key,.int .i64 o.kind,.int .i64 o.target,.int .i64 o.union]

structure PO.ok (M:Nat)(o:PO):Prop where
 num:(Lit.int .i64 o.num).wf=true
 name:o.name.length≤M
 alias:o.alias.length≤M
 card:(Lit.int .i64 o.card).wf=true
 key:(Lit.int .i64 o.key).wf=true
 kind:(Lit.int .i64 o.kind).wf=true
 target:(Lit.int .i64 o.target).wf=true
 union:(Lit.int .i64 o.union).wf=true

structure PG where
 name:List UInt8
 ops:List PO
 unions:Int

def PG.cells (g:PG):List AV:=[.str g.name,.list (g.ops.map fun o=>.agg o.cells),.int .i64 g.unions]

structure PG.ok (M:Nat)(g:PG):Prop where
 name:g.name.length≤M
 len:g.ops.length≤maxLen
 ops:∀o∈g.ops,o.ok M
 unions:(Lit.int .i64 g.unions).wf=true

structure PS where
 lo:Int
 hi:Int

def PS.cells (x:PS):List AV:=[.int .i64 x.lo,.int .i64 x.hi]
def PS.ok (x:PS):Prop:=(Lit.int .i64 x.lo).wf=true∧(Lit.int .i64 x.hi).wf=true

theorem FW {M k:Nat}{cs:List AV}(h:Q9 Tryz.prog M k 171 cs):∃x:PS,x.ok∧cs=x.cells:=by
 obtain⟨k,h⟩:=XW Tryz.underlying171 h;simp only[Q9.HasL]at h;obtain⟨_,_,rfl,h0,_,_,rfl,h1,rfl⟩:=h;obtain⟨a0,rfl,w0⟩:=Zc Tryz.underlying3 h0;obtain⟨a1,rfl,w1⟩:=Zc Tryz.underlying3 h1;exact⟨⟨a0,a1⟩,⟨w0,w1⟩,rfl⟩

structure PN where
 name:List UInt8
 val:List AV

def PN.cells (x:PN):List AV:=.str x.name :: x.val
def PN.ok (P:Program)(M:Nat)(t:TypeId)(x:PN):Prop:=x.name.length≤M∧∃k,Q9 P M k t x.val

structure PI where
 name:List UInt8
 num:Int
 notes:List PN

def PI.cells (x:PI):List AV:=[.str x.name,.int .i64 x.num,.list (x.notes.map fun n=>Q1 n.cells)]

structure PI.ok (M:Nat)(x:PI):Prop where
 name:x.name.length≤M
 num:(Lit.int .i64 x.num).wf=true
 len:x.notes.length≤maxLen
 notes:∀n∈x.notes,n.ok Tryz.prog M 76

structure PE where
 name:List UInt8
 opn:Bool
 items:List PI
 free:List PS
 notes:List PN

def PE.cells (x:PE):List AV:=[.str x.name,.bool x.opn,.list (x.items.map fun n=>.agg n.cells),.list (x.free.map fun n=>.agg n.cells),.list (x.notes.map fun n=>Q1 n.cells)]

structure PE.ok (M:Nat)(x:PE):Prop where
 name:x.name.length≤M
 len1:x.items.length≤maxLen
 items:∀n∈x.items,n.ok M
 len2:x.free.length≤maxLen
 free:∀n∈x.free,n.ok
 len3:x.notes.length≤maxLen
 notes:∀n∈x.notes,n.ok Tryz.prog M 76

structure PL where
 progs:List PG
 enums:List PE

def PL.av (p:PL):AV:=.agg [.list (p.progs.map fun n=>.agg n.cells),.list (p.enums.map fun n=>.agg n.cells)]

structure PL.ok (M:Nat)(x:PL):Prop where
 len1:x.progs.length≤maxLen
 progs:∀n∈x.progs,n.ok M
 len2:x.enums.length≤maxLen
 enums:∀n∈x.enums,n.ok M

end Go.Proofs.YtjjmjopabpakoaaGreatDoor.Br

namespace Go.Proofs.YtjjmjopabpakoaaGreatDoor.Vp

def Qdq:Nat→Nat→List UInt8
 |0,u=>[UInt8.ofNat u]
 |k+1,u=>if u<128 then [UInt8.ofNat u]else UInt8.ofNat (u % 128+128) :: Qdq k (u / 128)

def put (u:Nat):List UInt8:=Qdq 9 u

def H1:Nat→Nat→List UInt8→Nat×Nat×Nat
 |_,_,[]=>(0,0,4)
 |i,acc,c :: t=>
  if i=9∧1<c.toNat then(0,0,6)
  else if c.toNat<128 then(acc+c.toNat*128 ^ i,i+1,0)
  else H1 (i+1) (acc+(c.toNat-128)*128 ^ i) t

def take (s:List UInt8):Nat×Nat×Nat:=H1 0 0 s

theorem UW (n:Nat)(h:n<256):(UInt8.ofNat n).toNat=n:=by
 simp[UInt8.toNat_ofNat'];omega

theorem CB (i acc:Nat)(s t:List UInt8)(h:(H1 i acc s).2.2≠4):H1 i acc (s++t)=H1 i acc s:=by
 induction s generalizing i acc with
 |nil=>simp[H1]at h
 |cons c r ih=>
  simp only[QVD];unfold H1 at h ⊢;split
  ·rfl
  ·rename_i h1;rw[QVp h1]at h;split
   ·rfl
   ·rename_i h2;rw[QVp h2]at h;exact ih _ _ h

theorem I1 (i acc:Nat)(s:List UInt8)(hi:i≤9)(hl:10≤i+s.length):(H1 i acc s).2.2≠4:=by
 induction s generalizing i acc with
 |nil=>simp at hl;omega
 |cons c r ih=>
  unfold H1;split
  ·simp
  ·rename_i h1;split
   ·simp
   ·rename_i h2;exact ih _ _ (by omega) (by simp at hl;omega)

theorem take_take (s:List UInt8):take (s.take 10)=take s:=by
 rcases Nat.lt_or_ge s.length 10 with h|h
 ·rw[QVQ (by omega)]
 ·have:=CB 0 0 (s.take 10) (s.drop 10) (I1 0 0 _ (by omega) (by simp;omega));rw[QWu]at this;exact this.symm

end Go.Proofs.YtjjmjopabpakoaaGreatDoor.Vp

namespace Go.Proofs.YtjjmjopabpakoaaGreatDoor.Bt
open Go

theorem Tt (n:Int):IntKind.u64.wrap n=n % 18446744073709551616:=by simp[IntKind.wrap,IntKind.bits,IntKind.signed]
theorem Jb (n:Int):IntKind.i64.wrap n=(n+9223372036854775808) % 18446744073709551616-9223372036854775808:=IntKind.wrap_i64 n

theorem DB {n:Nat}(h:n<18446744073709551616):(BitVec.ofInt 64 (n:Int)).toNat=n:=by
 simp;omega

theorem NZ (a b:Nat)(ha:a<18446744073709551616)(hb:b<18446744073709551616):bits .and .u64 (a:Int) (b:Int)=((a &&& b:Nat):Int):=by
 have hx:a &&& b<2 ^ 64:=Nat.and_lt_two_pow _ (by omega);show IntKind.u64.wrap ((BitVec.ofInt 64 (a:Int) &&& BitVec.ofInt 64 (b:Int)).toNat:Int)=_;rw[BitVec.toNat_and,DB ha,DB hb,Tt];omega
end Go.Proofs.YtjjmjopabpakoaaGreatDoor.Bt

namespace Go.Proofs.YtjjmjopabpakoaaGreatDoor.Cp
open Go Am Bt Vp

structure C where
 d:List UInt8
 a:Int
 e:Int
 dp:Int
 nd:Int
 tx:Int

def C.av (c:C):AV:=.agg [.str c.d,.int .i64 c.a,.int .i64 c.e,.int .i64 c.dp,.int .i64 c.nd,.int .i64 c.tx]
def zc:C:=⟨[],0,0,0,0,0⟩

structure L where
 b:Int
 dp:Int
 nd:Int
 tx:Int
def L.av (l:L):AV:=.agg [.int .i64 l.b,.int .i64 l.dp,.int .i64 l.nd,.int .i64 l.tx]

def C.sound (c:C):Bool:=decide (0≤c.a)&&decide (c.a≤c.e)&&decide (c.e≤(c.d.length:Int))
def C.rest (c:C):List UInt8:=bif c.sound then(c.d.drop c.a.toNat).take (c.e.toNat-c.a.toNat)else []
def C.left (c:C):Int:=(c.rest.length:Int)
def C.ahead (c:C)(n:Int):C:={ c with a:=IntKind.i64.wrap (c.a+n) }

def opn (s:List UInt8)(l:L):C×Nat :=
 if l.b<0∨l.dp<0∨l.nd<0∨l.tx<0 then(zc,1)else if l.b<(s.length:Int)then(zc,3)else(⟨s,0,s.length,l.dp,l.nd,l.tx⟩,0)

def C.varint (c:C):Nat×C×Nat :=
 let r:=Vp.take c.rest
 if r.2.2=0 then(r.1,c.ahead r.2.1,0)else(0,c,r.2.2)

def QMt (s:List UInt8):Nat:=(s.take 8).foldr (fun b u=>256*u+b.toNat) 0

def C.fixed (c:C):Nat×C×Nat :=
 if c.rest.length<8 then(0,c,4)else(QMt c.rest,c.ahead 8,0)

def C.spend (c:C)(n:Int):C×Nat :=
 if n<0 then(c,1)else if c.nd<n then(c,3)else({ c with nd:=IntKind.i64.wrap (c.nd-n) },0)

end Go.Proofs.YtjjmjopabpakoaaGreatDoor.Cp

namespace Go.Proofs.YtjjmjopabpakoaaGreatDoor.Up
open Go Am Bt Vp Cp

structure R where
 num:Int
 wire:Int
 bits:Nat
 data:List UInt8
 deriving DecidableEq

def R.av (f:R):AV:=.agg [.int .i64 f.num,.int .i64 f.wire,.int .u64 (f.bits:Nat),.str f.data]
def zr:R:=⟨0,0,0,[]⟩

def I2 (c:C):Int×Int×C×Nat :=
 let r:=c.varint
 if r.2.2=0 then
  if r.1 % 8=7 then(0,0,c,5)else if r.1 / 8<1∨65535<r.1 / 8 then(0,0,c,6)else((r.1 / 8:Nat),(r.1 % 8:Nat),r.2.1,0)
 else(0,0,c,r.2.2)
def N0 (c:C)(wire:Int):List UInt8×C×Nat :=
 let r:=c.varint
 if r.2.2=0 then
  if r.2.1.left<(r.1:Int)then([],c,4)
  else if (if wire=3 then c.tx else 65536)<(r.1:Int)then([],c,3)
  else((r.2.1.d.drop r.2.1.a.toNat).take r.1,r.2.1.ahead r.1,0)
 else([],c,r.2.2)
def QMu (c:C)(f:R):R×C×Nat :=
 if f.wire=2 then({ f with bits:=c.fixed.1 },c.fixed.2.1,c.fixed.2.2)
 else if f.wire=0∨f.wire=1 then({ f with bits:=c.varint.1 },c.varint.2.1,c.varint.2.2)
 else({ f with data:=(N0 c f.wire).1 },(N0 c f.wire).2.1,(N0 c f.wire).2.2)

def nxt (c:C):R×C×Nat :=
 let t:=I2 c
 if t.2.2.2=0 then
  let s:=t.2.2.1.spend 1
  if s.2=0 then
   let k:=QMu s.1 { num:=t.1,wire:=t.2.1,bits:=0,data:=[] }
   if k.2.2=0 then k else(zr,c,k.2.2)
  else(zr,c,s.2)
 else(zr,c,t.2.2.2)
end Go.Proofs.YtjjmjopabpakoaaGreatDoor.Up

namespace Go.Proofs.YtjjmjopabpakoaaGreatDoor.Br
open Go Am Up

theorem I3 {M k:Nat}{cs:List AV}(h:Q9 Tryz.prog M k 295 cs):∃f:R,((Lit.int .i64 f.num).wf=true∧(Lit.int .i64 f.wire).wf=true∧(Lit.int .u64 (f.bits:Int)).wf=true∧f.data.length≤M)∧.agg cs=f.av:=by
 obtain⟨k,h⟩:=XW Tryz.underlying295 h;simp only[Q9.HasL]at h;obtain⟨_,_,rfl,h0,_,_,rfl,h1,_,_,rfl,h2,_,_,rfl,h3,rfl⟩:=h;obtain⟨a0,rfl,w0⟩:=Zc Tryz.underlying3 h0;obtain⟨a1,rfl,w1⟩:=Zc Tryz.underlying3 h1;obtain⟨a2,rfl,w2⟩:=Zc Tryz.underlying70 h2;obtain⟨a3,rfl,w3⟩:=Zd Tryz.underlying9 h3;have hn:0≤a2:=MB w2;obtain⟨n,rfl⟩:=Int.eq_ofNat_of_zero_le hn;exact⟨⟨a0,a1,n,a3⟩,⟨w0,w1,w2,w3⟩,rfl⟩

end Go.Proofs.YtjjmjopabpakoaaGreatDoor.Br

set_option linter.unusedSimpArgs false
namespace Go.Proofs.YtjjmjopabpakoaaGreatDoor.Br
open Go Am Up

inductive V where
 |mk (k:Int) (b:Nat) (t:List UInt8) (l:List V) (p:List (V×V)) (s:List (Int×V)) (r:List R)
 deriving Inhabited

mutual
def V.cells:V→List AV
 |.mk k b t l p s r=>[.int .i64 k,.int .u64 (b:Nat),.str t,.list (V.cl l),.list (V.cp p),.list (V.cs s),.list (r.map R.av)]
def V.cl:List V→List AV
 | []=>[]
 |x :: l=>.agg x.cells :: V.cl l
def V.cp:List (V×V)→List AV
 | []=>[]
 |(a,b) :: l=>.agg (a.cells++b.cells) :: V.cp l
def V.cs:List (Int×V)→List AV
 | []=>[]
 |(n,a) :: l=>.agg (.int .i64 n :: a.cells) :: V.cs l
end

def V.kd:V→Int|.mk k _ _ _ _ _ _=>k
def V.bits:V→Nat|.mk _ b _ _ _ _ _=>b
def V.text:V→List UInt8|.mk _ _ t _ _ _ _=>t
def V.list:V→List V|.mk _ _ _ l _ _ _=>l
def V.pairs:V→List (V×V)|.mk _ _ _ _ p _ _=>p
def V.slots:V→List (Int×V)|.mk _ _ _ _ _ s _=>s
def V.raws:V→List R|.mk _ _ _ _ _ _ r=>r

def V.av (v:V):AV:=.agg v.cells
def V.pav (p:V×V):AV:=.agg (p.1.cells++p.2.cells)
def V.sav (s:Int×V):AV:=.agg (.int .i64 s.1 :: s.2.cells)

theorem V.cl_eq:∀l:List V,V.cl l=l.map V.av
 | []=>rfl
 |x :: l=>by rw[V.cl,V.cl_eq l];rfl
theorem V.cp_eq:∀l:List (V×V),V.cp l=l.map V.pav
 | []=>rfl
 |(a,b) :: l=>by rw[V.cp,V.cp_eq l];rfl
theorem V.cs_eq:∀l:List (Int×V),V.cs l=l.map V.sav
 | []=>rfl
 |(n,a) :: l=>by rw[V.cs,V.cs_eq l];rfl

theorem V.eta:∀v:V,v.cells=[.int .i64 v.kd,.int .u64 (v.bits:Nat),.str v.text,.list (v.list.map V.av),.list (v.pairs.map V.pav),.list (v.slots.map V.sav),.list (v.raws.map R.av)]
 |.mk k b t l p s r=>by rw[V.cells,V.cl_eq,V.cp_eq,V.cs_eq];rfl

theorem V.ind {P:V→Prop}(h:∀v:V,(∀x∈v.list,P x)→(∀x∈v.pairs,P x.1∧P x.2)→(∀x∈v.slots,P x.2)→P v)(v:V):P v :=
 V.rec (motive_1:=P) (motive_2:=fun l=>∀x∈l,P x) (motive_3:=fun p=>∀x∈p,P x.1∧P x.2) (motive_4:=fun s=>∀x∈s,P x.2) (motive_5:=fun q=>P q.1∧P q.2) (motive_6:=fun q=>P q.2)
  (fun k b t l p s r hl hp hs=>h (.mk k b t l p s r) hl hp hs)
  (by simp) (fun a l ha hl=>by simpa using ⟨ha,hl⟩)
  (by simp) (fun a l ha hl=>by simp only[QWy,forall_eq_or_imp];exact⟨ha,hl⟩)
  (by simp) (fun a l ha hl=>by simp only[QWy,forall_eq_or_imp];exact⟨ha,hl⟩)
  (fun a b ha hb=>⟨ha,hb⟩) (fun n a ha=>ha) v

structure _root_.Go.Proofs.YtjjmjopabpakoaaGreatDoor.Up.R.ok (M:Nat)(f:R):Prop where
 num:(Lit.int .i64 f.num).wf=true
 wire:(Lit.int .i64 f.wire).wf=true
 bits:(Lit.int .u64 (f.bits:Int)).wf=true
 data:f.data.length≤M

inductive V.ok (M:Nat):V→Prop
 |mk {v:V} (kd:(Lit.int .i64 v.kd).wf=true) (bits:(Lit.int .u64 (v.bits:Int)).wf=true) (text:v.text.length≤M) (nl:v.list.length≤1099511627776) (np:v.pairs.length≤549755813888) (ns:v.slots.length≤1099511627776) (nr:v.raws.length≤70368744177664)
   (list:∀x∈v.list,V.ok M x) (keys:∀x∈v.pairs,V.ok M x.1) (vals:∀x∈v.pairs,V.ok M x.2) (nums:∀x∈v.slots,(Lit.int .i64 x.1).wf=true) (slots:∀x∈v.slots,V.ok M x.2) (raws:∀x∈v.raws,x.ok M):V.ok M v

section
variable {M:Nat}{v:V}(h:v.ok M)
include h
theorem V.ok.kd:(Lit.int .i64 v.kd).wf=true:=by cases h;assumption
theorem V.ok.bits:(Lit.int .u64 (v.bits:Int)).wf=true:=by cases h;assumption
theorem V.ok.text:v.text.length≤M:=by cases h;assumption
theorem V.ok.nl:v.list.length≤1099511627776:=by cases h;assumption
theorem V.ok.np:v.pairs.length≤549755813888:=by cases h;assumption
theorem V.ok.ns:v.slots.length≤1099511627776:=by cases h;assumption
theorem V.ok.nr:v.raws.length≤70368744177664:=by cases h;assumption
theorem V.ok.list:∀x∈v.list,x.ok M:=by cases h;assumption
theorem V.ok.keys:∀x∈v.pairs,x.1.ok M:=by cases h;assumption
theorem V.ok.vals:∀x∈v.pairs,x.2.ok M:=by cases h;assumption
theorem V.ok.nums:∀x∈v.slots,(Lit.int .i64 x.1).wf=true:=by cases h;assumption
theorem V.ok.slots:∀x∈v.slots,x.2.ok M:=by cases h;assumption
theorem V.ok.raws:∀x∈v.raws,x.ok M:=by cases h;assumption
end

theorem V.cells_length (v:V):v.cells.length=7:=by rw[V.eta];rfl

theorem WX {c:List AV}(h:2≤c.length):Q1 c=.agg c:=by
 match c,h with
 |_ :: _ :: _,_=>rfl

theorem AD {M:Nat}(hM:M=reachBytes∨M≤1048576):∀ {k:Nat} {cs:List AV},Q9 Tryz.prog M k 76 cs→∃v:V,v.ok M∧cs=v.cells:=by
 intro k
 induction k using Nat.strongRecOn with
 |ind k ih=>
 intro cs h;cases k with
 |zero=>cases h
 |succ k=>
 simp only[Q9,Tryz.underlying76,Q9.HasL]at h;obtain⟨_,_,rfl,h0,_,_,rfl,h1,_,_,rfl,h2,_,_,rfl,h3,_,_,rfl,h4,_,_,rfl,h5,_,_,rfl,h6,rfl⟩:=h;obtain⟨a0,rfl,w0⟩:=Zc Tryz.underlying3 h0;obtain⟨a1,rfl,w1⟩:=Zc Tryz.underlying70 h1;obtain⟨a2,rfl,w2⟩:=Zd Tryz.underlying9 h2;have hb:0≤a1:=MB w1;obtain⟨b,rfl⟩:=Int.eq_ofNat_of_zero_le hb;have sl:∀ {k0:Nat} {t e:TypeId} {cs:List AV},k0≤k→Tryz.prog.underlying t=some (.slice e)→Q9 Tryz.prog M k0 t cs→∃(k':Nat) (l:List (List AV)),k'<k∧cs=[.list (l.map Q1)]∧(l.length≤M∧(M=reachBytes→l.length*Tryz.prog.bytesOf e≤M))∧∀c∈l,Q9 Tryz.prog M k' e c:=by
  intro k0 t e cs hk hu h;cases k0 with
  |zero=>cases h
  |succ k0=>
   simp only[Q9,hu]at h;obtain⟨l,h1,h4,h3,h2⟩:=h;exact⟨k0,l,by omega,h1,⟨h2,h4.2⟩,h3⟩
 have nb:∀ {n b:Nat} (c:Nat),(n≤M∧(M=reachBytes→n*b≤M))→1048576≤c→(n*b≤140737488351232→n≤c)→n≤c:=fun c h1 h2 h3=>by
  rcases hM with e|e
  ·refine h3 (QVj (h1.2 e) ?_);rw[e];exact QVi _
  ·exact QVj h1.1 (QVj e h2)
 have y1:Tryz.prog.bytesOf 76=128:=by decide +kernel
 have y2:Tryz.prog.bytesOf 291=256:=by decide +kernel
 have y3:Tryz.prog.bytesOf 293=136:=by decide +kernel
 have y4:Tryz.prog.bytesOf 295=40:=by decide +kernel
 obtain⟨k3,l3,b3,rfl,w3,hl3⟩:=sl (QVi _) Tryz.underlying71 h3;obtain⟨k4,l4,b4,rfl,w4,hl4⟩:=sl (QVi _) Tryz.underlying72 h4;obtain⟨k5,l5,b5,rfl,w5,hl5⟩:=sl (QVi _) Tryz.underlying73 h5;obtain⟨k6,l6,b6,rfl,w6,hl6⟩:=sl (QVi _) Tryz.underlying74 h6;obtain⟨vs,rfl,hvs⟩:=Xs (f:=V.cells) (ok:=V.ok M) fun c hc=>ih k3 (by omega) (hl3 c hc)
 obtain⟨ps,rfl,hps⟩:=Xs (l:=l4) (f:=fun p:V×V=>p.1.cells++p.2.cells) (ok:=fun p=>p.1.ok M∧p.2.ok M) fun c hc=>by
  have h:=hl4 c hc;cases k4 with
  |zero=>cases h
  |succ k4=>
  simp only[Q9,Tryz.underlying291,Q9.HasL]at h;obtain⟨a,_,rfl,h0,b,_,rfl,h1,rfl⟩:=h;obtain⟨x,hx,rfl⟩:=ih k4 (by omega) h0;obtain⟨y,hy,rfl⟩:=ih k4 (by omega) h1;exact⟨(x,y),⟨hx,hy⟩,by simp⟩
 obtain⟨ss,rfl,hss⟩:=Xs (l:=l5) (f:=fun s:Int×V=>.int .i64 s.1 :: s.2.cells) (ok:=fun s=>(Lit.int .i64 s.1).wf=true∧s.2.ok M) fun c hc=>by
  have h:=hl5 c hc;cases k5 with
  |zero=>cases h
  |succ k5=>
  simp only[Q9,Tryz.underlying293,Q9.HasL]at h;obtain⟨_,_,rfl,h0,b,_,rfl,h1,rfl⟩:=h;obtain⟨a0,rfl,w0⟩:=Zc Tryz.underlying3 h0;obtain⟨y,hy,rfl⟩:=ih k5 (by omega) h1;exact⟨(a0,y),⟨w0,hy⟩,by simp⟩
 obtain⟨rs,rfl,hrs⟩:=Xs (l:=l6) (f:=fun r:R=>r.av.cells) (ok:=R.ok M) fun c hc=>by
  obtain⟨f,⟨g1,g2,g3,g4⟩,e⟩:=I3 (hl6 c hc);refine⟨f,⟨g1,g2,g3,g4⟩,?_⟩;rw[←e];rfl
 refine⟨.mk a0 b a2 vs ps ss rs,.mk w0 w1 w2 (by rw[QWE,y1]at w3;exact nb _ w3 (by decide) (by omega)) (by rw[QWE,y2]at w4;exact nb _ w4 (by decide) (by omega)) (by rw[QWE,y3]at w5;exact nb _ w5 (by decide) (by omega)) (by rw[QWE,y4]at w6;exact nb _ w6 (by decide) (by omega)) hvs (fun x hx=>(hps x hx).1) (fun x hx=>(hps x hx).2) (fun x hx=>(hss x hx).1) (fun x hx=>(hss x hx).2) hrs,?_⟩;rw[V.eta];have e3:(vs.map V.cells).map Q1=vs.map V.av:=by
  rw[QWW];exact QWV fun c _=>WX (by rw[V.cells_length];omega)
 have e4:(ps.map (fun p=>p.1.cells++p.2.cells)).map Q1=ps.map V.pav:=by
  rw[QWW];exact QWV fun p _=>WX (by rw[QVU,V.cells_length];omega)
 have e5:(ss.map (fun s=>AV.int .i64 s.1 :: s.2.cells)).map Q1=ss.map V.sav:=by
  rw[QWW];exact QWV fun p _=>WX (by rw[QVx,V.cells_length];omega)
 have e6:(rs.map (fun r=>r.av.cells)).map Q1=rs.map R.av:=by
  rw[QWW];exact QWV fun r _=>rfl
 rw[e3,e4,e5,e6];rfl

end Go.Proofs.YtjjmjopabpakoaaGreatDoor.Br

namespace Go.Proofs.YtjjmjopabpakoaaGreatDoor.Br
open Go Am

structure SN where
 name:List UInt8
 val:V
def SN.cells (x:SN):List AV:=.str x.name :: x.val.cells
structure SN.ok (M:Nat)(x:SN):Prop where
 name:x.name.length≤M
 val:x.val.ok M

structure SF where
 num:Int
 name:List UInt8
 card:Int
 key:Int
 kind:Int
 tname:List UInt8
 union:List UInt8
 hasd:Bool
 dflt:V
 notes:List SN
def SF.cells (x:SF):List AV:=[.int .i64 x.num,.str x.name,.int .i64 x.card,.int .i64 x.key,.int .i64 x.kind,.str x.tname,.str x.union,.bool x.hasd]++(x.dflt.cells++[.list (x.notes.map fun n=>.agg n.cells)])
structure SF.ok (M:Nat)(x:SF):Prop where
 num:(Lit.int .i64 x.num).wf=true
 name:x.name.length≤M
 card:(Lit.int .i64 x.card).wf=true
 key:(Lit.int .i64 x.key).wf=true
 kind:(Lit.int .i64 x.kind).wf=true
 tname:x.tname.length≤M
 union:x.union.length≤M
 dflt:x.dflt.ok M
 len:x.notes.length≤M
 notes:∀n∈x.notes,n.ok M

structure SM where
 name:List UInt8
 fields:List SF
 free:List PS
 gone:List (List UInt8)
 notes:List SN
def SM.cells (x:SM):List AV:=[.str x.name,.list (x.fields.map fun n=>.agg n.cells),.list (x.free.map fun n=>.agg n.cells),.list (x.gone.map AV.str),.list (x.notes.map fun n=>.agg n.cells)]
structure SM.ok (M:Nat)(x:SM):Prop where
 name:x.name.length≤M
 len1:x.fields.length≤M
 fields:∀n∈x.fields,n.ok M
 len2:x.free.length≤M
 free:∀n∈x.free,n.ok
 len3:x.gone.length≤M
 gone:∀n∈x.gone,n.length≤M
 len4:x.notes.length≤M
 notes:∀n∈x.notes,n.ok M

structure SI where
 name:List UInt8
 num:Int
 notes:List SN
def SI.cells (x:SI):List AV:=[.str x.name,.int .i64 x.num,.list (x.notes.map fun n=>.agg n.cells)]
structure SI.ok (M:Nat)(x:SI):Prop where
 name:x.name.length≤M
 num:(Lit.int .i64 x.num).wf=true
 len:x.notes.length≤M
 notes:∀n∈x.notes,n.ok M

structure SE where
 name:List UInt8
 opn:Bool
 items:List SI
 free:List PS
 notes:List SN
def SE.cells (x:SE):List AV:=[.str x.name,.bool x.opn,.list (x.items.map fun n=>.agg n.cells),.list (x.free.map fun n=>.agg n.cells),.list (x.notes.map fun n=>.agg n.cells)]
structure SE.ok (M:Nat)(x:SE):Prop where
 name:x.name.length≤M
 len1:x.items.length≤M
 items:∀n∈x.items,n.ok M
 len2:x.free.length≤M
 free:∀n∈x.free,n.ok
 len3:x.notes.length≤M
 notes:∀n∈x.notes,n.ok M

structure SO where
 name:List UInt8
 inn:List UInt8
 out:List UInt8
 shape:Int
 notes:List SN
def SO.cells (x:SO):List AV:=[.str x.name,.str x.inn,.str x.out,.int .i64 x.shape,.list (x.notes.map fun n=>.agg n.cells)]
structure SO.ok (M:Nat)(x:SO):Prop where
 name:x.name.length≤M
 inn:x.inn.length≤M
 out:x.out.length≤M
 shape:(Lit.int .i64 x.shape).wf=true
 len:x.notes.length≤M
 notes:∀n∈x.notes,n.ok M

structure SQ where
 name:List UInt8
 meths:List SO
 notes:List SN
def SQ.cells (x:SQ):List AV:=[.str x.name,.list (x.meths.map fun n=>.agg n.cells),.list (x.notes.map fun n=>.agg n.cells)]
structure SQ.ok (M:Nat)(x:SQ):Prop where
 name:x.name.length≤M
 len1:x.meths.length≤M
 meths:∀n∈x.meths,n.ok M
 len2:x.notes.length≤M
 notes:∀n∈x.notes,n.ok M

structure SC where
 msgs:List SM
 enums:List SE
 servs:List SQ
def SC.av (x:SC):AV:=.agg [.list (x.msgs.map fun n=>.agg n.cells),.list (x.enums.map fun n=>.agg n.cells),.list (x.servs.map fun n=>.agg n.cells)]
structure SC.ok (M:Nat)(x:SC):Prop where
 len1:x.msgs.length≤M
 msgs:∀n∈x.msgs,n.ok M
 len2:x.enums.length≤M
 enums:∀n∈x.enums,n.ok M
 len3:x.servs.length≤M
 servs:∀n∈x.servs,n.ok M

end Go.Proofs.YtjjmjopabpakoaaGreatDoor.Br

namespace Go.Proofs.YtjjmjopabpakoaaGreatDoor.Am
open Go

variable {P:Program}{f:Fr}{m:Qo}{ds:List DF}{its:List Item}{d:Nat}

theorem DC {K:St→Prop}{sz bytes el:Nat}{s r:RA}{site g n:Nat}{fr:Nat→Ob}{xs ys:List AV}(hs:s.ev f=.vec 0 site g 0 n false)(hl:fr site=.vec g sz xs)(ht:XC site el=true)(hn:n=xs.length)(hr:r.ev f=.list ys)(hz:ys.all (fun e=>e.cells.length==sz)=true)(hm:n+ys.length≤maxLen)(hb:(n+ys.length)*bytes≤140737488355328)
  (h:Ql P its ⟨Qn f d (.list (xs++ys)),Qn fr site (.vec (g+1+1) sz []) :: m,ds⟩ K):Ql P (⟨some d,.appl sz bytes el s r,none⟩ :: its) ⟨f,fr :: m,ds⟩ K:=by
 refine⟨site,g,n,xs,ys,hs,hl,ht,by omega,?_,hz,hm,hb,?_⟩
 ·show Xj (fr :: m) (r.ev f)=some ys;rw[hr];rfl
 ·subst hn;rw[QWQ];exact h

def H2:List Nat→RC→RC
 | [],a=>a
 |s :: l,a=>.gho (.drop s) (H2 l a)
def Yp:List Nat→AV→AV
 | [],x=>x
 |s :: l,x=>Yp l (x.scrub s)
def KL:List Nat→Ob→Ob
 | [],x=>x
 |s :: l,x=>KL l (x.scrub s)

theorem CC (l:List Nat):KL l .none=.none:=by
 induction l with
 |nil=>rfl
 |cons s l ih=>exact ih

theorem QR {Q:Exit→St→Prop}{a:RC}(l:List Nat):∀ {f:Fr} {fr:Nat→Ob},(∀s∈l,(fr s).isRow=false)→
  (∀f' fr',(∀i,f' i=Yp l (f i))→(∀i,i∉l→fr' i=KL l (fr i))→(∀i∈l,fr' i=.none)→QJ P a ⟨f',fr' :: m,[]⟩ Q)→QJ P (H2 l a) ⟨f,fr :: m,[]⟩ Q:=by
 induction l with
 |nil=>intro f fr _ h;exact h f fr (fun _=>rfl) (fun _ _=>rfl) (fun _ h=>by cases h)
 |cons s l ih=>
  intro f fr hr h;show QJ P (.gho (.drop s) (H2 l a)) _ _;rw[Mo];refine⟨hr s (by simp),?_⟩;show QJ P (H2 l a) ⟨_,_ :: m,[]⟩ Q;refine ih ?_ ?_
  ·intro t ht;by_cases e:t=s
   ·subst e;rw[QP];rfl
   ·rw[QX _ _ e,US];exact hr t (by simp[ht])
  ·intro f' fr' h1 h2 h3;refine h f' fr' h1 ?_ ?_
   ·intro i hi;rw[h2 i (fun h=>hi (QVy _ h)),QX _ _ (fun e=>hi (by rw[e];exact QVA))];rfl
   ·intro i hi;by_cases hl:i∈l
    ·exact h3 i hl
    ·have e:i=s:=by
      rcases QWy.1 hi with e|e
      ·exact e
      ·exact absurd e hl
     rw[h2 i hl,e,QP,CC]

def JX:Ob→Nat
 |.vec g _ _=>g+1
 |_=>1

theorem Y8 {fr:Nat→Ob}{s:Nat}:QD (fr :: m) 0 s=JX (fr s):=by
 unfold QD JX;rfl

theorem CD {K:St→Prop}{neg:Bool}{r:RA}{ys:List AV}(hr:r.ev f=.list ys)(h0:Ql P its ⟨Qn f d (.bool neg),m,ds⟩ K)(h1:ys=[]∨QS ys=[]→Ql P its ⟨Qn f d (.bool (!neg)),m,ds⟩ K):Ql P (⟨some d,.isnil neg r,none⟩ :: its) ⟨f,m,ds⟩ K:=by
 refine⟨ys,?_,fun _=>h0,fun e=>h1 ?_⟩
 ·show Xj m (r.ev f)=some ys;rw[hr];rfl
 ·rcases e with e|e
  ·have e:r.ev f=.nils:=e;rw[hr]at e;cases e
  ·exact .inr e

theorem Qdr {K:St→Prop}{sz:Nat}:Ql P (⟨some d,.lit0 sz,none⟩ :: its) ⟨f,m,ds⟩ K=Ql P its ⟨Qn f d (.lcap []),m,ds⟩ K:=id rfl
theorem DD {K:St→Prop}{sz bytes el:Nat}{s r:RA}{xs ys:List AV}(hs:s.ev f=.lcap xs)(hr:r.ev f=.list ys)(hx:xs.all (fun e=>e.cells.length==sz)=true)(hy:ys.all (fun e=>e.cells.length==sz)=true)(hm:xs.length+ys.length≤maxLen)(hb:(xs.length+ys.length)*bytes≤140737488355328)
  (h:Ql P its ⟨Qn f d (.list (xs++ys)),m,ds⟩ K):Ql P (⟨some d,.appe sz bytes el s r,none⟩ :: its) ⟨f,m,ds⟩ K:=⟨xs,ys,hs,hr,hx,hy,hm,hb,h⟩
theorem DE {K:St→Prop}{site sz:Nat}{fr:Nat→Ob}(hs:Qr (fr site)=true)
  (h:Ql P its ⟨Qn f d (.vec 0 site (JX (fr site)) 0 0 false),Qn fr site (.vec (JX (fr site)) sz []) :: m,ds⟩ K):Ql P (⟨some d,.bsl0 site sz,none⟩ :: its) ⟨f,fr :: m,ds⟩ K :=
 ⟨hs,h⟩

theorem MG {K:St→Prop}{site sz len:Nat}{z:List AV}{ps:List (Nat×Nat×RA)}{fr:Nat→Ob}{y:List AV}(hy:fill f ps (Xt z sz len)=some y)(h1:AV.rfL y=true)(h2:y.all AV.leaf=true)(hs:Qr (fr site)=true)
  (h:Ql P its ⟨Qn f d (.vec 0 site (JX (fr site)) 0 len false),Qn fr site (.vec (JX (fr site)) sz (XP sz len (y.map nn0))) :: m,ds⟩ K):Ql P (⟨some d,.bslv site sz len z ps,none⟩ :: its) ⟨f,fr :: m,ds⟩ K :=
 ⟨y,hy,h1,h2,hs,h⟩

theorem Yq {K:St→Prop}{site sz:Nat}{z l:List AV}{r:RA}{fr:Nat→Ob}(hr:r.ev f=.agg l)(hl:l.length=sz)(h1:sz≠1)(hf:AV.rfL l=true)(hlf:l.all AV.leaf=true)(hs:Qr (fr site)=true)
  (h:Ql P its ⟨Qn f d (.vec 0 site (JX (fr site)) 0 1 false),Qn fr site (.vec (JX (fr site)) sz [.agg (l.map nn0)]) :: m,ds⟩ K):Ql P (⟨some d,.bslv site sz 1 z [(0,sz,r)],none⟩ :: its) ⟨f,fr :: m,ds⟩ K:=by
 have hz:(Xt z sz 1).length=sz:=by simp[Xt]
 have hy:fill f [(0,sz,r)] (Xt z sz 1)=some l:=by
  simp only[fill,hr,AV.cells,hl,hlf,QVH,hz,QVi,QWh,if_true,splice,QWm,QVE];rw[QVT (by omega),QWg]
 have hc:XP sz 1 (l.map nn0)=[.agg (l.map nn0)]:=by
  simp only[XP,QVp h1];rw[QVQ (by rw[QWE];omega)]
 refine MG hy hf hlf hs ?_;rw[hc];exact h

theorem FX {Q:Exit→St→Prop}{a:RC}{s idx site g sz n:Nat}{fr:Nat→Ob}{xs cs:List AV}(h0:fr s=.cells cs)(h1:cs[idx]? = some (.vec 0 site g 0 n false))(h2:fr site=.vec g sz xs)(hn:n≤xs.length)
  (h:QJ P a ⟨f,Qn (Qn fr site (.vec (g+1) sz [])) s (.cells (cs.set idx (.list (xs.take n)))) :: m,ds⟩ Q):QJ P (.gho (.pubc s idx site) a) ⟨f,fr :: m,ds⟩ Q:=by
 refine⟨_,?_,h⟩;have e:Qe (fr :: m) 0 site=.vec g sz xs:=h2;have e0:Qe (fr :: m) 0 s=.cells cs:=h0;simp only[Zx,e0,h1,e];rw[show Nat.beq site site=true from Nat.beq_refl site,show Nat.beq g g=true from Nat.beq_refl g,show Nat.ble (0+n) xs.length=true from Nat.ble_eq_true_of_le (by omega)];rfl

theorem Tu {Q:Exit→St→Prop}{a:RC}{slot site l S g sz o n:Nat}{q:Bool}{fr:Nat→Ob}{xs:List AV}(h1:f slot=.vec 0 site g o n q)(h2:fr site=.vec g sz xs)(hl:l<m.length)(hS:S<2000)(hr:Qr (Qe m l S)=true)
  (h:QJ P a ⟨Qn f slot (.vec (l+1) S (QD m l S) o n q),Qn fr site (.vec (g+1) sz []) :: Am.put m l S (.vec (QD m l S) sz xs),ds⟩ Q):QJ P (.gho (.give slot site (l+1) S) a) ⟨f,fr :: m,ds⟩ Q:=by
 refine⟨_,?_,h⟩;have e:Qe (fr :: m) 0 site=.vec g sz xs:=h2;have e1:Qr (Qe (fr :: m) (l+1) S)=true:=hr;have e2:QD (fr :: m) (l+1) S=QD m l S:=rfl;simp only[Zx,h1,e,e1,e2];rw[show Nat.beq site site=true from Nat.beq_refl site,show Nat.beq g g=true from Nat.beq_refl g,show Nat.blt (l+1) (fr :: m).length=true from Nat.ble_eq_true_of_le (by simp;omega),show Nat.blt S 2000=true from Nat.ble_eq_true_of_le hS];rfl

theorem Xp {K:St→Prop}{k:Nat}{r:RA}{args:List RA}{fa fb ys:List AV}{v:AV}{m':Qo}(hr:r.ev f=.fn (.func k) fa fb)(hk:Qp P k ys m fun x m1=>x=v∧m1=m')(hy:fa++args.map (RA.ev f)++fb=ys)(h:Ql P its ⟨Qn f d v,m',ds⟩ K) :
  Ql P (⟨some d,.callF r args,none⟩ :: its) ⟨f,m,ds⟩ K:=by
 refine⟨k,fa,fb,v,m',hr,?_,h⟩;show Qp P k (fa++args.map (RA.ev f)++fb) m fun x m1=>x=v∧m1=m'
 rw[hy];exact hk

theorem K8 {K:St→Prop}{k:Nat}{r:RA}{args:List RA}{fa fb ys:List AV}{v:AV}(hr:r.ev f=.fn (.func k) fa fb)(hk:Qj P k ys v)(hy:AV.stillL false m (fa++args.map (RA.ev f)++fb)=some ys)(h1:AV.rfL ys=true)(h2:v.rf=true)
  (h3:AV.rfL (fa++args.map (RA.ev f)++fb)=true∨v.nl=true) (h:Ql P its ⟨Qn f d v,m,ds⟩ K):Ql P (⟨some d,.call r args,none⟩ :: its) ⟨f,m,ds⟩ K :=
 ⟨k,fa,fb,ys,v,hr,hy,h1,hk,h2,h3,h⟩

end Go.Proofs.YtjjmjopabpakoaaGreatDoor.Am

namespace Go.Proofs.YtjjmjopabpakoaaGreatDoor.Am
open Go

abbrev FY:=FuncId→Option (RC×List RR×Nat)

def H3 (P:Program)(T:FY):Prop :=
 ∀k c rs N, T k=some (c, rs, N)→∃fn body, P.funcs[k]? = some fn∧fn.body=some body∧(fn.name == "runtime.NumGoroutine")=false∧fn.ntmps=N∧Zg P N c body=true∧JB P fn.results.toList rs=true

abbrev Wi:=FuncId→List AV→Qo→Option (AV×Qo)

def Zj (call:Wi)(d:Option Nat)(op:RO)(st:St):Option St :=
 match op with
 |.val vo=>match QH st.f st.m vo with
  |some x=>some { st with f:=Qm st.f d x }
  |none=>none
 |.allocN s z=>bif XQ st.m s then some { st with m:=Am.put st.m 0 s (.cells z),f:=Qm st.f d (.ptr 0 s 0) } else none
 |.boxN s r=>bif XQ st.m s&&(r.ev st.f).cells.all AV.leaf then some { st with m:=Am.put st.m 0 s (.cells (r.ev st.f).cells),f:=Qm st.f d (.ptr 0 s 0) } else none
 |.store n p r=>bif Nat.beq (r.ev st.f).cells.length n&&(r.ev st.f).cells.all AV.leaf then match Xb st.m (p.ev st.f) (r.ev st.f).cells with
   |some m'=>some { st with m:=m',f:=Qm st.f d (.tup []) }
   |none=>none
  else none
 |.storev l s n p r=>match p.ev st.f with
  |.ptr l' s' _=>bif Nat.beq l' l&&Nat.beq s' s&&Nat.beq (r.ev st.f).cells.length n&&(r.ev st.f).cells.all AV.leaf then match Xb st.m (p.ev st.f) (r.ev st.f).cells with
    |some m'=>some { st with m:=m',f:=Qm st.f d (.tup []) }
    |none=>none
   else none
  |_=>none
 |.app sz bytes el s r=>match s.ev st.f with
  |.vec l site g 0 n false=>match Qe st.m l site with
   |.vec g' sz' xs=>match Xj st.m (r.ev st.f)with
    |some ys=>bif Nat.beq g' g&&Nat.beq sz' sz&&XC site el&&Nat.ble n xs.length&&ys.all (fun e=>e.cells.length==sz)&&Nat.ble (n+ys.length) maxLen&&Nat.ble ((n+ys.length)*bytes) 140737488355328 then
      some { st with m:=Am.put st.m l site (.vec (g+1) sz (xs.take n++ys)),f:=Qm st.f d (.vec l site (g+1) 0 (n+ys.length) false) }
     else none
    |none=>none
   |_=>none
  |_=>none
 |.appl sz bytes el s r=>match s.ev st.f with
  |.vec l site g 0 n false=>match Qe st.m 0 site with
   |.vec g' sz' xs=>match Xj st.m (r.ev st.f)with
    |some ys=>bif Nat.beq l 0&&Nat.beq g' g&&Nat.beq sz' sz&&XC site el&&Nat.ble n xs.length&&ys.all (fun e=>e.cells.length==sz)&&Nat.ble (n+ys.length) maxLen&&Nat.ble ((n+ys.length)*bytes) 140737488355328 then
      some { st with m:=Am.put st.m 0 site (.vec (g+1+1) sz []),f:=Qm st.f d (.list (xs.take n++ys)) }
     else none
    |none=>none
   |_=>none
  |_=>none
 |.call f args=>match f.ev st.f with
  |.fn (.func k) fa fb=>match AV.stillL false st.m (fa++args.map (RA.ev st.f)++fb)with
   |some ys=>bif AV.rfL ys then match call k ys []with
     |some (v,_)=>bif v.rf&&(AV.rfL (fa++args.map (RA.ev st.f)++fb)||v.nl)then some { st with f:=Qm st.f d v } else none
     |none=>none
    else none
   |none=>none
  |_=>none
 |.callF f args=>match f.ev st.f with
  |.fn (.func k) fa fb=>match call k (fa++args.map (RA.ev st.f)++fb) st.m with
   |some (v,m')=>some { st with m:=m',f:=Qm st.f d v }
   |none=>none
  |_=>none
 |.bsl sz len z ps=>match fill st.f ps (Xt z sz len)with
  |some y=>bif AV.rfL y&&y.all AV.leaf then some { st with f:=Qm st.f d (.list (XP sz len (y.map nn0))) } else none
  |none=>none
 |.bslv site sz len z ps=>match fill st.f ps (Xt z sz len)with
  |some y=>bif AV.rfL y&&y.all AV.leaf&&Qr (Qe st.m 0 site)then some { st with m:=Am.put st.m 0 site (.vec (QD st.m 0 site) sz (XP sz len (y.map nn0))),f:=Qm st.f d (.vec 0 site (QD st.m 0 site) 0 len false) } else none
  |none=>none
 |.lit0 _=>some { st with f:=Qm st.f d (.lcap []) }
 |.appe sz bytes _ s r=>match s.ev st.f,r.ev st.f with
  |.lcap xs,.list ys=>bif xs.all (fun e=>e.cells.length==sz)&&ys.all (fun e=>e.cells.length==sz)&&Nat.ble (xs.length+ys.length) maxLen&&Nat.ble ((xs.length+ys.length)*bytes) 140737488355328 then some { st with f:=Qm st.f d (.list (xs++ys)) } else none
  |_,_=>none
 |.bsl0 site sz=>bif Qr (Qe st.m 0 site)then some { st with m:=Am.put st.m 0 site (.vec (QD st.m 0 site) sz []),f:=Qm st.f d (.vec 0 site (QD st.m 0 site) 0 0 false) } else none
 |.isnil neg r=>match r.ev st.f with
  |.nils=>some { st with f:=Qm st.f d (.bool (!neg)) }
  |.list l=>match QS l with
   |_ :: _=>some { st with f:=Qm st.f d (.bool neg) }
   | []=>none
  |_=>none
 |.xb cnt _ s c=>match s.ev st.f,c.ev st.f with
  |.str t,.int .u8 b=>some { st with f:=Qm st.f d (.int .i64 (HP cnt t b)) }
  |_,_=>none
 |.rngs s r=>match r.ev st.f with
  |.str t=>bif XQ st.m s then some { st with m:=Am.put st.m 0 s (.iter (.str t) 0),f:=Qm st.f d (.ptr 0 s 0) } else none
  |_=>none
 |.nxts r=>match r.ev st.f with
  |.ptr l s 0=>match Qe st.m l s with
   |.iter (.str t) p=>bif Nat.blt p t.length then some { st with m:=Am.put st.m l s (.iter (.str t) (p+(Xz t p).2)),f:=Qm st.f d (.tup [.bool true,.int .i64 (p:Nat),.int .i32 ((Xz t p).1:Nat)]) } else some { st with f:=Qm st.f d (.tup [.bool false]) }
   |_=>none
  |_=>none
 |.mkm s=>bif XQ st.m s then some { st with m:=Am.put st.m 0 s (.iter (.mp [] []) 0),f:=Qm st.f d (.mptr 0 s) } else none
 |.mput x i v=>match x.ev st.f with
  |.mptr l s=>match Qe st.m l s with
   |.iter (.mp ks vs) p=>match i.ev st.f with
    |.str k=>bif (v.ev st.f).gr&&AV.grL vs&&Nat.beq ks.length vs.length then some { st with m:=Am.put st.m l s (.iter (.mp (XT k (v.ev st.f) ks vs).1 (XT k (v.ev st.f) ks vs).2) p),f:=Qm st.f d (.tup []) } else none
    |_=>none
   |_=>none
  |_=>none
 |.mk site _ sz bytes z l c=>match l.ev st.f,c.ev st.f with
  |.int _ (.ofNat n),.int _ (.ofNat k)=>bif Nat.ble n k&&Nat.ble k 9223372036854775807&&Nat.ble (bytes*k) 281474976710656&&Qr (Qe st.m 0 site)then
    some { st with m:=Am.put st.m 0 site (.vec (QD st.m 0 site) sz (List.replicate n (Km sz z))),f:=Qm st.f d (.vec 0 site (QD st.m 0 site) 0 n false) }
   else none
  |_,_=>none
where
  isBytes:List AV→List UInt8→Bool
  | [],[]=>true
  |.int .u8 (.ofNat n) :: l,b :: t=>Nat.beq n b.toNat&&isBytes l t
  |_,_=>false

def FZ (call:Wi)(it:Item)(st:St):Option St :=
 match it.g with
 |none=>Zj call it.dst it.op st
 |some (j,want)=>match st.f j with
  |.bool b=>bif b==want then Zj call it.dst it.op st else some { st with f:=Qm st.f it.dst (.tup []) }
  |.tup []=>some { st with f:=Qm st.f it.dst (.tup []) }
  |_=>none

def H4 (call:Wi):List Item→St→Option St
 | [],st=>some st
 |it :: its,st=>match FZ call it st with
  |some st'=>H4 call its st'
  |none=>none

def H5 (rs:List RR)(n:Nat)(r:Option (Exit×St)):Option (AV×Qo) :=
 match r with
 |some (.normal,st)=>fin st
 |some (.ret,st)=>fin st
 |_=>none
where
 fin (st:St):Option (AV×Qo):=match st.ds with
  | []=>match Wg st rs with
   |some x=>match Ww st.m x with
    |some y=>match st.m with
     |_ :: m=>bif Nat.beq m.length n then some (y,m)else none
     | []=>none
    |none=>none
   |none=>none
  |_=>none

def Zz (Xl:Wi)(T:FY)(body:RC→St→Option (Exit×St)):Wi:=fun k args m=>
 match Xl k args m with
 |some r=>some r
 |none=>match T k with
  |some (c,rs,N)=>bif Nat.ble args.length N then H5 rs m.length (body c (St.enter args m))else none
  |none=>none

def Zk (Xl:Wi)(T:FY):Nat→RC→St→Option (Exit×St)
 |0,_,_=>none
 |n+1,c,st=>match c with
  |.skip=>some (.normal,st)
  |.reg its=>match H4 (Zz Xl T (Zk Xl T n)) its st with
   |some st'=>some (.normal,st')
   |none=>none
  |.draw its=>match H4 (Zz Xl T (Zk Xl T n)) its st with
   |some st'=>some (.normal,st')
   |none=>none
  |.seq a b=>match Zk Xl T n a st with
   |some (.normal,st')=>Zk Xl T n b st'
   |r=>r
  |.cond c a b=>match c.ev st.f with
   |.bool t=>bif t then Zk Xl T n a st else Zk Xl T n b st
   |_=>none
  |.block id a=>match Zk Xl T n a st with
   |some (.exit i,st')=>if i=id then some (.normal,st')else some (.exit i,st')
   |r=>r
  |.loop a=>match Zk Xl T n a st with
   |some (.normal,st')=>Zk Xl T n (.loop a) st'
   |r=>r
  |.exit id=>some (.exit id,st)
  |.scope a=>match Zk Xl T n a st with
   |some (.goto _,_)=>none
   |r=>r
  |.lab=>some (.normal,st)
  |.ret=>some (.ret,st)
  |.gho g a=>match Zx g st with
   |some st'=>Zk Xl T n a st'
   |none=>none
  |.no=>none

section
variable {P:Program}{T:FY}

def Wz (P:Program)(call:Wi):Prop:=∀k args m v m',call k args m=some (v,m')→Qp P k args m fun x m1=>x=v∧m1=m'

theorem N1 {call:Wi}(hc:Wz P call){d:Option Nat}{op:RO}{st st':St}(h:Zj call d op st=some st'){K:St→Prop}(hK:K st'):YJ P d op st K:=by
 cases op with
 |val vo=>
  simp only[Zj]at h;split at h
  ·rename_i x hx;cases h;exact⟨x,hx,hK⟩
  ·cases h
 |allocN s z=>
  simp only[Zj]at h;cases h1:XQ st.m s<;>rw[h1]at h<;>simp only[cond_true,cond_false,reduceCtorEq,QVJ]at h;subst h;exact⟨h1,hK⟩
 |boxN s r=>
  simp only[Zj]at h;cases h1:(XQ st.m s&&(r.ev st.f).cells.all AV.leaf)<;>rw[h1]at h<;>simp only[cond_true,cond_false,reduceCtorEq,QVJ]at h;rw[QVF]at h1;subst h;exact⟨h1.1,h1.2,hK⟩
 |store n p r=>
  simp only[Zj]at h;cases h1:(Nat.beq (r.ev st.f).cells.length n&&(r.ev st.f).cells.all AV.leaf)<;>rw[h1]at h<;>simp only[cond_true,cond_false,reduceCtorEq]at h;rw[QVF]at h1;split at h
  ·rename_i m' hm;cases h;exact⟨QVg h1.1,h1.2,m',hm,hK⟩
  ·cases h
 |storev l s n p r=>
  simp only[Zj]at h;split at h
  ·rename_i l' s' o hp;cases h1:(Nat.beq l' l&&Nat.beq s' s&&Nat.beq (r.ev st.f).cells.length n&&(r.ev st.f).cells.all AV.leaf)<;>rw[h1]at h<;>simp only[cond_true,cond_false,reduceCtorEq]at h;simp only[QVF]at h1;obtain⟨⟨⟨a1,a2⟩,a3⟩,a4⟩:=h1;have e1:=QVg a1;have e2:=QVg a2;subst e1 e2;split at h
   ·rename_i m' hm;cases h;exact⟨⟨o,hp⟩,QVg a3,a4,m',hm,hK⟩
   ·cases h
  ·cases h
 |app sz bytes el s r=>
  simp only[Zj]at h;split at h
  ·rename_i l site g n hs;split at h
   ·rename_i g' sz' xs hl;split at h
    ·rename_i ys hy;cases h1:(Nat.beq g' g&&Nat.beq sz' sz&&XC site el&&Nat.ble n xs.length&&ys.all (fun e=>e.cells.length==sz)&&Nat.ble (n+ys.length) maxLen&&Nat.ble ((n+ys.length)*bytes) 140737488355328)<;>rw[h1]at h<;>simp only[cond_true,cond_false,reduceCtorEq,QVJ]at h;simp only[QVF]at h1;obtain⟨⟨⟨⟨⟨⟨a1,a2⟩,a3⟩,a4⟩,a5⟩,a6⟩,a7⟩:=h1;have e1:=QVg a1;have e2:=QVg a2;subst e1 e2 h;exact⟨l,site,_,n,xs,ys,hs,hl,a3,QWJ a4,hy,a5,QWJ a6,QWJ a7,hK⟩
    ·cases h
   ·cases h
  ·cases h
 |appl sz bytes el s r=>
  simp only[Zj]at h;split at h
  ·rename_i l site g n hs;split at h
   ·rename_i g' sz' xs hl;split at h
    ·rename_i ys hy;cases h1:(Nat.beq l 0&&Nat.beq g' g&&Nat.beq sz' sz&&XC site el&&Nat.ble n xs.length&&ys.all (fun e=>e.cells.length==sz)&&Nat.ble (n+ys.length) maxLen&&Nat.ble ((n+ys.length)*bytes) 140737488355328)<;>rw[h1]at h<;>simp only[cond_true,cond_false,reduceCtorEq,QVJ]at h;simp only[QVF]at h1;obtain⟨⟨⟨⟨⟨⟨⟨a0,a1⟩,a2⟩,a3⟩,a4⟩,a5⟩,a6⟩,a7⟩:=h1;have e0:=QVg a0;have e1:=QVg a1;have e2:=QVg a2;subst e0 e1 e2 h;exact⟨site,_,n,xs,ys,hs,hl,a3,QWJ a4,hy,a5,QWJ a6,QWJ a7,hK⟩
    ·cases h
   ·cases h
  ·cases h
 |call f args=>
  simp only[Zj]at h;split at h
  ·rename_i k fa fb hf;split at h
   ·rename_i ys hy;cases h1:AV.rfL ys<;>rw[h1]at h<;>simp only[cond_true,cond_false,reduceCtorEq]at h;split at h
    ·rename_i v m' hv;cases h2:(v.rf&&(AV.rfL (fa++args.map (RA.ev st.f)++fb)||v.nl))<;>rw[h2]at h<;>simp only[cond_true,cond_false,reduceCtorEq,QVJ]at h;rw[QVF,QWc]at h2;subst h;exact⟨k,fa,fb,ys,v,hf,hy,h1,(hc _ _ _ _ _ hv).mono (fun _ _ e=>e.1),h2.1,h2.2,hK⟩
    ·cases h
   ·cases h
  ·cases h
 |callF f args=>
  simp only[Zj]at h;split at h
  ·rename_i k fa fb hf;split at h
   ·rename_i v m' hv;cases h;exact⟨k,fa,fb,v,m',hf,hc _ _ _ _ _ hv,hK⟩
   ·cases h
  ·cases h
 |bsl sz len z ps=>
  simp only[Zj]at h;split at h
  ·rename_i y hy;cases h1:(AV.rfL y&&y.all AV.leaf)<;>rw[h1]at h<;>simp only[cond_true,cond_false,reduceCtorEq,QVJ]at h;rw[QVF]at h1;subst h;exact⟨y,hy,h1.1,h1.2,hK⟩
  ·cases h
 |bslv site sz len z ps=>
  simp only[Zj]at h;split at h
  ·rename_i y hy;cases h1:(AV.rfL y&&y.all AV.leaf&&Qr (Qe st.m 0 site))<;>rw[h1]at h<;>simp only[cond_true,cond_false,reduceCtorEq,QVJ]at h;simp only[QVF]at h1;subst h;exact⟨y,hy,h1.1.1,h1.1.2,h1.2,hK⟩
  ·cases h
 |lit0 sz=>
  simp only[Zj,QVJ]at h;subst h;exact hK
 |appe sz bytes el s r=>
  simp only[Zj]at h;split at h
  ·rename_i xs ys hs hy;cases h1:(xs.all (fun e=>e.cells.length==sz)&&ys.all (fun e=>e.cells.length==sz)&&Nat.ble (xs.length+ys.length) maxLen&&Nat.ble ((xs.length+ys.length)*bytes) 140737488355328)<;>rw[h1]at h<;>simp only[cond_true,cond_false,reduceCtorEq,QVJ]at h;simp only[QVF]at h1;obtain⟨⟨⟨a1,a2⟩,a3⟩,a4⟩:=h1;subst h;exact⟨xs,ys,hs,hy,a1,a2,QWJ a3,QWJ a4,hK⟩
  ·cases h
 |bsl0 site sz=>
  simp only[Zj]at h;cases h1:Qr (Qe st.m 0 site)<;>rw[h1]at h<;>simp only[cond_true,cond_false,reduceCtorEq,QVJ]at h;subst h;exact⟨h1,hK⟩
 |isnil neg r=>
  simp only[Zj]at h;split at h
  ·rename_i hr;cases h;exact⟨[],by rw[hr];rfl,fun e=>absurd hr e,fun _=>hK⟩
  ·rename_i l hr;split at h
   ·rename_i z zs hf;cases h;exact⟨l,by rw[hr];rfl,fun _=>hK,fun e=>by
     rcases e with e|e
     ·rw[hr]at e;cases e
     ·rw[hf]at e;cases e⟩
   ·cases h
  ·cases h
 |xb cnt k s c=>
  simp only[Zj]at h;split at h
  ·rename_i t b hs hb;cases h;exact⟨t,b,hs,hb,hK⟩
  ·cases h
 |rngs s r=>
  simp only[Zj]at h;split at h
  ·rename_i t ht;cases h1:XQ st.m s<;>rw[h1]at h<;>simp only[cond_true,cond_false,reduceCtorEq,QVJ]at h;subst h;exact⟨t,ht,h1,hK⟩
  ·cases h
 |mkm s=>
  simp only[Zj]at h;cases h1:XQ st.m s<;>rw[h1]at h<;>simp only[cond_true,cond_false,reduceCtorEq,QVJ]at h;subst h;exact⟨h1,hK⟩
 |mput x i v=>
  simp only[Zj]at h;split at h
  ·rename_i l s hx;split at h
   ·rename_i ks vs p hl;split at h
    ·rename_i k hi;cases h1:((v.ev st.f).gr&&AV.grL vs&&Nat.beq ks.length vs.length)<;>rw[h1]at h<;>simp only[cond_true,cond_false,reduceCtorEq,QVJ]at h;subst h;simp only[QVF]at h1;exact⟨l,s,ks,vs,p,k,hx,hl,hi,h1.1.1,h1.1.2,QVg h1.2,hK⟩
    ·cases h
   ·cases h
  ·cases h
 |nxts r=>
  simp only[Zj]at h;split at h
  ·rename_i l s hr;split at h
   ·rename_i t p hl;refine⟨l,s,t,p,hr,hl,fun e=>?_,fun e=>?_⟩
    ·have hb:Nat.blt p t.length=true:=by simp[Nat.blt_eq,e]
     rw[hb]at h;cases h;exact hK
    ·have hb:Nat.blt p t.length=false:=by
      cases hb:Nat.blt p t.length with
      |false=>rfl
      |true=>rw[Nat.blt_eq]at hb;omega
     rw[hb]at h;cases h;exact hK
   ·cases h
  ·cases h
 |mk site el sz bytes z l c=>
  simp only[Zj]at h;split at h
  ·rename_i kl n kc k hl hcc;cases h1:(Nat.ble n k&&Nat.ble k 9223372036854775807&&Nat.ble (bytes*k) 281474976710656&&Qr (Qe st.m 0 site))<;>rw[h1]at h<;>simp only[cond_true,cond_false,reduceCtorEq,QVJ]at h;simp only[QVF]at h1;obtain⟨⟨⟨a1,a2⟩,a3⟩,a4⟩:=h1;subst h;exact⟨kl,kc,n,k,hl,hcc,QWJ a1,QWJ a2,QWJ a3,a4,hK⟩
  ·cases h

theorem MH {call:Wi}(hc:Wz P call){it:Item}{st st':St}(h:FZ call it st=some st'){K:St→Prop}(hK:K st'):X5 P it st K:=by
 obtain⟨d,op,g⟩:=it;cases g with
 |none=>exact N1 (d:=d) hc h hK
 |some p=>
  obtain⟨j,want⟩:=p;simp only[FZ]at h;simp only[X5];split at h
  ·rename_i b hj;simp only[hj];cases hb:(b==want)with
   |true=>
    rw[hb]at h;have e:b=want:=by simpa using hb
    exact⟨fun _=>N1 hc h hK,fun e'=>by rw[e]at e';cases want<;>cases e'⟩
   |false=>
    rw[hb]at h;simp only[cond_false,QVJ]at h;subst h;exact⟨fun e=>by rw[e]at hb;simp at hb,fun _=>hK⟩
  ·rename_i hj;cases h;simp only[hj];exact⟨trivial,hK⟩
  ·cases h

theorem Hi {call:Wi}(hc:Wz P call):∀ {its:List Item} {st st':St},H4 call its st=some st'→∀ {K:St→Prop},K st'→Ql P its st K
 | [],_,_,h,_,hK=>by cases h;exact hK
 |it :: its,st,st',h,K,hK=>by
  simp only[H4]at h;split at h
  ·rename_i st1 h1;exact MH hc h1 (Hi hc h hK)
  ·cases h

theorem Tv {rs:List RR}{n:Nat}{r:Option (Exit×St)}{v:AV}{m':Qo}(h:H5 rs n r=some (v,m')):∃e st,r=some (e,st)∧Zi rs n (fun x m1=>x=v∧m1=m') e st:=by
 have fin:∀ {e:Exit} {st:St},(e=.normal∨e=.ret)→H5.fin rs n st=some (v,m')→Zi rs n (fun x m1=>x=v∧m1=m') e st:=by
  intro e st he h;unfold H5.fin at h;split at h
  ·rename_i hds;split at h
   ·rename_i x hx;split at h
    ·rename_i y hy;split at h
     ·rename_i fr m hm;cases hb:Nat.beq m.length n with
      |false=>rw[hb]at h;cases h
      |true=>
       rw[hb]at h;simp only[cond_true,QVJ,Prod.mk.injEq]at h;exact⟨he,hds,x,y,fr,m,hx,hy,hm,QVg hb,h.1,h.2⟩
     ·cases h
    ·cases h
   ·cases h
  ·cases h
 unfold H5 at h;split at h
 ·exact⟨_,_,rfl,fin (.inl rfl) h⟩
 ·exact⟨_,_,rfl,fin (.inr rfl) h⟩
 ·cases h

theorem XZ {Xl:Wi}(hN:Wz P Xl)(hT:H3 P T){body:RC→St→Option (Exit×St)}(hb:∀c st e st',body c st=some (e,st')→∀Q:Exit→St→Prop,Q e st'→QJ P c st Q):Wz P (Zz Xl T body):=by
 intro k args m v m' h;unfold Zz at h;split at h
 ·rename_i r hr;cases h;exact hN _ _ _ _ _ hr
 split at h
 ·rename_i c rs N hk;cases hN:Nat.ble args.length N with
  |false=>rw[hN]at h;cases h
  |true=>
   rw[hN]at h;simp only[cond_true]at h;obtain⟨e,st,h1,h2⟩:=Tv h;obtain⟨fn,cd,a1,a2,a3,a4,a5,a6⟩:=hT k c rs N hk;exact YK a1 a2 a3 a4 a5 a6 (QWJ hN) (hb _ _ _ _ h1 _ h2)
 ·cases h

theorem JJ {Xl:Wi}(hN:Wz P Xl)(hT:H3 P T):∀(n:Nat) (c:RC) (st:St) (e:Exit) (st':St),Zk Xl T n c st=some (e,st')→∀Q:Exit→St→Prop,Q e st'→QJ P c st Q:=by
 intro n
 induction n using Nat.strongRecOn with
 |_ n ihs=>
 cases n with
 |zero=>intro c st e st' h;cases h
 |succ n=>
  intro c st e st' h Q hQ;have ih:=ihs n (Nat.lt_succ_self n);cases c with
  |skip=>cases h;exact hQ
  |reg its=>
   simp only[Zk]at h;split at h
   ·rename_i st1 h1;cases h;exact Hi (XZ hN hT ih) h1 hQ
   ·cases h
  |draw its=>
   simp only[Zk]at h;split at h
   ·rename_i st1 h1;cases h;exact Hi (XZ hN hT ih) h1 hQ
   ·cases h
  |seq a b=>
   simp only[Zk]at h;split at h
   ·rename_i st1 h1;exact ih _ _ _ _ h1 _ (ih _ _ _ _ h Q hQ)
   ·rename_i h1;refine ih _ _ _ _ h _ ?_;cases e with
    |normal=>exact absurd h (h1 st')
    |_=>exact hQ
  |cond c a b=>
   simp only[Zk]at h;split at h
   ·rename_i t ht;cases t with
    |true=>exact⟨true,ht,fun _=>ih _ _ _ _ h Q hQ,(fun e=>by cases e)⟩
    |false=>exact⟨false,ht,(fun e=>by cases e),fun _=>ih _ _ _ _ h Q hQ⟩
   ·cases h
  |block id a=>
   simp only[Zk]at h;split at h
   ·rename_i i st1 h1;refine ih _ _ _ _ h1 _ ?_;show if i=id then Q .normal st1 else Q (.exit i) st1
    split at h
    ·rename_i hi;cases h;rw[QVq hi];exact hQ
    ·rename_i hi;cases h;rw[QVp hi];exact hQ
   ·rename_i h1;refine ih _ _ _ _ h _ ?_;cases e with
    |exit i=>exact absurd h (h1 i st')
    |_=>exact hQ
  |loop a=>
   refine⟨fun k s=>k≤n∧Zk Xl T (k+1) (.loop a) s=some (e,st'),n,⟨QVi _,h⟩,fun k s hh=>?_⟩;obtain⟨hk,hs⟩:=hh;simp only[Zk]at hs;split at hs
   ·rename_i st1 h1;refine ihs k (by omega) _ _ _ _ h1 _ ?_;show ∃j,j<k∧j≤n∧Zk Xl T (j+1) (.loop a) st1=some (e,st');cases k with
    |zero=>cases h1
    |succ j=>exact⟨j,Nat.lt_succ_self j,by omega,hs⟩
   ·rename_i h1;refine ihs k (by omega) _ _ _ _ hs _ ?_;cases e with
    |normal=>exact absurd hs (h1 st')
    |_=>exact hQ
  |exit id=>cases h;exact hQ
  |scope a=>
   simp only[Zk]at h;split at h
   ·cases h
   ·rename_i h1;refine ih _ _ _ _ h _ ?_;cases e with
    |goto i=>exact absurd h (h1 i st')
    |_=>exact hQ
  |lab=>cases h;exact hQ
  |ret=>cases h;exact hQ
  |gho g a=>
   simp only[Zk]at h;split at h
   ·rename_i st1 h1;exact⟨st1,h1,ih _ _ _ _ h Q hQ⟩
   ·cases h
  |no=>cases h

def evT (Xl:Wi)(T:FY)(n:Nat)(k:FuncId)(args:List AV):Bool :=
 match Zz Xl T (Zk Xl T n) k args []with
 |some (.bool true,_)=>true
 |_=>false

theorem CE {Xl:Wi}(hN:Wz P Xl)(hT:H3 P T){n:Nat}{k:FuncId}{args:List AV}(h:evT Xl T n k args=true):Qj P k args (.bool true):=by
 unfold evT at h;split at h
 ·rename_i m' h1;exact(XZ hN hT (JJ hN hT n) _ _ _ _ _ h1).mono fun _ _ e=>e.1
 ·cases h

end

set_option linter.defProp false in
def Qa:=(QWX (QWX (QWX (QWX (QWX (QWX (QWX (QWX @Am.QAi @Am.QAh) (QWX @Am.Qc3 @Am.QAk)) (QWX (QWX @Am.Qc6 @Am.Qc7) (QWX @Am.Qc8 (QWX @Am.IY @Am.IZ)))) (QWX (QWX (QWX @Am.Qc1 @Am.QAf) (QWX @Am.QAg @Am.Qc2)) (QWX (QWX @Am.Qc9 @Am.Qda) (QWX @Am.Qdb (QWX @Am.Qdc @Am.Qdd))))) (QWX (QWX (QWX (QWX @Am.Qde @Am.Qdf) (QWX @Am.Qdg @Am.Qdh)) (QWX (QWX @Am.Qc5 @Am.Qc4) (QWX @Am.QAj (QWX @Am.e_c @Am.e_t)))) (QWX (QWX (QWX @Am.e_f @Am.QAm) (QWX @Am.FS @Am.QAl)) (QWX (QWX @Am.QAo @Am.e_g) (QWX @Am.Tl (QWX @Am.Tm @Am.Mx)))))) (QWX (QWX (QWX (QWX (QWX @Am.My @Am.Tn) (QWX @Am.Cx @Am.Cy)) (QWX (QWX @Am.Mz @Am.Tg) (QWX @Am.Th (QWX @Am.To @Am.Tp)))) (QWX (QWX (QWX @Am.MA @Am.QH.eq_1) (QWX @Am.QH.eq_2 @Am.QH.eq_3)) (QWX (QWX @Am.QH.eq_4 @Am.QH.eq_5) (QWX @Am.QH.eq_6 (QWX @Am.QH.eq_7 @Am.QH.eq_8))))) (QWX (QWX (QWX (QWX @Am.QH.eq_9 @Am.QH.eq_10) (QWX @Am.QH.eq_11 @Am.QH.eq_12)) (QWX (QWX @Am.QH.eq_13 @Am.QH.eq_14) (QWX @Am.QH.eq_15 (QWX @Am.QH.eq_16 @Am.QH.eq_17)))) (QWX (QWX (QWX @Am.QH.eq_18 @Am.QH.eq_19) (QWX @Am.QH.eq_20 @Am.QH.eq_21)) (QWX (QWX @Am.QH.eq_22 @Am.QH.eq_23) (QWX @Am.QH.eq_24 (QWX @Am.QH.eq_25 @Am.QH.eq_26))))))) (QWX (QWX (QWX (QWX (QWX (QWX @Am.QH.eq_27 @Am.QH.eq_28) (QWX @Am.QH.eq_29 @Am.QH.eq_1)) (QWX (QWX @Am.QH.eq_1 @Am.QH.eq_1) (QWX @Am.QH.eq_1 (QWX @Am.QH.eq_1 @Am.QH.eq_1)))) (QWX (QWX (QWX @Am.QH.eq_1 @Am.XS.eq_1) (QWX @Am.XS.eq_2 @Am.XS.eq_3)) (QWX (QWX @Am.XS.eq_4 @Am.XS.eq_5) (QWX @Am.XS.eq_6 (QWX @Am.XS.eq_7 @Am.XS.eq_8))))) (QWX (QWX (QWX (QWX @Am.XS.eq_9 @Am.XS.eq_10) (QWX @Am.XS.eq_11 @Am.XS.eq_12)) (QWX (QWX @Am.XS.eq_13 @Am.XS.eq_14) (QWX @Am.XS.eq_15 (QWX @Am.XS.eq_16 @Am.XS.eq_17)))) (QWX (QWX (QWX @Am.Zo.eq_1 @Am.Zo.eq_2) (QWX @Am.Zo.eq_3 @Am.Zo.eq_4)) (QWX (QWX @Am.Zo.eq_5 @Am.Zo.eq_6) (QWX @Am.Zo.eq_7 (QWX @Am.Zo.eq_8 @Am.Zo.eq_9)))))) (QWX (QWX (QWX (QWX (QWX @Am.Zo.eq_10 @Am.Zo.eq_11) (QWX @Am.Zo.eq_12 @Am.Zo.eq_13)) (QWX (QWX @Am.Zo.eq_14 @Am.Zo.eq_15) (QWX @Am.Zo.eq_16 (QWX @Am.Fw.eq_1 @Am.Fw.eq_2)))) (QWX (QWX (QWX @Am.Fw.eq_3 @Am.Fw.eq_4) (QWX @cond_true.{0} @cond_true.{1})) (QWX (QWX @cond_false.{0} @cond_false.{1}) (QWX @true_and (QWX @and_true @QWf.{0}))))) (QWX (QWX (QWX (QWX @QWk.{0} @List.getElem?_nil.{0}) (QWX @QWo.{0} @QWP.{0})) (QWX (QWX @Am.St.enter.eq_1 @Am.Cd.eq_1) (QWX @Am.AV.shL.eq_1 (QWX @Am.AV.shL.eq_2 @Am.AV.sh.eq_1)))) (QWX (QWX (QWX @Am.AV.sh.eq_2 @Am.AV.sh.eq_3) (QWX @Am.AV.sh.eq_4 @Am.AV.sh.eq_5)) (QWX (QWX @Am.AV.sh.eq_6 @Am.AV.sh.eq_7) (QWX @Am.AV.sh.eq_8 (QWX @Am.AV.sh.eq_9 @Am.Wg.eq_1)))))))) (QWX (QWX (QWX (QWX (QWX (QWX (QWX @Am.Wg.eq_2 @Am.RR.ev.eq_1) (QWX @Am.RR.ev.eq_2 @Am.RR.evL.eq_1)) (QWX (QWX @Am.RR.evL.eq_2 @Am.Ww.eq_1) (QWX @Am.AV.still.eq_1 (QWX @Am.AV.still.eq_2 @Am.AV.still.eq_3)))) (QWX (QWX (QWX @Am.AV.still.eq_4 @Am.AV.still.eq_5) (QWX @Am.AV.still.eq_6 @Am.AV.still.eq_7)) (QWX (QWX @Am.AV.still.eq_8 @Am.AV.stillL.eq_1) (QWX @Am.AV.stillL.eq_2 (QWX @Am.AV.un.eq_1 @Am.AV.un.eq_2))))) (QWX (QWX (QWX (QWX @Am.AV.un.eq_3 @Am.AV.un.eq_4) (QWX @Am.AV.un.eq_5 @Am.AV.un.eq_6)) (QWX (QWX @Am.AV.un.eq_7 @Am.AV.un.eq_8) (QWX @Am.AV.un.eq_9 (QWX @Am.AV.un.eq_10 @Am.AV.un.eq_11)))) (QWX (QWX (QWX @Am.AV.un.eq_12 @Am.AV.un.eq_13) (QWX @Am.AV.unL.eq_1 @Am.AV.unL.eq_2)) (QWX (QWX @QWn.{0,0} @QVI.{0,0}) (QWX @if_true.{0} (QWX @if_true.{1} @if_false.{0})))))) (QWX (QWX (QWX (QWX (QWX @if_false.{1} @QVB) (QWX @Go.IntKind.bits.eq_1 @Go.IntKind.bits.eq_2)) (QWX (QWX @Go.IntKind.bits.eq_3 @Go.IntKind.bits.eq_4) (QWX @Go.IntKind.bits.eq_5 (QWX @Go.IntKind.bits.eq_6 @Go.IntKind.bits.eq_7)))) (QWX (QWX (QWX @Go.IntKind.bits.eq_8 @QWp.{0}) (QWX @QVx.{0} @QWY)) (QWX (QWX @QWs @forall_const.{1}) (QWX @not_true_eq_false (QWX @not_false_eq_true @Am.Jw))))) (QWX (QWX (QWX (QWX @QWZ @QWl) (QWX @Am.Yg.eq_1 @ne_eq.{1})) (QWX (QWX @Nat.one_ne_zero @decide_true) (QWX @decide_false (QWX @Am.I0 @Am.Tj)))) (QWX (QWX (QWX @Am.Qdj @Am.Tk) (QWX @Am.Qdk @Am.Qdi)) (QWX (QWX @Am.QAn @Am.XQ.eq_1) (QWX @Am.AV.unNL.eq_1 (QWX @Am.AV.unNL.eq_2 @Am.AV.unNL_zero))))))) (QWX (QWX (QWX (QWX (QWX (QWX @Am.AV.shNL.eq_1 @Am.AV.shNL.eq_2) (QWX @Am.AV.shN.eq_1 @Am.AV.shN.eq_2)) (QWX (QWX @Am.splice.eq_1 @Am.part.eq_1) (QWX @Am.part.eq_2 (QWX @Am.fill.eq_1 @Am.fill.eq_2)))) (QWX (QWX (QWX @Am.AV.leaf.eq_1 @Am.AV.leaf.eq_2) (QWX @Am.AV.leaf.eq_3 @Am.AV.leaf.eq_4)) (QWX (QWX @QWq.{0} @QWr.{0}) (QWX @List.take_succ_cons.{0} (QWX @QWm.{0} @List.take_nil.{0}))))) (QWX (QWX (QWX (QWX @QVS.{0} @QVY.{0}) (QWX @QWt.{0} @QVE.{0})) (QWX (QWX @QVD.{0} @QWg.{0}) (QWX @Am.Qg.eq_1 (QWX @QWh @Am.Ja.eq_1)))) (QWX (QWX (QWX @Am.Ja.eq_2 @Am.Ja.eq_3) (QWX @Am.Ja.eq_4 @Am.Ja.eq_5)) (QWX (QWX @Am.Ja.eq_6 @Am.KN.eq_1) (QWX @Am.KN.eq_2 (QWX @Am.XI.eq_1 @Am.XI.eq_2)))))) (QWX (QWX (QWX (QWX (QWX @Am.XI.eq_3 @Am.XI.eq_4) (QWX @Am.XI.eq_5 @Am.XI.eq_6)) (QWX (QWX @Am.XI.eq_7 @Am.UN.eq_1) (QWX @Am.UN.eq_2 (QWX @Am.UN.eq_3 @Am.HC.eq_1)))) (QWX (QWX (QWX @Am.HC.eq_2 @Am.HC.eq_3) (QWX @Am.HC.eq_4 @Am.QMs)) (QWX (QWX @Am.Mo @Am.Mp) (QWX @Am.Mq (QWX @Am.Cm @Am.Mr))))) (QWX (QWX (QWX (QWX @Am.Cn @Am.Co) (QWX @Am.Cq @Am.Cr)) (QWX (QWX @Am.Cs @Am.Ms) (QWX @Am.Mt (QWX @Am.Mu @Am.DA)))) (QWX (QWX (QWX @Am.Ct @Am.Mv) (QWX @Am.Cu (QWX @Am.NF @Am.Mw))) (QWX (QWX @Am.Cv @Am.US) (QWX @Am.NG (QWX @Am.Cw @QWe.{0,0})))))))))

set_option linter.defProp false in
def F0:=(QWX (QWX (QWX @Am.Xb.eq_1 (QWX @Am.Xb.eq_2 @Am.Xb.eq_3)) (QWX (QWX @Am.Xy.eq_1 @Am.Xy.eq_2) (QWX @Am.Xy.eq_3 @Am.Xy.eq_4))) (QWX (QWX (QWX @Am.Qe.eq_1 @Am.Qe.eq_2) (QWX @Am.Qe.eq_3 @Am.put.eq_1)) (QWX (QWX @Am.put.eq_2 @Am.put.eq_3) (QWX @Am.AV.cells.eq_1 @Am.AV.cells.eq_2))))

set_option linter.defProp false in
def eE := QWX Qa F0

end Go.Proofs.YtjjmjopabpakoaaGreatDoor.Am

namespace Go.Proofs.YtjjmjopabpakoaaGreatDoor.Rc
open Go Am
abbrev ja (a b:Nat):Am.Item:=⟨some a,.val (.mov (.t b)),none⟩
abbrev jb (a b c:Nat):Am.Item:=⟨some a,.val (.faddr b (.t c)),none⟩
abbrev jc (a b:Nat):Am.Item:=⟨some a,.val (.load none (.t b)),none⟩
abbrev jd (a:Nat)(b:Int):Am.Item:=⟨some a,.val (.mov (.c (.int .i64 b))),none⟩
abbrev je (a b c:Nat):Am.Item:=⟨some a,.val (.load (some b) (.t c)),none⟩
abbrev jf (a b c:Nat):Am.Item:=⟨some a,.boxN b (.t c),none⟩
abbrev jg (a:Nat):Am.Item:=⟨some a,.val (.mov (.c (.bool false))),none⟩
abbrev jh (a b c:Nat):Am.Item:=⟨none,.store a (.t b) (.t c),none⟩
abbrev ji (a b c:Nat):Am.Item:=⟨some a,.val (.mov (.t b)),some (c,true)⟩
abbrev jj (a b c d:Nat):Am.Item:=⟨some a,.val (.iaddr b none (.t c) (.t d)),none⟩
abbrev jk (a b c:Nat):Am.Item:=⟨some a,.val (.pick (.t b) (.t c) (.c (.bool false))),none⟩
abbrev jl (a b c:Nat):Am.Item:=⟨some a,.val (.len b (.t c)),none⟩
abbrev jm (a b c d:Nat):Am.Item:=⟨some a,.val (.faddr b (.t c)),some (d,true)⟩
abbrev jn (a b c:Nat):Am.Item:=⟨some a,.val (.pick (.t b) (.c (.bool true)) (.t c)),none⟩
abbrev jo (a b c:Nat):Am.Item:=⟨some a,.val (.ext (.t b) c),none⟩
abbrev jp (a b:Nat)(c:Int):Am.Item:=⟨some a,.val (.bin .num .add (.t b) (.c (.int .i64 c))),none⟩
abbrev jq (a b c:Nat):Am.Item:=⟨some a,.val (.mov (.t b)),some (c,false)⟩
abbrev jr (a b:Nat)(c:Int):Am.Item:=⟨some a,.val (.bin .num .eql (.t b) (.c (.int .i64 c))),none⟩
abbrev js (a b c:Nat):Am.Item:=⟨some a,.val (.bin .num .lss (.t b) (.t c)),none⟩
abbrev jt (a b c:Nat):Am.Item:=⟨some a,.val (.load none (.t b)),some (c,true)⟩
abbrev ju (a b c d:Nat):Am.Item:=⟨some a,.val (.faddr b (.t c)),some (d,false)⟩
abbrev jv (a b c:Nat):Am.Item:=⟨some a,.call (.f b) [(.t c)],none⟩
abbrev jw (a b c d:Nat):Am.Item:=⟨some a,.val (.loadv b c none (.t d)),none⟩
abbrev jx (a b c d:Nat):Am.Item:=⟨some a,.call (.f b) [(.t c),(.t d)],none⟩
abbrev jy (a b:Nat):Am.Item:=⟨some a,.val (.un .not (.t b)),none⟩
abbrev jz (a:Nat):Am.Item:=⟨some a,.val (.mov (.c (.bool true))),none⟩
abbrev ya (a b c:Nat):Am.Item:=⟨some a,.val (.load none (.t b)),some (c,false)⟩
abbrev yb (a b c d e:Nat):Am.Item:=⟨some a,.call (.f b) [(.t c),(.t d),(.t e)],none⟩
abbrev yc (a b c d e:Nat):Am.Item:=⟨some a,.val (.loadv b c (some d) (.t e)),none⟩
abbrev yd (a b c d e f:Nat):Am.Item:=⟨some a,.app b c d (.t e) (.t f),none⟩
abbrev ye (a b:Nat)(c:Int):Am.Item:=⟨some a,.val (.bin .num .neq (.t b) (.c (.int .i64 c))),none⟩
abbrev yf (a:Nat):Am.Item:=⟨some a,.val (.mov (.c (.nils))),none⟩
abbrev yg (a b c d:Nat)(e:Int):Am.Item:=⟨some a,.callF (.f b) [(.t c),(.t d),(.c (.int .i64 e))],none⟩
abbrev yh (a b:Nat):Am.Item:=⟨some a,.allocN b [.int .i64 0,.str [],.str [],.int .i64 0,.int .i64 0,.int .i64 0,.int .i64 0,.int .i64 0],none⟩
abbrev yi (a b:Nat)(c:Int)(d:Nat):Am.Item:=⟨some a,.val (.bin .num .eql (.t b) (.c (.int .i64 c))),some (d,false)⟩
abbrev yj (a b c:Nat):Am.Item:=⟨some a,.val (.un .not (.t b)),some (c,false)⟩
abbrev yk (a b:Nat)(c:Int)(d:Nat):Am.Item:=⟨some a,.val (.bin .num .eql (.t b) (.c (.int .i64 c))),some (d,true)⟩
abbrev yl (a b c d:Nat):Am.Item:=⟨some a,.val (.load (some b) (.t c)),some (d,false)⟩
abbrev ym (a b c:Nat):Am.Item:=⟨some a,.val (.bin .str .eql (.t b) (.t c)),none⟩
abbrev yn (a b c d e:Nat):Am.Item:=⟨none,.storev a b c (.t d) (.t e),none⟩
abbrev yo (a b:Nat)(c:Int):Am.Item:=⟨some a,.val (.bin .num .geq (.t b) (.c (.int .i64 c))),none⟩
abbrev yp (a b:Nat):Am.Item:=⟨some a,.val (.loadr none (.t b)),none⟩
abbrev yq (a b c:Nat):Am.Item:=⟨some a,.val (.loadr (some b) (.t c)),none⟩
abbrev yr (a b:Nat)(c:Int):Am.Item:=⟨some a,.val (.bin .num .lss (.t b) (.c (.int .i64 c))),none⟩
abbrev ys (a b c d:Nat):Am.Item:=⟨some a,.val (.len b (.t c)),some (d,true)⟩
abbrev yt (a b c d e:Nat):Am.Item:=⟨some a,.val (.loadv b c none (.t d)),some (e,false)⟩
abbrev yu (a b:Nat)(c:Int)(d:Nat):Am.Item:=⟨some a,.val (.bin .num .neq (.t b) (.c (.int .i64 c))),some (d,true)⟩
abbrev yv (a:Nat)(b:Int):Am.Item:=⟨some a,.val (.mov (.c (.int .u64 b))),none⟩
abbrev yw (a b c:Nat):Am.Item:=⟨some a,.val (.un .not (.t b)),some (c,true)⟩
abbrev yx (a b:Nat)(c:Int)(d:Nat):Am.Item:=⟨some a,.val (.bin .num .neq (.t b) (.c (.int .i64 c))),some (d,false)⟩
abbrev yy (a b c d:Nat):Am.Item:=⟨some a,.call (.f b) [(.t c)],some (d,false)⟩
abbrev yz (a b:Nat)(c:Int)(d:Nat):Am.Item:=⟨some a,.val (.bin .num .leq (.t b) (.c (.int .i64 c))),some (d,true)⟩
abbrev za (a b:Nat):Am.Item:=⟨some a,.val (.nilck (.t b)),none⟩
abbrev zb (a b:Nat)(c:Int):Am.Item:=⟨some a,.val (.bin .num .gtr (.t b) (.c (.int .i64 c))),none⟩
abbrev zd (a b c d e:Nat):Am.Item:=⟨some a,.val (.iaddr b none (.t c) (.t d)),some (e,true)⟩
abbrev ze (a b:Nat):Am.Item:=⟨some a,.allocN b [.str [],.bool false,.nils,.nils,.nils],none⟩
abbrev zf (a b c d:Nat):Am.Item:=⟨some a,.callF (.f b) [(.t c),(.t d)],none⟩
abbrev zg (a b c d:Nat):Am.Item:=⟨some a,.val (.pick (.t b) (.t c) (.c (.bool false))),some (d,false)⟩
abbrev zh (a b c d e:Nat):Am.Item:=⟨some a,.val (.iaddr b none (.t c) (.t d)),some (e,false)⟩
abbrev zi (a b c d:Nat)(e f:Int):Am.Item:=⟨some a,.callF (.f b) [(.t c),(.t d),(.c (.int .i64 e)),(.c (.int .i64 f))],none⟩
abbrev zj (a b c d e:Nat):Am.Item:=⟨some a,.val (.loadv b c none (.t d)),some (e,true)⟩
abbrev zk (a b:Nat):Am.Item:=⟨some a,.allocN b [.int .i64 0,.int .u64 0,.str [],.nils,.nils,.nils,.nils],none⟩
abbrev zl (a b c d e:Nat):Am.Item:=⟨some a,.call (.f b) [(.t c),(.t d)],some (e,false)⟩
abbrev zm (a b c d:Nat):Am.Item:=⟨some a,.call (.f b) [(.t c)],some (d,true)⟩
abbrev zn (a:Nat):Am.Item:=⟨some a,.val (.build [.int .i64 0,.int .u64 0,.str [],.nils,.nils,.nils,.nils] []),none⟩
abbrev zo (a b c:Nat):Am.Item:=⟨some a,.val (.loadr none (.t b)),some (c,false)⟩
abbrev zp (a b c d e:Nat)(f:Int):Am.Item:=⟨some a,.callF (.f b) [(.t c),(.t d),(.t e),(.c (.int .i64 f))],none⟩
abbrev zq (a b c d e f:Nat):Am.Item:=⟨some a,.call (.f b) [(.t c),(.t d),(.t e),(.t f)],none⟩
abbrev zs (a b c:Nat):Am.Item:=⟨some a,.val (.bin .num .add (.t b) (.t c)),none⟩
abbrev zt (a b c:Nat):Am.Item:=⟨some a,.val (.bin .num .eql (.t b) (.t c)),none⟩
abbrev zu (a b c d e f:Nat):Am.Item:=⟨some a,.val (.loadv b c (some d) (.t e)),some (f,false)⟩
abbrev zv (a b c:Nat):Am.Item:=⟨some a,.val (.loadr none (.t b)),some (c,true)⟩
abbrev zw (a b c d e f:Nat):Am.Item:=⟨some a,.val (.loadv b c (some d) (.t e)),some (f,true)⟩
abbrev zx (a b:Nat)(c:Int):Am.Item:=⟨some a,.val (.bin .num .sub (.t b) (.c (.int .i64 c))),none⟩
abbrev zy (a b c d:Nat):Am.Item:=⟨some a,.val (.load (some b) (.t c)),some (d,true)⟩
abbrev zz (a b:Nat):Am.Item:=⟨some a,.allocN b [.str [],.nils,.nils,.nils,.nils],none⟩
abbrev YM (a b:Nat)(c:Int)(d:Nat):Am.Item:=⟨some a,.val (.bin .num .gtr (.t b) (.c (.int .i64 c))),some (d,false)⟩
abbrev YN (a b:Nat):Am.Item:=⟨some a,.val (.cvi .i32 (.t b)),none⟩
abbrev Y9 (a b c d:Nat):Am.Item:=⟨some a,.val (.bin .num .eql (.t b) (.t c)),some (d,true)⟩
abbrev Ua (a b c:Nat):Am.Item:=⟨some a,.val (.mkfn (.func b) [] [(.t c)]),none⟩
abbrev Ub (a b c d:Nat):Am.Item:=⟨some a,.val (.bin .num .neq (.t b) (.t c)),some (d,false)⟩
abbrev Uc (a b:Nat):Am.Item:=⟨some a,.allocN b [.str [],.int .i64 0,.nils],none⟩
abbrev Ud (a b:Nat)(c:Int):Am.Item:=⟨some a,.val (.bin .num .leq (.t b) (.c (.int .i64 c))),none⟩
abbrev Ue (a b c d e:Nat):Am.Item:=⟨some a,.call (.f b) [(.t c),(.t d)],some (e,true)⟩
abbrev Uf (a b c d:Nat):Am.Item:=⟨some a,.val (.bin .num .add (.t b) (.t c)),some (d,true)⟩
abbrev Ug (a b:Nat)(c:Int)(d:Nat):Am.Item:=⟨some a,.val (.bin .num .add (.t b) (.c (.int .i64 c))),some (d,true)⟩
abbrev UX (a b c d e f:Nat):Am.Item:=⟨some a,.bsl b c [.str [],.int .i64 0,.int .i64 0,.nils] [(d,e,(.t f))],none⟩
abbrev UY (a b c d:Nat):Am.Item:=⟨some a,.val (.len b (.t c)),some (d,false)⟩
abbrev UZ (a b:Nat):Am.Item:=⟨some a,.val (.cvi .u64 (.t b)),none⟩
abbrev U0 (a b:Nat)(c:Int):Am.Item:=⟨some a,.val (.idx (.t b) (.c (.int .i64 c))),none⟩
abbrev U1 (a b c:Nat):Am.Item:=⟨some a,.val (.idx (.t b) (.t c)),none⟩
abbrev U2 (a b:Nat)(c:Int):Am.Item:=⟨some a,.val (.bin .num .and (.t b) (.c (.int .u8 c))),none⟩
abbrev H6 (a b c:Nat):Am.Item:=⟨some a,.val (.faddv b (.t c)),none⟩
abbrev H7 (a b c d e f:Nat):Am.Item:=⟨some a,.bsl b c [.str []] [(d,e,(.t f))],none⟩
abbrev H8 (a b c:Nat):Am.Item:=⟨some a,.callF (.t b) [(.t c)],none⟩
abbrev H9 (a:Nat):Am.Item:=⟨some a,.val (.mov (.c (.str []))),none⟩
abbrev Ga (a b:Nat)(c:Int):Am.Item:=⟨some a,.val (.bin .num .eql (.t b) (.c (.int .u64 c))),none⟩
abbrev DG (a b:Nat):Am.Item:=⟨some a,.val (.loado none (.t b)),none⟩
abbrev DH (a b:Nat):Am.Item:=⟨some a,.allocN b [.int .i64 0,.str [],.int .i64 0,.int .i64 0,.int .i64 0,.str [],.str [],.bool false,.int .i64 0,.int .u64 0,.str [],.nils,.nils,.nils,.nils,.nils],none⟩
abbrev DI (a b c d:Nat):Am.Item:=⟨some a,.val (.bin .num .gtr (.t b) (.t c)),some (d,false)⟩
abbrev DJ (a b c d:Nat):Am.Item:=⟨some a,.val (.bin .num .leq (.t b) (.t c)),some (d,true)⟩
abbrev DK (a b c d:Nat):Am.Item:=⟨some a,.val (.bin .str .eql (.t b) (.t c)),some (d,true)⟩
abbrev F1 (a b:Nat):Am.Item:=⟨some a,.allocN b [.str [],.int .i64 0,.int .i64 0,.nils],none⟩
abbrev F3 (a b:Nat):Am.Item:=⟨some a,.allocN b [.str [],.nils,.int .i64 0],none⟩
abbrev F4 (a b c d:Nat):Am.Item:=⟨some a,.val (.pick (.t b) (.c (.bool true)) (.t c)),some (d,true)⟩
abbrev F5 (a b:Nat)(c:Int)(d:Nat):Am.Item:=⟨some a,.val (.bin .num .sub (.t b) (.c (.int .i64 c))),some (d,false)⟩
abbrev F6 (a b c:Nat):Am.Item:=⟨some a,.val (.bin .num .leq (.t b) (.t c)),none⟩
abbrev F7 (a:Nat)(b:Int):Am.Item:=⟨some a,.val (.mov (.c (.int .i32 b))),none⟩
abbrev F8 (a b:Nat)(c:Int):Am.Item:=⟨some a,.val (.bin .num .shl (.t b) (.c (.int .u64 c))),none⟩
abbrev F9 (a b c:Nat):Am.Item:=⟨some a,.val (.bin .num .or (.t b) (.t c)),none⟩
abbrev Ba (a b c d:Nat)(e:Int)(f:Nat):Am.Item:=⟨some a,.call (.f b) [(.t c),(.t d),(.c (.int .i64 e))],some (f,true)⟩
abbrev N2 (a b c d e f:Nat):Am.Item:=⟨some a,.call (.f b) [(.t c),(.t d),(.t e)],some (f,false)⟩
abbrev N3 (a b:Nat):Am.Item:=⟨some a,.allocN b [.nils,.nils],none⟩
abbrev N4 (a b c:Nat)(d:Int):Am.Item:=⟨some a,.call (.f b) [(.t c),(.c (.int .i64 d))],none⟩
abbrev N5 (a b c d:Nat)(e:Int):Am.Item:=⟨some a,.val (.iaddr b (some c) (.t d) (.c (.int .i64 e))),none⟩
abbrev N6 (a b c:Nat):Am.Item:=⟨some a,.val (.slc none (.t b) (some (.t c)) none none),none⟩
abbrev N7 (a b:Nat)(c:Int):Am.Item:=⟨some a,.val (.bin .num .geq (.t b) (.c (.int .u8 c))),none⟩
abbrev N8 (a:Nat)(b:Int):Am.Item:=⟨some a,.val (.mov (.c (.int .u32 b))),none⟩
abbrev N9 (a b:Nat)(c:Int)(d:Nat):Am.Item:=⟨some a,.val (.bin .num .sub (.t b) (.c (.int .i64 c))),some (d,true)⟩
abbrev MI (a b:Nat):Am.Item:=⟨some a,.allocN b [.nils,.nils,.nils,.nils,.int .i64 0],none⟩
abbrev MJ (a b c d:Nat):Am.Item:=⟨some a,.val (.slc (some b) (.t c) none (some (.t d)) none),none⟩
abbrev MK (a b:Nat):Am.Item:=⟨some a,.val (.bin .str .neq (.t b) (.c (.str []))),none⟩
abbrev ML (a:Nat):Am.Item:=⟨some a,.val (.build [.int .i64 0,.str [],.str [],.int .i64 0,.int .i64 0,.int .i64 0,.int .i64 0,.int .i64 0] []),none⟩
abbrev gl0:List AV:=[.int .u64 0,.int .u64 1,.int .u64 2147483648,.int .u64 2147483647,.int .u64 9223372036854775808,.int .u64 9223372036854775807,.int .u64 0,.int .u64 4294967295,.int .u64 0,.int .u64 18446744073709551615,.int .u64 0,.int .u64 0,.int .u64 0,.int .u64 0,.int .u64 0,.int .u64 0,.int .u64 0,.int .u64 2147483647]
abbrev MM (a b c d e:Nat):Am.Item:=⟨some a,.val (.iaddr b (some c) (.g d gl0) (.t e)),none⟩
abbrev MN (a b:Nat):Am.Item:=⟨some a,.val (.bin .str .eql (.t b) (.c (.str []))),none⟩
abbrev MO (a b:Nat)(c:Int)(d:Nat):Am.Item:=⟨some a,.val (.bin .num .leq (.t b) (.c (.int .u8 c))),some (d,true)⟩
abbrev MP (a b:Nat)(c:Int):Am.Item:=⟨some a,.val (.bin .num .eql (.t b) (.c (.int .u8 c))),none⟩
abbrev MQ (a b c d:Nat):Am.Item:=⟨some a,.val (.idx (.t b) (.t c)),some (d,true)⟩
abbrev jQ (g:List Am.Item)(c:RC):RC:=.seq (.reg g) c
abbrev jD (g:List Am.Item)(c:RC):RC:=.seq (.draw g) c
abbrev jX (a b:Nat):RC:=.cond (.t a) .skip (.exit b)
abbrev IL:=List Am.Item
abbrev CT (k n:Nat)(r:RC)(o:List RR):Prop:=CK Tryz.prog k n r o
abbrev gl1:List AV:=[.int .i64 1,.int .i64 2,.int .i64 2,.int .i64 1,.int .i64 1,.int .i64 6,.int .i64 7,.int .i64 7,.int .i64 1,.int .i64 1,.int .i64 2,.int .i64 2,.int .i64 2,.int .i64 2,.int .i64 6,.int .i64 7,.int .i64 7,.int .i64 2,.int .i64 1,.int .i64 2,.int .i64 2,.int .i64 2,.int .i64 2,.int .i64 6,.int .i64 7,.int .i64 8,.int .i64 9]
abbrev QMv:IL:=[jg 0]
abbrev QMw:IL:=[⟨some 2,.call (.f 17) [(.c (.int .i64 3)),(.c (.int .i64 3))],none⟩,⟨some 3,.call (.f 17) [(.c (.int .i64 3)),(.c (.int .i64 2))],none⟩,⟨some 4,.call (.f 10) [(.t 2),(.t 3),(.c (.str [77])),(.c (.int .i64 2))],none⟩,ja 1 4]
abbrev QMx:IL:=[ja 5 1,jl 6 1 5,jr 7 6 1,ja 8 7,ji 9 1 8,⟨some 10,.val (.iaddr 4 none (.t 9) (.c (.int .i64 0))),(some (8,true))⟩,jm 11 2 10 8,jt 12 11 8,yk 13 12 6 8,jk 14 8 13,ja 15 14,ji 16 1 15,⟨some 17,.val (.iaddr 4 none (.t 16) (.c (.int .i64 0))),(some (15,true))⟩,jm 18 1 17 15,jt 19 18 15,yk 20 19 1 15,jk 21 15 20,ja 22 21,⟨some 23,.call (.f 17) [(.c (.int .i64 3)),(.c (.int .i64 2))],(some (22,true))⟩,⟨some 24,.call (.f 17) [(.c (.int .i64 3)),(.c (.int .i64 3))],(some (22,true))⟩,⟨some 25,.call (.f 12) [(.t 23),(.t 24),(.c (.str [77])),(.c (.int .i64 1))],(some (22,true))⟩,jk 26 22 25,ja 0 26]
abbrev r6:RC:=jQ QMv (jQ QMw (jQ QMx (.ret)))
abbrev o6:List RR:=[.tmp 0]
theorem k6:CT 6 27 r6 o6:=ck Tryz.func6 Tryz.ntmps6 (by decide +kernel)
abbrev QAq:IL:=[jf 4 4 0,jf 5 5 1,yf 8]
abbrev QAr:IL:=[je 15 3 4,je 16 3 5,ja 17 2,ja 18 3,⟨some 19,.callF (.f 18) [(.t 15),(.t 16),(.t 17),(.t 18)],none⟩,ja 14 19,jo 20 14 0,jo 21 14 1,jo 22 14 2,MI 9 9,⟨some 10,.allocN 10 [.int .i64 0,.int .i64 0,.nils,.bool false],none⟩,jh 5 9 20,jh 4 10 21,ja 11 22]
abbrev QAs:IL:=[ja 23 11,jl 24 1 23,zb 25 24 0]
abbrev QAt:IL:=[ja 26 11,ja 8 26]
abbrev QAu:IL:=[je 27 4 10,⟨some 28,.bslv 28 4 1 [.int .i64 0,.int .i64 0,.nils,.bool false] [(0,4,(.t 27))],none⟩,ja 12 28]
abbrev QAv:IL:=[jd 13 0]
abbrev QAw:IL:=[ja 29 13,ja 30 12,jl 31 1 30,js 32 29 31]
abbrev QAx:IL:=[ja 35 11,yc 36 0 9 5 9,ja 37 12,ja 38 13,jj 39 4 37 38,yq 40 4 39,jx 41 19 36 40,yd 42 4 56 32 35 41,ja 11 42]
abbrev QAy:IL:=[yc 43 0 9 5 9,ja 44 12,ja 45 12,ja 46 13,jj 47 4 45 46,yq 48 4 47,⟨some 49,.callF (.f 20) [(.t 43),(.t 44),(.t 48)],none⟩,ja 12 49]
abbrev QAz:IL:=[ja 33 13,jp 34 33 1,ja 13 34]
abbrev QAA:RC:=.seq (jQ QAw (jX 32 0)) (.seq (.block 1 (jD QAx (.draw QAy))) (.reg QAz))
abbrev Qdt:IL:=[ja 50 11,ja 8 50]
abbrev Bb:RC:=jQ QAq (jQ QAr (.seq (jQ QAs (.cond (.t 25) (jQ QAt (.ret)) (.skip))) (jQ QAu (.seq (jQ QAv (.block 0 (.loop QAA))) (jQ Qdt (.ret))))))
abbrev XG:List RR:=[.tmp 8]
theorem DL:CT 10 51 Bb XG:=ck Tryz.func10 Tryz.ntmps10 (by decide +kernel)
abbrev QAB:IL:=[⟨some 4,.allocN 4 [.nils,.nils,.nils],none⟩]
abbrev QAC:IL:=[ja 5 0,ja 6 1,⟨some 7,.val (.build [.int .i64 0,.str []] [(0,1,(.t 6))]),none⟩,⟨some 8,.val (.build [.int .i64 0,.str [],.int .i64 0,.int .i64 0,.int .i64 0,.str [],.str [],.bool false,.int .i64 0,.int .u64 0,.str [],.nils,.nils,.nils,.nils,.nils] [(0,1,(.c (.int .i64 1))),(1,1,(.c (.str [97]))),(2,1,(.t 5)),(4,2,(.t 7))]),none⟩,⟨some 9,.bsl 16 1 [.int .i64 0,.str [],.int .i64 0,.int .i64 0,.int .i64 0,.str [],.str [],.bool false,.int .i64 0,.int .u64 0,.str [],.nils,.nils,.nils,.nils,.nils] [(0,16,(.t 8))],none⟩,⟨some 10,.val (.build [.str [],.nils,.nils,.nils,.nils] [(0,1,(.c (.str [77]))),(1,1,(.t 9))]),none⟩,⟨some 11,.bsl 5 1 [.str [],.nils,.nils,.nils,.nils] [(0,5,(.t 10))],none⟩,⟨some 12,.val (.build [.nils,.nils,.nils] [(0,1,(.t 11))]),none⟩,jh 3 4 12]
abbrev r17:RC:=jQ QAB (jQ QAC (.ret))
abbrev o17:List RR:=[.cell 4 (some 3)]
theorem k17:CT 17 13 r17 o17:=ck Tryz.func17 Tryz.ntmps17 (by decide +kernel)
abbrev QAD:IL:=[jf 4 4 0,jf 5 5 1,jg 8]
abbrev QAE:IL:=[je 12 3 4,je 13 3 5,ja 14 2,ja 15 3,zq 16 7 12 13 14 15,ja 11 16,jo 17 11 0,jo 18 11 1,F1 9 9,jh 4 9 17,ja 10 18]
abbrev QAF:IL:=[ja 19 10,jy 20 19,ja 8 20]
abbrev Kr:RC:=jQ QAD (jQ QAE (jQ QAF (.ret)))
abbrev o12:List RR:=[.tmp 8]
theorem k12:CT 12 21 Kr o12:=ck Tryz.func12 Tryz.ntmps12 (by decide +kernel)
abbrev QAG:IL:=[jg 2]
abbrev QAH:IL:=[ja 3 0,jr 4 3 1,ja 5 4,jq 6 0 5,yi 7 6 2 5,jn 8 5 7,ja 9 8,jq 10 0 9,yi 11 10 4 9,jn 12 9 11,ja 2 12]
abbrev r27:RC:=jQ QAG (jQ QAH (.ret))
abbrev o27:List RR:=[.tmp 2]
theorem k27:CT 27 13 r27 o27:=ck Tryz.func27 Tryz.ntmps27 (by decide +kernel)
abbrev QAI:IL:=[jf 4 4 0,jf 5 5 1,MI 8 8,⟨some 9,.allocN 9 [.int .i64 0,.int .i64 0,.nils,.bool false],none⟩,yf 10]
abbrev QAJ:IL:=[ja 16 3,jv 17 27 16,jy 18 17]
abbrev QAK:IL:=[⟨some 19,.val (.build [.nils,.nils,.nils,.nils,.int .i64 0] []),none⟩,⟨some 20,.val (.build [.int .i64 0,.int .i64 0,.nils,.bool false] []),none⟩,ja 21 2,⟨some 22,.val (.build [.str [],.int .i64 0,.int .i64 0,.nils] [(0,1,(.t 21)),(1,1,(.c (.int .i64 (-1)))),(2,1,(.c (.int .i64 1)))]),none⟩,UX 23 4 1 0 4 22,jh 5 8 19,jh 4 9 20,ja 10 23]
abbrev QAL:IL:=[ja 24 3,⟨some 25,.val (.build [.nils,.nils,.nils,.nils,.int .i64 0] [(4,1,(.t 24))]),none⟩,MI 11 11,jh 5 11 25]
abbrev QAM:IL:=[je 27 3 4,jv 28 28 27,ja 26 28,jo 29 26 0,jo 30 26 1,jb 31 0 11,jh 2 31 29]
abbrev QAN:IL:=[je 33 3 5,jv 34 28 33,ja 32 34,jo 35 32 0,jo 36 32 1,jb 37 2 11,jh 2 37 35]
abbrev QAO:IL:=[jb 39 0 11,je 40 2 39,ja 41 2,jx 42 29 40 41,ja 38 42,jo 43 38 0,jo 44 38 1,ja 12 43,ja 13 44]
abbrev QAP:IL:=[jb 46 2 11,je 47 2 46,ja 48 2,jx 49 29 47 48,ja 45 49,jo 50 45 0,jo 51 45 1,ja 14 50,ja 15 51]
abbrev QAQ:IL:=[ja 52 13,jy 53 52,ja 54 53,jq 55 15 54,yj 56 55 54,jn 57 54 56]
abbrev QAR:IL:=[⟨some 58,.val (.build [.nils,.nils,.nils,.nils,.int .i64 0] []),none⟩,⟨some 59,.val (.build [.int .i64 0,.int .i64 0,.nils,.bool false] []),none⟩,ja 60 2,⟨some 61,.val (.build [.str [],.int .i64 0,.int .i64 0,.nils] [(0,1,(.t 60)),(1,1,(.c (.int .i64 (-1)))),(2,1,(.c (.int .i64 10)))]),none⟩,UX 62 4 1 0 4 61,jh 5 8 58,jh 4 9 59,ja 10 62]
abbrev Qdu:IL:=[je 63 5 11,ja 64 12,ja 65 14,⟨some 66,.val (.build [.int .i64 0,.int .i64 0,.nils,.bool false] [(0,1,(.t 64)),(1,1,(.t 65))]),none⟩,jh 5 8 63,jh 4 9 66,yf 10]
abbrev r18:RC:=jQ QAI (.seq (jQ QAJ (.cond (.t 18) (jQ QAK (.ret)) (.skip))) (jQ QAL (jQ QAM (jQ QAN (jQ QAO (jQ QAP (.seq (jQ QAQ (.cond (.t 57) (jQ QAR (.ret)) (.skip))) (jQ Qdu (.gho (.vec 10 10 4) (.gho (.give 10 10 1 1000) (.ret)))))))))))
abbrev o18:List RR:=[.cell 8 (some 5),.cell 9 (some 4),.tmp 10]
theorem k18:CT 18 67 r18 o18:=ck Tryz.func18 Tryz.ntmps18 (by decide +kernel)
abbrev QAS:IL:=[jf 2 2 0,jf 3 3 1,yf 4]
abbrev QAT:IL:=[jb 18 0 2,jb 19 0 18,jw 20 0 2 19,jb 21 0 3,jw 22 0 3 21,jj 23 3 20 22,yq 24 3 23,jb 25 2 2,jb 26 0 25,jw 27 0 2 26,jb 28 1 3,jw 29 0 3 28,jj 30 3 27 29,yq 31 3 30,F3 5 5,F3 6 6,yn 0 5 3 5 24,yn 0 6 3 6 31]
abbrev QAU:IL:=[⟨some 7,.allocN 7 [.nils],none⟩]
abbrev QAV:IL:=[⟨some 32,.val (.mkfn (.func 30) [] [(.t 7),(.t 6),(.t 3)]),none⟩,ja 8 32]
abbrev QAW:IL:=[jb 33 1 5,jc 34 33,jl 35 1 34,jd 36 0]
abbrev QAX:IL:=[js 37 36 35]
abbrev QAY:IL:=[ja 38 36,jj 39 8 34 36,je 40 8 39,yh 10 10,ja 9 38,jh 8 10 40]
abbrev QAZ:IL:=[je 41 5 2,je 42 8 10,jx 43 31 41 42,jy 44 43]
abbrev QA0:IL:=[je 46 5 2,je 47 3 6,je 48 8 10,yb 49 32 46 47 48,ja 45 49,jo 50 45 0,jo 51 45 1,yh 11 11,jh 8 11 50,ja 12 51]
abbrev QA1:IL:=[ja 52 12,jy 53 52]
abbrev Qdv:IL:=[jb 54 4 2,jc 55 54,jr 56 55 4]
abbrev Qdw:IL:=[ja 57 8,jb 58 0 10,jc 59 58,⟨some 60,.callF (.t 57) [(.t 59),(.c (.int .i64 8))],none⟩]
abbrev Qdx:IL:=[je 61 5 2,je 62 8 10,je 63 8 11,yb 64 33 61 62 63,ja 13 64]
abbrev Qdy:IL:=[ja 65 13,ye 66 65 0]
abbrev Qdz:IL:=[ja 67 8,jb 68 0 10,jc 69 68,ja 70 13,⟨some 71,.callF (.t 67) [(.t 69),(.t 70)],none⟩]
abbrev QdA:IL:=[je 73 5 2,je 74 3 5,je 75 3 6,ja 76 9,je 77 8 11,⟨some 78,.call (.f 34) [(.t 73),(.t 74),(.t 75),(.t 76),(.t 77)],none⟩,ja 72 78,jo 79 72 0,jo 80 72 1,ja 14 79,ja 15 80]
abbrev QdB:IL:=[ja 81 14]
abbrev QdC:IL:=[ja 82 8,jb 83 0 10,jc 84 83,⟨some 85,.callF (.t 82) [(.t 84),(.c (.int .i64 9))],none⟩]
abbrev QdD:IL:=[ja 86 15]
abbrev QdE:IL:=[ja 87 8,jb 88 0 10,jc 89 88,⟨some 90,.callF (.t 87) [(.t 89),(.c (.int .i64 15))],none⟩]
abbrev QdF:IL:=[jp 91 36 1,ja 36 91]
abbrev QA2:RC:=.gho (.drop 11) (.gho (.drop 10) (jQ QAX (.seq (jX 37 0) (.seq (.block 1 (jQ QAY (.seq (jQ QAZ (.cond (.t 44) (.exit 1) (.skip))) (jQ QA0 (.seq (jQ QA1 (.cond (.t 53) (.seq (jQ Qdv (.cond (.t 56) (.reg Qdw) (.skip))) (.exit 1)) (.skip))) (.seq (jQ Qdx (jQ Qdy (.cond (.t 66) (.reg Qdz) (.skip)))) (jQ QdA (.seq (jQ QdB (.cond (.t 81) (.reg QdC) (.skip))) (jQ QdD (.cond (.t 86) (.reg QdE) (.skip))))))))))) (.reg QdF)))))
abbrev QdG:IL:=[jb 92 1 6,jc 93 92,jl 94 1 93,jd 95 0]
abbrev QdH:IL:=[js 96 95 94]
abbrev QdI:IL:=[jj 97 8 93 95,je 98 8 97,yh 17 17,jh 8 17 98]
abbrev QdJ:IL:=[jb 99 3 3,jc 100 99,jy 101 100,ja 102 101,jm 103 3 17 102,jt 104 103 102,yk 105 104 1 102,jk 106 102 105,ja 107 106,zy 108 5 2 107,zy 109 3 5 107,zy 110 3 6 107,zy 111 8 17 107,⟨some 112,.call (.f 35) [(.t 108),(.t 109),(.t 110),(.t 111)],(some (107,true))⟩,yw 113 112 107,jk 114 107 113]
abbrev QdK:IL:=[ja 115 8,jb 116 0 17,jc 117 116,⟨some 118,.callF (.t 115) [(.t 117),(.c (.int .i64 14))],none⟩]
abbrev QdL:IL:=[jp 119 95 1,ja 95 119]
abbrev QA3:RC:=.gho (.drop 17) (jQ QdH (.seq (jX 96 2) (.seq (.block 3 (jQ QdI (jQ QdJ (.cond (.t 114) (.reg QdK) (.skip))))) (.reg QdL))))
abbrev QdM:IL:=[jc 120 7,ja 4 120]
abbrev r19:RC:=jQ QAS (jD QAT (jQ QAU (.gho (.vecc 7 0 1103 4) (jQ QAV (.seq (jQ QAW (.block 0 (.loop QA2))) (.seq (jQ QdG (.block 2 (.loop QA3))) (jQ QdM (.ret))))))))
abbrev o19:List RR:=[.tmp 4]
theorem k19:CT 19 121 r19 o19:=ck Tryz.func19 Tryz.ntmps19 (by decide +kernel)
abbrev QA4:IL:=[jf 3 3 0,jf 5 5 2,yf 6]
abbrev QA5:IL:=[jb 17 0 3,jb 18 0 17,jw 19 0 3 18,jb 20 0 5,jw 21 0 5 20,jj 22 3 19 21,yq 23 3 22,jb 24 2 3,jb 25 0 24,jw 26 0 3 25,jb 27 1 5,jw 28 0 5 27,jj 29 3 26 28,yq 30 3 29,F3 7 7,F3 8 8,yn 0 7 3 7 23,yn 0 8 3 8 30]
abbrev QA6:IL:=[jb 31 1 7,jc 32 31,jl 33 1 32,jd 34 0]
abbrev QA7:IL:=[js 35 34 33]
abbrev QA8:IL:=[jj 36 8 32 34,je 37 8 36,yh 10 10,jh 8 10 37]
abbrev QA9:IL:=[je 39 5 3,je 40 3 8,je 41 8 10,yb 42 32 39 40 41,ja 38 42,jo 43 38 0,jo 44 38 1,yh 11 11,jh 8 11 43,ja 12 44]
abbrev QBa:IL:=[ja 45 12,jy 46 45,ja 47 46,yl 48 5 3 47,yl 49 8 10 47,zl 50 31 48 49 47,yj 51 50 47,jn 52 47 51,ja 53 52,ju 54 5 10 53,ya 55 54 53,yx 56 55 10 53,jn 57 53 56,ja 58 57,ju 59 5 11 58,ya 60 59 58,yx 61 60 10 58,jn 62 58 61,ja 63 62,yl 64 5 3 63,yl 65 8 10 63,yl 66 8 11 63,N2 67 36 64 65 66 63,yx 68 67 0 63,jn 69 63 68]
abbrev QBb:IL:=[jb 70 3 5,jc 71 70,ja 72 71,yl 73 5 3 72,yl 74 3 7 72,yl 75 3 8 72,yl 76 8 10 72,yl 77 8 11 72,⟨some 78,.call (.f 37) [(.t 73),(.t 74),(.t 75),(.t 76),(.t 77)],(some (72,false))⟩,jn 79 72 78,ja 13 79]
abbrev QBc:IL:=[ja 80 1,jl 81 1 80,jd 82 0]
abbrev QBd:IL:=[js 83 82 81]
abbrev QdN:IL:=[jj 84 4 80 82,je 85 4 84,⟨some 15,.allocN 15 [.int .i64 0,.int .i64 0,.nils,.bool false],none⟩,jh 4 15 85]
abbrev QdO:IL:=[jb 86 0 15,jc 87 86,jb 88 6 10,jc 89 88,zt 90 87 89,ja 91 90,jm 92 1 15 91,jt 93 92 91,jm 94 6 11 91,jt 95 94 91,Y9 96 93 95 91,jk 97 91 96,ja 98 97,jm 99 3 15 98,jt 100 99 98,yw 101 100 98,ji 102 101 98,jq 103 13 102,F4 104 102 103 98,jk 105 98 104]
abbrev QdP:IL:=[jp 106 82 1,ja 82 106]
abbrev QBe:RC:=.gho (.drop 15) (jQ QBd (.seq (jX 83 2) (.seq (.block 3 (jQ QdN (jQ QdO (.cond (.t 105) (.exit 1) (.skip))))) (.reg QdP))))
abbrev QdQ:IL:=[jb 107 2 5,jc 108 107,jl 109 1 108,ja 16 109]
abbrev QdR:IL:=[ja 110 1,H6 111 6 10,jw 112 0 10 111,H6 113 6 11,jw 114 0 11 113,H6 115 2 5,jw 116 0 5 115,ja 117 16,ja 118 16,⟨some 119,.val (.slcl (.t 116) (.t 117) (.t 118)),none⟩,H6 120 0 10,jw 121 0 10 120,⟨some 122,.bsl 1 1 [.int .i64 0] [(0,1,(.t 121))],none⟩,⟨some 123,.appe 1 8 3 (.t 119) (.t 122),none⟩,ja 124 13,⟨some 125,.val (.build [.int .i64 0,.int .i64 0,.nils,.bool false] [(0,1,(.t 112)),(1,1,(.t 114)),(2,1,(.t 123)),(3,1,(.t 124))]),none⟩,⟨some 126,.bsl 4 1 [.int .i64 0,.int .i64 0,.nils,.bool false] [(0,4,(.t 125))],none⟩,yd 127 4 48 48 110 126,ja 1 127]
abbrev QdS:IL:=[jp 128 34 1,ja 34 128]
abbrev QBf:RC:=.gho (.drop 15) (.gho (.drop 11) (.gho (.drop 10) (jQ QA7 (.seq (jX 35 0) (.seq (.block 1 (jQ QA8 (jQ QA9 (.seq (jQ QBa (.cond (.t 69) (.exit 1) (.skip))) (jQ QBb (.seq (jQ QBc (.block 2 (.loop QBe))) (jQ QdQ (.draw QdR)))))))) (.reg QdS))))))
abbrev QdT:IL:=[ja 129 1,ja 6 129]
abbrev DM:RC:=jQ QA4 (.scope (jD QA5 (.seq (.lab) (.seq (jQ QA6 (.block 0 (.loop QBf))) (jQ QdT (.ret))))))
abbrev J4:List RR:=[.tmp 6]
theorem k20:CT 20 130 DM J4:=ck Tryz.func20 Tryz.ntmps20 (by decide +kernel)
abbrev QMy:IL:=[jf 4 4 0,jf 5 5 1,F1 8 8,jg 9]
abbrev QMz:IL:=[je 20 3 4,je 21 3 5,ja 22 2,ja 23 3,⟨some 24,.callF (.f 18) [(.t 20),(.t 21),(.t 22),(.t 23)],none⟩,ja 19 24,jo 25 19 0,jo 26 19 1,jo 27 19 2,MI 10 10,⟨some 11,.allocN 11 [.int .i64 0,.int .i64 0,.nils,.bool false],none⟩,jh 5 10 25,jh 4 11 26,ja 12 27]
abbrev QMA:IL:=[ja 28 12,jl 29 1 28,zb 30 29 0]
abbrev QMB:IL:=[ja 31 12,⟨some 32,.val (.iaddr 4 none (.t 31) (.c (.int .i64 0))),none⟩,je 33 4 32,jh 4 8 33,jz 9]
abbrev QMC:IL:=[F1 13 13]
abbrev QMD:IL:=[jg 14]
abbrev QME:IL:=[je 34 4 11,⟨some 35,.bslv 35 4 1 [.int .i64 0,.int .i64 0,.nils,.bool false] [(0,4,(.t 34))],none⟩,ja 15 35]
abbrev QMF:IL:=[jd 16 0]
abbrev QMG:IL:=[ja 36 16,ja 37 15,jl 38 1 37,js 39 36 38]
abbrev QBg:IL:=[yc 42 0 10 5 10,ja 43 15,ja 44 16,jj 45 4 43 44,yq 46 4 45,jx 47 19 42 46,jl 48 1 47,jd 49 0]
abbrev QBh:IL:=[js 50 49 48]
abbrev QBi:IL:=[jj 51 4 47 49,je 52 4 51,F1 18 18,jh 4 18 52]
abbrev QBj:IL:=[je 53 4 18,jh 4 13 53,jz 14]
abbrev QBk:IL:=[jp 54 49 1,ja 49 54]
abbrev QMH:RC:=.gho (.drop 18) (jQ QBh (.seq (jX 50 2) (.seq (.block 3 (jQ QBi (jQ QBj (.exit 0)))) (.reg QBk))))
abbrev QBl:IL:=[yc 55 0 10 5 10,ja 56 15,ja 57 15,ja 58 16,jj 59 4 57 58,yq 60 4 59,⟨some 61,.callF (.f 20) [(.t 55),(.t 56),(.t 60)],none⟩,ja 15 61]
abbrev QMI:IL:=[ja 40 16,jp 41 40 1,ja 16 41]
abbrev QMJ:RC:=.gho (.drop 18) (.seq (jQ QMG (jX 39 0)) (.seq (.block 1 (.seq (jD QBg (.block 2 (.loop QMH))) (.draw QBl))) (.reg QMI)))
abbrev QBm:IL:=[je 62 4 13,ja 63 14,jh 4 8 62,ja 9 63]
abbrev r7:RC:=jQ QMy (.scope (jQ QMz (.seq (jQ QMA (.cond (.t 30) (jQ QMB (.ret)) (.skip))) (jQ QMC (jQ QMD (jQ QME (.seq (.lab) (.seq (jQ QMF (.block 0 (.loop QMJ))) (jQ QBm (.ret))))))))))
abbrev o7:List RR:=[.cell 8 (some 4),.tmp 9]
theorem k7:CT 7 64 r7 o7:=ck Tryz.func7 Tryz.ntmps7 (by decide +kernel)
def AE:IL:=[jf 1 1 0,N3 2 2,jd 3 0]
def AG:IL:=[je 9 3 1,jv 10 57 9,jy 11 10]
def AH:IL:=[⟨some 12,.val (.build [.nils,.nils] []),none⟩,jh 2 2 12,jd 3 1]
def AI:IL:=[N3 4 4]
def AJ:IL:=[jb 13 0 1,jc 14 13,jl 15 1 14,jd 16 0]
def AK:IL:=[js 17 16 15]
def AL:IL:=[jj 18 5 14 16,je 19 5 18,zz 6 6,jh 5 6 19]
def AM:IL:=[jb 20 0 4,jw 21 0 4 20,yc 22 0 1 3 1,yc 23 0 6 5 6,jx 24 58 22 23,⟨some 25,.bsl 3 1 [.str [],.nils,.int .i64 0] [(0,3,(.t 24))],none⟩,yd 26 3 48 88 21 25,jb 27 0 4,yn 0 4 1 27 26]
def AN:IL:=[jp 28 16 1,ja 16 28]
def AO:RC:=.gho (.drop 6) (jQ AK (.seq (jX 17 0) (.seq (.block 1 (jQ AL (.draw AM))) (.reg AN))))
def AP:IL:=[jb 29 1 1,jc 30 29,jl 31 1 30,jd 32 0]
def MS:IL:=[js 33 32 31]
def MT:IL:=[jj 34 5 30 32,je 35 5 34,ze 8 8,jh 5 8 35]
def MU:IL:=[jb 36 1 4,jw 37 0 4 36,yc 38 0 8 5 8,jv 39 59 38,⟨some 40,.bsl 5 1 [.str [],.bool false,.nils,.nils,.nils] [(0,5,(.t 39))],none⟩,yd 41 5 96 104 37 40,jb 42 1 4,yn 0 4 1 42 41]
def MV:IL:=[jp 43 32 1,ja 32 43]
def AQ:RC:=.gho (.drop 8) (jQ MS (.seq (jX 33 2) (.seq (.block 3 (jQ MT (.draw MU))) (.reg MV))))
def MW:IL:=[je 44 2 4,jh 2 2 44,jd 3 0]
def r28:RC:=jQ AE (.seq (jQ AG (.cond (.t 11) (jQ AH (.ret)) (.skip))) (jQ AI (.gho (.vecc 4 0 1100 3) (.gho (.vecc 4 1 1101 5) (.seq (jQ AJ (.block 0 (.loop AO))) (.seq (jQ AP (.block 2 (.loop AQ))) (jQ MW (.ret))))))))
def o28:List RR:=[.cell 2 (some 2),.tmp 3]
theorem k28:CT 28 45 r28 o28:=ck Tryz.func28 Tryz.ntmps28 (by decide +kernel)
abbrev QBn:IL:=[jf 2 2 0,jf 3 3 1,jd 4 0,jg 5]
abbrev QBo:IL:=[jb 7 0 2,jc 8 7,Ua 9 61 3,zf 10 60 8 9,ja 6 10]
abbrev QBp:IL:=[ja 11 6,⟨some 12,.val (.mnx true (.t 11) (.c (.int .i64 0))),none⟩,ja 13 6,yo 14 13 0,ja 4 12,ja 5 14]
abbrev r29:RC:=jQ QBn (jQ QBo (jQ QBp (.ret)))
abbrev o29:List RR:=[.tmp 4,.tmp 5]
theorem k29:CT 29 15 r29 o29:=ck Tryz.func29 Tryz.ntmps29 (by decide +kernel)
abbrev QBq:IL:=[DG 7 2,H6 8 0 3,DG 9 8,ja 10 0,ja 11 1,⟨some 12,.bsl0 12 1,none⟩,H6 13 2 4,DG 14 13,⟨some 15,.appl 1 8 3 (.t 12) (.t 14),none⟩,⟨some 16,.val (.build [.str [],.int .i64 0,.int .i64 0,.nils] [(0,1,(.t 9)),(1,1,(.t 10)),(2,1,(.t 11)),(3,1,(.t 15))]),none⟩,UX 17 4 1 0 4 16,yd 18 4 56 32 7 17,jh 1 2 18]
abbrev r30:RC:=.draw QBq
abbrev KO:List RR:=[]
theorem k30:CT 30 19 r30 KO:=ck Tryz.func30 Tryz.ntmps30 (by decide +kernel)
abbrev QBr:IL:=[jf 2 2 0,jf 3 3 1,jg 4]
abbrev QBs:IL:=[jb 6 3 3,jc 7 6,ye 8 7 3,ja 9 8,ju 10 5 3 9,ya 11 10 9,yx 12 11 9 9,jn 13 9 12]
abbrev QBt:IL:=[jz 4]
abbrev QBu:IL:=[jb 14 0 2,jb 15 1 14,jc 16 15,jb 17 6 3,jc 18 17,jj 19 5 16 18,je 20 5 19,ze 5 5,jh 5 5 20]
abbrev QBv:IL:=[jb 21 1 5,jc 22 21,ja 23 22,ju 24 2 5 23,ya 25 24 23,UY 26 1 25 23,YM 27 26 1 23,jn 28 23 27,ja 4 28]
abbrev r31:RC:=jQ QBr (.seq (jQ QBs (.cond (.t 13) (jQ QBt (.ret)) (.skip))) (jQ QBu (jQ QBv (.ret))))
abbrev o31:List RR:=[.tmp 4]
theorem k31:CT 31 29 r31 o31:=ck Tryz.func31 Tryz.ntmps31 (by decide +kernel)
abbrev QBw:IL:=[jf 3 3 0,jf 4 4 1,jf 5 5 2,yh 6 6,jg 7]
abbrev QBx:IL:=[jb 8 4 3,jc 9 8,jr 10 9 4]
abbrev QBy:IL:=[je 11 3 4,jb 12 1 5,jc 13 12,jx 14 62 11 13,jo 15 14 0,jo 16 14 1,jh 8 6 15,ja 7 16]
abbrev QBz:IL:=[je 17 3 4,jb 18 0 5,jc 19 18,jx 20 63 17 19,jo 21 20 0,jo 22 20 1,jh 8 6 21,ja 7 22]
abbrev r32:RC:=jQ QBw (.seq (jQ QBx (.cond (.t 10) (jQ QBy (.ret)) (.skip))) (jQ QBz (.ret)))
abbrev o32:List RR:=[.cell 6 (some 8),.tmp 7]
theorem k32:CT 32 23 r32 o32:=ck Tryz.func32 Tryz.ntmps32 (by decide +kernel)
abbrev QBA:IL:=[jf 3 3 0,jf 4 4 1,jf 5 5 2,jd 6 0]
abbrev QBB:IL:=[je 10 5 3,je 11 8 4,je 12 8 5,yb 13 36 10 11 12,ja 7 13]
abbrev QBC:IL:=[ja 14 7,ye 15 14 0]
abbrev QBD:IL:=[ja 16 7,ja 6 16]
abbrev QBE:IL:=[je 17 5 3,je 18 8 4,je 19 8 5,yb 20 64 17 18 19,ja 8 20]
abbrev QBF:IL:=[ja 21 8,ye 22 21 0]
abbrev QBG:IL:=[ja 23 8,ja 6 23]
abbrev QBH:IL:=[je 24 5 3,je 25 8 4,je 26 8 5,yb 27 65 24 25 26,ja 9 27]
abbrev QBI:IL:=[ja 28 9,ye 29 28 0]
abbrev QBJ:IL:=[ja 30 9,ja 6 30]
abbrev QdW:IL:=[jb 31 4 3,jc 32 31,jr 33 32 4,ja 34 33,jm 35 3 4 34,jt 36 35 34,yk 37 36 4 34,jk 38 34 37,ja 39 38,zy 40 8 5 39,zm 41 66 40 39,jk 42 39 41]
abbrev QdX:IL:=[jd 6 9]
abbrev QdY:IL:=[jd 6 0]
abbrev r33:RC:=jQ QBA (.seq (jQ QBB (jQ QBC (.cond (.t 15) (jQ QBD (.ret)) (.skip)))) (.seq (jQ QBE (jQ QBF (.cond (.t 22) (jQ QBG (.ret)) (.skip)))) (.seq (jQ QBH (jQ QBI (.cond (.t 29) (jQ QBJ (.ret)) (.skip)))) (.seq (jQ QdW (.cond (.t 42) (jQ QdX (.ret)) (.skip))) (jQ QdY (.ret))))))
abbrev o33:List RR:=[.tmp 6]
theorem k33:CT 33 43 r33 o33:=ck Tryz.func33 Tryz.ntmps33 (by decide +kernel)
abbrev QBK:IL:=[jf 5 5 0,jf 6 6 1,jf 7 7 2,jf 9 9 4,jg 10,jg 11]
abbrev QBL:IL:=[jg 12,jg 13]
abbrev QBM:IL:=[jb 19 1 6,jc 20 19,ja 21 3,jj 22 8 20 21,je 23 8 22,yh 14 14,jh 8 14 23]
abbrev QBN:IL:=[jb 24 1 6,jc 25 24,ja 26 3,MJ 27 8 25 26,jl 28 1 27,jd 29 0]
abbrev QBO:IL:=[js 30 29 28]
abbrev QBP:IL:=[jj 31 8 27 29,je 32 8 31,yh 16 16,jh 8 16 32]
abbrev QBQ:IL:=[je 34 5 5,je 35 3 7,je 36 8 16,yb 37 32 34 35 36,ja 33 37,jo 38 33 0,jo 39 33 1,yh 17 17,jh 8 17 38,ja 18 39]
abbrev QBR:IL:=[ja 40 18,jy 41 40,ja 42 41,yl 43 5 5 42,yl 44 8 16 42,zl 45 31 43 44 42,yj 46 45 42,jn 47 42 46,ja 48 47,yl 49 8 16 48,yl 50 8 14 48,zl 51 67 49 50 48,yj 52 51 48,jn 53 48 52]
abbrev QBS:IL:=[jb 54 0 17,jc 55 54,jb 56 0 9,jc 57 56,zt 58 55 57]
abbrev QBT:IL:=[ja 59 12,ja 60 59,ju 61 4 5 60,ya 62 61 60,yi 63 62 4 60,jq 64 63 60,jm 65 3 9 64,jt 66 65 64,yu 67 66 4 64,zg 68 64 67 60,jn 69 60 68,ja 12 69]
abbrev QdZ:IL:=[jb 70 7 9,jc 71 70,yo 72 71 0,ja 73 72,jm 74 7 17 73,jt 75 74 73,jm 76 7 9 73,jt 77 76 73,Y9 78 75 77 73,jk 79 73 78]
abbrev Qd0:IL:=[ja 80 13,ja 81 80,ju 82 4 5 81,ya 83 82 81,yx 84 83 1 81,jn 85 81 84,ja 13 85]
abbrev Qd1:IL:=[jp 86 29 1,ja 29 86]
abbrev QBU:RC:=.gho (.drop 17) (.gho (.drop 16) (jQ QBO (.seq (jX 30 0) (.seq (.block 1 (jQ QBP (jQ QBQ (.seq (jQ QBR (.cond (.t 53) (.exit 1) (.skip))) (jQ QBS (.cond (.t 58) (.reg QBT) (jQ QdZ (.cond (.t 79) (.reg Qd0) (.skip))))))))) (.reg Qd1)))))
abbrev Qd2:IL:=[ja 87 12,ja 88 13,ja 10 87,ja 11 88]
abbrev r34:RC:=jQ QBK (jQ QBL (jQ QBM (.seq (jQ QBN (.block 0 (.loop QBU))) (jQ Qd2 (.ret)))))
abbrev o34:List RR:=[.tmp 10,.tmp 11]
theorem k34:CT 34 89 r34 o34:=ck Tryz.func34 Tryz.ntmps34 (by decide +kernel)
abbrev QBV:IL:=[jf 4 4 0,jf 5 5 1,jf 6 6 2,jf 7 7 3,jg 8]
abbrev QBW:IL:=[jb 13 1 5,jc 14 13,jl 15 1 14,jd 16 0]
abbrev QBX:IL:=[js 17 16 15]
abbrev QBY:IL:=[jj 18 8 14 16,je 19 8 18,yh 10 10,jh 8 10 19]
abbrev QBZ:IL:=[je 21 5 4,je 22 3 6,je 23 8 10,yb 24 32 21 22 23,ja 20 24,jo 25 20 0,jo 26 20 1,yh 11 11,jh 8 11 25,ja 12 26]
abbrev QB0:IL:=[ja 27 12,jy 28 27,ja 29 28,ju 30 0 11 29,ya 31 30 29,ju 32 0 7 29,ya 33 32 29,Ub 34 31 33 29,jn 35 29 34,ja 36 35,ju 37 3 10 36,ya 38 37 36,yx 39 38 1 36,jn 40 36 39]
abbrev QB1:IL:=[jb 41 4 4,jw 42 0 4 41,ye 43 42 1,ja 44 43,ju 45 5 7 44,yt 46 0 7 45 44,yx 47 46 9 44,jn 48 44 47,ja 49 48,ju 50 5 10 49,yt 51 0 10 50 49,yx 52 51 9 49,jq 53 52 49,jm 54 5 10 53,zj 55 0 10 54 53,yu 56 55 1 53,zg 57 53 56 49,jn 58 49 57,ja 59 58,zu 60 0 4 5 4 59,ju 61 2 4 59,ju 62 1 61 59,yt 63 0 4 62 59,ju 64 6 7 59,yt 65 0 7 64 59,zh 66 5 63 65 59,⟨some 67,.val (.loadr (some 5) (.t 66)),(some (59,false))⟩,zu 68 0 10 8 10 59,N2 69 68 60 67 68 59,jn 70 59 69]
abbrev QB2:IL:=[jz 8]
abbrev QB3:IL:=[jp 71 16 1,ja 16 71]
abbrev QB4:RC:=.gho (.drop 11) (.gho (.drop 10) (jQ QBX (.seq (jX 17 0) (.seq (.block 1 (jQ QBY (jQ QBZ (.seq (jQ QB0 (.cond (.t 40) (.exit 1) (.skip))) (jD QB1 (.cond (.t 70) (jQ QB2 (.ret)) (.skip))))))) (.reg QB3)))))
abbrev QB5:IL:=[jg 8]
abbrev r35:RC:=jQ QBV (.seq (jQ QBW (.block 0 (.loop QB4))) (jQ QB5 (.ret)))
abbrev o35:List RR:=[.tmp 8]
theorem k35:CT 35 72 r35 o35:=ck Tryz.func35 Tryz.ntmps35 (by decide +kernel)
abbrev QB6:IL:=[jf 3 3 0,jf 4 4 1,jf 5 5 2,jd 6 0]
abbrev QB7:IL:=[jb 9 3 4,jc 10 9,jr 11 10 5,jb 12 3 5,jc 13 12,jr 14 13 5,⟨some 15,.val (.bin .bool .neq (.t 11) (.t 14)),none⟩,ja 7 15]
abbrev QB8:IL:=[jb 16 3 4,jc 17 16,jr 18 17 4,ja 19 18,jm 20 3 5 19,jt 21 20 19,yk 22 21 4 19,jk 23 19 22,ja 8 23]
abbrev QB9:IL:=[jb 24 4 3,jc 25 24,jr 26 25 1]
abbrev QCa:IL:=[ja 27 7,ja 28 27,zu 29 0 4 8 4 28,yy 30 69 29 28,jq 31 30 28,zw 32 0 5 8 5 31,zm 33 66 32 31,zg 34 31 33 28,jn 35 28 34,ja 36 35,jq 37 8 36,jq 38 37 36,zw 39 0 4 8 4 38,zm 40 69 39 38,zw 41 0 5 8 5 38,zm 42 69 41 38,⟨some 43,.val (.bin .bool .neq (.t 40) (.t 42)),(some (38,true))⟩,zg 44 38 43 36,jn 45 36 44]
abbrev QCb:IL:=[jd 6 13]
abbrev QCc:IL:=[jd 6 0]
abbrev QCd:IL:=[ja 46 7,ja 47 46,ju 48 3 4 47,ya 49 48 47,yi 50 49 4 47,jq 51 50 47,ji 52 8 51,yw 53 52 51,zg 54 51 53 47,jq 55 54 47,jm 56 4 3 55,jt 57 56 55,yk 58 57 2 55,zg 59 55 58 47,jn 60 47 59]
abbrev QCe:IL:=[jd 6 12]
abbrev QCf:IL:=[jd 6 0]
abbrev r36:RC:=jQ QB6 (jQ QB7 (jQ QB8 (.seq (jQ QB9 (.cond (.t 26) (.seq (jD QCa (.cond (.t 45) (jQ QCb (.ret)) (.skip))) (jQ QCc (.ret))) (.skip))) (.seq (jQ QCd (.cond (.t 60) (jQ QCe (.ret)) (.skip))) (jQ QCf (.ret))))))
abbrev o36:List RR:=[.tmp 6]
theorem k36:CT 36 61 r36 o36:=ck Tryz.func36 Tryz.ntmps36 (by decide +kernel)
abbrev QCg:IL:=[jf 5 5 0,jf 6 6 1,jf 7 7 2,jf 8 8 3,jf 9 9 4,jg 10]
abbrev QCh:IL:=[jb 15 4 5,jc 16 15,ye 17 16 1,ja 18 17,ju 19 7 9 18,ya 20 19 18,⟨some 21,.val (.bin .num .lss (.t 20) (.c (.int .i64 0))),(some (18,false))⟩,jn 22 18 21]
abbrev QCi:IL:=[jg 10]
abbrev QCj:IL:=[jb 23 1 6,jc 24 23,jl 25 1 24,jd 26 0]
abbrev QCk:IL:=[js 27 26 25]
abbrev QCl:IL:=[jj 28 8 24 26,je 29 8 28,yh 12 12,jh 8 12 29]
abbrev QCm:IL:=[je 31 5 5,je 32 3 7,je 33 8 12,yb 34 32 31 32 33,ja 30 34,jo 35 30 0,jo 36 30 1,yh 13 13,jh 8 13 35,ja 14 36]
abbrev QCn:IL:=[ja 37 14,jy 38 37,ja 39 38,ju 40 0 12 39,ya 41 40 39,ju 42 0 8 39,ya 43 42 39,⟨some 44,.val (.bin .num .leq (.t 41) (.t 43)),(some (39,false))⟩,jn 45 39 44,ja 46 45,ju 47 3 12 46,ya 48 47 46,yx 49 48 1 46,jn 50 46 49,ja 51 50,ju 52 7 13 51,ya 53 52 51,ju 54 7 9 51,ya 55 54 51,Ub 56 53 55 51,jn 57 51 56,ja 58 57,ju 59 0 13 58,ya 60 59 58,ju 61 0 9 58,ya 62 61 58,⟨some 63,.val (.bin .num .eql (.t 60) (.t 62)),(some (58,false))⟩,jn 64 58 63]
abbrev QCo:IL:=[jb 65 5 13,jw 66 0 13 65,ye 67 66 9,ja 68 67,ju 69 5 12 68,yt 70 0 12 69 68,yx 71 70 9 68,jq 72 71 68,jm 73 5 12 72,zj 74 0 12 73 72,yu 75 74 1 72,zg 76 72 75 68,jn 77 68 76,ja 78 77,zu 79 0 5 5 5 78,ju 80 2 5 78,ju 81 1 80 78,yt 82 0 5 81 78,ju 83 6 13 78,yt 84 0 13 83 78,zh 85 5 82 84 78,⟨some 86,.val (.loadr (some 5) (.t 85)),(some (78,false))⟩,zu 87 0 12 8 12 78,N2 88 68 79 86 87 78,jn 89 78 88]
abbrev QCp:IL:=[jz 10]
abbrev Qd3:IL:=[jp 90 26 1,ja 26 90]
abbrev QCq:RC:=.gho (.drop 13) (.gho (.drop 12) (jQ QCk (.seq (jX 27 0) (.seq (.block 1 (jQ QCl (jQ QCm (.seq (jQ QCn (.cond (.t 64) (.exit 1) (.skip))) (jD QCo (.cond (.t 89) (jQ QCp (.ret)) (.skip))))))) (.reg Qd3)))))
abbrev Qd4:IL:=[jg 10]
abbrev r37:RC:=jQ QCg (.seq (jQ QCh (.cond (.t 22) (jQ QCi (.ret)) (.skip))) (.seq (jQ QCj (.block 0 (.loop QCq))) (jQ Qd4 (.ret))))
abbrev o37:List RR:=[.tmp 10]
theorem k37:CT 37 91 r37 o37:=ck Tryz.func37 Tryz.ntmps37 (by decide +kernel)
abbrev QCr:IL:=[jf 1 1 0,jg 2]
abbrev QCs:IL:=[je 3 3 1,jv 4 98 3,jl 5 1 4,jr 6 5 0,ja 2 6]
abbrev r57:RC:=jQ QCr (jQ QCs (.ret))
abbrev o57:List RR:=[.tmp 2]
theorem k57:CT 57 7 r57 o57:=ck Tryz.func57 Tryz.ntmps57 (by decide +kernel)
def AT:IL:=[jf 2 2 0,jf 3 3 1,F3 4 4]
def AU:IL:=[jb 10 0 3,jc 11 10,⟨some 12,.val (.build [.str [],.nils,.int .i64 0] [(0,1,(.t 11))]),none⟩,F3 5 5,jh 3 5 12]
def AW:IL:=[yf 6]
def AX:IL:=[jb 13 1 3,jc 14 13,jl 15 1 14,jd 16 0]
def AY:IL:=[js 17 16 15]
def AZ:IL:=[jj 18 16 14 16,je 19 16 18,DH 8 8,jh 16 8 19]
def A1:IL:=[jb 20 0 8,jw 21 0 8 20,jb 22 1 8,jw 23 0 8 22,jb 24 15 8,jw 25 0 8 24,jv 26 99 25,jb 27 2 8,jw 28 0 8 27,jb 29 3 8,jw 30 0 8 29,jb 31 4 8,jb 32 0 31,jw 33 0 8 32,yc 34 0 2 3 2,jb 35 4 8,yc 36 0 8 2 35,jx 37 100 34 36,⟨some 38,.val (.build [.int .i64 0,.str [],.str [],.int .i64 0,.int .i64 0,.int .i64 0,.int .i64 0,.int .i64 0] [(0,1,(.t 21)),(1,1,(.t 23)),(2,1,(.t 26)),(3,1,(.t 28)),(4,1,(.t 30)),(5,1,(.t 33)),(6,1,(.t 37)),(7,1,(.c (.int .i64 (-1))))]),none⟩,yh 9 9,yn 0 9 8 9 38]
def A2:IL:=[jb 39 6 8,jc 40 39,MK 41 40]
def A3:IL:=[ja 42 6,jb 43 6 8,jc 44 43,jx 45 101 42 44,jy 46 45]
def A4:IL:=[ja 47 6,jb 48 6 8,jc 49 48,H7 50 1 1 0 1 49,yd 51 1 16 9 47 50,ja 6 51]
def Bc:IL:=[ja 52 6,jb 53 6 8,jc 54 53,jx 55 102 52 54,jb 56 7 9,jh 1 56 55]
def Gb:IL:=[jb 57 1 5,jc 58 57,je 59 8 9,⟨some 60,.bsl 8 1 [.int .i64 0,.str [],.str [],.int .i64 0,.int .i64 0,.int .i64 0,.int .i64 0,.int .i64 0] [(0,8,(.t 59))],none⟩,yd 61 8 80 91 58 60,jb 62 1 5,jh 1 62 61]
def Gc:IL:=[jp 63 16 1,ja 16 63]
def QCt:RC:=.gho (.drop 9) (.gho (.drop 8) (jQ AY (.seq (jX 17 0) (.seq (.block 1 (jQ AZ (jD A1 (.seq (jQ A2 (.cond (.t 41) (.seq (jQ A3 (.cond (.t 46) (.reg A4) (.skip))) (.reg Bc)) (.skip))) (.reg Gb))))) (.reg Gc)))))
def MX:IL:=[ja 64 6,jl 65 1 64,jb 66 2 5,jh 1 66 65]
def MY:IL:=[je 67 3 5,jh 3 4 67]
def r58:RC:=jQ AT (jQ AU (.gho (.vecc 5 1 1100 8) (jQ AW (.gho (.vec 6 6 1) (.seq (jQ AX (.block 0 (.loop QCt))) (jQ MX (jQ MY (.ret))))))))
def o58:List RR:=[.cell 4 (some 3)]
theorem k58:CT 58 68 r58 o58:=ck Tryz.func58 Tryz.ntmps58 (by decide +kernel)
abbrev QCu:IL:=[jd 4 0]
abbrev QCv:IL:=[ja 6 0,jl 7 1 6,jd 8 0]
abbrev QCw:IL:=[js 9 8 7]
abbrev QCx:IL:=[ja 10 8,ja 5 10]
abbrev QCy:IL:=[ja 11 1,ja 12 0,ja 13 5,jj 14 3 12 13,je 15 3 14,H8 16 11 15]
abbrev QCz:IL:=[ja 17 5,ja 4 17]
abbrev QCA:IL:=[jp 18 8 1,ja 8 18]
abbrev QCB:RC:=jQ QCw (.seq (jX 9 0) (.seq (.block 1 (jQ QCx (jQ QCy (.cond (.t 16) (jQ QCz (.ret)) (.skip))))) (.reg QCA)))
abbrev QCC:IL:=[jd 4 (-1)]
abbrev r60:RC:=jQ QCu (.seq (jQ QCv (.block 0 (.loop QCB))) (jQ QCC (.ret)))
abbrev MZ:List RR:=[.tmp 4]
theorem k60:CT 60 19 r60 MZ:=ck Tryz.func60 Tryz.ntmps60 (by decide +kernel)
abbrev QCD:IL:=[jf 2 2 0,jg 3]
abbrev QCE:IL:=[jb 4 0 2,jc 5 4,jc 6 1,ym 7 5 6,ja 3 7]
abbrev r61:RC:=jQ QCD (jQ QCE (.ret))
abbrev o61:List RR:=[.tmp 3]
theorem k61:CT 61 8 r61 o61:=ck Tryz.func61 Tryz.ntmps61 (by decide +kernel)
abbrev QCF:IL:=[jf 2 2 0,jf 3 3 1,yh 4 4,jg 5]
abbrev QCG:IL:=[Ua 9 105 3,⟨some 10,.val (.build [.nilf] [(0,1,(.t 9))]),none⟩,je 11 3 2,zf 12 106 10 11,ja 8 12,jo 13 8 0,jo 14 8 1,yh 6 6,jh 8 6 13,ja 7 14]
abbrev QCH:IL:=[ja 15 7]
abbrev QCI:IL:=[je 16 8 6,jh 8 4 16,jz 5]
abbrev QCJ:IL:=[Ua 17 107 3,⟨some 18,.val (.build [.nilf] [(0,1,(.t 17))]),none⟩,je 19 3 2,zf 20 106 18 19,jo 21 20 0,jo 22 20 1,jh 8 4 21,ja 5 22]
abbrev r62:RC:=jQ QCF (.seq (jQ QCG (jQ QCH (.cond (.t 15) (jQ QCI (.ret)) (.skip)))) (jQ QCJ (.ret)))
abbrev o62:List RR:=[.cell 4 (some 8),.tmp 5]
theorem k62:CT 62 23 r62 o62:=ck Tryz.func62 Tryz.ntmps62 (by decide +kernel)
abbrev QCK:IL:=[jf 2 2 0,jf 3 3 1,yh 4 4,jg 5]
abbrev QCL:IL:=[Ua 6 108 3,⟨some 7,.val (.build [.nilf] [(0,1,(.t 6))]),none⟩,je 8 3 2,zf 9 106 7 8,jo 10 9 0,jo 11 9 1,jh 8 4 10,ja 5 11]
abbrev r63:RC:=jQ QCK (jQ QCL (.ret))
abbrev o63:List RR:=[.cell 4 (some 8),.tmp 5]
theorem k63:CT 63 12 r63 o63:=ck Tryz.func63 Tryz.ntmps63 (by decide +kernel)
abbrev QCM:IL:=[jf 3 3 0,jf 4 4 1,jf 5 5 2,jd 6 0]
abbrev QCN:IL:=[jb 8 3 4,jc 9 8,jr 10 9 5,ja 11 10,jm 12 3 5 11,jt 13 12 11,yk 14 13 5 11,jk 15 11 14]
abbrev QCO:IL:=[je 16 5 3,jb 17 4 4,jc 18 17,jb 19 4 5,jc 20 19,yb 21 109 16 18 20,ja 7 21]
abbrev QCP:IL:=[ja 22 7,ye 23 22 0]
abbrev QCQ:IL:=[ja 24 7,ja 6 24]
abbrev QCR:IL:=[jb 26 5 4,jc 27 26,jr 28 27 10,ja 29 28,jm 30 5 5 29,jt 31 30 29,yk 32 31 10 29,jk 33 29 32,ja 25 33]
abbrev QCS:IL:=[jb 34 5 4,jc 35 34,jr 36 35 9,ja 37 36,jm 38 5 5 37,jt 39 38 37,yk 40 39 9 37,jk 41 37 40,ja 25 41]
abbrev QCT:IL:=[jd 6 0]
abbrev QCU:IL:=[jb 43 5 4,jc 44 43,jr 45 44 10,ja 46 45,ju 47 5 5 46,ya 48 47 46,yi 49 48 10 46,jn 50 46 49,ja 42 50]
abbrev QCV:IL:=[je 51 5 3,jv 52 110 51,ja 6 52]
abbrev Qd7:IL:=[jb 54 5 4,jc 55 54,jr 56 55 9,ja 57 56,jm 58 5 5 57,jt 59 58 57,yk 60 59 1 57,jk 61 57 60,ja 62 61,jm 63 4 3 62,jt 64 63 62,yk 65 64 1 62,jk 66 62 65,ja 53 66]
abbrev Qd8:IL:=[je 67 5 3,je 68 8 4,jx 69 111 67 68,ja 6 69]
abbrev Qd9:IL:=[je 70 5 3,jb 71 5 4,jc 72 71,jb 73 5 5,jc 74 73,yb 75 109 70 72 74,ja 6 75]
abbrev r64:RC:=jQ QCM (.seq (jQ QCN (.cond (.t 15) (jQ QCO (jQ QCP (.cond (.t 23) (jQ QCQ (.ret)) (.skip)))) (.skip))) (.seq (.block 0 (.seq (jQ QCR (.cond (.t 25) (.skip) (.reg QCS))) (.cond (.t 25) (jQ QCT (.ret)) (jQ QCU (.cond (.t 42) (jQ QCV (.ret)) (jQ Qd7 (.cond (.t 53) (jQ Qd8 (.ret)) (.skip)))))))) (jQ Qd9 (.ret))))
abbrev o64:List RR:=[.tmp 6]
theorem k64:CT 64 76 r64 o64:=ck Tryz.func64 Tryz.ntmps64 (by decide +kernel)
abbrev QCW:IL:=[jf 3 3 0,jf 4 4 1,jf 5 5 2,jd 6 0]
abbrev QCX:IL:=[jb 8 5 5,jc 9 8,ye 10 9 9,ja 11 10,ju 12 5 4 11,ya 13 12 11,yx 14 13 9 11,jq 15 14 11,jm 16 5 4 15,jt 17 16 15,yu 18 17 1 15,zg 19 15 18 11,jn 20 11 19]
abbrev QCY:IL:=[jd 6 0]
abbrev QCZ:IL:=[jz 7]
abbrev QC0:IL:=[jb 22 4 3,jc 23 22,jr 24 23 4,ja 21 24]
abbrev QC1:IL:=[jb 25 5 4,jc 26 25,ye 27 26 9,ja 28 27,yl 29 5 3 28,yl 30 8 4 28,yl 31 8 5 28,N2 32 112 29 30 31 28,jn 33 28 32,ja 7 33]
abbrev QC2:IL:=[jb 35 4 3,jc 36 35,jr 37 36 2,ja 38 37,ju 39 3 4 38,ya 40 39 38,yi 41 40 5 38,jn 42 38 41,ja 34 42]
abbrev QC3:IL:=[yc 43 0 3 5 3,jb 44 2 3,jb 45 1 44,jw 46 0 3 45,jb 47 6 5,jw 48 0 5 47,jj 49 5 46 48,yq 50 5 49,yc 51 0 4 8 4,yb 52 68 43 50 51,ja 7 52]
abbrev QC4:IL:=[ja 53 7]
abbrev QC5:IL:=[jd 6 0]
abbrev Qea:IL:=[jd 6 16]
abbrev r65:RC:=jQ QCW (.seq (jQ QCX (.cond (.t 20) (jQ QCY (.ret)) (.skip))) (jQ QCZ (.seq (.block 0 (jQ QC0 (.cond (.t 21) (.reg QC1) (jQ QC2 (.cond (.t 34) (.draw QC3) (.skip)))))) (.seq (jQ QC4 (.cond (.t 53) (jQ QC5 (.ret)) (.skip))) (jQ Qea (.ret))))))
abbrev o65:List RR:=[.tmp 6]
theorem k65:CT 65 54 r65 o65:=ck Tryz.func65 Tryz.ntmps65 (by decide +kernel)
abbrev QC6:IL:=[jf 1 1 0,jg 2]
abbrev QC7:IL:=[jb 3 3 1,jc 4 3,ye 5 4 4,ja 6 5,jm 7 3 1 6,jt 8 7 6,yu 9 8 5 6,jk 10 6 9,ja 2 10]
abbrev r66:RC:=jQ QC6 (jQ QC7 (.ret))
abbrev o66:List RR:=[.tmp 2]
theorem k66:CT 66 11 r66 o66:=ck Tryz.func66 Tryz.ntmps66 (by decide +kernel)
abbrev QC8:IL:=[jf 2 2 0,jf 3 3 1,jg 4]
abbrev QC9:IL:=[jb 5 7 2,jc 6 5,yr 7 6 0,ja 8 7,ju 9 7 2 8,ya 10 9 8,ju 11 7 3 8,ya 12 11 8,Ub 13 10 12 8,jn 14 8 13,ja 4 14]
abbrev r67:RC:=jQ QC8 (jQ QC9 (.ret))
abbrev o67:List RR:=[.tmp 4]
theorem k67:CT 67 15 r67 o67:=ck Tryz.func67 Tryz.ntmps67 (by decide +kernel)
abbrev QDa:IL:=[jf 3 3 0,jf 4 4 1,jf 5 5 2,jg 6]
abbrev QDb:IL:=[jb 10 1 4,jc 11 10]
abbrev QDc:IL:=[jz 6]
abbrev QDd:IL:=[jb 12 5 5,jc 13 12,jr 14 13 1]
abbrev QDe:IL:=[je 15 5 4,N4 16 113 15 0,ja 17 16,zy 18 5 4 17,⟨some 19,.call (.f 113) [(.t 18),(.c (.int .i64 1))],(some (17,true))⟩,jk 20 17 19,ja 6 20]
abbrev QDf:IL:=[jb 21 0 3,jb 22 1 21,jc 23 22,jb 24 6 5,jc 25 24,jj 26 5 23 25,je 27 5 26,ze 7 7,jh 5 7 27]
abbrev QDg:IL:=[jb 28 1 7,jc 29 28]
abbrev QDh:IL:=[jg 6]
abbrev QDi:IL:=[jb 30 2 7,jc 31 30,jl 32 1 31,jd 33 0]
abbrev QDj:IL:=[js 34 33 32]
abbrev Qeb:IL:=[jj 35 3 31 33,je 36 3 35,Uc 9 9,jh 3 9 36]
abbrev Qec:IL:=[je 37 5 4,jb 38 1 9,jc 39 38,jx 40 113 37 39,jy 41 40]
abbrev Qed:IL:=[jg 6]
abbrev Qee:IL:=[jp 42 33 1,ja 33 42]
abbrev QDk:RC:=.gho (.drop 9) (jQ QDj (.seq (jX 34 0) (.seq (.block 1 (jQ Qeb (jQ Qec (.cond (.t 41) (jQ Qed (.ret)) (.skip))))) (.reg Qee))))
abbrev Qef:IL:=[jz 6]
abbrev r68:RC:=jQ QDa (.seq (jQ QDb (.cond (.t 11) (jQ QDc (.ret)) (.skip))) (.seq (jQ QDd (.cond (.t 14) (jQ QDe (.ret)) (.skip))) (jQ QDf (.seq (jQ QDg (.cond (.t 29) (jQ QDh (.ret)) (.skip))) (.seq (jQ QDi (.block 0 (.loop QDk))) (jQ Qef (.ret)))))))
abbrev o68:List RR:=[.tmp 6]
theorem k68:CT 68 43 r68 o68:=ck Tryz.func68 Tryz.ntmps68 (by decide +kernel)
abbrev QDl:IL:=[jf 1 1 0,jg 2]
abbrev QDm:IL:=[jb 3 3 1,jc 4 3,jr 5 4 4,ja 6 5,jm 7 5 1 6,jt 8 7 6,⟨some 9,.val (.bin .num .geq (.t 8) (.c (.int .i64 1))),(some (6,true))⟩,ji 10 9 6,jm 11 5 1 10,jt 12 11 10,yz 13 12 6 10,⟨some 14,.val (.pick (.t 10) (.t 13) (.c (.bool false))),(some (6,true))⟩,ji 15 14 6,ju 16 5 1 15,ya 17 16 15,yi 18 17 9 15,F4 19 15 18 6,jk 20 6 19,ja 2 20]
abbrev r69:RC:=jQ QDl (jQ QDm (.ret))
abbrev o69:List RR:=[.tmp 2]
theorem k69:CT 69 21 r69 o69:=ck Tryz.func69 Tryz.ntmps69 (by decide +kernel)
def A5:IL:=[jf 1 1 0,yf 2]
def A6:IL:=[⟨some 14,.val (.build [.str [],.int .i64 0,.nils] [(1,1,(.c (.int .i64 (-1))))]),none⟩,jf 15 15 14,ja 3 15]
def A7:IL:=[je 16 3 1,jv 17 130 16,⟨some 4,.allocN 4 [.nils,.nils,.nils],none⟩,jh 3 4 17]
def A8:IL:=[je 18 3 4,jd 19 0]
def A9:IL:=[yr 20 19 3]
def Fe:IL:=[⟨some 21,.val (.aidx 3 1 none (.t 18) (.t 19)),none⟩,ja 6 21]
def CF:IL:=[ja 22 3,ja 23 6,jl 24 1 23,Ud 25 24 64,yg 26 131 22 25 3]
def CG:IL:=[ja 27 3,ja 28 6,jv 29 132 28,yg 30 131 27 29 11]
def CH:IL:=[jp 31 19 1,ja 19 31]
def CI:RC:=jQ A9 (.seq (jX 20 0) (.seq (.block 1 (jQ Fe (jQ CF (.reg CG)))) (.reg CH)))
def Ea:IL:=[ja 32 3,je 33 3 4,jv 34 133 33,yg 35 131 32 34 9]
def M0:IL:=[je 36 3 1,jv 37 134 36,ja 7 37]
def M1:IL:=[jb 38 0 1,jc 39 38,jl 40 1 39,jd 41 0]
def M2:IL:=[js 42 41 40]
def M3:IL:=[jj 43 5 39 41,je 44 5 43,zz 9 9,jh 5 9 44]
def M4:IL:=[ja 45 3,ja 46 3,za 47 46,jb 48 2 47,jc 49 48,yc 50 0 1 3 1,yc 51 0 9 5 9,ja 52 7,yb 53 135 50 51 52,yd 54 3 32 154 49 53,za 55 45,jb 56 2 55,jh 1 56 54]
def M5:IL:=[jp 57 41 1,ja 41 57]
def Eb:RC:=.gho (.drop 9) (jQ M2 (.seq (jX 42 2) (.seq (.block 3 (jQ M3 (.draw M4))) (.reg M5))))
def M6:IL:=[jb 58 1 1,jc 59 58,jl 60 1 59,jd 61 0]
def M7:IL:=[js 62 61 60]
def M8:IL:=[jj 63 5 59 61,je 64 5 63,ze 11 11,jh 5 11 64]
def M9:IL:=[ja 65 3,ja 66 3,za 67 66,jb 68 2 67,jc 69 68,yc 70 0 11 5 11,jv 71 136 70,yd 72 3 32 154 69 71,za 73 65,jb 74 2 73,jh 1 74 72]
def Pa:IL:=[jp 75 61 1,ja 61 75]
def Ec:RC:=.gho (.drop 11) (jQ M7 (.seq (jX 62 4) (.seq (.block 5 (jQ M8 (.draw M9))) (.reg Pa))))
def Pb:IL:=[jb 76 2 1,jc 77 76,jl 78 1 77,jd 79 0]
def Pd:IL:=[js 80 79 78]
def Pe:IL:=[jj 81 3 77 79,je 82 3 81,⟨some 13,.allocN 13 [.str [],.nils,.nils],none⟩,jh 3 13 82]
def Pf:IL:=[ja 83 3,ja 84 3,za 85 84,jb 86 2 85,jc 87 86,yc 88 0 1 3 1,yc 89 0 13 3 13,jx 90 137 88 89,yd 91 3 32 154 87 90,za 92 83,jb 93 2 92,jh 1 93 91]
def Pg:IL:=[jp 94 79 1,ja 79 94]
def Ed:RC:=.gho (.drop 13) (jQ Pd (.seq (jX 80 6) (.seq (.block 7 (jQ Pe (.draw Pf))) (.reg Pg))))
def Ph:IL:=[ja 95 3,za 96 95,jb 97 2 96,jc 98 97,ja 2 98]
def r98:RC:=jQ A5 (jQ A6 (.gho (.vecc 15 2 1100 3) (jQ A7 (.seq (jQ A8 (.block 0 (.loop CI))) (jQ Ea (jQ M0 (.seq (jQ M1 (.block 2 (.loop Eb))) (.seq (jQ M6 (.block 4 (.loop Ec))) (.seq (jQ Pb (.block 6 (.loop Ed))) (jQ Ph (.ret)))))))))))
def o98:List RR:=[.tmp 2]
theorem k98:CT 98 99 r98 o98:=ck Tryz.func98 Tryz.ntmps98 (by decide +kernel)
abbrev QDn:IL:=[H9 2]
abbrev QDo:IL:=[ja 6 0,⟨some 7,.call (.f 104) [(.t 6),(.c (.str [97,108,105,97,115]))],none⟩,ja 5 7,jo 8 5 0,jo 9 5 1,zk 3 3,jh 7 3 8,ja 4 9]
abbrev QDp:IL:=[jb 10 2 3,jc 11 10,ja 2 11]
abbrev r99:RC:=jQ QDn (jQ QDo (jQ QDp (.ret)))
abbrev o99:List RR:=[.tmp 2]
theorem k99:CT 99 12 r99 o99:=ck Tryz.func99 Tryz.ntmps99 (by decide +kernel)
abbrev Qei:IL:=[jf 2 2 0,jf 3 3 1,jd 4 0]
abbrev Qej:IL:=[jb 5 0 3,jc 6 5]
abbrev Qek:IL:=[jr 8 6 10,ja 7 8]
abbrev Qel:IL:=[jb 9 0 2,jc 10 9,Ua 11 139 3,zf 12 138 10 11,ja 4 12]
abbrev Qem:IL:=[jr 14 6 9,ja 13 14]
abbrev Qen:IL:=[jb 15 1 2,jc 16 15,Ua 17 141 3,zf 18 140 16 17,ja 4 18]
abbrev Qeo:IL:=[jd 4 (-1)]
abbrev Qep:RC:=jQ Qei (.seq (jQ Qej (.block 0 (jQ Qek (.cond (.t 7) (jQ Qel (.ret)) (jQ Qem (.cond (.t 13) (jQ Qen (.ret)) (.skip))))))) (jQ Qeo (.ret)))
abbrev Bd:List RR:=[.tmp 4]
theorem Qeq:CT 100 19 Qep Bd:=ck Tryz.func100 Tryz.ntmps100 (by decide +kernel)
abbrev Qer:IL:=[jg 4]
abbrev Qes:IL:=[ja 5 0,ja 6 1,jx 7 102 5 6,yo 8 7 0,ja 4 8]
abbrev Qet:RC:=jQ Qer (jQ Qes (.ret))
abbrev Qeu:List RR:=[.tmp 4]
theorem Qev:CT 101 9 Qet Qeu:=ck Tryz.func101 Tryz.ntmps101 (by decide +kernel)
abbrev Qew:IL:=[jd 4 0]
abbrev Qex:IL:=[ja 6 0,jl 7 1 6,jd 8 0]
abbrev Qey:IL:=[js 9 8 7]
abbrev Qez:IL:=[ja 10 8,ja 5 10]
abbrev QeA:IL:=[ja 11 1,ja 12 0,ja 13 5,jj 14 1 12 13,jc 15 14,ym 16 11 15]
abbrev QeB:IL:=[ja 17 5,ja 4 17]
abbrev QeC:IL:=[jp 18 8 1,ja 8 18]
abbrev QeD:RC:=jQ Qey (.seq (jX 9 0) (.seq (.block 1 (jQ Qez (jQ QeA (.cond (.t 16) (jQ QeB (.ret)) (.skip))))) (.reg QeC)))
abbrev QeE:IL:=[jd 4 (-1)]
abbrev QeF:RC:=jQ Qew (.seq (jQ Qex (.block 0 (.loop QeD))) (jQ QeE (.ret)))
abbrev QeG:List RR:=[.tmp 4]
theorem QeH:CT 102 19 QeF QeG:=ck Tryz.func102 Tryz.ntmps102 (by decide +kernel)
abbrev QeI:IL:=[zk 4 4,jg 5]
abbrev QeJ:IL:=[ja 7 0,ja 8 1,jx 9 142 7 8,ja 6 9]
abbrev QeK:IL:=[ja 10 6,yr 11 10 0]
abbrev QeL:IL:=[zn 12,jh 7 4 12,jg 5]
abbrev QeM:IL:=[ja 13 0,ja 14 6,jj 15 8 13 14,jb 16 1 15,je 17 7 16,jh 7 4 17,jz 5]
abbrev QeN:RC:=jQ QeI (jQ QeJ (.seq (jQ QeK (.cond (.t 11) (jQ QeL (.ret)) (.skip))) (jQ QeM (.ret))))
abbrev QeO:List RR:=[.cell 4 (some 7),.tmp 5]
theorem QeP:CT 104 18 QeN QeO:=ck Tryz.func104 Tryz.ntmps104 (by decide +kernel)
abbrev QeQ:IL:=[jf 2 2 0,jg 3]
abbrev QeR:IL:=[jb 4 1 2,jc 5 4,jc 6 1,ym 7 5 6,ja 3 7]
abbrev QeS:RC:=jQ QeQ (jQ QeR (.ret))
abbrev QeT:List RR:=[.tmp 3]
theorem QeU:CT 105 8 QeS QeT:=ck Tryz.func105 Tryz.ntmps105 (by decide +kernel)
abbrev QeV:IL:=[jf 2 2 0,jf 3 3 1,yh 4 4,jg 5]
abbrev QeW:IL:=[jb 7 1 3,jc 8 7,jb 9 0 2,jc 10 9,zf 11 143 8 10,ja 6 11]
abbrev QeX:IL:=[ja 12 6,yr 13 12 0]
abbrev QeY:IL:=[ML 14,jh 8 4 14,jg 5]
abbrev QeZ:IL:=[jb 15 1 3,jc 16 15,ja 17 6,jj 18 8 16 17,je 19 8 18,jh 8 4 19,jz 5]
abbrev Qe0:RC:=jQ QeV (jQ QeW (.seq (jQ QeX (.cond (.t 13) (jQ QeY (.ret)) (.skip))) (jQ QeZ (.ret))))
abbrev Qe1:List RR:=[.cell 4 (some 8),.tmp 5]
theorem Qe2:CT 106 20 Qe0 Qe1:=ck Tryz.func106 Tryz.ntmps106 (by decide +kernel)
abbrev Qe3:IL:=[jf 2 2 0,jg 3]
abbrev Qe4:IL:=[jb 4 2 2,jc 5 4,jc 6 1,ym 7 5 6,ja 8 7,jt 9 1 8,⟨some 10,.val (.bin .str .neq (.t 9) (.c (.str []))),(some (8,true))⟩,jk 11 8 10,ja 3 11]
abbrev Qe5:RC:=jQ Qe3 (jQ Qe4 (.ret))
abbrev Qe6:List RR:=[.tmp 3]
theorem Qe7:CT 107 12 Qe5 Qe6:=ck Tryz.func107 Tryz.ntmps107 (by decide +kernel)
abbrev Qe8:IL:=[jf 2 2 0,jg 3]
abbrev Qe9:IL:=[jb 4 0 2,jc 5 4,jc 6 1,zt 7 5 6,ja 3 7]
abbrev Qfa:RC:=jQ Qe8 (jQ Qe9 (.ret))
abbrev Qfb:List RR:=[.tmp 3]
theorem Qfc:CT 108 8 Qfa Qfb:=ck Tryz.func108 Tryz.ntmps108 (by decide +kernel)
abbrev Qfd:IL:=[jf 3 3 0,jd 6 0]
abbrev Qfe:IL:=[jb 11 4 3,jc 12 11,ja 13 1,ja 14 2,yb 15 144 12 13 14]
abbrev Qff:IL:=[jr 17 15 0,ja 16 17]
abbrev Qfg:IL:=[je 18 5 3,jv 19 110 18,ja 6 19]
abbrev Qfh:IL:=[jr 21 15 1,ja 20 21]
abbrev Qfi:IL:=[jb 23 4 3,jc 24 23,ja 25 1,ja 26 2,yb 27 145 24 25 26,ja 22 27,jo 28 22 0,jo 29 22 1,zk 7 7,jh 7 7 28,ja 8 29]
abbrev Qfj:IL:=[jb 31 4 3,jc 32 31,ja 33 1,ja 34 2,je 35 7 7,zq 36 146 32 33 34 35,ja 30 36,jo 37 30 0,jo 38 30 1,zk 9 9,jh 7 9 37,ja 10 38]
abbrev Qfk:IL:=[ja 39 10,ja 6 39]
abbrev Qfl:IL:=[jd 6 0]
abbrev Qfm:RC:=jQ Qfd (.seq (jQ Qfe (.block 0 (jQ Qff (.cond (.t 16) (jQ Qfg (.ret)) (jQ Qfh (.cond (.t 20) (jQ Qfi (jQ Qfj (jQ Qfk (.ret)))) (.skip))))))) (jQ Qfl (.ret)))
abbrev Qfn:List RR:=[.tmp 6]
theorem Qfo:CT 109 40 Qfm Qfn:=ck Tryz.func109 Tryz.ntmps109 (by decide +kernel)
abbrev Qfp:IL:=[jf 1 1 0,jd 2 0]
abbrev Qfq:IL:=[jb 3 4 1,jc 4 3,jr 5 4 1]
abbrev Qfr:IL:=[jd 2 13]
abbrev Qfs:IL:=[jd 2 12]
abbrev Qft:RC:=jQ Qfp (.seq (jQ Qfq (.cond (.t 5) (jQ Qfr (.ret)) (.skip))) (jQ Qfs (.ret)))
abbrev Qfu:List RR:=[.tmp 2]
theorem Qfv:CT 110 6 Qft Qfu:=ck Tryz.func110 Tryz.ntmps110 (by decide +kernel)
abbrev Qfw:IL:=[jf 2 2 0,jf 3 3 1,jd 4 0]
abbrev Qfx:IL:=[jb 8 0 2,jb 9 1 8,jc 10 9,jb 11 6 3,jc 12 11,jj 13 5 10 12,je 14 5 13,ze 5 5,jh 5 5 14]
abbrev Qfy:IL:=[jb 15 1 5,jc 16 15]
abbrev Qfz:IL:=[jd 4 6]
abbrev QfA:IL:=[jb 17 2 5,jc 18 17,jl 19 1 18,jd 20 0]
abbrev QfB:IL:=[js 21 20 19]
abbrev QfC:IL:=[jj 22 3 18 20,je 23 3 22,Uc 7 7,jh 3 7 23]
abbrev QfD:IL:=[jb 24 1 7,jc 25 24,zb 26 25 1]
abbrev QfE:IL:=[jd 4 6]
abbrev QfF:IL:=[jp 27 20 1,ja 20 27]
abbrev QfG:RC:=.gho (.drop 7) (jQ QfB (.seq (jX 21 0) (.seq (.block 1 (jQ QfC (jQ QfD (.cond (.t 26) (jQ QfE (.ret)) (.skip))))) (.reg QfF))))
abbrev I4:IL:=[jd 4 0]
abbrev QfH:RC:=jQ Qfw (jQ Qfx (.seq (jQ Qfy (.cond (.t 16) (jQ Qfz (.ret)) (.skip))) (.seq (jQ QfA (.block 0 (.loop QfG))) (jQ I4 (.ret)))))
abbrev QfI:List RR:=[.tmp 4]
theorem QfJ:CT 111 28 QfH QfI:=ck Tryz.func111 Tryz.ntmps111 (by decide +kernel)
abbrev QfK:IL:=[jf 3 3 0,jf 4 4 1,jf 5 5 2,jg 6]
abbrev QfL:IL:=[jb 13 0 3,jb 14 1 13,jw 15 0 3 14,jb 16 6 4,jw 17 0 4 16,jj 18 5 15 17,yq 19 5 18,jb 20 2 3,jb 21 1 20,jw 22 0 3 21,jb 23 6 5,jw 24 0 5 23,jj 25 5 22 24,yq 26 5 25,ze 7 7,ze 8 8,yn 0 7 5 7 19,yn 0 8 5 8 26]
abbrev QfM:IL:=[jb 27 2 7,jc 28 27,jl 29 1 28,jd 30 0]
abbrev QfN:IL:=[js 31 30 29]
abbrev QfO:IL:=[jj 32 3 28 30,je 33 3 32,Uc 10 10,jh 3 10 33]
abbrev QfP:IL:=[jb 34 1 10,jc 35 34,ye 36 35 0,ja 37 36,ju 38 3 4 37,ya 39 38 37,yx 40 39 3 37,jn 41 37 40,ja 42 41,zy 43 5 8 42,jm 44 0 10 42,jt 45 44 42,Ue 46 147 43 45 42,yw 47 46 42,jk 48 42 47]
abbrev QfQ:IL:=[jg 6]
abbrev QfR:IL:=[jp 49 30 1,ja 30 49]
abbrev QfS:RC:=.gho (.drop 10) (jQ QfN (.seq (jX 31 0) (.seq (.block 1 (jQ QfO (jQ QfP (.cond (.t 48) (jQ QfQ (.ret)) (.skip))))) (.reg QfR))))
abbrev QfT:IL:=[jb 50 1 7,jc 51 50,jy 52 51]
abbrev QfU:IL:=[jz 6]
abbrev I5:IL:=[jb 53 2 8,jc 54 53,jl 55 1 54,jd 56 0]
abbrev I6:IL:=[js 57 56 55]
abbrev I7:IL:=[jj 58 3 54 56,je 59 3 58,Uc 12 12,jh 3 12 59]
abbrev I8:IL:=[je 60 5 7,jb 61 1 12,jc 62 61,jx 63 113 60 62,jy 64 63]
abbrev I9:IL:=[jg 6]
abbrev La:IL:=[jp 65 56 1,ja 56 65]
abbrev QfV:RC:=.gho (.drop 12) (jQ I6 (.seq (jX 57 2) (.seq (.block 3 (jQ I7 (jQ I8 (.cond (.t 64) (jQ I9 (.ret)) (.skip))))) (.reg La))))
abbrev Lb:IL:=[jb 66 1 8,jc 67 66,ja 6 67]
abbrev QfW:RC:=jQ QfK (jD QfL (.seq (jQ QfM (.block 0 (.loop QfS))) (.seq (jQ QfT (.cond (.t 52) (jQ QfU (.ret)) (.skip))) (.seq (jQ I5 (.block 2 (.loop QfV))) (jQ Lb (.ret))))))
abbrev QfX:List RR:=[.tmp 6]
theorem QfY:CT 112 68 QfW QfX:=ck Tryz.func112 Tryz.ntmps112 (by decide +kernel)
abbrev QfZ:IL:=[jf 2 2 0,jg 4]
abbrev Qf0:IL:=[jb 7 2 2,jc 8 7,jl 9 1 8,jd 10 0]
abbrev Qf1:IL:=[js 11 10 9]
abbrev Qf2:IL:=[jj 12 3 8 10,je 13 3 12,Uc 6 6,jh 3 6 13]
abbrev Qf3:IL:=[jb 14 1 6,jc 15 14,ja 16 1,zt 17 15 16]
abbrev Qf4:IL:=[jz 4]
abbrev Qf5:IL:=[jp 18 10 1,ja 10 18]
abbrev Qf6:RC:=.gho (.drop 6) (jQ Qf1 (.seq (jX 11 0) (.seq (.block 1 (jQ Qf2 (jQ Qf3 (.cond (.t 17) (jQ Qf4 (.ret)) (.skip))))) (.reg Qf5))))
abbrev Qf7:IL:=[jg 4]
abbrev Qf8:RC:=jQ QfZ (.seq (jQ Qf0 (.block 0 (.loop Qf6))) (jQ Qf7 (.ret)))
abbrev Qf9:List RR:=[.tmp 4]
theorem Qga:CT 113 19 Qf8 Qf9:=ck Tryz.func113 Tryz.ntmps113 (by decide +kernel)
abbrev Qgb:IL:=[jf 1 1 0,⟨some 2,.allocN 2 [.nils,.nils,.nils],none⟩]
abbrev Qgc:IL:=[⟨some 3,.allocN 3 [.nils,.nils,.nils],none⟩]
abbrev Qgd:IL:=[jb 10 0 1,jc 11 10,jl 12 1 11,jd 13 0]
abbrev Qge:IL:=[js 14 13 12]
abbrev Qgf:IL:=[jj 15 5 11 13,je 16 5 15,zz 5 5,jh 5 5 16]
abbrev Qgg:IL:=[N5 17 1 3 3 0,jc 18 17,jb 19 0 5,jc 20 19,H7 21 1 1 0 1 20,yd 22 1 16 9 18 21,N5 23 1 3 3 0,jh 1 23 22]
abbrev Qgh:IL:=[jp 24 13 1,ja 13 24]
abbrev Pi:RC:=.gho (.drop 5) (jQ Qge (.seq (jX 14 0) (.seq (.block 1 (jQ Qgf (.reg Qgg))) (.reg Qgh))))
abbrev Qgi:IL:=[jb 25 1 1,jc 26 25,jl 27 1 26,jd 28 0]
abbrev Qgj:IL:=[js 29 28 27]
abbrev Qgk:IL:=[jj 30 5 26 28,je 31 5 30,ze 7 7,jh 5 7 31]
abbrev Lc:IL:=[N5 32 1 3 3 1,jc 33 32,jb 34 0 7,jc 35 34,H7 36 1 1 0 1 35,yd 37 1 16 9 33 36,N5 38 1 3 3 1,jh 1 38 37]
abbrev Ld:IL:=[jp 39 28 1,ja 28 39]
abbrev Pj:RC:=.gho (.drop 7) (jQ Qgj (.seq (jX 29 2) (.seq (.block 3 (jQ Qgk (.reg Lc))) (.reg Ld))))
abbrev Le:IL:=[jb 40 2 1,jc 41 40,jl 42 1 41,jd 43 0]
abbrev Lf:IL:=[js 44 43 42]
abbrev Lg:IL:=[jj 45 3 41 43,je 46 3 45,⟨some 9,.allocN 9 [.str [],.nils,.nils],none⟩,jh 3 9 46]
abbrev Lh:IL:=[N5 47 1 3 3 2,jc 48 47,jb 49 0 9,jc 50 49,H7 51 1 1 0 1 50,yd 52 1 16 9 48 51,N5 53 1 3 3 2,jh 1 53 52]
abbrev Li:IL:=[jp 54 43 1,ja 43 54]
abbrev Pk:RC:=.gho (.drop 9) (jQ Lf (.seq (jX 44 4) (.seq (.block 5 (jQ Lg (.reg Lh))) (.reg Li))))
abbrev Lj:IL:=[je 55 3 3,jh 3 2 55]
abbrev Qgl:RC:=jQ Qgb (jQ Qgc (.gho (.vecc 3 0 1100 1) (.gho (.vecc 3 1 1101 1) (.gho (.vecc 3 2 1102 1) (.seq (jQ Qgd (.block 0 (.loop Pi))) (.seq (jQ Qgi (.block 2 (.loop Pj))) (.seq (jQ Le (.block 4 (.loop Pk))) (jQ Lj (.ret)))))))))
abbrev Qgm:List RR:=[.cell 2 (some 3)]
theorem Qgn:CT 130 56 Qgl Qgm:=ck Tryz.func130 Tryz.ntmps130 (by decide +kernel)
abbrev Qgo:IL:=[ja 6 1,jy 7 6]
abbrev Qgp:IL:=[ja 8 0,ja 9 0,za 10 9,jb 11 2 10,DG 12 11,ja 13 0,za 14 13,jb 15 0 14,DG 16 15,ja 17 0,za 18 17,jb 19 1 18,DG 20 19,ja 21 2,⟨some 22,.val (.build [.str [],.int .i64 0,.int .i64 0] [(0,1,(.t 16)),(1,1,(.t 20)),(2,1,(.t 21))]),none⟩,⟨some 23,.bsl 3 1 [.str [],.int .i64 0,.int .i64 0] [(0,3,(.t 22))],none⟩,yd 24 3 32 154 12 23,za 25 8,jb 26 2 25,jh 1 26 24]
abbrev Qgq:RC:=jQ Qgo (.cond (.t 7) (.draw Qgp) (.skip))
abbrev Qgr:List RR:=[]
theorem Hj:CT 131 27 Qgq Qgr:=ck Tryz.func131 Tryz.ntmps131 (by decide +kernel)
abbrev Qgs:IL:=[jg 2]
abbrev Qgt:IL:=[jd 3 1]
abbrev Qgu:IL:=[ja 4 3,ja 5 0,jl 6 1 5,js 7 4 6]
abbrev Qgv:IL:=[ja 10 0,ja 11 3,jj 12 1 10 11,yp 13 12,ja 14 0,ja 15 3,zx 16 15 1,jj 17 1 14 16,yp 18 17,⟨some 19,.val (.bin .str .leq (.t 13) (.t 18)),none⟩]
abbrev Qgw:IL:=[jg 2]
abbrev Qgx:IL:=[ja 8 3,jp 9 8 1,ja 3 9]
abbrev Qgy:RC:=.seq (jQ Qgu (jX 7 0)) (.seq (.block 1 (jD Qgv (.cond (.t 19) (jQ Qgw (.ret)) (.skip)))) (.reg Qgx))
abbrev Qgz:IL:=[jz 2]
abbrev QgA:RC:=jQ Qgs (.seq (jQ Qgt (.block 0 (.loop Qgy))) (jQ Qgz (.ret)))
abbrev QgB:List RR:=[.tmp 2]
theorem QgC:CT 132 20 QgA QgB:=ck Tryz.func132 Tryz.ntmps132 (by decide +kernel)
abbrev QgD:IL:=[jf 1 1 0,jg 2]
abbrev QgE:IL:=[jd 5 0]
abbrev QgF:IL:=[yr 6 5 3]
abbrev QgG:IL:=[ja 7 5,ja 3 7]
abbrev QgH:IL:=[ja 8 3,jd 9 0]
abbrev QgI:IL:=[js 10 9 8]
abbrev QgJ:IL:=[ja 11 9,⟨some 4,.allocN 4 [.int .i64 0],none⟩,jh 1 4 11]
abbrev QgK:IL:=[ja 12 3,⟨some 13,.val (.iaddr 1 (some 3) (.t 1) (.t 12)),none⟩,jc 14 13,⟨some 15,.val (.mkfn (.func 163) [] [(.t 1),(.t 4)]),none⟩,zf 16 162 14 15]
abbrev QgL:IL:=[jg 2]
abbrev QgM:IL:=[jp 17 9 1,ja 9 17]
abbrev Pl:RC:=.gho (.drop 4) (jQ QgI (.seq (jX 10 2) (.seq (.block 3 (jQ QgJ (jQ QgK (.cond (.t 16) (jQ QgL (.ret)) (.skip))))) (.reg QgM))))
abbrev Lk:IL:=[jp 18 5 1,ja 5 18]
abbrev QgN:RC:=.gho (.drop 4) (jQ QgF (.seq (jX 6 0) (.seq (.block 1 (jQ QgG (jQ QgH (.block 2 (.loop Pl))))) (.reg Lk))))
abbrev Ll:IL:=[jz 2]
abbrev QgO:RC:=jQ QgD (.seq (jQ QgE (.block 0 (.loop QgN))) (jQ Ll (.ret)))
abbrev QgP:List RR:=[.tmp 2]
theorem QgQ:CT 133 19 QgO QgP:=ck Tryz.func133 Tryz.ntmps133 (by decide +kernel)
abbrev QgR:IL:=[jf 1 1 0,⟨some 2,.val (.mov (.c (.nilm))),none⟩]
abbrev QgS:IL:=[⟨some 9,.mkm 9,none⟩,⟨some 3,.allocN 3 [.nilm],none⟩,jh 1 3 9]
abbrev QgT:IL:=[jb 10 0 1,jc 11 10,jl 12 1 11,jp 13 12 1,jd 14 0]
abbrev QgU:IL:=[js 15 14 13]
abbrev QgV:IL:=[jb 16 0 1,jc 17 16,jl 18 1 17,jd 19 0]
abbrev QgW:IL:=[js 20 19 18]
abbrev QgX:IL:=[jj 21 5 17 19,je 22 5 21,zz 5 5,jh 5 5 22]
abbrev QgY:IL:=[je 24 3 1,jb 25 0 5,jc 26 25,jx 27 164 24 26,ja 23 27,jo 28 23 0,jo 29 23 1,zz 6 6,jh 5 6 28,ja 7 29]
abbrev QgZ:IL:=[je 30 5 6,jv 31 165 30,⟨some 32,.val (.mkfn (.func 166) [] [(.t 1),(.t 3)]),none⟩,zf 33 162 31 32,ja 8 33]
abbrev Qg0:IL:=[ja 34 8,jy 35 34]
abbrev Lm:IL:=[jc 36 3,jb 37 0 5,jc 38 37,⟨none,.mput (.t 36) (.t 38) (.c (.bool true)),none⟩]
abbrev Ln:IL:=[jp 39 19 1,ja 19 39]
abbrev Pm:RC:=.gho (.drop 6) (.gho (.drop 5) (jQ QgW (.seq (jX 20 2) (.seq (.block 3 (jQ QgX (jQ QgY (jQ QgZ (jQ Qg0 (.cond (.t 35) (.reg Lm) (.skip))))))) (.reg Ln)))))
abbrev Lo:IL:=[jp 40 14 1,ja 14 40]
abbrev Qg1:RC:=.gho (.drop 6) (.gho (.drop 5) (jQ QgU (.seq (jX 15 0) (.seq (.block 1 (jQ QgV (.block 2 (.loop Pm)))) (.reg Lo)))))
abbrev Lp:IL:=[jc 41 3,ja 2 41]
abbrev Qg2:RC:=jQ QgR (jQ QgS (.seq (jQ QgT (.block 0 (.loop Qg1))) (jQ Lp (.ret))))
abbrev Qg3:List RR:=[.tmp 2]
theorem Qg4:CT 134 42 Qg2 Qg3:=ck Tryz.func134 Tryz.ntmps134 (by decide +kernel)
def Pn:IL:=[jf 3 3 0,jf 4 4 1,yf 6]
def Po:IL:=[jb 11 0 4,jc 12 11,⟨some 13,.val (.build [.str [],.int .i64 0,.nils] [(0,1,(.t 12)),(1,1,(.c (.int .i64 (-1))))]),none⟩,jf 14 14 13,ja 7 14]
def Pp:IL:=[ja 15 7,jb 16 0 4,jc 17 16,jv 18 167 17,yg 19 131 15 18 8]
def Be:IL:=[ja 20 7,jb 21 1 4,jc 22 21,jl 23 1 22,Ud 24 23 64,ja 25 24,jm 26 2 4 25,jt 27 26 25,ys 28 1 27 25,jm 29 3 4 25,jt 30 29 25,ys 31 1 30 25,⟨some 32,.val (.mnx true (.t 28) (.t 31)),(some (25,true))⟩,yz 33 32 16 25,jk 34 25 33,yg 35 131 20 34 3]
def Pr:IL:=[jb 36 1 4,jc 37 36,jl 38 1 37,jd 39 0]
def Ps:IL:=[js 40 39 38]
def Pt:IL:=[ja 41 39,ja 8 41]
def Pu:IL:=[ja 42 7,je 43 3 3,je 44 5 4,ja 45 8,⟨some 46,.callF (.f 168) [(.t 42),(.t 43),(.t 44),(.t 45)],none⟩]
def Pv:IL:=[jp 47 39 1,ja 39 47]
def Bf:RC:=jQ Ps (.seq (jX 40 0) (.seq (.block 1 (jQ Pt (.reg Pu))) (.reg Pv)))
def Pw:IL:=[ja 48 7,jb 49 2 4,jc 50 49,zi 51 169 48 50 1 65535]
def Vb:IL:=[jb 52 3 4,jc 53 52,jl 54 1 53,jd 55 0]
def Vc:IL:=[js 56 55 54]
def Vd:IL:=[jj 57 1 53 55,jc 58 57,ja 10 58]
def Ve:IL:=[ja 59 7,ja 60 10,jv 61 170 60,yg 62 131 59 61 7]
def Vf:IL:=[jp 63 55 1,ja 55 63]
def Bg:RC:=jQ Vc (.seq (jX 56 2) (.seq (.block 3 (jQ Vd (.reg Ve))) (.reg Vf)))
def Vg:IL:=[ja 64 7,jb 65 4 4,jc 66 65,yg 67 171 64 66 1]
def Vh:IL:=[ja 68 7,je 69 3 3,je 70 5 4,ja 71 2,yb 72 172 69 70 71,jy 73 72,yg 74 131 68 73 19]
def Vi:IL:=[ja 75 7,za 76 75,jb 77 2 76,jc 78 77,ja 6 78]
def Tw:RC:=jQ Pn (jQ Po (.gho (.vecc 14 2 1100 3) (jQ Pp (jQ Be (.seq (jQ Pr (.block 0 (.loop Bf))) (jQ Pw (.seq (jQ Vb (.block 2 (.loop Bg))) (jQ Vg (jQ Vh (jQ Vi (.ret)))))))))))
def Tx:List RR:=[.tmp 6]
theorem Qg5:CT 135 79 Tw Tx:=ck Tryz.func135 Tryz.ntmps135 (by decide +kernel)
def Px:IL:=[jf 2 2 0,jf 3 3 1,yf 4]
def Py:IL:=[jb 12 0 3,jc 13 12,⟨some 14,.val (.build [.str [],.int .i64 0,.nils] [(0,1,(.t 13)),(1,1,(.c (.int .i64 (-1))))]),none⟩,jf 15 15 14,ja 5 15]
def Pz:IL:=[ja 16 5,jb 17 0 3,jc 18 17,jv 19 167 18,yg 20 131 16 19 8]
def PA:IL:=[ja 21 5,jb 22 1 3,jc 23 22,jl 24 1 23,Ud 25 24 64,yg 26 131 21 25 3]
def PD:IL:=[jb 27 1 3,jc 28 27,jl 29 1 28,jd 30 0]
def PF:IL:=[js 31 30 29]
def PH:IL:=[ja 32 30,jj 33 5 28 30,je 34 5 33,⟨some 7,.allocN 7 [.str [],.str [],.str [],.int .i64 0,.nils],none⟩,ja 6 32,jh 5 7 34]
def PJ:IL:=[ja 35 5,ja 36 6,za 37 35,jb 38 1 37,jh 1 38 36]
def Bh:IL:=[ja 39 5,jb 40 0 7,jc 41 40,jv 42 173 41,yg 43 131 39 42 8]
def Gd:IL:=[ja 44 5,ja 45 6,jr 46 45 0,ja 47 46,ju 48 0 7 47,yt 49 0 7 48 47,ju 50 1 3 47,yt 51 0 3 50 47,jq 52 6 47,F5 53 52 1 47,zh 54 5 51 53 47,ju 55 0 54 47,zo 56 55 47,⟨some 57,.val (.bin .str .gtr (.t 49) (.t 56)),(some (47,false))⟩,jn 58 47 57,yg 59 131 44 58 11]
def Vj:IL:=[je 61 3 2,jb 62 1 7,jc 63 62,jx 64 164 61 63,ja 60 64,jo 65 60 0,jo 66 60 1,zz 8 8,jh 5 8 65,ja 9 66]
def Vk:IL:=[je 68 3 2,jb 69 2 7,jc 70 69,jx 71 164 68 70,ja 67 71,jo 72 67 0,jo 73 67 1,zz 10 10,jh 5 10 72,ja 11 73]
def GM:IL:=[ja 74 5,ja 75 9,ja 76 75,ji 77 11 76,jk 78 76 77,yg 79 131 74 78 12]
def GN:IL:=[ja 80 5,jb 81 3 7,jc 82 81,yo 83 82 1,ja 84 83,jm 85 3 7 84,jt 86 85 84,yz 87 86 4 84,jk 88 84 87,yg 89 131 80 88 1]
def GP:IL:=[ja 90 5,jb 91 4 7,jc 92 91,yg 93 171 90 92 6]
def Vl:IL:=[jp 94 30 1,ja 30 94]
def PK:RC:=.gho (.drop 10) (.gho (.drop 8) (.gho (.drop 7) (jQ PF (.seq (jX 31 0) (.seq (.block 1 (jQ PH (jQ PJ (jQ Bh (jD Gd (jQ Vj (jQ Vk (jQ GM (jQ GN (.reg GP)))))))))) (.reg Vl))))))
def Vm:IL:=[ja 95 5,za 96 95,jb 97 1 96,⟨none,.store 1 (.t 97) (.c (.int .i64 (-1))),none⟩]
def Vn:IL:=[ja 98 5,jb 99 2 3,jc 100 99,yg 101 171 98 100 5]
def Vo:IL:=[ja 102 5,za 103 102,jb 104 2 103,jc 105 104,ja 4 105]
def Tz:RC:=jQ Px (jQ Py (.gho (.vecc 15 2 1100 3) (jQ Pz (jQ PA (.seq (jQ PD (.block 0 (.loop PK))) (jQ Vm (jQ Vn (jQ Vo (.ret)))))))))
def TA:List RR:=[.tmp 4]
theorem Qg6:CT 137 106 Tz TA:=ck Tryz.func137 Tryz.ntmps137 (by decide +kernel)
abbrev Qg7:IL:=[jd 4 0]
abbrev Qg8:IL:=[ja 6 0,jl 7 1 6,jd 8 0]
abbrev Qg9:IL:=[js 9 8 7]
abbrev Qha:IL:=[ja 10 8,ja 5 10]
abbrev Qhb:IL:=[ja 11 1,ja 12 0,ja 13 5,jj 14 5 12 13,je 15 5 14,H8 16 11 15]
abbrev Qhc:IL:=[ja 17 5,ja 4 17]
abbrev Qhd:IL:=[jp 18 8 1,ja 8 18]
abbrev Qhe:RC:=jQ Qg9 (.seq (jX 9 0) (.seq (.block 1 (jQ Qha (jQ Qhb (.cond (.t 16) (jQ Qhc (.ret)) (.skip))))) (.reg Qhd)))
abbrev Qhf:IL:=[jd 4 (-1)]
abbrev Qhg:RC:=jQ Qg7 (.seq (jQ Qg8 (.block 0 (.loop Qhe))) (jQ Qhf (.ret)))
abbrev Qhh:List RR:=[.tmp 4]
theorem Qhi:CT 138 19 Qhg Qhh:=ck Tryz.func138 Tryz.ntmps138 (by decide +kernel)
abbrev Qhj:IL:=[jf 2 2 0,jg 3]
abbrev Qhk:IL:=[jb 4 0 2,jc 5 4,jb 6 1 1,jc 7 6,ym 8 5 7,ja 3 8]
abbrev Qhl:RC:=jQ Qhj (jQ Qhk (.ret))
abbrev Qhm:List RR:=[.tmp 3]
theorem Qhn:CT 139 9 Qhl Qhm:=ck Tryz.func139 Tryz.ntmps139 (by decide +kernel)
abbrev Qho:IL:=[jd 4 0]
abbrev Qhp:IL:=[ja 6 0,jl 7 1 6,jd 8 0]
abbrev Qhq:IL:=[js 9 8 7]
abbrev Qhr:IL:=[ja 10 8,ja 5 10]
abbrev Qhs:IL:=[ja 11 1,ja 12 0,ja 13 5,jj 14 5 12 13,je 15 5 14,H8 16 11 15]
abbrev Qht:IL:=[ja 17 5,ja 4 17]
abbrev Qhu:IL:=[jp 18 8 1,ja 8 18]
abbrev Qhv:RC:=jQ Qhq (.seq (jX 9 0) (.seq (.block 1 (jQ Qhr (jQ Qhs (.cond (.t 16) (jQ Qht (.ret)) (.skip))))) (.reg Qhu)))
abbrev Qhw:IL:=[jd 4 (-1)]
abbrev Qhx:RC:=jQ Qho (.seq (jQ Qhp (.block 0 (.loop Qhv))) (jQ Qhw (.ret)))
abbrev Qhy:List RR:=[.tmp 4]
theorem Qhz:CT 140 19 Qhx Qhy:=ck Tryz.func140 Tryz.ntmps140 (by decide +kernel)
abbrev QhA:IL:=[jf 2 2 0,jg 3]
abbrev QhB:IL:=[jb 4 0 2,jc 5 4,jb 6 1 1,jc 7 6,ym 8 5 7,ja 3 8]
abbrev QhC:RC:=jQ QhA (jQ QhB (.ret))
abbrev QhD:List RR:=[.tmp 3]
theorem QhE:CT 141 9 QhC QhD:=ck Tryz.func141 Tryz.ntmps141 (by decide +kernel)
abbrev QhF:IL:=[jf 3 3 1,jd 4 0]
abbrev QhG:IL:=[ja 5 0,Ua 6 178 3,zf 7 177 5 6,ja 4 7]
abbrev QhH:RC:=jQ QhF (jQ QhG (.ret))
abbrev QhI:List RR:=[.tmp 4]
theorem QhJ:CT 142 8 QhH QhI:=ck Tryz.func142 Tryz.ntmps142 (by decide +kernel)
abbrev QhK:IL:=[jd 4 0]
abbrev QhL:IL:=[ja 6 0,jl 7 1 6,jd 8 0]
abbrev QhM:IL:=[js 9 8 7]
abbrev QhN:IL:=[ja 10 8,ja 5 10]
abbrev QhO:IL:=[ja 11 1,ja 12 0,ja 13 5,jj 14 8 12 13,je 15 8 14,H8 16 11 15]
abbrev QhP:IL:=[ja 17 5,ja 4 17]
abbrev QhQ:IL:=[jp 18 8 1,ja 8 18]
abbrev QhR:RC:=jQ QhM (.seq (jX 9 0) (.seq (.block 1 (jQ QhN (jQ QhO (.cond (.t 16) (jQ QhP (.ret)) (.skip))))) (.reg QhQ)))
abbrev QhS:IL:=[jd 4 (-1)]
abbrev QhT:RC:=jQ QhK (.seq (jQ QhL (.block 0 (.loop QhR))) (jQ QhS (.ret)))
abbrev QhU:List RR:=[.tmp 4]
theorem QhV:CT 143 19 QhT QhU:=ck Tryz.func143 Tryz.ntmps143 (by decide +kernel)
abbrev QhW:IL:=[jd 6 0]
abbrev QhX:IL:=[ja 10 0,ja 11 1,ja 12 2,yb 13 179 10 11 12,jy 14 13,ja 9 14]
abbrev QhY:IL:=[jd 6 0]
abbrev QhZ:IL:=[ja 16 1,ja 17 2,zt 18 16 17,ja 15 18]
abbrev Qh0:IL:=[jd 6 2]
abbrev Qh1:IL:=[ja 20 1,jv 21 180 20,ja 19 21]
abbrev Qh2:IL:=[ja 22 1,zx 23 22 1,MM 24 2 9 0 23,yq 25 2 24,ja 26 2,zx 27 26 1,MM 28 2 9 0 27,yq 29 2 28,⟨some 7,.allocN 7 [.int .u64 0,.int .u64 0],none⟩,⟨some 8,.allocN 8 [.int .u64 0,.int .u64 0],none⟩,yn 0 7 2 7 25,yn 0 8 2 8 29]
abbrev Qh3:IL:=[jb 30 0 7,jc 31 30,jb 32 0 8,jc 33 32,⟨some 34,.val (.bin .num .gtr (.t 31) (.t 33)),none⟩,ja 35 34,ju 36 1 7 35,ya 37 36 35,ju 38 1 8 35,ya 39 38 35,DI 40 37 39 35,jn 41 35 40]
abbrev Qh4:IL:=[jd 6 1]
abbrev Qh5:IL:=[jd 6 2]
abbrev Lq:IL:=[ja 43 1,jr 44 43 8,ja 42 44]
abbrev Lr:IL:=[jd 6 1]
abbrev Lt:IL:=[jd 6 2]
abbrev Qh6:RC:=jQ QhW (.seq (.block 0 (jQ QhX (.cond (.t 9) (jQ QhY (.ret)) (jQ QhZ (.cond (.t 15) (jQ Qh0 (.ret)) (jQ Qh1 (.cond (.t 19) (jD Qh2 (.seq (jQ Qh3 (.cond (.t 41) (jQ Qh4 (.ret)) (.skip))) (jQ Qh5 (.ret)))) (jQ Lq (.cond (.t 42) (jQ Lr (.ret)) (.skip)))))))))) (jQ Lt (.ret)))
abbrev Qh7:List RR:=[.tmp 6]
theorem QMK:CT 144 45 Qh6 Qh7:=ck Tryz.func144 Tryz.ntmps144 (by decide +kernel)
abbrev Qh8:IL:=[zk 6 6,jg 7]
abbrev Qh9:IL:=[ja 9 0,jv 10 181 9,yr 11 10 0,ja 12 11,jq 13 1 12,yy 14 182 13 12,yj 15 14 12,jn 16 12 15,ja 17 16,jq 18 2 17,yy 19 182 18 17,yj 20 19 17,jn 21 17 20,ja 22 21,jq 23 0 22,jq 24 1 22,jq 25 2 22,N2 26 144 23 24 25 22,yi 27 26 2 22,jn 28 22 27]
abbrev Qia:IL:=[zn 29,jh 7 6 29,jg 7]
abbrev Qib:IL:=[ja 30 0,ja 31 1,ja 32 2,yb 33 144 30 31 32,jr 34 33 0]
abbrev Qic:IL:=[ja 35 1,jv 36 183 35,jh 7 6 36,jz 7]
abbrev Qid:IL:=[ja 37 1,jr 38 37 8]
abbrev Qie:IL:=[ja 39 1,⟨some 40,.val (.build [.int .i64 0,.int .u64 0,.str [],.nils,.nils,.nils,.nils] [(0,1,(.t 39)),(2,1,(.c (.str [255])))]),none⟩,jh 7 6 40,jz 7]
abbrev Qif:IL:=[ja 41 2,zx 42 41 1,MM 43 2 9 0 42,jb 44 1 43,jc 45 44,⟨some 46,.val (.bin .num .add (.t 45) (.c (.int .u64 1))),none⟩,ja 8 46]
abbrev Qig:IL:=[ja 47 8,Ga 48 47 0,ja 49 48,jq 50 8 49,jq 51 1 49,F5 52 51 1 49,⟨some 53,.val (.iaddr 2 (some 9) (.g 0 gl0) (.t 52)),(some (49,false))⟩,ju 54 1 53 49,ya 55 54 49,DI 56 50 55 49,jn 57 49 56]
abbrev Qih:IL:=[yv 8 18446744073709551615]
abbrev Lu:IL:=[ja 58 1,ja 59 8,⟨some 60,.val (.build [.int .i64 0,.int .u64 0,.str [],.nils,.nils,.nils,.nils] [(0,1,(.t 58)),(1,1,(.t 59))]),none⟩,jh 7 6 60,jz 7]
abbrev Qii:RC:=jQ Qh8 (.seq (jQ Qh9 (.cond (.t 28) (jQ Qia (.ret)) (.skip))) (.seq (jQ Qib (.cond (.t 34) (jQ Qic (.ret)) (.skip))) (.seq (jQ Qid (.cond (.t 38) (jQ Qie (.ret)) (.skip))) (jQ Qif (.seq (jQ Qig (.cond (.t 57) (.reg Qih) (.skip))) (jQ Lu (.ret)))))))
abbrev Qij:List RR:=[.cell 6 (some 7),.tmp 7]
theorem QML:CT 145 61 Qii Qij:=ck Tryz.func145 Tryz.ntmps145 (by decide +kernel)
abbrev Qik:IL:=[jf 7 7 3,zk 8 8,jd 9 0]
abbrev Qil:IL:=[ja 10 0,jv 11 181 10,yr 12 11 0,ja 13 12,jq 14 1 13,yy 15 182 14 13,yj 16 15 13,jn 17 13 16,ja 18 17,jq 19 2 18,yy 20 182 19 18,yj 21 20 18,jn 22 18 21,ja 23 22,jq 24 1 23,yl 25 7 7 23,zl 26 184 24 25 23,yj 27 26 23,jn 28 23 27]
abbrev Qim:IL:=[zn 29,jh 7 8 29,jd 9 1]
abbrev Qin:IL:=[ja 31 0,ja 32 1,ja 33 2,yb 34 179 31 32 33,jy 35 34,ja 36 35,ji 37 0 36,yk 38 37 1 36,jk 39 36 38,ja 30 39]
abbrev Qio:IL:=[zn 40,jh 7 8 40,jd 9 13]
abbrev Qip:IL:=[ja 42 0,ja 43 1,ja 44 2,yb 45 179 42 43 44,jy 46 45,ja 41 46]
abbrev Qiq:IL:=[zn 47,jh 7 8 47,jd 9 12]
abbrev Qir:IL:=[ja 49 1,jv 50 180 49,ja 51 50,ji 52 1 51,ji 53 2 51,jm 54 1 7 51,jt 55 54 51,⟨some 56,.call (.f 185) [(.t 52),(.t 53),(.t 55)],(some (51,true))⟩,yw 57 56 51,jk 58 51 57,ja 48 58]
abbrev Qis:IL:=[zn 59,jh 7 8 59,jd 9 6]
abbrev Qit:IL:=[ja 61 2,jr 62 61 7,ja 63 62,jm 64 2 7 63,jt 65 64 63,zm 66 170 65 63,yw 67 66 63,jk 68 63 67,ja 60 68]
abbrev Lv:IL:=[zn 69,jh 7 8 69,jd 9 7]
abbrev Lw:IL:=[ja 70 2,jb 71 1 7,jc 72 71,jb 73 2 7,jc 74 73,⟨some 75,.val (.build [.int .i64 0,.int .u64 0,.str [],.nils,.nils,.nils,.nils] [(0,1,(.t 70)),(1,1,(.t 72)),(2,1,(.t 74))]),none⟩,jv 76 186 75,jh 7 8 76,jd 9 0]
abbrev Qiu:RC:=jQ Qik (.seq (jQ Qil (.cond (.t 28) (jQ Qim (.ret)) (.skip))) (.seq (.block 0 (jQ Qin (.cond (.t 30) (jQ Qio (.ret)) (jQ Qip (.cond (.t 41) (jQ Qiq (.ret)) (jQ Qir (.cond (.t 48) (jQ Qis (.ret)) (jQ Qit (.cond (.t 60) (jQ Lv (.ret)) (.skip)))))))))) (jQ Lw (.ret))))
abbrev Qiv:List RR:=[.cell 8 (some 7),.tmp 9]
theorem QMM:CT 146 77 Qiu Qiv:=ck Tryz.func146 Tryz.ntmps146 (by decide +kernel)
abbrev Qiw:IL:=[jf 2 2 0,jg 4]
abbrev Qix:IL:=[jb 7 2 2,jc 8 7,jl 9 1 8,jd 10 0]
abbrev Qiy:IL:=[js 11 10 9]
abbrev Qiz:IL:=[jj 12 3 8 10,je 13 3 12,Uc 6 6,jh 3 6 13]
abbrev QiA:IL:=[jb 14 0 6,jc 15 14,ja 16 1,ym 17 15 16]
abbrev QiB:IL:=[jz 4]
abbrev QiC:IL:=[jp 18 10 1,ja 10 18]
abbrev QiD:RC:=.gho (.drop 6) (jQ Qiy (.seq (jX 11 0) (.seq (.block 1 (jQ Qiz (jQ QiA (.cond (.t 17) (jQ QiB (.ret)) (.skip))))) (.reg QiC))))
abbrev QiE:IL:=[jg 4]
abbrev QiF:RC:=jQ Qiw (.seq (jQ Qix (.block 0 (.loop QiD))) (jQ QiE (.ret)))
abbrev QiG:List RR:=[.tmp 4]
theorem QiH:CT 147 19 QiF QiG:=ck Tryz.func147 Tryz.ntmps147 (by decide +kernel)
abbrev QiI:IL:=[jg 4]
abbrev QiJ:IL:=[ja 5 0,ja 6 1,zf 7 196 5 6,yo 8 7 0,ja 4 8]
abbrev QiK:RC:=jQ QiI (jQ QiJ (.ret))
abbrev QiL:List RR:=[.tmp 4]
theorem QiM:CT 162 9 QiK QiL:=ck Tryz.func162 Tryz.ntmps162 (by decide +kernel)
abbrev QiN:IL:=[jg 4]
abbrev QiO:IL:=[jc 5 2,⟨some 6,.val (.iaddr 1 (some 3) (.t 1) (.t 5)),none⟩,jc 7 6,ja 8 0,jx 9 101 7 8,ja 4 9]
abbrev QiP:RC:=jQ QiN (jQ QiO (.ret))
abbrev QiQ:List RR:=[.tmp 4]
theorem QiR:CT 163 10 QiP QiQ:=ck Tryz.func163 Tryz.ntmps163 (by decide +kernel)
abbrev QiS:IL:=[jf 2 2 0,jf 3 3 1,zz 4 4,jg 5]
abbrev QiT:IL:=[jb 7 0 2,jc 8 7,Ua 9 197 3,zf 10 138 8 9,ja 6 10]
abbrev QiU:IL:=[ja 11 6,yr 12 11 0]
abbrev QiV:IL:=[⟨some 13,.val (.build [.str [],.nils,.nils,.nils,.nils] []),none⟩,jh 5 4 13,jg 5]
abbrev QiW:IL:=[jb 14 0 2,jc 15 14,ja 16 6,jj 17 5 15 16,je 18 5 17,jh 5 4 18,jz 5]
abbrev QiX:RC:=jQ QiS (jQ QiT (.seq (jQ QiU (.cond (.t 12) (jQ QiV (.ret)) (.skip))) (jQ QiW (.ret))))
abbrev QiY:List RR:=[.cell 4 (some 5),.tmp 5]
theorem QiZ:CT 164 19 QiX QiY:=ck Tryz.func164 Tryz.ntmps164 (by decide +kernel)
abbrev Qi0:IL:=[jf 1 1 0,yf 2]
abbrev Qi1:IL:=[yf 3]
abbrev Qi2:IL:=[jb 6 1 1,jc 7 6,jl 8 1 7,jd 9 0]
abbrev Qi3:IL:=[js 10 9 8]
abbrev Qi4:IL:=[jj 11 16 7 9,je 12 16 11,DH 5 5,jh 16 5 12]
abbrev Qi5:IL:=[jb 13 2 5,jc 14 13,jr 15 14 1,ja 16 15,jm 17 4 5 16,jm 18 0 17 16,jt 19 18 16,yk 20 19 10 16,jk 21 16 20]
abbrev Qi6:IL:=[ja 22 3,jb 23 4 5,jb 24 1 23,jc 25 24,H7 26 1 1 0 1 25,yd 27 1 16 9 22 26,ja 3 27]
abbrev Qi7:IL:=[jp 28 9 1,ja 9 28]
abbrev Qi8:RC:=.gho (.drop 5) (jQ Qi3 (.seq (jX 10 0) (.seq (.block 1 (jQ Qi4 (jQ Qi5 (.cond (.t 21) (.reg Qi6) (.skip))))) (.reg Qi7))))
abbrev Qi9:IL:=[ja 29 3,ja 2 29]
abbrev Qja:RC:=jQ Qi0 (jQ Qi1 (.gho (.vec 3 3 1) (.seq (jQ Qi2 (.block 0 (.loop Qi8))) (jQ Qi9 (.ret)))))
abbrev Qjb:List RR:=[.tmp 2]
theorem Qjc:CT 165 30 Qja Qjb:=ck Tryz.func165 Tryz.ntmps165 (by decide +kernel)
abbrev Qjd:IL:=[jg 4]
abbrev Qje:IL:=[je 8 3 1,ja 9 0,jx 10 164 8 9,ja 7 10,jo 11 7 0,jo 12 7 1,zz 5 5,jh 5 5 11,ja 6 12]
abbrev Qjf:IL:=[ja 13 6,ja 14 13,jt 15 2 14,ji 16 0 14,⟨some 17,.val (.mget false (.bool false) (.t 15) (.t 16)),(some (14,true))⟩,yw 18 17 14,jk 19 14 18,ja 4 19]
abbrev Qjg:RC:=jQ Qjd (jQ Qje (jQ Qjf (.ret)))
abbrev Qjh:List RR:=[.tmp 4]
theorem Qji:CT 166 20 Qjg Qjh:=ck Tryz.func166 Tryz.ntmps166 (by decide +kernel)
abbrev Qjj:IL:=[jg 2]
abbrev Qjk:IL:=[ja 3 0,jv 4 198 3,ja 5 4,ji 6 0 5,⟨some 7,.call (.f 199) [(.t 6),(.c (.str [46]))],(some (5,true))⟩,⟨some 8,.callF (.f 162) [(.t 7),(.f 200)],(some (5,true))⟩,yw 9 8 5,jk 10 5 9,ja 2 10]
abbrev Qjl:RC:=jQ Qjj (jQ Qjk (.ret))
abbrev Qjm:List RR:=[.tmp 2]
theorem Qjn:CT 167 11 Qjl Qjm:=ck Tryz.func167 Tryz.ntmps167 (by decide +kernel)
def PM:IL:=[jf 5 5 1,jf 6 6 2]
def PP:IL:=[jb 9 1 6,jc 10 9,ja 11 3,jj 12 16 10 11,je 13 16 12,DH 8 8,jh 16 8 13]
def PQ:IL:=[ja 14 0,jb 15 0 8,jc 16 15,za 17 14,jb 18 1 17,jh 1 18 16]
def Bi:IL:=[ja 19 0,jb 20 0 8,jc 21 20,yo 22 21 1,ja 23 22,jm 24 0 8 23,jt 25 24 23,yz 26 25 65535 23,jk 27 23 26,yg 28 131 19 27 6]
def Ge:IL:=[ja 29 0,ja 30 3,jr 31 30 0,ja 32 31,ju 33 0 8 32,yt 34 0 8 33 32,ju 35 1 6 32,yt 36 0 6 35 32,jq 37 3 32,F5 38 37 1 32,zh 39 16 36 38 32,ju 40 0 39 32,zo 41 40 32,DI 42 34 41 32,jn 43 32 42,yg 44 131 29 43 11]
def Bj:IL:=[ja 45 0,jb 46 1 8,jc 47 46,jv 48 173 47,yg 49 131 45 48 8]
def Bk:IL:=[ja 50 0,jb 51 1 6,jc 52 51,ja 53 3,⟨some 54,.callF (.f 201) [(.t 52),(.t 53),(.f 202)],none⟩,jy 55 54,yg 56 131 50 55 9]
def Bl:IL:=[ja 57 0,jb 58 2 6,jc 59 58,jb 60 0 8,jc 61 60,jx 62 176 59 61,jy 63 62,ja 64 63,jm 65 3 6 64,jt 66 65 64,jm 67 1 8 64,jt 68 67 64,Ue 69 101 66 68 64,yw 70 69 64,jk 71 64 70,yg 72 131 57 71 21]
def Bm:IL:=[ja 73 0,jb 74 2 8,jc 75 74,yo 76 75 1,ja 77 76,jm 78 2 8 77,jt 79 78 77,yz 80 79 5 77,jk 81 77 80,ja 82 81,jm 83 2 8 82,jt 84 83 82,jm 85 3 8 82,jt 86 85 82,Ue 87 203 84 86 82,jk 88 82 87,yg 89 131 73 88 1]
def Bn:IL:=[ja 90 0,je 91 3 5,je 92 16 8,jx 93 204 91 92,yg 94 131 90 93 12]
def GQ:IL:=[ja 95 0,je 96 5 6,ja 97 3,jx 98 205 96 97,yg 99 131 95 98 15]
def GR:IL:=[ja 100 0,je 101 3 5,je 102 16 8,jx 103 206 101 102,yg 104 131 100 103 1]
def GS:IL:=[ja 105 0,jb 106 15 8,jc 107 106,yg 108 171 105 107 2]
def Vq:IL:=[ja 109 0,za 110 109,jb 111 1 110,⟨none,.store 1 (.t 111) (.c (.int .i64 (-1))),none⟩]
def TB:RC:=jQ PM (jQ PP (jQ PQ (jQ Bi (jD Ge (jQ Bj (jQ Bk (jQ Bl (jQ Bm (jQ Bn (jQ GQ (jQ GR (jQ GS (.reg Vq)))))))))))))
def TC:List RR:=[]
theorem Qjo:CT 168 112 TB TC:=ck Tryz.func168 Tryz.ntmps168 (by decide +kernel)
def PR:IL:=[ja 10 1,jl 11 1 10,jd 12 0]
def PT:IL:=[js 13 12 11]
def PU:IL:=[ja 14 12,jj 15 2 10 12,je 16 2 15,⟨some 9,.allocN 9 [.int .i64 0,.int .i64 0],none⟩,ja 8 14,jh 2 9 16]
def Bo:IL:=[ja 17 0,jb 18 0 9,jc 19 18,ja 20 2,⟨some 21,.val (.bin .num .geq (.t 19) (.t 20)),none⟩,ja 22 21,jm 23 1 9 22,jt 24 23 22,ji 25 3 22,DJ 26 24 25 22,jk 27 22 26,ja 28 27,jm 29 0 9 28,jt 30 29 28,jm 31 1 9 28,jt 32 31 28,DJ 33 30 32 28,jk 34 28 33,yg 35 131 17 34 6]
def Gf:IL:=[ja 36 0,ja 37 8,jr 38 37 0,ja 39 38,ju 40 0 9 39,yt 41 0 9 40 39,jq 42 1 39,jq 43 8 39,F5 44 43 1 39,zh 45 2 42 44 39,ju 46 1 45 39,zo 47 46 39,DI 48 41 47 39,jn 49 39 48,yg 50 131 36 49 11]
def PV:IL:=[jp 51 12 1,ja 12 51]
def Qjp:RC:=.gho (.drop 9) (jQ PT (.seq (jX 13 0) (.seq (.block 1 (jQ PU (jQ Bo (.draw Gf)))) (.reg PV))))
def TD:RC:=jQ PR (.block 0 (.loop Qjp))
def TE:List RR:=[]
theorem Qjq:CT 169 52 TD TE:=ck Tryz.func169 Tryz.ntmps169 (by decide +kernel)
abbrev Qjr:IL:=[jg 2]
abbrev Qjs:IL:=[ja 3 0,jv 4 207 3,yr 5 4 0,ja 2 5]
abbrev Qjt:RC:=jQ Qjr (jQ Qjs (.ret))
abbrev Qju:List RR:=[.tmp 2]
theorem Qjv:CT 170 6 Qjt Qju:=ck Tryz.func170 Tryz.ntmps170 (by decide +kernel)
abbrev Qjw:IL:=[ja 7 1,ja 8 2,jx 9 208 7 8,ja 6 9]
abbrev Qjx:IL:=[ja 10 0,ja 11 6,jr 12 11 0,ja 13 6,⟨some 14,.callF (.f 131) [(.t 10),(.t 12),(.t 13)],none⟩]
abbrev Qjy:RC:=jQ Qjw (.reg Qjx)
abbrev Qjz:List RR:=[]
theorem TF:CT 171 15 Qjy Qjz:=ck Tryz.func171 Tryz.ntmps171 (by decide +kernel)
abbrev QjA:IL:=[jf 3 3 0,jf 4 4 1,jf 5 5 2,jg 6]
abbrev QjB:IL:=[je 7 5 4,jv 8 165 7,⟨some 9,.val (.mkfn (.func 209) [] [(.t 3),(.t 5)]),none⟩,zf 10 162 8 9,ja 6 10]
abbrev QjC:RC:=jQ QjA (jQ QjB (.ret))
abbrev QjD:List RR:=[.tmp 6]
theorem QjE:CT 172 11 QjC QjD:=ck Tryz.func172 Tryz.ntmps172 (by decide +kernel)
abbrev QjF:IL:=[jg 2]
abbrev QjG:IL:=[ja 3 0,jv 4 210 3,ja 5 4,ji 6 0 5,zm 7 200 6 5,yw 8 7 5,jk 9 5 8,ja 2 9]
abbrev QjH:RC:=jQ QjF (jQ QjG (.ret))
abbrev QjI:List RR:=[.tmp 2]
theorem QjJ:CT 173 10 QjH QjI:=ck Tryz.func173 Tryz.ntmps173 (by decide +kernel)
abbrev QjK:IL:=[jf 3 3 1,jg 4]
abbrev QjL:IL:=[ja 5 0,Ua 6 214 3,zf 7 213 5 6,ja 4 7]
abbrev QjM:RC:=jQ QjK (jQ QjL (.ret))
abbrev QjN:List RR:=[.tmp 4]
theorem QjO:CT 176 8 QjM QjN:=ck Tryz.func176 Tryz.ntmps176 (by decide +kernel)
abbrev QjP:IL:=[jd 4 0]
abbrev QjQ:IL:=[ja 6 0,jl 7 1 6,jd 8 0]
abbrev QjR:IL:=[js 9 8 7]
abbrev QjS:IL:=[ja 10 8,ja 5 10]
abbrev QjT:IL:=[ja 11 1,ja 12 0,ja 13 5,jj 14 8 12 13,je 15 8 14,H8 16 11 15]
abbrev QjU:IL:=[ja 17 5,ja 4 17]
abbrev QjV:IL:=[jp 18 8 1,ja 8 18]
abbrev QjW:RC:=jQ QjR (.seq (jX 9 0) (.seq (.block 1 (jQ QjS (jQ QjT (.cond (.t 16) (jQ QjU (.ret)) (.skip))))) (.reg QjV)))
abbrev QjX:IL:=[jd 4 (-1)]
abbrev QjY:RC:=jQ QjP (.seq (jQ QjQ (.block 0 (.loop QjW))) (jQ QjX (.ret)))
abbrev QjZ:List RR:=[.tmp 4]
theorem Qj0:CT 177 19 QjY QjZ:=ck Tryz.func177 Tryz.ntmps177 (by decide +kernel)
abbrev Qj1:IL:=[jf 2 2 0,jg 3]
abbrev Qj2:IL:=[jb 4 0 2,jc 5 4,jc 6 1,ym 7 5 6,ja 3 7]
abbrev Qj3:RC:=jQ Qj1 (jQ Qj2 (.ret))
abbrev Qj4:List RR:=[.tmp 3]
theorem Qj5:CT 178 8 Qj3 Qj4:=ck Tryz.func178 Tryz.ntmps178 (by decide +kernel)
abbrev Qj6:IL:=[jg 6]
abbrev Qj7:IL:=[ja 8 0,ja 9 1,jx 10 215 8 9,ja 7 10]
abbrev Qj8:IL:=[ja 11 7,ye 12 11 0,ja 13 12,ji 14 7 13,ji 15 0 13,ji 16 2 13,Ue 17 215 15 16 13,Y9 18 14 17 13,jk 19 13 18,ja 6 19]
abbrev Qj9:RC:=jQ Qj6 (jQ Qj7 (jQ Qj8 (.ret)))
abbrev Qka:List RR:=[.tmp 6]
theorem QMN:CT 179 20 Qj9 Qka:=ck Tryz.func179 Tryz.ntmps179 (by decide +kernel)
abbrev Qkb:IL:=[jg 2]
abbrev Qkc:IL:=[ja 3 0,Ud 4 3 5,ja 5 4,jq 6 0 5,yi 7 6 9 5,jn 8 5 7,ja 2 8]
abbrev Qkd:RC:=jQ Qkb (jQ Qkc (.ret))
abbrev Qke:List RR:=[.tmp 2]
theorem QMO:CT 180 9 Qkd Qke:=ck Tryz.func180 Tryz.ntmps180 (by decide +kernel)
abbrev Qkf:IL:=[jd 2 0]
abbrev Qkg:IL:=[ja 3 0]
abbrev Qkh:IL:=[jr 5 3 1,ja 4 5]
abbrev Qki:IL:=[jd 2 0]
abbrev Qkj:IL:=[jr 7 3 2,ja 6 7]
abbrev Qkk:IL:=[jd 2 1]
abbrev Qkl:IL:=[jr 9 3 4,ja 8 9]
abbrev Qkm:IL:=[jd 2 2]
abbrev Qkn:IL:=[jd 2 (-1)]
abbrev Qko:RC:=jQ Qkf (.seq (jQ Qkg (.block 0 (jQ Qkh (.cond (.t 4) (jQ Qki (.ret)) (jQ Qkj (.cond (.t 6) (jQ Qkk (.ret)) (jQ Qkl (.cond (.t 8) (jQ Qkm (.ret)) (.skip))))))))) (jQ Qkn (.ret)))
abbrev Qkp:List RR:=[.tmp 2]
theorem QMP:CT 181 10 Qko Qkp:=ck Tryz.func181 Tryz.ntmps181 (by decide +kernel)
abbrev Qkq:IL:=[jg 2]
abbrev Qkr:IL:=[ja 3 0,yo 4 3 1,ja 5 4,ji 6 0 5,yz 7 6 9 5,jk 8 5 7,ja 2 8]
abbrev Qks:RC:=jQ Qkq (jQ Qkr (.ret))
abbrev Qkt:List RR:=[.tmp 2]
theorem Qku:CT 182 9 Qks Qkt:=ck Tryz.func182 Tryz.ntmps182 (by decide +kernel)
abbrev Qkv:IL:=[zk 2 2]
abbrev Qkw:IL:=[ja 3 0,jv 4 182 3,jy 5 4]
abbrev Qkx:IL:=[zn 6,jh 7 2 6]
abbrev Qky:IL:=[ja 7 0,⟨some 8,.val (.build [.int .i64 0,.int .u64 0,.str [],.nils,.nils,.nils,.nils] [(0,1,(.t 7))]),none⟩,jh 7 2 8]
abbrev Qkz:RC:=jQ Qkv (.seq (jQ Qkw (.cond (.t 5) (jQ Qkx (.ret)) (.skip))) (jQ Qky (.ret)))
abbrev QkA:List RR:=[.cell 2 (some 7)]
theorem QMQ:CT 183 9 Qkz QkA:=ck Tryz.func183 Tryz.ntmps183 (by decide +kernel)
abbrev QkB:IL:=[jf 3 3 1,jg 4]
abbrev QkC:IL:=[ja 5 0,jv 6 182 5,jy 7 6,ja 8 7,ju 9 0 3 8,ya 10 9 8,jq 11 0 8,Ub 12 10 11 8,jn 13 8 12,ja 14 13,yl 15 7 3 14,yy 16 216 15 14,yj 17 16 14,jn 18 14 17,ja 19 18,jq 20 0 19,ju 21 1 3 19,ya 22 21 19,zl 23 217 20 22 19,yj 24 23 19,jn 25 19 24,ja 26 25,ju 27 2 3 26,ya 28 27 26,UY 29 0 28 26,YM 30 29 4096 26,jn 31 26 30]
abbrev QkD:IL:=[jg 4]
abbrev QkE:IL:=[ja 32 0,ye 33 32 7,ja 34 33,ju 35 2 3 34,ya 36 35 34,yy 37 170 36 34,jn 38 34 37,ja 4 38]
abbrev QkF:RC:=jQ QkB (.seq (jQ QkC (.cond (.t 31) (jQ QkD (.ret)) (.skip))) (jQ QkE (.ret)))
abbrev QkG:List RR:=[.tmp 4]
theorem QkH:CT 184 39 QkF QkG:=ck Tryz.func184 Tryz.ntmps184 (by decide +kernel)
abbrev QkI:IL:=[jg 6]
abbrev QkJ:IL:=[ja 7 0,jv 8 218 7,ja 9 8,ji 10 2 9,⟨some 11,.val (.bin .num .geq (.t 10) (.c (.int .u64 9223372036854775808))),(some (9,true))⟩,jk 12 9 11]
abbrev QkK:IL:=[ja 13 2,⟨some 14,.val (.un .neg (.t 13)),none⟩,ja 15 1,zx 16 15 1,MM 17 2 9 0 16,jb 18 0 17,jc 19 18,F6 20 14 19,ja 6 20]
abbrev QkL:IL:=[ja 21 2,ja 22 1,zx 23 22 1,MM 24 2 9 0 23,jb 25 1 24,jc 26 25,F6 27 21 26,ja 6 27]
abbrev QkM:RC:=jQ QkI (.seq (jQ QkJ (.cond (.t 12) (jQ QkK (.ret)) (.skip))) (jQ QkL (.ret)))
abbrev QkN:List RR:=[.tmp 6]
theorem QMR:CT 185 28 QkM QkN:=ck Tryz.func185 Tryz.ntmps185 (by decide +kernel)
abbrev QkO:IL:=[jf 1 1 0,zk 2 2]
abbrev QkP:IL:=[jb 3 0 1,jc 4 3,jr 5 4 6,ja 6 5,jm 7 1 1 6,jt 8 7 6,zm 9 219 8 6,yk 10 9 0 6,jk 11 6 10]
abbrev QkQ:IL:=[jb 12 1 1,⟨none,.store 1 (.t 12) (.c (.int .u64 9221120237041090560)),none⟩]
abbrev QkR:IL:=[je 13 7 1,jh 7 2 13]
abbrev QkS:RC:=jQ QkO (.seq (jQ QkP (.cond (.t 11) (.reg QkQ) (.skip))) (jQ QkR (.ret)))
abbrev QkT:List RR:=[.cell 2 (some 7)]
theorem QkU:CT 186 14 QkS QkT:=ck Tryz.func186 Tryz.ntmps186 (by decide +kernel)
abbrev QkV:IL:=[jd 4 0]
abbrev QkW:IL:=[ja 6 0,jl 7 1 6,jd 8 0]
abbrev QkX:IL:=[js 9 8 7]
abbrev QkY:IL:=[ja 10 8,ja 5 10]
abbrev QkZ:IL:=[ja 11 1,ja 12 0,ja 13 5,jj 14 1 12 13,jc 15 14,H8 16 11 15]
abbrev Qk0:IL:=[ja 17 5,ja 4 17]
abbrev Qk1:IL:=[jp 18 8 1,ja 8 18]
abbrev Qk2:RC:=jQ QkX (.seq (jX 9 0) (.seq (.block 1 (jQ QkY (jQ QkZ (.cond (.t 16) (jQ Qk0 (.ret)) (.skip))))) (.reg Qk1)))
abbrev Qk3:IL:=[jd 4 (-1)]
abbrev Qk4:RC:=jQ QkV (.seq (jQ QkW (.block 0 (.loop Qk2))) (jQ Qk3 (.ret)))
abbrev Qk5:List RR:=[.tmp 4]
theorem Qk6:CT 196 19 Qk4 Qk5:=ck Tryz.func196 Tryz.ntmps196 (by decide +kernel)
abbrev Qk7:IL:=[jf 2 2 0,jg 3]
abbrev Qk8:IL:=[jb 4 0 2,jc 5 4,jc 6 1,ym 7 5 6,ja 3 7]
abbrev Qk9:RC:=jQ Qk7 (jQ Qk8 (.ret))
abbrev Qla:List RR:=[.tmp 3]
theorem Qlb:CT 197 8 Qk9 Qla:=ck Tryz.func197 Tryz.ntmps197 (by decide +kernel)
abbrev Qlc:IL:=[jg 2]
abbrev Qld:IL:=[ja 5 0,⟨some 6,.call (.f 199) [(.t 5),(.c (.str [46]))],none⟩,jl 7 1 6,jd 8 0]
abbrev Qle:IL:=[js 9 8 7]
abbrev Qlf:IL:=[jj 10 1 6 8,jc 11 10,ja 4 11]
abbrev Qlg:IL:=[ja 12 4,jv 13 210 12,jy 14 13]
abbrev Qlh:IL:=[jg 2]
abbrev Qli:IL:=[jp 15 8 1,ja 8 15]
abbrev Qlj:RC:=jQ Qle (.seq (jX 9 0) (.seq (.block 1 (jQ Qlf (jQ Qlg (.cond (.t 14) (jQ Qlh (.ret)) (.skip))))) (.reg Qli)))
abbrev Qlk:IL:=[ja 16 0,jl 17 0 16,Ud 18 17 120,ja 2 18]
abbrev Qll:RC:=jQ Qlc (.seq (jQ Qld (.block 0 (.loop Qlj))) (jQ Qlk (.ret)))
abbrev Qlm:List RR:=[.tmp 2]
theorem Qln:CT 198 19 Qll Qlm:=ck Tryz.func198 Tryz.ntmps198 (by decide +kernel)
abbrev Qlo:IL:=[yf 4]
abbrev Qlp:IL:=[ja 5 0,ja 6 1,⟨some 7,.call (.f 221) [(.t 5),(.t 6),(.c (.int .i64 0)),(.c (.int .i64 (-1)))],none⟩,ja 4 7]
abbrev Qlq:RC:=jQ Qlo (jQ Qlp (.ret))
abbrev Qlr:List RR:=[.tmp 4]
theorem Qls:CT 199 8 Qlq Qlr:=ck Tryz.func199 Tryz.ntmps199 (by decide +kernel)
abbrev Qlt:IL:=[jg 2]
abbrev Qlu:IL:=[ja 3 0]
abbrev Qlv:IL:=[⟨some 5,.val (.bin .str .eql (.t 3) (.c (.str [109,101,115,115,97,103,101]))),none⟩,ja 4 5]
abbrev Qlw:IL:=[⟨some 6,.val (.bin .str .eql (.t 3) (.c (.str [101,110,117,109]))),none⟩,ja 4 6]
abbrev Qlx:IL:=[⟨some 7,.val (.bin .str .eql (.t 3) (.c (.str [115,101,114,118,105,99,101]))),none⟩,ja 4 7]
abbrev Qly:IL:=[⟨some 8,.val (.bin .str .eql (.t 3) (.c (.str [117,110,105,111,110]))),none⟩,ja 4 8]
abbrev Qlz:IL:=[⟨some 9,.val (.bin .str .eql (.t 3) (.c (.str [109,97,112]))),none⟩,ja 4 9]
abbrev QlA:IL:=[⟨some 10,.val (.bin .str .eql (.t 3) (.c (.str [108,105,115,116]))),none⟩,ja 4 10]
abbrev QlB:IL:=[⟨some 11,.val (.bin .str .eql (.t 3) (.c (.str [114,101,113,117,105,114,101,100]))),none⟩,ja 4 11]
abbrev QlC:IL:=[⟨some 12,.val (.bin .str .eql (.t 3) (.c (.str [111,112,116,105,111,110,97,108]))),none⟩,ja 4 12]
abbrev Lx:IL:=[⟨some 13,.val (.bin .str .eql (.t 3) (.c (.str [112,108,97,105,110]))),none⟩,ja 4 13]
abbrev Ly:IL:=[⟨some 14,.val (.bin .str .eql (.t 3) (.c (.str [100,101,102,97,117,108,116]))),none⟩,ja 4 14]
abbrev Lz:IL:=[⟨some 15,.val (.bin .str .eql (.t 3) (.c (.str [114,101,115,101,114,118,101,100]))),none⟩,ja 4 15]
abbrev LA:IL:=[jz 2]
abbrev LB:IL:=[⟨some 17,.val (.bin .str .eql (.t 3) (.c (.str [105,109,112,111,114,116]))),none⟩,ja 16 17]
abbrev LC:IL:=[⟨some 18,.val (.bin .str .eql (.t 3) (.c (.str [115,112,97,99,101]))),none⟩,ja 16 18]
abbrev LD:IL:=[⟨some 19,.val (.bin .str .eql (.t 3) (.c (.str [114,112,99]))),none⟩,ja 16 19]
abbrev LF:IL:=[⟨some 20,.val (.bin .str .eql (.t 3) (.c (.str [115,116,114,101,97,109]))),none⟩,ja 16 20]
abbrev LG:IL:=[⟨some 21,.val (.bin .str .eql (.t 3) (.c (.str [114,101,116,117,114,110,115]))),none⟩,ja 16 21]
abbrev LH:IL:=[⟨some 22,.val (.bin .str .eql (.t 3) (.c (.str [111,112,101,110]))),none⟩,ja 16 22]
abbrev LI:IL:=[⟨some 23,.val (.bin .str .eql (.t 3) (.c (.str [116,114,117,101]))),none⟩,ja 16 23]
abbrev LJ:IL:=[⟨some 24,.val (.bin .str .eql (.t 3) (.c (.str [102,97,108,115,101]))),none⟩,ja 16 24]
abbrev LK:IL:=[⟨some 25,.val (.bin .str .eql (.t 3) (.c (.str [110,97,110]))),none⟩,ja 16 25]
abbrev LL:IL:=[⟨some 26,.val (.bin .str .eql (.t 3) (.c (.str [105,110,102]))),none⟩,ja 16 26]
abbrev LM:IL:=[jz 2]
abbrev LN:IL:=[jg 2]
abbrev QlD:RC:=jQ Qlt (.seq (jQ Qlu (.block 0 (.seq (jQ Qlv (.cond (.t 4) (.skip) (jQ Qlw (.cond (.t 4) (.skip) (jQ Qlx (.cond (.t 4) (.skip) (jQ Qly (.cond (.t 4) (.skip) (jQ Qlz (.cond (.t 4) (.skip) (jQ QlA (.cond (.t 4) (.skip) (jQ QlB (.cond (.t 4) (.skip) (jQ QlC (.cond (.t 4) (.skip) (jQ Lx (.cond (.t 4) (.skip) (jQ Ly (.cond (.t 4) (.skip) (.reg Lz))))))))))))))))))))) (.cond (.t 4) (jQ LA (.ret)) (.seq (jQ LB (.cond (.t 16) (.skip) (jQ LC (.cond (.t 16) (.skip) (jQ LD (.cond (.t 16) (.skip) (jQ LF (.cond (.t 16) (.skip) (jQ LG (.cond (.t 16) (.skip) (jQ LH (.cond (.t 16) (.skip) (jQ LI (.cond (.t 16) (.skip) (jQ LJ (.cond (.t 16) (.skip) (jQ LK (.cond (.t 16) (.skip) (.reg LL))))))))))))))))))) (.cond (.t 16) (jQ LM (.ret)) (.skip))))))) (jQ LN (.ret)))
abbrev QlE:List RR:=[.tmp 2]
theorem TG:CT 200 27 QlD QlE:=ck Tryz.func200 Tryz.ntmps200 (by decide +kernel)
abbrev QlF:IL:=[jf 3 3 0,jf 4 4 1,jf 5 5 2,jg 6]
abbrev QlG:IL:=[jc 7 3,jc 8 4,MJ 9 16 7 8,⟨some 10,.val (.mkfn (.func 223) [] [(.t 5),(.t 3),(.t 4)]),none⟩,zf 11 222 9 10,ja 6 11]
abbrev QlH:RC:=jQ QlF (jQ QlG (.ret))
abbrev QlI:List RR:=[.tmp 6]
theorem QlJ:CT 201 12 QlH QlI:=ck Tryz.func201 Tryz.ntmps201 (by decide +kernel)
abbrev QlK:IL:=[jf 1 1 0,H9 2]
abbrev QlL:IL:=[jb 3 1 1,jc 4 3,ja 2 4]
abbrev QlM:RC:=jQ QlK (jQ QlL (.ret))
abbrev QlN:List RR:=[.tmp 2]
theorem QlO:CT 202 5 QlM QlN:=ck Tryz.func202 Tryz.ntmps202 (by decide +kernel)
abbrev QlP:IL:=[jg 4]
abbrev QlQ:IL:=[ja 5 0,ye 6 5 5]
abbrev QlR:IL:=[ja 7 1,jr 8 7 0,ja 4 8]
abbrev QlS:IL:=[ja 9 1,yo 10 9 1,ja 11 10,ji 12 1 11,yz 13 12 7 11,jk 14 11 13,ja 15 14,ji 16 1 15,yu 17 16 6 15,jk 18 15 17,ja 4 18]
abbrev QlT:RC:=jQ QlP (.seq (jQ QlQ (.cond (.t 6) (jQ QlR (.ret)) (.skip))) (jQ QlS (.ret)))
abbrev QlU:List RR:=[.tmp 4]
theorem QlV:CT 203 19 QlT QlU:=ck Tryz.func203 Tryz.ntmps203 (by decide +kernel)
end Go.Proofs.YtjjmjopabpakoaaGreatDoor.Rc

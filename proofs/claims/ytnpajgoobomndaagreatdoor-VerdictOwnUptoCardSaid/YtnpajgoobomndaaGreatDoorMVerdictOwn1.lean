/- Parts of the proof, in order. -/
import Derived.Deep.LoopGhost
import Derived.Scope
import Derived.Orders
import Derived.Defers
import Derived.Below
import Derived.ChangeSame
import Derived.ProofKit
import Derived.OpenShut
import Derived.ChangeArms
import Derived.Lib.SmallJoins
import Derived.Deep.Slices
import Derived.DataShut
import Derived.Test.YtnpajgoobomndaaGreatDoorRows
import Derived.Test.YtnpajgoobomndaaGreatDoorProg
import Derived.WalkKit
import Derived.Test.YtnpajgoobomndaaGreatDoorMVerdictOwn0

namespace Go.Proofs.YtnpajgoobomndaaGreatDoor.Am
open Go

def Qs (P:Program)(k:FuncId)(args:List AV)(v:AV):Prop:=Ll P k args (· = v)

def Wy (P:Program)(d:Option Nat)(op:RO)(st:St)(K:St→Prop):Prop :=
 match op with
 |.val vo=>∃x,QA st.f st.m vo=some x∧K { st with f:=Qh st.f d x }
 |.allocN s z=>XA st.m s=true∧K { st with m:=Am.put st.m 0 s (.cells z),f:=Qh st.f d (.ptr 0 s 0) }
 |.boxN s r=>XA st.m s=true∧(r.ev st.f).cells.all AV.leaf=true∧K { st with m:=Am.put st.m 0 s (.cells (r.ev st.f).cells),f:=Qh st.f d (.ptr 0 s 0) }
 |.store n p r=>(r.ev st.f).cells.length=n∧(r.ev st.f).cells.all AV.leaf=true∧∃m',Q4 st.m (p.ev st.f) (r.ev st.f).cells=some m'∧K { st with m:=m',f:=Qh st.f d (.tup []) }
 |.app sz bytes el s r=>∃l site g n xs ys,s.ev st.f=.vec l site g 0 n false∧Qe st.m l site=.vec g sz xs∧Xu site el=true∧n≤xs.length∧Xf st.m (r.ev st.f)=some ys∧ys.all (fun e=>e.cells.length==sz)=true∧n+ys.length≤maxLen∧(n+ys.length)*bytes≤140737488355328∧
   K { st with m:=Am.put st.m l site (.vec (g+1) sz (xs.take n++ys)),f:=Qh st.f d (.vec l site (g+1) 0 (n+ys.length) false) }
 |.appl sz bytes el s r=>∃site g n xs ys,s.ev st.f=.vec 0 site g 0 n false∧Qe st.m 0 site=.vec g sz xs∧Xu site el=true∧n≤xs.length∧Xf st.m (r.ev st.f)=some ys∧ys.all (fun e=>e.cells.length==sz)=true∧n+ys.length≤maxLen∧(n+ys.length)*bytes≤140737488355328∧
   K { st with m:=Am.put st.m 0 site (.vec (g+1+1) sz []),f:=Qh st.f d (.list (xs.take n++ys)) }
 |.storev l s n p r=>(∃o,p.ev st.f=.ptr l s o)∧(r.ev st.f).cells.length=n∧(r.ev st.f).cells.all AV.leaf=true∧∃m',Q4 st.m (p.ev st.f) (r.ev st.f).cells=some m'∧K { st with m:=m',f:=Qh st.f d (.tup []) }
 |.call f args=>∃k fa fb ys v,f.ev st.f=.fn (.func k) fa fb∧AV.stillL false st.m (fa++args.map (RA.ev st.f)++fb)=some ys∧AV.rfL ys=true∧Qs P k ys v∧v.rf=true∧(AV.rfL (fa++args.map (RA.ev st.f)++fb)=true∨v.nl=true)∧K { st with f:=Qh st.f d v }
 |.callF f args=>∃k fa fb v m',f.ev st.f=.fn (.func k) fa fb∧Qn P k (fa++args.map (RA.ev st.f)++fb) st.m (fun x m=>x=v∧m=m')∧K { st with m:=m',f:=Qh st.f d v }
 |.bsl sz len z ps=>∃y,fill st.f ps (Xk z sz len)=some y∧AV.rfL y=true∧y.all AV.leaf=true∧K { st with f:=Qh st.f d (.list (XH sz len (y.map nn0))) }
 |.bslv site sz len z ps=>∃y,fill st.f ps (Xk z sz len)=some y∧AV.rfL y=true∧y.all AV.leaf=true∧Qx (Qe st.m 0 site)=true∧
   K { st with m:=Am.put st.m 0 site (.vec (Qy st.m 0 site) sz (XH sz len (y.map nn0))),f:=Qh st.f d (.vec 0 site (Qy st.m 0 site) 0 len false) }
 |.bsl0 site sz=>Qx (Qe st.m 0 site)=true∧K { st with m:=Am.put st.m 0 site (.vec (Qy st.m 0 site) sz []),f:=Qh st.f d (.vec 0 site (Qy st.m 0 site) 0 0 false) }
 |.lit0 _=>K { st with f:=Qh st.f d (.lcap []) }
 |.appe sz bytes _ s r=>∃xs ys,s.ev st.f=.lcap xs∧r.ev st.f=.list ys∧xs.all (fun e=>e.cells.length==sz)=true∧ys.all (fun e=>e.cells.length==sz)=true∧xs.length+ys.length≤maxLen∧(xs.length+ys.length)*bytes≤140737488355328∧K { st with f:=Qh st.f d (.list (xs++ys)) }
 |.isnil neg r=>∃ys,Xf st.m (r.ev st.f)=some ys∧(r.ev st.f≠.nils→K { st with f:=Qh st.f d (.bool neg) })∧((r.ev st.f=.nils∨QL ys=[])→K { st with f:=Qh st.f d (.bool (!neg)) })
 |.xb cnt _ s c=>∃t b,s.ev st.f=.str t∧c.ev st.f=.int .u8 b∧K { st with f:=Qh st.f d (.int .i64 (Uc cnt t b)) }
 |.rngs s r=>∃t,r.ev st.f=.str t∧XA st.m s=true∧K { st with m:=Am.put st.m 0 s (.iter (.str t) 0),f:=Qh st.f d (.ptr 0 s 0) }
 |.mkm s=>XA st.m s=true∧K { st with m:=Am.put st.m 0 s (.iter (.mp [] []) 0),f:=Qh st.f d (.mptr 0 s) }
 |.mput x i v=>∃l s ks vs p k,x.ev st.f=.mptr l s∧Qe st.m l s=.iter (.mp ks vs) p∧i.ev st.f=.str k∧(v.ev st.f).gr=true∧AV.grL vs=true∧ks.length=vs.length∧K { st with m:=Am.put st.m l s (.iter (.mp (XE k (v.ev st.f) ks vs).1 (XE k (v.ev st.f) ks vs).2) p),f:=Qh st.f d (.tup []) }
 |.nxts r=>∃l s t p,r.ev st.f=.ptr l s 0∧Qe st.m l s=.iter (.str t) p∧
   (p<t.length→K { st with m:=Am.put st.m l s (.iter (.str t) (p+(Xl t p).2)),f:=Qh st.f d (.tup [.bool true,.int .i64 (p:Nat),.int .i32 ((Xl t p).1:Nat)]) })∧(t.length≤p→K { st with f:=Qh st.f d (.tup [.bool false]) })
 |.mk site _ sz bytes z l c=>∃(kl kc:IntKind) (n k:Nat),l.ev st.f=.int kl (n:Int)∧c.ev st.f=.int kc (k:Int)∧n≤k∧k≤9223372036854775807∧bytes*k≤281474976710656∧Qx (Qe st.m 0 site)=true∧
   K { st with m:=Am.put st.m 0 site (.vec (Qy st.m 0 site) sz (List.replicate n (JE sz z))),f:=Qh st.f d (.vec 0 site (Qy st.m 0 site) 0 n false) }

def XM (P:Program)(it:Item)(st:St)(K:St→Prop):Prop :=
 match it.g with
 |none=>Wy P it.dst it.op st K
 |some (j,want)=>match st.f j with
  |.bool b=>(b=want→Wy P it.dst it.op st K)∧(b=(!want)→K { st with f:=Qh st.f it.dst (.tup []) })
  |.tup l=>l=[]∧K { st with f:=Qh st.f it.dst (.tup []) }
  |_=>False

def Qj (P:Program):List Item→St→(St→Prop)→Prop
 | [],st,K=>K st
 |it :: its,st,K=>XM P it st fun st'=>Qj P its st' K

section
variable {P:Program}{N:Nat}

theorem Fp {α:Type}{f:Nat→α}{s:Nat}{x y:α}:Qp (Qp f s x) s y=Qp f s y:=by
 funext i;by_cases h:i=s
 ·subst h;rw[QI,QI]
 ·rw[QN _ _ h,QN _ _ h,QN _ _ h]
theorem Hw {m:Ql}{s:Nat}{o q:Ob}:Am.put (Am.put m 0 s o) 0 s q=Am.put m 0 s q:=by
 cases m with
 |nil=>rfl
 |cons fr m=>show Qp (Qp fr s o) s q :: m=Qp fr s q :: m;rw[Fp]

theorem Qt.appl {d:Option Nat}{sz bytes el:Nat}{s r:RA}{its:List Item}{st:St}{Q:St→Prop}{site g n:Nat}{xs ys:List AV}(hs:s.ev st.f=.vec 0 site g 0 n false)(hlk:Qe st.m 0 site=.vec g sz xs)(hte:Xu site el=true)(hn:n≤xs.length)
  (hy:Xf st.m (r.ev st.f)=some ys) (hsz:ys.all (fun e=>e.cells.length==sz)=true) (hmax:n+ys.length≤maxLen) (hb:(n+ys.length)*bytes≤140737488355328)
  (h:Qt P N its { st with m:=Am.put st.m 0 site (.vec (g+1+1) sz []),f:=Qh st.f d (.list (xs.take n++ys)) } Q):Qt P N (⟨d,.appl sz bytes el s r,none⟩ :: its) st Q:=by
 refine .same (ro:=.app sz bytes el s r) (fun _=>rfl) (.app hs hlk hte hn hy hsz hmax hb ?_);intro ops l hc G B a w hr QQ hq;have hne:=hr.ne;have hlk':Qe (Am.put st.m 0 site (.vec (g+1) sz (xs.take n++ys))) 0 site=.vec (g+1) sz (xs.take n++ys):=by
  refine Qw (QG1.2 ?_);rintro e;exact hne (by show Am.put st.m 0 site _=[];rw[e];rfl)
 have hlen:(xs.take n++ys).length=n+ys.length:=by rw[QGs,QGF];omega
 cases d with
 |none=>
  obtain⟨G',h1,h2,_,_⟩:=hr.pub0 hlk';rw[←Hw (o:=.vec (g+1) sz (xs.take n++ys))]at h;exact h ops l hc G' B a w h1 QQ fun G2 st' a' w' k1 k2 k3=>hq G2 st' a' w' k1 k2 (h2.trans k3)
 |some t=>
  obtain⟨G',h1,h2⟩:=hr.publish (slot:=t) (site:=site) (g:=g+1) (sz:=sz) (o:=0) (n:=n+ys.length) (q:=false) (by show Qp st.f t _ t=_;rw[QI]) hlk' (by rw[hlen];omega);have e2:Qh st.f (some t) (.list (xs.take n++ys))=Qp (Qp st.f t (.vec 0 site (g+1) 0 (n+ys.length) false)) t (.list (((xs.take n++ys).drop 0).take (n+ys.length))):=by
   have e3:(xs.take n++ys).take (n+ys.length)=xs.take n++ys:=QGo (QGy hlen);rw[Fp,QGw,e3];rfl
  rw[←Hw (o:=.vec (g+1) sz (xs.take n++ys)),e2]at h;exact h ops l hc G' B a w h1 QQ fun G2 st' a' w' k1 k2 k3=>hq G2 st' a' w' k1 k2 (h2.trans k3)

theorem NN {d:Option Nat}{op:RO}{its:List Item}{st:St}{Q:St→Prop}(h:Wy P d op st fun st'=>Qt P N its st' Q):Qt P N (⟨d,op,none⟩ :: its) st Q:=by
 cases op with
 |val vo=>obtain⟨x,hx,h⟩:=h;exact .val hx h
 |allocN s z=>exact .allocN h.1 h.2
 |boxN s r=>exact .boxN h.1 h.2.1 h.2.2
 |store n p r=>obtain⟨h1,h2,m',h3,h⟩:=h;exact .store h1 h2 h3 h
 |app sz bytes el s r=>obtain⟨l,site,g,n,xs,ys,h1,h2,ht,h3,h4,h5,h6,h7,h⟩:=h;exact .app h1 h2 ht h3 h4 h5 h6 h7 h
 |appl sz bytes el s r=>obtain⟨site,g,n,xs,ys,h1,h2,ht,h3,h4,h5,h6,h7,h⟩:=h;exact .appl h1 h2 ht h3 h4 h5 h6 h7 h
 |mk site el sz bytes z l c=>obtain⟨kl,kc,n,k,h1,h2,h3,h4,h5,h6,h⟩:=h;exact .mk h1 h2 h3 h4 h5 h6 h
 |storev l s n p r=>obtain⟨_,h1,h2,m',h3,h⟩:=h;exact .same (ro:=.store n p r) (fun _=>rfl) (.store h1 h2 h3 h)
 |call f args=>
  obtain⟨k,fa,fb,ys,v,hf,h1,h2,h3,h4,h5,h⟩:=h;exact .callPure hf h1 h2 h3 (fun x hx=>by subst hx;exact⟨h4,h5⟩) fun x hx=>by subst hx;exact h
 |callF f args=>
  obtain⟨k,fa,fb,v,m',hf,h1,h⟩:=h;exact .same (ro:=.call f args) (fun _=>rfl) (.callFull hf h1 fun x m hx _=>by obtain⟨rfl,rfl⟩:=hx;exact h)
 |bsl sz len z ps=>obtain⟨y,h1,h2,h3,h⟩:=h;exact .bsl h1 h2 h3 h
 |bslv site sz len z ps=>obtain⟨y,h1,h2,h3,h4,h⟩:=h;exact .bslv h1 h2 h3 h4 h
 |bsl0 site sz=>exact .bsl0 h.1 h.2
 |lit0 sz=>exact .lit0 h
 |appe sz bytes el s r=>obtain⟨xs,ys,h1,h2,h3,h4,h5,h6,h⟩:=h;exact .appe h1 h2 h3 h4 h5 h6 h
 |isnil neg r=>obtain⟨ys,h1,h2,h3⟩:=h;exact .isnil h1 h2 h3
 |xb cnt k s c=>obtain⟨t,b,h1,h2,h⟩:=h;exact .xb h1 h2 h
 |rngs s r=>obtain⟨t,h1,h2,h⟩:=h;exact .rngs h1 h2 h
 |nxts r=>obtain⟨l,s,t,p,h1,h2,h3,h4⟩:=h;exact .nxts h1 h2 h3 h4
 |mkm s=>obtain⟨h1,h⟩:=h;exact .mkm h1 h
 |mput x i v=>obtain⟨l,s,ks,vs,p,k,h1,h2,h3,h4,h5,h6,h⟩:=h;exact .mput h1 h2 h3 h4 h5 h6 h

theorem Gr {it:Item}{its:List Item}{st:St}{Q:St→Prop}(h:XM P it st fun st'=>Qt P N its st' Q):Qt P N (it :: its) st Q:=by
 obtain⟨d,op,g⟩:=it;cases g with
 |none=>exact NN h
 |some p=>
  obtain⟨j,want⟩:=p;simp only[XM]at h;split at h
  ·rename_i b hj;by_cases hb:b=want
   ·subst hb;exact .yes hj (NN (h.1 rfl))
   ·have hb':b=!want:=by cases b<;>cases want<;>first|rfl|exact absurd rfl hb
    subst hb';exact .no (.inl hj) (h.2 rfl)
  ·rename_i l hj;obtain⟨rfl,h⟩:=h;exact .no (.inr hj) h
  ·exact h.elim

theorem Gs {d:Option Nat}{op:RO}{st:St}{K K':St→Prop}(hk:∀s,K s→K' s)(h:Wy P d op st K):Wy P d op st K':=by
 cases op<;>simp only[Wy]at h ⊢
 case val=>obtain⟨x,a,b⟩:=h;exact⟨x,a,hk _ b⟩
 case allocN=>exact⟨h.1,hk _ h.2⟩
 case boxN=>exact⟨h.1,h.2.1,hk _ h.2.2⟩
 case store=>obtain⟨h1,h2,m',h3,h⟩:=h;exact⟨h1,h2,m',h3,hk _ h⟩
 case app=>obtain⟨l,site,g,n,xs,ys,h1,h2,ht,h3,h4,h5,h6,h7,h⟩:=h;exact⟨l,site,g,n,xs,ys,h1,h2,ht,h3,h4,h5,h6,h7,hk _ h⟩
 case appl=>obtain⟨site,g,n,xs,ys,h1,h2,ht,h3,h4,h5,h6,h7,h⟩:=h;exact⟨site,g,n,xs,ys,h1,h2,ht,h3,h4,h5,h6,h7,hk _ h⟩
 case mk=>obtain⟨kl,kc,n,k,h1,h2,h3,h4,h5,h6,h⟩:=h;exact⟨kl,kc,n,k,h1,h2,h3,h4,h5,h6,hk _ h⟩
 case bsl=>obtain⟨y,h1,h2,h3,h⟩:=h;exact⟨y,h1,h2,h3,hk _ h⟩
 case bslv=>obtain⟨y,h1,h2,h3,h4,h⟩:=h;exact⟨y,h1,h2,h3,h4,hk _ h⟩
 case bsl0=>exact⟨h.1,hk _ h.2⟩
 case lit0=>exact hk _ h
 case appe=>obtain⟨xs,ys,h1,h2,h3,h4,h5,h6,h⟩:=h;exact⟨xs,ys,h1,h2,h3,h4,h5,h6,hk _ h⟩
 case isnil=>obtain⟨ys,h1,h2,h3⟩:=h;exact⟨ys,h1,fun e=>hk _ (h2 e),fun e=>hk _ (h3 e)⟩
 case xb=>obtain⟨t,b,h1,h2,h⟩:=h;exact⟨t,b,h1,h2,hk _ h⟩
 case rngs=>obtain⟨t,h1,h2,h⟩:=h;exact⟨t,h1,h2,hk _ h⟩
 case mkm=>obtain⟨h1,h⟩:=h;exact⟨h1,hk _ h⟩
 case mput=>obtain⟨l,s,ks,vs,p,k,h1,h2,h3,h4,h5,h6,h⟩:=h;exact⟨l,s,ks,vs,p,k,h1,h2,h3,h4,h5,h6,hk _ h⟩
 case nxts=>obtain⟨l,s,t,p,h1,h2,h3,h4⟩:=h;exact⟨l,s,t,p,h1,h2,fun e=>hk _ (h3 e),fun e=>hk _ (h4 e)⟩
 case storev=>obtain⟨h0,h1,h2,m',h3,h⟩:=h;exact⟨h0,h1,h2,m',h3,hk _ h⟩
 case call=>obtain⟨k,fa,fb,ys,v,hf,h1,h2,h3,h4,h5,h⟩:=h;exact⟨k,fa,fb,ys,v,hf,h1,h2,h3,h4,h5,hk _ h⟩
 case callF=>obtain⟨k,fa,fb,v,m',hf,h1,h⟩:=h;exact⟨k,fa,fb,v,m',hf,h1,hk _ h⟩

theorem Wi {it:Item}{st:St}{K K':St→Prop}(hk:∀s,K s→K' s)(h:XM P it st K):XM P it st K':=by
 unfold XM at h ⊢;split at h
 ·exact Gs hk h
 ·split at h
  ·exact⟨fun e=>Gs hk (h.1 e),fun e=>hk _ (h.2 e)⟩
  ·exact⟨h.1,hk _ h.2⟩
  ·exact h.elim

theorem Fq:∀ {its:List Item} {st:St} {Q:St→Prop},Qj P its st Q→Qt P N its st Q
 | [],_,_,h=>.nil h
 |_ :: _,_,_,h=>Gr (Wi (fun _ hs=>Fq hs) h)

end

inductive GO where
 |vec (slot site sz:Nat)
 |drop (s:Nat)
 |vecc (s idx site sz:Nat)
 |pub (slot site:Nat)
 |give (slot site l S:Nat)

def Z4 (g:GO)(st:St):Option St :=
 match g with
 |.vec slot site sz=>match st.f slot with
  |.nils=>bif Qx (Qe st.m 0 site)then some { st with m:=Am.put st.m 0 site (.vec (Qy st.m 0 site) sz []),f:=Qp st.f slot (.vec 0 site (Qy st.m 0 site) 0 0 false) } else none
  |_=>none
 |.drop s=>bif Wb st.m s then some (st.drop s)else none
 |.vecc s idx site sz=>match Qe st.m 0 s with
  |.cells xs=>match xs[idx]? with
   |some .nils=>bif Qx (Qe st.m 0 site) && !(Nat.beq site s)then some { st with m:=Am.put (Am.put st.m 0 site (.vec (Qy st.m 0 site) sz [])) 0 s (.cells (xs.set idx (.vec 0 site (Qy st.m 0 site) 0 0 false))) } else none
   |some _=>some st
   |none=>none
  |_=>none
 |.pub slot site=>match st.f slot with
  |.vec 0 s' g o n _=>match Qe st.m 0 site with
   |.vec g' sz xs=>bif Nat.beq s' site&&Nat.beq g g'&&Nat.ble (o+n) xs.length then some { st with m:=Am.put st.m 0 site (.vec (g+1) sz []),f:=Qp st.f slot (.list ((xs.drop o).take n)) } else none
   |_=>none
  |.list _=>some st
  |_=>none
 |.give slot site l S=>match st.f slot with
  |.vec 0 s' g o n q=>match Qe st.m 0 site with
   |.vec g' sz xs=>bif Nat.beq s' site&&Nat.beq g g'&&Nat.blt l st.m.length && !(Nat.beq l 0)&&Qx (Qe st.m l S)&&Nat.blt S 2000 then some { st with m:=Am.put (Am.put st.m 0 site (.vec (g+1) sz [])) l S (.vec (Qy st.m l S) sz xs),f:=Qp st.f slot (.vec l S (Qy st.m l S) o n q) } else none
   |_=>none
  |_=>none

inductive RC where
 |skip
 |reg (its:List Item)
 |draw (its:List Item)
 |seq (a b:RC)
 |cond (c:RA) (a b:RC)
 |block (id:Nat) (a:RC)
 |loop (a:RC)
 |exit (id:Nat)
 |scope (a:RC)
 |lab
 |ret
 |gho (g:GO) (a:RC)
 |no

def Ks (f:St→Prop)(Q:Exit→St→Prop):Exit→St→Prop
 |.normal,st=>f st
 |e,st=>Q e st
def Kb (id:Nat)(Q:Exit→St→Prop):Exit→St→Prop
 |.exit i,st=>if i=id then Q .normal st else Q (.exit i) st
 |e,st=>Q e st
def Kg (Q:Exit→St→Prop):Exit→St→Prop
 |.goto _,_=>False
 |e,st=>Q e st

def QK (P:Program):RC→St→(Exit→St→Prop)→Prop
 |.skip,st,Q=>Q .normal st
 |.reg its,st,Q=>Qj P its st (Q .normal)
 |.draw its,st,Q=>Qj P its st (Q .normal)
 |.seq a b,st,Q=>QK P a st (Ks (fun st'=>QK P b st' Q) Q)
 |.cond c a b,st,Q=>∃t,c.ev st.f=.bool t∧(t=true→QK P a st Q)∧(t=false→QK P b st Q)
 |.block id a,st,Q=>QK P a st (Kb id Q)
 |.loop a,st,Q=>∃(I:Nat→St→Prop) (n:Nat),I n st∧∀n st',I n st'→QK P a st' (Ks (fun s=>∃k,k<n∧I k s) Q)
 |.exit id,st,Q=>Q (.exit id) st
 |.scope a,st,Q=>QK P a st (Kg Q)
 |.lab,st,Q=>Q .normal st
 |.ret,st,Q=>Q .ret st
 |.gho g a,st,Q=>∃st',Z4 g st=some st'∧QK P a st' Q
 |.no,_,_=>False

theorem NO {G:Gh}{f:Fr}{a:Act}(hs:∀i,Rep G (f i) (a.tmps.getD i undef)){d:Nat}{x:AV}(hx:Rep G x (a.tmps.getD d undef)):∀i,Rep G (Qp f d x i) (a.tmps.getD i undef):=by
 intro i;by_cases hi:i=d
 ·subst hi;rw[QI];exact hx
 ·rw[QN _ _ hi];exact hs i

theorem Pg {G:Gh}{B N:Nat}{st st':St}{a:Act}{w:World}(h:Rel G B N st a w){g:GO}(hg:Z4 g st=some st'):∃G',Rel G' B N st' a w∧Ext 1 G w G' w:=by
 cases g with
 |vec slot site sz=>
  simp only[Z4]at hg;split at hg
  ·rename_i hn;cases hro:Qx (Qe st.m 0 site)with
   |false=>rw[hro]at hg;cases hg
   |true=>
    rw[hro]at hg;simp only[cond_true,QGh]at hg;subst hg;have hl:0<st.m.length:=QG1.2 h.ne;obtain⟨h1,h2⟩:=h.vecput (w':=w) (sz:=sz) (cap:=0) (b:=none) (ys:=[]) hl hro (Jq h.mr hro) rfl rfl rfl (QFQ _) (fun _ _ _=>rfl) (fun k e=>by cases e) ⟨by simp,rfl,rfl⟩ (.inl ⟨rfl,rfl⟩);refine⟨_,⟨h1.mr,h1.size,NO h1.slots ?_,h1.ds,h1.base,h1.top,h1.ne⟩,h2⟩;have hs:=h.slots slot;rw[hn]at hs;generalize a.tmps.getD slot undef=v at hs;cases hs;exact .vec rfl (QGy (by simp[Gh.row])) fun _=>.inl ⟨by simp[Gh.row],rfl,rfl,none,rfl,fun _=>rfl⟩
  ·cases hg
 |drop s=>
  simp only[Z4]at hg;cases hro:Wb st.m s with
  |false=>rw[hro]at hg;cases hg
  |true=>
   rw[hro]at hg;simp only[cond_true,QGh]at hg;subst hg;exact⟨_,h.drop s hro⟩
 |vecc s idx site sz=>
  simp only[Z4]at hg;split at hg
  ·rename_i xs hlk;split at hg
   ·rename_i hn;cases hro:(Qx (Qe st.m 0 site) && !(Nat.beq site s))with
    |false=>rw[hro]at hg;cases hg
    |true=>
     rw[hro]at hg;simp only[cond_true,QGh]at hg;subst hg;rw[QGd]at hro;have hne:s≠site:=fun e=>by
      have h2:=hro.2;rw[e]at h2;simp at h2
     have hl:0<st.m.length:=QG1.2 h.ne;obtain⟨h1,h2⟩:=h.vecput (w':=w) (sz:=sz) (cap:=0) (b:=none) (ys:=[]) hl hro.1 (Jq h.mr hro.1) rfl rfl rfl (QFQ _) (fun _ _ _=>rfl) (fun k e=>by cases e) ⟨by simp,rfl,rfl⟩ (.inl ⟨rfl,rfl⟩);have hlk':Qe (Am.put st.m 0 site (.vec (Qy st.m 0 site) sz [])) 0 s=.cells xs:=by
      rw[Qr (.inr hne)];exact hlk
     obtain⟨b,cs,hb,hsoft,hrep⟩:=h1.mr.cells 0 s xs hlk';obtain⟨v,hv,hr⟩:=hrep.at_ hn;have hvn:v=.slice none 0 0:=by cases hr;rfl
     subst hvn;have hset:cs.toList.set idx (.slice none 0 0)=cs.toList:=by
      obtain⟨hi,he⟩:=QFS.1 hv;rw[←he,List.set_getElem_self]
     have hrep':=hrep.set idx (x:=.vec 0 site (Qy st.m 0 site) 0 0 false) (v:=.slice none 0 0) (.vec rfl (QGy (by simp[Gh.row,Gh.dn])) fun _=>.inl ⟨by simp[Gh.row,Gh.dn],rfl,rfl,none,rfl,fun _=>rfl⟩);rw[hset]at hrep';exact⟨_,⟨h1.mr.stored hlk' hb (Turned.refl b w) hsoft hrep',h1.size,h1.slots,h1.ds,h1.base,h1.top,Jz h1.ne⟩,h2⟩
   ·cases hg;exact⟨G,h,Ext.refl 1 G w⟩
   ·cases hg
  ·cases hg
 |pub slot site=>
  simp only[Z4]at hg;split at hg
  ·rename_i s' g o n q hs;split at hg
   ·rename_i g' sz xs hlk;cases hb:(Nat.beq s' site&&Nat.beq g g'&&Nat.ble (o+n) xs.length)with
    |false=>rw[hb]at hg;cases hg
    |true=>
     rw[hb]at hg;simp only[cond_true,QGh]at hg;subst hg;simp only[QGd]at hb;obtain⟨⟨b1,b2⟩,b3⟩:=hb;have e1:=QFO b1;have e2:=QFO b2;subst e1 e2;exact h.publish hs hlk (QHc b3)
   ·cases hg
  ·cases hg;exact⟨G,h,Ext.refl 1 G w⟩
  ·cases hg
 |give slot site l S=>
  simp only[Z4]at hg;split at hg
  ·rename_i s' g o n q hs;split at hg
   ·rename_i g' sz xs hlk;cases hb:(Nat.beq s' site&&Nat.beq g g'&&Nat.blt l st.m.length && !(Nat.beq l 0)&&Qx (Qe st.m l S)&&Nat.blt S 2000)with
    |false=>rw[hb]at hg;cases hg
    |true=>
     rw[hb]at hg;simp only[cond_true,QGh]at hg;subst hg;simp only[QGd]at hb;obtain⟨⟨⟨⟨⟨b1,b2⟩,b3⟩,b4⟩,b5⟩,b6⟩:=hb;have e1:=QFO b1;have e2:=QFO b2;subst e1 e2;have b4':l≠0:=fun e=>by rw[e]at b4;simp at b4
     exact h.give hs hlk (QHc b3) b4' b5 (QHc b6)
   ·cases hg
  ·cases hg

def RA.sl:RA→List Nat
 |.t n=>[n]
 |_=>[]
def Ry:Option RA→List Nat
 |some r=>r.sl
 |none=>[]
def VO.sl:VO→List Nat
 |.mov x=>x.sl
 |.pick c a b=>c.sl++(a.sl++b.sl)
 |.build _ ps=>ps.flatMap fun p=>p.2.2.sl
 |.load _ x=>x.sl
 |.loadv _ _ _ x=>x.sl
 |.loado _ x=>x.sl
 |.loadr _ x=>x.sl
 |.nilck x=>x.sl
 |.un _ x=>x.sl
 |.cvi _ x=>x.sl
 |.faddr _ x=>x.sl
 |.faddv _ x=>x.sl
 |.fld _ _ x=>x.sl
 |.ext x _=>x.sl
 |.len _ x=>x.sl
 |.bin _ _ x y=>x.sl++y.sl
 |.eqs _ _ x y=>x.sl++y.sl
 |.iaddr _ _ x y=>x.sl++y.sl
 |.idx x y=>x.sl++y.sl
 |.mnx _ x y=>x.sl++y.sl
 |.slc _ x lo hi mx=>x.sl++(Ry lo++(Ry hi++Ry mx))
 |.slcl x hi mx=>x.sl++(hi.sl++mx.sl)
 |.mkfn _ a b=>a.flatMap RA.sl++b.flatMap RA.sl
 |.same x=>x.sl
 |.mget _ _ x y=>x.sl++y.sl
 |.mgetp _ _ x y=>x.sl++y.sl
 |.aidx _ _ _ x y=>x.sl++y.sl
def RO.sl:RO→List Nat
 |.val v=>v.sl
 |.allocN _ _=>[]
 |.boxN _ r=>r.sl
 |.store _ p r=>p.sl++r.sl
 |.storev _ _ _ p r=>p.sl++r.sl
 |.app _ _ _ s r=>s.sl++r.sl
 |.appl _ _ _ s r=>s.sl++r.sl
 |.mk _ _ _ _ _ l c=>l.sl++c.sl
 |.bsl _ _ _ ps=>ps.flatMap fun p=>p.2.2.sl
 |.call f rs=>f.sl++rs.flatMap RA.sl
 |.callF f rs=>f.sl++rs.flatMap RA.sl
 |.bslv _ _ _ _ ps=>ps.flatMap fun p=>p.2.2.sl
 |.bsl0 _ _=>[]
 |.lit0 _=>[]
 |.appe _ _ _ s r=>s.sl++r.sl
 |.isnil _ x=>x.sl
 |.xb _ _ s c=>s.sl++c.sl
 |.rngs _ r=>r.sl
 |.nxts r=>r.sl
 |.mkm _=>[]
 |.mput x y z=>x.sl++(y.sl++z.sl)
def Item.sl (it:Item):List Nat:=it.op.sl++(match it.g with|some (j,_)=>[j]|none=>[])

def Zk (l:List Nat)(f f':Fr):Prop:=∀t,t∈l→f t=f' t
theorem Zk.left {a b:List Nat}{f f':Fr}(h:Zk (a++b) f f'):Zk a f f':=fun t ht=>h t (List.mem_append_left _ ht)
theorem Zk.right {a b:List Nat}{f f':Fr}(h:Zk (a++b) f f'):Zk b f f':=fun t ht=>h t (List.mem_append_right _ ht)

theorem RA.ev_same {r:RA}{f f':Fr}(h:Zk r.sl f f'):r.ev f=r.ev f':=by
 cases r with
 |t n=>exact h n (by simp[RA.sl])
 |c x=>rfl
 |f k=>rfl
 |g k l=>rfl

theorem Kp:∀ {rs:List RA} {f f':Fr},Zk (rs.flatMap RA.sl) f f'→rs.map (RA.ev f)=rs.map (RA.ev f')
 | [],_,_,_=>rfl
 |r :: rs,f,f',h=>by
  rw[List.flatMap_cons]at h;rw[QGn,QGn,RA.ev_same h.left,Kp h.right]

theorem KD {f f':Fr}:∀ {ps:List (Nat×Nat×RA)} {z:List AV},Zk (ps.flatMap fun p=>p.2.2.sl) f f'→fill f ps z=fill f' ps z
 | [],_,_=>rfl
 |(o,n,r) :: ps,z,h=>by
  rw[List.flatMap_cons]at h;simp only[fill,RA.ev_same h.left,KD h.right]

theorem YF {f f':Fr}{d:Nat}{r:Option RA}(h:Zk (Ry r) f f'):J0 f d r=J0 f' d r:=by
 cases r with
 |none=>rfl
 |some r=>simp only[J0,RA.ev_same (r:=r) h]

theorem Ph {f f':Fr}{m:Ql}{vo:VO}(h:Zk vo.sl f f'):QA f m vo=QA f' m vo:=by
 cases vo with
 |mov x=>simp only[QA,RA.ev_same (r:=x) h]
 |pick c a b=>simp only[QA,RA.ev_same (r:=c) h.left,RA.ev_same (r:=a) h.right.left,RA.ev_same (r:=b) h.right.right]
 |build z ps=>simp only[QA,KD (ps:=ps) h]
 |load k x=>simp only[QA,RA.ev_same (r:=x) h]
 |loadv l s k x=>simp only[QA,RA.ev_same (r:=x) h]
 |loado k x=>simp only[QA,RA.ev_same (r:=x) h]
 |loadr k x=>simp only[QA,RA.ev_same (r:=x) h]
 |nilck x=>simp only[QA,RA.ev_same (r:=x) h]
 |un o x=>simp only[QA,RA.ev_same (r:=x) h]
 |cvi k x=>simp only[QA,RA.ev_same (r:=x) h]
 |faddr o x=>simp only[QA,RA.ev_same (r:=x) h]
 |faddv o x=>simp only[QA,RA.ev_same (r:=x) h]
 |fld o k x=>simp only[QA,RA.ev_same (r:=x) h]
 |ext x i=>simp only[QA,RA.ev_same (r:=x) h]
 |same x=>simp only[QA,RA.ev_same (r:=x) h]
 |len k x=>simp only[QA,RA.ev_same (r:=x) h]
 |bin t o x y=>simp only[QA,RA.ev_same (r:=x) h.left,RA.ev_same (r:=y) h.right]
 |eqs n ks x y=>simp only[QA,RA.ev_same (r:=x) h.left,RA.ev_same (r:=y) h.right]
 |iaddr sz len x y=>simp only[QA,RA.ev_same (r:=x) h.left,RA.ev_same (r:=y) h.right]
 |idx x y=>simp only[QA,RA.ev_same (r:=x) h.left,RA.ev_same (r:=y) h.right]
 |mget ok z x y=>simp only[QA,RA.ev_same (r:=x) h.left,RA.ev_same (r:=y) h.right]
 |mgetp ok z x y=>simp only[QA,RA.ev_same (r:=x) h.left,RA.ev_same (r:=y) h.right]
 |aidx n sz k x y=>simp only[QA,RA.ev_same (r:=x) h.left,RA.ev_same (r:=y) h.right]
 |mnx b x y=>simp only[QA,RA.ev_same (r:=x) h.left,RA.ev_same (r:=y) h.right]
 |slc sz x lo hi mx=>
  have h1:=h.right.left;have h2:=h.right.right.left;have h3:=h.right.right.right;simp only[QA,RA.ev_same (r:=x) h.left,YF (r:=lo) h1,YF (r:=hi) h2];cases mx with
  |none=>rfl
  |some r=>simp only[YF (r:=some r) h3]
 |mkfn fn a b=>simp only[QA,Kp (rs:=a) h.left,Kp (rs:=b) h.right]
 |slcl x hi mx=>simp only[QA,RA.ev_same (r:=x) h.left,RA.ev_same (r:=hi) h.right.left,RA.ev_same (r:=mx) h.right.right]

inductive MC where
 |no
 |shape
 |rows
 |cell (l s:Nat)
 |outer
 |all
 deriving DecidableEq

def VO.mc:VO→MC
 |.load _ _=>.all
 |.loadv l s _ _=>.cell l s
 |.loado _ _=>.outer
 |.loadr _ _=>.rows
 |.nilck _=>.shape
 |.faddr _ _=>.shape
 |.len _ _=>.shape
 |.slc .. => .shape
 |.iaddr .. => .shape
 |.mget .. => .all
 |_=>.no

def Ob.sh:Ob→Option (Nat×Nat)
 |.vec g z _=>some (g,z)
 |_=>Option.none
def Ob.row:Ob→Option (Nat×Nat×List AV)
 |.vec g z xs=>some (g,z,xs)
 |_=>Option.none

def Xm:MC→Ql→Ql→Prop
 |.no,_,_=>True
 |.shape,m,m'=>∀l s,(Qe m l s).sh=(Qe m' l s).sh
 |.rows,m,m'=>∀l s,(Qe m l s).row=(Qe m' l s).row
 |.cell l s,m,m'=>Qe m l s=Qe m' l s∨((Qe m l s).isRow=true∧(Qe m' l s).isRow=true)
 |.outer,m,m'=>∀l s,Qe m (l+1) s=Qe m' (l+1) s
 |.all,m,m'=>m=m'

theorem Xm.refl (c:MC)(m:Ql):Xm c m m:=by
 cases c<;>simp[Xm]

theorem WM {m m':Ql}{l s:Nat}(h:(Qe m l s).sh=(Qe m' l s).sh):Wc m l s=Wc m' l s:=by
 unfold Wc;cases h1:Qe m l s<;>cases h2:Qe m' l s<;>rw[h1,h2]at h<;>simp_all[Ob.sh]

theorem Gt {m m':Ql}(h:Xm .shape m m')(sz:Option Nat)(x:AV)(lo hi:Nat)(mx:Option Nat):Xr m sz x lo hi mx=Xr m' sz x lo hi mx:=by
 cases sz with
 |none=>rfl
 |some z=>
  cases x with
  |vec l s g o n q=>
   have h:=h l s;simp only[Xr];cases h1:Qe m l s<;>cases h2:Qe m' l s<;>rw[h1,h2]at h<;>simp_all[Ob.sh]
  |_=>rfl

theorem Gu {m m':Ql}(h:Xm .shape m m')(sz:Nat)(len:Option Nat)(x:AV)(i:Int):Qc m sz len x i=Qc m' sz len x i:=by
 unfold Qc;cases len with
 |none=>
  cases x with
  |vec l s g o n q=>
   have h:=h l s;simp only;cases h1:Qe m l s<;>cases h2:Qe m' l s<;>rw[h1,h2]at h<;>simp_all[Ob.sh]
  |_=>rfl
 |some k=>rfl

def Pi (F:Nat→List AV→Option AV):Ob→Option AV
 |.vec g _ xs=>F g xs
 |_=>none

theorem NP {o o':Ob}(h:o.row=o'.row)(F:Nat→List AV→Option AV):Pi F o=Pi F o':=by
  cases o<;>cases o'<;>simp only[Ob.row,QGh,Prod.mk.injEq,reduceCtorEq]at h<;>first
    |rfl
    | (obtain⟨rfl,_,rfl⟩:=h
       rfl)

theorem Ud (m:Ql)(k:Option Nat)(l s g i o:Nat):Xc m k (.vptr l s g i o)=Pi (fun g' xs=>if g=g' then match xs[i]? with
  |some e=>part e.cells o k
  |none=>none
 else none) (Qe m l s):=by
 simp only[Xc];cases Qe m l s<;>rfl

theorem AO {f:Fr}{m m':Ql}{vo:VO}(h:Xm vo.mc m m'):QA f m vo=QA f m' vo:=by
 cases vo<;>simp only[VO.mc]at h<;>try rfl
 case load k x=>have h:m=m':=h;subst h;rfl
 case mget ok z x i=>have h:m=m':=h;subst h;rfl
 case loado k x=>
  have h:∀l s,Qe m (l+1) s=Qe m' (l+1) s:=h;simp only[QA];split
  ·simp only[Xc,h]
  ·rfl
 case loadv l s k x=>
  have h:Qe m l s=Qe m' l s∨((Qe m l s).isRow=true∧(Qe m' l s).isRow=true):=h;simp only[QA];split
  ·split
   ·rename_i hh;obtain⟨rfl,rfl⟩:=hh;rcases h with h|⟨h1,h2⟩
    ·simp only[Xc,h]
    ·simp only[Xc];cases e1:Qe m _ _<;>cases e2:Qe m' _ _<;>rw[e1]at h1<;>rw[e2]at h2<;>first|rfl|(simp[Ob.isRow]at h1;done)|(simp[Ob.isRow]at h2;done)
   ·rfl
  ·rfl
 case loadr k x=>
  simp only[QA];split
  ·rfl
  ·rename_i l s g i o e;have h4:(Qe m l s).row=(Qe m' l s).row:=h l s;rw[Ud,Ud,NP h4]
  ·rfl
 case nilck x=>simp only[QA,fun l s=>WM (h l s)]
 case faddr o x=>simp only[QA,fun l s=>WM (h l s)]
 case len k x=>simp only[QA,fun l s=>WM (h l s)]
 case slc sz x lo hi mx=>simp only[QA,Gt h]
 case iaddr sz len x i=>simp only[QA,Gu h]

mutual
theorem Ue {m m':Ql}(h:Xm .rows m m'):∀x:AV,x.still false m=x.still false m'
 |.vec l s g o n q=>by
   have h:=h l s;simp only[AV.still];cases h1:Qe m l s<;>cases h2:Qe m' l s<;>rw[h1,h2]at h<;>simp_all[Ob.row]
 |.agg l=>by simp only[AV.still,JY h l]
 |.tup l=>by simp only[AV.still,JY h l]
 |.iface t x=>by simp only[AV.still,Ue h x]
 |.top|.int .. | .bool _|.str _|.nils|.nilp|.nilf|.nili|.nilm|.anyp|.list _|.lcap _|.fn .. | .ptr .. | .vptr .. | .rptr _|.mp .. => rfl
 |.mptr l s=>by simp only[AV.still,QHd,QF9,if_false]
theorem JY {m m':Ql}(h:Xm .rows m m'):∀l:List AV,AV.stillL false m l=AV.stillL false m' l
 | []=>rfl
 |x :: l=>by simp only[AV.stillL,Ue h x,JY h l]
end

def RO.pure:RO→Bool
 |.val _=>true
 |.bsl .. => true
 |.call _ _=>true
 |.lit0 _=>true
 |.appe .. => true
 |_=>false

def RO.mc:RO→MC
 |.val v=>v.mc
 |.call _ _=>.rows
 |.bsl .. => .no
 |.lit0 _=>.no
 |.appe .. => .no
 |_=>.all

section
variable {P:Program}

def BK (P:Program)(op:RO)(st:St)(x:AV):Prop :=
 match op with
 |.val vo=>QA st.f st.m vo=some x
 |.call f args=>∃k fa fb ys,f.ev st.f=.fn (.func k) fa fb∧AV.stillL false st.m (fa++args.map (RA.ev st.f)++fb)=some ys∧AV.rfL ys=true∧Qs P k ys x∧x.rf=true∧(AV.rfL (fa++args.map (RA.ev st.f)++fb)=true∨x.nl=true)
 |_=>False

def XQ (P:Program)(op:RO)(st:St)(x:AV)(m:Ql):Prop :=
 match op with
 |.val vo=>QA st.f st.m vo=some x∧m=st.m
 |.call f args=>BK P (.call f args) st x∧m=st.m
 |.allocN s z=>XA st.m s=true∧x=.ptr 0 s 0∧m=Am.put st.m 0 s (.cells z)
 |.boxN s r=>XA st.m s=true∧(r.ev st.f).cells.all AV.leaf=true∧x=.ptr 0 s 0∧m=Am.put st.m 0 s (.cells (r.ev st.f).cells)
 |.store n p r=>(r.ev st.f).cells.length=n∧(r.ev st.f).cells.all AV.leaf=true∧Q4 st.m (p.ev st.f) (r.ev st.f).cells=some m∧x=.tup []
 |.storev l s n p r=>(∃o,p.ev st.f=.ptr l s o)∧(r.ev st.f).cells.length=n∧(r.ev st.f).cells.all AV.leaf=true∧Q4 st.m (p.ev st.f) (r.ev st.f).cells=some m∧x=.tup []
 |.app sz bytes el s r=>∃l site g n xs ys,s.ev st.f=.vec l site g 0 n false∧Qe st.m l site=.vec g sz xs∧Xu site el=true∧n≤xs.length∧Xf st.m (r.ev st.f)=some ys∧ys.all (fun e=>e.cells.length==sz)=true∧n+ys.length≤maxLen∧(n+ys.length)*bytes≤140737488355328∧
   x=.vec l site (g+1) 0 (n+ys.length) false∧m=Am.put st.m l site (.vec (g+1) sz (xs.take n++ys))
 |.appl sz bytes el s r=>∃site g n xs ys,s.ev st.f=.vec 0 site g 0 n false∧Qe st.m 0 site=.vec g sz xs∧Xu site el=true∧n≤xs.length∧Xf st.m (r.ev st.f)=some ys∧ys.all (fun e=>e.cells.length==sz)=true∧n+ys.length≤maxLen∧(n+ys.length)*bytes≤140737488355328∧
   x=.list (xs.take n++ys)∧m=Am.put st.m 0 site (.vec (g+1+1) sz [])
 |.bsl sz len z ps=>(∃y,fill st.f ps (Xk z sz len)=some y∧AV.rfL y=true∧y.all AV.leaf=true∧x=.list (XH sz len (y.map nn0)))∧m=st.m
 |.bslv site sz len z ps=>∃y,fill st.f ps (Xk z sz len)=some y∧AV.rfL y=true∧y.all AV.leaf=true∧Qx (Qe st.m 0 site)=true∧x=.vec 0 site (Qy st.m 0 site) 0 len false∧m=Am.put st.m 0 site (.vec (Qy st.m 0 site) sz (XH sz len (y.map nn0)))
 |.lit0 _=>x=.lcap []∧m=st.m
 |.appe sz bytes _ s r=>(∃xs ys,s.ev st.f=.lcap xs∧r.ev st.f=.list ys∧xs.all (fun e=>e.cells.length==sz)=true∧ys.all (fun e=>e.cells.length==sz)=true∧xs.length+ys.length≤maxLen∧(xs.length+ys.length)*bytes≤140737488355328∧x=.list (xs++ys))∧m=st.m
 |.bsl0 site sz=>Qx (Qe st.m 0 site)=true∧x=.vec 0 site (Qy st.m 0 site) 0 0 false∧m=Am.put st.m 0 site (.vec (Qy st.m 0 site) sz [])
 |.callF f args=>∃k fa fb,f.ev st.f=.fn (.func k) fa fb∧Qn P k (fa++args.map (RA.ev st.f)++fb) st.m (fun y m'=>y=x∧m'=m)
 |_=>False

def RO.keeps:RO→Bool
 |.mk .. => false
 |.isnil .. => false
 |.xb .. => false
 |.rngs .. => false
 |.nxts .. => false
 |.mkm .. => false
 |.mput .. => false
 |_=>true

theorem Gv {d:Option Nat}{op:RO}{st:St}{K:St→Prop}(hk:op.keeps=true):Wy P d op st K↔∃x m,XQ P op st x m∧K { st with m:=m,f:=Qh st.f d x }:=by
 cases op<;>simp only[RO.keeps,QF9]at hk<;>simp only[Wy,XQ,BK]
 case val=>exact⟨fun⟨x,h,k⟩=>⟨x,_,⟨h,rfl⟩,k⟩,fun⟨x,m,⟨h,e⟩,k⟩=>by subst e;exact⟨x,h,k⟩⟩
 case allocN=>exact⟨fun⟨h,k⟩=>⟨_,_,⟨h,rfl,rfl⟩,k⟩,fun⟨x,m,⟨h,e,e'⟩,k⟩=>by subst e e';exact⟨h,k⟩⟩
 case boxN=>exact⟨fun⟨h,h',k⟩=>⟨_,_,⟨h,h',rfl,rfl⟩,k⟩,fun⟨x,m,⟨h,h',e,e'⟩,k⟩=>by subst e e';exact⟨h,h',k⟩⟩
 case store=>exact⟨fun⟨h1,h2,m',h3,k⟩=>⟨_,m',⟨h1,h2,h3,rfl⟩,k⟩,fun⟨x,m,⟨h1,h2,h3,e⟩,k⟩=>by subst e;exact⟨h1,h2,m,h3,k⟩⟩
 case storev=>exact⟨fun⟨h0,h1,h2,m',h3,k⟩=>⟨_,m',⟨h0,h1,h2,h3,rfl⟩,k⟩,fun⟨x,m,⟨h0,h1,h2,h3,e⟩,k⟩=>by subst e;exact⟨h0,h1,h2,m,h3,k⟩⟩
 case app=>exact⟨fun⟨l,site,g,n,xs,ys,h1,h2,ht,h3,h4,h5,h6,h7,k⟩=>⟨_,_,⟨l,site,g,n,xs,ys,h1,h2,ht,h3,h4,h5,h6,h7,rfl,rfl⟩,k⟩,fun⟨x,m,⟨l,site,g,n,xs,ys,h1,h2,ht,h3,h4,h5,h6,h7,e,e'⟩,k⟩=>by subst e e';exact⟨l,site,g,n,xs,ys,h1,h2,ht,h3,h4,h5,h6,h7,k⟩⟩
 case appl=>exact⟨fun⟨site,g,n,xs,ys,h1,h2,ht,h3,h4,h5,h6,h7,k⟩=>⟨_,_,⟨site,g,n,xs,ys,h1,h2,ht,h3,h4,h5,h6,h7,rfl,rfl⟩,k⟩,fun⟨x,m,⟨site,g,n,xs,ys,h1,h2,ht,h3,h4,h5,h6,h7,e,e'⟩,k⟩=>by subst e e';exact⟨site,g,n,xs,ys,h1,h2,ht,h3,h4,h5,h6,h7,k⟩⟩
 case call=>exact⟨fun⟨k,fa,fb,ys,v,h1,h2,h3,h4,h5,h6,kk⟩=>⟨v,_,⟨⟨k,fa,fb,ys,h1,h2,h3,h4,h5,h6⟩,rfl⟩,kk⟩,fun⟨x,m,⟨⟨k,fa,fb,ys,h1,h2,h3,h4,h5,h6⟩,e⟩,kk⟩=>by subst e;exact⟨k,fa,fb,ys,x,h1,h2,h3,h4,h5,h6,kk⟩⟩
 case bsl=>exact⟨fun⟨y,h1,h2,h3,k⟩=>⟨_,_,⟨⟨y,h1,h2,h3,rfl⟩,rfl⟩,k⟩,fun⟨x,m,⟨⟨y,h1,h2,h3,e⟩,e'⟩,k⟩=>by subst e e';exact⟨y,h1,h2,h3,k⟩⟩
 case bslv=>exact⟨fun⟨y,h1,h2,h3,h4,k⟩=>⟨_,_,⟨y,h1,h2,h3,h4,rfl,rfl⟩,k⟩,fun⟨x,m,⟨y,h1,h2,h3,h4,e,e'⟩,k⟩=>by subst e e';exact⟨y,h1,h2,h3,h4,k⟩⟩
 case lit0=>exact⟨fun k=>⟨_,_,⟨rfl,rfl⟩,k⟩,fun⟨x,m,⟨e,e'⟩,k⟩=>by subst e e';exact k⟩
 case appe=>exact⟨fun⟨xs,ys,h1,h2,h3,h4,h5,h6,k⟩=>⟨_,_,⟨⟨xs,ys,h1,h2,h3,h4,h5,h6,rfl⟩,rfl⟩,k⟩,fun⟨x,m,⟨⟨xs,ys,h1,h2,h3,h4,h5,h6,e⟩,e'⟩,k⟩=>by subst e e';exact⟨xs,ys,h1,h2,h3,h4,h5,h6,k⟩⟩
 case bsl0=>exact⟨fun⟨h1,k⟩=>⟨_,_,⟨h1,rfl,rfl⟩,k⟩,fun⟨x,m,⟨h1,e,e'⟩,k⟩=>by subst e e';exact⟨h1,k⟩⟩
 case callF=>exact⟨fun⟨k,fa,fb,v,m',h1,h2,kk⟩=>⟨v,m',⟨k,fa,fb,h1,h2⟩,kk⟩,fun⟨x,m,⟨k,fa,fb,h1,h2⟩,kk⟩=>⟨k,fa,fb,x,m,h1,h2,kk⟩⟩

def Zb (P:Program)(it:Item)(st:St)(x:AV)(m:Ql):Prop :=
 match it.g with
 |none=>XQ P it.op st x m
 |some (j,want)=>match st.f j with
  |.bool b=>(b=want∧XQ P it.op st x m)∨(b=(!want)∧x=.tup []∧m=st.m)
  |.tup l=>l=[]∧x=.tup []∧m=st.m
  |_=>False

theorem Z5 {it:Item}{st:St}{K:St→Prop}(hk:it.op.keeps=true):XM P it st K↔∃x m,Zb P it st x m∧K { st with m:=m,f:=Qh st.f it.dst x }:=by
 obtain⟨d,op,g⟩:=it;cases g with
 |none=>exact Gv hk
 |some p=>
  obtain⟨j,want⟩:=p;simp only[XM,Zb];cases hj:st.f j with
  |bool b=>
   simp only;rw[Gv hk]
   constructor
   ·intro⟨h1,h2⟩;by_cases hb:b=want
    ·obtain⟨x,m,h,k⟩:=h1 hb;exact⟨x,m,.inl ⟨hb,h⟩,k⟩
    ·have hb':b=!want:=by cases b<;>cases want<;>first|rfl|exact absurd rfl hb
     exact⟨_,_,.inr ⟨hb',rfl,rfl⟩,h2 hb'⟩
   ·rintro⟨x,m,⟨hb,h⟩|⟨hb,rfl,rfl⟩,k⟩
    ·exact⟨fun _=>⟨x,m,h,k⟩,fun e=>by rw[hb]at e;cases want<;>cases e⟩
    ·exact⟨fun e=>(by rw[hb]at e;cases want<;>cases e),fun _=>k⟩
  |tup l=>
   constructor
   ·rintro⟨h,k⟩;exact⟨_,_,⟨h,rfl,rfl⟩,k⟩
   ·rintro⟨x,m,⟨h,rfl,rfl⟩,k⟩;exact⟨h,k⟩
  |_=>exact⟨fun h=>h.elim,fun⟨_,_,h,_⟩=>h.elim⟩

theorem Uf {op:RO}{f f':Fr}{m m':Ql}{ds ds':List DF}{x:AV}(h:Zk op.sl f f')(k:XQ P op ⟨f,m,ds⟩ x m'):XQ P op ⟨f',m,ds'⟩ x m':=by
 cases op with
 |val vo=>simp only[XQ,Ph (vo:=vo) h]at k ⊢;exact k
 |call g args=>simp only[XQ,BK,RA.ev_same (r:=g) h.left,Kp (rs:=args) h.right]at k ⊢;exact k
 |callF g args=>simp only[XQ,RA.ev_same (r:=g) h.left,Kp (rs:=args) h.right]at k ⊢;exact k
 |allocN s z=>exact k
 |boxN s r=>simp only[XQ,RA.ev_same (r:=r) h]at k ⊢;exact k
 |store n p r=>simp only[XQ,RA.ev_same (r:=p) h.left,RA.ev_same (r:=r) h.right]at k ⊢;exact k
 |storev l s n p r=>simp only[XQ,RA.ev_same (r:=p) h.left,RA.ev_same (r:=r) h.right]at k ⊢;exact k
 |app sz bytes el s r=>simp only[XQ,RA.ev_same (r:=s) h.left,RA.ev_same (r:=r) h.right]at k ⊢;exact k
 |appl sz bytes el s r=>simp only[XQ,RA.ev_same (r:=s) h.left,RA.ev_same (r:=r) h.right]at k ⊢;exact k
 |bsl sz len z ps=>simp only[XQ,KD (ps:=ps) h]at k ⊢;exact k
 |bslv site sz len z ps=>simp only[XQ,KD (ps:=ps) h]at k ⊢;exact k
 |bsl0 site sz=>exact k
 |lit0 sz=>exact k
 |appe sz bytes el s r=>simp only[XQ,RA.ev_same (r:=s) h.left,RA.ev_same (r:=r) h.right]at k ⊢;exact k
 |_=>exact k.elim

theorem Kf {it:Item}{f f':Fr}{m m':Ql}{ds ds':List DF}{x:AV}(h:Zk it.sl f f')(k:Zb P it ⟨f,m,ds⟩ x m'):Zb P it ⟨f',m,ds'⟩ x m':=by
 obtain⟨d,op,g⟩:=it;cases g with
 |none=>exact Uf (Zk.left h) k
 |some p=>
  obtain⟨j,want⟩:=p;have hj:f j=f' j:=(Zk.right h) j (by simp);simp only[Zb]at k ⊢;rw[←hj];cases he:f j with
  |bool b=>rw[he]at k;exact k.imp (fun h1=>⟨h1.1,Uf (Zk.left h) h1.2⟩) id
  |tup l=>rw[he]at k;exact k
  |_=>rw[he]at k;exact k

theorem Gw {op:RO}(hp:op.pure=true){f:Fr}{m m' m1:Ql}{ds ds':List DF}{x:AV}(h:Xm op.mc m m')(k:XQ P op ⟨f,m,ds⟩ x m1):m1=m∧XQ P op ⟨f,m',ds'⟩ x m':=by
 cases op with
 |bsl sz len z ps=>obtain⟨k,e⟩:=k;exact⟨e,k,rfl⟩
 |lit0 sz=>obtain⟨k,e⟩:=k;exact⟨e,k,rfl⟩
 |appe sz bytes el s r=>obtain⟨k,e⟩:=k;exact⟨e,k,rfl⟩
 |val vo=>obtain⟨k,e⟩:=k;exact⟨e,by rw[←AO (f:=f) h];exact k,rfl⟩
 |call g args=>
  obtain⟨⟨k,fa,fb,ys,h1,h2,h3,h4,h5,h6⟩,e⟩:=k;refine⟨e,⟨k,fa,fb,ys,h1,?_,h3,h4,h5,h6⟩,rfl⟩;rw[←JY h];exact h2
 |_=>cases hp

theorem WN {it:Item}(hp:it.op.pure=true){f:Fr}{m m' m1:Ql}{ds ds':List DF}{x:AV}(h:Xm it.op.mc m m')(k:Zb P it ⟨f,m,ds⟩ x m1):m1=m∧Zb P it ⟨f,m',ds'⟩ x m':=by
 obtain⟨d,op,g⟩:=it;cases g with
 |none=>exact Gw hp h k
 |some p=>
  obtain⟨j,want⟩:=p;simp only[Zb]at k ⊢;cases he:f j with
  |bool b=>
   rw[he]at k;rcases k with⟨h1,k⟩|⟨h1,h2,h3⟩
   ·obtain⟨a,b⟩:=Gw hp h k;exact⟨a,.inl ⟨h1,b⟩⟩
   ·exact⟨h3,.inr ⟨h1,h2,trivial⟩⟩
  |tup l=>rw[he]at k;exact⟨k.2.2,k.1,k.2.1,trivial⟩
  |_=>rw[he]at k;exact k.elim

def RO.lets (op:RO)(c:MC):Bool :=
 match op with
 |.val _=>true
 |.call _ _=>true
 |.store .. => c == .no||c == .shape
 |.storev l s _ _ _=>match c with
  |.cell l' s'=>l' != l||s' != s
  |.outer=>l==0
  |.all=>false
  |_=>true
 |.allocN s _=>match c with
  |.cell l' s'=>l' != 0||s' != s
  |.all=>false
  |_=>true
 |.boxN s _=>match c with
  |.cell l' s'=>l' != 0||s' != s
  |.all=>false
  |_=>true
 |.app .. => match c with
  |.no=>true
  |.cell _ _=>true
  |_=>false
 |.appl .. => match c with
  |.no=>true
  |.cell _ _=>true
  |.outer=>true
  |_=>false
 |.bsl .. => true
 |.lit0 _=>true
 |.appe .. => true
 |.bslv s _ _ _ _=>match c with
  |.no=>true
  |.cell l' s'=>l' != 0||s' != s
  |.outer=>true
  |_=>false
 |.bsl0 s _=>match c with
  |.no=>true
  |.cell l' s'=>l' != 0||s' != s
  |.outer=>true
  |_=>false
 |.callF .. => c == .no
 |_=>false

theorem KO {m:Ql}{l s:Nat}{o o':Ob}(hl:Qe m l s=o)(ho:o.row=none)(ho':o'.row=none)(hlt:l<m.length){c:MC}(hc:match c with
  |.cell l' s'=>(l' != l||s' != s)=true
  |.outer=>(l==0)=true
  |.all=>False
  |_=>True):Xm c m (Am.put m l s o'):=by
 have key:∀l' s',(l'=l∧s'=s)∨Qe (Am.put m l s o') l' s'=Qe m l' s':=by
  intro l' s';by_cases hh:l'=l∧s'=s
  ·exact .inl hh
  ·exact .inr (Qr (by omega))
 have hsh:∀ {x:Ob},x.row=none→x.sh=none:=by intro x;cases x<;>simp[Ob.row,Ob.sh]
 cases c with
 |no=>trivial
 |shape=>
  intro l' s';rcases key l' s' with⟨rfl,rfl⟩|e
  ·rw[Qw hlt,hl,hsh ho,hsh ho']
  ·rw[e]
 |rows=>
  intro l' s';rcases key l' s' with⟨rfl,rfl⟩|e
  ·rw[Qw hlt,hl,ho,ho']
  ·rw[e]
 |cell l' s'=>
  show Qe m l' s'=Qe _ l' s'∨_;rcases key l' s' with⟨rfl,rfl⟩|e
  ·simp at hc
  ·exact .inl e.symm
 |outer=>
  intro l' s';have hc:l=0:=by simpa using hc
  exact(Qr (by omega)).symm
 |all=>exact hc.elim

theorem NQ {m:Ql}{s:Nat}(h:XA m s=true):Qe m 0 s=.none:=by
 unfold XA at h;split at h
 ·assumption
 ·cases h

end

theorem Xm.symm {c:MC}{m m':Ql}(h:Xm c m m'):Xm c m' m:=by
 cases c with
 |no=>trivial
 |shape=>exact fun l s=>(h l s).symm
 |rows=>exact fun l s=>(h l s).symm
 |cell l s=>exact Or.imp Eq.symm And.symm h
 |outer=>exact fun l s=>(h l s).symm
 |all=>exact Eq.symm h

theorem Gx {m m':Ql}{p:AV}{ys:List AV}(h:Q4 m p ys=some m'):Xm .shape m m':=by
 cases p with
 |ptr l s o=>
  simp only[Q4]at h;split at h
  ·rename_i xs hlk;split at h
   ·split at h
    ·cases h;exact KO (c:=.shape) hlk rfl rfl (Xj (by rw[hlk];simp)) trivial
    ·cases h
   ·cases h
  ·cases h
 |vptr l s g i o=>
  simp only[Q4]at h;split at h
  ·rename_i g' sz xs hlk;split at h
   ·rename_i hg;subst hg;split at h
    ·split at h
     ·cases h;intro l' s';by_cases hh:l'=l∧s'=s
      ·obtain⟨rfl,rfl⟩:=hh;rw[Qw (Xj (by rw[hlk];simp)),hlk];rfl
      ·rw[Qr (by omega)]
     ·cases h
    ·cases h
   ·cases h
  ·cases h
 |_=>simp[Q4]at h

section
variable {P:Program}{N:Nat}

theorem Gy {m:Ql}{s:Nat}{xs:List AV}(h:XA m s=true){c:MC}(hc:match c with
  |.cell l' s'=>(l' != 0||s' != s)=true
  |.all=>False
  |_=>True):Xm c m (Am.put m 0 s (.cells xs)):=by
 cases m with
 |nil=>exact Xm.refl c _
 |cons fr m=>exact KO (NQ h) rfl rfl (by simp) (by cases c<;>first|exact hc|rfl)

theorem Ug {op:RO}{c:MC}(hc:op.lets c=true){st:St}{x:AV}{m:Ql}(h:XQ P op st x m):Xm c st.m m:=by
 cases op with
 |val vo=>rw[h.2];exact Xm.refl c _
 |call f args=>rw[h.2];exact Xm.refl c _
 |store n p r=>
  simp only[RO.lets,QGI,QGe]at hc;rcases hc with rfl|rfl
  ·trivial
  ·exact Gx h.2.2.1
 |storev l s n p r=>
  obtain⟨⟨o,ho⟩,h1,h2,h3,h4⟩:=h;rw[ho]at h3;simp only[Q4]at h3;split at h3
  ·rename_i xs hlk;split at h3
   ·split at h3
    ·cases h3;refine KO hlk rfl rfl (Xj (by rw[hlk];simp)) ?_;cases c<;>first|trivial|exact hc|cases hc
    ·cases h3
   ·cases h3
  ·cases h3
 |allocN s z=>
  rw[h.2.2];refine Gy h.1 ?_;cases c<;>first|trivial|exact hc|cases hc
 |boxN s r=>
  rw[h.2.2.2];refine Gy h.1 ?_;cases c<;>first|trivial|exact hc|cases hc
 |app sz bytes el s r=>
  obtain⟨l,site,g,n,xs,ys,_,hlk,_,_,_,_,_,_,_,rfl⟩:=h;cases c with
  |no=>trivial
  |cell l' s'=>
   show Qe st.m l' s'=Qe _ l' s'∨_;by_cases hh:l'=l∧s'=site
   ·obtain⟨rfl,rfl⟩:=hh;refine .inr ⟨by rw[hlk];rfl,?_⟩;rw[Qw (Xj (by rw[hlk];simp))];rfl
   ·exact .inl (Qr (by omega)).symm
  |_=>simp[RO.lets]at hc
 |appl sz bytes el s r=>
  obtain⟨site,g,n,xs,ys,_,hlk,_,_,_,_,_,_,_,rfl⟩:=h;cases c with
  |no=>trivial
  |cell l' s'=>
   show Qe st.m l' s'=Qe _ l' s'∨_;by_cases hh:l'=0∧s'=site
   ·obtain⟨rfl,rfl⟩:=hh;refine .inr ⟨by rw[hlk];rfl,?_⟩;rw[Qw (Xj (by rw[hlk];simp))];rfl
   ·exact .inl (Qr (by omega)).symm
  |outer=>exact fun l' s'=>(Qr (.inl (Nat.succ_ne_zero l'))).symm
  |_=>simp[RO.lets]at hc
 |bsl sz len z ps=>rw[h.2];exact Xm.refl c _
 |lit0 sz=>rw[h.2];exact Xm.refl c _
 |appe sz bytes el s r=>rw[h.2];exact Xm.refl c _
 |bslv site sz len z ps=>
  obtain⟨y,_,_,_,_,_,rfl⟩:=h;cases c with
  |no=>trivial
  |cell l' s'=>
   simp only[RO.lets,QGI,QGj]at hc;exact .inl (Qr (by omega)).symm
  |outer=>exact fun l' s'=>(Qr (.inl (Nat.succ_ne_zero l'))).symm
  |_=>simp[RO.lets]at hc
 |bsl0 site sz=>
  obtain⟨_,_,rfl⟩:=h;cases c with
  |no=>trivial
  |cell l' s'=>
   simp only[RO.lets,QGI,QGj]at hc;exact .inl (Qr (by omega)).symm
  |outer=>exact fun l' s'=>(Qr (.inl (Nat.succ_ne_zero l'))).symm
  |_=>simp[RO.lets]at hc
 |callF f args=>
  simp only[RO.lets,QGe]at hc;subst hc;trivial
 |_=>exact h.elim

theorem Uh {it:Item}{c:MC}(hc:it.op.lets c=true){st:St}{x:AV}{m:Ql}(h:Zb P it st x m):Xm c st.m m:=by
 obtain⟨d,op,g⟩:=it;cases g with
 |none=>exact Ug hc h
 |some p=>
  obtain⟨j,want⟩:=p;simp only[Zb]at h;cases he:st.f j with
  |bool b=>
   rw[he]at h;rcases h with⟨_,h⟩|⟨_,_,h⟩
   ·exact Ug hc h
   ·rw[h];exact Xm.refl c _
  |tup l=>rw[he]at h;rw[h.2.2];exact Xm.refl c _
  |_=>rw[he]at h;exact h.elim

def Ya (a b:Item):Bool :=
  (match a.dst with
   |some d=>!(b.sl.contains d)&&b.dst != some d
   |none=>true) &&
  (match b.dst with
   |some d=>!(a.sl.contains d)
   |none=>true)

def Gz (a b:Item):Bool :=
 match a.op,b.op,a.g,b.g with
 |.allocN s _,.allocN t _,none,none=>s != t
 |_,_,_,_=>false

def Yb (a b:Item):Bool :=
 a.op.keeps&&b.op.keeps&&Ya a b&&((a.op.pure&&b.op.lets a.op.mc)||(b.op.pure&&a.op.lets b.op.mc)||Gz a b)

theorem GA {m:Ql}{s t:Nat}{o:Ob}(h:s≠t):XA (Am.put m 0 s o) t=XA m t:=by
 unfold XA;rw[Qr (.inr (Ne.symm h))]
theorem Pj {m:Ql}{s t:Nat}{o q:Ob}(h:s≠t):Am.put (Am.put m 0 s o) 0 t q=Am.put (Am.put m 0 t q) 0 s o:=by
 cases m with
 |nil=>rfl
 |cons fr m=>
  simp only[Am.put];congr 1
  funext i;by_cases h1:i=t
  ·subst h1;rw[QI,QN _ _ (Ne.symm h),QI]
  ·rw[QN _ _ h1];by_cases h2:i=s
   ·subst h2;rw[QI,QI]
   ·rw[QN _ _ h2,QN _ _ h2,QN _ _ h1]
theorem Fa {a b:Item}(h:Gz a b=true){st:St}{f:Fr}{x y:AV}{m m2:Ql}(ga:Zb P a st x m)(gb:Zb P b { st with m:=m,f:=f } y m2) :
  ∃m1,Zb P b st y m1∧∀f',Zb P a { st with m:=m1,f:=f' } x m2:=by
 obtain⟨da,oa,ga'⟩:=a;obtain⟨db,ob,gb'⟩:=b;unfold Gz at h;dsimp only at h;split at h
 ·rename_i s z t w;have hne:s≠t:=by simpa using h
  obtain⟨h1,rfl,rfl⟩:=ga;obtain⟨h2,rfl,rfl⟩:=gb;dsimp only at h2;rw[GA hne]at h2;refine⟨_,⟨h2,rfl,rfl⟩,fun f'=>⟨?_,rfl,?_⟩⟩
  ·dsimp only;rw[GA (Ne.symm hne)];exact h1
  ·exact Pj hne
 ·cases h

theorem Hx {l:List Nat}{f:Fr}{d:Option Nat}{x:AV}(h:∀k,d=some k→k∉l):Zk l f (Qh f d x):=by
 intro t ht;cases d with
 |none=>rfl
 |some k=>
  have:t≠k:=fun e=>h k rfl (e▸ht)
  show f t=Qp f k x t;rw[QN _ _ this]

theorem NR {f:Fr}{d e:Option Nat}{x y:AV}(h:∀k,d=some k→e≠some k):Qh (Qh f d x) e y=Qh (Qh f e y) d x:=by
 cases d with
 |none=>rfl
 |some d=>
  cases e with
  |none=>rfl
  |some e=>
   have hne:d≠e:=fun hh=>h d rfl (hh▸rfl)
   funext i;show Qp (Qp f d x) e y i=Qp (Qp f e y) d x i;by_cases h1:i=e
   ·subst h1;rw[QI,QN _ _ (Ne.symm hne),QI]
   ·rw[QN _ _ h1];by_cases h2:i=d
    ·subst h2;rw[QI,QI]
    ·rw[QN _ _ h2,QN _ _ h2,QN _ _ h1]

theorem BL {a b:Item}(h:Ya a b=true):(∀k,a.dst=some k→k∉b.sl)∧(∀k,a.dst=some k→b.dst≠some k)∧(∀k,b.dst=some k→k∉a.sl):=by
 unfold Ya at h;simp only[QGd]at h;refine⟨fun k e=>?_,fun k e=>?_,fun k e=>?_⟩
 ·have:=h.1;rw[e]at this;simp at this;exact this.1
 ·have:=h.1;rw[e]at this;simp at this;exact this.2
 ·have:=h.2;rw[e]at this;simpa using this

theorem BM {a b:Item}(h:Yb a b=true){st:St}{K:St→Prop}(k:XM P a st fun s=>XM P b s K):XM P b st fun s=>XM P a s K:=by
 unfold Yb at h;simp only[QGd,QGI]at h;obtain⟨⟨⟨ka,kb⟩,hap⟩,hor⟩:=h;obtain⟨h1,h2,h3⟩:=BL hap;rw[Z5 ka]at k;obtain⟨x,m,ga,k⟩:=k;rw[Z5 kb]at k;obtain⟨y,m2,gb,k⟩:=k;rw[Z5 kb];have hs1:∀f:Fr,Zk b.sl f (Qh f a.dst x):=fun f=>Hx h1
 have hs3:∀f:Fr,Zk a.sl f (Qh f b.dst y):=fun f=>Hx h3
 have hsym:∀ {l f f'},Zk l f f'→Zk l f' f:=fun h t ht=>(h t ht).symm
 have hK:K { st with m:=m2,f:=Qh (Qh st.f b.dst y) a.dst x }:=by
  rw[←NR h2];exact k
 rcases hor with(⟨pa,lb⟩|⟨pb,la⟩)|hf
 ·have e:m=st.m:=(WN (m':=st.m) (ds':=st.ds) pa (Xm.refl _ _) ga).1;subst e;have gb':Zb P b st y m2:=Kf (hsym (hs1 st.f)) gb;refine⟨y,m2,gb',?_⟩;rw[Z5 ka];have ga':Zb P a { st with m:=m2 } x m2:=(WN pa (Uh lb gb') ga).2;exact⟨x,m2,Kf (hs3 st.f) ga',hK⟩
 ·have hag:=Uh la ga;obtain⟨e,gb1⟩:=WN (m':=st.m) (ds':=st.ds) pb hag.symm gb;have e:m2=m:=e;subst e;have gb':Zb P b st y st.m:=Kf (hsym (hs1 st.f)) gb1;refine⟨y,st.m,gb',?_⟩;rw[Z5 ka];exact⟨x,m2,Kf (hs3 st.f) ga,hK⟩
 ·obtain⟨m1,gb',ga'⟩:=Fa hf ga gb;refine⟨y,m1,gb',?_⟩;rw[Z5 ka];exact⟨x,m2,ga' _,hK⟩

theorem NS {ops:Array Oper}{o:Oper}{i:Nat}(hi:ops[i]? = some o){it:Item}(hc:WK P N ops o it=true){st:St}{K:St→Prop}(h:XM P it st K){G:Gh}{B:Nat}{a:Act}{w:World}(hr:Rel G B N st a w){KK:Act→World→Prop}{QQ:Exit→Act→World→Prop}
  (hk:∀G' st' a' w',K st'→Rel G' B N st' a' w'→Ext 1 G w G' w'→KK a' w'):wpOp P ops QQ i KK a w:=by
 have h1:Qt P N [it] st K:=Gr (Wi (fun _ hs=>Qt.nil hs) h);have h2:=h1 ops [o] (by simp[XP,hc]) G B a w hr (fun e a w=>match e with
  |.normal=>KK a w
  |e=>QQ e a w) (fun G' st' a' w' h1 h2 h3=>hk G' st' a' w' h1 h2 h3)
 unfold wpOp;simp only[hi];unfold wpList at h2;split
 ·rename_i hw;rw[QFY hw]at h2;rcases h2 with h2|h2
  ·left
   unfold Oper.wp at h2 ⊢;generalize (execOp a.eval o).run P w=r at h2 ⊢;cases r with
   |ok n w'=>
    cases n<;>simp only[Oper.upon]at h2 ⊢<;>first
     |exact h2
     |exact Calls.mono h2 (fun e w'' he=>by cases e<;>exact he)
   |halt x w'=>cases x<;>simp only[Oper.upon]at h2 ⊢<;>exact h2
  ·exact .inr h2
 ·rename_i hw;rw[QFX hw]at h2;exact h2

def dflt:Item:=⟨none,.val (.mov (.c .top)),none⟩
def Wj (its:List Item)(l:List Nat):List Item:=l.map fun i=>its.getD i dflt

theorem NT {its:List Item}{i:Nat}{post:List Nat}{Q:St→Prop}:∀ {pre:List Nat} {st:St},(∀p,p∈pre→Yb (its.getD p dflt) (its.getD i dflt)=true)→
  Qj P (Wj its (pre++i :: post)) st Q→XM P (its.getD i dflt) st fun s=>Qj P (Wj its (pre++post)) s Q
 | [],_,_,h=>h
 |p :: pre,st,hp,h=>by
  have h':XM P (its.getD p dflt) st fun s=>Qj P (Wj its (pre++i :: post)) s Q:=h
  have h2:=Wi (fun s hs=>NT (fun q hq=>hp q (QF6 _ hq)) hs) h';exact BM (hp p (QF8 ..)) h2

inductive Bef (ops:Array Oper):Nat→Nat→Prop
 |one {i:Nat} {o:Oper} {e:Edge} (ho:ops[i]? = some o) (he:e∈o.after) (hb:Region.binds .any e=true):Bef ops e.on i
 |more {i p:Nat} {o:Oper} {e:Edge} (ho:ops[i]? = some o) (he:e∈o.after) (hb:Region.binds .any e=true) (h:Bef ops p e.on):Bef ops p i

def BN (acc:List Nat)(m:Nat)(e:Edge):Nat:=if Region.binds .any e then(m ||| 2 ^ e.on) ||| acc.getD e.on 0 else m
def NU (acc:List Nat)(o:Oper):Nat:=o.after.toList.foldl (BN acc) 0
def BO:List Oper→List Nat→List Nat
 | [],acc=>acc
 |o :: os,acc=>BO os (acc++[NU acc o])

theorem Ui {acc:List Nat}{p:Nat}:∀(l:List Edge) (m:Nat),(l.foldl (BN acc) m).testBit p=true→m.testBit p=true∨∃e∈l,Region.binds .any e=true∧(p=e.on∨(acc.getD e.on 0).testBit p=true)
 | [],m,h=>.inl h
 |e :: l,m,h=>by
  rw[List.foldl_cons]at h;rcases Ui l _ h with h1|⟨e',h1,h2,h3⟩
  ·unfold BN at h1;split at h1
   ·rename_i hb;rw[Nat.testBit_or,Nat.testBit_or,QGI,QGI]at h1;rcases h1 with(h1|h1)|h1
    ·exact .inl h1
    ·rw[Nat.testBit_two_pow]at h1;exact .inr ⟨e,QF8 ..,hb,.inl (of_decide_eq_true h1).symm⟩
    ·exact .inr ⟨e,QF8 ..,hb,.inr h1⟩
   ·exact .inl h1
  ·exact .inr ⟨e',QF6 _ h1,h2,h3⟩

theorem GB {ops:Array Oper}:∀(l:List Oper) (acc:List Nat),ops.toList=ops.toList.take acc.length++l→acc.length+l.length=ops.size→(∀i p,(acc.getD i 0).testBit p=true→Bef ops p i)→∀i p,((BO l acc).getD i 0).testBit p=true→Bef ops p i
 | [],acc,_,_,h=>h
 |o :: l,acc,e,hn,h=>by
  have hlen:acc.length<ops.toList.length:=by simp at hn ⊢;omega
  have hat:ops[acc.length]? = some o:=by
   rw[←QGk,e,QG9 (by simp;omega)];simp;have:acc.length-min acc.length ops.size=0:=by simp at hlen;omega
   rw[this];rfl
  refine GB l (acc++[NU acc o]) ?_ (by simp at hn ⊢;omega) fun i p hb=>?_
  ·rw[QGs,QHe,List.take_succ_eq_append_getElem hlen,QGa];have:ops.toList[acc.length]=o:=by
    have:=QFT hlen;rw[QGk,hat]at this;cases this;rfl
   rw[this];exact e
  ·rw[List.getD_eq_getElem?_getD]at hb;by_cases hi:i<acc.length
   ·rw[QG8 hi,←List.getD_eq_getElem?_getD]at hb;exact h i p hb
   ·by_cases hi2:i=acc.length
    ·subst hi2;rw[QG9 (QFQ _)]at hb;simp only[Nat.sub_self,QGL,QGU]at hb;rcases Ui _ _ hb with h1|⟨e',h1,h2,h3⟩
     ·simp at h1
     ·rcases h3 with rfl|h3
      ·exact .one hat (by simpa using h1) h2
      ·exact .more hat (by simpa using h1) h2 (h _ _ h3)
    ·rw[QG6 (by simp;omega)]at hb;simp at hb

def UX (ops:Array Oper)(its:List Item):Bool :=
 (List.range ops.size).all fun i=>match ops[i]? with
  |some o=>o.after.all (fun e=>!Region.binds .any e||decide (e.on<i))&&(List.range i).all fun p=>((BO ops.toList []).getD i 0).testBit p||Yb (its.getD p dflt) (its.getD i dflt)
  |none=>true

theorem Bef.listed {ops:Array Oper}{L:Nat→Prop}(hcl:∀q,L q→∀o e,ops[q]? = some o→e∈o.after→Region.binds .any e=true→L e.on){p i:Nat}(h:Bef ops p i)(hi:∀o e,ops[i]? = some o→e∈o.after→Region.binds .any e=true→L e.on):L p:=by
 induction h with
 |one ho he hb=>exact hi _ _ ho he hb
 |more ho he hb _ ih=>exact ih (hcl _ (hi _ _ ho he hb))

def unl (n:Nat)(listed:Array Bool):List Nat:=(List.range n).filter fun i=>!listed.getD i true

theorem YG {ops:Array Oper}:∀ {l:List Oper} {its:List Item},XP P N ops l its=true→l.length=its.length∧∀(i:Nat) (o:Oper),l[i]? = some o→WK P N ops o (its.getD i dflt)=true
 | [],its,h=>by
  cases its with
  |nil=>exact⟨rfl,by simp⟩
  |cons it its=>simp[XP]at h
 |o :: l,its,h=>by
  cases its with
  |nil=>simp[XP]at h
  |cons it its=>
   simp only[XP,QGd]at h;obtain⟨e,h2⟩:=YG h.2;refine⟨by simp[e],fun i o' ho=>?_⟩;cases i with
   |zero=>simp at ho;subst ho;exact h.1
   |succ i=>simpa using h2 i o' (by simpa using ho)

theorem Pk {ops:Array Oper}{its:List Item}(hc:XP P N ops ops.toList its=true)(hd:UX ops its=true){B:Nat}{Q:St→Prop}{QQ:Exit→Act→World→Prop} :
  ∀(fuel:Nat) (listed:Array Bool),listed.size=ops.size→(∀q,listed.getD q false=true→∀o e,ops[q]? = some o→e∈o.after→Region.binds .any e=true→listed.getD e.on false=true)→(unl ops.size listed).length≤fuel→∀(st:St) (G:Gh) (a:Act) (w:World),Qj P (Wj its (unl ops.size listed)) st Q→Rel G B N st a w→
   (∀G' st' a' w',Q st'→Rel G' B N st' a' w'→Ext 1 G w G' w'→QQ .normal a' w')→wpAny P .any ops QQ fuel listed a w:=by
 obtain⟨hlen,hcs⟩:=YG hc;have hready:∀(listed:Array Bool) i,i∈Region.ready .any ops listed→i∈unl ops.size listed:=by
  intro listed i hi;obtain⟨h0,o,ho,_⟩:=mem_ready.1 hi;exact List.mem_filter.2 ⟨QHf.2 (QFW.1 ho).1,by simp[h0]⟩
 have hat:∀i,i<ops.size→∃o,ops[i]? = some o∧(∀e∈o.after,Region.binds .any e=true→e.on<i)∧∀p,p<i→Bef ops p i∨Yb (its.getD p dflt) (its.getD i dflt)=true:=by
  intro i hi;refine⟨ops[i],QF7 hi,?_⟩;have h1:=QF3.1 hd i (QHf.2 hi);rw[QF7 hi]at h1;simp only[QGd]at h1;refine⟨fun e he hb=>?_,fun p hp=>?_⟩
  ·have h2:=Array.all_eq_true_iff_forall_mem.1 h1.1 e he
   simpa [hb]using h2
  ·have h2:=QF3.1 h1.2 p (QHf.2 hp);rw[QGI]at h2;rcases h2 with h2|h2
   ·exact .inl (GB ops.toList [] (by simp) (by simp) (fun i p hb=>by simp at hb) i p h2)
   ·exact .inr h2
 -- the first that is left is ready
 have hfirst:∀(listed:Array Bool),listed.size=ops.size→Region.ready .any ops listed=[]→unl ops.size listed=[]:=by
  intro listed hsz hr;cases hu:unl ops.size listed with
  |nil=>rfl
  |cons i rest=>
   exfalso;have hpw:(unl ops.size listed).Pairwise (· < ·):=List.Pairwise.filter _ List.pairwise_lt_range;have hi:i∈unl ops.size listed:=by rw[hu];exact QF8 ..
   obtain⟨hi1,hi2⟩:=List.mem_filter.1 hi;obtain⟨o,ho,h1,_⟩:=hat i (QHf.1 hi1);have:i∈Region.ready .any ops listed:=by
    refine mem_ready.2 ⟨by simpa using hi2,o,ho,fun e he hb=>?_⟩;have hlt:=h1 e he hb;cases hg:listed.getD e.on false with
    |true=>rfl
    |false=>
     have hin:e.on∈unl ops.size listed:=by
      refine List.mem_filter.2 ⟨QHf.2 (Nat.lt_trans hlt (QHf.1 hi1)),?_⟩;have hlt':e.on<listed.size:=by rw[hsz];exact Nat.lt_trans hlt (QHf.1 hi1)
      simp[QF7 hlt']at hg ⊢;exact hg
     rw[hu]at hin hpw;rcases QG2.1 hin with e'|e'
     ·omega
     ·have:=(List.pairwise_cons.1 hpw).1 _ e';omega
   rw[hr]at this;cases this
 intro fuel
 induction fuel with
 |zero=>
  intro listed hsz hcl hl st G a w h hr hq;have hu:unl ops.size listed=[]:=QGO (by omega);refine⟨?_,?_⟩
  ·cases hx:Region.ready .any ops listed with
   |nil=>rfl
   |cons i r=>
    have:=hready listed i (by rw[hx];exact QF8 ..);rw[hu]at this;cases this
  ·rw[hu]at h;exact hq G st a w h hr (Ext.refl 1 G w)
 |succ fuel ih=>
  intro listed hsz hcl hl st G a w h hr hq;refine⟨fun hx=>?_,fun i hi=>?_⟩
  ·rw[hfirst listed hsz hx]at h;exact hq G st a w h hr (Ext.refl 1 G w)
  ·have hiu:=hready listed i hi;obtain⟨pre,post,hsplit⟩:=List.append_of_mem hiu;have hpw:(unl ops.size listed).Pairwise (· < ·):=List.Pairwise.filter _ List.pairwise_lt_range;rw[hsplit]at h hpw;obtain⟨_,hp2,hp3⟩:=List.pairwise_append.1 hpw;obtain⟨hi1,hi2⟩:=List.mem_filter.1 hiu;obtain⟨o,ho,h1,h2⟩:=hat i (QHf.1 hi1);obtain⟨_,o',ho',h3⟩:=mem_ready.1 hi;rw[ho]at ho';cases ho';have hind:∀p,p∈pre→Yb (its.getD p dflt) (its.getD i dflt)=true:=by
    intro p hp;rcases h2 p (hp3 p hp i (QF8 ..))with hbef|h
    ·exfalso;have hl1:=hbef.listed (L:=fun q=>listed.getD q false=true) hcl (fun o2 e ho2 he hb=>by rw[ho]at ho2;cases ho2;exact h3 e he hb);have hpu:p∈unl ops.size listed:=by rw[hsplit];exact List.mem_append_left _ hp
     obtain⟨hr1,hr2⟩:=List.mem_filter.1 hpu;have hlt':p<listed.size:=by rw[hsz];exact QHf.1 hr1
     simp[QF7 hlt']at hl1 hr2;rw[hl1]at hr2;cases hr2
    ·exact h
   have hb:=NT (P:=P) hind h;have hnext:unl ops.size (listed.setIfInBounds i true)=pre++post:=by
    have e1:unl ops.size (listed.setIfInBounds i true)=(unl ops.size listed).filter fun j=>j != i:=by
     unfold unl;rw[List.filter_filter];refine List.filter_congr fun j hj=>?_
     by_cases hji:j=i
     ·subst hji;have hlt':j<listed.size:=by rw[hsz];exact QHf.1 hj
      simp[hlt']
     ·rw[getD_set_ne true (fun e=>hji e.symm)];simp[hji]
    rw[e1,hsplit,List.filter_append,List.filter_cons];have e2:pre.filter (fun j=>j != i)=pre:=List.filter_eq_self.2 fun j hj=>by
     have:=hp3 j hj i (QF8 ..);simp;omega
    have e3:post.filter (fun j=>j != i)=post:=List.filter_eq_self.2 fun j hj=>by
     have:=(List.pairwise_cons.1 hp2).1 j hj;simp;omega
    rw[e2,e3];simp
   have hset:∀q,listed.getD q false=true→(listed.setIfInBounds i true).getD q false=true:=fun q hq'=>by
    by_cases hqi:q=i
    ·subst hqi;have hlt':q<listed.size:=by rw[hsz];exact QHf.1 hi1
     simp[hlt']
    ·rw[getD_set_ne false (fun e=>hqi e.symm)];exact hq'
   have hcl':∀q,(listed.setIfInBounds i true).getD q false=true→∀o e,ops[q]? = some o→e∈o.after→Region.binds .any e=true→(listed.setIfInBounds i true).getD e.on false=true:=fun q hq' o2 e ho2 he2 hb2=>by
    by_cases hqi:q=i
    ·subst hqi;rw[ho]at ho2;cases ho2;exact hset _ (h3 e he2 hb2)
    ·rw[getD_set_ne false (fun e=>hqi e.symm)]at hq';exact hset _ (hcl q hq' o2 e ho2 he2 hb2)
   refine NS ho (hcs i o (by simpa using ho)) hb hr fun G' st' a' w' hk hr' he=>?_
   refine ih (listed.setIfInBounds i true) (by simpa using hsz) hcl' ?_ st' G' a' w' (by rw[hnext];exact hk) hr' fun G2 st2 a2 w2 hq2 hr2 he2=>hq G2 st2 a2 w2 hq2 hr2 (he.trans he2)
   rw[hnext];rw[hsplit]at hl;simp only[QGs,QF5]at hl ⊢;omega

theorem NV {its:List Item}:Wj its (List.range its.length)=its:=by
 apply List.ext_getElem
 ·simp[Wj]
 ·intro i h1 h2;simp[Wj,h2]

theorem AP {ops:Array Oper}{its:List Item}(hm:P.follows .mixedOrders=true)(hc:XP P N ops ops.toList its=true)(hd:UX ops its=true){st:St}{Q:St→Prop}(h:Qj P its st Q){G:Gh}{B:Nat}{a:Act}{w:World}(hr:Rel G B N st a w){QQ:Exit→Act→World→Prop}{id:Nat}
  (hq:∀G' st' a' w',Q st'→Rel G' B N st' a' w'→Ext 1 G w G' w'→QQ .normal a' w'):(Code.region id ops true).wp P QQ a w:=by
 refine wp_region_any hm ?_;have hlen:=(YG hc).1;simp only[QGl]at hlen;have hu:unl ops.size (Array.replicate ops.size false)=List.range its.length:=by
  unfold unl;rw[hlen];refine List.filter_eq_self.2 fun i hi=>?_
  simp[QHf.1 hi]
 refine Pk hc hd ops.size (Array.replicate ops.size false) (by simp) (fun q hq'=>by rw[QF0]at hq';simp[Array.getElem?_replicate]at hq';split at hq'<;>cases hq') (by rw[hu];simp[hlen]) st G a _ (by rw[hu,NV];exact h) hr.drew fun G' st' a' w' h1 h2 h3=>hq G' st' a' w' h1 h2 ((Ext.drew G w).trans h3)

end

def XV (P:Program)(N:Nat):RC→Code→Bool
 |.gho _ r,c=>XV P N r c
 |.no,_=>true
 |.skip,c=>match c with
  |.skip=>true
  |_=>false
 |.reg its,c=>match c with
  |.region _ ops false=>XP P N ops ops.toList its
  |_=>false
 |.draw its,c=>match c with
  |.region _ ops true=>P.follows .mixedOrders&&XP P N ops ops.toList its&&UX ops its
  |_=>false
 |.seq a b,c=>match c with
  |.seq x y=>XV P N a x&&XV P N b y
  |_=>false
 |.cond r a b,c=>match c with
  |.cond o x y=>QE o r&&XV P N a x&&XV P N b y
  |_=>false
 |.block i a,c=>match c with
  |.block j x=>i==j&&XV P N a x
  |_=>false
 |.loop a,c=>match c with
  |.loop x=>XV P N a x
  |_=>false
 |.exit i,c=>match c with
  |.exit j=>i==j
  |_=>false
 |.scope a,c=>match c with
  |.scope x=>XV P N a x
  |_=>false
 |.lab,c=>match c with
  |.label _=>true
  |_=>false
 |.ret,c=>match c with
  |.ret=>true
  |_=>false

section
variable {P:Program}{N B:Nat}

theorem NW:∀ {rc:RC} {c:Code} {st:St} {Q:Exit→St→Prop},QK P rc st Q→XV P N rc c=true→∀ {G:Gh} {a:Act} {w:World},Rel G B N st a w→∀ {QQ:Exit→Act→World→Prop},
  (∀e G' st' a' w',Q e st'→Rel G' B N st' a' w'→Ext 1 G w G' w'→QQ e a' w')→c.wp P QQ a w:=by
 intro rc
 induction rc with
 |skip=>
  intro c st Q h hc G a w hr QQ hq;cases c<;>simp only[XV,QF9]at hc;exact wp_skip (hq _ _ _ _ _ h hr (Ext.refl 1 G w))
 |reg its=>
  intro c st Q h hc G a w hr QQ hq;cases c<;>simp only[XV,QF9]at hc;rename_i id ops d;cases d<;>simp only[QF9]at hc;refine wp_region_list ?_;exact Fq (N:=N) h ops ops.toList hc G B a w hr QQ fun G' st' a' w' h1 h2 h3=>hq _ _ _ _ _ h1 h2 h3
 |draw its=>
  intro c st Q h hc G a w hr QQ hq;cases c<;>simp only[XV,QF9]at hc;rename_i id ops d;cases d<;>simp only[QF9,QGd]at hc;exact AP hc.1.1 hc.1.2 hc.2 h hr fun G' st' a' w' h1 h2 h3=>hq _ _ _ _ _ h1 h2 h3
 |seq x y ihx ihy=>
  intro c st Q h hc G a w hr QQ hq;cases c<;>simp only[XV,QF9,QGd]at hc;refine wp_seq (ihx h hc.1 hr fun e G' st' a' w' h1 h2 h3=>?_);cases e with
  |normal=>exact ihy h1 hc.2 h2 fun e G2 st2 a2 w2 k1 k2 k3=>hq _ _ _ _ _ k1 k2 (h3.trans k3)
  |_=>exact hq _ _ _ _ _ h1 h2 h3
 |cond r x y ihx ihy=>
  intro c st Q h hc G a w hr QQ hq;cases c<;>simp only[XV,QF9,QGd]at hc;rename_i o cx cy;obtain⟨t,ht,h1,h2⟩:=h;have hv:=Qq hr hc.1.1;rw[ht]at hv;have hv':a.eval o=.bool t:=by
   generalize a.eval o=v at hv;cases hv;rfl
  refine wp_cond_split hv' (fun e=>?_) (fun e=>?_)
  ·exact ihx (h1 e) hc.1.2 hr hq
  ·exact ihy (h2 e) hc.2 hr hq
 |block i x ih=>
  intro c st Q h hc G a w hr QQ hq;cases c<;>simp only[XV,QF9,QGd,QGe]at hc;obtain⟨rfl,hc⟩:=hc;refine wp_block (ih h hc hr fun e G' st' a' w' h1 h2 h3=>?_);cases e with
  |exit j=>
   simp only[Exit.inBlock];simp only[Kb]at h1;split
   ·rename_i hh;rw[QFY hh]at h1;exact hq _ _ _ _ _ h1 h2 h3
   ·rename_i hh;rw[QFX hh]at h1;exact hq _ _ _ _ _ h1 h2 h3
  |_=>exact hq _ _ _ _ _ h1 h2 h3
 |loop x ih=>
  intro c st Q h hc G a w hr QQ hq;cases c<;>simp only[XV,QF9]at hc;obtain⟨I,n,h0,hI⟩:=h;refine wp_loop_ghost (fun k a' w'=>∃G' st',I k st'∧Rel G' B N st' a' w'∧Ext 1 G w G' w') n ⟨G,st,h0,hr,Ext.refl 1 G w⟩ ?_;rintro k a' w' ⟨G',st',i1,i2,i3⟩;refine ih (hI k st' i1) hc i2 fun e G2 st2 a2 w2 h1 h2 h3=>?_
  cases e with
  |normal=>
   obtain⟨k',hk,hi⟩:=h1;exact⟨k',hk,G2,st2,hi,h2,i3.trans h3⟩
  |_=>exact hq _ _ _ _ _ h1 h2 (i3.trans h3)
 |exit i=>
  intro c st Q h hc G a w hr QQ hq;cases c<;>simp only[XV,QF9,QGe]at hc;subst hc;exact wp_exit (hq _ _ _ _ _ h hr (Ext.refl 1 G w))
 |scope x ih=>
  intro c st Q h hc G a w hr QQ hq;cases c<;>simp only[XV,QF9]at hc;refine wp_scope_straight (ih h hc hr fun e G' st' a' w' h1 h2 h3=>?_);cases e with
  |goto l=>exact h1.elim
  |_=>exact hq _ _ _ _ _ h1 h2 h3
 |lab=>
  intro c st Q h hc G a w hr QQ hq;cases c<;>simp only[XV,QF9]at hc;exact wp_label (hq _ _ _ _ _ h hr (Ext.refl 1 G w))
 |ret=>
  intro c st Q h hc G a w hr QQ hq;cases c<;>simp only[XV,QF9]at hc;exact wp_ret (hq _ _ _ _ _ h hr (Ext.refl 1 G w))
 |gho g x ih=>
  intro c st Q h hc G a w hr QQ hq;obtain⟨st',hg,h⟩:=h;obtain⟨G',h1,h2⟩:=Pg hr hg;exact ih h hc h1 fun e G2 st2 a2 w2 k1 k2 k3=>hq _ _ _ _ _ k1 k2 (h2.trans k3)
 |no=>
  intro c st Q h;exact h.elim

theorem MR.out {G:Gh}{fr:Nat→Ob}{m:Ql}{w:World}(h:MR G (fr :: m) w){S:Nat→Prop}(hS:∀b,S b→(∃s,G.vm 0 s=some b)∨∃s,G.nm 0 s=some b):MR ((G.pub w S).dn 1) m w:=by
 have hnS:∀l s b,G.nm (l+1) s=some b→¬S b:=fun l s b e hs=>by
  rcases hS b hs with⟨s',e'⟩|⟨s',e'⟩
  ·exact h.inj3 _ _ _ _ _ e e'
  ·have:=(h.inj1 _ _ _ _ _ e e').1;omega
 have hvS:∀l s b,G.vm (l+1) s=some b→¬S b:=fun l s b e hs=>by
  rcases hS b hs with⟨s',e'⟩|⟨s',e'⟩
  ·have:=(h.inj2 _ _ _ _ _ e e').1;omega
  ·exact h.inj3 _ _ _ _ _ e' e
 have hgle:Gle G (G.pub w S):=Gh.pub_gle h.stab;refine⟨fun b o v e=>?_,fun l s xs e=>?_,fun l s b e=>?_,fun l s g sz xs e=>?_,fun l s b e=>?_,fun l s e=>?_,fun l s l' s' b e e'=>?_,fun l s l' s' b e e'=>?_,fun l s l' s' b e e'=>?_,fun l s t p e=>h.iter (l+1) s t p e⟩
 ·have e:(G.pub w S).stab b o=some v:=e;by_cases hs:S b∧∀o,Zo b o=none
  ·rw[Gh.pub_c hs]at e;exact HX e
  ·rw[Gh.pub_n hs]at e;exact h.stab b o v e
 ·obtain⟨b,cs,e',hc,hr⟩:=h.cells (l+1) s xs e;refine⟨b,cs,e',hc,?_⟩;rw[Gh.dn_dn];exact hr.mono (hgle.dn (l+1))
 ·obtain⟨h1,h2⟩:=h.nm (l+1) s b e;refine⟨h1,fun o=>?_⟩;show(G.pub w S).stab b o=none;rw[Gh.pub_out (hnS _ _ _ e)];exact h2 o
 ·obtain⟨a1,a2,a3,a4⟩:=h.vec (l+1) s g sz xs e;exact⟨a1,a2,a3,a4.imp id fun⟨b,e',r⟩=>⟨b,e',r.of rfl fun vs hv=>RepL.rfd (G:=G) (G':=(G.pub w S).dn 1) hgle.stab a3.rf hv⟩⟩
 ·obtain⟨h1,h2⟩:=h.vm (l+1) s b e;refine⟨h1,fun o=>?_⟩;show(G.pub w S).stab b o=none;rw[Gh.pub_out (hvS _ _ _ e)];exact h2 o
 ·exact h.gone (l+1) s e
 ·obtain⟨h1,h2⟩:=h.inj1 _ _ _ _ _ e e';exact⟨by omega,h2⟩
 ·obtain⟨h1,h2⟩:=h.inj2 _ _ _ _ _ e e';exact⟨by omega,h2⟩
 ·exact h.inj3 _ _ _ _ _ e e'

def Zm (rs:List RR)(n:Nat)(R:AV→Ql→Prop):Exit→St→Prop:=fun e st=>
 (e=.normal∨e=.ret)∧st.ds=[]∧∃x y fr m,Ko st rs=some x∧KB st.m x=some y∧st.m=fr :: m∧m.length=n∧R y m

theorem Fc {G:Gh}{args:List AV}{vs:List Value}(h:RepL G args vs){N:Nat}(i:Nat):Rep G.up (BH (AV.shL args) i) (((vs.toArray++Array.replicate (N-vs.toArray.size) undef):Array Value).getD i undef):=by
 have h':RepL G.up (AV.shL args) vs:=RepL.sh (G:=G.up) (by rw[Gh.up_dn];exact h);have hl:=h'.length;unfold BH;by_cases hi:i<vs.length
 ·obtain⟨x,e,hx⟩:=h'.back (QFT hi);rw[e];simp only[QGU,QF0];rw[Array.getElem?_append_left (by simpa using hi)]
  simpa [hi]using hx
 ·rw[QG6 (by omega)];simp only[QHg,QF0];rw[Array.getElem?_append_right (by simpa using hi)];cases hx:(Array.replicate (N-vs.toArray.size) undef)[i-vs.toArray.size]? with
  |none=>exact .tup .nil
  |some v=>
   have:=QFW.1 hx;obtain⟨_,h2⟩:=this;simp at h2;subst h2;exact .tup .nil

theorem Hy {fn:Func}{args:List AV}{m:Ql}{G:Gh}{w:World}{vs:List Value}(hvs:RepL G args vs)(hm:MR G m w)(hN:fn.ntmps=N)(ha:args.length≤N) :
  Rel G.up w.heap.size N (St.enter args m) { tmps:=vs.toArray++Array.replicate (fn.ntmps-vs.toArray.size) undef,defers:=[] } w:=by
 have hlen:=hvs.length;refine⟨hm.up,?_,fun i=>Fc hvs i,.nil,fun s b e=>?_,QFQ _,by simp[St.enter]⟩
 ·simp;omega
 ·rcases e with e|e<;>cases e

theorem Fs {fn:Func}{rs:List RR}{G G':Gh}{m m':Ql}{w w':World}{st':St}{a':Act}{fr:Nat→Ob}{x y:AV}{R:AV→Ql→Prop}(hr:Z8 P fn.results.toList rs=true)(hr':Rel G' w.heap.size N st' a' w')(he:Ext 1 G.up w G' w')
  (hx:Ko st' rs=some x) (hy:KB st'.m x=some y) (hst:st'.m=fr :: m') (hml:m'.length=m.length) (hR:R y m') :
  ∃v,(results fn a'.tmps).run P w'=.ok v w'∧(∃G'' x v' m'',(Ending.returned v)=.returned v'∧R x m''∧Rep G'' x v'∧MR G'' m'' w'∧Ext 0 G w G'' w'∧m''.length=m.length):=by
 obtain⟨v,hrun,hv⟩:=AL (P:=P) hr' hr hx
 let S:Nat→Prop:=fun b=>(∃s,G'.vm 0 s=some b)∨∃s,G'.nm 0 s=some b
 have hmr:=hr'.mr;have hSt:∀l s b,(true&&l != 0)=false→G'.vm l s=some b→S b:=by
  intro l s b hl e;have:l=0:=by simpa using hl
  subst this;exact .inl ⟨s,e⟩
 unfold KB at hy;rw[Option.bind_eq_some_iff]at hy;obtain⟨z,hz,hy⟩:=hy;have hv2:=Rep.un (YD hmr (own:=true) (S:=S) hSt (fun _ s b _ _ _ e _=>.inr ⟨s,e⟩) hv z hz) y hy;rw[hst]at hmr;have hout:=hmr.out (S:=S) (fun b hs=>hs);have hmine:∀b,((G'.pub w' S).dn 1).mine b→G'.mine b:=by
  rintro b (⟨l,s,e⟩|⟨l,s,e⟩)
  ·exact .inl ⟨l+1,s,e⟩
  ·exact .inr ⟨l+1,s,e⟩
 have hext:Ext 0 G w ((G'.pub w' S).dn 1) w':=by
  refine⟨he.os,he.tape,he.output,he.size,fun b o v e=>?_,fun l s _=>he.nm (l+1) s (by omega),fun l s=>he.vg (l+1) s,fun l s e=>he.vs (l+1) s e,fun b hb hnm=>?_,fun b hb=>?_,fun l s b e=>?_⟩
  ·exact(Gh.pub_gle (S:=S) hr'.mr.stab).stab b o v (he.stab b o v e)
  ·obtain⟨h1,h2⟩:=he.old b hb (fun hx=>hnm (Gh.up_mine.1 hx));refine⟨h1,fun o=>?_⟩;have hnS:¬S b:=by
    rintro(⟨s,e⟩|⟨s,e⟩)
    ·have:=hr'.base s b (.inr e);omega
    ·have:=hr'.base s b (.inl e);omega
   show(G'.pub w' S).stab b o=G.stab b o;rw[Gh.pub_out hnS];exact h2 o
  ·rcases he.mine b (hmine b hb)with h1|h1
   ·exact .inl (Gh.up_mine.1 h1)
   ·exact .inr h1
  ·rcases he.mv (l+1) s b e with⟨i,t,hi,h1⟩|h1
   ·cases i with
    |zero=>cases h1
    |succ i=>exact .inl ⟨i,t,by omega,h1⟩
   ·exact .inr h1
 exact⟨v,hrun,_,y,v,m',rfl,hR,hv2,hout,hext,hml⟩

theorem Wz {k:FuncId} {fn:Func} {c:Code} {rc:RC} {rs:List RR} {args:List AV} {m:Ql} {R:AV→Ql→Prop} (hf:P.funcs[k]? = some fn) (hb:fn.body=some c) (hn:(fn.name == "runtime.NumGoroutine")=false) (hN:fn.ntmps=N) (hc:XV P N rc c=true) (hr:Z8 P fn.results.toList rs=true)
  (ha:args.length≤N) (h:QK P rc (St.enter args m) (Zm rs m.length R)):Qn P k args m R:=by
 refine⟨⟨fn,hf,hn,by rw[hb];rfl⟩,fun G w vs hvs hm=>?_⟩;refine calls_of_wp hf hb ?_;refine NW h hc (Hy hvs hm hN ha) fun e G' st' a' w' hq hr' he=>?_
 obtain⟨hex,hds,x,y,fr,m',hx,hy,hst,hml,hR⟩:=hq;have hdef:a'.defers=[]:=by
  have:=hr'.ds;rw[hds]at this;cases hd:a'.defers with
  |nil=>rfl
  |cons d l=>rw[hd]at this;cases this
 have hfin:=Fs (R:=R) hr hr' he hx hy hst hml hR;rcases hex with rfl|rfl
 ·exact⟨hdef,hfin⟩
 ·exact⟨hdef,hfin⟩

def KR (P:Program)(k:FuncId)(args:List AV)(m:Ql)(R:AV→Ql→Prop):Prop :=
 Wh P k∧∀(G:Gh) (w:World) (vs:List Value),RepL G args vs→MR G m w→∀u,CallsD P k ⟨vs⟩ u w fun e u' w'=>u'=u∧∃G' x v m',e=.returned v∧R x m'∧Rep G' x v∧MR G' m' w'∧Ext 0 G w G' w'∧m'.length=m.length

theorem UY {k:FuncId} {fn:Func} {c:Code} {rc:RC} {rs:List RR} {args:List AV} {m:Ql} {R:AV→Ql→Prop} (hf:P.funcs[k]? = some fn) (hb:fn.body=some c) (hn:(fn.name == "runtime.NumGoroutine")=false) (hN:fn.ntmps=N) (hc:XV P N rc c=true) (hr:Z8 P fn.results.toList rs=true)
  (ha:args.length≤N) (h:QK P rc (St.enter args m) (Zm rs m.length R)):KR P k args m R:=by
 refine⟨⟨fn,hf,hn,by rw[hb];rfl⟩,fun G w vs hvs hm u=>?_⟩;refine callsD_of_wp (R:=fun e w'=>∃G' x v m',e=.returned v∧R x m'∧Rep G' x v∧MR G' m' w'∧Ext 0 G w G' w'∧m'.length=m.length) hf hb ?_;refine NW h hc (Hy hvs hm hN ha) fun e G' st' a' w' hq hr' he=>?_
 obtain⟨hex,hds,x,y,fr,m',hx,hy,hst,hml,hR⟩:=hq;have hdef:a'.defers=[]:=by
  have:=hr'.ds;rw[hds]at this;cases hd:a'.defers with
  |nil=>rfl
  |cons d l=>rw[hd]at this;cases this
 have hfin:=Fs (R:=R) hr hr' he hx hy hst hml hR;rcases hex with rfl|rfl
 ·exact⟨hdef,hfin⟩
 ·exact⟨hdef,hfin⟩

end

def CK (P:Program)(k N:Nat)(rc:RC)(rs:List RR):Prop :=
 ∃fn c, P.funcs[k]? = some fn∧fn.body=some c∧(fn.name == "runtime.NumGoroutine")=false∧fn.ntmps=N∧XV P N rc c=true∧Z8 P fn.results.toList rs=true
theorem CK.go {P:Program}{k N:Nat}{rc:RC}{rs:List RR}{args:List AV}{m:Ql}{R:AV→Ql→Prop}(h:CK P k N rc rs)(ha:args.length≤N)(w:QK P rc (St.enter args m) (Zm rs m.length R)):Qn P k args m R:=by
 obtain⟨fn,c,h1,h2,h3,h4,h5,h6⟩:=h;exact Wz h1 h2 h3 h4 h5 h6 ha w
theorem ck {P:Program} {k N:Nat} {fn:Func} {rc:RC} {rs:List RR} (hf:P.funcs[k]? = some fn) (hN:fn.ntmps=N) (h:(fn.body.isSome && !(fn.name == "runtime.NumGoroutine")&&XV P N rc (fn.body.getD .skip)&&Z8 P fn.results.toList rs)=true):CK P k N rc rs := by
 simp only[QGd,QGG,QGi]at h;obtain⟨⟨⟨⟨c,hc⟩,h1⟩,h2⟩,h3⟩:=h;rw[hc]at h2;exact⟨fn,c,hf,hc,h1,hN,h2,h3⟩
theorem CK.dd {P:Program}{k N:Nat}{rc:RC}{rs:List RR}{args:List AV}{m:Ql}{R:AV→Ql→Prop}(h:CK P k N rc rs)(ha:args.length≤N)(w:QK P rc (St.enter args m) (Zm rs m.length R)):KR P k args m R:=by
 obtain⟨fn,c,h1,h2,h3,h4,h5,h6⟩:=h;exact UY h1 h2 h3 h4 h5 h6 ha w
theorem CK.rl {P:Program}{k N:Nat}{rc:RC}{rs:List RR}{args:List AV}{R:AV→Prop}(h:CK P k N rc rs)(ha:args.length≤N)(w:QK P rc (St.enter args []) (Zm rs 0 fun x _=>R x)):Ll P k args R:=h.go ha w
theorem CK.fn {P:Program}{k N:Nat}{rc:RC}{rs:List RR}{args:List AV}{v:AV}(h:CK P k N rc rs)(ha:args.length≤N)(w:QK P rc (St.enter args []) (Zm rs 0 fun x _=>x=v)):Qs P k args v:=h.go ha w

section
variable {P:Program}{f:Fr}{m:Ql}{ds:List DF}{K:St→Prop}{Q:Exit→St→Prop}{its:List Item}{d:Nat}

def Kc (P:Program)(b:RC)(Q:Exit→St→Prop):Exit→St→Prop:=Ks (fun st'=>QK P b st' Q) Q
def Kl (I:Nat→St→Prop)(n:Nat)(Q:Exit→St→Prop):Exit→St→Prop:=Ks (fun s=>∃k,k<n∧I k s) Q

theorem Ln {st:St}:QK P .skip st Q=Q .normal st:=id rfl
theorem Qzp {st:St}:QK P .no st Q=False:=id rfl
theorem Qo2 {st:St}:QK P .lab st Q=Q .normal st:=id rfl
theorem Qo3 {st:St}:QK P .ret st Q=Q .ret st:=id rfl
theorem Lo {st:St}{i:Nat}:QK P (.exit i) st Q=Q (.exit i) st:=id rfl
theorem Qo4 {st:St}:QK P (.reg its) st Q=Qj P its st (Q .normal):=id rfl
theorem Lp {st:St}:QK P (.draw its) st Q=Qj P its st (Q .normal):=id rfl
theorem Qo5 {st:St}{a b:RC}:QK P (.seq a b) st Q=QK P a st (Kc P b Q):=id rfl
theorem AQ {st:St}{i:Nat}{a:RC}:QK P (.block i a) st Q=QK P a st (Kb i Q):=id rfl
theorem AT {st:St}{a:RC}:QK P (.scope a) st Q=QK P a st (Kg Q):=id rfl
def UZ:AV→Bool
 |.bool b=>b
 |_=>false
def NX:AV→Prop
 |.bool _=>True
 |_=>False
theorem Lq (b:Bool):UZ (.bool b)=b:=id rfl
theorem Qo6 (b:Bool):NX (.bool b)=True:=id rfl
def YH (P:Program)(v:AV)(a b:RC)(st:St)(Q:Exit→St→Prop):Prop:=NX v∧(UZ v=true→QK P a st Q)∧(UZ v=false→QK P b st Q)
theorem Pl {a b:RC}{st:St}:YH P (.bool true) a b st Q=QK P a st Q:=by simp[YH,NX,UZ]
theorem Pm {a b:RC}{st:St}:YH P (.bool false) a b st Q=QK P b st Q:=by simp[YH,NX,UZ]
theorem XR {t:Bool}{a b:RC}{st:St}(h1:t=true→QK P a st Q)(h2:t=false→QK P b st Q):YH P (.bool t) a b st Q:=⟨trivial,h1,h2⟩
theorem Lr {c:RA}{a b:RC}:QK P (.cond c a b) ⟨f,m,ds⟩ Q=YH P (c.ev f) a b ⟨f,m,ds⟩ Q:=by
 simp only[QK,YH];generalize c.ev f=v;cases v<;>simp[UZ,NX]

theorem Lt {b:RC}{st:St}:Kc P b Q .normal st=QK P b st Q:=id rfl
theorem Lu {b:RC}{st:St}{i:Nat}:Kc P b Q (.exit i) st=Q (.exit i) st:=id rfl
theorem Lv {b:RC}{st:St}:Kc P b Q .ret st=Q .ret st:=id rfl
theorem Lw {st:St}{i:Nat}:Kb i Q .normal st=Q .normal st:=id rfl
theorem Lx {st:St}{i j:Nat}:Kb i Q (.exit j) st=if j=i then Q .normal st else Q (.exit j) st:=id rfl
theorem Ly {st:St}{i:Nat}:Kb i Q .ret st=Q .ret st:=id rfl
theorem Lz {st:St}:Kg Q .normal st=Q .normal st:=id rfl
theorem LA {st:St}{j:Nat}:Kg Q (.exit j) st=Q (.exit j) st:=id rfl
theorem LB {st:St}:Kg Q .ret st=Q .ret st:=id rfl
theorem LC {I:Nat→St→Prop}{n:Nat}{st:St}:Kl I n Q .normal st = ∃k,k<n∧I k st:=id rfl
theorem LD {I:Nat→St→Prop}{n:Nat}{st:St}{j:Nat}:Kl I n Q (.exit j) st=Q (.exit j) st:=id rfl
theorem LF {I:Nat→St→Prop}{n:Nat}{st:St}:Kl I n Q .ret st=Q .ret st:=id rfl

theorem Qd {a:RC}{st:St}(I:Nat→St→Prop)(n:Nat)(h0:I n st)(h:∀n st',I n st'→QK P a st' (Kl I n Q)):QK P (.loop a) st Q:=⟨I,n,h0,h⟩

theorem Qo7 {st:St}:Qj P [] st K=K st:=id rfl
def YI (x:Option AV):AV:=x.getD .top
def GC (x:Option AV):Prop:=x.isSome=true
theorem GD (x:AV):YI (some x)=x:=id rfl
theorem Qo8 (x:AV):GC (some x)=True:=by simp[GC]
theorem Qo9 {vo:VO}:Qj P (⟨some d,.val vo,none⟩ :: its) ⟨f,m,ds⟩ K=(GC (QA f m vo)∧Qj P its ⟨Qp f d (YI (QA f m vo)),m,ds⟩ K):=by
 simp only[Qj,XM,Wy,Qh];generalize QA f m vo=v;cases v<;>simp[YI,GC]

def mget (x:Option Ql):Ql:=x.getD []
def Ft (x:Option Ql):Prop:=x.isSome=true
theorem LG (x:Ql):mget (some x)=x:=id rfl
theorem Qpa (x:Ql):Ft (some x)=True:=by simp[Ft]
theorem AU {n:Nat}{p r:RA}:Qj P (⟨none,.store n p r,none⟩ :: its) ⟨f,m,ds⟩ K=((r.ev f).cells.length=n∧(r.ev f).cells.all AV.leaf=true∧Ft (Q4 m (p.ev f) (r.ev f).cells)∧Qj P its ⟨f,mget (Q4 m (p.ev f) (r.ev f).cells),ds⟩ K):=by
 simp only[Qj,XM,Wy,Qh];generalize Q4 m (p.ev f) (r.ev f).cells=v;cases v<;>simp[mget,Ft]
def Pn (l s:Nat)(v:AV):Prop:=∃o,v=.ptr l s o
theorem LH (l s o:Nat):Pn l s (.ptr l s o)=True:=eq_true ⟨o,rfl⟩
theorem Po {l s n:Nat}{p r:RA}:Qj P (⟨none,.storev l s n p r,none⟩ :: its) ⟨f,m,ds⟩ K=(Pn l s (p.ev f)∧(r.ev f).cells.length=n∧(r.ev f).cells.all AV.leaf=true∧Ft (Q4 m (p.ev f) (r.ev f).cells)∧Qj P its ⟨f,mget (Q4 m (p.ev f) (r.ev f).cells),ds⟩ K):=by
 simp only[Qj,XM,Wy,Qh,Pn];generalize Q4 m (p.ev f) (r.ev f).cells=v;cases v<;>simp[mget,Ft]
theorem Pp {s:Nat}{z:List AV}:Qj P (⟨some d,.allocN s z,none⟩ :: its) ⟨f,m,ds⟩ K=(XA m s=true∧Qj P its ⟨Qp f d (.ptr 0 s 0),Am.put m 0 s (.cells z),ds⟩ K):=id rfl
theorem LI {s:Nat}{r:RA}:Qj P (⟨some d,.boxN s r,none⟩ :: its) ⟨f,m,ds⟩ K=(XA m s=true∧(r.ev f).cells.all AV.leaf=true∧Qj P its ⟨Qp f d (.ptr 0 s 0),Am.put m 0 s (.cells (r.ev f).cells),ds⟩ K):=id rfl

theorem BP {sz len:Nat}{z:List AV}{ps:List (Nat×Nat×RA)}{y:List AV}(hy:fill f ps (Xk z sz len)=some y)(h1:AV.rfL y=true)(h2:y.all AV.leaf=true):Qj P (⟨some d,.bsl sz len z ps,none⟩ :: its) ⟨f,m,ds⟩ K=Qj P its ⟨Qp f d (.list (XH sz len (y.map nn0))),m,ds⟩ K:=by
 apply propext
 constructor
 ·rintro⟨y',h,_,_,k⟩;have h:fill f ps (Xk z sz len)=some y':=h;rw[hy]at h;cases h;exact k
 ·intro k;exact⟨y,hy,h1,h2,k⟩
theorem LJ {z:AV}{r:RA}{k:IntKind}{n:Int}(hr:r.ev f=.int k n):Qj P (⟨some d,.bsl 1 1 [z] [(0,1,r)],none⟩ :: its) ⟨f,m,ds⟩ K=Qj P its ⟨Qp f d (.list [.int k n]),m,ds⟩ K:=by
 refine BP (y:=[.int k n]) ?_ rfl rfl;simp[fill,hr,AV.cells,AV.leaf,Xk,List.range_succ,splice]

theorem NY {z:AV}{r:RA}{k:IntKind}{n:Int}(hr:r.ev f=.int k n)(h:Qj P its ⟨Qp f d (.list [.int k n]),m,ds⟩ K):Qj P (⟨some d,.bsl 1 1 [z] [(0,1,r)],none⟩ :: its) ⟨f,m,ds⟩ K:=by
 rw[LJ hr];exact h

theorem XN {sz:Nat}{z l:List AV}{r:RA}(hr:r.ev f=.agg l)(hl:l.length=sz)(h1:sz≠1)(hf:AV.rfL l=true)(hlf:l.all AV.leaf=true)(h:Qj P its ⟨Qp f d (.list [.agg (l.map nn0)]),m,ds⟩ K) :
  Qj P (⟨some d,.bsl sz 1 z [(0,sz,r)],none⟩ :: its) ⟨f,m,ds⟩ K:=by
 have hz:(Xk z sz 1).length=sz:=by simp[Xk]
 have hy:fill f [(0,sz,r)] (Xk z sz 1)=some l:=by
  simp only[fill,hr,AV.cells,hl,hlf,QGf,hz,QFQ,QGN,if_true,splice,QGS,QGc];rw[QGr (by omega),QGM]
 rw[BP hy hf hlf];have hc:XH sz 1 (l.map nn0)=[.agg (l.map nn0)]:=by
  simp only[XH,QFX h1];rw[QGo (by rw[QG7];omega)]
 rw[hc];exact h

theorem KR.mono {k:FuncId}{args:List AV}{m:Ql}{R R':AV→Ql→Prop}(h:KR P k args m R)(hr:∀x m',R x m'→R' x m'):KR P k args m R' :=
 ⟨h.1,fun G w vs h1 h2 u c cs hu=>by
  obtain⟨e,u',w',fr,⟨h3,G',x,v,m',h4,h5,h6⟩,h7⟩:=h.2 G w vs h1 h2 u c cs hu;exact⟨e,u',w',fr,⟨h3,G',x,v,m',h4,hr _ _ h5,h6⟩,h7⟩⟩

theorem KS {slot site sz:Nat}{a:RC}{fr:Nat→Ob}(h1:f slot=.nils)(h2:fr site=.none)(h:QK P a ⟨Qp f slot (.vec 0 site 1 0 0 false),Qp fr site (.vec 1 sz []) :: m,ds⟩ Q):QK P (.gho (.vec slot site sz) a) ⟨f,fr :: m,ds⟩ Q:=by
 refine⟨_,?_,h⟩;have e:Qe (fr :: m) 0 site=.none:=h2;simp[Z4,h1,e,Qx,Qy,Am.put]

theorem Q8 {sz bytes el:Nat}{s r:RA}{site g n:Nat}{fr:Nat→Ob}{xs ys:List AV}(hs:s.ev f=.vec 0 site g 0 n false)(hl:fr site=.vec g sz xs)(ht:Xu site el=true)(hn:n=xs.length)(hr:r.ev f=.list ys)(hz:ys.all (fun e=>e.cells.length==sz)=true)(hm:n+ys.length≤maxLen)(hb:(n+ys.length)*bytes≤140737488355328)
  (h:Qj P its ⟨Qp f d (.vec 0 site (g+1) 0 (n+ys.length) false),Qp fr site (.vec (g+1) sz (xs++ys)) :: m,ds⟩ K):Qj P (⟨some d,.app sz bytes el s r,none⟩ :: its) ⟨f,fr :: m,ds⟩ K:=by
 refine⟨0,site,g,n,xs,ys,hs,hl,ht,by omega,?_,hz,hm,hb,?_⟩
 ·show Xf (fr :: m) (r.ev f)=some ys;rw[hr];rfl
 ·subst hn;rw[QHh];exact h

theorem Xh {k:Nat}{args:List RA}{ys:List AV}{v:AV}(hk:Qs P k ys v)(hy:AV.stillL false m (args.map (RA.ev f))=some ys)(h1:AV.rfL ys=true)(h2:v.rf=true)(h3:AV.rfL (args.map (RA.ev f))=true∨v.nl=true)(h:Qj P its ⟨Qp f d v,m,ds⟩ K) :
  Qj P (⟨some d,.call (.f k) args,none⟩ :: its) ⟨f,m,ds⟩ K:=by
 refine⟨k,[],[],ys,v,rfl,?_,h1,hk,h2,?_,h⟩
 ·simpa using hy
 ·simpa using h3

theorem aC {k:Nat}{args:List RA}{ys:List AV}{v:AV}(hk:Qs P k ys v)(h:Qj P its ⟨Qp f d v,m,ds⟩ K)(hy:AV.stillL false m (args.map (RA.ev f))=some ys:=by rfl)(h1:AV.rfL ys=true:=by rfl)(h2:v.rf=true:=by rfl)(h3:AV.rfL (args.map (RA.ev f))=true∨v.nl=true:=by exact .inl rfl) :
  Qj P (⟨some d,.call (.f k) args,none⟩ :: its) ⟨f,m,ds⟩ K:=Xh hk hy h1 h2 h3 h

theorem Fu {cnt:Bool}{k:Nat}{s c:RA}{t:List UInt8}{b:Int}(hs:s.ev f=.str t)(hb:c.ev f=.int .u8 b)(h:Qj P its ⟨Qp f d (.int .i64 (Uc cnt t b)),m,ds⟩ K):Qj P (⟨some d,.xb cnt k s c,none⟩ :: its) ⟨f,m,ds⟩ K :=
 ⟨t,b,hs,hb,h⟩

theorem Hz {s:Nat}{r:RA}{fr:Nat→Ob}{t:List UInt8}(ht:r.ev f=.str t)(hn:fr s=.none)(h:Qj P its ⟨Qp f d (.ptr 0 s 0),Qp fr s (.iter (.str t) 0) :: m,ds⟩ K) :
  Qj P (⟨some d,.rngs s r,none⟩ :: its) ⟨f,fr :: m,ds⟩ K:=by
 refine⟨t,ht,?_,h⟩;show(match fr s with|.none=>true|_=>false)=true;rw[hn]

theorem HA {s p:Nat}{r:RA}{fr:Nat→Ob}{t:List UInt8}(hr:r.ev f=.ptr 0 s 0)(hl:fr s=.iter (.str t) p)
  (h1:p<t.length→Qj P its ⟨Qp f d (.tup [.bool true,.int .i64 (p:Nat),.int .i32 ((Xl t p).1:Nat)]),Qp fr s (.iter (.str t) (p+(Xl t p).2)) :: m,ds⟩ K)
  (h2:t.length≤p→Qj P its ⟨Qp f d (.tup [.bool false]),fr :: m,ds⟩ K) :
  Qj P (⟨some d,.nxts r,none⟩ :: its) ⟨f,fr :: m,ds⟩ K :=
 ⟨0,s,t,p,hr,hl,h1,h2⟩

theorem Qb {k:Nat}{args:List RA}{ys:List AV}{v:AV}{m':Ql}(hk:Qn P k ys m fun x m1=>x=v∧m1=m')(hy:args.map (RA.ev f)=ys)(h:Qj P its ⟨Qp f d v,m',ds⟩ K) :
  Qj P (⟨some d,.callF (.f k) args,none⟩ :: its) ⟨f,m,ds⟩ K:=by
 refine⟨k,[],[],v,m',rfl,?_,h⟩;show Qn P k (args.map (RA.ev f)++[]) m fun x m1=>x=v∧m1=m'
 rw[QGM,hy];exact hk

theorem Fv {site el sz bytes:Nat}{z:List AV}{l c:RA}{kl kc:IntKind}{n k:Nat}{fr:Nat→Ob}(hl:l.ev f=.int kl (n:Int))(hc:c.ev f=.int kc (k:Int))(hnk:n≤k)(hk:k≤9223372036854775807)(hb:bytes*k≤281474976710656)(hs:fr site=.none)
  (h:Qj P its ⟨Qp f d (.vec 0 site 1 0 n false),Qp fr site (.vec 1 sz (List.replicate n (JE sz z))) :: m,ds⟩ K):Qj P (⟨some d,.mk site el sz bytes z l c,none⟩ :: its) ⟨f,fr :: m,ds⟩ K:=by
 have e:Qe (fr :: m) 0 site=.none:=hs;refine⟨kl,kc,n,k,hl,hc,hnk,hk,hb,?_,?_⟩
 ·show Qx (Qe (fr :: m) 0 site)=true;rw[e];rfl
 ·have hg:Qy (fr :: m) 0 site=1:=by unfold Qy;rw[e]
  simp only[hg];exact h

theorem NZ {s:Nat}{a:RC}{fr:Nat→Ob}:QK P (.gho (.drop s) a) ⟨f,fr :: m,ds⟩ Q=((fr s).isRow=false∧QK P a ⟨fun i=>(f i).scrub s,Qp (fun i=>(fr i).scrub s) s .none :: m,ds.map (DF.scrub s)⟩ Q):=by
 apply propext
 have hn:Wb (fr :: m) s=!(fr s).isRow:=by
  unfold Wb;show(match fr s with|.vec .. => false|_=>true)=_;cases fr s<;>rfl
 constructor
 ·rintro⟨st',h1,h2⟩;simp only[Z4,hn]at h1;cases hr:(fr s).isRow with
  |true=>rw[hr]at h1;cases h1
  |false=>rw[hr]at h1;cases h1;exact⟨rfl,h2⟩
 ·rintro⟨h1,h2⟩;refine⟨_,?_,h2⟩;simp only[Z4,hn,h1];rfl
theorem N0 (s:Nat):AV.top.scrub s=.top:=id rfl
theorem N1 (s:Nat)(k:IntKind)(n:Int):(AV.int k n).scrub s=.int k n:=id rfl
theorem BQ (s:Nat)(b:Bool):(AV.bool b).scrub s=.bool b:=id rfl
theorem N2 (s:Nat)(b:List UInt8):(AV.str b).scrub s=.str b:=id rfl
theorem BR (s:Nat):AV.nils.scrub s=.nils:=id rfl
theorem BS (s:Nat):AV.nilp.scrub s=.nilp:=id rfl
theorem BT (s:Nat):AV.nili.scrub s=.nili:=id rfl
theorem BU (s:Nat):AV.nilf.scrub s=.nilf:=id rfl
theorem BW (s:Nat)(l:List AV):(AV.list l).scrub s=.list l:=id rfl
theorem N3 (s l t g o n:Nat)(q:Bool):(AV.vec l t g o n q).scrub s=.vec l t g o n q:=id rfl
theorem N4 (s:Nat)(l:List AV):(AV.agg l).scrub s=.agg (AV.scrubL s l):=id rfl
theorem N5 (s:Nat)(l:List AV):(AV.tup l).scrub s=.tup (AV.scrubL s l):=id rfl
theorem N6 (s t o:Nat):(AV.ptr 0 t o).scrub s=bif Nat.beq t s then .top else .ptr 0 t o:=id rfl
theorem BX (s l t o:Nat):(AV.ptr (l+1) t o).scrub s=.ptr (l+1) t o:=id rfl
theorem N7 (s:Nat):AV.scrubL s []=[]:=id rfl
theorem BY (s:Nat)(x:AV)(l:List AV):AV.scrubL s (x :: l)=x.scrub s :: AV.scrubL s l:=id rfl
theorem Fe (s:Nat)(l:List AV):(Ob.cells l).scrub s=.cells (AV.scrubL s l):=id rfl
theorem N8 (s g z:Nat)(l:List AV):(Ob.vec g z l).scrub s=.vec g z l:=id rfl
theorem BZ (s:Nat):Ob.none.scrub s=.none:=id rfl
theorem Yo (s:Nat)(o:Ob):(o.scrub s).isRow=o.isRow:=by cases o<;>rfl
theorem Ff (l:List AV):(Ob.cells l).isRow=false:=id rfl
theorem B0:Ob.none.isRow=false:=id rfl

def Zq (P:Program)(v:AV)(w:Bool)(d:Option Nat)(ro:RO)(its:List Item)(st:St)(K:St→Prop):Prop :=
 match v with
 |.bool b=>(b=w→Qj P (⟨d,ro,none⟩ :: its) st K)∧(b=(!w)→Qj P its { st with f:=Qh st.f d (.tup []) } K)
 |.tup l=>l=[]∧Qj P its { st with f:=Qh st.f d (.tup []) } K
 |_=>False
theorem Zr {b:Bool}{d:Option Nat}{ro:RO}{st:St}(h1:b=true→Qj P (⟨d,ro,none⟩ :: its) st K)(h2:b=false→Qj P its { st with f:=Qh st.f d (.tup []) } K):Zq P (.bool b) true d ro its st K:=⟨h1,h2⟩
theorem Zs {b:Bool}{d:Option Nat}{ro:RO}{st:St}(h1:b=false→Qj P (⟨d,ro,none⟩ :: its) st K)(h2:b=true→Qj P its { st with f:=Qh st.f d (.tup []) } K):Zq P (.bool b) false d ro its st K:=⟨h1,h2⟩
theorem Pq {d:Option Nat}{ro:RO}{st:St}:Zq P (.bool true) true d ro its st K=Qj P (⟨d,ro,none⟩ :: its) st K:=by simp[Zq]
theorem Ps {d:Option Nat}{ro:RO}{st:St}:Zq P (.bool false) false d ro its st K=Qj P (⟨d,ro,none⟩ :: its) st K:=by simp[Zq]
theorem N9 {ro:RO}:Zq P (.bool true) false (some d) ro its ⟨f,m,ds⟩ K=Qj P its ⟨Qp f d (.tup []),m,ds⟩ K:=by simp[Zq,Qh]
theorem Vb {ro:RO}:Zq P (.bool false) true (some d) ro its ⟨f,m,ds⟩ K=Qj P its ⟨Qp f d (.tup []),m,ds⟩ K:=by simp[Zq,Qh]
theorem Pt {ro:RO}{w:Bool}:Zq P (.tup []) w (some d) ro its ⟨f,m,ds⟩ K=Qj P its ⟨Qp f d (.tup []),m,ds⟩ K:=by simp[Zq,Qh]
theorem B1 {ro:RO}{st:St}:Zq P (.bool true) false none ro its st K=Qj P its st K:=by simp[Zq,Qh]
theorem B2 {ro:RO}{st:St}:Zq P (.bool false) true none ro its st K=Qj P its st K:=by simp[Zq,Qh]
theorem Vc {ro:RO}{w:Bool}{st:St}:Zq P (.tup []) w none ro its st K=Qj P its st K:=by simp[Zq,Qh]
theorem e_g {ro:RO}{j:Nat}{w:Bool}{d:Option Nat}:Qj P (⟨d,ro,some (j,w)⟩ :: its) ⟨f,m,ds⟩ K=Zq P (f j) w d ro its ⟨f,m,ds⟩ K:=by
 simp only[Qj,XM,Zq]
 all_goals(generalize f j=v;cases v<;>rfl)

theorem Pu {rs:List RR}{n:Nat}{R:AV→Ql→Prop}{fr:Nat→Ob}:Zm rs n R .ret ⟨f,fr :: m,ds⟩=(ds=[]∧GC (Ko ⟨f,fr :: m,ds⟩ rs)∧GC (KB (fr :: m) (YI (Ko ⟨f,fr :: m,ds⟩ rs)))∧m.length=n∧R (YI (KB (fr :: m) (YI (Ko ⟨f,fr :: m,ds⟩ rs)))) m):=by
 apply propext
 constructor
 ·rintro⟨_,h1,x,y,fr',m',h2,h3,h4,h5,h6⟩;cases h4;have h1:ds=[]:=h1;rw[h2,GD,h3];exact⟨h1,rfl,rfl,h5,h6⟩
 ·rintro⟨h1,h2,h3,h4,h5⟩;generalize hv:Ko ⟨f,fr :: m,ds⟩ rs=v at h2 h3 h5;cases v with
  |none=>cases h2
  |some x=>
   rw[GD]at h3 h5;cases hl:KB (fr :: m) x with
   |none=>rw[hl]at h3;cases h3
   |some y=>
    rw[hl]at h5;exact⟨.inr rfl,h1,x,y,fr,m,hv,hl,rfl,h4,h5⟩
theorem Pv {rs:List RR}{n:Nat}{R:AV→Ql→Prop}{st:St}:Zm rs n R .normal st=Zm rs n R .ret st:=by
 simp[Zm]

theorem Qpb {α:Type}(f:Nat→α)(d:Nat)(x:α)(i:Nat):Qp f d x i=bif Nat.beq i d then x else f i:=id rfl
theorem LK (a b:Nat):Nat.beq a b=(a==b):=by
 cases h:Nat.beq a b with
 |true=>rw[QFO h];simp
 |false=>have:=Nat.ne_of_beq_eq_false h;simp[this]
theorem Xn {s idx site sz:Nat}{a:RC}{fr:Nat→Ob}{xs:List AV}(h1:fr s=.cells xs)(h2:xs[idx]? = some .nils)(h3:fr site=.none)(hne:Nat.beq site s=false)(h:QK P a ⟨f,Qp (Qp fr site (.vec 1 sz [])) s (.cells (xs.set idx (.vec 0 site 1 0 0 false))) :: m,ds⟩ Q):QK P (.gho (.vecc s idx site sz) a) ⟨f,fr :: m,ds⟩ Q:=by
 refine⟨_,?_,h⟩;have e1:Qe (fr :: m) 0 s=.cells xs:=h1;have e:Qe (fr :: m) 0 site=.none:=h3;simp[Z4,e1,h2,e,Qx,Qy,Am.put,hne]
theorem Z6 {α:Type}(f:Nat→α)(d:Nat)(x y:α):Qp (Qp f d x) d y=Qp f d y:=by
 funext i;by_cases h:i=d
 ·subst h;rw[QI,QI]
 ·rw[QN _ _ h,QN _ _ h,QN _ _ h]
theorem ZT {α:Type}(f:Nat→α)(d e:Nat)(x y:α)(hde:d≠e):Qp (Qp f d x) e y=Qp (Qp f e y) d x:=by
 funext i;by_cases h:i=d
 ·subst h;rw[QI,QN _ _ hde,QI]
 ·by_cases h2:i=e
  ·subst h2;rw[QI,QN _ _ h,QI]
  ·rw[QN _ _ h2,QN _ _ h,QN _ _ h,QN _ _ h2]
theorem KT {α:Type}(f:Nat→α)(d:Nat)(x:α)(h:f d=x):Qp f d x=f:=by
 funext i;by_cases hi:i=d
 ·subst hi;rw[QI,h]
 ·rw[QN _ _ hi]
theorem e_t (n:Nat):(RA.t n).ev f=f n:=id rfl
theorem e_c (x:AV):(RA.c x).ev f=x:=id rfl
theorem e_f (k:Nat):(RA.f k).ev f=.fn (.func k) [] []:=id rfl

end

end Go.Proofs.YtnpajgoobomndaaGreatDoor.Am

namespace Go.Proofs.YtnpajgoobomndaaGreatDoor.Br
open Go Am Go.RowKit Go.WideShapes Go.ChangeShapes Go.ChangeAt

theorem GE {P:Program}{k:FuncId}{args:List AV}{v:Bool}(h:Qs P k args (.bool v)){stab:Nat→Nat→Option SV}(ht:∀b o v,Zo b o=some v→stab b o=some v){w:World}(hs:∀b o u,stab b o=some u→rd w b o u){vs:List Value}(hr:RepL (Gh.bare stab ht) args vs) :
  Calls P k ⟨vs⟩ w fun e w'=>e=.returned (.bool v)∧Below w.heap.size w w' :=
 (h.2 (Gh.bare stab ht) w vs hr (MR.bare hs)).mono fun e w' ⟨G',x,u,m',he,hx,hu,_,hex,_⟩=>by
  subst hx;cases hu;exact⟨he,hex.os,hex.tape,hex.output,hex.size,fun b hb=>(hex.old b hb Gh.bare_mine).1⟩

theorem AW {G:Gh}(s:ByteArray):Rep G (.str s.data.toList) (.string s):=by
 obtain⟨⟨l⟩⟩:=s;exact .str l

theorem Vd {n:Int}(h:(Lit.int .u64 n).wf=true):0≤n:=by
 simp[Lit.wf,IntKind.min,IntKind.max,IntKind.bits,IntKind.signed]at h;omega
theorem LL {n:Int}(h:(Lit.int .u64 n).wf=true):n<18446744073709551616:=by
 simp[Lit.wf,IntKind.min,IntKind.max,IntKind.bits,IntKind.signed]at h;omega

section
variable {H:Type}{enc:TypeId×Value→H}{P:Program}
theorem HW {f:Func}{s:ChangeSpec}{Ya fresh handsOn again:Bool}{W W':World}{args:Array Value}{v:Value}{ds gs:List (DataW H)}{before pa pv:List MemPlace}
  (hW:DataW.Whole enc P f.params.toList s.vars Ya W args.toList ds gs before)
  (hres:∀(b:Nat) (sp:Nat→Bool) (hd:Bool),DataW.TrodAll enc P W' b sp hd f.resultTypes.toList (v.resultList f.resultTypes.size) (s.fn H (ds++gs)).results [])
  (hargs:∀sp:Nat→Bool,(∀p∈before,sp p.block=true)→DataW.TrodAll enc P W' 0 sp true f.params.toList args.toList (s.fn H (ds++gs)).args pa)
  (hvars:∀sp:Nat→Bool,(∀p∈before,sp p.block=true)→DataW.TrodVars enc P W' sp s.vars (s.fn H (ds++gs)).vars pv)
  (hps:before=pa++pv) (hb:Below W.heap.size W W')
  (hok:∀(j:Nat) (t:TypeId) (r:Value),f.resultTypes[j]? = some t→(v.resultList f.resultTypes.size)[j]? = some r→Value.okWide P W' .any 0 t r) :
  s.post enc P f Ya fresh handsOn again W args v W':=by
 have hlt:∀p∈before,p.block<W.heap.size:=fun p hp=>hW.lt p hp
 have hold:∀p∈before,(fun b=>decide (b<W.heap.size)) p.block=true:=fun p hp=>by simpa using hlt p hp
 refine⟨ds,gs,before,[],pa,pv,hW,hres _ _ _,hargs _ hold,hvars _ hold,World.keptBut_mono (fun p hp=>⟨hp,?_⟩) (hb.frame (·∈before)),fun _=>?_⟩
 ·rw[hps,QG0]at hp;exact Or.inr hp
 ·obtain⟨_,_,_,_,_,hz,hn⟩:=hW;refine⟨hok,_,_,([]++pa)++pv,⟨[]++pa,pv,trodAll_append (hargs _ (fun _ _=>rfl)) (hres _ _ _),hvars _ (fun _ _=>rfl),rfl,?_,?_⟩,?_⟩
  ·intro b off hp;have hin:MemPlace.cell b off∈before:=by rw[hps];simpa using hp
   rw[hb.frozen (hlt _ hin)];exact hz b off hin
  ·intro ha;have:=hn ha;rw[hps]at this
   simpa using this
  ·intro p hp _;rw[hps]
   simpa using hp
end

section
variable {H:Type}{enc:TypeId×Value→H}{P:Program}{w:World}{base:Nat}{sp:Nat→Bool}{held:Bool}

def B3 (g:DataW H→Option (List Value)):List (DataW H)→Option (List Value)
 | []=>some []
 |d :: ds=>match g d,B3 g ds with
  |some a,some b=>some (a++b)
  |_,_=>none
def Wk (P:Program)(g:TypeId→DataW H→Option (List Value)):Nat→Nat→List Field→List (DataW H)→Option (List Value)
 |o,n,[],[]=>bif o==n then some []else none
 |o,n,f :: fs,d :: ds=>bif f.offset==o then match g f.type d,Wk P g (o+P.cellsOf f.type) n fs ds with
  |some a,some b=>some (a++b)
  |_,_=>none else none
 |_,_,_,_=>none
def WO (P:Program):Nat→TypeId→DataW H→Option (List Value)
 |0,_,_=>none
 |k+1,t,d=>match P.underlying t with
  |some (.int ik)=>match d with
   |.lit (.int ik' n)=>bif ik'==ik then some [.int ik n]else none
   |_=>none
  |some (.array n e)=>match d with
   |.agg ds=>bif P.cellsOf t==n*P.cellsOf e then B3 (WO P k e) ds else none
   |_=>none
  |some (.struct fs)=>match d with
   |.agg ds=>Wk P (WO P k) 0 (P.cellsOf t) fs.toList ds
   |_=>none
  |_=>none

theorem Fw {g:DataW H→Option (List Value)}{c:Nat}:∀ {ds:List (DataW H)} {cs ls:List Value},cs.length=ds.length*c→(∀i d l,ds[i]? = some d→g d=some l→(cs.drop (i*c)).take c=l)→B3 g ds=some ls→cs=ls
 | [],cs,ls,hl,_,h=>by
  cases h;exact QGO (by simpa using hl)
 |d :: ds,cs,ls,hl,hx,h=>by
  rw[B3]at h;split at h
  ·rename_i a b ea eb;cases h;rw[QF5,Nat.succ_mul]at hl;have h0:=hx 0 d a rfl ea;rw[Nat.zero_mul,QGw]at h0;have h1:cs.drop c=b:=Fw (c:=c) (by rw[QGv];omega) (fun i d' l hd hg=>by
    have:=hx (i+1) d' l (by simpa using hd) hg;rw[List.drop_drop]
    rwa [Nat.succ_mul,Nat.add_comm]at this) eb
   rw[←h0,←h1,QGY]
  ·cases h
theorem GF {g:TypeId→DataW H→Option (List Value)}{cs:List Value}:∀ {fs:List Field} {ds:List (DataW H)} {o:Nat} {ls:List Value},(∀(i:Nat) (f:Field) (d:DataW H) l,fs[i]? = some f→ds[i]? = some d→g f.type d=some l→(cs.drop f.offset).take (P.cellsOf f.type)=l)→Wk P g o cs.length fs ds=some ls→cs.drop o=ls
 | [],[],o,ls,_,h=>by
  rw[Wk]at h;cases ho:o==cs.length with
  |false=>rw[ho]at h;cases h
  |true=>
   rw[ho]at h;cases h;rw[QGe]at ho;rw[ho,List.drop_length]
 |f :: fs,d :: ds,o,ls,hx,h=>by
  rw[Wk]at h;cases ho:f.offset==o with
  |false=>rw[ho]at h;cases h
  |true=>
   rw[ho,cond_true]at h;rw[QGe]at ho;split at h
   ·rename_i a b ea eb;cases h;have h0:=hx 0 f d a rfl rfl ea;have h1:=GF (fun i f' d' l h1 h2 h3=>hx (i+1) f' d' l (by simpa using h1) (by simpa using h2) h3) eb;rw[ho]at h0;rw[←h0,←h1,←List.drop_drop,QGY]
   ·cases h
 | [],_ :: _,_,_,_,h=>by rw[Wk]at h;cases h;all_goals simp
 |_ :: _,[],_,_,_,h=>by rw[Wk]at h;cases h;all_goals simp

theorem WP:∀(k m:Nat) (t:TypeId) (cs:List Value) (d:DataW H) (p:List MemPlace) (ls:List Value),DataW.trod enc P w base sp held m t cs=some (d,p)→WO P k t d=some ls→cs=ls
 |0,_,_,_,_,_,_,_,h=>by cases h
 |k+1,m,t,cs,d,p,ls,ht,h=>by
  rw[WO]at h;split at h
  ·rename_i ik hu;obtain⟨n,rfl,e,_⟩:=DataW.trod_int hu ht;cases e;simp only[BEq.rfl,cond_true,QGh]at h;exact h
  ·rename_i n e hu;obtain⟨xs,m',rfl,ex,hlen,hxl,hx⟩:=DataW.trod_array hu ht;cases ex;dsimp only at h;cases hc:P.cellsOf t==n*P.cellsOf e with
   |false=>rw[hc]at h;cases h
   |true=>
    rw[hc,cond_true]at h;rw[QGe]at hc;refine Fw (c:=P.cellsOf e) (by rw[QG7,hxl,hlen,hc]) (fun i d l hd hg=>?_) h;rw[QG5,QFV]at hd;obtain⟨x,h1,rfl⟩:=hd;have h2:=hx i (by rw[←hxl];exact(QFS.1 h1).1);rw[h1]at h2;exact WP k m' e _ x.1 x.2 l h2 hg
  ·rename_i fs hu;obtain⟨xs,m',rfl,ex,hlen,hxl,hx⟩:=DataW.trod_struct hu ht;cases ex;dsimp only at h;rw[←hlen]at h;have:=GF (P:=P) (cs:=cs) (fun i f d l hf hd hg=>by
    rw[QG5,QFV]at hd;obtain⟨x,h1,rfl⟩:=hd;have h2:=hx i f (by simpa using hf);rw[h1]at h2;exact WP k m' f.type _ x.1 x.2 l h2 hg) h
   rwa [QGw]at this
  ·cases h

def LM:Value→Value→Bool
 |.int k n,.int k' n'=>k==k'&&n==n'
 |_,_=>false
theorem LN:∀ {a b:Value},LM a b=true→a=b:=by
 intro a b h;unfold LM at h;split at h
 ·rw[QGd,QGe,QGe]at h;rw[h.1,h.2]
 ·cases h
def B4:List Value→List Value→Bool
 | [],[]=>true
 |a :: l,b :: r=>LM a b&&B4 l r
 |_,_=>false
theorem Fx:∀ {a b:List Value},B4 a b=true→a=b
 | [],[],_=>rfl
 |a :: l,b :: r,h=>by
  rw[B4,QGd]at h;rw[LN h.1,Fx h.2]
 | [],_ :: _,h=>by cases h
 |_ :: _,[],h=>by cases h

theorem Fy {n:String}{d:DataW Unit}:∀ {l:List (String×DataW Unit)} {ps:List MemPlace},DataW.LaidVars P w l ps→(n,d)∈l→
  ∃g t cs fuel p,P.globalNamed n=some g∧(P.globals[g]?).map (·.type)=some t∧w.var? P n=some cs∧DataW.trod (fun _=>()) P w 0 (fun _=>true) false fuel t cs.toList=some (d,p)
 | [],_,_,hm=>by cases hm
 |x :: r,ps,h,hm=>by
  obtain⟨g,t,cs,fuel,p,q,k1,k2,k3,k4,k5,_⟩:=h;rcases QG2.1 hm with e|e
  ·subst e;exact⟨g,t,cs,fuel,p,k1,k2,k3,k4⟩
  ·exact Fy k5 e

def Qpc (P:Program)(laid:List (String×DataW Unit)):Bool :=
 Gg.all fun x=>laid.any fun y=>P.globalNamed y.1==some x.1&&(match (P.globals[x.1]?).map (·.type)with
  |some t=>(match WO P 6 t y.2 with
   |some l=>B4 l x.2
   |none=>false)
  |none=>false)

theorem Uj {b:Nat}{l:List Value}:∀ {T:List (Nat×List Value)},T.lookup b=some l→(b,l)∈T
 | [],h=>by cases h
 |(c,m) :: T,h=>by
  rw[List.lookup]at h;split at h
  ·rename_i e;cases h;rw[QGe]at e;subst e;exact QF8 ..
  ·exact QF6 _ (Uj h)

theorem AX {laid:List (String×DataW Unit)}(h:laidMet P laid w)(ht:Qpc P laid=true):YA w:=by
 intro b o v e;obtain⟨ps,hv,_⟩:=h;unfold Zo at e;cases hl:Gg.lookup b with
 |none=>rw[hl]at e;cases e
 |some l=>
  rw[hl]at e;have h1:=QF3.1 ht _ (Uj hl);obtain⟨⟨n,d⟩,hy,h2⟩:=QHi.1 h1;rw[QGd]at h2;obtain⟨h2,h3⟩:=h2;have h2:P.globalNamed n=some b:=by simpa using h2
  obtain⟨g,t,cs,fuel,p,k1,k2,k3,k4⟩:=Fy hv hy;rw[h2]at k1;cases k1;dsimp only at h3;rw[k2]at h3;dsimp only at h3;split at h3
  ·rename_i l' hc;have h4:=WP 6 fuel t cs.toList d p l' k4 hc;rw[Fx h3]at h4;unfold World.var? at k3;rw[h2]at k3;simp only[QGT]at k3;split at k3
   ·rename_i cs' t' fz hh;cases k3;dsimp only at e;split at e
    ·rename_i ho;cases e;exact⟨cs,t',fz,hh,by rw[ho,←h4];simp,rfl⟩
    ·obtain⟨u,hu,rfl⟩:=QFV.1 e;show w.cell? ⟨b,o,none⟩=some u;rw[cell_of_row w b o cs t' fz hh,←QGk,h4];exact hu
   ·cases k3
  ·cases h3
end

open Go.Joins Go.Deep Go.WideElems Go.Maps

section
variable {H:Type}{enc:TypeId×Value→H}{P:Program}{W:World}{base:Nat}{sp:Nat→Bool}{held:Bool}

end

theorem Yp {X α:Type}{f:X→List α}{sz:Nat}(hsz:0<sz)(hf:∀x,(f x).length=sz):∀(xs:List X) (j:Nat),(xs.flatMap f)[j]? = (xs[j / sz]?).bind fun x=>(f x)[j % sz]?
 | [],j=>by simp
 |x :: xs,j=>by
  rw[List.flatMap_cons];by_cases hj:j<sz
  ·rw[QG8 (by rw[hf];exact hj),Nat.div_eq_of_lt hj,Nat.mod_eq_of_lt hj];rfl
  ·obtain⟨i,rfl⟩:∃i,j=sz+i:=⟨j-sz,by omega⟩;rw[QG9 (by rw[hf];omega),hf,Yp hsz hf xs,show sz+i-sz=i by omega,show(sz+i) / sz=i / sz+1 by rw[Nat.add_div_left _ hsz],Nat.add_mod_left];rfl

section
variable {H:Type}{enc:TypeId×Value→H}{P:Program}{W:World}

structure El (enc:TypeId×Value→H)(P:Program)(e:TypeId)(sz:Nat)(X:Type) where
 av:X→AV
 vals:X→List Value
 LQ:X→DataW H
 ok:X→Prop
 pos:0<sz
 len:∀x,(vals x).length=sz
 cells:∀x,(av x).cells.length=sz
 rfl':∀x,AV.rfL (av x).cells=true
 leaf:∀x,(av x).cells.all AV.leaf=true
 rep:∀(G:Gh) x,RepL G (av x).cells (vals x)
 opened:∀ {W:World} {n:Nat} {cs:List Value} {d:DataW H} {pl:List MemPlace},cs.length=sz→DataW.trod enc P W 0 (fun _=>true) true n e cs=some (d,pl)→∃x,ok x∧cs=vals x∧d=LQ x∧pl=[]
 shut:∀(W:World) (sp:Nat→Bool) x,ok x→∃n,DataW.trod enc P W 0 sp true n e (vals x)=some (LQ x,[])

end

def Q7:List AV→AV
 | [x]=>x
 |l=>.agg l

def Uk (P:Program):Nat→List Field→Nat→Bool
 |o,[],n=>Nat.beq o n
 |o,f :: fs,n=>Nat.beq f.offset o&&Uk P (o+P.cellsOf f.type) fs n

def Ve (P:Program)(ts:List TypeId)(t:TypeId):Bool :=
 match P.underlying t with
 |some (.int _)|some .bool|some .string=>P.cellsOf t==1
 |some (.struct fs)=>Uk P 0 fs.toList (P.cellsOf t)&&fs.toList.all fun f=>ts.contains f.type
 |some (.slice e)=>P.cellsOf t==1&&(decide (0<P.cellsOf e)&&decide (0<P.bytesOf e))&&ts.contains e
 |_=>false
def Vf (P:Program)(ts:List TypeId):Bool:=ts.all (Ve P ts)

def Q3 (P:Program)(M:Nat):Nat→TypeId→List AV→Prop
 |0,_,_=>False
 |k+1,t,cs=>match P.underlying t with
  |some (.int ik)=>∃n,cs=[.int ik n]∧(Lit.int ik n).wf=true
  |some .bool=>∃b,cs=[.bool b]
  |some .string=>∃s,cs=[.str s]∧s.length≤M
  |some (.struct fs)=>HasL (Q3 P M k) fs.toList cs
  |some (.slice e)=>∃l:List (List AV),cs=[.list (l.map Q7)]∧(l.length≤maxLen∧(M=reachBytes→l.length*P.bytesOf e≤M))∧(∀c∈l,Q3 P M k e c)∧l.length≤M
  |_=>False
where
 HasL (h:TypeId→List AV→Prop):List Field→List AV→Prop
  | [],cs=>cs=[]
  |f :: fs,cs=>∃a b,cs=a++b∧h f.type a∧HasL h fs b

theorem Yq {l:List AV}(h:l.all AV.leaf=true):(Q7 l).cells=l:=by
 match l,h with
 | [],_=>rfl
 | [x],h=>cases x<;>first|rfl|simp[AV.leaf]at h
 |_ :: _ :: _,_=>rfl

mutual
def wt:AV→Nat
 |.list l=>1+Jd l
 |.agg l=>Jd l
 |_=>1
def Jd:List AV→Nat
 | []=>0
 |x :: l=>wt x+Jd l
end
theorem Fz (a b:List AV):Jd (a++b)=Jd a+Jd b:=by
 induction a with
 |nil=>simp[Jd]
 |cons x a ih=>simp only[QGb,Jd,ih];omega
theorem Pw:∀l:List AV,wt (Q7 l)=Jd l
 | []=>by simp[Q7,wt]
 | [x]=>by simp[Q7,Jd]
 |_ :: _ :: _=>by simp[Q7,wt]

theorem WQ {G:Gh}:∀ {ls:List (List AV)} {cs:List (List Value)},ls.length=cs.length→(∀i (h1:i<ls.length) (h2:i<cs.length),RepL G ls[i] cs[i])→RepL G ls.flatten cs.flatten
 | [],[],_,_=>.nil
 |l :: ls,c :: cs,hn,h=>by
  rw[List.flatten_cons,List.flatten_cons];exact RepL.append (h 0 (by simp) (by simp)) (WQ (by simpa using hn) fun i h1 h2=>h (i+1) (by simpa using h1) (by simpa using h2))
 | [],_ :: _,hn,_=>by simp at hn
 |_ :: _,[],hn,_=>by simp at hn

section
variable {H:Type}{enc:TypeId×Value→H}{P:Program}{W:World}{M:Nat}

theorem YJ {d:DataW H}:∀ {l:List (DataW H)},d∈l→Rows.uptoBulk d≤Rows.uptoBulkAll l
 | [],h=>by cases h
 |x :: l,h=>by
  rw[Rows.uptoBulkAll];rcases QG2.1 h with rfl|h
  ·omega
  ·have:=YJ h;omega

theorem Px (d:DataW H):1≤Rows.uptoBulk d:=by unfold Rows.uptoBulk;split<;>omega
theorem Ul {x:AV}(h:wt x=1)(d:DataW H):Jd [x]≤Rows.uptoBulk d:=by
 have:=Px d;rw[Jd,Jd,h];exact this
theorem Py (a b:List (DataW H)):Rows.uptoBulkAll (a++b)=Rows.uptoBulkAll a+Rows.uptoBulkAll b:=by
 induction a with
 |nil=>simp[Rows.uptoBulkAll]
 |cons x a ih=>simp only[QGb,Rows.uptoBulkAll,ih];omega
theorem GG (F:Nat→List AV)(xs:List (DataW H))(h:∀i d,xs[i]? = some d→Jd (F i)≤Rows.uptoBulk d):∀n,n≤xs.length→Jd (((List.range n).map F).map Q7)≤Rows.uptoBulkAll (xs.take n)
 |0,_=>QFZ _
 |n+1,hn=>by
  have hx:xs[n]? = some xs[n]:=QFT (by omega);have:=GG F xs h n (by omega);have h1:=h n _ hx;rw[List.range_succ,QHj,QHj,Fz,QHk,hx,Py];simp only[QGn,QGK,Jd,Pw,QHl,Rows.uptoBulkAll];omega

def Rz (P:Program)(M:Nat)(t:TypeId)(d:DataW H):Prop:=M=maxLen∨(M≠reachBytes∧Rows.uptoBulk d≤M)∨(d.weights P t).all (·≤M)=true

theorem Um {t:TypeId}{d:DataW H}:∀ {ts:List TypeId} {ds:List (DataW H)} (i:Nat),(DataW.weightsEach P ts ds).all (·≤M)=true→ts[i]? = some t→ds[i]? = some d→(d.weights P t).all (·≤M)=true
 | [],_,_,_,h,_=>by simp at h
 |_ :: _,[],_,_,_,h=>by simp at h
 |t' :: ts,d' :: ds,0,h,h1,h2=>by
  rw[DataW.weightsEach,QGZ,QGd]at h;cases h1;cases h2;exact h.1
 |t' :: ts,d' :: ds,i+1,h,h1,h2=>by
  rw[DataW.weightsEach,QGZ,QGd]at h;exact Um i h.2 (by simpa using h1) (by simpa using h2)

theorem KU {e:TypeId}{d:DataW H}:∀ {ds:List (DataW H)},(DataW.weightsAll P e ds).all (·≤M)=true→d∈ds→(d.weights P e).all (·≤M)=true
 | [],_,h=>by cases h
 |d' :: ds,h,hd=>by
  rw[DataW.weightsAll,QGZ,QGd]at h;rcases QG2.1 hd with rfl|hd
  ·exact h.1
  ·exact KU h.2 hd

def LO (W:World)(hL:YA W)(h:List AV→Prop)(B n:Nat)(cs:List Value):Prop :=
 ∃avs,h avs∧RepL (Gh.world W hL) avs cs∧avs.length=n∧AV.rfL avs=true∧avs.all AV.leaf=true∧Jd avs≤B

theorem Yr (hL:YA W){h:TypeId→List AV→Prop}{cs:List Value}:∀(fs:List Field) (ds:List (DataW H)) (o:Nat),Uk P o fs cs.length=true→fs.length=ds.length→(∀(i:Nat) (f:Field) (d:DataW H),fs[i]? = some f→ds[i]? = some d→LO W hL (h f.type) (Rows.uptoBulk d) (P.cellsOf f.type) ((cs.drop f.offset).take (P.cellsOf f.type)))→
  LO W hL (Q3.HasL h fs) (Rows.uptoBulkAll ds) (cs.length-o) (cs.drop o)
 | [],_,o,hc,_,_=>by
  have e:o=cs.length:=QFO hc;refine⟨[],rfl,?_,by simp[e],rfl,rfl,QFZ _⟩;rw[e,List.drop_length];exact .nil
 |_ :: _,[],_,_,hl,_=>by simp at hl
 |f :: fs,d :: ds,o,hc,hl,hf=>by
  simp only[Uk,QGd]at hc;have eo:f.offset=o:=QFO hc.1;obtain⟨a,a1,a2,a3,a4,a5,a6⟩:=hf 0 f d rfl rfl;obtain⟨b,b1,b2,b3,b4,b5,b6⟩:=Yr hL fs ds _ hc.2 (by simpa using hl) fun i g d hg hd=>hf (i+1) g d (by simpa using hg) (by simpa using hd)
  rw[eo]at a2;refine⟨a++b,⟨a,b,rfl,a1,b1⟩,?_,?_,by rw[JD,a4,b4]<;>rfl,by rw[QGZ,a5,b5]<;>rfl,by rw[Fz,Rows.uptoBulkAll];omega⟩
  ·have:=RepL.append a2 b2
   rwa [←List.drop_drop,QGY]at this
  ·have hlen:a.length=((cs.drop o).take (P.cellsOf f.type)).length:=(RepL.length a2).symm;rw[QGs,a3,b3];rw[a3,QGF,QGv]at hlen;omega

theorem WR (hL:YA W){ts:List TypeId}(hP:Vf P ts=true):∀(k:Nat) (t:TypeId) (cs:List Value) (d:DataW H) (pl:List MemPlace),ts.contains t=true→DataW.trod enc P W 0 (fun _=>true) true k t cs=some (d,pl)→Rz P M t d→
  LO W hL (Q3 P M k t) (Rows.uptoBulk d) (P.cellsOf t) cs
 |0,_,_,_,_,_,h,_=>by simp[DataW.trod]at h
 |k+1,t,cs,d,pl,ht,h,hb=>by
  have hp:=QF3.1 hP t (by simpa using ht);unfold Ve at hp;split at hp
  ·rename_i ik hu;obtain⟨v,rfl,_,hw⟩:=DataW.trod_int hu h;refine⟨[.int ik v],?_,.cons (.int ik v) .nil,by rw[QGe]at hp;simp[hp],rfl,rfl,Ul rfl _⟩;simp only[Q3,hu];exact⟨v,rfl,hw⟩
  ·rename_i hu;obtain⟨b,rfl,_⟩:=DataW.trod_bool hu h;refine⟨[.bool b],?_,.cons (.bool b) .nil,by rw[QGe]at hp;simp[hp],rfl,rfl,Ul rfl _⟩;simp only[Q3,hu];exact⟨b,rfl⟩
  ·rename_i hu;obtain⟨⟨⟨s⟩⟩,rfl,e,hw⟩:=DataW.trod_string hu h;have hw:s.length≤M:=by
    cases e;rcases hb with rfl|hb|hb
    ·exact hw
    ·replace hb:=hb.2;rw[Rows.uptoBulk]at hb;exact QFR (Nat.le_succ _) hb
    ·rw[DataW.weights]at hb
     simpa using hb
   refine⟨[.str s],?_,.cons (.str s) .nil,by rw[QGe]at hp;simp[hp],rfl,rfl,Ul rfl _⟩;simp only[Q3,hu];exact⟨s,rfl,hw⟩
  ·rename_i fs hu;simp only[QGd,QF3]at hp;obtain⟨xs,n',hk,e,hlen,hxl,hx⟩:=DataW.trod_struct hu h;obtain rfl:k=n':=by omega
   have hbx:∀(i:Nat) x (f:Field),xs[i]? = some x→fs[i]? = some f→Rz P M f.type x.1:=fun i x f hx hf=>by
    cases e;refine hb.imp id fun hb=>hb.imp (fun hb=>⟨hb.1,?_⟩) fun hb=>?_
    ·replace hb:=hb.2;rw[Rows.uptoBulk]at hb;have:=YJ (l:=xs.map (·.1)) (QG3.2 ⟨x,QF4 hx,rfl⟩);omega
    ·rw[DataW.weights,hu]at hb;exact Um i hb (by simp[hf]) (by simp[hx])
   have:=Yr hL (W:=W) (h:=Q3 P M k) (cs:=cs) fs.toList (xs.map (·.1)) 0 (by rw[hlen];exact hp.1) (by simp[hxl]) (fun i f d hi hd=>by
    have hi':fs[i]? = some f:=by simpa using hi
    have hf:f∈fs.toList:=QF4 hi;obtain⟨x,hxi,rfl⟩:∃x,xs[i]? = some x∧x.1=d:=by
     rw[QG5]at hd;obtain⟨x,h1,h2⟩:=QFV.1 hd;exact⟨x,h1,h2⟩
    have h2:=hx i f hi';rw[hxi]at h2;exact WR hL hP k f.type _ _ _ (hp.2 f hf) h2 (hbx i _ f hxi hi'))
   rw[QGw,QGH,hlen]at this;obtain⟨avs,h1,h2,h3,h4,h5,h6⟩:=this;refine⟨avs,?_,h2,h3,h4,h5,by cases e;rw[Rows.uptoBulk];omega⟩;simp only[Q3,hu];exact h1
  ·rename_i e hu;simp only[QGd,QG4,QGe]at hp;obtain⟨⟨h1,h0,hby⟩,hpe⟩:=hp;rcases DataW.trod_slice hu h with⟨rfl,_⟩|⟨a,len,cap,elems,rest,n',hk,rfl,e0,_,hl,hm,hln0,hel,_⟩
   ·refine⟨[.list []],?_,.cons (.list (cs:=[]) (sz:=0) .nil (by simp) rfl rfl (by simp) rfl (QFZ _) (QFZ _)) .nil,by simp[h1],rfl,rfl,Ul rfl _⟩;simp only[Q3,hu];exact⟨[],rfl,⟨QFZ _,fun _=>by simp⟩,by simp,QFZ _⟩
   ·obtain rfl:k=n':=by omega
    have hbx:∀x∈elems,Rz P M e x.1:=fun x hx=>by
     cases e0;refine hb.imp id fun hb=>hb.imp (fun hb=>⟨hb.1,?_⟩) fun hb=>?_
     ·replace hb:=hb.2;rw[Rows.uptoBulk]at hb;have:=YJ (l:=elems.map (·.1)) (QG3.2 ⟨x,hx,rfl⟩);omega
     ·rw[DataW.weights,hu,QGW,QGZ,QGd,QGd]at hb;exact KU hb.2.1 (QG3.2 ⟨x,hx,rfl⟩)
    have hlenM:len≤M:=by
     cases e0;rcases hb with rfl|hb|hb
     ·omega
     ·have key:∀l:List (DataW H),l.length≤Rows.uptoBulkAll l:=by
       intro l
       induction l with
       |nil=>simp
       |cons x l ih=>
        have:1≤Rows.uptoBulk x:=by unfold Rows.uptoBulk;split<;>omega
        rw[Rows.uptoBulkAll,QF5];omega
      replace hb:=hb.2;rw[Rows.uptoBulk]at hb;have:=key (elems.map (·.1));rw[QG7]at this;omega
     ·rw[DataW.weights,hu,QGW,QGd]at hb;have h5:=hb.1;simp only[QG4,QG7]at h5;have h6:elems.length*1≤(elems.length+rest.length)*P.bytesOf e:=Nat.mul_le_mul (Nat.le_add_right _ _) hby;omega
    have hlenB:M=reachBytes→len*P.bytesOf e≤M:=fun hM=>by
     cases e0;rcases hb with rfl|hb|hb
     ·exact absurd hM (by unfold maxLen reachBytes;omega)
     ·exact absurd hM hb.1
     ·rw[DataW.weights,hu,QGW,QGd]at hb;have h5:=hb.1;simp only[QG4,QG7]at h5;have h6:elems.length*P.bytesOf e≤(elems.length+rest.length)*P.bytesOf e:=Nat.mul_le_mul (Nat.le_add_right _ _) (QFQ _);have h7:len*P.bytesOf e=elems.length*P.bytesOf e:=by rw[show len=elems.length by omega]
      omega
    haveI:Inhabited ({c:List Value // c.length=P.cellsOf e}×List AV):=⟨(⟨List.replicate (P.cellsOf e) (.bool false),by simp⟩,[])⟩
    obtain⟨F,hF⟩:=choose_lt (α:={c:List Value // c.length=P.cellsOf e}×List AV) (n:=len) (p:=fun i x=>W.cells? 0 (a.add (i*P.cellsOf e)) (P.cellsOf e)=some x.1.1∧Q3 P M k e x.2∧RepL (Gh.world W hL) x.2 x.1.1∧x.2.length=P.cellsOf e∧AV.rfL x.2=true∧x.2.all AV.leaf=true∧∀d,elems[i]? = some d→Jd x.2≤Rows.uptoBulk d.1) (fun i hi=>by
     have hb:=hel i hi;rw[QFT (by omega)]at hb;obtain⟨cs',c1,c2⟩:=Option.bind_eq_some_iff.1 hb;obtain⟨_,hln,_⟩:=World.cells?_some c1;obtain⟨avs,o1,o2,o3,o4,o5,o6⟩:=WR hL hP k e cs' _ _ hpe c2 (hbx _ (List.getElem_mem _));exact⟨(⟨cs',hln⟩,avs),c1,o1,o2,o3,o4,o5,fun d hd=>by
      rw[QFT (by omega)]at hd;cases hd;exact o6⟩)
    have cellAt:∀i j,i<len→j<P.cellsOf e→W.cell? (a.add (i*P.cellsOf e+j))=(F i).1.1[j]?:=by
     intro i j hi hj;obtain⟨_,_,h3⟩:=World.cells?_some (hF i hi).1;rw[←h3 j hj,add_add]
    have hspot:0<len→a.spot=none:=by
     intro hc;have:=cellAt 0 0 hc h0;rw[Nat.zero_mul,show a.add (0+0)=a from rfl,QFT (by rw[(F 0).1.2];exact h0)]at this;unfold World.cell? at this;split at this
     ·split at this
      ·cases this
      ·rename_i h;simpa using h
     ·cases this
    have hel':∀c∈(List.range len).map (fun i=>(F i).2),∃i,i<len∧c=(F i).2:=by
     intro c hc;obtain⟨i,hi,rfl⟩:=QG3.1 hc;exact⟨i,QHf.1 hi,rfl⟩
    have hflat:∀L:List (List AV),(∀c∈L,c.all AV.leaf=true)→QL (L.map Q7)=L.flatten:=by
     intro L
     induction L with
     |nil=>intro _;rfl
     |cons c L ih=>
      intro hh;show(Q7 c).cells++QL (L.map Q7)=c++L.flatten;rw[Yq (hh c (by simp)),ih fun x hx=>hh x (by simp[hx])]
    have hrf:∀L:List (List AV),(∀c∈L,AV.rfL c=true)→AV.rfL L.flatten=true:=by
     intro L
     induction L with
     |nil=>intro _;rfl
     |cons c L ih=>
      intro hh;rw[List.flatten_cons,JD,hh c (by simp),ih fun x hx=>hh x (by simp[hx])]<;>rfl
    have hlf:∀L:List (List AV),(∀c∈L,c.all AV.leaf=true)→L.flatten.all AV.leaf=true:=by
     intro L
     induction L with
     |nil=>intro _;rfl
     |cons c L ih=>
      intro hh;rw[List.flatten_cons,QGZ,hh c (by simp),ih fun x hx=>hh x (by simp[hx])]<;>rfl
    have hl1:∀c∈(List.range len).map (fun i=>(F i).2),c.all AV.leaf=true:=fun c hc=>by
     obtain⟨i,hi,rfl⟩:=hel' c hc;exact(hF i hi).2.2.2.2.2.1
    have hl2:∀c∈(List.range len).map (fun i=>(F i).2),AV.rfL c=true:=fun c hc=>by
     obtain⟨i,hi,rfl⟩:=hel' c hc;exact(hF i hi).2.2.2.2.1
    have hwt:Jd [.list (((List.range len).map fun i=>(F i).2).map Q7)]≤Rows.uptoBulk d:=by
     cases e0;have hw:=fun n hn=>GG (fun i=>if i<len then(F i).2 else []) (elems.map (·.1)) (fun i d hd=>by
      rw[QG5]at hd;obtain⟨x,h1,rfl⟩:=QFV.1 hd;by_cases hi:i<len
      ·rw[QFY hi];exact(hF i hi).2.2.2.2.2.2 x h1
      ·rw[QFX hi];exact QFZ _) n hn
     have h1:=hw len (by rw[QG7];omega);rw[QGo (by rw[QG7];omega)]at h1;have h2:(List.range len).map (fun i=>if i<len then(F i).2 else [])=(List.range len).map fun i=>(F i).2:=by
      refine QHm fun i hi=>?_
      rw[QFY (QHf.1 hi)]
     rw[h2]at h1;rw[Jd,Jd,wt,Rows.uptoBulk];omega
    refine⟨[.list (((List.range len).map fun i=>(F i).2).map Q7)],?_,.cons (.list (cs:=((List.range len).map fun i=>(F i).1.1).flatten) (sz:=P.cellsOf e) ?_ ?_ ?_ ?_ ?_ (by simp) hl (by omega)) .nil,by simp[h1],rfl,rfl,hwt⟩
    ·simp only[Q3,hu];refine⟨_,rfl,⟨by simp;omega,fun hM=>by simpa using hlenB hM⟩,?_,by simpa using hlenM⟩;intro c hc;obtain⟨i,hi,rfl⟩:=hel' c hc;exact(hF i hi).2.1
    ·rw[hflat _ hl1];refine WQ (by simp) fun i g1 g2=>?_
     simp only[QG7,List.length_range]at g1;simp only[List.getElem_map,List.getElem_range];exact(hF i (by omega)).2.2.1
    ·intro x hx;obtain⟨c,hc,rfl⟩:=QG3.1 hx;rw[Yq (hl1 c hc)];obtain⟨i,hi,rfl⟩:=hel' c hc;exact(hF i hi).2.2.2.1
    ·rw[hflat _ hl1];exact hrf _ hl2
    ·rw[hflat _ hl1];exact hlf _ hl1
    ·intro j u hj;rw[←List.flatMap_def,Yp h0 (fun i=>(F i).1.2)]at hj;by_cases hi:j / P.cellsOf e<len
     ·rw[List.getElem?_range hi]at hj;have hj:(F (j / P.cellsOf e)).1.1[j % P.cellsOf e]? = some u:=hj;have hk:=cellAt (j / P.cellsOf e) (j % P.cellsOf e) (by omega) (Nat.mod_lt _ h0);rw[hj,Nat.div_add_mod']at hk;have hs:=hspot (Nat.lt_of_le_of_lt (QFZ _) hi);obtain⟨b,o,s⟩:=a;subst hs;refine⟨b,o,rfl,?_⟩;refine W9 ?_;show W.cell? ⟨b,o+j,none⟩=some u;rw[←hk];unfold Addr.add;split
      ·rename_i h;rw[h];rfl
      ·rfl
     ·rw[QG6 (by simp;omega)]at hj;cases hj
  ·cases hp

theorem B5 {t:TypeId}{v:Value}{d:DataW H}{p:List MemPlace}(hl:laidOutB P=true)(hr:P.readableRec t=true)(hrow:t<P.types.size)(h:DataW.Trod enc P W 0 (fun _=>true) true t v d p) :
  ∀(W':World) (sp:Nat→Bool),Below W.heap.size W W'→(∀q∈p,sp q.block=true)→DataW.Trod enc P W' 0 sp true t v d p:=by
 intro W' sp hb hs;obtain⟨n,hn⟩:=h;exact Trod_stays hl hr hrow ⟨n,hn⟩ (fun x hx=>hb.same (DataW.trod_lt n _ _ _ hn x hx)) hs

theorem Fg (hL:YA W){t:TypeId}{fs:Array Field}{ts:List TypeId}{r:Reach}{b0:Nat}{v:Value}{d:DataW H}{p:List MemPlace}(hP:Vf P ts=true)(ht:ts.contains t=true)(hs:P.underlying t=some (.struct fs))(hv:Value.okWide P W r b0 t v)
  (h:DataW.Trod enc P W 0 (fun _=>true) true t v d p) (hb:Rz P M t d):∃k avs,Q3 P M k t avs∧Rep (Gh.world W hL) (.agg avs) v:=by
 obtain⟨⟨cs⟩,rfl,_⟩:=okWide_struct hs hv;obtain⟨n,hn⟩:=h;obtain⟨avs,h1,h2,_⟩:=WR hL hP n t _ _ _ ht hn hb;exact⟨n,avs,h1,.agg h2⟩
theorem Xg {X:Type}{f:X→List AV}{ok:X→Prop}:∀ {l:List (List AV)},(∀c∈l,∃x,ok x∧c=f x)→∃xs:List X,l=xs.map f∧∀x∈xs,ok x
 | [],_=>⟨[],rfl,by simp⟩
 |c :: l,h=>by
  obtain⟨x,hx,rfl⟩:=h c (by simp);obtain⟨xs,rfl,hxs⟩:=Xg (l:=l) fun c hc=>h c (by simp[hc])
  exact⟨x :: xs,rfl,by simpa using ⟨hx,hxs⟩⟩

end

end Go.Proofs.YtnpajgoobomndaaGreatDoor.Br

namespace Go.Proofs.YtnpajgoobomndaaGreatDoor.Br
open Go Am

section
variable {P:Program}{M k:Nat}{t:TypeId}{cs:List AV}

theorem XS {ik:IntKind}(hu:P.underlying t=some (.int ik))(h:Q3 P M k t cs):∃n,cs=[.int ik n]∧(Lit.int ik n).wf=true:=by
 cases k with
 |zero=>cases h
 |succ k=>simpa only [Q3,hu]using h

theorem GH (hu:P.underlying t=some .bool)(h:Q3 P M k t cs):∃b,cs=[.bool b]:=by
 cases k with
 |zero=>cases h
 |succ k=>simpa only [Q3,hu]using h

theorem XT (hu:P.underlying t=some .string)(h:Q3 P M k t cs):∃s,cs=[.str s]∧s.length≤M:=by
 cases k with
 |zero=>cases h
 |succ k=>simpa only [Q3,hu]using h

theorem Q9 {e:TypeId}(hu:P.underlying t=some (.slice e))(h:Q3 P M k t cs):∃(k':Nat) (l:List (List AV)),cs=[.list (l.map Q7)]∧l.length≤M∧∀c∈l,Q3 P M k' e c:=by
 cases k with
 |zero=>cases h
 |succ k=>
  simp only[Q3,hu]at h;obtain⟨l,h1,_,h3,h4⟩:=h;exact⟨k,l,h1,h4,h3⟩

theorem XI {fs:Array Field}(hu:P.underlying t=some (.struct fs))(h:Q3 P M k t cs):∃k',Q3.HasL (Q3 P M k') fs.toList cs:=by
 cases k with
 |zero=>cases h
 |succ k=>
  simp only[Q3,hu]at h;exact⟨k,h⟩

end

structure PO where
 num:Int
 name:List UInt8
 alias:List UInt8
 card:Int
 key:Int
 kind:Int
 target:Int
 union:Int

def PO.cells (o:PO):List AV:=[.int .i64 o.num,.str o.name,.str o.alias,.int .i64 o.card,.int .i64 o.key,.int .i64 o.kind,.int .i64 o.target,.int .i64 o.union]

structure PO.ok (M:Nat)(o:PO):Prop where
 num:(Lit.int .i64 o.num).wf=true
 name:o.name.length≤M
 alias:o.alias.length≤M
 card:(Lit.int .i64 o.card).wf=true
 key:(Lit.int .i64 o.key).wf=true
 kind:(Lit.int .i64 o.kind).wf=true
 target:(Lit.int .i64 o.target).wf=true
 union:(Lit.int .i64 o.union).wf=true

structure PG where
 name:List UInt8
 ops:List PO
 unions:Int

def PG.cells (g:PG):List AV:=[.str g.name,.list (g.ops.map fun o=>.agg o.cells),.int .i64 g.unions]

structure PG.ok (M:Nat)(g:PG):Prop where
 name:g.name.length≤M
 len:g.ops.length≤maxLen
 ops:∀o∈g.ops,o.ok M
 unions:(Lit.int .i64 g.unions).wf=true

structure PS where
 lo:Int
 hi:Int

def PS.cells (x:PS):List AV:=[.int .i64 x.lo,.int .i64 x.hi]
def PS.ok (x:PS):Prop:=(Lit.int .i64 x.lo).wf=true∧(Lit.int .i64 x.hi).wf=true

theorem GI {M k:Nat}{cs:List AV}(h:Q3 Tryz.prog M k 137 cs):∃x:PS,x.ok∧cs=x.cells:=by
 obtain⟨k,h⟩:=XI Tryz.underlying137 h;simp only[Q3.HasL]at h;obtain⟨_,_,rfl,h0,_,_,rfl,h1,rfl⟩:=h;obtain⟨a0,rfl,w0⟩:=XS Tryz.underlying3 h0;obtain⟨a1,rfl,w1⟩:=XS Tryz.underlying3 h1;exact⟨⟨a0,a1⟩,⟨w0,w1⟩,rfl⟩

structure PN where
 name:List UInt8
 val:List AV

def PN.cells (x:PN):List AV:=.str x.name :: x.val
def PN.ok (P:Program)(M:Nat)(t:TypeId)(x:PN):Prop:=x.name.length≤M∧∃k,Q3 P M k t x.val

structure PI where
 name:List UInt8
 num:Int
 notes:List PN

def PI.cells (x:PI):List AV:=[.str x.name,.int .i64 x.num,.list (x.notes.map fun n=>Q7 n.cells)]

structure PI.ok (M:Nat)(x:PI):Prop where
 name:x.name.length≤M
 num:(Lit.int .i64 x.num).wf=true
 len:x.notes.length≤maxLen
 notes:∀n∈x.notes,n.ok Tryz.prog M 70

structure PE where
 name:List UInt8
 opn:Bool
 items:List PI
 free:List PS
 notes:List PN

def PE.cells (x:PE):List AV:=[.str x.name,.bool x.opn,.list (x.items.map fun n=>.agg n.cells),.list (x.free.map fun n=>.agg n.cells),.list (x.notes.map fun n=>Q7 n.cells)]

structure PE.ok (M:Nat)(x:PE):Prop where
 name:x.name.length≤M
 len1:x.items.length≤maxLen
 items:∀n∈x.items,n.ok M
 len2:x.free.length≤maxLen
 free:∀n∈x.free,n.ok
 len3:x.notes.length≤maxLen
 notes:∀n∈x.notes,n.ok Tryz.prog M 70

structure PL where
 progs:List PG
 enums:List PE

def PL.av (p:PL):AV:=.agg [.list (p.progs.map fun n=>.agg n.cells),.list (p.enums.map fun n=>.agg n.cells)]

structure PL.ok (M:Nat)(x:PL):Prop where
 len1:x.progs.length≤maxLen
 progs:∀n∈x.progs,n.ok M
 len2:x.enums.length≤maxLen
 enums:∀n∈x.enums,n.ok M

end Go.Proofs.YtnpajgoobomndaaGreatDoor.Br

namespace Go.Proofs.YtnpajgoobomndaaGreatDoor.Vp

def LP:Nat→Nat→List UInt8
 |0,u=>[UInt8.ofNat u]
 |k+1,u=>if u<128 then [UInt8.ofNat u]else UInt8.ofNat (u % 128+128) :: LP k (u / 128)

def put (u:Nat):List UInt8:=LP 9 u

def Un:Nat→Nat→List UInt8→Nat×Nat×Nat
 |_,_,[]=>(0,0,4)
 |i,acc,c :: t=>
  if i=9∧1<c.toNat then(0,0,6)
  else if c.toNat<128 then(acc+c.toNat*128 ^ i,i+1,0)
  else Un (i+1) (acc+(c.toNat-128)*128 ^ i) t

def take (s:List UInt8):Nat×Nat×Nat:=Un 0 0 s

theorem Ys (n:Nat)(h:n<256):(UInt8.ofNat n).toNat=n:=by
 simp[UInt8.toNat_ofNat'];omega

theorem B6 (i acc:Nat)(s t:List UInt8)(h:(Un i acc s).2.2≠4):Un i acc (s++t)=Un i acc s:=by
 induction s generalizing i acc with
 |nil=>simp[Un]at h
 |cons c r ih=>
  simp only[QGb];unfold Un at h ⊢;split
  ·rfl
  ·rename_i h1;rw[QFX h1]at h;split
   ·rfl
   ·rename_i h2;rw[QFX h2]at h;exact ih _ _ h

theorem AY (i acc:Nat)(s:List UInt8)(hi:i≤9)(hl:10≤i+s.length):(Un i acc s).2.2≠4:=by
 induction s generalizing i acc with
 |nil=>simp at hl;omega
 |cons c r ih=>
  unfold Un;split
  ·simp
  ·rename_i h1;split
   ·simp
   ·rename_i h2;exact ih _ _ (by omega) (by simp at hl;omega)

theorem take_take (s:List UInt8):take (s.take 10)=take s:=by
 rcases Nat.lt_or_ge s.length 10 with h|h
 ·rw[QGo (by omega)]
 ·have:=B6 0 0 (s.take 10) (s.drop 10) (AY 0 0 _ (by omega) (by simp;omega));rw[QGY]at this;exact this.symm

end Go.Proofs.YtnpajgoobomndaaGreatDoor.Vp

namespace Go.Proofs.YtnpajgoobomndaaGreatDoor.Bt
open Go

theorem Qzq (n:Int):IntKind.u64.wrap n=n % 18446744073709551616:=by simp[IntKind.wrap,IntKind.bits,IntKind.signed]
theorem ZM (n:Int):IntKind.i64.wrap n=(n+9223372036854775808) % 18446744073709551616-9223372036854775808:=IntKind.wrap_i64 n

theorem HB {n:Nat}(h:n<18446744073709551616):(BitVec.ofInt 64 (n:Int)).toNat=n:=by
 simp;omega

theorem FA (a b:Nat)(ha:a<18446744073709551616)(hb:b<18446744073709551616):bits .and .u64 (a:Int) (b:Int)=((a &&& b:Nat):Int):=by
 have hx:a &&& b<2 ^ 64:=Nat.and_lt_two_pow _ (by omega);show IntKind.u64.wrap ((BitVec.ofInt 64 (a:Int) &&& BitVec.ofInt 64 (b:Int)).toNat:Int)=_;rw[BitVec.toNat_and,HB ha,HB hb,Qzq];omega
end Go.Proofs.YtnpajgoobomndaaGreatDoor.Bt

namespace Go.Proofs.YtnpajgoobomndaaGreatDoor.Cp
open Go Am Bt Vp

structure C where
 d:List UInt8
 a:Int
 e:Int
 dp:Int
 nd:Int
 tx:Int

def C.av (c:C):AV:=.agg [.str c.d,.int .i64 c.a,.int .i64 c.e,.int .i64 c.dp,.int .i64 c.nd,.int .i64 c.tx]
def zc:C:=⟨[],0,0,0,0,0⟩

structure L where
 b:Int
 dp:Int
 nd:Int
 tx:Int
def L.av (l:L):AV:=.agg [.int .i64 l.b,.int .i64 l.dp,.int .i64 l.nd,.int .i64 l.tx]

def C.sound (c:C):Bool:=decide (0≤c.a)&&decide (c.a≤c.e)&&decide (c.e≤(c.d.length:Int))
def C.rest (c:C):List UInt8:=bif c.sound then(c.d.drop c.a.toNat).take (c.e.toNat-c.a.toNat)else []
def C.left (c:C):Int:=(c.rest.length:Int)
def C.ahead (c:C)(n:Int):C:={ c with a:=IntKind.i64.wrap (c.a+n) }

def opn (s:List UInt8)(l:L):C×Nat :=
 if l.b<0∨l.dp<0∨l.nd<0∨l.tx<0 then(zc,1)else if l.b<(s.length:Int)then(zc,3)else(⟨s,0,s.length,l.dp,l.nd,l.tx⟩,0)

def C.varint (c:C):Nat×C×Nat :=
 let r:=Vp.take c.rest
 if r.2.2=0 then(r.1,c.ahead r.2.1,0)else(0,c,r.2.2)

end Go.Proofs.YtnpajgoobomndaaGreatDoor.Cp

namespace Go.Proofs.YtnpajgoobomndaaGreatDoor.Up
open Go Am Bt Vp Cp

structure R where
 num:Int
 wire:Int
 bits:Nat
 data:List UInt8
 deriving DecidableEq

def R.av (f:R):AV:=.agg [.int .i64 f.num,.int .i64 f.wire,.int .u64 (f.bits:Nat),.str f.data]
def LQ (c:C)(wire:Int):List UInt8×C×Nat :=
 let r:=c.varint
 if r.2.2=0 then
  if r.2.1.left<(r.1:Int)then([],c,4)
  else if (if wire=3 then c.tx else 65536)<(r.1:Int)then([],c,3)
  else((r.2.1.d.drop r.2.1.a.toNat).take r.1,r.2.1.ahead r.1,0)
 else([],c,r.2.2)
end Go.Proofs.YtnpajgoobomndaaGreatDoor.Up

namespace Go.Proofs.YtnpajgoobomndaaGreatDoor.Br
open Go Am Up

theorem AZ {M k:Nat}{cs:List AV}(h:Q3 Tryz.prog M k 263 cs):∃f:R,((Lit.int .i64 f.num).wf=true∧(Lit.int .i64 f.wire).wf=true∧(Lit.int .u64 (f.bits:Int)).wf=true∧f.data.length≤M)∧.agg cs=f.av:=by
 obtain⟨k,h⟩:=XI Tryz.underlying263 h;simp only[Q3.HasL]at h;obtain⟨_,_,rfl,h0,_,_,rfl,h1,_,_,rfl,h2,_,_,rfl,h3,rfl⟩:=h;obtain⟨a0,rfl,w0⟩:=XS Tryz.underlying3 h0;obtain⟨a1,rfl,w1⟩:=XS Tryz.underlying3 h1;obtain⟨a2,rfl,w2⟩:=XS Tryz.underlying64 h2;obtain⟨a3,rfl,w3⟩:=XT Tryz.underlying9 h3;have hn:0≤a2:=Vd w2;obtain⟨n,rfl⟩:=Int.eq_ofNat_of_zero_le hn;exact⟨⟨a0,a1,n,a3⟩,⟨w0,w1,w2,w3⟩,rfl⟩

end Go.Proofs.YtnpajgoobomndaaGreatDoor.Br

set_option linter.unusedSimpArgs false
namespace Go.Proofs.YtnpajgoobomndaaGreatDoor.Br
open Go Am Up

inductive V where
 |mk (k:Int) (b:Nat) (t:List UInt8) (l:List V) (p:List (V×V)) (s:List (Int×V)) (r:List R)
 deriving Inhabited

mutual
def V.cells:V→List AV
 |.mk k b t l p s r=>[.int .i64 k,.int .u64 (b:Nat),.str t,.list (V.cl l),.list (V.cp p),.list (V.cs s),.list (r.map R.av)]
def V.cl:List V→List AV
 | []=>[]
 |x :: l=>.agg x.cells :: V.cl l
def V.cp:List (V×V)→List AV
 | []=>[]
 |(a,b) :: l=>.agg (a.cells++b.cells) :: V.cp l
def V.cs:List (Int×V)→List AV
 | []=>[]
 |(n,a) :: l=>.agg (.int .i64 n :: a.cells) :: V.cs l
end

def V.kd:V→Int|.mk k _ _ _ _ _ _=>k
def V.bits:V→Nat|.mk _ b _ _ _ _ _=>b
def V.text:V→List UInt8|.mk _ _ t _ _ _ _=>t
def V.list:V→List V|.mk _ _ _ l _ _ _=>l
def V.pairs:V→List (V×V)|.mk _ _ _ _ p _ _=>p
def V.slots:V→List (Int×V)|.mk _ _ _ _ _ s _=>s
def V.raws:V→List R|.mk _ _ _ _ _ _ r=>r

def V.av (v:V):AV:=.agg v.cells
def V.pav (p:V×V):AV:=.agg (p.1.cells++p.2.cells)
def V.sav (s:Int×V):AV:=.agg (.int .i64 s.1 :: s.2.cells)

theorem V.cl_eq:∀l:List V,V.cl l=l.map V.av
 | []=>rfl
 |x :: l=>by rw[V.cl,V.cl_eq l];rfl
theorem V.cp_eq:∀l:List (V×V),V.cp l=l.map V.pav
 | []=>rfl
 |(a,b) :: l=>by rw[V.cp,V.cp_eq l];rfl
theorem V.cs_eq:∀l:List (Int×V),V.cs l=l.map V.sav
 | []=>rfl
 |(n,a) :: l=>by rw[V.cs,V.cs_eq l];rfl

theorem V.eta:∀v:V,v.cells=[.int .i64 v.kd,.int .u64 (v.bits:Nat),.str v.text,.list (v.list.map V.av),.list (v.pairs.map V.pav),.list (v.slots.map V.sav),.list (v.raws.map R.av)]
 |.mk k b t l p s r=>by rw[V.cells,V.cl_eq,V.cp_eq,V.cs_eq];rfl

theorem V.ind {P:V→Prop}(h:∀v:V,(∀x∈v.list,P x)→(∀x∈v.pairs,P x.1∧P x.2)→(∀x∈v.slots,P x.2)→P v)(v:V):P v :=
 V.rec (motive_1:=P) (motive_2:=fun l=>∀x∈l,P x) (motive_3:=fun p=>∀x∈p,P x.1∧P x.2) (motive_4:=fun s=>∀x∈s,P x.2) (motive_5:=fun q=>P q.1∧P q.2) (motive_6:=fun q=>P q.2)
  (fun k b t l p s r hl hp hs=>h (.mk k b t l p s r) hl hp hs)
  (by simp) (fun a l ha hl=>by simpa using ⟨ha,hl⟩)
  (by simp) (fun a l ha hl=>by simp only[QG2,forall_eq_or_imp];exact⟨ha,hl⟩)
  (by simp) (fun a l ha hl=>by simp only[QG2,forall_eq_or_imp];exact⟨ha,hl⟩)
  (fun a b ha hb=>⟨ha,hb⟩) (fun n a ha=>ha) v

structure _root_.Go.Proofs.YtnpajgoobomndaaGreatDoor.Up.R.ok (M:Nat)(f:R):Prop where
 num:(Lit.int .i64 f.num).wf=true
 wire:(Lit.int .i64 f.wire).wf=true
 bits:(Lit.int .u64 (f.bits:Int)).wf=true
 data:f.data.length≤M

inductive V.ok (M:Nat):V→Prop
 |mk {v:V} (kd:(Lit.int .i64 v.kd).wf=true) (bits:(Lit.int .u64 (v.bits:Int)).wf=true) (text:v.text.length≤M) (nl:v.list.length≤1099511627776) (np:v.pairs.length≤549755813888) (ns:v.slots.length≤1099511627776) (nr:v.raws.length≤70368744177664)
   (list:∀x∈v.list,V.ok M x) (keys:∀x∈v.pairs,V.ok M x.1) (vals:∀x∈v.pairs,V.ok M x.2) (nums:∀x∈v.slots,(Lit.int .i64 x.1).wf=true) (slots:∀x∈v.slots,V.ok M x.2) (raws:∀x∈v.raws,x.ok M):V.ok M v

section
variable {M:Nat}{v:V}(h:v.ok M)
include h
theorem V.ok.kd:(Lit.int .i64 v.kd).wf=true:=by cases h;assumption
theorem V.ok.bits:(Lit.int .u64 (v.bits:Int)).wf=true:=by cases h;assumption
theorem V.ok.text:v.text.length≤M:=by cases h;assumption
theorem V.ok.nl:v.list.length≤1099511627776:=by cases h;assumption
theorem V.ok.np:v.pairs.length≤549755813888:=by cases h;assumption
theorem V.ok.ns:v.slots.length≤1099511627776:=by cases h;assumption
theorem V.ok.nr:v.raws.length≤70368744177664:=by cases h;assumption
theorem V.ok.list:∀x∈v.list,x.ok M:=by cases h;assumption
theorem V.ok.keys:∀x∈v.pairs,x.1.ok M:=by cases h;assumption
theorem V.ok.vals:∀x∈v.pairs,x.2.ok M:=by cases h;assumption
theorem V.ok.nums:∀x∈v.slots,(Lit.int .i64 x.1).wf=true:=by cases h;assumption
theorem V.ok.slots:∀x∈v.slots,x.2.ok M:=by cases h;assumption
theorem V.ok.raws:∀x∈v.raws,x.ok M:=by cases h;assumption
end

theorem V.cells_length (v:V):v.cells.length=7:=by rw[V.eta];rfl

theorem KV {c:List AV}(h:2≤c.length):Q7 c=.agg c:=by
 match c,h with
 |_ :: _ :: _,_=>rfl

theorem RD {M:Nat}(hM:M=reachBytes∨M≤1048576):∀ {k:Nat} {cs:List AV},Q3 Tryz.prog M k 70 cs→∃v:V,v.ok M∧cs=v.cells:=by
 intro k
 induction k using Nat.strongRecOn with
 |ind k ih=>
 intro cs h;cases k with
 |zero=>cases h
 |succ k=>
 simp only[Q3,Tryz.underlying70,Q3.HasL]at h;obtain⟨_,_,rfl,h0,_,_,rfl,h1,_,_,rfl,h2,_,_,rfl,h3,_,_,rfl,h4,_,_,rfl,h5,_,_,rfl,h6,rfl⟩:=h;obtain⟨a0,rfl,w0⟩:=XS Tryz.underlying3 h0;obtain⟨a1,rfl,w1⟩:=XS Tryz.underlying64 h1;obtain⟨a2,rfl,w2⟩:=XT Tryz.underlying9 h2;have hb:0≤a1:=Vd w1;obtain⟨b,rfl⟩:=Int.eq_ofNat_of_zero_le hb;have sl:∀ {k0:Nat} {t e:TypeId} {cs:List AV},k0≤k→Tryz.prog.underlying t=some (.slice e)→Q3 Tryz.prog M k0 t cs→∃(k':Nat) (l:List (List AV)),k'<k∧cs=[.list (l.map Q7)]∧(l.length≤M∧(M=reachBytes→l.length*Tryz.prog.bytesOf e≤M))∧∀c∈l,Q3 Tryz.prog M k' e c:=by
  intro k0 t e cs hk hu h;cases k0 with
  |zero=>cases h
  |succ k0=>
   simp only[Q3,hu]at h;obtain⟨l,h1,h4,h3,h2⟩:=h;exact⟨k0,l,by omega,h1,⟨h2,h4.2⟩,h3⟩
 have nb:∀ {n b:Nat} (c:Nat),(n≤M∧(M=reachBytes→n*b≤M))→1048576≤c→(n*b≤140737488351232→n≤c)→n≤c:=fun c h1 h2 h3=>by
  rcases hM with e|e
  ·refine h3 (QFR (h1.2 e) ?_);rw[e];exact QFQ _
  ·exact QFR h1.1 (QFR e h2)
 have y1:Tryz.prog.bytesOf 70=128:=by decide +kernel
 have y2:Tryz.prog.bytesOf 259=256:=by decide +kernel
 have y3:Tryz.prog.bytesOf 261=136:=by decide +kernel
 have y4:Tryz.prog.bytesOf 263=40:=by decide +kernel
 obtain⟨k3,l3,b3,rfl,w3,hl3⟩:=sl (QFQ _) Tryz.underlying65 h3;obtain⟨k4,l4,b4,rfl,w4,hl4⟩:=sl (QFQ _) Tryz.underlying66 h4;obtain⟨k5,l5,b5,rfl,w5,hl5⟩:=sl (QFQ _) Tryz.underlying67 h5;obtain⟨k6,l6,b6,rfl,w6,hl6⟩:=sl (QFQ _) Tryz.underlying68 h6;obtain⟨vs,rfl,hvs⟩:=Xg (f:=V.cells) (ok:=V.ok M) fun c hc=>ih k3 (by omega) (hl3 c hc)
 obtain⟨ps,rfl,hps⟩:=Xg (l:=l4) (f:=fun p:V×V=>p.1.cells++p.2.cells) (ok:=fun p=>p.1.ok M∧p.2.ok M) fun c hc=>by
  have h:=hl4 c hc;cases k4 with
  |zero=>cases h
  |succ k4=>
  simp only[Q3,Tryz.underlying259,Q3.HasL]at h;obtain⟨a,_,rfl,h0,b,_,rfl,h1,rfl⟩:=h;obtain⟨x,hx,rfl⟩:=ih k4 (by omega) h0;obtain⟨y,hy,rfl⟩:=ih k4 (by omega) h1;exact⟨(x,y),⟨hx,hy⟩,by simp⟩
 obtain⟨ss,rfl,hss⟩:=Xg (l:=l5) (f:=fun s:Int×V=>.int .i64 s.1 :: s.2.cells) (ok:=fun s=>(Lit.int .i64 s.1).wf=true∧s.2.ok M) fun c hc=>by
  have h:=hl5 c hc;cases k5 with
  |zero=>cases h
  |succ k5=>
  simp only[Q3,Tryz.underlying261,Q3.HasL]at h;obtain⟨_,_,rfl,h0,b,_,rfl,h1,rfl⟩:=h;obtain⟨a0,rfl,w0⟩:=XS Tryz.underlying3 h0;obtain⟨y,hy,rfl⟩:=ih k5 (by omega) h1;exact⟨(a0,y),⟨w0,hy⟩,by simp⟩
 obtain⟨rs,rfl,hrs⟩:=Xg (l:=l6) (f:=fun r:R=>r.av.cells) (ok:=R.ok M) fun c hc=>by
  obtain⟨f,⟨g1,g2,g3,g4⟩,e⟩:=AZ (hl6 c hc);refine⟨f,⟨g1,g2,g3,g4⟩,?_⟩;rw[←e];rfl
 refine⟨.mk a0 b a2 vs ps ss rs,.mk w0 w1 w2 (by rw[QG7,y1]at w3;exact nb _ w3 (by decide) (by omega)) (by rw[QG7,y2]at w4;exact nb _ w4 (by decide) (by omega)) (by rw[QG7,y3]at w5;exact nb _ w5 (by decide) (by omega)) (by rw[QG7,y4]at w6;exact nb _ w6 (by decide) (by omega)) hvs (fun x hx=>(hps x hx).1) (fun x hx=>(hps x hx).2) (fun x hx=>(hss x hx).1) (fun x hx=>(hss x hx).2) hrs,?_⟩;rw[V.eta];have e3:(vs.map V.cells).map Q7=vs.map V.av:=by
  rw[QHn];exact QHm fun c _=>KV (by rw[V.cells_length];omega)
 have e4:(ps.map (fun p=>p.1.cells++p.2.cells)).map Q7=ps.map V.pav:=by
  rw[QHn];exact QHm fun p _=>KV (by rw[QGs,V.cells_length];omega)
 have e5:(ss.map (fun s=>AV.int .i64 s.1 :: s.2.cells)).map Q7=ss.map V.sav:=by
  rw[QHn];exact QHm fun p _=>KV (by rw[QF5,V.cells_length];omega)
 have e6:(rs.map (fun r=>r.av.cells)).map Q7=rs.map R.av:=by
  rw[QHn];exact QHm fun r _=>rfl
 rw[e3,e4,e5,e6];rfl

end Go.Proofs.YtnpajgoobomndaaGreatDoor.Br

namespace Go.Proofs.YtnpajgoobomndaaGreatDoor.Br
open Go Am

structure SN where
 name:List UInt8
 val:V
def SN.cells (x:SN):List AV:=.str x.name :: x.val.cells
structure SN.ok (M:Nat)(x:SN):Prop where
 name:x.name.length≤M
 val:x.val.ok M

structure SF where
 num:Int
 name:List UInt8
 card:Int
 key:Int
 kind:Int
 tname:List UInt8
 union:List UInt8
 hasd:Bool
 dflt:V
 notes:List SN
def SF.cells (x:SF):List AV:=[.int .i64 x.num,.str x.name,.int .i64 x.card,.int .i64 x.key,.int .i64 x.kind,.str x.tname,.str x.union,.bool x.hasd]++(x.dflt.cells++[.list (x.notes.map fun n=>.agg n.cells)])
structure SF.ok (M:Nat)(x:SF):Prop where
 num:(Lit.int .i64 x.num).wf=true
 name:x.name.length≤M
 card:(Lit.int .i64 x.card).wf=true
 key:(Lit.int .i64 x.key).wf=true
 kind:(Lit.int .i64 x.kind).wf=true
 tname:x.tname.length≤M
 union:x.union.length≤M
 dflt:x.dflt.ok M
 len:x.notes.length≤M
 notes:∀n∈x.notes,n.ok M

structure SM where
 name:List UInt8
 fields:List SF
 free:List PS
 gone:List (List UInt8)
 notes:List SN
def SM.cells (x:SM):List AV:=[.str x.name,.list (x.fields.map fun n=>.agg n.cells),.list (x.free.map fun n=>.agg n.cells),.list (x.gone.map AV.str),.list (x.notes.map fun n=>.agg n.cells)]
structure SM.ok (M:Nat)(x:SM):Prop where
 name:x.name.length≤M
 len1:x.fields.length≤M
 fields:∀n∈x.fields,n.ok M
 len2:x.free.length≤M
 free:∀n∈x.free,n.ok
 len3:x.gone.length≤M
 gone:∀n∈x.gone,n.length≤M
 len4:x.notes.length≤M
 notes:∀n∈x.notes,n.ok M

structure SI where
 name:List UInt8
 num:Int
 notes:List SN
def SI.cells (x:SI):List AV:=[.str x.name,.int .i64 x.num,.list (x.notes.map fun n=>.agg n.cells)]
structure SI.ok (M:Nat)(x:SI):Prop where
 name:x.name.length≤M
 num:(Lit.int .i64 x.num).wf=true
 len:x.notes.length≤M
 notes:∀n∈x.notes,n.ok M

structure SE where
 name:List UInt8
 opn:Bool
 items:List SI
 free:List PS
 notes:List SN
def SE.cells (x:SE):List AV:=[.str x.name,.bool x.opn,.list (x.items.map fun n=>.agg n.cells),.list (x.free.map fun n=>.agg n.cells),.list (x.notes.map fun n=>.agg n.cells)]
structure SE.ok (M:Nat)(x:SE):Prop where
 name:x.name.length≤M
 len1:x.items.length≤M
 items:∀n∈x.items,n.ok M
 len2:x.free.length≤M
 free:∀n∈x.free,n.ok
 len3:x.notes.length≤M
 notes:∀n∈x.notes,n.ok M

structure SO where
 name:List UInt8
 inn:List UInt8
 out:List UInt8
 shape:Int
 notes:List SN
def SO.cells (x:SO):List AV:=[.str x.name,.str x.inn,.str x.out,.int .i64 x.shape,.list (x.notes.map fun n=>.agg n.cells)]
structure SO.ok (M:Nat)(x:SO):Prop where
 name:x.name.length≤M
 inn:x.inn.length≤M
 out:x.out.length≤M
 shape:(Lit.int .i64 x.shape).wf=true
 len:x.notes.length≤M
 notes:∀n∈x.notes,n.ok M

structure SQ where
 name:List UInt8
 meths:List SO
 notes:List SN
def SQ.cells (x:SQ):List AV:=[.str x.name,.list (x.meths.map fun n=>.agg n.cells),.list (x.notes.map fun n=>.agg n.cells)]
structure SQ.ok (M:Nat)(x:SQ):Prop where
 name:x.name.length≤M
 len1:x.meths.length≤M
 meths:∀n∈x.meths,n.ok M
 len2:x.notes.length≤M
 notes:∀n∈x.notes,n.ok M

structure SC where
 msgs:List SM
 enums:List SE
 servs:List SQ
def SC.av (x:SC):AV:=.agg [.list (x.msgs.map fun n=>.agg n.cells),.list (x.enums.map fun n=>.agg n.cells),.list (x.servs.map fun n=>.agg n.cells)]
structure SC.ok (M:Nat)(x:SC):Prop where
 len1:x.msgs.length≤M
 msgs:∀n∈x.msgs,n.ok M
 len2:x.enums.length≤M
 enums:∀n∈x.enums,n.ok M
 len3:x.servs.length≤M
 servs:∀n∈x.servs,n.ok M

end Go.Proofs.YtnpajgoobomndaaGreatDoor.Br

namespace Go.Proofs.YtnpajgoobomndaaGreatDoor.Am
open Go

variable {P:Program}{f:Fr}{m:Ql}{ds:List DF}{its:List Item}{d:Nat}

def HZ:List Nat→RC→RC
 | [],a=>a
 |s :: l,a=>.gho (.drop s) (HZ l a)
def Pz:List Nat→AV→AV
 | [],x=>x
 |s :: l,x=>Pz l (x.scrub s)
def H0:List Nat→Ob→Ob
 | [],x=>x
 |s :: l,x=>H0 l (x.scrub s)

theorem B7 (l:List Nat):H0 l .none=.none:=by
 induction l with
 |nil=>rfl
 |cons s l ih=>exact ih

theorem Qz {Q:Exit→St→Prop}{a:RC}(l:List Nat):∀ {f:Fr} {fr:Nat→Ob},(∀s∈l,(fr s).isRow=false)→
  (∀f' fr',(∀i,f' i=Pz l (f i))→(∀i,i∉l→fr' i=H0 l (fr i))→(∀i∈l,fr' i=.none)→QK P a ⟨f',fr' :: m,[]⟩ Q)→QK P (HZ l a) ⟨f,fr :: m,[]⟩ Q:=by
 induction l with
 |nil=>intro f fr _ h;exact h f fr (fun _=>rfl) (fun _ _=>rfl) (fun _ h=>by cases h)
 |cons s l ih=>
  intro f fr hr h;show QK P (.gho (.drop s) (HZ l a)) _ _;rw[NZ];refine⟨hr s (by simp),?_⟩;show QK P (HZ l a) ⟨_,_ :: m,[]⟩ Q;refine ih ?_ ?_
  ·intro t ht;by_cases e:t=s
   ·subst e;rw[QI];rfl
   ·rw[QN _ _ e,Yo];exact hr t (by simp[ht])
  ·intro f' fr' h1 h2 h3;refine h f' fr' h1 ?_ ?_
   ·intro i hi;rw[h2 i (fun h=>hi (QF6 _ h)),QN _ _ (fun e=>hi (by rw[e];exact QF8))];rfl
   ·intro i hi;by_cases hl:i∈l
    ·exact h3 i hl
    ·have e:i=s:=by
      rcases QG2.1 hi with e|e
      ·exact e
      ·exact absurd e hl
     rw[h2 i hl,e,QI,B7]

def WS:Ob→Nat
 |.vec g _ _=>g+1
 |_=>1

theorem Vg {fr:Nat→Ob}{s:Nat}:Qy (fr :: m) 0 s=WS (fr s):=by
 unfold Qy WS;rfl

theorem B8 {K:St→Prop}{neg:Bool}{r:RA}{ys:List AV}(hr:r.ev f=.list ys)(h0:Qj P its ⟨Qp f d (.bool neg),m,ds⟩ K)(h1:ys=[]∨QL ys=[]→Qj P its ⟨Qp f d (.bool (!neg)),m,ds⟩ K):Qj P (⟨some d,.isnil neg r,none⟩ :: its) ⟨f,m,ds⟩ K:=by
 refine⟨ys,?_,fun _=>h0,fun e=>h1 ?_⟩
 ·show Xf m (r.ev f)=some ys;rw[hr];rfl
 ·rcases e with e|e
  ·have e:r.ev f=.nils:=e;rw[hr]at e;cases e
  ·exact .inr e

theorem Vh {K:St→Prop}{sz bytes el:Nat}{s r:RA}{xs ys:List AV}(hs:s.ev f=.lcap xs)(hr:r.ev f=.list ys)(hx:xs.all (fun e=>e.cells.length==sz)=true)(hy:ys.all (fun e=>e.cells.length==sz)=true)(hm:xs.length+ys.length≤maxLen)(hb:(xs.length+ys.length)*bytes≤140737488355328)
  (h:Qj P its ⟨Qp f d (.list (xs++ys)),m,ds⟩ K):Qj P (⟨some d,.appe sz bytes el s r,none⟩ :: its) ⟨f,m,ds⟩ K:=⟨xs,ys,hs,hr,hx,hy,hm,hb,h⟩
theorem Vi {K:St→Prop}{site sz:Nat}{fr:Nat→Ob}(hs:Qx (fr site)=true)
  (h:Qj P its ⟨Qp f d (.vec 0 site (WS (fr site)) 0 0 false),Qp fr site (.vec (WS (fr site)) sz []) :: m,ds⟩ K):Qj P (⟨some d,.bsl0 site sz,none⟩ :: its) ⟨f,fr :: m,ds⟩ K :=
 ⟨hs,h⟩

theorem Vj {K:St→Prop}{site sz len:Nat}{z:List AV}{ps:List (Nat×Nat×RA)}{fr:Nat→Ob}{y:List AV}(hy:fill f ps (Xk z sz len)=some y)(h1:AV.rfL y=true)(h2:y.all AV.leaf=true)(hs:Qx (fr site)=true)
  (h:Qj P its ⟨Qp f d (.vec 0 site (WS (fr site)) 0 len false),Qp fr site (.vec (WS (fr site)) sz (XH sz len (y.map nn0))) :: m,ds⟩ K):Qj P (⟨some d,.bslv site sz len z ps,none⟩ :: its) ⟨f,fr :: m,ds⟩ K :=
 ⟨y,hy,h1,h2,hs,h⟩

theorem B9 {K:St→Prop}{site sz:Nat}{z l:List AV}{r:RA}{fr:Nat→Ob}(hr:r.ev f=.agg l)(hl:l.length=sz)(h1:sz≠1)(hf:AV.rfL l=true)(hlf:l.all AV.leaf=true)(hs:Qx (fr site)=true)
  (h:Qj P its ⟨Qp f d (.vec 0 site (WS (fr site)) 0 1 false),Qp fr site (.vec (WS (fr site)) sz [.agg (l.map nn0)]) :: m,ds⟩ K):Qj P (⟨some d,.bslv site sz 1 z [(0,sz,r)],none⟩ :: its) ⟨f,fr :: m,ds⟩ K:=by
 have hz:(Xk z sz 1).length=sz:=by simp[Xk]
 have hy:fill f [(0,sz,r)] (Xk z sz 1)=some l:=by
  simp only[fill,hr,AV.cells,hl,hlf,QGf,hz,QFQ,QGN,if_true,splice,QGS,QGc];rw[QGr (by omega),QGM]
 have hc:XH sz 1 (l.map nn0)=[.agg (l.map nn0)]:=by
  simp only[XH,QFX h1];rw[QGo (by rw[QG7];omega)]
 refine Vj hy hf hlf hs ?_;rw[hc];exact h

theorem PA {Q:Exit→St→Prop}{a:RC}{slot site l S g sz o n:Nat}{q:Bool}{fr:Nat→Ob}{xs:List AV}(h1:f slot=.vec 0 site g o n q)(h2:fr site=.vec g sz xs)(hl:l<m.length)(hS:S<2000)(hr:Qx (Qe m l S)=true)
  (h:QK P a ⟨Qp f slot (.vec (l+1) S (Qy m l S) o n q),Qp fr site (.vec (g+1) sz []) :: Am.put m l S (.vec (Qy m l S) sz xs),ds⟩ Q):QK P (.gho (.give slot site (l+1) S) a) ⟨f,fr :: m,ds⟩ Q:=by
 refine⟨_,?_,h⟩;have e:Qe (fr :: m) 0 site=.vec g sz xs:=h2;have e1:Qx (Qe (fr :: m) (l+1) S)=true:=hr;have e2:Qy (fr :: m) (l+1) S=Qy m l S:=rfl;simp only[Z4,h1,e,e1,e2];rw[show Nat.beq site site=true from Nat.beq_refl site,show Nat.beq g g=true from Nat.beq_refl g,show Nat.blt (l+1) (fr :: m).length=true from Nat.ble_eq_true_of_le (by simp;omega),show Nat.blt S 2000=true from Nat.ble_eq_true_of_le hS];rfl

theorem XZ {K:St→Prop}{k:Nat}{r:RA}{args:List RA}{fa fb ys:List AV}{v:AV}{m':Ql}(hr:r.ev f=.fn (.func k) fa fb)(hk:Qn P k ys m fun x m1=>x=v∧m1=m')(hy:fa++args.map (RA.ev f)++fb=ys)(h:Qj P its ⟨Qp f d v,m',ds⟩ K) :
  Qj P (⟨some d,.callF r args,none⟩ :: its) ⟨f,m,ds⟩ K:=by
 refine⟨k,fa,fb,v,m',hr,?_,h⟩;show Qn P k (fa++args.map (RA.ev f)++fb) m fun x m1=>x=v∧m1=m'
 rw[hy];exact hk

theorem Kh {K:St→Prop}{k:Nat}{r:RA}{args:List RA}{fa fb ys:List AV}{v:AV}(hr:r.ev f=.fn (.func k) fa fb)(hk:Qs P k ys v)(hy:AV.stillL false m (fa++args.map (RA.ev f)++fb)=some ys)(h1:AV.rfL ys=true)(h2:v.rf=true)
  (h3:AV.rfL (fa++args.map (RA.ev f)++fb)=true∨v.nl=true) (h:Qj P its ⟨Qp f d v,m,ds⟩ K):Qj P (⟨some d,.call r args,none⟩ :: its) ⟨f,m,ds⟩ K :=
 ⟨k,fa,fb,ys,v,hr,hy,h1,hk,h2,h3,h⟩

end Go.Proofs.YtnpajgoobomndaaGreatDoor.Am

namespace Go.Proofs.YtnpajgoobomndaaGreatDoor.Am
open Go

abbrev GJ:=FuncId→Option (RC×List RR×Nat)

def Uo (P:Program)(T:GJ):Prop :=
 ∀k c rs N, T k=some (c, rs, N)→∃fn body, P.funcs[k]? = some fn∧fn.body=some body∧(fn.name == "runtime.NumGoroutine")=false∧fn.ntmps=N∧XV P N c body=true∧Z8 P fn.results.toList rs=true

abbrev Kq:=FuncId→List AV→Ql→Option (AV×Ql)

def X0 (call:Kq)(d:Option Nat)(op:RO)(st:St):Option St :=
 match op with
 |.val vo=>match QA st.f st.m vo with
  |some x=>some { st with f:=Qh st.f d x }
  |none=>none
 |.allocN s z=>bif XA st.m s then some { st with m:=Am.put st.m 0 s (.cells z),f:=Qh st.f d (.ptr 0 s 0) } else none
 |.boxN s r=>bif XA st.m s&&(r.ev st.f).cells.all AV.leaf then some { st with m:=Am.put st.m 0 s (.cells (r.ev st.f).cells),f:=Qh st.f d (.ptr 0 s 0) } else none
 |.store n p r=>bif Nat.beq (r.ev st.f).cells.length n&&(r.ev st.f).cells.all AV.leaf then match Q4 st.m (p.ev st.f) (r.ev st.f).cells with
   |some m'=>some { st with m:=m',f:=Qh st.f d (.tup []) }
   |none=>none
  else none
 |.storev l s n p r=>match p.ev st.f with
  |.ptr l' s' _=>bif Nat.beq l' l&&Nat.beq s' s&&Nat.beq (r.ev st.f).cells.length n&&(r.ev st.f).cells.all AV.leaf then match Q4 st.m (p.ev st.f) (r.ev st.f).cells with
    |some m'=>some { st with m:=m',f:=Qh st.f d (.tup []) }
    |none=>none
   else none
  |_=>none
 |.app sz bytes el s r=>match s.ev st.f with
  |.vec l site g 0 n false=>match Qe st.m l site with
   |.vec g' sz' xs=>match Xf st.m (r.ev st.f)with
    |some ys=>bif Nat.beq g' g&&Nat.beq sz' sz&&Xu site el&&Nat.ble n xs.length&&ys.all (fun e=>e.cells.length==sz)&&Nat.ble (n+ys.length) maxLen&&Nat.ble ((n+ys.length)*bytes) 140737488355328 then
      some { st with m:=Am.put st.m l site (.vec (g+1) sz (xs.take n++ys)),f:=Qh st.f d (.vec l site (g+1) 0 (n+ys.length) false) }
     else none
    |none=>none
   |_=>none
  |_=>none
 |.appl sz bytes el s r=>match s.ev st.f with
  |.vec l site g 0 n false=>match Qe st.m 0 site with
   |.vec g' sz' xs=>match Xf st.m (r.ev st.f)with
    |some ys=>bif Nat.beq l 0&&Nat.beq g' g&&Nat.beq sz' sz&&Xu site el&&Nat.ble n xs.length&&ys.all (fun e=>e.cells.length==sz)&&Nat.ble (n+ys.length) maxLen&&Nat.ble ((n+ys.length)*bytes) 140737488355328 then
      some { st with m:=Am.put st.m 0 site (.vec (g+1+1) sz []),f:=Qh st.f d (.list (xs.take n++ys)) }
     else none
    |none=>none
   |_=>none
  |_=>none
 |.call f args=>match f.ev st.f with
  |.fn (.func k) fa fb=>match AV.stillL false st.m (fa++args.map (RA.ev st.f)++fb)with
   |some ys=>bif AV.rfL ys then match call k ys []with
     |some (v,_)=>bif v.rf&&(AV.rfL (fa++args.map (RA.ev st.f)++fb)||v.nl)then some { st with f:=Qh st.f d v } else none
     |none=>none
    else none
   |none=>none
  |_=>none
 |.callF f args=>match f.ev st.f with
  |.fn (.func k) fa fb=>match call k (fa++args.map (RA.ev st.f)++fb) st.m with
   |some (v,m')=>some { st with m:=m',f:=Qh st.f d v }
   |none=>none
  |_=>none
 |.bsl sz len z ps=>match fill st.f ps (Xk z sz len)with
  |some y=>bif AV.rfL y&&y.all AV.leaf then some { st with f:=Qh st.f d (.list (XH sz len (y.map nn0))) } else none
  |none=>none
 |.bslv site sz len z ps=>match fill st.f ps (Xk z sz len)with
  |some y=>bif AV.rfL y&&y.all AV.leaf&&Qx (Qe st.m 0 site)then some { st with m:=Am.put st.m 0 site (.vec (Qy st.m 0 site) sz (XH sz len (y.map nn0))),f:=Qh st.f d (.vec 0 site (Qy st.m 0 site) 0 len false) } else none
  |none=>none
 |.lit0 _=>some { st with f:=Qh st.f d (.lcap []) }
 |.appe sz bytes _ s r=>match s.ev st.f,r.ev st.f with
  |.lcap xs,.list ys=>bif xs.all (fun e=>e.cells.length==sz)&&ys.all (fun e=>e.cells.length==sz)&&Nat.ble (xs.length+ys.length) maxLen&&Nat.ble ((xs.length+ys.length)*bytes) 140737488355328 then some { st with f:=Qh st.f d (.list (xs++ys)) } else none
  |_,_=>none
 |.bsl0 site sz=>bif Qx (Qe st.m 0 site)then some { st with m:=Am.put st.m 0 site (.vec (Qy st.m 0 site) sz []),f:=Qh st.f d (.vec 0 site (Qy st.m 0 site) 0 0 false) } else none
 |.isnil neg r=>match r.ev st.f with
  |.nils=>some { st with f:=Qh st.f d (.bool (!neg)) }
  |.list l=>match QL l with
   |_ :: _=>some { st with f:=Qh st.f d (.bool neg) }
   | []=>none
  |_=>none
 |.xb cnt _ s c=>match s.ev st.f,c.ev st.f with
  |.str t,.int .u8 b=>some { st with f:=Qh st.f d (.int .i64 (Uc cnt t b)) }
  |_,_=>none
 |.rngs s r=>match r.ev st.f with
  |.str t=>bif XA st.m s then some { st with m:=Am.put st.m 0 s (.iter (.str t) 0),f:=Qh st.f d (.ptr 0 s 0) } else none
  |_=>none
 |.nxts r=>match r.ev st.f with
  |.ptr l s 0=>match Qe st.m l s with
   |.iter (.str t) p=>bif Nat.blt p t.length then some { st with m:=Am.put st.m l s (.iter (.str t) (p+(Xl t p).2)),f:=Qh st.f d (.tup [.bool true,.int .i64 (p:Nat),.int .i32 ((Xl t p).1:Nat)]) } else some { st with f:=Qh st.f d (.tup [.bool false]) }
   |_=>none
  |_=>none
 |.mkm s=>bif XA st.m s then some { st with m:=Am.put st.m 0 s (.iter (.mp [] []) 0),f:=Qh st.f d (.mptr 0 s) } else none
 |.mput x i v=>match x.ev st.f with
  |.mptr l s=>match Qe st.m l s with
   |.iter (.mp ks vs) p=>match i.ev st.f with
    |.str k=>bif (v.ev st.f).gr&&AV.grL vs&&Nat.beq ks.length vs.length then some { st with m:=Am.put st.m l s (.iter (.mp (XE k (v.ev st.f) ks vs).1 (XE k (v.ev st.f) ks vs).2) p),f:=Qh st.f d (.tup []) } else none
    |_=>none
   |_=>none
  |_=>none
 |.mk site _ sz bytes z l c=>match l.ev st.f,c.ev st.f with
  |.int _ (.ofNat n),.int _ (.ofNat k)=>bif Nat.ble n k&&Nat.ble k 9223372036854775807&&Nat.ble (bytes*k) 281474976710656&&Qx (Qe st.m 0 site)then
    some { st with m:=Am.put st.m 0 site (.vec (Qy st.m 0 site) sz (List.replicate n (JE sz z))),f:=Qh st.f d (.vec 0 site (Qy st.m 0 site) 0 n false) }
   else none
  |_,_=>none
where
  isBytes:List AV→List UInt8→Bool
  | [],[]=>true
  |.int .u8 (.ofNat n) :: l,b :: t=>Nat.beq n b.toNat&&isBytes l t
  |_,_=>false

def GK (call:Kq)(it:Item)(st:St):Option St :=
 match it.g with
 |none=>X0 call it.dst it.op st
 |some (j,want)=>match st.f j with
  |.bool b=>bif b==want then X0 call it.dst it.op st else some { st with f:=Qh st.f it.dst (.tup []) }
  |.tup []=>some { st with f:=Qh st.f it.dst (.tup []) }
  |_=>none

def Uq (call:Kq):List Item→St→Option St
 | [],st=>some st
 |it :: its,st=>match GK call it st with
  |some st'=>Uq call its st'
  |none=>none

def Ur (rs:List RR)(n:Nat)(r:Option (Exit×St)):Option (AV×Ql) :=
 match r with
 |some (.normal,st)=>fin st
 |some (.ret,st)=>fin st
 |_=>none
where
 fin (st:St):Option (AV×Ql):=match st.ds with
  | []=>match Ko st rs with
   |some x=>match KB st.m x with
    |some y=>match st.m with
     |_ :: m=>bif Nat.beq m.length n then some (y,m)else none
     | []=>none
    |none=>none
   |none=>none
  |_=>none

def JF (XC:Kq)(T:GJ)(body:RC→St→Option (Exit×St)):Kq:=fun k args m=>
 match XC k args m with
 |some r=>some r
 |none=>match T k with
  |some (c,rs,N)=>bif Nat.ble args.length N then Ur rs m.length (body c (St.enter args m))else none
  |none=>none

def Zt (XC:Kq)(T:GJ):Nat→RC→St→Option (Exit×St)
 |0,_,_=>none
 |n+1,c,st=>match c with
  |.skip=>some (.normal,st)
  |.reg its=>match Uq (JF XC T (Zt XC T n)) its st with
   |some st'=>some (.normal,st')
   |none=>none
  |.draw its=>match Uq (JF XC T (Zt XC T n)) its st with
   |some st'=>some (.normal,st')
   |none=>none
  |.seq a b=>match Zt XC T n a st with
   |some (.normal,st')=>Zt XC T n b st'
   |r=>r
  |.cond c a b=>match c.ev st.f with
   |.bool t=>bif t then Zt XC T n a st else Zt XC T n b st
   |_=>none
  |.block id a=>match Zt XC T n a st with
   |some (.exit i,st')=>if i=id then some (.normal,st')else some (.exit i,st')
   |r=>r
  |.loop a=>match Zt XC T n a st with
   |some (.normal,st')=>Zt XC T n (.loop a) st'
   |r=>r
  |.exit id=>some (.exit id,st)
  |.scope a=>match Zt XC T n a st with
   |some (.goto _,_)=>none
   |r=>r
  |.lab=>some (.normal,st)
  |.ret=>some (.ret,st)
  |.gho g a=>match Z4 g st with
   |some st'=>Zt XC T n a st'
   |none=>none
  |.no=>none

section
variable {P:Program}{T:GJ}

def KE (P:Program)(call:Kq):Prop:=∀k args m v m',call k args m=some (v,m')→Qn P k args m fun x m1=>x=v∧m1=m'

theorem FB {call:Kq}(hc:KE P call){d:Option Nat}{op:RO}{st st':St}(h:X0 call d op st=some st'){K:St→Prop}(hK:K st'):Wy P d op st K:=by
 cases op with
 |val vo=>
  simp only[X0]at h;split at h
  ·rename_i x hx;cases h;exact⟨x,hx,hK⟩
  ·cases h
 |allocN s z=>
  simp only[X0]at h;cases h1:XA st.m s<;>rw[h1]at h<;>simp only[cond_true,cond_false,reduceCtorEq,QGh]at h;subst h;exact⟨h1,hK⟩
 |boxN s r=>
  simp only[X0]at h;cases h1:(XA st.m s&&(r.ev st.f).cells.all AV.leaf)<;>rw[h1]at h<;>simp only[cond_true,cond_false,reduceCtorEq,QGh]at h;rw[QGd]at h1;subst h;exact⟨h1.1,h1.2,hK⟩
 |store n p r=>
  simp only[X0]at h;cases h1:(Nat.beq (r.ev st.f).cells.length n&&(r.ev st.f).cells.all AV.leaf)<;>rw[h1]at h<;>simp only[cond_true,cond_false,reduceCtorEq]at h;rw[QGd]at h1;split at h
  ·rename_i m' hm;cases h;exact⟨QFO h1.1,h1.2,m',hm,hK⟩
  ·cases h
 |storev l s n p r=>
  simp only[X0]at h;split at h
  ·rename_i l' s' o hp;cases h1:(Nat.beq l' l&&Nat.beq s' s&&Nat.beq (r.ev st.f).cells.length n&&(r.ev st.f).cells.all AV.leaf)<;>rw[h1]at h<;>simp only[cond_true,cond_false,reduceCtorEq]at h;simp only[QGd]at h1;obtain⟨⟨⟨a1,a2⟩,a3⟩,a4⟩:=h1;have e1:=QFO a1;have e2:=QFO a2;subst e1 e2;split at h
   ·rename_i m' hm;cases h;exact⟨⟨o,hp⟩,QFO a3,a4,m',hm,hK⟩
   ·cases h
  ·cases h
 |app sz bytes el s r=>
  simp only[X0]at h;split at h
  ·rename_i l site g n hs;split at h
   ·rename_i g' sz' xs hl;split at h
    ·rename_i ys hy;cases h1:(Nat.beq g' g&&Nat.beq sz' sz&&Xu site el&&Nat.ble n xs.length&&ys.all (fun e=>e.cells.length==sz)&&Nat.ble (n+ys.length) maxLen&&Nat.ble ((n+ys.length)*bytes) 140737488355328)<;>rw[h1]at h<;>simp only[cond_true,cond_false,reduceCtorEq,QGh]at h;simp only[QGd]at h1;obtain⟨⟨⟨⟨⟨⟨a1,a2⟩,a3⟩,a4⟩,a5⟩,a6⟩,a7⟩:=h1;have e1:=QFO a1;have e2:=QFO a2;subst e1 e2 h;exact⟨l,site,_,n,xs,ys,hs,hl,a3,QHc a4,hy,a5,QHc a6,QHc a7,hK⟩
    ·cases h
   ·cases h
  ·cases h
 |appl sz bytes el s r=>
  simp only[X0]at h;split at h
  ·rename_i l site g n hs;split at h
   ·rename_i g' sz' xs hl;split at h
    ·rename_i ys hy;cases h1:(Nat.beq l 0&&Nat.beq g' g&&Nat.beq sz' sz&&Xu site el&&Nat.ble n xs.length&&ys.all (fun e=>e.cells.length==sz)&&Nat.ble (n+ys.length) maxLen&&Nat.ble ((n+ys.length)*bytes) 140737488355328)<;>rw[h1]at h<;>simp only[cond_true,cond_false,reduceCtorEq,QGh]at h;simp only[QGd]at h1;obtain⟨⟨⟨⟨⟨⟨⟨a0,a1⟩,a2⟩,a3⟩,a4⟩,a5⟩,a6⟩,a7⟩:=h1;have e0:=QFO a0;have e1:=QFO a1;have e2:=QFO a2;subst e0 e1 e2 h;exact⟨site,_,n,xs,ys,hs,hl,a3,QHc a4,hy,a5,QHc a6,QHc a7,hK⟩
    ·cases h
   ·cases h
  ·cases h
 |call f args=>
  simp only[X0]at h;split at h
  ·rename_i k fa fb hf;split at h
   ·rename_i ys hy;cases h1:AV.rfL ys<;>rw[h1]at h<;>simp only[cond_true,cond_false,reduceCtorEq]at h;split at h
    ·rename_i v m' hv;cases h2:(v.rf&&(AV.rfL (fa++args.map (RA.ev st.f)++fb)||v.nl))<;>rw[h2]at h<;>simp only[cond_true,cond_false,reduceCtorEq,QGh]at h;rw[QGd,QGI]at h2;subst h;exact⟨k,fa,fb,ys,v,hf,hy,h1,(hc _ _ _ _ _ hv).mono (fun _ _ e=>e.1),h2.1,h2.2,hK⟩
    ·cases h
   ·cases h
  ·cases h
 |callF f args=>
  simp only[X0]at h;split at h
  ·rename_i k fa fb hf;split at h
   ·rename_i v m' hv;cases h;exact⟨k,fa,fb,v,m',hf,hc _ _ _ _ _ hv,hK⟩
   ·cases h
  ·cases h
 |bsl sz len z ps=>
  simp only[X0]at h;split at h
  ·rename_i y hy;cases h1:(AV.rfL y&&y.all AV.leaf)<;>rw[h1]at h<;>simp only[cond_true,cond_false,reduceCtorEq,QGh]at h;rw[QGd]at h1;subst h;exact⟨y,hy,h1.1,h1.2,hK⟩
  ·cases h
 |bslv site sz len z ps=>
  simp only[X0]at h;split at h
  ·rename_i y hy;cases h1:(AV.rfL y&&y.all AV.leaf&&Qx (Qe st.m 0 site))<;>rw[h1]at h<;>simp only[cond_true,cond_false,reduceCtorEq,QGh]at h;simp only[QGd]at h1;subst h;exact⟨y,hy,h1.1.1,h1.1.2,h1.2,hK⟩
  ·cases h
 |lit0 sz=>
  simp only[X0,QGh]at h;subst h;exact hK
 |appe sz bytes el s r=>
  simp only[X0]at h;split at h
  ·rename_i xs ys hs hy;cases h1:(xs.all (fun e=>e.cells.length==sz)&&ys.all (fun e=>e.cells.length==sz)&&Nat.ble (xs.length+ys.length) maxLen&&Nat.ble ((xs.length+ys.length)*bytes) 140737488355328)<;>rw[h1]at h<;>simp only[cond_true,cond_false,reduceCtorEq,QGh]at h;simp only[QGd]at h1;obtain⟨⟨⟨a1,a2⟩,a3⟩,a4⟩:=h1;subst h;exact⟨xs,ys,hs,hy,a1,a2,QHc a3,QHc a4,hK⟩
  ·cases h
 |bsl0 site sz=>
  simp only[X0]at h;cases h1:Qx (Qe st.m 0 site)<;>rw[h1]at h<;>simp only[cond_true,cond_false,reduceCtorEq,QGh]at h;subst h;exact⟨h1,hK⟩
 |isnil neg r=>
  simp only[X0]at h;split at h
  ·rename_i hr;cases h;exact⟨[],by rw[hr];rfl,fun e=>absurd hr e,fun _=>hK⟩
  ·rename_i l hr;split at h
   ·rename_i z zs hf;cases h;exact⟨l,by rw[hr];rfl,fun _=>hK,fun e=>by
     rcases e with e|e
     ·rw[hr]at e;cases e
     ·rw[hf]at e;cases e⟩
   ·cases h
  ·cases h
 |xb cnt k s c=>
  simp only[X0]at h;split at h
  ·rename_i t b hs hb;cases h;exact⟨t,b,hs,hb,hK⟩
  ·cases h
 |rngs s r=>
  simp only[X0]at h;split at h
  ·rename_i t ht;cases h1:XA st.m s<;>rw[h1]at h<;>simp only[cond_true,cond_false,reduceCtorEq,QGh]at h;subst h;exact⟨t,ht,h1,hK⟩
  ·cases h
 |mkm s=>
  simp only[X0]at h;cases h1:XA st.m s<;>rw[h1]at h<;>simp only[cond_true,cond_false,reduceCtorEq,QGh]at h;subst h;exact⟨h1,hK⟩
 |mput x i v=>
  simp only[X0]at h;split at h
  ·rename_i l s hx;split at h
   ·rename_i ks vs p hl;split at h
    ·rename_i k hi;cases h1:((v.ev st.f).gr&&AV.grL vs&&Nat.beq ks.length vs.length)<;>rw[h1]at h<;>simp only[cond_true,cond_false,reduceCtorEq,QGh]at h;subst h;simp only[QGd]at h1;exact⟨l,s,ks,vs,p,k,hx,hl,hi,h1.1.1,h1.1.2,QFO h1.2,hK⟩
    ·cases h
   ·cases h
  ·cases h
 |nxts r=>
  simp only[X0]at h;split at h
  ·rename_i l s hr;split at h
   ·rename_i t p hl;refine⟨l,s,t,p,hr,hl,fun e=>?_,fun e=>?_⟩
    ·have hb:Nat.blt p t.length=true:=by simp[Nat.blt_eq,e]
     rw[hb]at h;cases h;exact hK
    ·have hb:Nat.blt p t.length=false:=by
      cases hb:Nat.blt p t.length with
      |false=>rfl
      |true=>rw[Nat.blt_eq]at hb;omega
     rw[hb]at h;cases h;exact hK
   ·cases h
  ·cases h
 |mk site el sz bytes z l c=>
  simp only[X0]at h;split at h
  ·rename_i kl n kc k hl hcc;cases h1:(Nat.ble n k&&Nat.ble k 9223372036854775807&&Nat.ble (bytes*k) 281474976710656&&Qx (Qe st.m 0 site))<;>rw[h1]at h<;>simp only[cond_true,cond_false,reduceCtorEq,QGh]at h;simp only[QGd]at h1;obtain⟨⟨⟨a1,a2⟩,a3⟩,a4⟩:=h1;subst h;exact⟨kl,kc,n,k,hl,hcc,QHc a1,QHc a2,QHc a3,a4,hK⟩
  ·cases h

theorem Vk {call:Kq}(hc:KE P call){it:Item}{st st':St}(h:GK call it st=some st'){K:St→Prop}(hK:K st'):XM P it st K:=by
 obtain⟨d,op,g⟩:=it;cases g with
 |none=>exact FB (d:=d) hc h hK
 |some p=>
  obtain⟨j,want⟩:=p;simp only[GK]at h;simp only[XM];split at h
  ·rename_i b hj;simp only[hj];cases hb:(b==want)with
   |true=>
    rw[hb]at h;have e:b=want:=by simpa using hb
    exact⟨fun _=>FB hc h hK,fun e'=>by rw[e]at e';cases want<;>cases e'⟩
   |false=>
    rw[hb]at h;simp only[cond_false,QGh]at h;subst h;exact⟨fun e=>by rw[e]at hb;simp at hb,fun _=>hK⟩
  ·rename_i hj;cases h;simp only[hj];exact⟨trivial,hK⟩
  ·cases h

theorem YK {call:Kq}(hc:KE P call):∀ {its:List Item} {st st':St},Uq call its st=some st'→∀ {K:St→Prop},K st'→Qj P its st K
 | [],_,_,h,_,hK=>by cases h;exact hK
 |it :: its,st,st',h,K,hK=>by
  simp only[Uq]at h;split at h
  ·rename_i st1 h1;exact Vk hc h1 (YK hc h hK)
  ·cases h

theorem PC {rs:List RR}{n:Nat}{r:Option (Exit×St)}{v:AV}{m':Ql}(h:Ur rs n r=some (v,m')):∃e st,r=some (e,st)∧Zm rs n (fun x m1=>x=v∧m1=m') e st:=by
 have fin:∀ {e:Exit} {st:St},(e=.normal∨e=.ret)→Ur.fin rs n st=some (v,m')→Zm rs n (fun x m1=>x=v∧m1=m') e st:=by
  intro e st he h;unfold Ur.fin at h;split at h
  ·rename_i hds;split at h
   ·rename_i x hx;split at h
    ·rename_i y hy;split at h
     ·rename_i fr m hm;cases hb:Nat.beq m.length n with
      |false=>rw[hb]at h;cases h
      |true=>
       rw[hb]at h;simp only[cond_true,QGh,Prod.mk.injEq]at h;exact⟨he,hds,x,y,fr,m,hx,hy,hm,QFO hb,h.1,h.2⟩
     ·cases h
    ·cases h
   ·cases h
  ·cases h
 unfold Ur at h;split at h
 ·exact⟨_,_,rfl,fin (.inl rfl) h⟩
 ·exact⟨_,_,rfl,fin (.inr rfl) h⟩
 ·cases h

theorem ZU {XC:Kq}(hN:KE P XC)(hT:Uo P T){body:RC→St→Option (Exit×St)}(hb:∀c st e st',body c st=some (e,st')→∀Q:Exit→St→Prop,Q e st'→QK P c st Q):KE P (JF XC T body):=by
 intro k args m v m' h;unfold JF at h;split at h
 ·rename_i r hr;cases h;exact hN _ _ _ _ _ hr
 split at h
 ·rename_i c rs N hk;cases hN:Nat.ble args.length N with
  |false=>rw[hN]at h;cases h
  |true=>
   rw[hN]at h;simp only[cond_true]at h;obtain⟨e,st,h1,h2⟩:=PC h;obtain⟨fn,cd,a1,a2,a3,a4,a5,a6⟩:=hT k c rs N hk;exact Wz a1 a2 a3 a4 a5 a6 (QHc hN) (hb _ _ _ _ h1 _ h2)
 ·cases h

theorem WT {XC:Kq}(hN:KE P XC)(hT:Uo P T):∀(n:Nat) (c:RC) (st:St) (e:Exit) (st':St),Zt XC T n c st=some (e,st')→∀Q:Exit→St→Prop,Q e st'→QK P c st Q:=by
 intro n
 induction n using Nat.strongRecOn with
 |_ n ihs=>
 cases n with
 |zero=>intro c st e st' h;cases h
 |succ n=>
  intro c st e st' h Q hQ;have ih:=ihs n (Nat.lt_succ_self n);cases c with
  |skip=>cases h;exact hQ
  |reg its=>
   simp only[Zt]at h;split at h
   ·rename_i st1 h1;cases h;exact YK (ZU hN hT ih) h1 hQ
   ·cases h
  |draw its=>
   simp only[Zt]at h;split at h
   ·rename_i st1 h1;cases h;exact YK (ZU hN hT ih) h1 hQ
   ·cases h
  |seq a b=>
   simp only[Zt]at h;split at h
   ·rename_i st1 h1;exact ih _ _ _ _ h1 _ (ih _ _ _ _ h Q hQ)
   ·rename_i h1;refine ih _ _ _ _ h _ ?_;cases e with
    |normal=>exact absurd h (h1 st')
    |_=>exact hQ
  |cond c a b=>
   simp only[Zt]at h;split at h
   ·rename_i t ht;cases t with
    |true=>exact⟨true,ht,fun _=>ih _ _ _ _ h Q hQ,(fun e=>by cases e)⟩
    |false=>exact⟨false,ht,(fun e=>by cases e),fun _=>ih _ _ _ _ h Q hQ⟩
   ·cases h
  |block id a=>
   simp only[Zt]at h;split at h
   ·rename_i i st1 h1;refine ih _ _ _ _ h1 _ ?_;show if i=id then Q .normal st1 else Q (.exit i) st1
    split at h
    ·rename_i hi;cases h;rw[QFY hi];exact hQ
    ·rename_i hi;cases h;rw[QFX hi];exact hQ
   ·rename_i h1;refine ih _ _ _ _ h _ ?_;cases e with
    |exit i=>exact absurd h (h1 i st')
    |_=>exact hQ
  |loop a=>
   refine⟨fun k s=>k≤n∧Zt XC T (k+1) (.loop a) s=some (e,st'),n,⟨QFQ _,h⟩,fun k s hh=>?_⟩;obtain⟨hk,hs⟩:=hh;simp only[Zt]at hs;split at hs
   ·rename_i st1 h1;refine ihs k (by omega) _ _ _ _ h1 _ ?_;show ∃j,j<k∧j≤n∧Zt XC T (j+1) (.loop a) st1=some (e,st');cases k with
    |zero=>cases h1
    |succ j=>exact⟨j,Nat.lt_succ_self j,by omega,hs⟩
   ·rename_i h1;refine ihs k (by omega) _ _ _ _ hs _ ?_;cases e with
    |normal=>exact absurd hs (h1 st')
    |_=>exact hQ
  |exit id=>cases h;exact hQ
  |scope a=>
   simp only[Zt]at h;split at h
   ·cases h
   ·rename_i h1;refine ih _ _ _ _ h _ ?_;cases e with
    |goto i=>exact absurd h (h1 i st')
    |_=>exact hQ
  |lab=>cases h;exact hQ
  |ret=>cases h;exact hQ
  |gho g a=>
   simp only[Zt]at h;split at h
   ·rename_i st1 h1;exact⟨st1,h1,ih _ _ _ _ h Q hQ⟩
   ·cases h
  |no=>cases h

def LR (XC:Kq)(T:GJ)(n:Nat)(k:FuncId)(args:List AV):Bool :=
 match JF XC T (Zt XC T n) k args []with
 |some (.bool true,_)=>true
 |_=>false

theorem Na {XC:Kq}(hN:KE P XC)(hT:Uo P T){n:Nat}{k:FuncId}{args:List AV}(h:LR XC T n k args=true):Qs P k args (.bool true):=by
 unfold LR at h;split at h
 ·rename_i m' h1;exact(ZU hN hT (WT hN hT n) _ _ _ _ _ h1).mono fun _ _ e=>e.1
 ·cases h

end

set_option linter.defProp false in
def Qa:=(QHo (QHo (QHo (QHo (QHo (QHo (QHo (QHo @Am.Qo5 @Am.Qo4) (QHo @Am.Lp @Am.Qo7)) (QHo (QHo @Am.Lt @Am.Lu) (QHo @Am.Lv (QHo @Am.AQ @Am.AT)))) (QHo (QHo (QHo @Am.Ln @Am.Qo2) (QHo @Am.Qo3 @Am.Lo)) (QHo (QHo @Am.Lw @Am.Lx) (QHo @Am.Ly (QHo @Am.Lz @Am.LA))))) (QHo (QHo (QHo (QHo @Am.LB @Am.LC) (QHo @Am.LD @Am.LF)) (QHo (QHo @Am.Lr @Am.Lq) (QHo @Am.Qo6 (QHo @Am.e_c @Am.e_t)))) (QHo (QHo (QHo @Am.e_f @Am.Qo9) (QHo @Am.GD @Am.Qo8)) (QHo (QHo @Am.Qpb @Am.e_g) (QHo @Am.Pq (QHo @Am.Ps @Am.N9)))))) (QHo (QHo (QHo (QHo (QHo @Am.Vb @Am.Pt) (QHo @Am.B1 @Am.B2)) (QHo (QHo @Am.Vc @Am.Pl) (QHo @Am.Pm (QHo @Am.Pu @Am.Pv)))) (QHo (QHo (QHo @Am.LK @Am.QA.eq_1) (QHo @Am.QA.eq_2 @Am.QA.eq_3)) (QHo (QHo @Am.QA.eq_4 @Am.QA.eq_5) (QHo @Am.QA.eq_6 (QHo @Am.QA.eq_7 @Am.QA.eq_8))))) (QHo (QHo (QHo (QHo @Am.QA.eq_9 @Am.QA.eq_10) (QHo @Am.QA.eq_11 @Am.QA.eq_12)) (QHo (QHo @Am.QA.eq_13 @Am.QA.eq_14) (QHo @Am.QA.eq_15 (QHo @Am.QA.eq_16 @Am.QA.eq_17)))) (QHo (QHo (QHo @Am.QA.eq_18 @Am.QA.eq_19) (QHo @Am.QA.eq_20 @Am.QA.eq_21)) (QHo (QHo @Am.QA.eq_22 @Am.QA.eq_23) (QHo @Am.QA.eq_24 (QHo @Am.QA.eq_25 @Am.QA.eq_26))))))) (QHo (QHo (QHo (QHo (QHo (QHo @Am.QA.eq_27 @Am.QA.eq_28) (QHo @Am.QA.eq_29 @Am.QA.eq_1)) (QHo (QHo @Am.QA.eq_1 @Am.QA.eq_1) (QHo @Am.QA.eq_1 (QHo @Am.QA.eq_1 @Am.QA.eq_1)))) (QHo (QHo (QHo @Am.QA.eq_1 @Am.XD.eq_1) (QHo @Am.XD.eq_2 @Am.XD.eq_3)) (QHo (QHo @Am.XD.eq_4 @Am.XD.eq_5) (QHo @Am.XD.eq_6 (QHo @Am.XD.eq_7 @Am.XD.eq_8))))) (QHo (QHo (QHo (QHo @Am.XD.eq_9 @Am.XD.eq_10) (QHo @Am.XD.eq_11 @Am.XD.eq_12)) (QHo (QHo @Am.XD.eq_13 @Am.XD.eq_14) (QHo @Am.XD.eq_15 (QHo @Am.XD.eq_16 @Am.XD.eq_17)))) (QHo (QHo (QHo @Am.X4.eq_1 @Am.X4.eq_2) (QHo @Am.X4.eq_3 @Am.X4.eq_4)) (QHo (QHo @Am.X4.eq_5 @Am.X4.eq_6) (QHo @Am.X4.eq_7 (QHo @Am.X4.eq_8 @Am.X4.eq_9)))))) (QHo (QHo (QHo (QHo (QHo @Am.X4.eq_10 @Am.X4.eq_11) (QHo @Am.X4.eq_12 @Am.X4.eq_13)) (QHo (QHo @Am.X4.eq_14 @Am.X4.eq_15) (QHo @Am.X4.eq_16 (QHo @Am.Gi.eq_1 @Am.Gi.eq_2)))) (QHo (QHo (QHo @Am.Gi.eq_3 @Am.Gi.eq_4) (QHo @cond_true.{0} @cond_true.{1})) (QHo (QHo @cond_false.{0} @cond_false.{1}) (QHo @true_and (QHo @and_true @QGL.{0}))))) (QHo (QHo (QHo (QHo @QGQ.{0} @List.getElem?_nil.{0}) (QHo @QGU.{0} @QHg.{0})) (QHo (QHo @Am.St.enter.eq_1 @Am.BH.eq_1) (QHo @Am.AV.shL.eq_1 (QHo @Am.AV.shL.eq_2 @Am.AV.sh.eq_1)))) (QHo (QHo (QHo @Am.AV.sh.eq_2 @Am.AV.sh.eq_3) (QHo @Am.AV.sh.eq_4 @Am.AV.sh.eq_5)) (QHo (QHo @Am.AV.sh.eq_6 @Am.AV.sh.eq_7) (QHo @Am.AV.sh.eq_8 (QHo @Am.AV.sh.eq_9 @Am.Ko.eq_1)))))))) (QHo (QHo (QHo (QHo (QHo (QHo (QHo @Am.Ko.eq_2 @Am.RR.ev.eq_1) (QHo @Am.RR.ev.eq_2 @Am.RR.evL.eq_1)) (QHo (QHo @Am.RR.evL.eq_2 @Am.KB.eq_1) (QHo @Am.AV.still.eq_1 (QHo @Am.AV.still.eq_2 @Am.AV.still.eq_3)))) (QHo (QHo (QHo @Am.AV.still.eq_4 @Am.AV.still.eq_5) (QHo @Am.AV.still.eq_6 @Am.AV.still.eq_7)) (QHo (QHo @Am.AV.still.eq_8 @Am.AV.stillL.eq_1) (QHo @Am.AV.stillL.eq_2 (QHo @Am.AV.un.eq_1 @Am.AV.un.eq_2))))) (QHo (QHo (QHo (QHo @Am.AV.un.eq_3 @Am.AV.un.eq_4) (QHo @Am.AV.un.eq_5 @Am.AV.un.eq_6)) (QHo (QHo @Am.AV.un.eq_7 @Am.AV.un.eq_8) (QHo @Am.AV.un.eq_9 (QHo @Am.AV.un.eq_10 @Am.AV.un.eq_11)))) (QHo (QHo (QHo @Am.AV.un.eq_12 @Am.AV.un.eq_13) (QHo @Am.AV.unL.eq_1 @Am.AV.unL.eq_2)) (QHo (QHo @QGT.{0,0} @QGg.{0,0}) (QHo @if_true.{0} (QHo @if_true.{1} @if_false.{0})))))) (QHo (QHo (QHo (QHo (QHo @if_false.{1} @QF9) (QHo @Go.IntKind.bits.eq_1 @Go.IntKind.bits.eq_2)) (QHo (QHo @Go.IntKind.bits.eq_3 @Go.IntKind.bits.eq_4) (QHo @Go.IntKind.bits.eq_5 (QHo @Go.IntKind.bits.eq_6 @Go.IntKind.bits.eq_7)))) (QHo (QHo (QHo @Go.IntKind.bits.eq_8 @QGV.{0}) (QHo @QF5.{0} @QHp)) (QHo (QHo @QGX @forall_const.{1}) (QHo @not_true_eq_false (QHo @not_false_eq_true @Am.Z6))))) (QHo (QHo (QHo (QHo @QHq @QGR) (QHo @Am.Wc.eq_1 @ne_eq.{1})) (QHo (QHo @Nat.one_ne_zero @decide_true) (QHo @decide_false (QHo @Am.AU @Am.Po)))) (QHo (QHo (QHo @Am.LH @Am.Pp) (QHo @Am.LI @Am.LG)) (QHo (QHo @Am.Qpa @Am.XA.eq_1) (QHo @Am.AV.unNL.eq_1 (QHo @Am.AV.unNL.eq_2 @Am.AV.unNL_zero))))))) (QHo (QHo (QHo (QHo (QHo (QHo @Am.AV.shNL.eq_1 @Am.AV.shNL.eq_2) (QHo @Am.AV.shN.eq_1 @Am.AV.shN.eq_2)) (QHo (QHo @Am.splice.eq_1 @Am.part.eq_1) (QHo @Am.part.eq_2 (QHo @Am.fill.eq_1 @Am.fill.eq_2)))) (QHo (QHo (QHo @Am.AV.leaf.eq_1 @Am.AV.leaf.eq_2) (QHo @Am.AV.leaf.eq_3 @Am.AV.leaf.eq_4)) (QHo (QHo @QGW.{0} @List.all_nil.{0}) (QHo @List.take_succ_cons.{0} (QHo @QGS.{0} @List.take_nil.{0}))))) (QHo (QHo (QHo (QHo @QGq.{0} @QGw.{0}) (QHo @List.drop_nil.{0} @QGc.{0})) (QHo (QHo @QGb.{0} @QGM.{0}) (QHo @Am.Qf.eq_1 (QHo @QGN @Am.ZL.eq_1)))) (QHo (QHo (QHo @Am.ZL.eq_2 @Am.ZL.eq_3) (QHo @Am.ZL.eq_4 @Am.ZL.eq_5)) (QHo (QHo @Am.ZL.eq_6 @Am.J0.eq_1) (QHo @Am.J0.eq_2 (QHo @Am.Xr.eq_1 @Am.Xr.eq_2)))))) (QHo (QHo (QHo (QHo (QHo @Am.Xr.eq_3 @Am.Xr.eq_4) (QHo @Am.Xr.eq_5 @Am.Xr.eq_6)) (QHo (QHo @Am.Xr.eq_7 @Am.Yj.eq_1) (QHo @Am.Yj.eq_2 (QHo @Am.Yj.eq_3 @Am.YZ.eq_1)))) (QHo (QHo (QHo @Am.YZ.eq_2 @Am.YZ.eq_3) (QHo @Am.YZ.eq_4 @Am.Qzp)) (QHo (QHo @Am.NZ @Am.N0) (QHo @Am.N1 (QHo @Am.BQ @Am.N2))))) (QHo (QHo (QHo (QHo @Am.BR @Am.BS) (QHo @Am.BT @Am.BU)) (QHo (QHo @Am.BW @Am.N3) (QHo @Am.N4 (QHo @Am.N5 @Am.N6)))) (QHo (QHo (QHo @Am.BX @Am.N7) (QHo @Am.BY (QHo @Am.Fe @Am.N8))) (QHo (QHo @Am.BZ @Am.Yo) (QHo @Am.Ff (QHo @Am.B0 @QGK.{0,0})))))))))

set_option linter.defProp false in
def FC:=(QHo (QHo (QHo @Am.Q4.eq_1 (QHo @Am.Q4.eq_2 @Am.Q4.eq_3)) (QHo (QHo @Am.Xc.eq_1 @Am.Xc.eq_2) (QHo @Am.Xc.eq_3 @Am.Xc.eq_4))) (QHo (QHo (QHo @Am.Qe.eq_1 @Am.Qe.eq_2) (QHo @Am.Qe.eq_3 @Am.put.eq_1)) (QHo (QHo @Am.put.eq_2 @Am.put.eq_3) (QHo @Am.AV.cells.eq_1 @Am.AV.cells.eq_2))))

set_option linter.defProp false in
def eE := QHo Qa FC

end Go.Proofs.YtnpajgoobomndaaGreatDoor.Am

namespace Go.Proofs.YtnpajgoobomndaaGreatDoor.Rc
open Go Am
abbrev ja (a b:Nat):Am.Item:=⟨some a,.val (.mov (.t b)),none⟩
abbrev jb (a b c:Nat):Am.Item:=⟨some a,.val (.faddr b (.t c)),none⟩
abbrev jc (a b:Nat):Am.Item:=⟨some a,.val (.load none (.t b)),none⟩
abbrev jd (a:Nat)(b:Int):Am.Item:=⟨some a,.val (.mov (.c (.int .i64 b))),none⟩
abbrev je (a b c:Nat):Am.Item:=⟨some a,.val (.load (some b) (.t c)),none⟩
abbrev jf (a:Nat):Am.Item:=⟨some a,.val (.mov (.c (.bool false))),none⟩
abbrev jg (a b c:Nat):Am.Item:=⟨some a,.boxN b (.t c),none⟩
abbrev jh (a b c:Nat):Am.Item:=⟨none,.store a (.t b) (.t c),none⟩
abbrev ji (a b c:Nat):Am.Item:=⟨some a,.val (.pick (.t b) (.t c) (.c (.bool false))),none⟩
abbrev jj (a b c:Nat):Am.Item:=⟨some a,.val (.mov (.t b)),some (c,true)⟩
abbrev jk (a b c:Nat):Am.Item:=⟨some a,.val (.len b (.t c)),none⟩
abbrev jl (a b c d:Nat):Am.Item:=⟨some a,.val (.faddr b (.t c)),some (d,true)⟩
abbrev jm (a b c d:Nat):Am.Item:=⟨some a,.val (.iaddr b none (.t c) (.t d)),none⟩
abbrev jn (a b:Nat)(c:Int):Am.Item:=⟨some a,.val (.bin .num .add (.t b) (.c (.int .i64 c))),none⟩
abbrev jo (a b c:Nat):Am.Item:=⟨some a,.val (.pick (.t b) (.c (.bool true)) (.t c)),none⟩
abbrev jp (a b c d:Nat):Am.Item:=⟨some a,.val (.faddr b (.t c)),some (d,false)⟩
abbrev jq (a b c:Nat):Am.Item:=⟨some a,.val (.load none (.t b)),some (c,true)⟩
abbrev jr (a b c:Nat):Am.Item:=⟨some a,.val (.bin .num .lss (.t b) (.t c)),none⟩
abbrev js (a b:Nat)(c:Int):Am.Item:=⟨some a,.val (.bin .num .eql (.t b) (.c (.int .i64 c))),none⟩
abbrev jt (a b c:Nat):Am.Item:=⟨some a,.val (.ext (.t b) c),none⟩
abbrev ju (a b c:Nat):Am.Item:=⟨some a,.call (.f b) [(.t c)],none⟩
abbrev jv (a b c:Nat):Am.Item:=⟨some a,.val (.mov (.t b)),some (c,false)⟩
abbrev jw (a b c d:Nat):Am.Item:=⟨some a,.val (.loadv b c none (.t d)),none⟩
abbrev jx (a b c d:Nat):Am.Item:=⟨some a,.call (.f b) [(.t c),(.t d)],none⟩
abbrev jy (a b:Nat):Am.Item:=⟨some a,.val (.un .not (.t b)),none⟩
abbrev jz (a b c:Nat):Am.Item:=⟨some a,.val (.load none (.t b)),some (c,false)⟩
abbrev ya (a:Nat):Am.Item:=⟨some a,.val (.mov (.c (.bool true))),none⟩
abbrev yb (a b c d:Nat)(e:Int):Am.Item:=⟨some a,.callF (.f b) [(.t c),(.t d),(.c (.int .i64 e))],none⟩
abbrev yc (a b:Nat)(c:Int):Am.Item:=⟨some a,.val (.bin .num .neq (.t b) (.c (.int .i64 c))),none⟩
abbrev yd (a b:Nat)(c:Int):Am.Item:=⟨some a,.val (.bin .num .geq (.t b) (.c (.int .i64 c))),none⟩
abbrev ye (a b c d:Nat):Am.Item:=⟨some a,.val (.len b (.t c)),some (d,true)⟩
abbrev yf (a b c d e:Nat):Am.Item:=⟨some a,.val (.loadv b c (some d) (.t e)),none⟩
abbrev yg (a b:Nat)(c:Int):Am.Item:=⟨some a,.val (.bin .num .lss (.t b) (.c (.int .i64 c))),none⟩
abbrev yh (a:Nat):Am.Item:=⟨some a,.val (.mov (.c (.nils))),none⟩
abbrev yi (a b c d e:Nat):Am.Item:=⟨some a,.val (.loadv b c none (.t d)),some (e,false)⟩
abbrev yj (a b c d e f:Nat):Am.Item:=⟨some a,.app b c d (.t e) (.t f),none⟩
abbrev yk (a b c d e:Nat):Am.Item:=⟨some a,.call (.f b) [(.t c),(.t d),(.t e)],none⟩
abbrev yl (a b:Nat):Am.Item:=⟨some a,.val (.nilck (.t b)),none⟩
abbrev ym (a b:Nat)(c:Int)(d:Nat):Am.Item:=⟨some a,.val (.bin .num .eql (.t b) (.c (.int .i64 c))),some (d,true)⟩
abbrev yn (a b c d:Nat):Am.Item:=⟨some a,.val (.load (some b) (.t c)),some (d,false)⟩
abbrev yo (a b c d:Nat):Am.Item:=⟨some a,.callF (.f b) [(.t c),(.t d)],none⟩
abbrev yp (a b c:Nat):Am.Item:=⟨some a,.val (.bin .str .eql (.t b) (.t c)),none⟩
abbrev yq (a b:Nat)(c:Int)(d:Nat):Am.Item:=⟨some a,.val (.bin .num .leq (.t b) (.c (.int .i64 c))),some (d,true)⟩
abbrev yr (a b c d:Nat)(e f:Int):Am.Item:=⟨some a,.callF (.f b) [(.t c),(.t d),(.c (.int .i64 e)),(.c (.int .i64 f))],none⟩
abbrev ys (a b:Nat)(c:Int):Am.Item:=⟨some a,.val (.bin .num .gtr (.t b) (.c (.int .i64 c))),none⟩
abbrev yt (a b c:Nat):Am.Item:=⟨some a,.val (.un .not (.t b)),some (c,false)⟩
abbrev yu (a b c:Nat):Am.Item:=⟨some a,.val (.loadr (some b) (.t c)),none⟩
abbrev yv (a b:Nat)(c:Int)(d:Nat):Am.Item:=⟨some a,.val (.bin .num .eql (.t b) (.c (.int .i64 c))),some (d,false)⟩
abbrev yw (a b:Nat):Am.Item:=⟨some a,.allocN b [.int .i64 0,.str [],.str [],.int .i64 0,.int .i64 0,.int .i64 0,.int .i64 0,.int .i64 0],none⟩
abbrev yx (a b c d e:Nat)(f:Int):Am.Item:=⟨some a,.callF (.f b) [(.t c),(.t d),(.t e),(.c (.int .i64 f))],none⟩
abbrev yy (a b c:Nat):Am.Item:=⟨some a,.val (.un .not (.t b)),some (c,true)⟩
abbrev yz (a b c d e:Nat):Am.Item:=⟨none,.storev a b c (.t d) (.t e),none⟩
abbrev za (a b c d:Nat):Am.Item:=⟨some a,.call (.f b) [(.t c)],some (d,false)⟩
abbrev zb (a b c d:Nat):Am.Item:=⟨some a,.val (.load (some b) (.t c)),some (d,true)⟩
abbrev zd (a b c:Nat):Am.Item:=⟨some a,.val (.bin .num .add (.t b) (.t c)),none⟩
abbrev ze (a b:Nat)(c:Int)(d:Nat):Am.Item:=⟨some a,.val (.bin .num .neq (.t b) (.c (.int .i64 c))),some (d,false)⟩
abbrev zf (a b:Nat):Am.Item:=⟨some a,.allocN b [.str [],.nils,.nils,.nils,.nils],none⟩
abbrev zg (a b:Nat):Am.Item:=⟨some a,.allocN b [.str [],.bool false,.nils,.nils,.nils],none⟩
abbrev zh (a b:Nat)(c:Int):Am.Item:=⟨some a,.val (.bin .num .sub (.t b) (.c (.int .i64 c))),none⟩
abbrev zi (a b c d e:Nat):Am.Item:=⟨some a,.val (.iaddr b none (.t c) (.t d)),some (e,true)⟩
abbrev zj (a b c d e:Nat):Am.Item:=⟨some a,.call (.f b) [(.t c),(.t d)],some (e,false)⟩
abbrev zk (a b c d:Nat):Am.Item:=⟨some a,.call (.f b) [(.t c)],some (d,true)⟩
abbrev zl (a b:Nat):Am.Item:=⟨some a,.val (.cvi .i32 (.t b)),none⟩
abbrev zm (a b c:Nat):Am.Item:=⟨some a,.val (.bin .num .eql (.t b) (.t c)),none⟩
abbrev zn (a b c:Nat):Am.Item:=⟨some a,.val (.mkfn (.func b) [] [(.t c)]),none⟩
abbrev zo (a b:Nat)(c:Int)(d:Nat):Am.Item:=⟨some a,.val (.bin .num .gtr (.t b) (.c (.int .i64 c))),some (d,false)⟩
abbrev zp (a b:Nat)(c:Int)(d:Nat):Am.Item:=⟨some a,.val (.bin .num .neq (.t b) (.c (.int .i64 c))),some (d,true)⟩
abbrev zq (a b c d:Nat):Am.Item:=⟨some a,.val (.pick (.t b) (.t c) (.c (.bool false))),some (d,false)⟩
abbrev zs (a b c d e:Nat):Am.Item:=⟨some a,.val (.loadv b c none (.t d)),some (e,true)⟩
abbrev zt (a b c d e:Nat):Am.Item:=⟨some a,.val (.iaddr b none (.t c) (.t d)),some (e,false)⟩
abbrev zu (a b:Nat):Am.Item:=⟨some a,.allocN b [.int .i64 0,.int .u64 0,.str [],.nils,.nils,.nils,.nils],none⟩
abbrev zv (a b:Nat):Am.Item:=⟨some a,.val (.loadr none (.t b)),none⟩
abbrev zw (a b c d:Nat):Am.Item:=⟨some a,.val (.bin .num .add (.t b) (.t c)),some (d,true)⟩
abbrev zx (a b:Nat)(c:Int)(d:Nat):Am.Item:=⟨some a,.val (.bin .num .add (.t b) (.c (.int .i64 c))),some (d,true)⟩
abbrev zy (a b c d e f:Nat):Am.Item:=⟨some a,.val (.loadv b c (some d) (.t e)),some (f,false)⟩
abbrev zz (a b:Nat):Am.Item:=⟨some a,.allocN b [.str [],.int .i64 0,.nils],none⟩
abbrev Yt (a b:Nat)(c:Int):Am.Item:=⟨some a,.val (.idx (.t b) (.c (.int .i64 c))),none⟩
abbrev Yu (a b c:Nat):Am.Item:=⟨some a,.val (.idx (.t b) (.t c)),none⟩
abbrev Yv (a b:Nat)(c:Int):Am.Item:=⟨some a,.val (.bin .num .and (.t b) (.c (.int .u8 c))),none⟩
abbrev Yw (a b c:Nat):Am.Item:=⟨some a,.val (.loadr none (.t b)),some (c,true)⟩
abbrev Us (a b c:Nat):Am.Item:=⟨some a,.callF (.t b) [(.t c)],none⟩
abbrev Ut (a b:Nat)(c:Int):Am.Item:=⟨some a,.val (.bin .num .leq (.t b) (.c (.int .i64 c))),none⟩
abbrev Uu (a:Nat):Am.Item:=⟨some a,.val (.mov (.c (.str []))),none⟩
abbrev Uv (a:Nat):Am.Item:=⟨some a,.val (.build [.int .i64 0,.int .u64 0,.str [],.nils,.nils,.nils,.nils] []),none⟩
abbrev Uw (a b c:Nat):Am.Item:=⟨some a,.val (.loadr none (.t b)),some (c,false)⟩
abbrev Ux (a b:Nat)(c:Int):Am.Item:=⟨some a,.val (.bin .num .eql (.t b) (.c (.int .u64 c))),none⟩
abbrev HC (a b:Nat):Am.Item:=⟨some a,.val (.loado none (.t b)),none⟩
abbrev HD (a b c d e f:Nat):Am.Item:=⟨some a,.bsl b c [.str []] [(d,e,(.t f))],none⟩
abbrev HE (a b c d:Nat):Am.Item:=⟨some a,.val (.bin .num .gtr (.t b) (.t c)),some (d,false)⟩
abbrev HF (a b c d:Nat):Am.Item:=⟨some a,.val (.bin .num .leq (.t b) (.t c)),some (d,true)⟩
abbrev HG (a b c d:Nat):Am.Item:=⟨some a,.val (.bin .str .eql (.t b) (.t c)),some (d,true)⟩
abbrev GL (a b c d:Nat):Am.Item:=⟨some a,.val (.len b (.t c)),some (d,false)⟩
abbrev GM (a b:Nat):Am.Item:=⟨some a,.allocN b [.int .i64 0,.str [],.int .i64 0,.int .i64 0,.int .i64 0,.str [],.str [],.bool false,.int .i64 0,.int .u64 0,.str [],.nils,.nils,.nils,.nils,.nils],none⟩
abbrev GN (a b:Nat)(c:Int)(d:Nat):Am.Item:=⟨some a,.val (.bin .num .sub (.t b) (.c (.int .i64 c))),some (d,false)⟩
abbrev GP (a:Nat)(b:Int):Am.Item:=⟨some a,.val (.mov (.c (.int .i32 b))),none⟩
abbrev GQ (a b:Nat)(c:Int):Am.Item:=⟨some a,.val (.bin .num .shl (.t b) (.c (.int .u64 c))),none⟩
abbrev GR (a b c:Nat):Am.Item:=⟨some a,.val (.bin .num .or (.t b) (.t c)),none⟩
abbrev jav (a b c d:Nat)(e:Int)(f:Nat):Am.Item:=⟨some a,.call (.f b) [(.t c),(.t d),(.c (.int .i64 e))],some (f,true)⟩
abbrev FD (a b:Nat):Am.Item:=⟨some a,.allocN b [.str [],.nils,.int .i64 0],none⟩
abbrev FE (a b c:Nat):Am.Item:=⟨some a,.val (.faddv b (.t c)),none⟩
abbrev FG (a b c d:Nat):Am.Item:=⟨some a,.val (.bin .num .neq (.t b) (.t c)),some (d,false)⟩
abbrev FH (a b c d e:Nat):Am.Item:=⟨some a,.call (.f b) [(.t c),(.t d)],some (e,true)⟩
abbrev FI (a b c d:Nat)(e:Int):Am.Item:=⟨some a,.val (.iaddr b (some c) (.t d) (.c (.int .i64 e))),none⟩
abbrev FJ (a b c:Nat):Am.Item:=⟨some a,.val (.slc none (.t b) (some (.t c)) none none),none⟩
abbrev FK (a b:Nat)(c:Int):Am.Item:=⟨some a,.val (.bin .num .geq (.t b) (.c (.int .u8 c))),none⟩
abbrev FL (a:Nat)(b:Int):Am.Item:=⟨some a,.val (.mov (.c (.int .u32 b))),none⟩
abbrev FM (a b:Nat)(c:Int)(d:Nat):Am.Item:=⟨some a,.val (.bin .num .sub (.t b) (.c (.int .i64 c))),some (d,true)⟩
abbrev Vl (a b c d e f:Nat):Am.Item:=⟨some a,.call (.f b) [(.t c),(.t d),(.t e)],some (f,false)⟩
abbrev Vm (a b c d:Nat):Am.Item:=⟨some a,.val (.bin .num .eql (.t b) (.t c)),some (d,true)⟩
abbrev Vn (a b c d:Nat):Am.Item:=⟨some a,.val (.slc (some b) (.t c) none (some (.t d)) none),none⟩
abbrev gl1:List AV:=[.int .i64 1,.int .i64 2,.int .i64 2,.int .i64 1,.int .i64 1,.int .i64 6,.int .i64 7,.int .i64 7,.int .i64 1,.int .i64 1,.int .i64 2,.int .i64 2,.int .i64 2,.int .i64 2,.int .i64 6,.int .i64 7,.int .i64 7,.int .i64 2,.int .i64 1,.int .i64 2,.int .i64 2,.int .i64 2,.int .i64 2,.int .i64 6,.int .i64 7,.int .i64 8,.int .i64 9]
abbrev gl0:List AV:=[.int .u64 0,.int .u64 1,.int .u64 2147483648,.int .u64 2147483647,.int .u64 9223372036854775808,.int .u64 9223372036854775807,.int .u64 0,.int .u64 4294967295,.int .u64 0,.int .u64 18446744073709551615,.int .u64 0,.int .u64 0,.int .u64 0,.int .u64 0,.int .u64 0,.int .u64 0,.int .u64 0,.int .u64 2147483647]
abbrev Vo (a b c d e:Nat):Am.Item:=⟨some a,.val (.iaddr b (some c) (.g d gl0) (.t e)),none⟩
abbrev Vq (a b c:Nat):Am.Item:=⟨some a,.val (.bin .num .leq (.t b) (.t c)),none⟩
abbrev Vr (a b:Nat):Am.Item:=⟨some a,.val (.bin .str .eql (.t b) (.c (.str []))),none⟩
abbrev Vs (a b:Nat)(c:Int):Am.Item:=⟨some a,.val (.bin .num .eql (.t b) (.c (.int .u8 c))),none⟩
abbrev Vt (a b c d:Nat):Am.Item:=⟨some a,.val (.idx (.t b) (.t c)),some (d,true)⟩
abbrev Vu (a b:Nat)(c:Int)(d:Nat):Am.Item:=⟨some a,.val (.bin .num .leq (.t b) (.c (.int .u8 c))),some (d,true)⟩
abbrev jQ (g:List Am.Item)(c:RC):RC:=.seq (.reg g) c
abbrev jD (g:List Am.Item)(c:RC):RC:=.seq (.draw g) c
abbrev jX (a b:Nat):RC:=.cond (.t a) .skip (.exit b)
abbrev IL:=List Am.Item
abbrev CT (k n:Nat)(r:RC)(o:List RR):Prop:=CK Tryz.prog k n r o
abbrev Qzr:IL:=[jf 0]
abbrev Qzs:IL:=[⟨some 2,.call (.f 10) [(.c (.int .i64 3)),(.c (.int .i64 3))],none⟩,⟨some 3,.call (.f 10) [(.c (.int .i64 3)),(.c (.int .i64 2))],none⟩,⟨some 4,.call (.f 9) [(.t 2),(.t 3),(.c (.str [77])),(.c (.int .i64 2))],none⟩,ja 1 4]
abbrev Qzt:IL:=[ja 5 1,jk 6 1 5,js 7 6 1,ja 8 7,jj 9 1 8,⟨some 10,.val (.iaddr 4 none (.t 9) (.c (.int .i64 0))),(some (8,true))⟩,jl 11 2 10 8,jq 12 11 8,ym 13 12 6 8,ji 14 8 13,ja 15 14,jj 16 1 15,⟨some 17,.val (.iaddr 4 none (.t 16) (.c (.int .i64 0))),(some (15,true))⟩,jl 18 1 17 15,jq 19 18 15,ym 20 19 1 15,ji 21 15 20,ja 22 21,⟨some 23,.call (.f 10) [(.c (.int .i64 3)),(.c (.int .i64 2))],(some (22,true))⟩,⟨some 24,.call (.f 10) [(.c (.int .i64 3)),(.c (.int .i64 3))],(some (22,true))⟩,⟨some 25,.call (.f 7) [(.t 23),(.t 24),(.c (.str [77])),(.c (.int .i64 1))],(some (22,true))⟩,ji 26 22 25,ja 0 26]
abbrev r6:RC:=jQ Qzr (jQ Qzs (jQ Qzt (.ret)))
abbrev o6:List RR:=[.tmp 0]
theorem k6:CT 6 27 r6 o6:=ck Tryz.func6 Tryz.ntmps6 (by decide +kernel)
abbrev Qzu:IL:=[jg 4 4 0,jg 5 5 1,yh 8]
abbrev Qzv:IL:=[je 15 3 4,je 16 3 5,ja 17 2,ja 18 3,⟨some 19,.callF (.f 13) [(.t 15),(.t 16),(.t 17),(.t 18)],none⟩,ja 14 19,jt 20 14 0,jt 21 14 1,jt 22 14 2,⟨some 9,.allocN 9 [.nils,.nils,.nils,.nils,.int .i64 0],none⟩,⟨some 10,.allocN 10 [.int .i64 0,.int .i64 0,.nils,.bool false],none⟩,jh 5 9 20,jh 4 10 21,ja 11 22]
abbrev Qzw:IL:=[ja 23 11,jk 24 1 23,ys 25 24 0]
abbrev Qzx:IL:=[ja 26 11,ja 8 26]
abbrev Qzy:IL:=[je 27 4 10,⟨some 28,.bsl 4 1 [.int .i64 0,.int .i64 0,.nils,.bool false] [(0,4,(.t 27))],none⟩,ja 12 28]
abbrev Qzz:IL:=[jd 13 0]
abbrev QzA:IL:=[ja 29 13,ja 30 12,jk 31 1 30,jr 32 29 31]
abbrev QzB:IL:=[ja 35 11,yf 36 0 9 5 9,ja 37 12,ja 38 13,jm 39 4 37 38,yu 40 4 39,jx 41 14 36 40,yj 42 4 56 45 35 41,ja 11 42]
abbrev QzC:IL:=[yf 43 0 9 5 9,ja 44 12,ja 45 12,ja 46 13,jm 47 4 45 46,yu 48 4 47,⟨some 49,.callF (.f 15) [(.t 43),(.t 44),(.t 48)],none⟩,ja 12 49]
abbrev QzD:IL:=[ja 33 13,jn 34 33 1,ja 13 34]
abbrev QzE:RC:=.seq (jQ QzA (jX 32 0)) (.seq (.block 1 (jD QzB (.draw QzC))) (.reg QzD))
abbrev Qpd:IL:=[ja 50 11,ja 8 50]
abbrev r9:RC:=jQ Qzu (jQ Qzv (.seq (jQ Qzw (.cond (.t 25) (jQ Qzx (.ret)) (.skip))) (jQ Qzy (.seq (jQ Qzz (.block 0 (.loop QzE))) (jQ Qpd (.ret))))))
abbrev o9:List RR:=[.tmp 8]
theorem k9:CT 9 51 r9 o9:=ck Tryz.func9 Tryz.ntmps9 (by decide +kernel)
abbrev Qpe:IL:=[⟨some 4,.allocN 4 [.nils,.nils,.nils],none⟩]
abbrev Qpf:IL:=[ja 5 0,ja 6 1,⟨some 7,.val (.build [.int .i64 0,.str []] [(0,1,(.t 6))]),none⟩,⟨some 8,.val (.build [.int .i64 0,.str [],.int .i64 0,.int .i64 0,.int .i64 0,.str [],.str [],.bool false,.int .i64 0,.int .u64 0,.str [],.nils,.nils,.nils,.nils,.nils] [(0,1,(.c (.int .i64 1))),(1,1,(.c (.str [97]))),(2,1,(.t 5)),(4,2,(.t 7))]),none⟩,⟨some 9,.bsl 16 1 [.int .i64 0,.str [],.int .i64 0,.int .i64 0,.int .i64 0,.str [],.str [],.bool false,.int .i64 0,.int .u64 0,.str [],.nils,.nils,.nils,.nils,.nils] [(0,16,(.t 8))],none⟩,⟨some 10,.val (.build [.str [],.nils,.nils,.nils,.nils] [(0,1,(.c (.str [77]))),(1,1,(.t 9))]),none⟩,⟨some 11,.bsl 5 1 [.str [],.nils,.nils,.nils,.nils] [(0,5,(.t 10))],none⟩,⟨some 12,.val (.build [.nils,.nils,.nils] [(0,1,(.t 11))]),none⟩,jh 3 4 12]
abbrev RE:RC:=jQ Qpe (jQ Qpf (.ret))
abbrev Xw:List RR:=[.cell 4 (some 3)]
theorem Kr:CT 10 13 RE Xw:=ck Tryz.func10 Tryz.ntmps10 (by decide +kernel)
abbrev QzF:IL:=[jg 4 4 0,jg 5 5 1,jf 8]
abbrev QzG:IL:=[je 12 3 4,je 13 3 5,ja 14 2,ja 15 3,⟨some 16,.call (.f 11) [(.t 12),(.t 13),(.t 14),(.t 15)],none⟩,ja 11 16,jt 17 11 0,jt 18 11 1,⟨some 9,.allocN 9 [.str [],.int .i64 0,.int .i64 0,.nils],none⟩,jh 4 9 17,ja 10 18]
abbrev QzH:IL:=[ja 19 10,jy 20 19,ja 8 20]
abbrev r7:RC:=jQ QzF (jQ QzG (jQ QzH (.ret)))
abbrev o7:List RR:=[.tmp 8]
theorem k7:CT 7 21 r7 o7:=ck Tryz.func7 Tryz.ntmps7 (by decide +kernel)
abbrev Qpg:IL:=[jf 2]
abbrev Qph:IL:=[ja 3 0,js 4 3 1,ja 5 4,jv 6 0 5,yv 7 6 2 5,jo 8 5 7,ja 9 8,jv 10 0 9,yv 11 10 4 9,jo 12 9 11,ja 2 12]
abbrev r24:RC:=jQ Qpg (jQ Qph (.ret))
abbrev o24:List RR:=[.tmp 2]
theorem k24:CT 24 13 r24 o24:=ck Tryz.func24 Tryz.ntmps24 (by decide +kernel)
abbrev Qpi:IL:=[jg 4 4 0,jg 5 5 1,⟨some 8,.allocN 8 [.nils,.nils,.nils,.nils,.int .i64 0],none⟩,⟨some 9,.allocN 9 [.int .i64 0,.int .i64 0,.nils,.bool false],none⟩,yh 10]
abbrev Qpj:IL:=[ja 16 3,ju 17 24 16,jy 18 17]
abbrev Qpk:IL:=[⟨some 19,.val (.build [.nils,.nils,.nils,.nils,.int .i64 0] []),none⟩,⟨some 20,.val (.build [.int .i64 0,.int .i64 0,.nils,.bool false] []),none⟩,ja 21 2,⟨some 22,.val (.build [.str [],.int .i64 0,.int .i64 0,.nils] [(0,1,(.t 21)),(1,1,(.c (.int .i64 (-1)))),(2,1,(.c (.int .i64 1)))]),none⟩,⟨some 23,.bsl 4 1 [.str [],.int .i64 0,.int .i64 0,.nils] [(0,4,(.t 22))],none⟩,jh 5 8 19,jh 4 9 20,ja 10 23]
abbrev Qpl:IL:=[ja 24 3,⟨some 25,.val (.build [.nils,.nils,.nils,.nils,.int .i64 0] [(4,1,(.t 24))]),none⟩,⟨some 11,.allocN 11 [.nils,.nils,.nils,.nils,.int .i64 0],none⟩,jh 5 11 25]
abbrev Qpm:IL:=[je 27 3 4,ju 28 25 27,ja 26 28,jt 29 26 0,jt 30 26 1,jb 31 0 11,jh 2 31 29]
abbrev Qpn:IL:=[je 33 3 5,ju 34 25 33,ja 32 34,jt 35 32 0,jt 36 32 1,jb 37 2 11,jh 2 37 35]
abbrev Qpo:IL:=[jb 39 0 11,je 40 2 39,ja 41 2,jx 42 26 40 41,ja 38 42,jt 43 38 0,jt 44 38 1,ja 12 43,ja 13 44]
abbrev Qpp:IL:=[jb 46 2 11,je 47 2 46,ja 48 2,jx 49 26 47 48,ja 45 49,jt 50 45 0,jt 51 45 1,ja 14 50,ja 15 51]
abbrev Qpq:IL:=[ja 52 13,jy 53 52,ja 54 53,jv 55 15 54,yt 56 55 54,jo 57 54 56]
abbrev Qpr:IL:=[⟨some 58,.val (.build [.nils,.nils,.nils,.nils,.int .i64 0] []),none⟩,⟨some 59,.val (.build [.int .i64 0,.int .i64 0,.nils,.bool false] []),none⟩,ja 60 2,⟨some 61,.val (.build [.str [],.int .i64 0,.int .i64 0,.nils] [(0,1,(.t 60)),(1,1,(.c (.int .i64 (-1)))),(2,1,(.c (.int .i64 10)))]),none⟩,⟨some 62,.bsl 4 1 [.str [],.int .i64 0,.int .i64 0,.nils] [(0,4,(.t 61))],none⟩,jh 5 8 58,jh 4 9 59,ja 10 62]
abbrev LS:IL:=[je 63 5 11,ja 64 12,ja 65 14,⟨some 66,.val (.build [.int .i64 0,.int .i64 0,.nils,.bool false] [(0,1,(.t 64)),(1,1,(.t 65))]),none⟩,jh 5 8 63,jh 4 9 66,yh 10]
abbrev r13:RC:=jQ Qpi (.seq (jQ Qpj (.cond (.t 18) (jQ Qpk (.ret)) (.skip))) (jQ Qpl (jQ Qpm (jQ Qpn (jQ Qpo (jQ Qpp (.seq (jQ Qpq (.cond (.t 57) (jQ Qpr (.ret)) (.skip))) (jQ LS (.gho (.vec 10 10 4) (.gho (.give 10 10 1 1000) (.ret)))))))))))
abbrev FN:List RR:=[.cell 8 (some 5),.cell 9 (some 4),.tmp 10]
theorem k13:CT 13 67 r13 FN:=ck Tryz.func13 Tryz.ntmps13 (by decide +kernel)
def RF:IL:=[jg 2 2 0,jg 3 3 1,yh 4]
def RG:IL:=[jb 18 0 2,jb 19 0 18,jw 20 0 2 19,jb 21 0 3,jw 22 0 3 21,jm 23 3 20 22,yu 24 3 23,jb 25 2 2,jb 26 0 25,jw 27 0 2 26,jb 28 1 3,jw 29 0 3 28,jm 30 3 27 29,yu 31 3 30,FD 5 5,FD 6 6,yz 0 5 3 5 24,yz 0 6 3 6 31]
def RH:IL:=[⟨some 7,.allocN 7 [.nils],none⟩]
def RI:IL:=[⟨some 32,.val (.mkfn (.func 27) [] [(.t 7),(.t 6),(.t 3)]),none⟩,ja 8 32]
def RJ:IL:=[jb 33 1 5,jc 34 33,jk 35 1 34,jd 36 0]
def RK:IL:=[jr 37 36 35]
def RL:IL:=[ja 38 36,jm 39 8 34 36,je 40 8 39,yw 10 10,ja 9 38,jh 8 10 40]
def RM:IL:=[je 41 5 2,je 42 8 10,jx 43 28 41 42,jy 44 43]
def RN:IL:=[je 46 5 2,je 47 3 6,je 48 8 10,yk 49 29 46 47 48,ja 45 49,jt 50 45 0,jt 51 45 1,yw 11 11,jh 8 11 50,ja 12 51]
def RP:IL:=[ja 52 12,jy 53 52]
def LU:IL:=[jb 54 4 2,jc 55 54,js 56 55 4]
def LV:IL:=[ja 57 8,jb 58 0 10,jc 59 58,⟨some 60,.callF (.t 57) [(.t 59),(.c (.int .i64 8))],none⟩]
def Vv:IL:=[je 61 5 2,je 62 8 10,je 63 8 11,yk 64 30 61 62 63,ja 13 64]
def Vw:IL:=[ja 65 13,yc 66 65 0]
def LW:IL:=[ja 67 8,jb 68 0 10,jc 69 68,ja 70 13,⟨some 71,.callF (.t 67) [(.t 69),(.t 70)],none⟩]
def Vx:IL:=[je 73 5 2,je 74 3 5,je 75 3 6,ja 76 9,je 77 8 11,⟨some 78,.call (.f 31) [(.t 73),(.t 74),(.t 75),(.t 76),(.t 77)],none⟩,ja 72 78,jt 79 72 0,jt 80 72 1,ja 14 79,ja 15 80]
def Vy:IL:=[ja 81 14]
def LX:IL:=[ja 82 8,jb 83 0 10,jc 84 83,⟨some 85,.callF (.t 82) [(.t 84),(.c (.int .i64 9))],none⟩]
def Vz:IL:=[ja 86 15]
def LY:IL:=[ja 87 8,jb 88 0 10,jc 89 88,⟨some 90,.callF (.t 87) [(.t 89),(.c (.int .i64 15))],none⟩]
def GS:IL:=[jn 91 36 1,ja 36 91]
def Qps:RC:=.gho (.drop 11) (.gho (.drop 10) (jQ RK (.seq (jX 37 0) (.seq (.block 1 (jQ RL (.seq (jQ RM (.cond (.t 44) (.exit 1) (.skip))) (jQ RN (.seq (jQ RP (.cond (.t 53) (.seq (jQ LU (.cond (.t 56) (.reg LV) (.skip))) (.exit 1)) (.skip))) (.seq (jQ Vv (jQ Vw (.cond (.t 66) (.reg LW) (.skip)))) (jQ Vx (.seq (jQ Vy (.cond (.t 81) (.reg LX) (.skip))) (jQ Vz (.cond (.t 86) (.reg LY) (.skip))))))))))) (.reg GS)))))
def VA:IL:=[jb 92 1 6,jc 93 92,jk 94 1 93,jd 95 0]
def VB:IL:=[jr 96 95 94]
def VC:IL:=[jm 97 8 93 95,je 98 8 97,yw 17 17,jh 8 17 98]
def VD:IL:=[jb 99 3 3,jc 100 99,jy 101 100,ja 102 101,jl 103 3 17 102,jq 104 103 102,ym 105 104 1 102,ji 106 102 105,ja 107 106,zb 108 5 2 107,zb 109 3 5 107,zb 110 3 6 107,zb 111 8 17 107,⟨some 112,.call (.f 32) [(.t 108),(.t 109),(.t 110),(.t 111)],(some (107,true))⟩,yy 113 112 107,ji 114 107 113]
def LZ:IL:=[ja 115 8,jb 116 0 17,jc 117 116,⟨some 118,.callF (.t 115) [(.t 117),(.c (.int .i64 14))],none⟩]
def Uy:IL:=[jn 119 95 1,ja 95 119]
def Qpt:RC:=.gho (.drop 17) (jQ VB (.seq (jX 96 2) (.seq (.block 3 (jQ VC (jQ VD (.cond (.t 114) (.reg LZ) (.skip))))) (.reg Uy))))
def VE:IL:=[jc 120 7,ja 4 120]
def L0:RC:=jQ RF (jD RG (jQ RH (.gho (.vecc 7 0 1103 4) (jQ RI (.seq (jQ RJ (.block 0 (.loop Qps))) (.seq (jQ VA (.block 2 (.loop Qpt))) (jQ VE (.ret))))))))
def FO:List RR:=[.tmp 4]
theorem k14:CT 14 121 L0 FO:=ck Tryz.func14 Tryz.ntmps14 (by decide +kernel)
abbrev Qpu:IL:=[jg 3 3 0,jg 5 5 2,yh 6]
abbrev Qpv:IL:=[jb 17 0 3,jb 18 0 17,jw 19 0 3 18,jb 20 0 5,jw 21 0 5 20,jm 22 3 19 21,yu 23 3 22,jb 24 2 3,jb 25 0 24,jw 26 0 3 25,jb 27 1 5,jw 28 0 5 27,jm 29 3 26 28,yu 30 3 29,FD 7 7,FD 8 8,yz 0 7 3 7 23,yz 0 8 3 8 30]
abbrev Qpw:IL:=[jb 31 1 7,jc 32 31,jk 33 1 32,jd 34 0]
abbrev Qpx:IL:=[jr 35 34 33]
abbrev Qpy:IL:=[jm 36 8 32 34,je 37 8 36,yw 10 10,jh 8 10 37]
abbrev Qpz:IL:=[je 39 5 3,je 40 3 8,je 41 8 10,yk 42 29 39 40 41,ja 38 42,jt 43 38 0,jt 44 38 1,yw 11 11,jh 8 11 43,ja 12 44]
abbrev QpA:IL:=[ja 45 12,jy 46 45,ja 47 46,yn 48 5 3 47,yn 49 8 10 47,zj 50 28 48 49 47,yt 51 50 47,jo 52 47 51,ja 53 52,jp 54 5 10 53,jz 55 54 53,ze 56 55 10 53,jo 57 53 56,ja 58 57,jp 59 5 11 58,jz 60 59 58,ze 61 60 10 58,jo 62 58 61,ja 63 62,yn 64 5 3 63,yn 65 8 10 63,yn 66 8 11 63,Vl 67 33 64 65 66 63,ze 68 67 0 63,jo 69 63 68]
abbrev QpB:IL:=[jb 70 3 5,jc 71 70,ja 72 71,yn 73 5 3 72,yn 74 3 7 72,yn 75 3 8 72,yn 76 8 10 72,yn 77 8 11 72,⟨some 78,.call (.f 34) [(.t 73),(.t 74),(.t 75),(.t 76),(.t 77)],(some (72,false))⟩,jo 79 72 78,ja 13 79]
abbrev QpC:IL:=[ja 80 1,jk 81 1 80,jd 82 0]
abbrev QpD:IL:=[jr 83 82 81]
abbrev L5:IL:=[jm 84 4 80 82,je 85 4 84,⟨some 15,.allocN 15 [.int .i64 0,.int .i64 0,.nils,.bool false],none⟩,jh 4 15 85]
abbrev L6:IL:=[jb 86 0 15,jc 87 86,jb 88 6 10,jc 89 88,zm 90 87 89,ja 91 90,jl 92 1 15 91,jq 93 92 91,jl 94 6 11 91,jq 95 94 91,Vm 96 93 95 91,ji 97 91 96,ja 98 97,jl 99 3 15 98,jq 100 99 98,yy 101 100 98,jj 102 101 98,jv 103 13 102,⟨some 104,.val (.pick (.t 102) (.c (.bool true)) (.t 103)),(some (98,true))⟩,ji 105 98 104]
abbrev L7:IL:=[jn 106 82 1,ja 82 106]
abbrev QpE:RC:=.gho (.drop 15) (jQ QpD (.seq (jX 83 2) (.seq (.block 3 (jQ L5 (jQ L6 (.cond (.t 105) (.exit 1) (.skip))))) (.reg L7))))
abbrev L8:IL:=[jb 107 2 5,jc 108 107,jk 109 1 108,ja 16 109]
abbrev L9:IL:=[ja 110 1,FE 111 6 10,jw 112 0 10 111,FE 113 6 11,jw 114 0 11 113,FE 115 2 5,jw 116 0 5 115,ja 117 16,ja 118 16,⟨some 119,.val (.slcl (.t 116) (.t 117) (.t 118)),none⟩,FE 120 0 10,jw 121 0 10 120,⟨some 122,.bsl 1 1 [.int .i64 0] [(0,1,(.t 121))],none⟩,⟨some 123,.appe 1 8 3 (.t 119) (.t 122),none⟩,ja 124 13,⟨some 125,.val (.build [.int .i64 0,.int .i64 0,.nils,.bool false] [(0,1,(.t 112)),(1,1,(.t 114)),(2,1,(.t 123)),(3,1,(.t 124))]),none⟩,⟨some 126,.bsl 4 1 [.int .i64 0,.int .i64 0,.nils,.bool false] [(0,4,(.t 125))],none⟩,yj 127 4 48 56 110 126,ja 1 127]
abbrev Qaa:IL:=[jn 128 34 1,ja 34 128]
abbrev QpF:RC:=.gho (.drop 15) (.gho (.drop 11) (.gho (.drop 10) (jQ Qpx (.seq (jX 35 0) (.seq (.block 1 (jQ Qpy (jQ Qpz (.seq (jQ QpA (.cond (.t 69) (.exit 1) (.skip))) (jQ QpB (.seq (jQ QpC (.block 2 (.loop QpE))) (jQ L8 (.draw L9)))))))) (.reg Qaa))))))
abbrev Qab:IL:=[ja 129 1,ja 6 129]
abbrev r15:RC:=jQ Qpu (.scope (jD Qpv (.seq (.lab) (.seq (jQ Qpw (.block 0 (.loop QpF))) (jQ Qab (.ret))))))
abbrev o15:List RR:=[.tmp 6]
theorem k15:CT 15 130 r15 o15:=ck Tryz.func15 Tryz.ntmps15 (by decide +kernel)
abbrev QpG:IL:=[jg 4 4 0,jg 5 5 1,⟨some 8,.allocN 8 [.str [],.int .i64 0,.int .i64 0,.nils],none⟩,jf 9]
abbrev QpH:IL:=[je 20 3 4,je 21 3 5,ja 22 2,ja 23 3,⟨some 24,.callF (.f 13) [(.t 20),(.t 21),(.t 22),(.t 23)],none⟩,ja 19 24,jt 25 19 0,jt 26 19 1,jt 27 19 2,⟨some 10,.allocN 10 [.nils,.nils,.nils,.nils,.int .i64 0],none⟩,⟨some 11,.allocN 11 [.int .i64 0,.int .i64 0,.nils,.bool false],none⟩,jh 5 10 25,jh 4 11 26,ja 12 27]
abbrev QpI:IL:=[ja 28 12,jk 29 1 28,ys 30 29 0]
abbrev QpJ:IL:=[ja 31 12,⟨some 32,.val (.iaddr 4 none (.t 31) (.c (.int .i64 0))),none⟩,je 33 4 32,jh 4 8 33,ya 9]
abbrev QpK:IL:=[⟨some 13,.allocN 13 [.str [],.int .i64 0,.int .i64 0,.nils],none⟩]
abbrev QpL:IL:=[jf 14]
abbrev QpM:IL:=[je 34 4 11,⟨some 35,.bslv 35 4 1 [.int .i64 0,.int .i64 0,.nils,.bool false] [(0,4,(.t 34))],none⟩,ja 15 35]
abbrev QpN:IL:=[jd 16 0]
abbrev QpO:IL:=[ja 36 16,ja 37 15,jk 38 1 37,jr 39 36 38]
abbrev Qac:IL:=[yf 42 0 10 5 10,ja 43 15,ja 44 16,jm 45 4 43 44,yu 46 4 45,jx 47 14 42 46,jk 48 1 47,jd 49 0]
abbrev Qad:IL:=[jr 50 49 48]
abbrev Qae:IL:=[jm 51 4 47 49,je 52 4 51,⟨some 18,.allocN 18 [.str [],.int .i64 0,.int .i64 0,.nils],none⟩,jh 4 18 52]
abbrev Qaf:IL:=[je 53 4 18,jh 4 13 53,ya 14]
abbrev Qag:IL:=[jn 54 49 1,ja 49 54]
abbrev QpP:RC:=.gho (.drop 18) (jQ Qad (.seq (jX 50 2) (.seq (.block 3 (jQ Qae (jQ Qaf (.exit 0)))) (.reg Qag))))
abbrev Qah:IL:=[yf 55 0 10 5 10,ja 56 15,ja 57 15,ja 58 16,jm 59 4 57 58,yu 60 4 59,⟨some 61,.callF (.f 15) [(.t 55),(.t 56),(.t 60)],none⟩,ja 15 61]
abbrev QpQ:IL:=[ja 40 16,jn 41 40 1,ja 16 41]
abbrev QpR:RC:=.gho (.drop 18) (.seq (jQ QpO (jX 39 0)) (.seq (.block 1 (.seq (jD Qac (.block 2 (.loop QpP))) (.draw Qah))) (.reg QpQ)))
abbrev Qai:IL:=[je 62 4 13,ja 63 14,jh 4 8 62,ja 9 63]
abbrev r11:RC:=jQ QpG (.scope (jQ QpH (.seq (jQ QpI (.cond (.t 30) (jQ QpJ (.ret)) (.skip))) (jQ QpK (jQ QpL (jQ QpM (.seq (.lab) (.seq (jQ QpN (.block 0 (.loop QpR))) (jQ Qai (.ret))))))))))
abbrev o11:List RR:=[.cell 8 (some 4),.tmp 9]
theorem k11:CT 11 64 r11 o11:=ck Tryz.func11 Tryz.ntmps11 (by decide +kernel)
def RQ:IL:=[jg 1 1 0,⟨some 2,.allocN 2 [.nils,.nils],none⟩,jd 3 0]
def RS:IL:=[je 9 3 1,ju 10 48 9,jy 11 10]
def RT:IL:=[⟨some 12,.val (.build [.nils,.nils] []),none⟩,jh 2 2 12,jd 3 1]
def RU:IL:=[⟨some 4,.allocN 4 [.nils,.nils],none⟩]
def RV:IL:=[jb 13 0 1,jc 14 13,jk 15 1 14,jd 16 0]
def RW:IL:=[jr 17 16 15]
def RX:IL:=[jm 18 5 14 16,je 19 5 18,zf 6 6,jh 5 6 19]
def RY:IL:=[jb 20 0 4,jw 21 0 4 20,yf 22 0 1 3 1,yf 23 0 6 5 6,jx 24 49 22 23,⟨some 25,.bsl 3 1 [.str [],.nils,.int .i64 0] [(0,3,(.t 24))],none⟩,yj 26 3 48 97 21 25,jb 27 0 4,yz 0 4 1 27 26]
def RZ:IL:=[jn 28 16 1,ja 16 28]
def R0:RC:=.gho (.drop 6) (jQ RW (.seq (jX 17 0) (.seq (.block 1 (jQ RX (.draw RY))) (.reg RZ))))
def R1:IL:=[jb 29 1 1,jc 30 29,jk 31 1 30,jd 32 0]
def VF:IL:=[jr 33 32 31]
def VG:IL:=[jm 34 5 30 32,je 35 5 34,zg 8 8,jh 5 8 35]
def VH:IL:=[jb 36 1 4,jw 37 0 4 36,yf 38 0 8 5 8,ju 39 50 38,⟨some 40,.bsl 5 1 [.str [],.bool false,.nils,.nils,.nils] [(0,5,(.t 39))],none⟩,yj 41 5 96 85 37 40,jb 42 1 4,yz 0 4 1 42 41]
def VI:IL:=[jn 43 32 1,ja 32 43]
def R2:RC:=.gho (.drop 8) (jQ VF (.seq (jX 33 2) (.seq (.block 3 (jQ VG (.draw VH))) (.reg VI))))
def VJ:IL:=[je 44 2 4,jh 2 2 44,jd 3 0]
def r25:RC:=jQ RQ (.seq (jQ RS (.cond (.t 11) (jQ RT (.ret)) (.skip))) (jQ RU (.gho (.vecc 4 0 1100 3) (.gho (.vecc 4 1 1101 5) (.seq (jQ RV (.block 0 (.loop R0))) (.seq (jQ R1 (.block 2 (.loop R2))) (jQ VJ (.ret))))))))
def o25:List RR:=[.cell 2 (some 2),.tmp 3]
theorem k25:CT 25 45 r25 o25:=ck Tryz.func25 Tryz.ntmps25 (by decide +kernel)
abbrev QpS:IL:=[jg 2 2 0,jg 3 3 1,jd 4 0,jf 5]
abbrev QpT:IL:=[jb 7 0 2,jc 8 7,zn 9 52 3,yo 10 51 8 9,ja 6 10]
abbrev QpU:IL:=[ja 11 6,⟨some 12,.val (.mnx true (.t 11) (.c (.int .i64 0))),none⟩,ja 13 6,yd 14 13 0,ja 4 12,ja 5 14]
abbrev r26:RC:=jQ QpS (jQ QpT (jQ QpU (.ret)))
abbrev o26:List RR:=[.tmp 4,.tmp 5]
theorem k26:CT 26 15 r26 o26:=ck Tryz.func26 Tryz.ntmps26 (by decide +kernel)
abbrev QpV:IL:=[HC 7 2,FE 8 0 3,HC 9 8,ja 10 0,ja 11 1,⟨some 12,.bsl0 12 1,none⟩,FE 13 2 4,HC 14 13,⟨some 15,.appl 1 8 3 (.t 12) (.t 14),none⟩,⟨some 16,.val (.build [.str [],.int .i64 0,.int .i64 0,.nils] [(0,1,(.t 9)),(1,1,(.t 10)),(2,1,(.t 11)),(3,1,(.t 15))]),none⟩,⟨some 17,.bsl 4 1 [.str [],.int .i64 0,.int .i64 0,.nils] [(0,4,(.t 16))],none⟩,yj 18 4 56 45 7 17,jh 1 2 18]
abbrev r27:RC:=.draw QpV
abbrev o27:List RR:=[]
theorem k27:CT 27 19 r27 o27:=ck Tryz.func27 Tryz.ntmps27 (by decide +kernel)
abbrev QpW:IL:=[jg 2 2 0,jg 3 3 1,jf 4]
abbrev QpX:IL:=[jb 6 3 3,jc 7 6,yc 8 7 3,ja 9 8,jp 10 5 3 9,jz 11 10 9,ze 12 11 9 9,jo 13 9 12]
abbrev QpY:IL:=[ya 4]
abbrev QpZ:IL:=[jb 14 0 2,jb 15 1 14,jc 16 15,jb 17 6 3,jc 18 17,jm 19 5 16 18,je 20 5 19,zg 5 5,jh 5 5 20]
abbrev Qp0:IL:=[jb 21 1 5,jc 22 21,ja 23 22,jp 24 2 5 23,jz 25 24 23,GL 26 1 25 23,zo 27 26 1 23,jo 28 23 27,ja 4 28]
abbrev r28:RC:=jQ QpW (.seq (jQ QpX (.cond (.t 13) (jQ QpY (.ret)) (.skip))) (jQ QpZ (jQ Qp0 (.ret))))
abbrev o28:List RR:=[.tmp 4]
theorem k28:CT 28 29 r28 o28:=ck Tryz.func28 Tryz.ntmps28 (by decide +kernel)
abbrev Qp1:IL:=[jg 3 3 0,jg 4 4 1,jg 5 5 2,yw 6 6,jf 7]
abbrev Qp2:IL:=[jb 8 4 3,jc 9 8,js 10 9 4]
abbrev Qp3:IL:=[je 11 3 4,jb 12 1 5,jc 13 12,jx 14 53 11 13,jt 15 14 0,jt 16 14 1,jh 8 6 15,ja 7 16]
abbrev Qp4:IL:=[je 17 3 4,jb 18 0 5,jc 19 18,jx 20 54 17 19,jt 21 20 0,jt 22 20 1,jh 8 6 21,ja 7 22]
abbrev r29:RC:=jQ Qp1 (.seq (jQ Qp2 (.cond (.t 10) (jQ Qp3 (.ret)) (.skip))) (jQ Qp4 (.ret)))
abbrev o29:List RR:=[.cell 6 (some 8),.tmp 7]
theorem k29:CT 29 23 r29 o29:=ck Tryz.func29 Tryz.ntmps29 (by decide +kernel)
def R3:IL:=[jg 3 3 0,jg 4 4 1,jg 5 5 2,jd 6 0]
def R4:IL:=[je 10 5 3,je 11 8 4,je 12 8 5,yk 13 33 10 11 12,ja 7 13]
def R5:IL:=[ja 14 7,yc 15 14 0]
def Qp5:IL:=[ja 16 7,ja 6 16]
def R6:IL:=[je 17 5 3,je 18 8 4,je 19 8 5,yk 20 55 17 18 19,ja 8 20]
def R7:IL:=[ja 21 8,yc 22 21 0]
def Qp6:IL:=[ja 23 8,ja 6 23]
def R8:IL:=[je 24 5 3,je 25 8 4,je 26 8 5,yk 27 56 24 25 26,ja 9 27]
def R9:IL:=[ja 28 9,yc 29 28 0]
def Qp7:IL:=[ja 30 9,ja 6 30]
def VK:IL:=[jb 31 4 3,jc 32 31,js 33 32 4,ja 34 33,jl 35 3 4 34,jq 36 35 34,ym 37 36 4 34,ji 38 34 37,ja 39 38,zb 40 8 5 39,zk 41 57 40 39,ji 42 39 41]
def Qal:IL:=[jd 6 9]
def Uz:IL:=[jd 6 0]
def r30:RC:=jQ R3 (.seq (jQ R4 (jQ R5 (.cond (.t 15) (jQ Qp5 (.ret)) (.skip)))) (.seq (jQ R6 (jQ R7 (.cond (.t 22) (jQ Qp6 (.ret)) (.skip)))) (.seq (jQ R8 (jQ R9 (.cond (.t 29) (jQ Qp7 (.ret)) (.skip)))) (.seq (jQ VK (.cond (.t 42) (jQ Qal (.ret)) (.skip))) (jQ Uz (.ret))))))
def X8:List RR:=[.tmp 6]
theorem k30:CT 30 43 r30 X8:=ck Tryz.func30 Tryz.ntmps30 (by decide +kernel)
def Sa:IL:=[jg 5 5 0,jg 6 6 1,jg 7 7 2,jg 9 9 4,jf 10,jf 11]
def Sb:IL:=[jf 12,jf 13]
def Sc:IL:=[jb 19 1 6,jc 20 19,ja 21 3,jm 22 8 20 21,je 23 8 22,yw 14 14,jh 8 14 23]
def Sd:IL:=[jb 24 1 6,jc 25 24,ja 26 3,Vn 27 8 25 26,jk 28 1 27,jd 29 0]
def Se:IL:=[jr 30 29 28]
def Sf:IL:=[jm 31 8 27 29,je 32 8 31,yw 16 16,jh 8 16 32]
def Sg:IL:=[je 34 5 5,je 35 3 7,je 36 8 16,yk 37 29 34 35 36,ja 33 37,jt 38 33 0,jt 39 33 1,yw 17 17,jh 8 17 38,ja 18 39]
def Sh:IL:=[ja 40 18,jy 41 40,ja 42 41,yn 43 5 5 42,yn 44 8 16 42,zj 45 28 43 44 42,yt 46 45 42,jo 47 42 46,ja 48 47,yn 49 8 16 48,yn 50 8 14 48,zj 51 58 49 50 48,yt 52 51 48,jo 53 48 52]
def Si:IL:=[jb 54 0 17,jc 55 54,jb 56 0 9,jc 57 56,zm 58 55 57]
def Qp8:IL:=[ja 59 12,ja 60 59,jp 61 4 5 60,jz 62 61 60,yv 63 62 4 60,jv 64 63 60,jl 65 3 9 64,jq 66 65 64,zp 67 66 4 64,zq 68 64 67 60,jo 69 60 68,ja 12 69]
def VL:IL:=[jb 70 7 9,jc 71 70,yd 72 71 0,ja 73 72,jl 74 7 17 73,jq 75 74 73,jl 76 7 9 73,jq 77 76 73,Vm 78 75 77 73,ji 79 73 78]
def Qan:IL:=[ja 80 13,ja 81 80,jp 82 4 5 81,jz 83 82 81,ze 84 83 1 81,jo 85 81 84,ja 13 85]
def WU:IL:=[jn 86 29 1,ja 29 86]
def Qp9:RC:=.gho (.drop 17) (.gho (.drop 16) (jQ Se (.seq (jX 30 0) (.seq (.block 1 (jQ Sf (jQ Sg (.seq (jQ Sh (.cond (.t 53) (.exit 1) (.skip))) (jQ Si (.cond (.t 58) (.reg Qp8) (jQ VL (.cond (.t 79) (.reg Qan) (.skip))))))))) (.reg WU)))))
def VM:IL:=[ja 87 12,ja 88 13,ja 10 87,ja 11 88]
def r31:RC:=jQ Sa (jQ Sb (jQ Sc (.seq (jQ Sd (.block 0 (.loop Qp9))) (jQ VM (.ret)))))
def o31:List RR:=[.tmp 10,.tmp 11]
theorem k31:CT 31 89 r31 o31:=ck Tryz.func31 Tryz.ntmps31 (by decide +kernel)
def Sj:IL:=[jg 4 4 0,jg 5 5 1,jg 6 6 2,jg 7 7 3,jf 8]
def Sk:IL:=[jb 13 1 5,jc 14 13,jk 15 1 14,jd 16 0]
def Sl:IL:=[jr 17 16 15]
def Sm:IL:=[jm 18 8 14 16,je 19 8 18,yw 10 10,jh 8 10 19]
def Sn:IL:=[je 21 5 4,je 22 3 6,je 23 8 10,yk 24 29 21 22 23,ja 20 24,jt 25 20 0,jt 26 20 1,yw 11 11,jh 8 11 25,ja 12 26]
def Sp:IL:=[ja 27 12,jy 28 27,ja 29 28,jp 30 0 11 29,jz 31 30 29,jp 32 0 7 29,jz 33 32 29,FG 34 31 33 29,jo 35 29 34,ja 36 35,jp 37 3 10 36,jz 38 37 36,ze 39 38 1 36,jo 40 36 39]
def Sq:IL:=[jb 41 4 4,jw 42 0 4 41,yc 43 42 1,ja 44 43,jp 45 5 7 44,yi 46 0 7 45 44,ze 47 46 9 44,jo 48 44 47,ja 49 48,jp 50 5 10 49,yi 51 0 10 50 49,ze 52 51 9 49,jv 53 52 49,jl 54 5 10 53,zs 55 0 10 54 53,zp 56 55 1 53,zq 57 53 56 49,jo 58 49 57,ja 59 58,zy 60 0 4 5 4 59,jp 61 2 4 59,jp 62 1 61 59,yi 63 0 4 62 59,jp 64 6 7 59,yi 65 0 7 64 59,zt 66 5 63 65 59,⟨some 67,.val (.loadr (some 5) (.t 66)),(some (59,false))⟩,zy 68 0 10 8 10 59,Vl 69 59 60 67 68 59,jo 70 59 69]
def H1:IL:=[ya 8]
def Sr:IL:=[jn 71 16 1,ja 16 71]
def Qqa:RC:=.gho (.drop 11) (.gho (.drop 10) (jQ Sl (.seq (jX 17 0) (.seq (.block 1 (jQ Sm (jQ Sn (.seq (jQ Sp (.cond (.t 40) (.exit 1) (.skip))) (jD Sq (.cond (.t 70) (jQ H1 (.ret)) (.skip))))))) (.reg Sr)))))
def Qqb:IL:=[jf 8]
def r32:RC:=jQ Sj (.seq (jQ Sk (.block 0 (.loop Qqa))) (jQ Qqb (.ret)))
def o32:List RR:=[.tmp 8]
theorem k32:CT 32 72 r32 o32:=ck Tryz.func32 Tryz.ntmps32 (by decide +kernel)
abbrev Qqc:IL:=[jg 3 3 0,jg 4 4 1,jg 5 5 2,jd 6 0]
abbrev Qqd:IL:=[jb 9 3 4,jc 10 9,js 11 10 5,jb 12 3 5,jc 13 12,js 14 13 5,⟨some 15,.val (.bin .bool .neq (.t 11) (.t 14)),none⟩,ja 7 15]
abbrev Qqe:IL:=[jb 16 3 4,jc 17 16,js 18 17 4,ja 19 18,jl 20 3 5 19,jq 21 20 19,ym 22 21 4 19,ji 23 19 22,ja 8 23]
abbrev Qqf:IL:=[jb 24 4 3,jc 25 24,js 26 25 1]
abbrev Qqg:IL:=[ja 27 7,ja 28 27,zy 29 0 4 8 4 28,za 30 60 29 28,jv 31 30 28,⟨some 32,.val (.loadv 0 5 (some 8) (.t 5)),(some (31,true))⟩,zk 33 57 32 31,zq 34 31 33 28,jo 35 28 34,ja 36 35,jv 37 8 36,jv 38 37 36,⟨some 39,.val (.loadv 0 4 (some 8) (.t 4)),(some (38,true))⟩,zk 40 60 39 38,⟨some 41,.val (.loadv 0 5 (some 8) (.t 5)),(some (38,true))⟩,zk 42 60 41 38,⟨some 43,.val (.bin .bool .neq (.t 40) (.t 42)),(some (38,true))⟩,zq 44 38 43 36,jo 45 36 44]
abbrev Qqh:IL:=[jd 6 13]
abbrev Qqi:IL:=[jd 6 0]
abbrev Qqj:IL:=[ja 46 7,ja 47 46,jp 48 3 4 47,jz 49 48 47,yv 50 49 4 47,jv 51 50 47,jj 52 8 51,yy 53 52 51,zq 54 51 53 47,jv 55 54 47,jl 56 4 3 55,jq 57 56 55,ym 58 57 2 55,zq 59 55 58 47,jo 60 47 59]
abbrev Qqk:IL:=[jd 6 12]
abbrev Qql:IL:=[jd 6 0]
abbrev r33:RC:=jQ Qqc (jQ Qqd (jQ Qqe (.seq (jQ Qqf (.cond (.t 26) (.seq (jD Qqg (.cond (.t 45) (jQ Qqh (.ret)) (.skip))) (jQ Qqi (.ret))) (.skip))) (.seq (jQ Qqj (.cond (.t 60) (jQ Qqk (.ret)) (.skip))) (jQ Qql (.ret))))))
abbrev o33:List RR:=[.tmp 6]
theorem k33:CT 33 61 r33 o33:=ck Tryz.func33 Tryz.ntmps33 (by decide +kernel)
def Ss:IL:=[jg 5 5 0,jg 6 6 1,jg 7 7 2,jg 8 8 3,jg 9 9 4,jf 10]
def Su:IL:=[jb 15 4 5,jc 16 15,yc 17 16 1,ja 18 17,jp 19 7 9 18,jz 20 19 18,⟨some 21,.val (.bin .num .lss (.t 20) (.c (.int .i64 0))),(some (18,false))⟩,jo 22 18 21]
def Nb:IL:=[jf 10]
def Sv:IL:=[jb 23 1 6,jc 24 23,jk 25 1 24,jd 26 0]
def Sw:IL:=[jr 27 26 25]
def Sx:IL:=[jm 28 8 24 26,je 29 8 28,yw 12 12,jh 8 12 29]
def Sy:IL:=[je 31 5 5,je 32 3 7,je 33 8 12,yk 34 29 31 32 33,ja 30 34,jt 35 30 0,jt 36 30 1,yw 13 13,jh 8 13 35,ja 14 36]
def Sz:IL:=[ja 37 14,jy 38 37,ja 39 38,jp 40 0 12 39,jz 41 40 39,jp 42 0 8 39,jz 43 42 39,⟨some 44,.val (.bin .num .leq (.t 41) (.t 43)),(some (39,false))⟩,jo 45 39 44,ja 46 45,jp 47 3 12 46,jz 48 47 46,ze 49 48 1 46,jo 50 46 49,ja 51 50,jp 52 7 13 51,jz 53 52 51,jp 54 7 9 51,jz 55 54 51,FG 56 53 55 51,jo 57 51 56,ja 58 57,jp 59 0 13 58,jz 60 59 58,jp 61 0 9 58,jz 62 61 58,⟨some 63,.val (.bin .num .eql (.t 60) (.t 62)),(some (58,false))⟩,jo 64 58 63]
def SA:IL:=[jb 65 5 13,jw 66 0 13 65,yc 67 66 9,ja 68 67,jp 69 5 12 68,yi 70 0 12 69 68,ze 71 70 9 68,jv 72 71 68,jl 73 5 12 72,zs 74 0 12 73 72,zp 75 74 1 72,zq 76 72 75 68,jo 77 68 76,ja 78 77,zy 79 0 5 5 5 78,jp 80 2 5 78,jp 81 1 80 78,yi 82 0 5 81 78,jp 83 6 13 78,yi 84 0 13 83 78,zt 85 5 82 84 78,⟨some 86,.val (.loadr (some 5) (.t 85)),(some (78,false))⟩,zy 87 0 12 8 12 78,Vl 88 59 79 86 87 78,jo 89 78 88]
def Nc:IL:=[ya 10]
def UA:IL:=[jn 90 26 1,ja 26 90]
def Qqm:RC:=.gho (.drop 13) (.gho (.drop 12) (jQ Sw (.seq (jX 27 0) (.seq (.block 1 (jQ Sx (jQ Sy (.seq (jQ Sz (.cond (.t 64) (.exit 1) (.skip))) (jD SA (.cond (.t 89) (jQ Nc (.ret)) (.skip))))))) (.reg UA)))))
def VN:IL:=[jf 10]
def r34:RC:=jQ Ss (.seq (jQ Su (.cond (.t 22) (jQ Nb (.ret)) (.skip))) (.seq (jQ Sv (.block 0 (.loop Qqm))) (jQ VN (.ret))))
def o34:List RR:=[.tmp 10]
theorem k34:CT 34 91 r34 o34:=ck Tryz.func34 Tryz.ntmps34 (by decide +kernel)
abbrev Qqn:IL:=[jg 1 1 0,jf 2]
abbrev Qqo:IL:=[je 3 3 1,ju 4 71 3,jk 5 1 4,js 6 5 0,ja 2 6]
abbrev r48:RC:=jQ Qqn (jQ Qqo (.ret))
abbrev o48:List RR:=[.tmp 2]
theorem k48:CT 48 7 r48 o48:=ck Tryz.func48 Tryz.ntmps48 (by decide +kernel)
def SB:IL:=[jg 2 2 0,jg 3 3 1,FD 4 4]
def SD:IL:=[jb 10 0 3,jc 11 10,⟨some 12,.val (.build [.str [],.nils,.int .i64 0] [(0,1,(.t 11))]),none⟩,FD 5 5,jh 3 5 12]
def SG:IL:=[yh 6]
def SH:IL:=[jb 13 1 3,jc 14 13,jk 15 1 14,jd 16 0]
def SJ:IL:=[jr 17 16 15]
def SK:IL:=[jm 18 16 14 16,je 19 16 18,GM 8 8,jh 16 8 19]
def SL:IL:=[jb 20 0 8,jw 21 0 8 20,jb 22 1 8,jw 23 0 8 22,jb 24 15 8,jw 25 0 8 24,ju 26 72 25,jb 27 2 8,jw 28 0 8 27,jb 29 3 8,jw 30 0 8 29,jb 31 4 8,jb 32 0 31,jw 33 0 8 32,yf 34 0 2 3 2,jb 35 4 8,yf 36 0 8 2 35,jx 37 73 34 36,⟨some 38,.val (.build [.int .i64 0,.str [],.str [],.int .i64 0,.int .i64 0,.int .i64 0,.int .i64 0,.int .i64 0] [(0,1,(.t 21)),(1,1,(.t 23)),(2,1,(.t 26)),(3,1,(.t 28)),(4,1,(.t 30)),(5,1,(.t 33)),(6,1,(.t 37)),(7,1,(.c (.int .i64 (-1))))]),none⟩,yw 9 9,yz 0 9 8 9 38]
def SP:IL:=[jb 39 6 8,jc 40 39,⟨some 41,.val (.bin .str .neq (.t 40) (.c (.str []))),none⟩]
def SR:IL:=[ja 42 6,jb 43 6 8,jc 44 43,jx 45 74 42 44,jy 46 45]
def SS:IL:=[ja 47 6,jb 48 6 8,jc 49 48,HD 50 1 1 0 1 49,yj 51 1 16 9 47 50,ja 6 51]
def GT:IL:=[ja 52 6,jb 53 6 8,jc 54 53,jx 55 75 52 54,jb 56 7 9,jh 1 56 55]
def UB:IL:=[jb 57 1 5,jc 58 57,je 59 8 9,⟨some 60,.bsl 8 1 [.int .i64 0,.str [],.str [],.int .i64 0,.int .i64 0,.int .i64 0,.int .i64 0,.int .i64 0] [(0,8,(.t 59))],none⟩,yj 61 8 80 100 58 60,jb 62 1 5,jh 1 62 61]
def UC:IL:=[jn 63 16 1,ja 16 63]
def Qqp:RC:=.gho (.drop 9) (.gho (.drop 8) (jQ SJ (.seq (jX 17 0) (.seq (.block 1 (jQ SK (jD SL (.seq (jQ SP (.cond (.t 41) (.seq (jQ SR (.cond (.t 46) (.reg SS) (.skip))) (.reg GT)) (.skip))) (.reg UB))))) (.reg UC)))))
def VP:IL:=[ja 64 6,jk 65 1 64,jb 66 2 5,jh 1 66 65]
def VQ:IL:=[je 67 3 5,jh 3 4 67]
def r49:RC:=jQ SB (jQ SD (.gho (.vecc 5 1 1100 8) (jQ SG (.gho (.vec 6 6 1) (.seq (jQ SH (.block 0 (.loop Qqp))) (jQ VP (jQ VQ (.ret))))))))
def o49:List RR:=[.cell 4 (some 3)]
theorem k49:CT 49 68 r49 o49:=ck Tryz.func49 Tryz.ntmps49 (by decide +kernel)
abbrev Qqq:IL:=[jd 4 0]
abbrev Qqr:IL:=[ja 6 0,jk 7 1 6,jd 8 0]
abbrev Qqs:IL:=[jr 9 8 7]
abbrev Qqt:IL:=[ja 10 8,ja 5 10]
abbrev Qqu:IL:=[ja 11 1,ja 12 0,ja 13 5,jm 14 3 12 13,je 15 3 14,Us 16 11 15]
abbrev Qqv:IL:=[ja 17 5,ja 4 17]
abbrev Qqw:IL:=[jn 18 8 1,ja 8 18]
abbrev Qqx:RC:=jQ Qqs (.seq (jX 9 0) (.seq (.block 1 (jQ Qqt (jQ Qqu (.cond (.t 16) (jQ Qqv (.ret)) (.skip))))) (.reg Qqw)))
abbrev Qqy:IL:=[jd 4 (-1)]
abbrev r51:RC:=jQ Qqq (.seq (jQ Qqr (.block 0 (.loop Qqx))) (jQ Qqy (.ret)))
abbrev o51:List RR:=[.tmp 4]
theorem k51:CT 51 19 r51 o51:=ck Tryz.func51 Tryz.ntmps51 (by decide +kernel)
abbrev Qqz:IL:=[jg 2 2 0,jf 3]
abbrev QqA:IL:=[jb 4 0 2,jc 5 4,jc 6 1,yp 7 5 6,ja 3 7]
abbrev r52:RC:=jQ Qqz (jQ QqA (.ret))
abbrev o52:List RR:=[.tmp 3]
theorem k52:CT 52 8 r52 o52:=ck Tryz.func52 Tryz.ntmps52 (by decide +kernel)
abbrev QqB:IL:=[jg 2 2 0,jg 3 3 1,yw 4 4,jf 5]
abbrev QqC:IL:=[zn 9 78 3,⟨some 10,.val (.build [.nilf] [(0,1,(.t 9))]),none⟩,je 11 3 2,yo 12 79 10 11,ja 8 12,jt 13 8 0,jt 14 8 1,yw 6 6,jh 8 6 13,ja 7 14]
abbrev QqD:IL:=[ja 15 7]
abbrev QqE:IL:=[je 16 8 6,jh 8 4 16,ya 5]
abbrev QqF:IL:=[zn 17 80 3,⟨some 18,.val (.build [.nilf] [(0,1,(.t 17))]),none⟩,je 19 3 2,yo 20 79 18 19,jt 21 20 0,jt 22 20 1,jh 8 4 21,ja 5 22]
abbrev r53:RC:=jQ QqB (.seq (jQ QqC (jQ QqD (.cond (.t 15) (jQ QqE (.ret)) (.skip)))) (jQ QqF (.ret)))
abbrev o53:List RR:=[.cell 4 (some 8),.tmp 5]
theorem k53:CT 53 23 r53 o53:=ck Tryz.func53 Tryz.ntmps53 (by decide +kernel)
abbrev QqG:IL:=[jg 2 2 0,jg 3 3 1,yw 4 4,jf 5]
abbrev QqH:IL:=[zn 6 81 3,⟨some 7,.val (.build [.nilf] [(0,1,(.t 6))]),none⟩,je 8 3 2,yo 9 79 7 8,jt 10 9 0,jt 11 9 1,jh 8 4 10,ja 5 11]
abbrev r54:RC:=jQ QqG (jQ QqH (.ret))
abbrev o54:List RR:=[.cell 4 (some 8),.tmp 5]
theorem k54:CT 54 12 r54 o54:=ck Tryz.func54 Tryz.ntmps54 (by decide +kernel)
abbrev QqI:IL:=[jg 3 3 0,jg 4 4 1,jg 5 5 2,jd 6 0]
abbrev QqJ:IL:=[jb 8 3 4,jc 9 8,js 10 9 5,ja 11 10,jl 12 3 5 11,jq 13 12 11,ym 14 13 5 11,ji 15 11 14]
abbrev QqK:IL:=[je 16 5 3,jb 17 4 4,jc 18 17,jb 19 4 5,jc 20 19,yk 21 82 16 18 20,ja 7 21]
abbrev QqL:IL:=[ja 22 7,yc 23 22 0]
abbrev QqM:IL:=[ja 24 7,ja 6 24]
abbrev QqN:IL:=[jb 26 5 4,jc 27 26,js 28 27 10,ja 29 28,jl 30 5 5 29,jq 31 30 29,ym 32 31 10 29,ji 33 29 32,ja 25 33]
abbrev QqO:IL:=[jb 34 5 4,jc 35 34,js 36 35 9,ja 37 36,jl 38 5 5 37,jq 39 38 37,ym 40 39 9 37,ji 41 37 40,ja 25 41]
abbrev QqP:IL:=[jd 6 0]
abbrev QqQ:IL:=[jb 43 5 4,jc 44 43,js 45 44 10,ja 46 45,jp 47 5 5 46,jz 48 47 46,yv 49 48 10 46,jo 50 46 49,ja 42 50]
abbrev QqR:IL:=[je 51 5 3,ju 52 83 51,ja 6 52]
abbrev Qaw:IL:=[jb 54 5 4,jc 55 54,js 56 55 9,ja 57 56,jl 58 5 5 57,jq 59 58 57,ym 60 59 1 57,ji 61 57 60,ja 62 61,jl 63 4 3 62,jq 64 63 62,ym 65 64 1 62,ji 66 62 65,ja 53 66]
abbrev Qax:IL:=[je 67 5 3,je 68 8 4,jx 69 84 67 68,ja 6 69]
abbrev Qay:IL:=[je 70 5 3,jb 71 5 4,jc 72 71,jb 73 5 5,jc 74 73,yk 75 82 70 72 74,ja 6 75]
abbrev r55:RC:=jQ QqI (.seq (jQ QqJ (.cond (.t 15) (jQ QqK (jQ QqL (.cond (.t 23) (jQ QqM (.ret)) (.skip)))) (.skip))) (.seq (.block 0 (.seq (jQ QqN (.cond (.t 25) (.skip) (.reg QqO))) (.cond (.t 25) (jQ QqP (.ret)) (jQ QqQ (.cond (.t 42) (jQ QqR (.ret)) (jQ Qaw (.cond (.t 53) (jQ Qax (.ret)) (.skip)))))))) (jQ Qay (.ret))))
abbrev o55:List RR:=[.tmp 6]
theorem k55:CT 55 76 r55 o55:=ck Tryz.func55 Tryz.ntmps55 (by decide +kernel)
def Nd:IL:=[jg 3 3 0,jg 4 4 1,jg 5 5 2,jd 6 0]
def Nf:IL:=[jb 8 5 5,jc 9 8,yc 10 9 9,ja 11 10,jp 12 5 4 11,jz 13 12 11,ze 14 13 9 11,jv 15 14 11,jl 16 5 4 15,jq 17 16 15,zp 18 17 1 15,zq 19 15 18 11,jo 20 11 19]
def SU:IL:=[jd 6 0]
def SX:IL:=[ya 7]
def SY:IL:=[jb 22 4 3,jc 23 22,js 24 23 4,ja 21 24]
def SZ:IL:=[jb 25 5 4,jc 26 25,yc 27 26 9,ja 28 27,yn 29 5 3 28,yn 30 8 4 28,yn 31 8 5 28,Vl 32 85 29 30 31 28,jo 33 28 32,ja 7 33]
def S0:IL:=[jb 35 4 3,jc 36 35,js 37 36 2,ja 38 37,jp 39 3 4 38,jz 40 39 38,yv 41 40 5 38,jo 42 38 41,ja 34 42]
def Ng:IL:=[yf 43 0 3 5 3,jb 44 2 3,jb 45 1 44,jw 46 0 3 45,jb 47 6 5,jw 48 0 5 47,jm 49 5 46 48,yu 50 5 49,yf 51 0 4 8 4,yk 52 59 43 50 51,ja 7 52]
def UD:IL:=[ja 53 7]
def UE:IL:=[jd 6 0]
def Qaz:IL:=[jd 6 16]
def Kt:RC:=jQ Nd (.seq (jQ Nf (.cond (.t 20) (jQ SU (.ret)) (.skip))) (jQ SX (.seq (.block 0 (jQ SY (.cond (.t 21) (.reg SZ) (jQ S0 (.cond (.t 34) (.draw Ng) (.skip)))))) (.seq (jQ UD (.cond (.t 53) (jQ UE (.ret)) (.skip))) (jQ Qaz (.ret))))))
def S1:List RR:=[.tmp 6]
theorem k56:CT 56 54 Kt S1:=ck Tryz.func56 Tryz.ntmps56 (by decide +kernel)
abbrev QqS:IL:=[jg 1 1 0,jf 2]
abbrev QqT:IL:=[jb 3 3 1,jc 4 3,yc 5 4 4,ja 6 5,jl 7 3 1 6,jq 8 7 6,zp 9 8 5 6,ji 10 6 9,ja 2 10]
abbrev r57:RC:=jQ QqS (jQ QqT (.ret))
abbrev o57:List RR:=[.tmp 2]
theorem k57:CT 57 11 r57 o57:=ck Tryz.func57 Tryz.ntmps57 (by decide +kernel)
abbrev QqU:IL:=[jg 2 2 0,jg 3 3 1,jf 4]
abbrev QqV:IL:=[jb 5 7 2,jc 6 5,yg 7 6 0,ja 8 7,jp 9 7 2 8,jz 10 9 8,jp 11 7 3 8,jz 12 11 8,FG 13 10 12 8,jo 14 8 13,ja 4 14]
abbrev r58:RC:=jQ QqU (jQ QqV (.ret))
abbrev o58:List RR:=[.tmp 4]
theorem k58:CT 58 15 r58 o58:=ck Tryz.func58 Tryz.ntmps58 (by decide +kernel)
def S2:IL:=[jg 3 3 0,jg 4 4 1,jg 5 5 2,jf 6]
def S3:IL:=[jb 10 1 4,jc 11 10]
def S4:IL:=[ya 6]
def S5:IL:=[jb 12 5 5,jc 13 12,js 14 13 1]
def QqW:IL:=[je 15 5 4,⟨some 16,.call (.f 86) [(.t 15),(.c (.int .i64 0))],none⟩,ja 17 16,zb 18 5 4 17,⟨some 19,.call (.f 86) [(.t 18),(.c (.int .i64 1))],(some (17,true))⟩,ji 20 17 19,ja 6 20]
def S6:IL:=[jb 21 0 3,jb 22 1 21,jc 23 22,jb 24 6 5,jc 25 24,jm 26 5 23 25,je 27 5 26,zg 7 7,jh 5 7 27]
def S7:IL:=[jb 28 1 7,jc 29 28]
def QqX:IL:=[jf 6]
def S8:IL:=[jb 30 2 7,jc 31 30,jk 32 1 31,jd 33 0]
def S9:IL:=[jr 34 33 32]
def VR:IL:=[jm 35 3 31 33,je 36 3 35,zz 9 9,jh 3 9 36]
def VS:IL:=[je 37 5 4,jb 38 1 9,jc 39 38,jx 40 86 37 39,jy 41 40]
def QaA:IL:=[jf 6]
def VT:IL:=[jn 42 33 1,ja 33 42]
def QqY:RC:=.gho (.drop 9) (jQ S9 (.seq (jX 34 0) (.seq (.block 1 (jQ VR (jQ VS (.cond (.t 41) (jQ QaA (.ret)) (.skip))))) (.reg VT))))
def VU:IL:=[ya 6]
def r59:RC:=jQ S2 (.seq (jQ S3 (.cond (.t 11) (jQ S4 (.ret)) (.skip))) (.seq (jQ S5 (.cond (.t 14) (jQ QqW (.ret)) (.skip))) (jQ S6 (.seq (jQ S7 (.cond (.t 29) (jQ QqX (.ret)) (.skip))) (.seq (jQ S8 (.block 0 (.loop QqY))) (jQ VU (.ret)))))))
def o59:List RR:=[.tmp 6]
theorem k59:CT 59 43 r59 o59:=ck Tryz.func59 Tryz.ntmps59 (by decide +kernel)
abbrev QqZ:IL:=[jg 1 1 0,jf 2]
abbrev Qq0:IL:=[jb 3 3 1,jc 4 3,js 5 4 4,ja 6 5,jl 7 5 1 6,jq 8 7 6,⟨some 9,.val (.bin .num .geq (.t 8) (.c (.int .i64 1))),(some (6,true))⟩,jj 10 9 6,jl 11 5 1 10,jq 12 11 10,yq 13 12 6 10,⟨some 14,.val (.pick (.t 10) (.t 13) (.c (.bool false))),(some (6,true))⟩,jj 15 14 6,jp 16 5 1 15,jz 17 16 15,yv 18 17 9 15,⟨some 19,.val (.pick (.t 15) (.c (.bool true)) (.t 18)),(some (6,true))⟩,ji 20 6 19,ja 2 20]
abbrev r60:RC:=jQ QqZ (jQ Qq0 (.ret))
abbrev KF:List RR:=[.tmp 2]
theorem k60:CT 60 21 r60 KF:=ck Tryz.func60 Tryz.ntmps60 (by decide +kernel)
def Ta:IL:=[jg 1 1 0,yh 2]
def Tb:IL:=[⟨some 14,.val (.build [.str [],.int .i64 0,.nils] [(1,1,(.c (.int .i64 (-1))))]),none⟩,jg 15 15 14,ja 3 15]
def Tc:IL:=[je 16 3 1,ju 17 97 16,⟨some 4,.allocN 4 [.nils,.nils,.nils],none⟩,jh 3 4 17]
def Td:IL:=[je 18 3 4,jd 19 0]
def Te:IL:=[yg 20 19 3]
def H2:IL:=[⟨some 21,.val (.aidx 3 1 none (.t 18) (.t 19)),none⟩,ja 6 21]
def Nh:IL:=[ja 22 3,ja 23 6,jk 24 1 23,Ut 25 24 64,yb 26 98 22 25 3]
def Ni:IL:=[ja 27 3,ja 28 6,ju 29 99 28,yb 30 98 27 29 11]
def Nj:IL:=[jn 31 19 1,ja 19 31]
def Nk:RC:=jQ Te (.seq (jX 20 0) (.seq (.block 1 (jQ H2 (jQ Nh (.reg Ni)))) (.reg Nj)))
def Tf:IL:=[ja 32 3,je 33 3 4,ju 34 100 33,yb 35 98 32 34 9]
def VV:IL:=[je 36 3 1,ju 37 101 36,ja 7 37]
def VW:IL:=[jb 38 0 1,jc 39 38,jk 40 1 39,jd 41 0]
def VX:IL:=[jr 42 41 40]
def VY:IL:=[jm 43 5 39 41,je 44 5 43,zf 9 9,jh 5 9 44]
def VZ:IL:=[ja 45 3,ja 46 3,yl 47 46,jb 48 2 47,jc 49 48,yf 50 0 1 3 1,yf 51 0 9 5 9,ja 52 7,yk 53 102 50 51 52,yj 54 3 32 111 49 53,yl 55 45,jb 56 2 55,jh 1 56 54]
def V1:IL:=[jn 57 41 1,ja 41 57]
def Tg:RC:=.gho (.drop 9) (jQ VX (.seq (jX 42 2) (.seq (.block 3 (jQ VY (.draw VZ))) (.reg V1))))
def V2:IL:=[jb 58 1 1,jc 59 58,jk 60 1 59,jd 61 0]
def V3:IL:=[jr 62 61 60]
def V4:IL:=[jm 63 5 59 61,je 64 5 63,zg 11 11,jh 5 11 64]
def V5:IL:=[ja 65 3,ja 66 3,yl 67 66,jb 68 2 67,jc 69 68,yf 70 0 11 5 11,ju 71 103 70,yj 72 3 32 111 69 71,yl 73 65,jb 74 2 73,jh 1 74 72]
def V6:IL:=[jn 75 61 1,ja 61 75]
def Th:RC:=.gho (.drop 11) (jQ V3 (.seq (jX 62 4) (.seq (.block 5 (jQ V4 (.draw V5))) (.reg V6))))
def V7:IL:=[jb 76 2 1,jc 77 76,jk 78 1 77,jd 79 0]
def V8:IL:=[jr 80 79 78]
def V9:IL:=[jm 81 3 77 79,je 82 3 81,⟨some 13,.allocN 13 [.str [],.nils,.nils],none⟩,jh 3 13 82]
def Ca:IL:=[ja 83 3,ja 84 3,yl 85 84,jb 86 2 85,jc 87 86,yf 88 0 1 3 1,yf 89 0 13 3 13,jx 90 104 88 89,yj 91 3 32 111 87 90,yl 92 83,jb 93 2 92,jh 1 93 91]
def Cb:IL:=[jn 94 79 1,ja 79 94]
def Ti:RC:=.gho (.drop 13) (jQ V8 (.seq (jX 80 6) (.seq (.block 7 (jQ V9 (.draw Ca))) (.reg Cb))))
def Cc:IL:=[ja 95 3,yl 96 95,jb 97 2 96,jc 98 97,ja 2 98]
def r71:RC:=jQ Ta (jQ Tb (.gho (.vecc 15 2 1100 3) (jQ Tc (.seq (jQ Td (.block 0 (.loop Nk))) (jQ Tf (jQ VV (.seq (jQ VW (.block 2 (.loop Tg))) (.seq (jQ V2 (.block 4 (.loop Th))) (.seq (jQ V7 (.block 6 (.loop Ti))) (jQ Cc (.ret)))))))))))
def o71:List RR:=[.tmp 2]
theorem k71:CT 71 99 r71 o71:=ck Tryz.func71 Tryz.ntmps71 (by decide +kernel)
abbrev Qq1:IL:=[Uu 2]
abbrev Qq2:IL:=[ja 6 0,⟨some 7,.call (.f 77) [(.t 6),(.c (.str [97,108,105,97,115]))],none⟩,ja 5 7,jt 8 5 0,jt 9 5 1,zu 3 3,jh 7 3 8,ja 4 9]
abbrev Qq3:IL:=[jb 10 2 3,jc 11 10,ja 2 11]
abbrev r72:RC:=jQ Qq1 (jQ Qq2 (jQ Qq3 (.ret)))
abbrev o72:List RR:=[.tmp 2]
theorem k72:CT 72 12 r72 o72:=ck Tryz.func72 Tryz.ntmps72 (by decide +kernel)
abbrev Qq4:IL:=[jg 2 2 0,jg 3 3 1,jd 4 0]
abbrev Qq5:IL:=[jb 5 0 3,jc 6 5]
abbrev Qq6:IL:=[js 8 6 10,ja 7 8]
abbrev Qq7:IL:=[jb 9 0 2,jc 10 9,zn 11 106 3,yo 12 105 10 11,ja 4 12]
abbrev Qq8:IL:=[js 14 6 9,ja 13 14]
abbrev Qq9:IL:=[jb 15 1 2,jc 16 15,zn 17 108 3,yo 18 107 16 17,ja 4 18]
abbrev Qra:IL:=[jd 4 (-1)]
abbrev r73:RC:=jQ Qq4 (.seq (jQ Qq5 (.block 0 (jQ Qq6 (.cond (.t 7) (jQ Qq7 (.ret)) (jQ Qq8 (.cond (.t 13) (jQ Qq9 (.ret)) (.skip))))))) (jQ Qra (.ret)))
abbrev o73:List RR:=[.tmp 4]
theorem k73:CT 73 19 r73 o73:=ck Tryz.func73 Tryz.ntmps73 (by decide +kernel)
abbrev Qrb:IL:=[jf 4]
abbrev Qrc:IL:=[ja 5 0,ja 6 1,jx 7 75 5 6,yd 8 7 0,ja 4 8]
abbrev r74:RC:=jQ Qrb (jQ Qrc (.ret))
abbrev o74:List RR:=[.tmp 4]
theorem k74:CT 74 9 r74 o74:=ck Tryz.func74 Tryz.ntmps74 (by decide +kernel)
abbrev Qrd:IL:=[jd 4 0]
abbrev Qre:IL:=[ja 6 0,jk 7 1 6,jd 8 0]
abbrev Qrf:IL:=[jr 9 8 7]
abbrev Qrg:IL:=[ja 10 8,ja 5 10]
abbrev Qrh:IL:=[ja 11 1,ja 12 0,ja 13 5,jm 14 1 12 13,jc 15 14,yp 16 11 15]
abbrev Qri:IL:=[ja 17 5,ja 4 17]
abbrev Qrj:IL:=[jn 18 8 1,ja 8 18]
abbrev Qrk:RC:=jQ Qrf (.seq (jX 9 0) (.seq (.block 1 (jQ Qrg (jQ Qrh (.cond (.t 16) (jQ Qri (.ret)) (.skip))))) (.reg Qrj)))
abbrev Qrl:IL:=[jd 4 (-1)]
abbrev r75:RC:=jQ Qrd (.seq (jQ Qre (.block 0 (.loop Qrk))) (jQ Qrl (.ret)))
abbrev o75:List RR:=[.tmp 4]
theorem k75:CT 75 19 r75 o75:=ck Tryz.func75 Tryz.ntmps75 (by decide +kernel)
abbrev Qrm:IL:=[zu 4 4,jf 5]
abbrev Qrn:IL:=[ja 7 0,ja 8 1,jx 9 109 7 8,ja 6 9]
abbrev Qro:IL:=[ja 10 6,yg 11 10 0]
abbrev Qrp:IL:=[Uv 12,jh 7 4 12,jf 5]
abbrev Qrq:IL:=[ja 13 0,ja 14 6,jm 15 8 13 14,jb 16 1 15,je 17 7 16,jh 7 4 17,ya 5]
abbrev r77:RC:=jQ Qrm (jQ Qrn (.seq (jQ Qro (.cond (.t 11) (jQ Qrp (.ret)) (.skip))) (jQ Qrq (.ret))))
abbrev o77:List RR:=[.cell 4 (some 7),.tmp 5]
theorem k77:CT 77 18 r77 o77:=ck Tryz.func77 Tryz.ntmps77 (by decide +kernel)
abbrev Qrr:IL:=[jg 2 2 0,jf 3]
abbrev Qrs:IL:=[jb 4 1 2,jc 5 4,jc 6 1,yp 7 5 6,ja 3 7]
abbrev r78:RC:=jQ Qrr (jQ Qrs (.ret))
abbrev o78:List RR:=[.tmp 3]
theorem k78:CT 78 8 r78 o78:=ck Tryz.func78 Tryz.ntmps78 (by decide +kernel)
abbrev Qrt:IL:=[jg 2 2 0,jg 3 3 1,yw 4 4,jf 5]
abbrev Qru:IL:=[jb 7 1 3,jc 8 7,jb 9 0 2,jc 10 9,yo 11 110 8 10,ja 6 11]
abbrev Qrv:IL:=[ja 12 6,yg 13 12 0]
abbrev Qrw:IL:=[⟨some 14,.val (.build [.int .i64 0,.str [],.str [],.int .i64 0,.int .i64 0,.int .i64 0,.int .i64 0,.int .i64 0] []),none⟩,jh 8 4 14,jf 5]
abbrev Qrx:IL:=[jb 15 1 3,jc 16 15,ja 17 6,jm 18 8 16 17,je 19 8 18,jh 8 4 19,ya 5]
abbrev r79:RC:=jQ Qrt (jQ Qru (.seq (jQ Qrv (.cond (.t 13) (jQ Qrw (.ret)) (.skip))) (jQ Qrx (.ret))))
abbrev o79:List RR:=[.cell 4 (some 8),.tmp 5]
theorem k79:CT 79 20 r79 o79:=ck Tryz.func79 Tryz.ntmps79 (by decide +kernel)
abbrev Qry:IL:=[jg 2 2 0,jf 3]
abbrev Qrz:IL:=[jb 4 2 2,jc 5 4,jc 6 1,yp 7 5 6,ja 8 7,jq 9 1 8,⟨some 10,.val (.bin .str .neq (.t 9) (.c (.str []))),(some (8,true))⟩,ji 11 8 10,ja 3 11]
abbrev r80:RC:=jQ Qry (jQ Qrz (.ret))
abbrev Js:List RR:=[.tmp 3]
theorem k80:CT 80 12 r80 Js:=ck Tryz.func80 Tryz.ntmps80 (by decide +kernel)
abbrev QrA:IL:=[jg 2 2 0,jf 3]
abbrev QrB:IL:=[jb 4 0 2,jc 5 4,jc 6 1,zm 7 5 6,ja 3 7]
abbrev r81:RC:=jQ QrA (jQ QrB (.ret))
abbrev o81:List RR:=[.tmp 3]
theorem k81:CT 81 8 r81 o81:=ck Tryz.func81 Tryz.ntmps81 (by decide +kernel)
abbrev QrC:IL:=[jg 3 3 0,jd 6 0]
abbrev QrD:IL:=[jb 11 4 3,jc 12 11,ja 13 1,ja 14 2,yk 15 111 12 13 14]
abbrev QrE:IL:=[js 17 15 0,ja 16 17]
abbrev QrF:IL:=[je 18 5 3,ju 19 83 18,ja 6 19]
abbrev QrG:IL:=[js 21 15 1,ja 20 21]
abbrev QrH:IL:=[jb 23 4 3,jc 24 23,ja 25 1,ja 26 2,yk 27 112 24 25 26,ja 22 27,jt 28 22 0,jt 29 22 1,zu 7 7,jh 7 7 28,ja 8 29]
abbrev QrI:IL:=[jb 31 4 3,jc 32 31,ja 33 1,ja 34 2,je 35 7 7,⟨some 36,.call (.f 113) [(.t 32),(.t 33),(.t 34),(.t 35)],none⟩,ja 30 36,jt 37 30 0,jt 38 30 1,zu 9 9,jh 7 9 37,ja 10 38]
abbrev QrJ:IL:=[ja 39 10,ja 6 39]
abbrev QrK:IL:=[jd 6 0]
abbrev r82:RC:=jQ QrC (.seq (jQ QrD (.block 0 (jQ QrE (.cond (.t 16) (jQ QrF (.ret)) (jQ QrG (.cond (.t 20) (jQ QrH (jQ QrI (jQ QrJ (.ret)))) (.skip))))))) (jQ QrK (.ret)))
abbrev o82:List RR:=[.tmp 6]
theorem k82:CT 82 40 r82 o82:=ck Tryz.func82 Tryz.ntmps82 (by decide +kernel)
abbrev QrL:IL:=[jg 1 1 0,jd 2 0]
abbrev QrM:IL:=[jb 3 4 1,jc 4 3,js 5 4 1]
abbrev QrN:IL:=[jd 2 13]
abbrev QrO:IL:=[jd 2 12]
abbrev r83:RC:=jQ QrL (.seq (jQ QrM (.cond (.t 5) (jQ QrN (.ret)) (.skip))) (jQ QrO (.ret)))
abbrev o83:List RR:=[.tmp 2]
theorem k83:CT 83 6 r83 o83:=ck Tryz.func83 Tryz.ntmps83 (by decide +kernel)
abbrev QrP:IL:=[jg 2 2 0,jg 3 3 1,jd 4 0]
abbrev QrQ:IL:=[jb 8 0 2,jb 9 1 8,jc 10 9,jb 11 6 3,jc 12 11,jm 13 5 10 12,je 14 5 13,zg 5 5,jh 5 5 14]
abbrev QrR:IL:=[jb 15 1 5,jc 16 15]
abbrev QrS:IL:=[jd 4 6]
abbrev QrT:IL:=[jb 17 2 5,jc 18 17,jk 19 1 18,jd 20 0]
abbrev QrU:IL:=[jr 21 20 19]
abbrev QrV:IL:=[jm 22 3 18 20,je 23 3 22,zz 7 7,jh 3 7 23]
abbrev QrW:IL:=[jb 24 1 7,jc 25 24,ys 26 25 1]
abbrev QrX:IL:=[jd 4 6]
abbrev QrY:IL:=[jn 27 20 1,ja 20 27]
abbrev QrZ:RC:=.gho (.drop 7) (jQ QrU (.seq (jX 21 0) (.seq (.block 1 (jQ QrV (jQ QrW (.cond (.t 26) (jQ QrX (.ret)) (.skip))))) (.reg QrY))))
abbrev QaF:IL:=[jd 4 0]
abbrev r84:RC:=jQ QrP (jQ QrQ (.seq (jQ QrR (.cond (.t 16) (jQ QrS (.ret)) (.skip))) (.seq (jQ QrT (.block 0 (.loop QrZ))) (jQ QaF (.ret)))))
abbrev o84:List RR:=[.tmp 4]
theorem k84:CT 84 28 r84 o84:=ck Tryz.func84 Tryz.ntmps84 (by decide +kernel)
def Tj:IL:=[jg 3 3 0,jg 4 4 1,jg 5 5 2,jf 6]
def Tk:IL:=[jb 13 0 3,jb 14 1 13,jw 15 0 3 14,jb 16 6 4,jw 17 0 4 16,jm 18 5 15 17,yu 19 5 18,jb 20 2 3,jb 21 1 20,jw 22 0 3 21,jb 23 6 5,jw 24 0 5 23,jm 25 5 22 24,yu 26 5 25,zg 7 7,zg 8 8,yz 0 7 5 7 19,yz 0 8 5 8 26]
def Tl:IL:=[jb 27 2 7,jc 28 27,jk 29 1 28,jd 30 0]
def Tm:IL:=[jr 31 30 29]
def Tn:IL:=[jm 32 3 28 30,je 33 3 32,zz 10 10,jh 3 10 33]
def To:IL:=[jb 34 1 10,jc 35 34,yc 36 35 0,ja 37 36,jp 38 3 4 37,jz 39 38 37,ze 40 39 3 37,jo 41 37 40,ja 42 41,zb 43 5 8 42,jl 44 0 10 42,jq 45 44 42,FH 46 114 43 45 42,yy 47 46 42,ji 48 42 47]
def Qr0:IL:=[jf 6]
def H3:IL:=[jn 49 30 1,ja 30 49]
def Qr1:RC:=.gho (.drop 10) (jQ Tm (.seq (jX 31 0) (.seq (.block 1 (jQ Tn (jQ To (.cond (.t 48) (jQ Qr0 (.ret)) (.skip))))) (.reg H3))))
def Tp:IL:=[jb 50 1 7,jc 51 50,jy 52 51]
def Tq:IL:=[ya 6]
def Cd:IL:=[jb 53 2 8,jc 54 53,jk 55 1 54,jd 56 0]
def Ce:IL:=[jr 57 56 55]
def Cf:IL:=[jm 58 3 54 56,je 59 3 58,zz 12 12,jh 3 12 59]
def Cg:IL:=[je 60 5 7,jb 61 1 12,jc 62 61,jx 63 86 60 62,jy 64 63]
def QaG:IL:=[jf 6]
def Ch:IL:=[jn 65 56 1,ja 56 65]
def Qr2:RC:=.gho (.drop 12) (jQ Ce (.seq (jX 57 2) (.seq (.block 3 (jQ Cf (jQ Cg (.cond (.t 64) (jQ QaG (.ret)) (.skip))))) (.reg Ch))))
def Ci:IL:=[jb 66 1 8,jc 67 66,ja 6 67]
def r85:RC:=jQ Tj (jD Tk (.seq (jQ Tl (.block 0 (.loop Qr1))) (.seq (jQ Tp (.cond (.t 52) (jQ Tq (.ret)) (.skip))) (.seq (jQ Cd (.block 2 (.loop Qr2))) (jQ Ci (.ret))))))
def o85:List RR:=[.tmp 6]
theorem k85:CT 85 68 r85 o85:=ck Tryz.func85 Tryz.ntmps85 (by decide +kernel)
abbrev Qr3:IL:=[jg 2 2 0,jf 4]
abbrev Qr4:IL:=[jb 7 2 2,jc 8 7,jk 9 1 8,jd 10 0]
abbrev Qr5:IL:=[jr 11 10 9]
abbrev Qr6:IL:=[jm 12 3 8 10,je 13 3 12,zz 6 6,jh 3 6 13]
abbrev Qr7:IL:=[jb 14 1 6,jc 15 14,ja 16 1,zm 17 15 16]
abbrev Qr8:IL:=[ya 4]
abbrev Qr9:IL:=[jn 18 10 1,ja 10 18]
abbrev Qsa:RC:=.gho (.drop 6) (jQ Qr5 (.seq (jX 11 0) (.seq (.block 1 (jQ Qr6 (jQ Qr7 (.cond (.t 17) (jQ Qr8 (.ret)) (.skip))))) (.reg Qr9))))
abbrev Qsb:IL:=[jf 4]
abbrev r86:RC:=jQ Qr3 (.seq (jQ Qr4 (.block 0 (.loop Qsa))) (jQ Qsb (.ret)))
abbrev o86:List RR:=[.tmp 4]
theorem k86:CT 86 19 r86 o86:=ck Tryz.func86 Tryz.ntmps86 (by decide +kernel)
abbrev Qsc:IL:=[jg 1 1 0,⟨some 2,.allocN 2 [.nils,.nils,.nils],none⟩]
abbrev Qsd:IL:=[⟨some 3,.allocN 3 [.nils,.nils,.nils],none⟩]
abbrev Qse:IL:=[jb 10 0 1,jc 11 10,jk 12 1 11,jd 13 0]
abbrev Qsf:IL:=[jr 14 13 12]
abbrev Qsg:IL:=[jm 15 5 11 13,je 16 5 15,zf 5 5,jh 5 5 16]
abbrev Qsh:IL:=[FI 17 1 3 3 0,jc 18 17,jb 19 0 5,jc 20 19,HD 21 1 1 0 1 20,yj 22 1 16 9 18 21,FI 23 1 3 3 0,jh 1 23 22]
abbrev Qsi:IL:=[jn 24 13 1,ja 13 24]
abbrev Tr:RC:=.gho (.drop 5) (jQ Qsf (.seq (jX 14 0) (.seq (.block 1 (jQ Qsg (.reg Qsh))) (.reg Qsi))))
abbrev Qsj:IL:=[jb 25 1 1,jc 26 25,jk 27 1 26,jd 28 0]
abbrev Qsk:IL:=[jr 29 28 27]
abbrev Qsl:IL:=[jm 30 5 26 28,je 31 5 30,zg 7 7,jh 5 7 31]
abbrev QaJ:IL:=[FI 32 1 3 3 1,jc 33 32,jb 34 0 7,jc 35 34,HD 36 1 1 0 1 35,yj 37 1 16 9 33 36,FI 38 1 3 3 1,jh 1 38 37]
abbrev QaK:IL:=[jn 39 28 1,ja 28 39]
abbrev Ts:RC:=.gho (.drop 7) (jQ Qsk (.seq (jX 29 2) (.seq (.block 3 (jQ Qsl (.reg QaJ))) (.reg QaK))))
abbrev QaL:IL:=[jb 40 2 1,jc 41 40,jk 42 1 41,jd 43 0]
abbrev QaM:IL:=[jr 44 43 42]
abbrev QaN:IL:=[jm 45 3 41 43,je 46 3 45,⟨some 9,.allocN 9 [.str [],.nils,.nils],none⟩,jh 3 9 46]
abbrev QaO:IL:=[FI 47 1 3 3 2,jc 48 47,jb 49 0 9,jc 50 49,HD 51 1 1 0 1 50,yj 52 1 16 9 48 51,FI 53 1 3 3 2,jh 1 53 52]
abbrev QaP:IL:=[jn 54 43 1,ja 43 54]
abbrev Tt:RC:=.gho (.drop 9) (jQ QaM (.seq (jX 44 4) (.seq (.block 5 (jQ QaN (.reg QaO))) (.reg QaP))))
abbrev QaQ:IL:=[je 55 3 3,jh 3 2 55]
abbrev r97:RC:=jQ Qsc (jQ Qsd (.gho (.vecc 3 0 1100 1) (.gho (.vecc 3 1 1101 1) (.gho (.vecc 3 2 1102 1) (.seq (jQ Qse (.block 0 (.loop Tr))) (.seq (jQ Qsj (.block 2 (.loop Ts))) (.seq (jQ QaL (.block 4 (.loop Tt))) (jQ QaQ (.ret)))))))))
abbrev o97:List RR:=[.cell 2 (some 3)]
theorem k97:CT 97 56 r97 o97:=ck Tryz.func97 Tryz.ntmps97 (by decide +kernel)
abbrev Qsm:IL:=[ja 6 1,jy 7 6]
abbrev Qsn:IL:=[ja 8 0,ja 9 0,yl 10 9,jb 11 2 10,HC 12 11,ja 13 0,yl 14 13,jb 15 0 14,HC 16 15,ja 17 0,yl 18 17,jb 19 1 18,HC 20 19,ja 21 2,⟨some 22,.val (.build [.str [],.int .i64 0,.int .i64 0] [(0,1,(.t 16)),(1,1,(.t 20)),(2,1,(.t 21))]),none⟩,⟨some 23,.bsl 3 1 [.str [],.int .i64 0,.int .i64 0] [(0,3,(.t 22))],none⟩,yj 24 3 32 111 12 23,yl 25 8,jb 26 2 25,jh 1 26 24]
abbrev r98:RC:=jQ Qsm (.cond (.t 7) (.draw Qsn) (.skip))
abbrev o98:List RR:=[]
theorem GU:CT 98 27 r98 o98:=ck Tryz.func98 Tryz.ntmps98 (by decide +kernel)
abbrev Qso:IL:=[jf 2]
abbrev Qsp:IL:=[jd 3 1]
abbrev Qsq:IL:=[ja 4 3,ja 5 0,jk 6 1 5,jr 7 4 6]
abbrev Qsr:IL:=[ja 10 0,ja 11 3,jm 12 1 10 11,zv 13 12,ja 14 0,ja 15 3,zh 16 15 1,jm 17 1 14 16,zv 18 17,⟨some 19,.val (.bin .str .leq (.t 13) (.t 18)),none⟩]
abbrev Qss:IL:=[jf 2]
abbrev Qst:IL:=[ja 8 3,jn 9 8 1,ja 3 9]
abbrev Qsu:RC:=.seq (jQ Qsq (jX 7 0)) (.seq (.block 1 (jD Qsr (.cond (.t 19) (jQ Qss (.ret)) (.skip)))) (.reg Qst))
abbrev Qsv:IL:=[ya 2]
abbrev r99:RC:=jQ Qso (.seq (jQ Qsp (.block 0 (.loop Qsu))) (jQ Qsv (.ret)))
abbrev o99:List RR:=[.tmp 2]
theorem k99:CT 99 20 r99 o99:=ck Tryz.func99 Tryz.ntmps99 (by decide +kernel)
abbrev QaR:IL:=[jg 1 1 0,jf 2]
abbrev QaS:IL:=[jd 5 0]
abbrev QaT:IL:=[yg 6 5 3]
abbrev QaU:IL:=[ja 7 5,ja 3 7]
abbrev QaV:IL:=[ja 8 3,jd 9 0]
abbrev QaW:IL:=[jr 10 9 8]
abbrev QaX:IL:=[ja 11 9,⟨some 4,.allocN 4 [.int .i64 0],none⟩,jh 1 4 11]
abbrev QaY:IL:=[ja 12 3,⟨some 13,.val (.iaddr 1 (some 3) (.t 1) (.t 12)),none⟩,jc 14 13,⟨some 15,.val (.mkfn (.func 118) [] [(.t 1),(.t 4)]),none⟩,yo 16 117 14 15]
abbrev QaZ:IL:=[jf 2]
abbrev Qa0:IL:=[jn 17 9 1,ja 9 17]
abbrev Cj:RC:=.gho (.drop 4) (jQ QaW (.seq (jX 10 2) (.seq (.block 3 (jQ QaX (jQ QaY (.cond (.t 16) (jQ QaZ (.ret)) (.skip))))) (.reg Qa0))))
abbrev A1:IL:=[jn 18 5 1,ja 5 18]
abbrev Qa1:RC:=.gho (.drop 4) (jQ QaT (.seq (jX 6 0) (.seq (.block 1 (jQ QaU (jQ QaV (.block 2 (.loop Cj))))) (.reg A1))))
abbrev A2:IL:=[ya 2]
abbrev Qa2:RC:=jQ QaR (.seq (jQ QaS (.block 0 (.loop Qa1))) (jQ A2 (.ret)))
abbrev GV:List RR:=[.tmp 2]
theorem Qa3:CT 100 19 Qa2 GV:=ck Tryz.func100 Tryz.ntmps100 (by decide +kernel)
abbrev Qa4:IL:=[jg 1 1 0,⟨some 2,.val (.mov (.c (.nilm))),none⟩]
abbrev Qa5:IL:=[⟨some 9,.mkm 9,none⟩,⟨some 3,.allocN 3 [.nilm],none⟩,jh 1 3 9]
abbrev Qa6:IL:=[jb 10 0 1,jc 11 10,jk 12 1 11,jn 13 12 1,jd 14 0]
abbrev Qa7:IL:=[jr 15 14 13]
abbrev Qa8:IL:=[jb 16 0 1,jc 17 16,jk 18 1 17,jd 19 0]
abbrev Qa9:IL:=[jr 20 19 18]
abbrev Qba:IL:=[jm 21 5 17 19,je 22 5 21,zf 5 5,jh 5 5 22]
abbrev Qbb:IL:=[je 24 3 1,jb 25 0 5,jc 26 25,jx 27 119 24 26,ja 23 27,jt 28 23 0,jt 29 23 1,zf 6 6,jh 5 6 28,ja 7 29]
abbrev Qbc:IL:=[je 30 5 6,ju 31 120 30,⟨some 32,.val (.mkfn (.func 121) [] [(.t 1),(.t 3)]),none⟩,yo 33 117 31 32,ja 8 33]
abbrev Qbd:IL:=[ja 34 8,jy 35 34]
abbrev A3:IL:=[jc 36 3,jb 37 0 5,jc 38 37,⟨none,.mput (.t 36) (.t 38) (.c (.bool true)),none⟩]
abbrev A4:IL:=[jn 39 19 1,ja 19 39]
abbrev Ck:RC:=.gho (.drop 6) (.gho (.drop 5) (jQ Qa9 (.seq (jX 20 2) (.seq (.block 3 (jQ Qba (jQ Qbb (jQ Qbc (jQ Qbd (.cond (.t 35) (.reg A3) (.skip))))))) (.reg A4)))))
abbrev A5:IL:=[jn 40 14 1,ja 14 40]
abbrev Qbe:RC:=.gho (.drop 6) (.gho (.drop 5) (jQ Qa7 (.seq (jX 15 0) (.seq (.block 1 (jQ Qa8 (.block 2 (.loop Ck)))) (.reg A5)))))
abbrev A6:IL:=[jc 41 3,ja 2 41]
abbrev Qbf:RC:=jQ Qa4 (jQ Qa5 (.seq (jQ Qa6 (.block 0 (.loop Qbe))) (jQ A6 (.ret))))
abbrev Qbg:List RR:=[.tmp 2]
theorem Qbh:CT 101 42 Qbf Qbg:=ck Tryz.func101 Tryz.ntmps101 (by decide +kernel)
def Cl:IL:=[jg 3 3 0,jg 4 4 1,yh 6]
def Cm:IL:=[jb 11 0 4,jc 12 11,⟨some 13,.val (.build [.str [],.int .i64 0,.nils] [(0,1,(.t 12)),(1,1,(.c (.int .i64 (-1))))]),none⟩,jg 14 14 13,ja 7 14]
def Cn:IL:=[ja 15 7,jb 16 0 4,jc 17 16,ju 18 122 17,yb 19 98 15 18 8]
def GW:IL:=[ja 20 7,jb 21 1 4,jc 22 21,jk 23 1 22,Ut 24 23 64,ja 25 24,jl 26 2 4 25,jq 27 26 25,ye 28 1 27 25,jl 29 3 4 25,jq 30 29 25,ye 31 1 30 25,⟨some 32,.val (.mnx true (.t 28) (.t 31)),(some (25,true))⟩,yq 33 32 16 25,ji 34 25 33,yb 35 98 20 34 3]
def Co:IL:=[jb 36 1 4,jc 37 36,jk 38 1 37,jd 39 0]
def Cq:IL:=[jr 40 39 38]
def Cr:IL:=[ja 41 39,ja 8 41]
def Cs:IL:=[ja 42 7,je 43 3 3,je 44 5 4,ja 45 8,⟨some 46,.callF (.f 123) [(.t 42),(.t 43),(.t 44),(.t 45)],none⟩]
def Ct:IL:=[jn 47 39 1,ja 39 47]
def GX:RC:=jQ Cq (.seq (jX 40 0) (.seq (.block 1 (jQ Cr (.reg Cs))) (.reg Ct)))
def Cu:IL:=[ja 48 7,jb 49 2 4,jc 50 49,yr 51 124 48 50 1 65535]
def FP:IL:=[jb 52 3 4,jc 53 52,jk 54 1 53,jd 55 0]
def FQ:IL:=[jr 56 55 54]
def FR:IL:=[jm 57 1 53 55,jc 58 57,ja 10 58]
def FS:IL:=[ja 59 7,ja 60 10,ju 61 125 60,yb 62 98 59 61 7]
def FT:IL:=[jn 63 55 1,ja 55 63]
def GY:RC:=jQ FQ (.seq (jX 56 2) (.seq (.block 3 (jQ FR (.reg FS))) (.reg FT)))
def FU:IL:=[ja 64 7,jb 65 4 4,jc 66 65,yb 67 126 64 66 1]
def FV:IL:=[ja 68 7,je 69 3 3,je 70 5 4,ja 71 2,yk 72 127 69 70 71,jy 73 72,yb 74 98 68 73 19]
def FW:IL:=[ja 75 7,yl 76 75,jb 77 2 76,jc 78 77,ja 6 78]
def PD:RC:=jQ Cl (jQ Cm (.gho (.vecc 14 2 1100 3) (jQ Cn (jQ GW (.seq (jQ Co (.block 0 (.loop GX))) (jQ Cu (.seq (jQ FP (.block 2 (.loop GY))) (jQ FU (jQ FV (jQ FW (.ret)))))))))))
def PF:List RR:=[.tmp 6]
theorem Qbi:CT 102 79 PD PF:=ck Tryz.func102 Tryz.ntmps102 (by decide +kernel)
def Cv:IL:=[jg 2 2 0,jg 3 3 1,yh 4]
def Cw:IL:=[jb 12 0 3,jc 13 12,⟨some 14,.val (.build [.str [],.int .i64 0,.nils] [(0,1,(.t 13)),(1,1,(.c (.int .i64 (-1))))]),none⟩,jg 15 15 14,ja 5 15]
def Cx:IL:=[ja 16 5,jb 17 0 3,jc 18 17,ju 19 122 18,yb 20 98 16 19 8]
def Cy:IL:=[ja 21 5,jb 22 1 3,jc 23 22,jk 24 1 23,Ut 25 24 64,yb 26 98 21 25 3]
def Cz:IL:=[jb 27 1 3,jc 28 27,jk 29 1 28,jd 30 0]
def CA:IL:=[jr 31 30 29]
def CB:IL:=[ja 32 30,jm 33 5 28 30,je 34 5 33,⟨some 7,.allocN 7 [.str [],.str [],.str [],.int .i64 0,.nils],none⟩,ja 6 32,jh 5 7 34]
def CC:IL:=[ja 35 5,ja 36 6,yl 37 35,jb 38 1 37,jh 1 38 36]
def GZ:IL:=[ja 39 5,jb 40 0 7,jc 41 40,ju 42 128 41,yb 43 98 39 42 8]
def UF:IL:=[ja 44 5,ja 45 6,js 46 45 0,ja 47 46,jp 48 0 7 47,yi 49 0 7 48 47,jp 50 1 3 47,yi 51 0 3 50 47,jv 52 6 47,GN 53 52 1 47,zt 54 5 51 53 47,jp 55 0 54 47,Uw 56 55 47,⟨some 57,.val (.bin .str .gtr (.t 49) (.t 56)),(some (47,false))⟩,jo 58 47 57,yb 59 98 44 58 11]
def FX:IL:=[je 61 3 2,jb 62 1 7,jc 63 62,jx 64 119 61 63,ja 60 64,jt 65 60 0,jt 66 60 1,zf 8 8,jh 5 8 65,ja 9 66]
def FY:IL:=[je 68 3 2,jb 69 2 7,jc 70 69,jx 71 119 68 70,ja 67 71,jt 72 67 0,jt 73 67 1,zf 10 10,jh 5 10 72,ja 11 73]
def U0:IL:=[ja 74 5,ja 75 9,ja 76 75,jj 77 11 76,ji 78 76 77,yb 79 98 74 78 12]
def U1:IL:=[ja 80 5,jb 81 3 7,jc 82 81,yd 83 82 1,ja 84 83,jl 85 3 7 84,jq 86 85 84,yq 87 86 4 84,ji 88 84 87,yb 89 98 80 88 1]
def U2:IL:=[ja 90 5,jb 91 4 7,jc 92 91,yb 93 126 90 92 6]
def FZ:IL:=[jn 94 30 1,ja 30 94]
def CD:RC:=.gho (.drop 10) (.gho (.drop 8) (.gho (.drop 7) (jQ CA (.seq (jX 31 0) (.seq (.block 1 (jQ CB (jQ CC (jQ GZ (jD UF (jQ FX (jQ FY (jQ U0 (jQ U1 (.reg U2)))))))))) (.reg FZ))))))
def F0:IL:=[ja 95 5,yl 96 95,jb 97 1 96,⟨none,.store 1 (.t 97) (.c (.int .i64 (-1))),none⟩]
def F1:IL:=[ja 98 5,jb 99 2 3,jc 100 99,yb 101 126 98 100 5]
def F3:IL:=[ja 102 5,yl 103 102,jb 104 2 103,jc 105 104,ja 4 105]
def PH:RC:=jQ Cv (jQ Cw (.gho (.vecc 15 2 1100 3) (jQ Cx (jQ Cy (.seq (jQ Cz (.block 0 (.loop CD))) (jQ F0 (jQ F1 (jQ F3 (.ret)))))))))
def PJ:List RR:=[.tmp 4]
theorem Qbj:CT 104 106 PH PJ:=ck Tryz.func104 Tryz.ntmps104 (by decide +kernel)
abbrev Qbk:IL:=[jd 4 0]
abbrev Qbl:IL:=[ja 6 0,jk 7 1 6,jd 8 0]
abbrev Qbm:IL:=[jr 9 8 7]
abbrev Qbn:IL:=[ja 10 8,ja 5 10]
abbrev Qbo:IL:=[ja 11 1,ja 12 0,ja 13 5,jm 14 5 12 13,je 15 5 14,Us 16 11 15]
abbrev Qbp:IL:=[ja 17 5,ja 4 17]
abbrev Qbq:IL:=[jn 18 8 1,ja 8 18]
abbrev Qbr:RC:=jQ Qbm (.seq (jX 9 0) (.seq (.block 1 (jQ Qbn (jQ Qbo (.cond (.t 16) (jQ Qbp (.ret)) (.skip))))) (.reg Qbq)))
abbrev Qbs:IL:=[jd 4 (-1)]
abbrev Qbt:RC:=jQ Qbk (.seq (jQ Qbl (.block 0 (.loop Qbr))) (jQ Qbs (.ret)))
abbrev Qbu:List RR:=[.tmp 4]
theorem Qbv:CT 105 19 Qbt Qbu:=ck Tryz.func105 Tryz.ntmps105 (by decide +kernel)
abbrev Qbw:IL:=[jg 2 2 0,jf 3]
abbrev Qbx:IL:=[jb 4 0 2,jc 5 4,jb 6 1 1,jc 7 6,yp 8 5 7,ja 3 8]
abbrev Qby:RC:=jQ Qbw (jQ Qbx (.ret))
abbrev Qbz:List RR:=[.tmp 3]
theorem QbA:CT 106 9 Qby Qbz:=ck Tryz.func106 Tryz.ntmps106 (by decide +kernel)
abbrev QbB:IL:=[jd 4 0]
abbrev QbC:IL:=[ja 6 0,jk 7 1 6,jd 8 0]
abbrev QbD:IL:=[jr 9 8 7]
abbrev QbE:IL:=[ja 10 8,ja 5 10]
abbrev QbF:IL:=[ja 11 1,ja 12 0,ja 13 5,jm 14 5 12 13,je 15 5 14,Us 16 11 15]
abbrev QbG:IL:=[ja 17 5,ja 4 17]
abbrev QbH:IL:=[jn 18 8 1,ja 8 18]
abbrev QbI:RC:=jQ QbD (.seq (jX 9 0) (.seq (.block 1 (jQ QbE (jQ QbF (.cond (.t 16) (jQ QbG (.ret)) (.skip))))) (.reg QbH)))
abbrev QbJ:IL:=[jd 4 (-1)]
abbrev QbK:RC:=jQ QbB (.seq (jQ QbC (.block 0 (.loop QbI))) (jQ QbJ (.ret)))
abbrev QbL:List RR:=[.tmp 4]
theorem QbM:CT 107 19 QbK QbL:=ck Tryz.func107 Tryz.ntmps107 (by decide +kernel)
abbrev QbN:IL:=[jg 2 2 0,jf 3]
abbrev QbO:IL:=[jb 4 0 2,jc 5 4,jb 6 1 1,jc 7 6,yp 8 5 7,ja 3 8]
abbrev QbP:RC:=jQ QbN (jQ QbO (.ret))
abbrev QbQ:List RR:=[.tmp 3]
theorem QbR:CT 108 9 QbP QbQ:=ck Tryz.func108 Tryz.ntmps108 (by decide +kernel)
abbrev QbS:IL:=[jg 3 3 1,jd 4 0]
abbrev QbT:IL:=[ja 5 0,zn 6 133 3,yo 7 132 5 6,ja 4 7]
abbrev QbU:RC:=jQ QbS (jQ QbT (.ret))
abbrev QbV:List RR:=[.tmp 4]
theorem QbW:CT 109 8 QbU QbV:=ck Tryz.func109 Tryz.ntmps109 (by decide +kernel)
abbrev QbX:IL:=[jd 4 0]
abbrev QbY:IL:=[ja 6 0,jk 7 1 6,jd 8 0]
abbrev QbZ:IL:=[jr 9 8 7]
abbrev Qb0:IL:=[ja 10 8,ja 5 10]
abbrev Qb1:IL:=[ja 11 1,ja 12 0,ja 13 5,jm 14 8 12 13,je 15 8 14,Us 16 11 15]
abbrev Qb2:IL:=[ja 17 5,ja 4 17]
abbrev Qb3:IL:=[jn 18 8 1,ja 8 18]
abbrev Qb4:RC:=jQ QbZ (.seq (jX 9 0) (.seq (.block 1 (jQ Qb0 (jQ Qb1 (.cond (.t 16) (jQ Qb2 (.ret)) (.skip))))) (.reg Qb3)))
abbrev Qb5:IL:=[jd 4 (-1)]
abbrev Qb6:RC:=jQ QbX (.seq (jQ QbY (.block 0 (.loop Qb4))) (jQ Qb5 (.ret)))
abbrev Qb7:List RR:=[.tmp 4]
theorem Qb8:CT 110 19 Qb6 Qb7:=ck Tryz.func110 Tryz.ntmps110 (by decide +kernel)
abbrev Qb9:IL:=[jd 6 0]
abbrev Qca:IL:=[ja 10 0,ja 11 1,ja 12 2,yk 13 134 10 11 12,jy 14 13,ja 9 14]
abbrev Qcb:IL:=[jd 6 0]
abbrev Qcc:IL:=[ja 16 1,ja 17 2,zm 18 16 17,ja 15 18]
abbrev Qcd:IL:=[jd 6 2]
abbrev Qce:IL:=[ja 20 1,ju 21 135 20,ja 19 21]
abbrev Qcf:IL:=[ja 22 1,zh 23 22 1,Vo 24 2 9 0 23,yu 25 2 24,ja 26 2,zh 27 26 1,Vo 28 2 9 0 27,yu 29 2 28,⟨some 7,.allocN 7 [.int .u64 0,.int .u64 0],none⟩,⟨some 8,.allocN 8 [.int .u64 0,.int .u64 0],none⟩,yz 0 7 2 7 25,yz 0 8 2 8 29]
abbrev Qcg:IL:=[jb 30 0 7,jc 31 30,jb 32 0 8,jc 33 32,⟨some 34,.val (.bin .num .gtr (.t 31) (.t 33)),none⟩,ja 35 34,jp 36 1 7 35,jz 37 36 35,jp 38 1 8 35,jz 39 38 35,HE 40 37 39 35,jo 41 35 40]
abbrev Qch:IL:=[jd 6 1]
abbrev Qci:IL:=[jd 6 2]
abbrev A7:IL:=[ja 43 1,js 44 43 8,ja 42 44]
abbrev A8:IL:=[jd 6 1]
abbrev A9:IL:=[jd 6 2]
abbrev Qcj:RC:=jQ Qb9 (.seq (.block 0 (jQ Qca (.cond (.t 9) (jQ Qcb (.ret)) (jQ Qcc (.cond (.t 15) (jQ Qcd (.ret)) (jQ Qce (.cond (.t 19) (jD Qcf (.seq (jQ Qcg (.cond (.t 41) (jQ Qch (.ret)) (.skip))) (jQ Qci (.ret)))) (jQ A7 (.cond (.t 42) (jQ A8 (.ret)) (.skip)))))))))) (jQ A9 (.ret)))
abbrev Qck:List RR:=[.tmp 6]
theorem QzI:CT 111 45 Qcj Qck:=ck Tryz.func111 Tryz.ntmps111 (by decide +kernel)
abbrev Qcl:IL:=[zu 6 6,jf 7]
abbrev Qcm:IL:=[ja 9 0,ju 10 136 9,yg 11 10 0,ja 12 11,jv 13 1 12,za 14 137 13 12,yt 15 14 12,jo 16 12 15,ja 17 16,jv 18 2 17,za 19 137 18 17,yt 20 19 17,jo 21 17 20,ja 22 21,jv 23 0 22,jv 24 1 22,jv 25 2 22,Vl 26 111 23 24 25 22,yv 27 26 2 22,jo 28 22 27]
abbrev Qcn:IL:=[Uv 29,jh 7 6 29,jf 7]
abbrev Qco:IL:=[ja 30 0,ja 31 1,ja 32 2,yk 33 111 30 31 32,js 34 33 0]
abbrev Qcp:IL:=[ja 35 1,ju 36 138 35,jh 7 6 36,ya 7]
abbrev Qcq:IL:=[ja 37 1,js 38 37 8]
abbrev Qcr:IL:=[ja 39 1,⟨some 40,.val (.build [.int .i64 0,.int .u64 0,.str [],.nils,.nils,.nils,.nils] [(0,1,(.t 39)),(2,1,(.c (.str [255])))]),none⟩,jh 7 6 40,ya 7]
abbrev Qcs:IL:=[ja 41 2,zh 42 41 1,Vo 43 2 9 0 42,jb 44 1 43,jc 45 44,⟨some 46,.val (.bin .num .add (.t 45) (.c (.int .u64 1))),none⟩,ja 8 46]
abbrev Qct:IL:=[ja 47 8,Ux 48 47 0,ja 49 48,jv 50 8 49,jv 51 1 49,GN 52 51 1 49,⟨some 53,.val (.iaddr 2 (some 9) (.g 0 gl0) (.t 52)),(some (49,false))⟩,jp 54 1 53 49,jz 55 54 49,HE 56 50 55 49,jo 57 49 56]
abbrev Qcu:IL:=[⟨some 8,.val (.mov (.c (.int .u64 18446744073709551615))),none⟩]
abbrev Ea:IL:=[ja 58 1,ja 59 8,⟨some 60,.val (.build [.int .i64 0,.int .u64 0,.str [],.nils,.nils,.nils,.nils] [(0,1,(.t 58)),(1,1,(.t 59))]),none⟩,jh 7 6 60,ya 7]
abbrev Qcv:RC:=jQ Qcl (.seq (jQ Qcm (.cond (.t 28) (jQ Qcn (.ret)) (.skip))) (.seq (jQ Qco (.cond (.t 34) (jQ Qcp (.ret)) (.skip))) (.seq (jQ Qcq (.cond (.t 38) (jQ Qcr (.ret)) (.skip))) (jQ Qcs (.seq (jQ Qct (.cond (.t 57) (.reg Qcu) (.skip))) (jQ Ea (.ret)))))))
abbrev Qcw:List RR:=[.cell 6 (some 7),.tmp 7]
theorem QzJ:CT 112 61 Qcv Qcw:=ck Tryz.func112 Tryz.ntmps112 (by decide +kernel)
abbrev Qcx:IL:=[jg 7 7 3,zu 8 8,jd 9 0]
abbrev Qcy:IL:=[ja 10 0,ju 11 136 10,yg 12 11 0,ja 13 12,jv 14 1 13,za 15 137 14 13,yt 16 15 13,jo 17 13 16,ja 18 17,jv 19 2 18,za 20 137 19 18,yt 21 20 18,jo 22 18 21,ja 23 22,jv 24 1 23,yn 25 7 7 23,zj 26 139 24 25 23,yt 27 26 23,jo 28 23 27]
abbrev Qcz:IL:=[Uv 29,jh 7 8 29,jd 9 1]
abbrev QcA:IL:=[ja 31 0,ja 32 1,ja 33 2,yk 34 134 31 32 33,jy 35 34,ja 36 35,jj 37 0 36,ym 38 37 1 36,ji 39 36 38,ja 30 39]
abbrev QcB:IL:=[Uv 40,jh 7 8 40,jd 9 13]
abbrev QcC:IL:=[ja 42 0,ja 43 1,ja 44 2,yk 45 134 42 43 44,jy 46 45,ja 41 46]
abbrev QcD:IL:=[Uv 47,jh 7 8 47,jd 9 12]
abbrev QcE:IL:=[ja 49 1,ju 50 135 49,ja 51 50,jj 52 1 51,jj 53 2 51,jl 54 1 7 51,jq 55 54 51,⟨some 56,.call (.f 140) [(.t 52),(.t 53),(.t 55)],(some (51,true))⟩,yy 57 56 51,ji 58 51 57,ja 48 58]
abbrev QcF:IL:=[Uv 59,jh 7 8 59,jd 9 6]
abbrev QcG:IL:=[ja 61 2,js 62 61 7,ja 63 62,jl 64 2 7 63,jq 65 64 63,zk 66 125 65 63,yy 67 66 63,ji 68 63 67,ja 60 68]
abbrev Eb:IL:=[Uv 69,jh 7 8 69,jd 9 7]
abbrev Ec:IL:=[ja 70 2,jb 71 1 7,jc 72 71,jb 73 2 7,jc 74 73,⟨some 75,.val (.build [.int .i64 0,.int .u64 0,.str [],.nils,.nils,.nils,.nils] [(0,1,(.t 70)),(1,1,(.t 72)),(2,1,(.t 74))]),none⟩,ju 76 141 75,jh 7 8 76,jd 9 0]
abbrev QcH:RC:=jQ Qcx (.seq (jQ Qcy (.cond (.t 28) (jQ Qcz (.ret)) (.skip))) (.seq (.block 0 (jQ QcA (.cond (.t 30) (jQ QcB (.ret)) (jQ QcC (.cond (.t 41) (jQ QcD (.ret)) (jQ QcE (.cond (.t 48) (jQ QcF (.ret)) (jQ QcG (.cond (.t 60) (jQ Eb (.ret)) (.skip)))))))))) (jQ Ec (.ret))))
abbrev QcI:List RR:=[.cell 8 (some 7),.tmp 9]
theorem QzK:CT 113 77 QcH QcI:=ck Tryz.func113 Tryz.ntmps113 (by decide +kernel)
abbrev QcJ:IL:=[jg 2 2 0,jf 4]
abbrev QcK:IL:=[jb 7 2 2,jc 8 7,jk 9 1 8,jd 10 0]
abbrev QcL:IL:=[jr 11 10 9]
abbrev QcM:IL:=[jm 12 3 8 10,je 13 3 12,zz 6 6,jh 3 6 13]
abbrev QcN:IL:=[jb 14 0 6,jc 15 14,ja 16 1,yp 17 15 16]
abbrev QcO:IL:=[ya 4]
abbrev QcP:IL:=[jn 18 10 1,ja 10 18]
abbrev QcQ:RC:=.gho (.drop 6) (jQ QcL (.seq (jX 11 0) (.seq (.block 1 (jQ QcM (jQ QcN (.cond (.t 17) (jQ QcO (.ret)) (.skip))))) (.reg QcP))))
abbrev QcR:IL:=[jf 4]
abbrev QcS:RC:=jQ QcJ (.seq (jQ QcK (.block 0 (.loop QcQ))) (jQ QcR (.ret)))
abbrev QcT:List RR:=[.tmp 4]
theorem QcU:CT 114 19 QcS QcT:=ck Tryz.func114 Tryz.ntmps114 (by decide +kernel)
abbrev QcV:IL:=[jf 4]
abbrev QcW:IL:=[ja 5 0,ja 6 1,yo 7 142 5 6,yd 8 7 0,ja 4 8]
abbrev QcX:RC:=jQ QcV (jQ QcW (.ret))
abbrev QcY:List RR:=[.tmp 4]
theorem QcZ:CT 117 9 QcX QcY:=ck Tryz.func117 Tryz.ntmps117 (by decide +kernel)
abbrev Qc0:IL:=[jf 4]
abbrev Qc1:IL:=[jc 5 2,⟨some 6,.val (.iaddr 1 (some 3) (.t 1) (.t 5)),none⟩,jc 7 6,ja 8 0,jx 9 74 7 8,ja 4 9]
abbrev Qc2:RC:=jQ Qc0 (jQ Qc1 (.ret))
abbrev Qc3:List RR:=[.tmp 4]
theorem Qc4:CT 118 10 Qc2 Qc3:=ck Tryz.func118 Tryz.ntmps118 (by decide +kernel)
abbrev Qc5:IL:=[jg 2 2 0,jg 3 3 1,zf 4 4,jf 5]
abbrev Qc6:IL:=[jb 7 0 2,jc 8 7,zn 9 143 3,yo 10 105 8 9,ja 6 10]
abbrev Qc7:IL:=[ja 11 6,yg 12 11 0]
abbrev Qc8:IL:=[⟨some 13,.val (.build [.str [],.nils,.nils,.nils,.nils] []),none⟩,jh 5 4 13,jf 5]
abbrev Qc9:IL:=[jb 14 0 2,jc 15 14,ja 16 6,jm 17 5 15 16,je 18 5 17,jh 5 4 18,ya 5]
abbrev Qda:RC:=jQ Qc5 (jQ Qc6 (.seq (jQ Qc7 (.cond (.t 12) (jQ Qc8 (.ret)) (.skip))) (jQ Qc9 (.ret))))
abbrev Qdb:List RR:=[.cell 4 (some 5),.tmp 5]
theorem Qdc:CT 119 19 Qda Qdb:=ck Tryz.func119 Tryz.ntmps119 (by decide +kernel)
abbrev Qdd:IL:=[jg 1 1 0,yh 2]
abbrev Qde:IL:=[yh 3]
abbrev Qdf:IL:=[jb 6 1 1,jc 7 6,jk 8 1 7,jd 9 0]
abbrev Qdg:IL:=[jr 10 9 8]
abbrev Qdh:IL:=[jm 11 16 7 9,je 12 16 11,GM 5 5,jh 16 5 12]
abbrev Qdi:IL:=[jb 13 2 5,jc 14 13,js 15 14 1,ja 16 15,jl 17 4 5 16,jl 18 0 17 16,jq 19 18 16,ym 20 19 10 16,ji 21 16 20]
abbrev Qdj:IL:=[ja 22 3,jb 23 4 5,jb 24 1 23,jc 25 24,HD 26 1 1 0 1 25,yj 27 1 16 9 22 26,ja 3 27]
abbrev Qdk:IL:=[jn 28 9 1,ja 9 28]
abbrev Qdl:RC:=.gho (.drop 5) (jQ Qdg (.seq (jX 10 0) (.seq (.block 1 (jQ Qdh (jQ Qdi (.cond (.t 21) (.reg Qdj) (.skip))))) (.reg Qdk))))
abbrev Qdm:IL:=[ja 29 3,ja 2 29]
abbrev Qdn:RC:=jQ Qdd (jQ Qde (.gho (.vec 3 3 1) (.seq (jQ Qdf (.block 0 (.loop Qdl))) (jQ Qdm (.ret)))))
abbrev Qdo:List RR:=[.tmp 2]
theorem Qdp:CT 120 30 Qdn Qdo:=ck Tryz.func120 Tryz.ntmps120 (by decide +kernel)
abbrev Qdq:IL:=[jf 4]
abbrev Qdr:IL:=[je 8 3 1,ja 9 0,jx 10 119 8 9,ja 7 10,jt 11 7 0,jt 12 7 1,zf 5 5,jh 5 5 11,ja 6 12]
abbrev Qds:IL:=[ja 13 6,ja 14 13,jq 15 2 14,jj 16 0 14,⟨some 17,.val (.mget false (.bool false) (.t 15) (.t 16)),(some (14,true))⟩,yy 18 17 14,ji 19 14 18,ja 4 19]
abbrev Qdt:RC:=jQ Qdq (jQ Qdr (jQ Qds (.ret)))
abbrev Qdu:List RR:=[.tmp 4]
theorem Qdv:CT 121 20 Qdt Qdu:=ck Tryz.func121 Tryz.ntmps121 (by decide +kernel)
abbrev Qdw:IL:=[jf 2]
abbrev Qdx:IL:=[ja 3 0,ju 4 144 3,ja 5 4,jj 6 0 5,⟨some 7,.call (.f 145) [(.t 6),(.c (.str [46]))],(some (5,true))⟩,⟨some 8,.callF (.f 117) [(.t 7),(.f 146)],(some (5,true))⟩,yy 9 8 5,ji 10 5 9,ja 2 10]
abbrev Qdy:RC:=jQ Qdw (jQ Qdx (.ret))
abbrev Qdz:List RR:=[.tmp 2]
theorem QdA:CT 122 11 Qdy Qdz:=ck Tryz.func122 Tryz.ntmps122 (by decide +kernel)
def CE:IL:=[jg 5 5 1,jg 6 6 2]
def CF:IL:=[jb 9 1 6,jc 10 9,ja 11 3,jm 12 16 10 11,je 13 16 12,GM 8 8,jh 16 8 13]
def CG:IL:=[ja 14 0,jb 15 0 8,jc 16 15,yl 17 14,jb 18 1 17,jh 1 18 16]
def G0:IL:=[ja 19 0,jb 20 0 8,jc 21 20,yd 22 21 1,ja 23 22,jl 24 0 8 23,jq 25 24 23,yq 26 25 65535 23,ji 27 23 26,yb 28 98 19 27 6]
def UG:IL:=[ja 29 0,ja 30 3,js 31 30 0,ja 32 31,jp 33 0 8 32,yi 34 0 8 33 32,jp 35 1 6 32,yi 36 0 6 35 32,jv 37 3 32,GN 38 37 1 32,zt 39 16 36 38 32,jp 40 0 39 32,Uw 41 40 32,HE 42 34 41 32,jo 43 32 42,yb 44 98 29 43 11]
def G3:IL:=[ja 45 0,jb 46 1 8,jc 47 46,ju 48 128 47,yb 49 98 45 48 8]
def G4:IL:=[ja 50 0,jb 51 1 6,jc 52 51,ja 53 3,⟨some 54,.callF (.f 147) [(.t 52),(.t 53),(.f 148)],none⟩,jy 55 54,yb 56 98 50 55 9]
def G5:IL:=[ja 57 0,jb 58 2 6,jc 59 58,jb 60 0 8,jc 61 60,jx 62 131 59 61,jy 63 62,ja 64 63,jl 65 3 6 64,jq 66 65 64,jl 67 1 8 64,jq 68 67 64,FH 69 74 66 68 64,yy 70 69 64,ji 71 64 70,yb 72 98 57 71 21]
def G6:IL:=[ja 73 0,jb 74 2 8,jc 75 74,yd 76 75 1,ja 77 76,jl 78 2 8 77,jq 79 78 77,yq 80 79 5 77,ji 81 77 80,ja 82 81,jl 83 2 8 82,jq 84 83 82,jl 85 3 8 82,jq 86 85 82,FH 87 149 84 86 82,ji 88 82 87,yb 89 98 73 88 1]
def G7:IL:=[ja 90 0,je 91 3 5,je 92 16 8,jx 93 150 91 92,yb 94 98 90 93 12]
def U3:IL:=[ja 95 0,je 96 5 6,ja 97 3,jx 98 151 96 97,yb 99 98 95 98 15]
def U4:IL:=[ja 100 0,je 101 3 5,je 102 16 8,jx 103 152 101 102,yb 104 98 100 103 1]
def U5:IL:=[ja 105 0,jb 106 15 8,jc 107 106,yb 108 126 105 107 2]
def F4:IL:=[ja 109 0,yl 110 109,jb 111 1 110,⟨none,.store 1 (.t 111) (.c (.int .i64 (-1))),none⟩]
def PK:RC:=jQ CE (jQ CF (jQ CG (jQ G0 (jD UG (jQ G3 (jQ G4 (jQ G5 (jQ G6 (jQ G7 (jQ U3 (jQ U4 (jQ U5 (.reg F4)))))))))))))
def PM:List RR:=[]
theorem QdB:CT 123 112 PK PM:=ck Tryz.func123 Tryz.ntmps123 (by decide +kernel)
def CH:IL:=[ja 10 1,jk 11 1 10,jd 12 0]
def CI:IL:=[jr 13 12 11]
def CJ:IL:=[ja 14 12,jm 15 2 10 12,je 16 2 15,⟨some 9,.allocN 9 [.int .i64 0,.int .i64 0],none⟩,ja 8 14,jh 2 9 16]
def G8:IL:=[ja 17 0,jb 18 0 9,jc 19 18,ja 20 2,⟨some 21,.val (.bin .num .geq (.t 19) (.t 20)),none⟩,ja 22 21,jl 23 1 9 22,jq 24 23 22,jj 25 3 22,HF 26 24 25 22,ji 27 22 26,ja 28 27,jl 29 0 9 28,jq 30 29 28,jl 31 1 9 28,jq 32 31 28,HF 33 30 32 28,ji 34 28 33,yb 35 98 17 34 6]
def UH:IL:=[ja 36 0,ja 37 8,js 38 37 0,ja 39 38,jp 40 0 9 39,yi 41 0 9 40 39,jv 42 1 39,jv 43 8 39,GN 44 43 1 39,zt 45 2 42 44 39,jp 46 1 45 39,Uw 47 46 39,HE 48 41 47 39,jo 49 39 48,yb 50 98 36 49 11]
def CL:IL:=[jn 51 12 1,ja 12 51]
def QdC:RC:=.gho (.drop 9) (jQ CI (.seq (jX 13 0) (.seq (.block 1 (jQ CJ (jQ G8 (.draw UH)))) (.reg CL))))
def PP:RC:=jQ CH (.block 0 (.loop QdC))
def PQ:List RR:=[]
theorem QdD:CT 124 52 PP PQ:=ck Tryz.func124 Tryz.ntmps124 (by decide +kernel)
abbrev QdE:IL:=[jf 2]
abbrev QdF:IL:=[ja 3 0,ju 4 153 3,yg 5 4 0,ja 2 5]
abbrev QdG:RC:=jQ QdE (jQ QdF (.ret))
abbrev QdH:List RR:=[.tmp 2]
theorem QdI:CT 125 6 QdG QdH:=ck Tryz.func125 Tryz.ntmps125 (by decide +kernel)
abbrev QdJ:IL:=[ja 7 1,ja 8 2,jx 9 154 7 8,ja 6 9]
abbrev QdK:IL:=[ja 10 0,ja 11 6,js 12 11 0,ja 13 6,⟨some 14,.callF (.f 98) [(.t 10),(.t 12),(.t 13)],none⟩]
abbrev QdL:RC:=jQ QdJ (.reg QdK)
abbrev QdM:List RR:=[]
theorem PR:CT 126 15 QdL QdM:=ck Tryz.func126 Tryz.ntmps126 (by decide +kernel)
abbrev QdN:IL:=[jg 3 3 0,jg 4 4 1,jg 5 5 2,jf 6]
abbrev QdO:IL:=[je 7 5 4,ju 8 120 7,⟨some 9,.val (.mkfn (.func 155) [] [(.t 3),(.t 5)]),none⟩,yo 10 117 8 9,ja 6 10]
abbrev QdP:RC:=jQ QdN (jQ QdO (.ret))
abbrev QdQ:List RR:=[.tmp 6]
theorem QdR:CT 127 11 QdP QdQ:=ck Tryz.func127 Tryz.ntmps127 (by decide +kernel)
abbrev QdS:IL:=[jf 2]
abbrev QdT:IL:=[ja 3 0,ju 4 156 3,ja 5 4,jj 6 0 5,zk 7 146 6 5,yy 8 7 5,ji 9 5 8,ja 2 9]
abbrev QdU:RC:=jQ QdS (jQ QdT (.ret))
abbrev QdV:List RR:=[.tmp 2]
theorem QdW:CT 128 10 QdU QdV:=ck Tryz.func128 Tryz.ntmps128 (by decide +kernel)
abbrev QdX:IL:=[jg 3 3 1,jf 4]
abbrev QdY:IL:=[ja 5 0,zn 6 160 3,yo 7 159 5 6,ja 4 7]
abbrev QdZ:RC:=jQ QdX (jQ QdY (.ret))
abbrev Qd0:List RR:=[.tmp 4]
theorem Qd1:CT 131 8 QdZ Qd0:=ck Tryz.func131 Tryz.ntmps131 (by decide +kernel)
abbrev Qd2:IL:=[jd 4 0]
abbrev Qd3:IL:=[ja 6 0,jk 7 1 6,jd 8 0]
abbrev Qd4:IL:=[jr 9 8 7]
abbrev Qd5:IL:=[ja 10 8,ja 5 10]
abbrev Qd6:IL:=[ja 11 1,ja 12 0,ja 13 5,jm 14 8 12 13,je 15 8 14,Us 16 11 15]
abbrev Qd7:IL:=[ja 17 5,ja 4 17]
abbrev Qd8:IL:=[jn 18 8 1,ja 8 18]
abbrev Qd9:RC:=jQ Qd4 (.seq (jX 9 0) (.seq (.block 1 (jQ Qd5 (jQ Qd6 (.cond (.t 16) (jQ Qd7 (.ret)) (.skip))))) (.reg Qd8)))
abbrev Qea:IL:=[jd 4 (-1)]
abbrev Qeb:RC:=jQ Qd2 (.seq (jQ Qd3 (.block 0 (.loop Qd9))) (jQ Qea (.ret)))
abbrev Qec:List RR:=[.tmp 4]
theorem Qed:CT 132 19 Qeb Qec:=ck Tryz.func132 Tryz.ntmps132 (by decide +kernel)
abbrev Qee:IL:=[jg 2 2 0,jf 3]
abbrev Qef:IL:=[jb 4 0 2,jc 5 4,jc 6 1,yp 7 5 6,ja 3 7]
abbrev Qeg:RC:=jQ Qee (jQ Qef (.ret))
abbrev Qeh:List RR:=[.tmp 3]
theorem Qei:CT 133 8 Qeg Qeh:=ck Tryz.func133 Tryz.ntmps133 (by decide +kernel)
abbrev Qej:IL:=[jf 6]
abbrev Qek:IL:=[ja 8 0,ja 9 1,jx 10 161 8 9,ja 7 10]
abbrev Qel:IL:=[ja 11 7,yc 12 11 0,ja 13 12,jj 14 7 13,jj 15 0 13,jj 16 2 13,FH 17 161 15 16 13,Vm 18 14 17 13,ji 19 13 18,ja 6 19]
abbrev Qem:RC:=jQ Qej (jQ Qek (jQ Qel (.ret)))
abbrev Qen:List RR:=[.tmp 6]
theorem QzL:CT 134 20 Qem Qen:=ck Tryz.func134 Tryz.ntmps134 (by decide +kernel)
abbrev Qeo:IL:=[jf 2]
abbrev Qep:IL:=[ja 3 0,Ut 4 3 5,ja 5 4,jv 6 0 5,yv 7 6 9 5,jo 8 5 7,ja 2 8]
abbrev Qeq:RC:=jQ Qeo (jQ Qep (.ret))
abbrev Qer:List RR:=[.tmp 2]
theorem QzM:CT 135 9 Qeq Qer:=ck Tryz.func135 Tryz.ntmps135 (by decide +kernel)
abbrev Qes:IL:=[jd 2 0]
abbrev Qet:IL:=[ja 3 0]
abbrev Qeu:IL:=[js 5 3 1,ja 4 5]
abbrev Qev:IL:=[jd 2 0]
abbrev Qew:IL:=[js 7 3 2,ja 6 7]
abbrev Qex:IL:=[jd 2 1]
abbrev Qey:IL:=[js 9 3 4,ja 8 9]
abbrev Qez:IL:=[jd 2 2]
abbrev QeA:IL:=[jd 2 (-1)]
abbrev QeB:RC:=jQ Qes (.seq (jQ Qet (.block 0 (jQ Qeu (.cond (.t 4) (jQ Qev (.ret)) (jQ Qew (.cond (.t 6) (jQ Qex (.ret)) (jQ Qey (.cond (.t 8) (jQ Qez (.ret)) (.skip))))))))) (jQ QeA (.ret)))
abbrev QeC:List RR:=[.tmp 2]
theorem QzN:CT 136 10 QeB QeC:=ck Tryz.func136 Tryz.ntmps136 (by decide +kernel)
abbrev QeD:IL:=[jf 2]
abbrev QeE:IL:=[ja 3 0,yd 4 3 1,ja 5 4,jj 6 0 5,yq 7 6 9 5,ji 8 5 7,ja 2 8]
abbrev QeF:RC:=jQ QeD (jQ QeE (.ret))
abbrev QeG:List RR:=[.tmp 2]
theorem QeH:CT 137 9 QeF QeG:=ck Tryz.func137 Tryz.ntmps137 (by decide +kernel)
abbrev QeI:IL:=[zu 2 2]
abbrev QeJ:IL:=[ja 3 0,ju 4 137 3,jy 5 4]
abbrev QeK:IL:=[Uv 6,jh 7 2 6]
abbrev QeL:IL:=[ja 7 0,⟨some 8,.val (.build [.int .i64 0,.int .u64 0,.str [],.nils,.nils,.nils,.nils] [(0,1,(.t 7))]),none⟩,jh 7 2 8]
abbrev QeM:RC:=jQ QeI (.seq (jQ QeJ (.cond (.t 5) (jQ QeK (.ret)) (.skip))) (jQ QeL (.ret)))
abbrev QeN:List RR:=[.cell 2 (some 7)]
theorem QzO:CT 138 9 QeM QeN:=ck Tryz.func138 Tryz.ntmps138 (by decide +kernel)
abbrev QeO:IL:=[jg 3 3 1,jf 4]
abbrev QeP:IL:=[ja 5 0,ju 6 137 5,jy 7 6,ja 8 7,jp 9 0 3 8,jz 10 9 8,jv 11 0 8,FG 12 10 11 8,jo 13 8 12,ja 14 13,yn 15 7 3 14,za 16 162 15 14,yt 17 16 14,jo 18 14 17,ja 19 18,jv 20 0 19,jp 21 1 3 19,jz 22 21 19,zj 23 163 20 22 19,yt 24 23 19,jo 25 19 24,ja 26 25,jp 27 2 3 26,jz 28 27 26,GL 29 0 28 26,zo 30 29 4096 26,jo 31 26 30]
abbrev QeQ:IL:=[jf 4]
abbrev QeR:IL:=[ja 32 0,yc 33 32 7,ja 34 33,jp 35 2 3 34,jz 36 35 34,za 37 125 36 34,jo 38 34 37,ja 4 38]
abbrev QeS:RC:=jQ QeO (.seq (jQ QeP (.cond (.t 31) (jQ QeQ (.ret)) (.skip))) (jQ QeR (.ret)))
abbrev QeT:List RR:=[.tmp 4]
theorem QeU:CT 139 39 QeS QeT:=ck Tryz.func139 Tryz.ntmps139 (by decide +kernel)
abbrev QeV:IL:=[jf 6]
abbrev QeW:IL:=[ja 7 0,ju 8 164 7,ja 9 8,jj 10 2 9,⟨some 11,.val (.bin .num .geq (.t 10) (.c (.int .u64 9223372036854775808))),(some (9,true))⟩,ji 12 9 11]
abbrev QeX:IL:=[ja 13 2,⟨some 14,.val (.un .neg (.t 13)),none⟩,ja 15 1,zh 16 15 1,Vo 17 2 9 0 16,jb 18 0 17,jc 19 18,Vq 20 14 19,ja 6 20]
abbrev QeY:IL:=[ja 21 2,ja 22 1,zh 23 22 1,Vo 24 2 9 0 23,jb 25 1 24,jc 26 25,Vq 27 21 26,ja 6 27]
abbrev QeZ:RC:=jQ QeV (.seq (jQ QeW (.cond (.t 12) (jQ QeX (.ret)) (.skip))) (jQ QeY (.ret)))
abbrev G9:List RR:=[.tmp 6]
theorem QzP:CT 140 28 QeZ G9:=ck Tryz.func140 Tryz.ntmps140 (by decide +kernel)
abbrev Qe0:IL:=[jg 1 1 0,zu 2 2]
abbrev Qe1:IL:=[jb 3 0 1,jc 4 3,js 5 4 6,ja 6 5,jl 7 1 1 6,jq 8 7 6,zk 9 165 8 6,ym 10 9 0 6,ji 11 6 10]
abbrev Qe2:IL:=[jb 12 1 1,⟨none,.store 1 (.t 12) (.c (.int .u64 9221120237041090560)),none⟩]
abbrev Qe3:IL:=[je 13 7 1,jh 7 2 13]
abbrev Qe4:RC:=jQ Qe0 (.seq (jQ Qe1 (.cond (.t 11) (.reg Qe2) (.skip))) (jQ Qe3 (.ret)))
abbrev Qe5:List RR:=[.cell 2 (some 7)]
theorem Qe6:CT 141 14 Qe4 Qe5:=ck Tryz.func141 Tryz.ntmps141 (by decide +kernel)
abbrev Qe7:IL:=[jd 4 0]
abbrev Qe8:IL:=[ja 6 0,jk 7 1 6,jd 8 0]
abbrev Qe9:IL:=[jr 9 8 7]
abbrev Qfa:IL:=[ja 10 8,ja 5 10]
abbrev Qfb:IL:=[ja 11 1,ja 12 0,ja 13 5,jm 14 1 12 13,jc 15 14,Us 16 11 15]
abbrev Qfc:IL:=[ja 17 5,ja 4 17]
abbrev Qfd:IL:=[jn 18 8 1,ja 8 18]
abbrev Qfe:RC:=jQ Qe9 (.seq (jX 9 0) (.seq (.block 1 (jQ Qfa (jQ Qfb (.cond (.t 16) (jQ Qfc (.ret)) (.skip))))) (.reg Qfd)))
abbrev Qff:IL:=[jd 4 (-1)]
abbrev Qfg:RC:=jQ Qe7 (.seq (jQ Qe8 (.block 0 (.loop Qfe))) (jQ Qff (.ret)))
abbrev Qfh:List RR:=[.tmp 4]
theorem Qfi:CT 142 19 Qfg Qfh:=ck Tryz.func142 Tryz.ntmps142 (by decide +kernel)
abbrev Qfj:IL:=[jg 2 2 0,jf 3]
abbrev Qfk:IL:=[jb 4 0 2,jc 5 4,jc 6 1,yp 7 5 6,ja 3 7]
abbrev Qfl:RC:=jQ Qfj (jQ Qfk (.ret))
abbrev Qfm:List RR:=[.tmp 3]
theorem Qfn:CT 143 8 Qfl Qfm:=ck Tryz.func143 Tryz.ntmps143 (by decide +kernel)
abbrev Qfo:IL:=[jf 2]
abbrev Qfp:IL:=[ja 5 0,⟨some 6,.call (.f 145) [(.t 5),(.c (.str [46]))],none⟩,jk 7 1 6,jd 8 0]
abbrev Qfq:IL:=[jr 9 8 7]
abbrev Qfr:IL:=[jm 10 1 6 8,jc 11 10,ja 4 11]
abbrev Qfs:IL:=[ja 12 4,ju 13 156 12,jy 14 13]
abbrev Qft:IL:=[jf 2]
abbrev Qfu:IL:=[jn 15 8 1,ja 8 15]
abbrev Qfv:RC:=jQ Qfq (.seq (jX 9 0) (.seq (.block 1 (jQ Qfr (jQ Qfs (.cond (.t 14) (jQ Qft (.ret)) (.skip))))) (.reg Qfu)))
abbrev Qfw:IL:=[ja 16 0,jk 17 0 16,Ut 18 17 120,ja 2 18]
abbrev Qfx:RC:=jQ Qfo (.seq (jQ Qfp (.block 0 (.loop Qfv))) (jQ Qfw (.ret)))
abbrev Qfy:List RR:=[.tmp 2]
theorem Qfz:CT 144 19 Qfx Qfy:=ck Tryz.func144 Tryz.ntmps144 (by decide +kernel)
abbrev QfA:IL:=[yh 4]
abbrev QfB:IL:=[ja 5 0,ja 6 1,⟨some 7,.call (.f 166) [(.t 5),(.t 6),(.c (.int .i64 0)),(.c (.int .i64 (-1)))],none⟩,ja 4 7]
abbrev QfC:RC:=jQ QfA (jQ QfB (.ret))
abbrev QfD:List RR:=[.tmp 4]
theorem QfE:CT 145 8 QfC QfD:=ck Tryz.func145 Tryz.ntmps145 (by decide +kernel)
abbrev QfF:IL:=[jf 2]
abbrev QfG:IL:=[ja 3 0]
abbrev QfH:IL:=[⟨some 5,.val (.bin .str .eql (.t 3) (.c (.str [109,101,115,115,97,103,101]))),none⟩,ja 4 5]
abbrev QfI:IL:=[⟨some 6,.val (.bin .str .eql (.t 3) (.c (.str [101,110,117,109]))),none⟩,ja 4 6]
abbrev QfJ:IL:=[⟨some 7,.val (.bin .str .eql (.t 3) (.c (.str [115,101,114,118,105,99,101]))),none⟩,ja 4 7]
abbrev QfK:IL:=[⟨some 8,.val (.bin .str .eql (.t 3) (.c (.str [117,110,105,111,110]))),none⟩,ja 4 8]
abbrev QfL:IL:=[⟨some 9,.val (.bin .str .eql (.t 3) (.c (.str [109,97,112]))),none⟩,ja 4 9]
abbrev QfM:IL:=[⟨some 10,.val (.bin .str .eql (.t 3) (.c (.str [108,105,115,116]))),none⟩,ja 4 10]
abbrev QfN:IL:=[⟨some 11,.val (.bin .str .eql (.t 3) (.c (.str [114,101,113,117,105,114,101,100]))),none⟩,ja 4 11]
abbrev QfO:IL:=[⟨some 12,.val (.bin .str .eql (.t 3) (.c (.str [111,112,116,105,111,110,97,108]))),none⟩,ja 4 12]
abbrev Ed:IL:=[⟨some 13,.val (.bin .str .eql (.t 3) (.c (.str [112,108,97,105,110]))),none⟩,ja 4 13]
abbrev Ee:IL:=[⟨some 14,.val (.bin .str .eql (.t 3) (.c (.str [100,101,102,97,117,108,116]))),none⟩,ja 4 14]
abbrev Ef:IL:=[⟨some 15,.val (.bin .str .eql (.t 3) (.c (.str [114,101,115,101,114,118,101,100]))),none⟩,ja 4 15]
abbrev Eg:IL:=[ya 2]
abbrev Eh:IL:=[⟨some 17,.val (.bin .str .eql (.t 3) (.c (.str [105,109,112,111,114,116]))),none⟩,ja 16 17]
abbrev Ei:IL:=[⟨some 18,.val (.bin .str .eql (.t 3) (.c (.str [115,112,97,99,101]))),none⟩,ja 16 18]
abbrev Ej:IL:=[⟨some 19,.val (.bin .str .eql (.t 3) (.c (.str [114,112,99]))),none⟩,ja 16 19]
abbrev Ek:IL:=[⟨some 20,.val (.bin .str .eql (.t 3) (.c (.str [115,116,114,101,97,109]))),none⟩,ja 16 20]
abbrev Em:IL:=[⟨some 21,.val (.bin .str .eql (.t 3) (.c (.str [114,101,116,117,114,110,115]))),none⟩,ja 16 21]
abbrev Eo:IL:=[⟨some 22,.val (.bin .str .eql (.t 3) (.c (.str [111,112,101,110]))),none⟩,ja 16 22]
abbrev Ep:IL:=[⟨some 23,.val (.bin .str .eql (.t 3) (.c (.str [116,114,117,101]))),none⟩,ja 16 23]
abbrev Er:IL:=[⟨some 24,.val (.bin .str .eql (.t 3) (.c (.str [102,97,108,115,101]))),none⟩,ja 16 24]
abbrev Es:IL:=[⟨some 25,.val (.bin .str .eql (.t 3) (.c (.str [110,97,110]))),none⟩,ja 16 25]
abbrev Et:IL:=[⟨some 26,.val (.bin .str .eql (.t 3) (.c (.str [105,110,102]))),none⟩,ja 16 26]
abbrev Eu:IL:=[ya 2]
abbrev Ew:IL:=[jf 2]
abbrev QfP:RC:=jQ QfF (.seq (jQ QfG (.block 0 (.seq (jQ QfH (.cond (.t 4) (.skip) (jQ QfI (.cond (.t 4) (.skip) (jQ QfJ (.cond (.t 4) (.skip) (jQ QfK (.cond (.t 4) (.skip) (jQ QfL (.cond (.t 4) (.skip) (jQ QfM (.cond (.t 4) (.skip) (jQ QfN (.cond (.t 4) (.skip) (jQ QfO (.cond (.t 4) (.skip) (jQ Ed (.cond (.t 4) (.skip) (jQ Ee (.cond (.t 4) (.skip) (.reg Ef))))))))))))))))))))) (.cond (.t 4) (jQ Eg (.ret)) (.seq (jQ Eh (.cond (.t 16) (.skip) (jQ Ei (.cond (.t 16) (.skip) (jQ Ej (.cond (.t 16) (.skip) (jQ Ek (.cond (.t 16) (.skip) (jQ Em (.cond (.t 16) (.skip) (jQ Eo (.cond (.t 16) (.skip) (jQ Ep (.cond (.t 16) (.skip) (jQ Er (.cond (.t 16) (.skip) (jQ Es (.cond (.t 16) (.skip) (.reg Et))))))))))))))))))) (.cond (.t 16) (jQ Eu (.ret)) (.skip))))))) (jQ Ew (.ret)))
abbrev QfQ:List RR:=[.tmp 2]
theorem PT:CT 146 27 QfP QfQ:=ck Tryz.func146 Tryz.ntmps146 (by decide +kernel)
abbrev QfR:IL:=[jg 3 3 0,jg 4 4 1,jg 5 5 2,jf 6]
abbrev QfS:IL:=[jc 7 3,jc 8 4,Vn 9 16 7 8,⟨some 10,.val (.mkfn (.func 168) [] [(.t 5),(.t 3),(.t 4)]),none⟩,yo 11 167 9 10,ja 6 11]
abbrev QfT:RC:=jQ QfR (jQ QfS (.ret))
abbrev QfU:List RR:=[.tmp 6]
theorem QfV:CT 147 12 QfT QfU:=ck Tryz.func147 Tryz.ntmps147 (by decide +kernel)
abbrev QfW:IL:=[jg 1 1 0,Uu 2]
abbrev QfX:IL:=[jb 3 1 1,jc 4 3,ja 2 4]
abbrev QfY:RC:=jQ QfW (jQ QfX (.ret))
abbrev QfZ:List RR:=[.tmp 2]
theorem Qf0:CT 148 5 QfY QfZ:=ck Tryz.func148 Tryz.ntmps148 (by decide +kernel)
abbrev Qf1:IL:=[jf 4]
abbrev Qf2:IL:=[ja 5 0,yc 6 5 5]
abbrev Qf3:IL:=[ja 7 1,js 8 7 0,ja 4 8]
abbrev Qf4:IL:=[ja 9 1,yd 10 9 1,ja 11 10,jj 12 1 11,yq 13 12 7 11,ji 14 11 13,ja 15 14,jj 16 1 15,zp 17 16 6 15,ji 18 15 17,ja 4 18]
abbrev Qf5:RC:=jQ Qf1 (.seq (jQ Qf2 (.cond (.t 6) (jQ Qf3 (.ret)) (.skip))) (jQ Qf4 (.ret)))
abbrev Qf6:List RR:=[.tmp 4]
theorem Qf7:CT 149 19 Qf5 Qf6:=ck Tryz.func149 Tryz.ntmps149 (by decide +kernel)
abbrev Qf8:IL:=[jg 2 2 0,jg 3 3 1,jf 4]
abbrev Qf9:IL:=[jb 10 4 3,jb 11 0 10,jc 12 11,yd 13 12 1,ja 14 13,jl 15 4 3 14,jl 16 0 15 14,jq 17 16 14,yq 18 17 8 14,ji 19 14 18,ja 9 19]
abbrev Qga:IL:=[jb 20 4 3,jb 21 1 20,jc 22 21,Vr 23 22,ja 4 23]
abbrev Qgb:IL:=[jb 25 4 3,jb 26 0 25,jc 27 26,js 28 27 9,ja 24 28]
abbrev Qgc:IL:=[je 30 3 2,jb 31 4 3,jb 32 1 31,jc 33 32,jx 34 169 30 33,ja 29 34,jt 35 29 0,jt 36 29 1,zg 5 5,jh 5 5 35,ja 6 36]
abbrev Qgd:IL:=[ja 37 6,ja 4 37]
abbrev Qge:IL:=[jb 39 4 3,jb 40 0 39,jc 41 40,js 42 41 10,ja 38 42]
abbrev Qgf:IL:=[je 44 3 2,jb 45 4 3,jb 46 1 45,jc 47 46,jx 48 119 44 47,ja 43 48,jt 49 43 0,jt 50 43 1,zf 7 7,jh 5 7 49,ja 8 50]
abbrev Qgg:IL:=[ja 51 8,ja 52 51,jl 53 2 3 52,jq 54 53 52,zp 55 54 3 52,ji 56 52 55,ja 4 56]
abbrev Qgh:IL:=[jf 4]
abbrev Qgi:RC:=jQ Qf8 (.seq (.block 0 (jQ Qf9 (.cond (.t 9) (jQ Qga (.ret)) (jQ Qgb (.cond (.t 24) (jQ Qgc (jQ Qgd (.ret))) (jQ Qge (.cond (.t 38) (jQ Qgf (jQ Qgg (.ret))) (.skip)))))))) (jQ Qgh (.ret)))
abbrev Qgj:List RR:=[.tmp 4]
theorem Qgk:CT 150 57 Qgi Qgj:=ck Tryz.func150 Tryz.ntmps150 (by decide +kernel)
abbrev Qgl:IL:=[jg 2 2 0,jf 4]
abbrev Qgm:IL:=[jb 7 1 2,jc 8 7,ja 9 1,jm 10 16 8 9,je 11 16 10,GM 5 5,jh 16 5 11]
abbrev Qgn:IL:=[jb 12 6 5,jc 13 12,Vr 14 13]
abbrev Qgo:IL:=[ya 4]
abbrev Qgp:IL:=[jb 15 2 5,jc 16 15,yc 17 16 2,ja 18 17,jp 19 6 5 18,jz 20 19 18,za 21 128 20 18,yt 22 21 18,jo 23 18 22,ja 24 23,jp 25 1 2 24,jz 26 25 24,⟨some 27,.val (.mkfn (.func 170) [] [(.t 5)]),(some (24,false))⟩,⟨some 28,.callF (.f 167) [(.t 26),(.t 27)],(some (24,false))⟩,jo 29 24 28]
abbrev Qgq:IL:=[jf 4]
abbrev Qgr:IL:=[jb 30 1 2,jc 31 30,ja 32 1,Vn 33 16 31 32,zn 34 171 5,yo 35 167 33 34,ja 6 35]
abbrev Qgs:IL:=[ja 36 6,jy 37 36,ja 38 37,jp 39 1 2 38,yi 40 0 2 39 38,jv 41 1 38,GN 42 41 1 38,zt 43 16 40 42 38,jp 44 6 43 38,Uw 45 44 38,jp 46 6 5 38,yi 47 0 5 46 38,⟨some 48,.val (.bin .str .eql (.t 45) (.t 47)),(some (38,false))⟩,jo 49 38 48,ja 4 49]
abbrev Qgt:RC:=jQ Qgl (jQ Qgm (.seq (jQ Qgn (.cond (.t 14) (jQ Qgo (.ret)) (.skip))) (.seq (jQ Qgp (.cond (.t 29) (jQ Qgq (.ret)) (.skip))) (jQ Qgr (jD Qgs (.ret))))))
abbrev Qgu:List RR:=[.tmp 4]
theorem Qgv:CT 151 50 Qgt Qgu:=ck Tryz.func151 Tryz.ntmps151 (by decide +kernel)
abbrev Qgw:IL:=[jg 2 2 0,jg 3 3 1,jf 4]
abbrev Qgx:IL:=[jb 7 7 3,jc 8 7,jy 9 8]
abbrev Qgy:IL:=[jb 10 8 3,je 11 7 10,ju 12 172 11,ja 4 12]
abbrev Qgz:IL:=[jb 13 2 3,jw 14 0 3 13,yc 15 14 2,ja 16 15,jp 17 6 3 16,yi 18 0 3 17 16,⟨some 19,.val (.bin .str .neq (.t 18) (.c (.str []))),(some (16,false))⟩,jo 20 16 19,ja 21 20,jp 22 4 3 21,jp 23 0 22 21,yi 24 0 3 23 21,jp 25 8 3 21,zy 26 0 3 7 25 21,zj 27 139 24 26 21,yt 28 27 21,jo 29 21 28,ja 30 29,jp 31 8 3 30,zy 32 0 3 7 31 30,za 33 141 32 30,⟨some 34,.val (.fld 1 none (.t 33)),(some (30,false))⟩,jp 35 8 3 30,jp 36 1 35 30,yi 37 0 3 36 30,FG 38 34 37 30,jo 39 30 38]
abbrev QgA:IL:=[jf 4]
abbrev QgB:IL:=[jb 40 4 3,jb 41 0 40,jc 42 41,yc 43 42 9]
abbrev QgC:IL:=[ya 4]
abbrev QgD:IL:=[je 45 3 2,jb 46 4 3,jb 47 1 46,jc 48 47,jx 49 169 45 48,ja 44 49,jt 50 44 0,jt 51 44 1,zg 5 5,jh 5 5 50,ja 6 51]
abbrev QgE:IL:=[ja 52 6,ja 53 52,jl 54 2 5 53,jq 55 54 53,⟨some 56,.val (.mkfn (.func 173) [] [(.t 3)]),(some (53,true))⟩,⟨some 57,.callF (.f 157) [(.t 55),(.t 56)],(some (53,true))⟩,ji 58 53 57,ja 4 58]
abbrev QgF:RC:=jQ Qgw (.seq (jQ Qgx (.cond (.t 9) (jQ Qgy (.ret)) (.skip))) (.seq (jD Qgz (.cond (.t 39) (jQ QgA (.ret)) (.skip))) (.seq (jQ QgB (.cond (.t 43) (jQ QgC (.ret)) (.skip))) (jQ QgD (jQ QgE (.ret))))))
abbrev QgG:List RR:=[.tmp 4]
theorem QgH:CT 152 59 QgF QgG:=ck Tryz.func152 Tryz.ntmps152 (by decide +kernel)
abbrev QgI:IL:=[jd 2 0]
abbrev QgJ:IL:=[ja 5 0,⟨some 6,.rngs 6 (.t 5),none⟩]
abbrev QgK:IL:=[⟨some 7,.nxts (.t 6),none⟩,jt 8 7 0]
abbrev QgL:IL:=[jt 9 7 1,jt 10 7 2,ja 3 9,ja 4 10]
abbrev QgM:IL:=[ja 11 0,ja 12 3,ja 13 4,yk 14 174 11 12 13]
abbrev QgN:IL:=[ja 15 3,ja 2 15]
abbrev QgO:RC:=jQ QgK (.seq (jX 8 0) (.block 1 (jQ QgL (jQ QgM (.cond (.t 14) (jQ QgN (.ret)) (.skip))))))
abbrev QgP:IL:=[jd 2 (-1)]
abbrev QgQ:RC:=jQ QgI (.seq (jQ QgJ (.block 0 (.loop QgO))) (jQ QgP (.ret)))
abbrev QgR:List RR:=[.tmp 2]
theorem QgS:CT 153 16 QgQ QgR:=ck Tryz.func153 Tryz.ntmps153 (by decide +kernel)
abbrev QgT:IL:=[jd 4 0]
abbrev QgU:IL:=[ja 9 0,jk 10 1 9,ys 11 10 8]
abbrev QgV:IL:=[jd 4 3]
abbrev QgW:IL:=[Uu 5]
abbrev QgX:IL:=[ja 12 0,jk 13 1 12,jd 14 0]
abbrev QgY:IL:=[jr 15 14 13]
abbrev QgZ:IL:=[ja 16 14,jm 17 8 12 14,je 18 8 17,⟨some 7,.allocN 7 [.str [],.int .i64 0,.int .u64 0,.str [],.nils,.nils,.nils,.nils],none⟩,ja 6 16,jh 8 7 18]
abbrev Qg0:IL:=[je 19 8 7,ja 20 1,ja 21 5,ja 22 6,ys 23 22 0,⟨some 24,.call (.f 175) [(.t 19),(.t 20),(.t 21),(.t 23)],none⟩,ja 8 24]
abbrev Qg1:IL:=[ja 25 8,yc 26 25 0]
abbrev Qg2:IL:=[ja 27 8,ja 4 27]
abbrev Ex:IL:=[jb 28 0 7,jc 29 28,ja 5 29]
abbrev Ey:IL:=[jn 30 14 1,ja 14 30]
abbrev Qg3:RC:=.gho (.drop 7) (jQ QgY (.seq (jX 15 0) (.seq (.block 1 (jQ QgZ (.seq (jQ Qg0 (jQ Qg1 (.cond (.t 26) (jQ Qg2 (.ret)) (.skip)))) (.reg Ex)))) (.reg Ey))))
abbrev Ez:IL:=[jd 4 0]
abbrev Qg4:RC:=jQ QgT (.seq (jQ QgU (.cond (.t 11) (jQ QgV (.ret)) (.skip))) (jQ QgW (.seq (jQ QgX (.block 0 (.loop Qg3))) (jQ Ez (.ret)))))
abbrev Qg5:List RR:=[.tmp 4]
theorem Qg6:CT 154 31 Qg4 Qg5:=ck Tryz.func154 Tryz.ntmps154 (by decide +kernel)
abbrev Qg7:IL:=[jf 4]
abbrev Qg8:IL:=[je 8 3 1,ja 9 0,jx 10 119 8 9,ja 7 10,jt 11 7 0,jt 12 7 1,zf 5 5,jh 5 5 11,ja 6 12]
abbrev Qg9:IL:=[ja 13 6,ja 14 13,jq 15 2 14,jj 16 0 14,⟨some 17,.val (.mget false (.bool false) (.t 15) (.t 16)),(some (14,true))⟩,yy 18 17 14,ji 19 14 18,ja 4 19]
abbrev Qha:RC:=jQ Qg7 (jQ Qg8 (jQ Qg9 (.ret)))
abbrev Qhb:List RR:=[.tmp 4]
theorem Qhc:CT 155 20 Qha Qhb:=ck Tryz.func155 Tryz.ntmps155 (by decide +kernel)
abbrev Qhd:IL:=[jf 2]
abbrev Qhe:IL:=[ja 6 0,⟨some 7,.rngs 7 (.t 6),none⟩]
abbrev Qhf:IL:=[⟨some 8,.nxts (.t 7),none⟩,jt 9 8 0]
abbrev Qhg:IL:=[jt 10 8 1,jt 11 8 2,ja 3 10,ja 4 11]
abbrev Qhh:IL:=[ja 12 4,ju 13 176 12,ja 5 13]
abbrev Qhi:IL:=[ja 14 5,js 15 14 0,ja 16 15,jv 17 3 16,yv 18 17 0 16,jv 19 18 16,jj 20 5 19,zp 21 20 1 19,zq 22 19 21 16,jv 23 22 16,jj 24 5 23,zp 25 24 2 23,zq 26 23 25 16,jo 27 16 26]
abbrev Qhj:IL:=[jf 2]
abbrev Qhk:RC:=jQ Qhf (.seq (jX 9 0) (.block 1 (jQ Qhg (jQ Qhh (jQ Qhi (.cond (.t 27) (jQ Qhj (.ret)) (.skip)))))))
abbrev Qhl:IL:=[ja 28 0,jk 29 0 28,yd 30 29 1,ja 31 30,jj 32 0 31,ye 33 0 32 31,yq 34 33 40 31,ji 35 31 34,ja 2 35]
abbrev Qhm:RC:=jQ Qhd (.seq (jQ Qhe (.block 0 (.loop Qhk))) (jQ Qhl (.ret)))
abbrev Qhn:List RR:=[.tmp 2]
theorem Qho:CT 156 36 Qhm Qhn:=ck Tryz.func156 Tryz.ntmps156 (by decide +kernel)
abbrev Qhp:IL:=[jf 4]
abbrev Qhq:IL:=[ja 5 0,ja 6 1,yo 7 177 5 6,yd 8 7 0,ja 4 8]
abbrev Qhr:RC:=jQ Qhp (jQ Qhq (.ret))
abbrev Qhs:List RR:=[.tmp 4]
theorem Qht:CT 157 9 Qhr Qhs:=ck Tryz.func157 Tryz.ntmps157 (by decide +kernel)
abbrev Qhu:IL:=[jf 4]
abbrev Qhv:IL:=[ja 5 0,ja 6 1,yo 7 178 5 6,yd 8 7 0,ja 4 8]
abbrev Qhw:RC:=jQ Qhu (jQ Qhv (.ret))
abbrev Qhx:List RR:=[.tmp 4]
theorem Qhy:CT 159 9 Qhw Qhx:=ck Tryz.func159 Tryz.ntmps159 (by decide +kernel)
abbrev Qhz:IL:=[jg 2 2 0,jf 3]
abbrev QhA:IL:=[jb 4 0 2,jc 5 4,jc 6 1,Vq 7 5 6,ja 8 7,jq 9 1 8,jl 10 1 2 8,jq 11 10 8,HF 12 9 11 8,ji 13 8 12,ja 3 13]
abbrev QhB:RC:=jQ Qhz (jQ QhA (.ret))
abbrev QhC:List RR:=[.tmp 3]
theorem QhD:CT 160 14 QhB QhC:=ck Tryz.func160 Tryz.ntmps160 (by decide +kernel)
abbrev QhE:IL:=[jd 4 0]
abbrev QhF:IL:=[ja 5 0,ju 6 136 5,yg 7 6 0,ja 8 7,jv 9 1 8,za 10 137 9 8,yt 11 10 8,jo 12 8 11]
abbrev QhG:IL:=[jd 4 0]
abbrev QhH:IL:=[ja 13 0,ju 14 136 13,ja 15 1,zh 16 15 1,⟨some 17,.val (.iaddr 9 (some 3) (.g 1 gl1) (.t 14)),none⟩,⟨some 18,.val (.iaddr 1 (some 9) (.t 17) (.t 16)),none⟩,jc 19 18,ja 4 19]
abbrev QhI:RC:=jQ QhE (.seq (jQ QhF (.cond (.t 12) (jQ QhG (.ret)) (.skip))) (jQ QhH (.ret)))
abbrev QhJ:List RR:=[.tmp 4]
theorem QzQ:CT 161 20 QhI QhJ:=ck Tryz.func161 Tryz.ntmps161 (by decide +kernel)
end Go.Proofs.YtnpajgoobomndaaGreatDoor.Rc

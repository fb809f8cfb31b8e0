/- Parts of the proof, in order. -/
import Derived.Laws.RangeString
import Derived.Lib.Bytealg
import Derived.Deep.LoopGhost
import Derived.Scope
import Derived.Orders
import Derived.Defers
import Derived.Below
import Derived.ChangeSame
import Derived.ProofKit
import Derived.OpenShut
import Derived.ChangeArms
import Derived.Test.YtgnfjkkfbcnbfaaGreatDoorProg
import Derived.WalkKit
import Derived.Lib.SmallJoins
import Derived.Deep.Slices
import Derived.DataShut
import Derived.Test.YtgnfjkkfbcnbfaaGreatDoorRows
import Derived.Lib.IndexLaws
import Derived.Test.YtgnfjkkfbcnbfaaGreatDoorMTagdecLimits0
set_option linter.defProp false
namespace Go.Proofs.YtgnfjkkfbcnbfaaGreatDoor.Am
open Go
theorem EA {G G':Gh}{m:Qj}{w:World}(h:MR G m w){s g sz o n:Nat}{q:Bool}{xs:List AV}{v:Value}(hlk:Qd m 0 s=.vec g sz xs)(hle:o+n≤xs.length)(hr:Rep G (.vec 0 s g o n q) v)
  (hst:G.sameStab G') (hpub:∀b o v,G.vm 0 s=some b→w.cell? ⟨b,o,none⟩=some v→G'.stab b o=some (.cell v)):Rep G' (.list ((xs.drop o).take n)) v:=by
 obtain⟨e1,e2,e3,e4⟩:=h.vec 0 s g sz xs hlk;have hmem:∀x∈(xs.drop o).take n,x∈xs:=fun x hx=>QoK (QoL hx)
 cases hr with
 |vec hone hg hh'=>
  rcases hh' e1.symm with⟨hvm,rfl,rfl,A0,rfl,hA0⟩|⟨b,A,c,hvm,hok,rfl,hkc,hcm,hq,hA⟩
  ·simp only[Qo6];exact .list (sz:=0) (cs:=[]) .nil (by simp) rfl rfl (by simp) rfl (QnV _) (Qn6 _)
  ·rcases e4 with⟨e,_⟩|⟨b',e,hrow⟩
   ·rw[hvm]at e;cases e
   ·rw[hvm]at e;cases e;obtain⟨cur,hsoft,hcs,hrep⟩:=hrow.cur;have hr:=(RepL.rfd hst e3.rf hrep).takeDrop (o*sz) (n*sz);rw[JT e3.size,Kq (fun x hx=>e3.size x (QoK hx))]at hr;refine .list (sz:=sz) hr (fun x hx=>e3.size x (hmem x hx)) (Ka e3.rf (Ju hmem)) (ZF e3.leaf (Ju hmem)) (fun j u hu=>?_) (by simp;omega) hkc (by omega);rw[QoC]at hu;split at hu
    ·rename_i hj;rw[QoD,QoC]at hu;split at hu
     ·have hk:0<n:=by
       rcases QoM n with h0|h0
       ·subst h0;simp at hj
       ·exact h0
      have hovc:o<G.vc 0 s:=Nat.lt_of_lt_of_le (Nat.lt_add_of_pos_right hk) hok;have hA':=hA ⟨.inl hovc,.inr hk⟩;rw[e2]at hA';refine⟨b,o*sz,by rw[hA'],hpub b (o*sz+j) u hvm ?_⟩;rw[hsoft.cell]
      simpa using hu
     ·cases hu
    ·cases hu
theorem Rel.pub0 {G:Gh}{B N:Nat}{st:St}{a:Act}{w:World}(h:Rel G B N st a w){site g sz:Nat}{xs:List AV}(hlk:Qd st.m 0 site=.vec g sz xs) :
  ∃G',Rel G' B N { st with m:=Am.put st.m 0 site (.vec (g+1) sz []) } a w∧Ext 1 G w G' w∧(∀o n q v,o+n≤xs.length→Rep G (.vec 0 site g o n q) v→Rep G' (.list ((xs.drop o).take n)) v)∧G'.nm=G.nm:=by
 have hl:0<st.m.length:=Qpj.2 h.ne;have hro:Qo (Qd st.m 0 site)=true:=by rw[hlk];rfl
 have hvg:=(h.mr.vec 0 site g sz xs hlk).1;obtain⟨h1,h2⟩:=h.vecput (w':=w) (sz:=sz) (cap:=0) (b:=none) (g:=g+1) (ys:=[]) hl hro (by omega) rfl rfl rfl (QnV _) (fun _ _ _=>rfl) (fun k e=>by cases e) ⟨by simp,rfl,rfl⟩ (.inl ⟨rfl,rfl⟩);generalize hG1:G.row 0 site none 0 (g+1) sz=G1 at h1 h2;have hst1:G1.stab=G.stab:=by rw[←hG1];rfl
 have hnm1:G1.nm=G.nm:=by rw[←hG1];rfl
 have hvm1:∀l s,G1.vm l s=if l=0∧s=site then none else G.vm l s:=by rw[←hG1];exact fun _ _=>rfl
 have hle1:Gle G1 (G1.pub w fun b=>G.vm 0 site=some b):=Gh.pub_gle h1.mr.stab;have nS:∀l s b,G1.nm l s=some b→¬G.vm 0 site=some b:=fun l s b e=>by rw[hnm1]at e;exact h.mr.inj3 _ _ _ _ _ e
 have vS:∀l s b,G1.vm l s=some b→¬G.vm 0 site=some b:=fun l s b e e'=>by
  rw[hvm1]at e;split at e
  ·cases e
  ·rename_i hh;exact hh (h.mr.inj2 _ _ _ _ _ e e')
 refine⟨G1.pub w fun b=>G.vm 0 site=some b,⟨⟨?_,?_,?_,?_,?_,h1.mr.gone,h1.mr.inj1,h1.mr.inj2,h1.mr.inj3,h1.mr.iter⟩,h.size,?_,h1.ds.mono hle1,h1.base,h1.top,h1.ne⟩,?_,?_,hnm1⟩
 ·intro b o v e;by_cases hS:G.vm 0 site=some b∧∀o,J0 b o=none
  ·rw[Gh.pub_c hS]at e;exact Vq e
  ·rw[Gh.pub_n hS]at e;exact h1.mr.stab b o v e
 ·intro l s zs e;obtain⟨b,cs,e',hc,hr⟩:=h1.mr.cells l s zs e;exact⟨b,cs,e',hc,hr.mono (hle1.dn l)⟩
 ·intro l s b e;obtain⟨g1,g2⟩:=h1.mr.nm l s b e;exact⟨g1,fun o=>by rw[Gh.pub_out (nS l s b e)];exact g2 o⟩
 ·intro l s g' z zs e;obtain⟨a1,a2,a3,a4⟩:=h1.mr.vec l s g' z zs e;exact⟨a1,a2,a3,a4.imp id fun⟨b,e',r⟩=>⟨b,e',r.of rfl fun vs hv=>RepL.rfd hle1.stab a3.rf hv⟩⟩
 ·intro l s b e;obtain⟨g1,g2⟩:=h1.mr.vm l s b e;exact⟨g1,fun o=>by rw[Gh.pub_out (vS l s b e)];exact g2 o⟩
 ·exact fun i=>(h1.slots i).mono hle1
 ·refine⟨rfl,rfl,rfl,QnV _,fun b o v e=>hle1.stab b o v (by rw[hst1];exact e),fun l s _=>by show G1.nm l s=_;rw[hnm1],h2.vg,h2.vs,fun b hb hm=>⟨rfl,fun o=>?_⟩,h2.mine,h2.mv⟩;rw[Gh.pub_out (fun e=>hm (.inr ⟨0,site,e⟩)),hst1]
 ·intro o n q v hle hr;refine EA h.mr hlk hle hr (fun b o v e=>?_) (fun b o v e hv=>?_)
  ·exact hle1.stab b o v (by rw[hst1];exact e)
  ·rw[Gh.pub_in e (Gh.notab (h.mr.vm 0 site b e).2)];exact G5 hv
theorem Rel.publish {G:Gh}{B N:Nat}{st:St}{a:Act}{w:World}(h:Rel G B N st a w){slot site g sz o n:Nat}{q:Bool}{xs:List AV}(hs:st.f slot=.vec 0 site g o n q)(hlk:Qd st.m 0 site=.vec g sz xs)(hle:o+n≤xs.length) :
  ∃G',Rel G' B N { st with m:=Am.put st.m 0 site (.vec (g+1) sz []),f:=QI st.f slot (.list ((xs.drop o).take n)) } a w∧Ext 1 G w G' w:=by
 obtain⟨G',h1,h2,h3,h4⟩:=h.pub0 hlk;refine⟨G',⟨h1.mr,h1.size,fun i=>?_,h1.ds,h1.base,h1.top,h1.ne⟩,h2⟩;by_cases hi:i=slot
 ·subst hi;show Rep _ (QI st.f i _ i) _;rw[Q4];have hr:=h.slots i;rw[hs]at hr;exact h3 _ _ _ _ hle hr
 ·show Rep _ (QI st.f slot _ i) _;rw[Q8 _ _ hi];exact h1.slots i
theorem Rel.give {G:Gh}{B N:Nat}{st:St}{a:Act}{w:World}(h:Rel G B N st a w){slot site g sz o n l S:Nat}{q:Bool}{xs:List AV}(hs:st.f slot=.vec 0 site g o n q)(hlk:Qd st.m 0 site=.vec g sz xs)(hl:l<st.m.length)(hl0:l≠0)(hro:Qo (Qd st.m l S)=true)(hS:S<2000) :
  ∃G',Rel G' B N { st with m:=Am.put (Am.put st.m 0 site (.vec (g+1) sz [])) l S (.vec (Qy st.m l S) sz xs),f:=QI st.f slot (.vec l S (Qy st.m l S) o n q) } a w∧Ext 1 G w G' w:=by
 have hlp:0<st.m.length:=Qpj.2 h.ne;have hro0:Qo (Qd st.m 0 site)=true:=by rw[hlk];rfl
 obtain⟨e1,e2,e3,e4⟩:=h.mr.vec 0 site g sz xs hlk;obtain⟨h1,h2⟩:=h.vecput (w':=w) (sz:=sz) (cap:=0) (b:=none) (g:=g+1) (ys:=[]) hlp hro0 (by omega) rfl rfl rfl (QnV _) (fun _ _ _=>rfl) (fun k e=>by cases e) ⟨by simp,rfl,rfl⟩ (.inl ⟨rfl,rfl⟩);have hlen:(Am.put st.m 0 site (.vec (g+1) sz [])).length=st.m.length:=by
  cases st.m<;>rfl
 have hlk1:Qd (Am.put st.m 0 site (.vec (g+1) sz [])) l S=Qd st.m l S:=QB (.inl hl0);have hng:Qy (Am.put st.m 0 site (.vec (g+1) sz [])) l S=Qy st.m l S:=by unfold Qy;rw[hlk1]
 have hgl:(G.row 0 site none 0 (g+1) sz).vg l S<Qy st.m l S:=by
  rw[←hng];exact JU h1.mr (by rw[hlk1];exact hro)
 have hvm1:∀i t,(G.row 0 site none 0 (g+1) sz).vm i t=if i=0∧t=site then none else G.vm i t:=fun _ _=>rfl
 have hfree:∀k,G.vm 0 site=some k→¬(G.row 0 site none 0 (g+1) sz).mine k∧∀o,(G.row 0 site none 0 (g+1) sz).stab k o=none:=by
  intro k e;refine⟨?_,(h.mr.vm 0 site k e).2⟩;rintro(⟨i,t,e'⟩|⟨i,t,e'⟩)
  ·exact h.mr.inj3 _ _ _ _ _ e' e
  ·rw[hvm1]at e';split at e'
   ·cases e'
   ·rename_i hh;exact hh (h.mr.inj2 _ _ _ _ _ e' e)
 have hrow:(G.vm 0 site=none∧xs=[])∨∃k,G.vm 0 site=some k∧RowIs (G.row 0 site none 0 (g+1) sz) S w k (G.vc 0 site) sz xs:=by
  rcases e4 with e|⟨b,e,hr⟩
  ·exact .inl e
  ·refine .inr ⟨b,e,⟨?_,hr.le,hr.max⟩⟩;obtain⟨cs,⟨t,lo,hi,hh,_,hb⟩,hsz,hrep⟩:=hr.cur;exact⟨cs,⟨t,lo,hi,hh,by simp[Zn,hS],hb⟩,hsz,RepL.rfd (G:=G) (G':=G.row 0 site none 0 (g+1) sz) (fun _ _ _ h=>h) e3.rf hrep⟩
 have hmr:=h1.mr.vecput' (l:=l) (s:=S) (g:=Qy st.m l S) (sz:=sz) (cap:=G.vc 0 site) (b:=G.vm 0 site) (ys:=xs) (w':=w) (by rw[hlen];exact hl) (by rw[hlk1];exact hro) hgl (fun _ _ _=>rfl) (fun k e=>.inr (hfree k e)) e3 hrow;have hgle:=Gh.row_gle (G:=G.row 0 site none 0 (g+1) sz) (l:=l) (s:=S) (cap:=G.vc 0 site) (sz:=sz) (b:=G.vm 0 site) hgl;have hnm2:((G.row 0 site none 0 (g+1) sz).row l S (G.vm 0 site) (G.vc 0 site) (Qy st.m l S) sz).nm=G.nm:=rfl;have hvm2:∀i t,((G.row 0 site none 0 (g+1) sz).row l S (G.vm 0 site) (G.vc 0 site) (Qy st.m l S) sz).vm i t=if i=l∧t=S then G.vm 0 site else if i=0∧t=site then none else G.vm i t:=fun _ _=>rfl
 have hvc2:((G.row 0 site none 0 (g+1) sz).row l S (G.vm 0 site) (G.vc 0 site) (Qy st.m l S) sz).vc l S=G.vc 0 site:=by simp[Gh.row]
 have hvz2:((G.row 0 site none 0 (g+1) sz).row l S (G.vm 0 site) (G.vc 0 site) (Qy st.m l S) sz).vz l S=sz:=by simp[Gh.row]
 have hvg2:((G.row 0 site none 0 (g+1) sz).row l S (G.vm 0 site) (G.vc 0 site) (Qy st.m l S) sz).vg l S=Qy st.m l S:=by simp[Gh.row]
 refine⟨(G.row 0 site none 0 (g+1) sz).row l S (G.vm 0 site) (G.vc 0 site) (Qy st.m l S) sz,⟨hmr,h1.size,fun i=>?_,h1.ds.mono hgle,fun s' b' e=>?_,h1.top,Ww h1.ne⟩,⟨rfl,rfl,rfl,QnV _,h2.stab,fun _ _ _=>rfl,fun i t=>QnU (h2.vg i t) (hgle.vg i t),?_,h2.old,fun b e=>?_,fun i t b e=>?_⟩⟩
 ·by_cases hi:i=slot
  ·subst hi;show Rep _ (QI st.f i _ i) _;rw[Q4];have hr:=h.slots i;rw[hs]at hr;generalize a.tmps.getD i undef=v at hr;cases hr with
   |vec hone hg hh=>
    refine .vec hone (by rw[hvg2];exact QnV _) fun _=>?_
    rcases hh e1.symm with⟨hvm,ho,hn,A,hv,_⟩|⟨b,A,c,hvm,hok,hv,hkc,hcm,hq,hA⟩
    ·exact .inl ⟨by rw[hvm2,Qn5 ⟨rfl,rfl⟩];exact hvm,ho,hn,A,hv,fun h=>by omega⟩
    ·refine .inr ⟨b,A,c,by rw[hvm2,Qn5 ⟨rfl,rfl⟩];exact hvm,by rw[hvc2];exact hok,hv,hkc,hcm,by rw[hvc2];exact hq,?_⟩;rw[hvc2,hvz2,←e2];exact hA
  ·show Rep _ (QI st.f slot _ i) _;rw[Q8 _ _ hi];exact(h1.slots i).mono hgle
 ·rw[hnm2,hvm2]at e;rw[Qn4 (by omega)]at e;exact h1.base s' b' (by rw[hvm1];exact e)
 ·intro i t e;have hb1:=h2.vg i t;have hb2:=hgle.vg i t;obtain⟨a1,a2,a3⟩:=h2.vs i t (by omega);obtain⟨b1,b2,b3⟩:=hgle.vs i t (by omega);exact⟨b1.trans a1,b2.trans a2,b3.trans a3⟩
 ·refine .inl ?_;rcases e with⟨i,t,e⟩|⟨i,t,e⟩
  ·exact .inl ⟨i,t,e⟩
  ·rw[hvm2]at e;split at e
   ·exact .inr ⟨0,site,e⟩
   ·split at e
    ·cases e
    ·exact .inr ⟨i,t,e⟩
 ·refine .inl ?_;rw[hvm2]at e;split at e
  ·exact⟨0,site,Qn6 _,e⟩
  ·split at e
   ·cases e
   ·exact⟨i,t,QnV _,e⟩
def X6 (t:List UInt8)(p:Nat):Nat×Nat:=Utf8.decode ⟨⟨t⟩⟩ p
theorem MR.moved {G:Gh}{m:Qj}{w w':World}(h:MR G m w){l s b q:Nat}{p:Nat}{t u:IT}(hx:Qd m l s=.iter t p)(hb:G.nm l s=some b)(ht:Turned b w w')(hs:w'.heap[b]? = some (u.obj q)) :
  MR G (Am.put m l s (.iter u q)) w' where
 stab k o v e:=by
  have hk:k≠b:=by rintro rfl;rw[(h.nm l s k hb).2 o]at e;cases e
  exact Kp (ht.heap k hk) (h.stab k o v e)
 cells l' s' zs e:=by
  by_cases hh:l'=l∧s'=s
  ·obtain⟨rfl,rfl⟩:=hh;rw[Qq (Xj (by rw[hx];simp))]at e;cases e
  ·rw[QB (by omega)]at e;obtain⟨b',cs',e',hc,hr⟩:=h.cells l' s' zs e;exact⟨b',cs',e',hc.of (ht.heap b' (fun eb=>hh (by subst eb;exact h.inj1 _ _ _ _ _ e' hb))),hr⟩
 nm l' s' b' e:=by
  obtain⟨hz,h2⟩:=h.nm l' s' b' e;refine⟨?_,h2⟩;by_cases hh:l'=l∧s'=s
  ·obtain⟨rfl,rfl⟩:=hh;rw[Qq (Xj (by rw[hx];simp))];rfl
  ·rw[QB (by omega)];exact hz
 vec l' s' g sz zs e:=by
  by_cases hh:l'=l∧s'=s
  ·obtain⟨rfl,rfl⟩:=hh;rw[Qq (Xj (by rw[hx];simp))]at e;cases e
  ·rw[QB (by omega)]at e;obtain⟨a1,a2,a3,a4⟩:=h.vec l' s' g sz zs e;refine⟨a1,a2,a3,a4.imp id fun⟨b',e',r⟩=>⟨b',e',r.of (ht.heap b' ?_) fun _ h=>h⟩⟩;rintro rfl;exact h.inj3 _ _ _ _ _ hb e'
 vm l' s' b' e:=by
  obtain⟨⟨g,sz,zs,hz⟩,h2⟩:=h.vm l' s' b' e;refine⟨?_,h2⟩;by_cases hh:l'=l∧s'=s
  ·obtain⟨rfl,rfl⟩:=hh;rw[hx]at hz;cases hz
  ·exact⟨g,sz,zs,by rw[QB (by omega)];exact hz⟩
 gone l' s' e:=by
  by_cases hh:l'=l∧s'=s
  ·obtain⟨rfl,rfl⟩:=hh;exact h.gone l' s' (by rw[hx];rfl)
  ·rw[QB (by omega)]at e;exact h.gone l' s' e
 inj1:=h.inj1
 inj2:=h.inj2
 inj3:=h.inj3
 iter l' s' t' p' e:=by
  by_cases hh:l'=l∧s'=s
  ·obtain⟨rfl,rfl⟩:=hh;rw[Qq (Xj (by rw[hx];simp))]at e;cases e;exact⟨b,hb,hs⟩
  ·rw[QB (by omega)]at e;obtain⟨b',e',hc⟩:=h.iter l' s' t' p' e;exact⟨b',e',(ht.heap b' (fun eb=>hh (by subst eb;exact h.inj1 _ _ _ _ _ e' hb))).trans hc⟩
theorem Vl {P:Program}{w:World}{b p:Nat}{s:ByteArray}(hh:w.heap[b]? = some (.stringIter s p))(h:p<s.size)(ty:TypeId) :
  (Instr.next (.pointer (some ⟨b,0,none⟩)) true ty).run P w=.ok (.tuple #[.bool true,.int .i64 p,.int .i32 (Utf8.decode s p).1]) { w with heap:=w.heap.setIfInBounds b (.stringIter s (p+(Utf8.decode s p).2)) }:=by
 simp only[Instr.next,getObj,setObj,Sem.run_bind,Sem.run,hh,Result.andThen,h,if_true];simp[goInt]
theorem Vm {P:Program}{w:World}{b p:Nat}{s:ByteArray}(hh:w.heap[b]? = some (.stringIter s p))(h:¬p<s.size)(ty:TypeId) :
  (Instr.next (.pointer (some ⟨b,0,none⟩)) true ty).run P w=.ok (.tuple #[.bool false]) w:=by
 simp[Instr.next,getObj,Sem.run,hh,h]
section
variable {P:Program}{N:Nat}{st:St}{Q:St→Prop}
theorem Qx.rngs {d:Option Nat}{s:Nat}{r:RA}{its:List Item}{t:List UInt8}(ht:r.ev st.f=.str t)(hn:Zu st.m s=true)(h:Qx P N its { st with m:=Am.put st.m 0 s (.iter (.str t) 0),f:=Ql st.f d (.ptr 0 s 0) } Q) :
  Qx P N (⟨d,.rngs s r,none⟩ :: its) st Q:=by
 refine Qx.step rfl fun G B a w o hr hd hdN hc K QQ hK=>?_
 cases ho:o.op<;>rw[ho]at hc<;>simp only[Ze,Qog,Qol]at hc;rename_i ty x;have hx:=Qt hr hc.2;rw[ht]at hx;have hv:a.eval x=.string ⟨⟨t⟩⟩:=by
  generalize a.eval x=v at hx;cases hx;rfl
 obtain⟨hr',he⟩:=hr.freshO s hn (ob:=.iter (.str t) 0) (x:=.stringIter ⟨⟨t⟩⟩ 0) rfl (fun _ e=>by cases e) (fun _ _ e=>by cases e;rfl);have hrun:(execOp a.eval o).run P w=.ok (.value (.pointer (some ⟨w.heap.size,0,none⟩))) (w.alloc (.stringIter ⟨⟨t⟩⟩ 0)):=by
  simp only[execOp,ho,hv,Sem.run_bind,run_range_string w ty _ (Jv hc.1),Result.andThen_ok,Sem.run_pure];rfl
 unfold Oper.wp;rw[hrun];have hd':o.dst=d:=hd;show K (a.put o.dst _) _;rw[hd'];refine hK _ _ _ _ h (hr'.put hdN (.ptr ?_)) he;show(if (0:Nat)=0∧s=s then some w.heap.size else G.nm 0 s)=some w.heap.size;simp
theorem Qx.nxts {d:Option Nat}{r:RA}{its:List Item}{l s p:Nat}{t:List UInt8}(hp:r.ev st.f=.ptr l s 0)(hl:Qd st.m l s=.iter (.str t) p)
  (h1:p<t.length→Qx P N its { st with m:=Am.put st.m l s (.iter (.str t) (p+(X6 t p).2)),f:=Ql st.f d (.tup [.bool true,.int .i64 (p:Nat),.int .i32 ((X6 t p).1:Nat)]) } Q)
  (h2:t.length≤p→Qx P N its { st with f:=Ql st.f d (.tup [.bool false]) } Q) :
  Qx P N (⟨d,.nxts r,none⟩ :: its) st Q:=by
 refine Qx.step rfl fun G B a w o hr hd hdN hc K QQ hK=>?_
 cases ho:o.op<;>rw[ho]at hc<;>simp only[Ze,Qog]at hc;rename_i x str;cases str with
 |false=>cases hc
 |true=>
 have hx:=Qt hr hc;rw[hp]at hx;obtain⟨b,hb,hh⟩:=hr.mr.iter l s (.str t) p hl;have hv:a.eval x=.pointer (some ⟨b,0,none⟩):=by
  generalize a.eval x=v at hx;cases hx;rename_i b' hb';rw[hb]at hb';cases hb';rfl
 have hd':o.dst=d:=hd;unfold Oper.wp;by_cases hlt:p<t.length
 ·have hrun:(execOp a.eval o).run P w=.ok (.value (.tuple #[.bool true,.int .i64 p,.int .i32 (X6 t p).1])) { w with heap:=w.heap.setIfInBounds b (.stringIter ⟨⟨t⟩⟩ (p+(X6 t p).2)) }:=by
   simp only[execOp,ho,hv,Sem.run_bind,Vl hh (show p<ByteArray.size ⟨⟨t⟩⟩from hlt),Result.andThen_ok,Sem.run_pure];rfl
  rw[hrun];show K (a.put o.dst _) _;rw[hd'];have hlen:b<w.heap.size:=(Qn3.1 hh).1;have htn:Turned b w { w with heap:=w.heap.setIfInBounds b (.stringIter ⟨⟨t⟩⟩ (p+(X6 t p).2)) } :=
   ⟨rfl,rfl,rfl,by simp,fun k hk=>by
    show(w.heap.setIfInBounds b _)[k]? = _;rw[Array.getElem?_setIfInBounds_ne (fun e=>hk e.symm)]⟩
  have hnew:(w.heap.setIfInBounds b (.stringIter ⟨⟨t⟩⟩ (p+(X6 t p).2)))[b]? = some (.stringIter ⟨⟨t⟩⟩ (p+(X6 t p).2)):=by
   rw[Qn8,Qn5 hlen]
  have hm:=hr.mr.moved (u:=.str t) hl hb htn hnew;have hr':Rel G B N { st with m:=Am.put st.m l s (.iter (.str t) (p+(X6 t p).2)) } a { w with heap:=w.heap.setIfInBounds b (.stringIter ⟨⟨t⟩⟩ (p+(X6 t p).2)) } :=
   ⟨hm,hr.size,hr.slots,hr.ds,hr.base,by rw[htn.size];exact hr.top,Ww hr.ne⟩
  exact hK _ _ _ _ (h1 hlt) (hr'.put hdN (.tup (.cons (.bool _) (.cons (.int _ _) (.cons (.int _ _) .nil))))) (Ext.turned htn (.inl ⟨l,s,hb⟩))
 ·have hrun:(execOp a.eval o).run P w=.ok (.value (.tuple #[.bool false])) w:=by
   simp only[execOp,ho,hv,Sem.run_bind,Vm hh (show ¬p<ByteArray.size ⟨⟨t⟩⟩from hlt),Result.andThen_ok,Sem.run_pure]
  rw[hrun];show K (a.put o.dst _) _;rw[hd'];exact hK _ _ _ _ (h2 (by omega)) (hr.put hdN (.tup (.cons (.bool _) .nil))) (Ext.refl 1 G w)
def FJ (cnt:Bool)(t:List UInt8)(b:Int):Int:=if cnt then(Lib.countByte t b.toNat.toUInt8:Nat)else Lib.indexByte t b.toNat.toUInt8
theorem Qbc {fn:Func} (h1:fn.name = "internal/bytealg.CountString") (h2:fn.origin = ""):Extern.findNext fn=none∧Extern.find fn=some Extern.BytealgCount.count := by
 unfold Extern.findNext Extern.find;rw[h1,h2];exact⟨by kernel_rfl,by kernel_rfl⟩
theorem Qbd {fn:Func} (h1:fn.name = "internal/bytealg.IndexByteString") (h2:fn.origin = ""):Extern.findNext fn=none∧Extern.find fn=some Extern.BytealgIndexByte.indexByte := by
 unfold Extern.findNext Extern.find;rw[h1,h2];exact⟨by kernel_rfl,by kernel_rfl⟩
theorem Qx.xb {d:Option Nat}{cnt:Bool}{k:Nat}{s c:RA}{its:List Item}{t:List UInt8}{b:Int}(hs:s.ev st.f=.str t)(hb:c.ev st.f=.int .u8 b)(h:Qx P N its { st with f:=Ql st.f d (.int .i64 (FJ cnt t b)) } Q) :
  Qx P N (⟨d,.xb cnt k s c,none⟩ :: its) st Q:=by
 refine Qx.step rfl fun G B a w o hr hd hdN hc K QQ hK=>?_
 cases ho:o.op<;>rw[ho]at hc<;>simp only[Ze,Qog]at hc;rename_i cl;split at hc
 case h_2=>cases hc
 rename_i o1 k' x y ts o2;cases o2;simp only[Qol,Qn2]at hc;obtain⟨⟨⟨hk,hf⟩,hx⟩,hy⟩:=hc;subst hk;cases hfn:P.funcs[k]? with
 |none=>rw[hfn]at hf;cases hf
 |some fn=>
 rw[hfn]at hf;simp only[Qol,Qn2]at hf;obtain⟨⟨hname,hor⟩,hbody⟩:=hf;have rs:=Qt hr hx;have rc:=Qt hr hy;rw[hs]at rs;rw[hb]at rc;have ev:a.eval x=.string ⟨⟨t⟩⟩:=by
  generalize a.eval x=v at rs;cases rs;rfl
 have ec:a.eval y=.int .u8 b:=by
  generalize a.eval y=v at rc;cases rc;rfl
 have hrun:(execOp a.eval o).run P w=.ok (.value (.int .i64 (FJ cnt t b))) w:=by
  cases cnt with
  |true=>
   have hname:fn.name = "internal/bytealg.CountString" := hname
   obtain⟨e1,e2⟩:=Qbc hname hor;have hcf:=run_callFunc_extern (P:=P) hfn (by rw[hname];decide) hbody e1 e2 #[.string ⟨⟨t⟩⟩,.int .u8 b] w;rw[Lib.run_countString]at hcf;simp only[execOp,ho,resolve,Act.eval,Deferred.ofValue,Sem.run_bind,Sem.run_pure,Result.andThen_ok,invoke];simp[ev,ec,hcf,FJ,Result.andThen]
  |false=>
   have hname:fn.name = "internal/bytealg.IndexByteString" := hname
   obtain⟨e1,e2⟩:=Qbd hname hor;have hcf:=run_callFunc_extern (P:=P) hfn (by rw[hname];decide) hbody e1 e2 #[.string ⟨⟨t⟩⟩,.int .u8 b] w;rw[Lib.run_indexByteString]at hcf;simp only[execOp,ho,resolve,Act.eval,Deferred.ofValue,Sem.run_bind,Sem.run_pure,Result.andThen_ok,invoke];simp[ev,ec,hcf,FJ,Result.andThen]
 unfold Oper.wp;rw[hrun];have hd':o.dst=d:=hd;show K (a.put o.dst _) _;rw[hd'];exact hK _ _ _ _ h (hr.put hdN (.int _ _)) (Ext.refl 1 G w)
theorem Qx.mkm {d:Option Nat}{s:Nat}{its:List Item}(hn:Zu st.m s=true)(h:Qx P N its { st with m:=Am.put st.m 0 s (.iter (.mp [] []) 0),f:=Ql st.f d (.mptr 0 s) } Q) :
  Qx P N (⟨d,.mkm s,none⟩ :: its) st Q:=by
 refine Qx.step rfl fun G B a w o hr hd hdN hc K QQ hK=>?_
 cases ho:o.op<;>rw[ho]at hc<;>simp only[Ze,Qog]at hc;rename_i ty hint;cases hint with
 |some _=>cases hc
 |none=>
 obtain⟨hr',he⟩:=hr.freshO s hn (ob:=.iter (.mp [] []) 0) (x:=.map #[] 0) rfl (fun _ e=>by cases e) (fun _ _ e=>by cases e;rfl);have hrun:(execOp a.eval o).run P w=.ok (.value (.map (some w.heap.size))) (w.alloc (.map #[] 0)):=by
  simp only[execOp,ho,Sem.run_bind,Option.map_none,show(Instr.makeMap ty none).run P w=.ok (.map (some w.heap.size)) (w.alloc (.map #[] 0))from rfl,Result.andThen_ok,Sem.run_pure]
 unfold Oper.wp;rw[hrun];have hd':o.dst=d:=hd;show K (a.put o.dst _) _;rw[hd'];refine hK _ _ _ _ h (hr'.put hdN (.mptr ?_)) he;show(if (0:Nat)=0∧s=s then some w.heap.size else G.nm 0 s)=some w.heap.size;simp
theorem Qx.mput {d:Option Nat}{x i v:RA}{its:List Item}{l s p:Nat}{ks:List (List UInt8)}{vs:List AV}{k:List UInt8}(hx:x.ev st.f=.mptr l s)(hl:Qd st.m l s=.iter (.mp ks vs) p)(hi:i.ev st.f=.str k)(hg:(v.ev st.f).gr=true)(_hgs:AV.grL vs=true)(hlen:ks.length=vs.length)
  (h:Qx P N its { st with m:=Am.put st.m l s (.iter (.mp (Am.ZP k (v.ev st.f) ks vs).1 (Am.ZP k (v.ev st.f) ks vs).2) p),f:=Ql st.f d (.tup []) } Q) :
  Qx P N (⟨d,.mput x i v,none⟩ :: its) st Q:=by
 refine Qx.step rfl fun G B a w o hr hd hdN hc K QQ hK=>?_
 obtain⟨ty,ox,oi,ov,hc,hex⟩:∃ty ox oi ov,((((match P.underlying ty with|some (.map kt _)=>KN P kt|_=>false)&&QJ ox x)&&QJ oi i)&&QJ ov v)=true∧
   ∀w',(Instr.mapUpdate ty (a.eval ox) (a.eval oi) (a.eval ov)).run P w=.ok () w'→(execOp a.eval o).run P w=.ok .skip w':=by
  cases ho:o.op<;>rw[ho]at hc<;>simp only[Ze,Qog]at hc
  ·exact⟨_,_,_,_,hc,fun w' h=>by simp only[execOp,ho,Sem.run_bind,h,Result.andThen_ok,Sem.run_pure]⟩
  ·exact⟨_,_,_,_,hc,fun w' h=>by simp only[execOp,ho,Sem.run_bind,h,Result.andThen_ok,Sem.run_pure]⟩
 simp only[Qol]at hc;obtain⟨⟨⟨hty,h1⟩,h2⟩,h3⟩:=hc;split at hty
 case h_2=>cases hty
 rename_i kt et hu;have r1:=Qt hr h1;have r2:=Qt hr h2;have r3:=Qt hr h3;rw[hx]at r1;rw[hi]at r2;obtain⟨b,hb,hh⟩:=hr.mr.iter l s (.mp ks vs) p hl;have ex:a.eval ox=.map (some b):=by
  generalize a.eval ox=u at r1;cases r1;rename_i b' hb';rw[hb]at hb';cases hb';rfl
 have ei:a.eval oi=.string ⟨⟨k⟩⟩:=by
  generalize a.eval oi=u at r2;cases r2;rfl
 have ev:a.eval ov=(v.ev st.f).gv:=Lb hg r3;have hrun:(execOp a.eval o).run P w=.ok .skip { w with heap:=w.heap.setIfInBounds b (IT.obj (.mp (Am.ZP k (v.ev st.f) ks vs).1 (Am.ZP k (v.ev st.f) ks vs).2) p) }:=by
  refine hex _ ?_;rw[ex,ei,ev];exact DZ hlen hu (Jv hty) hh
 unfold Oper.wp;rw[hrun];have hd':o.dst=d:=hd;show K (a.put o.dst undef) _;rw[hd'];have hlt:b<w.heap.size:=(Qn3.1 hh).1;generalize hu':IT.mp (Am.ZP k (v.ev st.f) ks vs).1 (Am.ZP k (v.ev st.f) ks vs).2=u at *;have htn:Turned b w { w with heap:=w.heap.setIfInBounds b (u.obj p) } :=
  ⟨rfl,rfl,rfl,by simp,fun k hk=>by
   show(w.heap.setIfInBounds b _)[k]? = _;rw[Array.getElem?_setIfInBounds_ne (fun e=>hk e.symm)]⟩
 have hnew:(w.heap.setIfInBounds b (u.obj p))[b]? = some (u.obj p):=by
  rw[Qn8,Qn5 hlt]
 have hm:=hr.mr.moved (u:=u) hl hb htn hnew;have hr':Rel G B N { st with m:=Am.put st.m l s (.iter u p) } a { w with heap:=w.heap.setIfInBounds b (u.obj p) } :=
  ⟨hm,hr.size,hr.slots,hr.ds,hr.base,by rw[htn.size];exact hr.top,Ww hr.ne⟩
 exact hK _ _ _ _ h (hr'.put hdN (v:=undef) (.tup .nil)) (Ext.turned htn (.inl ⟨l,s,hb⟩))
end
def Qg (P:Program)(k:FuncId)(args:List AV)(v:AV):Prop:=Fn? P k args (· = v)
def H7 (P:Program)(d:Option Nat)(op:RO)(st:St)(K:St→Prop):Prop :=
 match op with
 |.val vo=>∃x,Qw st.f st.m vo=some x∧K { st with f:=Ql st.f d x }
 |.allocN s z=>Zu st.m s=true∧K { st with m:=Am.put st.m 0 s (.cells z),f:=Ql st.f d (.ptr 0 s 0) }
 |.boxN s r=>Zu st.m s=true∧(r.ev st.f).cells.all AV.leaf=true∧K { st with m:=Am.put st.m 0 s (.cells (r.ev st.f).cells),f:=Ql st.f d (.ptr 0 s 0) }
 |.store n p r=>(r.ev st.f).cells.length=n∧(r.ev st.f).cells.all AV.leaf=true∧∃m',Xn st.m (p.ev st.f) (r.ev st.f).cells=some m'∧K { st with m:=m',f:=Ql st.f d (.tup []) }
 |.app sz bytes el s r=>∃l site g n xs ys,s.ev st.f=.vec l site g 0 n false∧Qd st.m l site=.vec g sz xs∧Zn site el=true∧n≤xs.length∧Xi st.m (r.ev st.f)=some ys∧ys.all (fun e=>e.cells.length==sz)=true∧n+ys.length≤maxLen∧(n+ys.length)*bytes≤140737488355328∧
   K { st with m:=Am.put st.m l site (.vec (g+1) sz (xs.take n++ys)),f:=Ql st.f d (.vec l site (g+1) 0 (n+ys.length) false) }
 |.storev l s n p r=>(∃o,p.ev st.f=.ptr l s o)∧(r.ev st.f).cells.length=n∧(r.ev st.f).cells.all AV.leaf=true∧∃m',Xn st.m (p.ev st.f) (r.ev st.f).cells=some m'∧K { st with m:=m',f:=Ql st.f d (.tup []) }
 |.call f args=>∃k fa fb ys v,f.ev st.f=.fn (.func k) fa fb∧AV.stillL false st.m (fa++args.map (RA.ev st.f)++fb)=some ys∧AV.rfL ys=true∧Qg P k ys v∧v.rf=true∧(AV.rfL (fa++args.map (RA.ev st.f)++fb)=true∨v.nl=true)∧K { st with f:=Ql st.f d v }
 |.callF f args=>∃k fa fb v m',f.ev st.f=.fn (.func k) fa fb∧Qe P k (fa++args.map (RA.ev st.f)++fb) st.m (fun x m=>x=v∧m=m')∧K { st with m:=m',f:=Ql st.f d v }
 |.callG f args=>∃k fa fb R,f.ev st.f=.fn (.func k) fa fb∧Qe P k (fa++args.map (RA.ev st.f)++fb) st.m R∧∀x m',R x m'→m'.length=st.m.length→K { st with m:=m',f:=Ql st.f d x }
 |.bsl sz len z ps=>∃y,fill st.f ps (X5 z sz len)=some y∧AV.rfL y=true∧y.all AV.leaf=true∧K { st with f:=Ql st.f d (.list (Zt sz len (y.map nn0))) }
 |.bslv site sz len z ps=>∃y,fill st.f ps (X5 z sz len)=some y∧AV.rfL y=true∧y.all AV.leaf=true∧Qo (Qd st.m 0 site)=true∧
   K { st with m:=Am.put st.m 0 site (.vec (Qy st.m 0 site) sz (Zt sz len (y.map nn0))),f:=Ql st.f d (.vec 0 site (Qy st.m 0 site) 0 len false) }
 |.bsl0 site sz=>Qo (Qd st.m 0 site)=true∧K { st with m:=Am.put st.m 0 site (.vec (Qy st.m 0 site) sz []),f:=Ql st.f d (.vec 0 site (Qy st.m 0 site) 0 0 false) }
 |.appc site sz bytes _ s r=>∃xs ys,s.ev st.f=.lcap xs∧Xi st.m (r.ev st.f)=some ys∧ys≠[]∧xs.all (fun e=>e.cells.length==sz)=true∧ys.all (fun e=>e.cells.length==sz)=true∧xs.length+ys.length≤maxLen∧(xs.length+ys.length)*bytes≤140737488355328∧Qo (Qd st.m 0 site)=true∧
   K { st with m:=Am.put st.m 0 site (.vec (Qy st.m 0 site) sz (xs++ys)),f:=Ql st.f d (.vec 0 site (Qy st.m 0 site) 0 (xs.length+ys.length) false) }
 |.isnil neg r=>∃ys,Xi st.m (r.ev st.f)=some ys∧(r.ev st.f≠.nils→K { st with f:=Ql st.f d (.bool neg) })∧((r.ev st.f=.nils∨QT ys=[])→K { st with f:=Ql st.f d (.bool (!neg)) })
 |.callK l s f args=>∃k fa fb v m',f.ev st.f=.fn (.func k) fa fb∧Qe P k (fa++args.map (RA.ev st.f)++fb) st.m (fun x m=>x=v∧m=m')∧Qd m' l s=Qd st.m l s∧K { st with m:=m',f:=Ql st.f d v }
 |.xb cnt _ s c=>∃t b,s.ev st.f=.str t∧c.ev st.f=.int .u8 b∧K { st with f:=Ql st.f d (.int .i64 (FJ cnt t b)) }
 |.rngs s r=>∃t,r.ev st.f=.str t∧Zu st.m s=true∧K { st with m:=Am.put st.m 0 s (.iter (.str t) 0),f:=Ql st.f d (.ptr 0 s 0) }
 |.mkm s=>Zu st.m s=true∧K { st with m:=Am.put st.m 0 s (.iter (.mp [] []) 0),f:=Ql st.f d (.mptr 0 s) }
 |.mput x i v=>∃l s ks vs p k,x.ev st.f=.mptr l s∧Qd st.m l s=.iter (.mp ks vs) p∧i.ev st.f=.str k∧(v.ev st.f).gr=true∧AV.grL vs=true∧ks.length=vs.length∧K { st with m:=Am.put st.m l s (.iter (.mp (ZP k (v.ev st.f) ks vs).1 (ZP k (v.ev st.f) ks vs).2) p),f:=Ql st.f d (.tup []) }
 |.nxts r=>∃l s t p,r.ev st.f=.ptr l s 0∧Qd st.m l s=.iter (.str t) p∧
   (p<t.length→K { st with m:=Am.put st.m l s (.iter (.str t) (p+(X6 t p).2)),f:=Ql st.f d (.tup [.bool true,.int .i64 (p:Nat),.int .i32 ((X6 t p).1:Nat)]) })∧(t.length≤p→K { st with f:=Ql st.f d (.tup [.bool false]) })
 |.appS el s r=>∃l site g n xs t,s.ev st.f=.vec l site g 0 n false∧Qd st.m l site=.vec g 1 xs∧Zn site el=true∧n≤xs.length∧r.ev st.f=.str t∧n+t.length≤140737488355328∧
   K { st with m:=Am.put st.m l site (.vec (g+1) 1 (xs.take n++Qu t)),f:=Ql st.f d (.vec l site (g+1) 0 (n+t.length) false) }
 |.mk site _ sz bytes z l c=>∃(kl kc:IntKind) (n k:Nat),l.ev st.f=.int kl (n:Int)∧c.ev st.f=.int kc (k:Int)∧n≤k∧k≤9223372036854775807∧bytes*k≤281474976710656∧Qo (Qd st.m 0 site)=true∧
   K { st with m:=Am.put st.m 0 site (.vec (Qy st.m 0 site) sz (List.replicate n (K7 sz z))),f:=Ql st.f d (.vec 0 site (Qy st.m 0 site) 0 n false) }
 |.s2b site _ r=>∃s,r.ev st.f=.str s∧s.length≤9223372036854775807∧Qo (Qd st.m 0 site)=true∧
   K { st with m:=Am.put st.m 0 site (.vec (Qy st.m 0 site) 1 (Qu s)),f:=Ql st.f d (.vec 0 site (Qy st.m 0 site) 0 s.length false) }
 |.usd r=>∃l s g n sz xs,2000≤s∧r.ev st.f=.vec l s g 0 n false∧Qd st.m l s=.vec g sz xs∧K { st with f:=Ql st.f d (if n=0 then .anyp else .vptr l s g 0 0) }
 |.ustr el p r=>(p.ev st.f=.anyp∧r.ev st.f=.int .i64 0∧K { st with f:=Ql st.f d (.str []) })∨
   ∃l g n xs s,p.ev st.f=.vptr l (el+2000) g 0 0∧r.ev st.f=.int .i64 ((n:Nat):Int)∧Qd st.m l (el+2000)=.vec g 1 xs∧n≤xs.length∧n≠0∧xs.take n=Qu s∧K { st with m:=Am.put st.m l (el+2000) (.vec (g+1) 1 []),f:=Ql st.f d (.str s) }
def ZM (P:Program)(it:Item)(st:St)(K:St→Prop):Prop :=
 match it.g with
 |none=>H7 P it.dst it.op st K
 |some (j,want)=>match st.f j with
  |.bool b=>(b=want→H7 P it.dst it.op st K)∧(b=(!want)→K { st with f:=Ql st.f it.dst (.tup []) })
  |.tup l=>l=[]∧K { st with f:=Ql st.f it.dst (.tup []) }
  |_=>False
def QE (P:Program):List Item→St→(St→Prop)→Prop
 | [],st,K=>K st
 |it :: its,st,K=>ZM P it st fun st'=>QE P its st' K
section
variable {P:Program}{N:Nat}
theorem SY {d:Option Nat}{op:RO}{its:List Item}{st:St}{Q:St→Prop}(h:H7 P d op st fun st'=>Qx P N its st' Q):Qx P N (⟨d,op,none⟩ :: its) st Q:=by
 cases op with
 |val vo=>obtain⟨x,hx,h⟩:=h;exact .val hx h
 |allocN s z=>exact .allocN h.1 h.2
 |boxN s r=>exact .boxN h.1 h.2.1 h.2.2
 |store n p r=>obtain⟨h1,h2,m',h3,h⟩:=h;exact .store h1 h2 h3 h
 |app sz bytes el s r=>obtain⟨l,site,g,n,xs,ys,h1,h2,ht,h3,h4,h5,h6,h7,h⟩:=h;exact .app h1 h2 ht h3 h4 h5 h6 h7 h
 |appS el s r=>obtain⟨l,site,g,n,xs,t,h1,h2,ht,h3,h4,h5,h⟩:=h;exact .appS h1 h2 ht h3 h4 h5 h
 |mk site el sz bytes z l c=>obtain⟨kl,kc,n,k,h1,h2,h3,h4,h5,h6,h⟩:=h;exact .mk h1 h2 h3 h4 h5 h6 h
 |s2b site el r=>obtain⟨s,h1,h2,h3,h⟩:=h;exact .s2b h1 h2 h3 h
 |usd r=>obtain⟨l,s,g,n,sz,xs,h0,h1,h2,h⟩:=h;exact .usd h0 h1 h2 h
 |ustr el p r=>
  rcases h with⟨h1,h2,h⟩|⟨l,g,n,xs,s,h1,h2,h3,h4,h5,h6,h⟩
  ·exact .ustr0 h1 h2 h
  ·exact .ustr h1 h2 h3 h4 h5 h6 h
 |storev l s n p r=>obtain⟨_,h1,h2,m',h3,h⟩:=h;exact .same (ro:=.store n p r) (fun _=>rfl) (.store h1 h2 h3 h)
 |call f args=>
  obtain⟨k,fa,fb,ys,v,hf,h1,h2,h3,h4,h5,h⟩:=h;exact .callPure hf h1 h2 h3 (fun x hx=>by subst hx;exact⟨h4,h5⟩) fun x hx=>by subst hx;exact h
 |callF f args=>
  obtain⟨k,fa,fb,v,m',hf,h1,h⟩:=h;exact .same (ro:=.call f args) (fun _=>rfl) (.callFull hf h1 fun x m hx _=>by obtain⟨rfl,rfl⟩:=hx;exact h)
 |callG f args=>
  obtain⟨k,fa,fb,R,hf,h1,h⟩:=h;exact .same (ro:=.call f args) (fun _=>rfl) (.callFull hf h1 h)
 |bsl sz len z ps=>obtain⟨y,h1,h2,h3,h⟩:=h;exact .bsl h1 h2 h3 h
 |bslv site sz len z ps=>obtain⟨y,h1,h2,h3,h4,h⟩:=h;exact .bslv h1 h2 h3 h4 h
 |bsl0 site sz=>exact .bsl0 h.1 h.2
 |isnil neg r=>obtain⟨ys,h1,h2,h3⟩:=h;exact .isnil h1 h2 h3
 |appc site sz bytes el s r=>obtain⟨xs,ys,h1,h2,h3,h4,h5,h6,h7,h8,h⟩:=h;exact .appc h1 h2 h3 h4 h5 h6 h7 h8 h
 |callK l s f args=>
  obtain⟨k,fa,fb,v,m',hf,h1,_,h⟩:=h;exact .same (ro:=.call f args) (fun _=>rfl) (.callFull hf h1 fun x m hx _=>by obtain⟨rfl,rfl⟩:=hx;exact h)
 |xb cnt k s c=>obtain⟨t,b,h1,h2,h⟩:=h;exact .xb h1 h2 h
 |rngs s r=>obtain⟨t,h1,h2,h⟩:=h;exact .rngs h1 h2 h
 |nxts r=>obtain⟨l,s,t,p,h1,h2,h3,h4⟩:=h;exact .nxts h1 h2 h3 h4
 |mkm s=>obtain⟨h1,h⟩:=h;exact .mkm h1 h
 |mput x i v=>obtain⟨l,s,ks,vs,p,k,h1,h2,h3,h4,h5,h6,h⟩:=h;exact .mput h1 h2 h3 h4 h5 h6 h
theorem VH {it:Item}{its:List Item}{st:St}{Q:St→Prop}(h:ZM P it st fun st'=>Qx P N its st' Q):Qx P N (it :: its) st Q:=by
 obtain⟨d,op,g⟩:=it;cases g with
 |none=>exact SY h
 |some p=>
  obtain⟨j,want⟩:=p;simp only[ZM]at h;split at h
  ·rename_i b hj;by_cases hb:b=want
   ·subst hb;exact .yes hj (SY (h.1 rfl))
   ·have hb':b=!want:=by cases b<;>cases want<;>first|rfl|exact absurd rfl hb
    subst hb';exact .no (.inl hj) (h.2 rfl)
  ·rename_i l hj;obtain⟨rfl,h⟩:=h;exact .no (.inr hj) h
  ·exact h.elim
theorem VI {d:Option Nat}{op:RO}{st:St}{K K':St→Prop}(hk:∀s,K s→K' s)(h:H7 P d op st K):H7 P d op st K':=by
 cases op<;>simp only[H7]at h ⊢
 case val=>obtain⟨x,a,b⟩:=h;exact⟨x,a,hk _ b⟩
 case allocN=>exact⟨h.1,hk _ h.2⟩
 case boxN=>exact⟨h.1,h.2.1,hk _ h.2.2⟩
 case store=>obtain⟨h1,h2,m',h3,h⟩:=h;exact⟨h1,h2,m',h3,hk _ h⟩
 case app=>obtain⟨l,site,g,n,xs,ys,h1,h2,ht,h3,h4,h5,h6,h7,h⟩:=h;exact⟨l,site,g,n,xs,ys,h1,h2,ht,h3,h4,h5,h6,h7,hk _ h⟩
 case appS=>obtain⟨l,site,g,n,xs,t,h1,h2,ht,h3,h4,h5,h⟩:=h;exact⟨l,site,g,n,xs,t,h1,h2,ht,h3,h4,h5,hk _ h⟩
 case mk=>obtain⟨kl,kc,n,k,h1,h2,h3,h4,h5,h6,h⟩:=h;exact⟨kl,kc,n,k,h1,h2,h3,h4,h5,h6,hk _ h⟩
 case s2b=>obtain⟨s,h1,h2,h3,h⟩:=h;exact⟨s,h1,h2,h3,hk _ h⟩
 case usd=>obtain⟨l,s,g,n,sz,xs,h0,h1,h2,h⟩:=h;exact⟨l,s,g,n,sz,xs,h0,h1,h2,hk _ h⟩
 case ustr=>
  rcases h with⟨h1,h2,h⟩|⟨l,g,n,xs,s,h1,h2,h3,h4,h5,h6,h⟩
  ·exact .inl ⟨h1,h2,hk _ h⟩
  ·exact .inr ⟨l,g,n,xs,s,h1,h2,h3,h4,h5,h6,hk _ h⟩
 case bsl=>obtain⟨y,h1,h2,h3,h⟩:=h;exact⟨y,h1,h2,h3,hk _ h⟩
 case bslv=>obtain⟨y,h1,h2,h3,h4,h⟩:=h;exact⟨y,h1,h2,h3,h4,hk _ h⟩
 case bsl0=>exact⟨h.1,hk _ h.2⟩
 case appc=>obtain⟨xs,ys,h1,h2,h3,h4,h5,h6,h7,h8,h⟩:=h;exact⟨xs,ys,h1,h2,h3,h4,h5,h6,h7,h8,hk _ h⟩
 case isnil=>obtain⟨ys,h1,h2,h3⟩:=h;exact⟨ys,h1,fun e=>hk _ (h2 e),fun e=>hk _ (h3 e)⟩
 case callK=>obtain⟨k,fa,fb,v,m',hf,h1,h2,h⟩:=h;exact⟨k,fa,fb,v,m',hf,h1,h2,hk _ h⟩
 case xb=>obtain⟨t,b,h1,h2,h⟩:=h;exact⟨t,b,h1,h2,hk _ h⟩
 case rngs=>obtain⟨t,h1,h2,h⟩:=h;exact⟨t,h1,h2,hk _ h⟩
 case mkm=>obtain⟨h1,h⟩:=h;exact⟨h1,hk _ h⟩
 case mput=>obtain⟨l,s,ks,vs,p,k,h1,h2,h3,h4,h5,h6,h⟩:=h;exact⟨l,s,ks,vs,p,k,h1,h2,h3,h4,h5,h6,hk _ h⟩
 case nxts=>obtain⟨l,s,t,p,h1,h2,h3,h4⟩:=h;exact⟨l,s,t,p,h1,h2,fun e=>hk _ (h3 e),fun e=>hk _ (h4 e)⟩
 case storev=>obtain⟨h0,h1,h2,m',h3,h⟩:=h;exact⟨h0,h1,h2,m',h3,hk _ h⟩
 case call=>obtain⟨k,fa,fb,ys,v,hf,h1,h2,h3,h4,h5,h⟩:=h;exact⟨k,fa,fb,ys,v,hf,h1,h2,h3,h4,h5,hk _ h⟩
 case callF=>obtain⟨k,fa,fb,v,m',hf,h1,h⟩:=h;exact⟨k,fa,fb,v,m',hf,h1,hk _ h⟩
 case callG=>obtain⟨k,fa,fb,R,hf,h1,h⟩:=h;exact⟨k,fa,fb,R,hf,h1,fun x m' hr hl=>hk _ (h x m' hr hl)⟩
theorem Hx {it:Item}{st:St}{K K':St→Prop}(hk:∀s,K s→K' s)(h:ZM P it st K):ZM P it st K':=by
 unfold ZM at h ⊢;split at h
 ·exact VI hk h
 ·split at h
  ·exact⟨fun e=>VI hk (h.1 e),fun e=>hk _ (h.2 e)⟩
  ·exact⟨h.1,hk _ h.2⟩
  ·exact h.elim
theorem Pk:∀ {its:List Item} {st:St} {Q:St→Prop},QE P its st Q→Qx P N its st Q
 | [],_,_,h=>.nil h
 |_ :: _,_,_,h=>VH (Hx (fun _ hs=>Pk hs) h)
end
inductive GO where
 |vec (slot site sz:Nat)
 |drop (s:Nat)
 |vecc (s idx site sz:Nat)
 |pub (slot site:Nat)
 |give (slot site l S:Nat)
 |lst (slot:Nat)
def JE (g:GO)(st:St):Option St :=
 match g with
 |.vec slot site sz=>match st.f slot with
  |.nils=>bif Qo (Qd st.m 0 site)then some { st with m:=Am.put st.m 0 site (.vec (Qy st.m 0 site) sz []),f:=QI st.f slot (.vec 0 site (Qy st.m 0 site) 0 0 false) } else none
  |_=>none
 |.drop s=>bif Hs st.m s then some (st.drop s)else none
 |.vecc s idx site sz=>match Qd st.m 0 s with
  |.cells xs=>match xs[idx]? with
   |some .nils=>bif Qo (Qd st.m 0 site) && !(Nat.beq site s)then some { st with m:=Am.put (Am.put st.m 0 site (.vec (Qy st.m 0 site) sz [])) 0 s (.cells (xs.set idx (.vec 0 site (Qy st.m 0 site) 0 0 false))) } else none
   |some _=>some st
   |none=>none
  |_=>none
 |.pub slot site=>match st.f slot with
  |.vec 0 s' g o n _=>match Qd st.m 0 site with
   |.vec g' sz xs=>bif Nat.beq s' site&&Nat.beq g g'&&Nat.ble (o+n) xs.length then some { st with m:=Am.put st.m 0 site (.vec (g+1) sz []),f:=QI st.f slot (.list ((xs.drop o).take n)) } else none
   |_=>none
  |.list _=>some st
  |_=>none
 |.give slot site l S=>match st.f slot with
  |.vec 0 s' g o n q=>match Qd st.m 0 site with
   |.vec g' sz xs=>bif Nat.beq s' site&&Nat.beq g g'&&Nat.blt l st.m.length && !(Nat.beq l 0)&&Qo (Qd st.m l S)&&Nat.blt S 2000 then some { st with m:=Am.put (Am.put st.m 0 site (.vec (g+1) sz [])) l S (.vec (Qy st.m l S) sz xs),f:=QI st.f slot (.vec l S (Qy st.m l S) o n q) } else none
   |_=>none
  |_=>none
 |.lst slot=>match st.f slot with
  |.nils=>some { st with f:=QI st.f slot (.list []) }
  |.list l=>some { st with f:=QI st.f slot (.list l) }
  |_=>none
inductive RC where
 |skip
 |reg (its:List Item)
 |draw (its:List Item)
 |seq (a b:RC)
 |cond (c:RA) (a b:RC)
 |block (id:Nat) (a:RC)
 |loop (a:RC)
 |exit (id:Nat)
 |scope (a:RC)
 |lab
 |ret
 |gho (g:GO) (a:RC)
 |no
def Ks (f:St→Prop)(Q:Exit→St→Prop):Exit→St→Prop
 |.normal,st=>f st
 |e,st=>Q e st
def Kb (id:Nat)(Q:Exit→St→Prop):Exit→St→Prop
 |.exit i,st=>if i=id then Q .normal st else Q (.exit i) st
 |e,st=>Q e st
def Kg (Q:Exit→St→Prop):Exit→St→Prop
 |.goto _,_=>False
 |e,st=>Q e st
def Q2 (P:Program):RC→St→(Exit→St→Prop)→Prop
 |.skip,st,Q=>Q .normal st
 |.reg its,st,Q=>QE P its st (Q .normal)
 |.draw its,st,Q=>QE P its st (Q .normal)
 |.seq a b,st,Q=>Q2 P a st (Ks (fun st'=>Q2 P b st' Q) Q)
 |.cond c a b,st,Q=>∃t,c.ev st.f=.bool t∧(t=true→Q2 P a st Q)∧(t=false→Q2 P b st Q)
 |.block id a,st,Q=>Q2 P a st (Kb id Q)
 |.loop a,st,Q=>∃(I:Nat→St→Prop) (n:Nat),I n st∧∀n st',I n st'→Q2 P a st' (Ks (fun s=>∃k,k<n∧I k s) Q)
 |.exit id,st,Q=>Q (.exit id) st
 |.scope a,st,Q=>Q2 P a st (Kg Q)
 |.lab,st,Q=>Q .normal st
 |.ret,st,Q=>Q .ret st
 |.gho g a,st,Q=>∃st',JE g st=some st'∧Q2 P a st' Q
 |.no,_,_=>False
theorem Gk {G:Gh}{f:Fr}{a:Act}(hs:∀i,Rep G (f i) (a.tmps.getD i undef)){d:Nat}{x:AV}(hx:Rep G x (a.tmps.getD d undef)):∀i,Rep G (QI f d x i) (a.tmps.getD i undef):=by
 intro i;by_cases hi:i=d
 ·subst hi;rw[Q4];exact hx
 ·rw[Q8 _ _ hi];exact hs i
theorem EB {G:Gh}{B N:Nat}{st st':St}{a:Act}{w:World}(h:Rel G B N st a w){g:GO}(hg:JE g st=some st'):∃G',Rel G' B N st' a w∧Ext 1 G w G' w:=by
 cases g with
 |vec slot site sz=>
  simp only[JE]at hg;split at hg
  ·rename_i hn;cases hro:Qo (Qd st.m 0 site)with
   |false=>rw[hro]at hg;cases hg
   |true=>
    rw[hro]at hg;simp only[cond_true,Qoo]at hg;subst hg;have hl:0<st.m.length:=Qpj.2 h.ne;obtain⟨h1,h2⟩:=h.vecput (w':=w) (sz:=sz) (cap:=0) (b:=none) (ys:=[]) hl hro (JU h.mr hro) rfl rfl rfl (QnV _) (fun _ _ _=>rfl) (fun k e=>by cases e) ⟨by simp,rfl,rfl⟩ (.inl ⟨rfl,rfl⟩);refine⟨_,⟨h1.mr,h1.size,Gk h1.slots ?_,h1.ds,h1.base,h1.top,h1.ne⟩,h2⟩;have hs:=h.slots slot;rw[hn]at hs;generalize a.tmps.getD slot undef=v at hs;cases hs;exact .vec rfl (QoH (by simp[Gh.row])) fun _=>.inl ⟨by simp[Gh.row],rfl,rfl,none,rfl,fun _=>rfl⟩
  ·cases hg
 |drop s=>
  simp only[JE]at hg;cases hro:Hs st.m s with
  |false=>rw[hro]at hg;cases hg
  |true=>
   rw[hro]at hg;simp only[cond_true,Qoo]at hg;subst hg;exact⟨_,h.drop s hro⟩
 |vecc s idx site sz=>
  simp only[JE]at hg;split at hg
  ·rename_i xs hlk;split at hg
   ·rename_i hn;cases hro:(Qo (Qd st.m 0 site) && !(Nat.beq site s))with
    |false=>rw[hro]at hg;cases hg
    |true=>
     rw[hro]at hg;simp only[cond_true,Qoo]at hg;subst hg;rw[Qol]at hro;have hne:s≠site:=fun e=>by
      have h2:=hro.2;rw[e]at h2;simp at h2
     have hl:0<st.m.length:=Qpj.2 h.ne;obtain⟨h1,h2⟩:=h.vecput (w':=w) (sz:=sz) (cap:=0) (b:=none) (ys:=[]) hl hro.1 (JU h.mr hro.1) rfl rfl rfl (QnV _) (fun _ _ _=>rfl) (fun k e=>by cases e) ⟨by simp,rfl,rfl⟩ (.inl ⟨rfl,rfl⟩);have hlk':Qd (Am.put st.m 0 site (.vec (Qy st.m 0 site) sz [])) 0 s=.cells xs:=by
      rw[QB (.inr hne)];exact hlk
     obtain⟨b,cs,hb,hsoft,hrep⟩:=h1.mr.cells 0 s xs hlk';obtain⟨v,hv,hr⟩:=hrep.at_ hn;have hvn:v=.slice none 0 0:=by cases hr;rfl
     subst hvn;have hset:cs.toList.set idx (.slice none 0 0)=cs.toList:=by
      obtain⟨hi,he⟩:=QnW.1 hv;rw[←he,List.set_getElem_self]
     have hrep':=hrep.set idx (x:=.vec 0 site (Qy st.m 0 site) 0 0 false) (v:=.slice none 0 0) (.vec rfl (QoH (by simp[Gh.row,Gh.dn])) fun _=>.inl ⟨by simp[Gh.row,Gh.dn],rfl,rfl,none,rfl,fun _=>rfl⟩);rw[hset]at hrep';exact⟨_,⟨h1.mr.stored hlk' hb (Turned.refl b w) hsoft hrep',h1.size,h1.slots,h1.ds,h1.base,h1.top,Ww h1.ne⟩,h2⟩
   ·cases hg;exact⟨G,h,Ext.refl 1 G w⟩
   ·cases hg
  ·cases hg
 |pub slot site=>
  simp only[JE]at hg;split at hg
  ·rename_i s' g o n q hs;split at hg
   ·rename_i g' sz xs hlk;cases hb:(Nat.beq s' site&&Nat.beq g g'&&Nat.ble (o+n) xs.length)with
    |false=>rw[hb]at hg;cases hg
    |true=>
     rw[hb]at hg;simp only[cond_true,Qoo]at hg;subst hg;simp only[Qol]at hb;obtain⟨⟨b1,b2⟩,b3⟩:=hb;have e1:=QnS b1;have e2:=QnS b2;subst e1 e2;exact h.publish hs hlk (Qpr b3)
   ·cases hg
  ·cases hg;exact⟨G,h,Ext.refl 1 G w⟩
  ·cases hg
 |give slot site l S=>
  simp only[JE]at hg;split at hg
  ·rename_i s' g o n q hs;split at hg
   ·rename_i g' sz xs hlk;cases hb:(Nat.beq s' site&&Nat.beq g g'&&Nat.blt l st.m.length && !(Nat.beq l 0)&&Qo (Qd st.m l S)&&Nat.blt S 2000)with
    |false=>rw[hb]at hg;cases hg
    |true=>
     rw[hb]at hg;simp only[cond_true,Qoo]at hg;subst hg;simp only[Qol]at hb;obtain⟨⟨⟨⟨⟨b1,b2⟩,b3⟩,b4⟩,b5⟩,b6⟩:=hb;have e1:=QnS b1;have e2:=QnS b2;subst e1 e2;have b4':l≠0:=fun e=>by rw[e]at b4;simp at b4
     exact h.give hs hlk (Qpr b3) b4' b5 (Qpr b6)
   ·cases hg
  ·cases hg
 |lst slot=>
  simp only[JE]at hg;split at hg
  ·rename_i hs;cases hg;refine⟨G,⟨h.mr,h.size,Gk h.slots ?_,h.ds,h.base,h.top,h.ne⟩,Ext.refl 1 G w⟩;have hr:=h.slots slot;rw[hs]at hr;exact hr.nn0
  ·rename_i l hs;cases hg;refine⟨G,⟨h.mr,h.size,Gk h.slots ?_,h.ds,h.base,h.top,h.ne⟩,Ext.refl 1 G w⟩;have hr:=h.slots slot;rw[hs]at hr;exact hr
  ·cases hg
def RA.sl:RA→List Nat
 |.t n=>[n]
 |_=>[]
def VJ:Option RA→List Nat
 |some r=>r.sl
 |none=>[]
def VO.sl:VO→List Nat
 |.mov x=>x.sl
 |.pick c a b=>c.sl++(a.sl++b.sl)
 |.build _ ps=>ps.flatMap fun p=>p.2.2.sl
 |.load _ x=>x.sl
 |.loadv _ _ _ x=>x.sl
 |.loado _ x=>x.sl
 |.loadr _ x=>x.sl
 |.nilck x=>x.sl
 |.un _ x=>x.sl
 |.cvi _ x=>x.sl
 |.b2s x=>x.sl
 |.faddr _ x=>x.sl
 |.fld _ _ x=>x.sl
 |.ext x _=>x.sl
 |.len _ x=>x.sl
 |.bin _ _ x y=>x.sl++y.sl
 |.eqs _ _ x y=>x.sl++y.sl
 |.iaddr _ _ x y=>x.sl++y.sl
 |.idx x y=>x.sl++y.sl
 |.mnx _ x y=>x.sl++y.sl
 |.mnx3 _ x y z=>x.sl++(y.sl++z.sl)
 |.slc _ x lo hi mx=>x.sl++(VJ lo++(VJ hi++VJ mx))
 |.slcl x hi mx=>x.sl++(hi.sl++mx.sl)
 |.slcp _ x lo hi mx=>x.sl++(VJ lo++(VJ hi++VJ mx))
 |.mkfn _ a b=>a.flatMap RA.sl++b.flatMap RA.sl
 |.toU x=>x.sl
 |.ofU _ _ x=>x.sl
 |.same x=>x.sl
 |.mget _ _ x y=>x.sl++y.sl
 |.mgetp _ _ x y=>x.sl++y.sl
 |.mki _ x=>x.sl
 |.tas _ _ _ x=>x.sl
def RO.sl:RO→List Nat
 |.val v=>v.sl
 |.allocN _ _=>[]
 |.boxN _ r=>r.sl
 |.store _ p r=>p.sl++r.sl
 |.storev _ _ _ p r=>p.sl++r.sl
 |.app _ _ _ s r=>s.sl++r.sl
 |.appS _ s r=>s.sl++r.sl
 |.mk _ _ _ _ _ l c=>l.sl++c.sl
 |.s2b _ _ r=>r.sl
 |.usd r=>r.sl
 |.ustr _ p r=>p.sl++r.sl
 |.bsl _ _ _ ps=>ps.flatMap fun p=>p.2.2.sl
 |.call f rs=>f.sl++rs.flatMap RA.sl
 |.callF f rs=>f.sl++rs.flatMap RA.sl
 |.bslv _ _ _ _ ps=>ps.flatMap fun p=>p.2.2.sl
 |.bsl0 _ _=>[]
 |.isnil _ x=>x.sl
 |.appc _ _ _ _ s r=>s.sl++r.sl
 |.callG f rs=>f.sl++rs.flatMap RA.sl
 |.xb _ _ s c=>s.sl++c.sl
 |.callK _ _ f rs=>f.sl++rs.flatMap RA.sl
 |.rngs _ r=>r.sl
 |.nxts r=>r.sl
 |.mkm _=>[]
 |.mput x y z=>x.sl++(y.sl++z.sl)
def Item.sl (it:Item):List Nat:=it.op.sl++(match it.g with|some (j,_)=>[j]|none=>[])
def Jw (l:List Nat)(f f':Fr):Prop:=∀t,t∈l→f t=f' t
theorem Jw.left {a b:List Nat}{f f':Fr}(h:Jw (a++b) f f'):Jw a f f':=fun t ht=>h t (List.mem_append_left _ ht)
theorem Jw.right {a b:List Nat}{f f':Fr}(h:Jw (a++b) f f'):Jw b f f':=fun t ht=>h t (List.mem_append_right _ ht)
theorem RA.ev_same {r:RA}{f f':Fr}(h:Jw r.sl f f'):r.ev f=r.ev f':=by
 cases r with
 |t n=>exact h n (by simp[RA.sl])
 |c x=>rfl
 |f k=>rfl
 |g k l=>rfl
theorem Ya:∀ {rs:List RA} {f f':Fr},Jw (rs.flatMap RA.sl) f f'→rs.map (RA.ev f)=rs.map (RA.ev f')
 | [],_,_,_=>rfl
 |r :: rs,f,f',h=>by
  rw[Qps]at h;rw[Qov,Qov,RA.ev_same h.left,Ya h.right]
theorem UA {f f':Fr}:∀ {ps:List (Nat×Nat×RA)} {z:List AV},Jw (ps.flatMap fun p=>p.2.2.sl) f f'→fill f ps z=fill f' ps z
 | [],_,_=>rfl
 |(o,n,r) :: ps,z,h=>by
  rw[Qps]at h;simp only[fill,RA.ev_same h.left,UA h.right]
theorem Yb {f f':Fr}{d:Nat}{r:Option RA}(h:Jw (VJ r) f f'):Jl f d r=Jl f' d r:=by
 cases r with
 |none=>rfl
 |some r=>simp only[Jl,RA.ev_same (r:=r) h]
theorem EC {f f':Fr}{m:Qj}{vo:VO}(h:Jw vo.sl f f'):Qw f m vo=Qw f' m vo:=by
 cases vo with
 |mov x=>simp only[Qw,RA.ev_same (r:=x) h]
 |pick c a b=>simp only[Qw,RA.ev_same (r:=c) h.left,RA.ev_same (r:=a) h.right.left,RA.ev_same (r:=b) h.right.right]
 |build z ps=>simp only[Qw,UA (ps:=ps) h]
 |load k x=>simp only[Qw,RA.ev_same (r:=x) h]
 |loadv l s k x=>simp only[Qw,RA.ev_same (r:=x) h]
 |loado k x=>simp only[Qw,RA.ev_same (r:=x) h]
 |loadr k x=>simp only[Qw,RA.ev_same (r:=x) h]
 |nilck x=>simp only[Qw,RA.ev_same (r:=x) h]
 |un o x=>simp only[Qw,RA.ev_same (r:=x) h]
 |cvi k x=>simp only[Qw,RA.ev_same (r:=x) h]
 |b2s x=>simp only[Qw,RA.ev_same (r:=x) h]
 |faddr o x=>simp only[Qw,RA.ev_same (r:=x) h]
 |fld o k x=>simp only[Qw,RA.ev_same (r:=x) h]
 |ext x i=>simp only[Qw,RA.ev_same (r:=x) h]
 |toU x=>simp only[Qw,RA.ev_same (r:=x) h]
 |ofU t n x=>simp only[Qw,RA.ev_same (r:=x) h]
 |same x=>simp only[Qw,RA.ev_same (r:=x) h]
 |len k x=>simp only[Qw,RA.ev_same (r:=x) h]
 |bin t o x y=>simp only[Qw,RA.ev_same (r:=x) h.left,RA.ev_same (r:=y) h.right]
 |eqs n ks x y=>simp only[Qw,RA.ev_same (r:=x) h.left,RA.ev_same (r:=y) h.right]
 |iaddr sz len x y=>simp only[Qw,RA.ev_same (r:=x) h.left,RA.ev_same (r:=y) h.right]
 |idx x y=>simp only[Qw,RA.ev_same (r:=x) h.left,RA.ev_same (r:=y) h.right]
 |mget ok z x y=>simp only[Qw,RA.ev_same (r:=x) h.left,RA.ev_same (r:=y) h.right]
 |mgetp ok z x y=>simp only[Qw,RA.ev_same (r:=x) h.left,RA.ev_same (r:=y) h.right]
 |mki t x=>simp only[Qw,RA.ev_same (r:=x) h]
 |tas t ok z x=>simp only[Qw,RA.ev_same (r:=x) h]
 |mnx b x y=>simp only[Qw,RA.ev_same (r:=x) h.left,RA.ev_same (r:=y) h.right]
 |mnx3 b x y z=>simp only[Qw,RA.ev_same (r:=x) h.left,RA.ev_same (r:=y) h.right.left,RA.ev_same (r:=z) h.right.right]
 |slc sz x lo hi mx=>
  have h1:=h.right.left;have h2:=h.right.right.left;have h3:=h.right.right.right;simp only[Qw,RA.ev_same (r:=x) h.left,Yb (r:=lo) h1,Yb (r:=hi) h2];cases mx with
  |none=>rfl
  |some r=>simp only[Yb (r:=some r) h3]
 |slcp sz x lo hi mx=>
  have h1:=h.right.left;have h2:=h.right.right.left;have h3:=h.right.right.right;simp only[Qw,RA.ev_same (r:=x) h.left,Yb (r:=lo) h1,Yb (r:=hi) h2];cases mx with
  |none=>rfl
  |some r=>simp only[Yb (r:=some r) h3]
 |mkfn fn a b=>simp only[Qw,Ya (rs:=a) h.left,Ya (rs:=b) h.right]
 |slcl x hi mx=>simp only[Qw,RA.ev_same (r:=x) h.left,RA.ev_same (r:=hi) h.right.left,RA.ev_same (r:=mx) h.right.right]
inductive MC where
 |no
 |shape
 |rows
 |cell (l s:Nat)
 |outer
 |all
 deriving DecidableEq
def VO.mc:VO→MC
 |.load _ _=>.all
 |.loadv l s _ _=>.cell l s
 |.loado _ _=>.outer
 |.loadr _ _=>.rows
 |.b2s _=>.rows
 |.nilck _=>.shape
 |.faddr _ _=>.shape
 |.len _ _=>.shape
 |.slc .. => .shape
 |.iaddr .. => .shape
 |.toU _=>.all
 |.ofU .. => .all
 |.mget .. => .all
 |_=>.no
def Ob.sh:Ob→Option (Nat×Nat)
 |.vec g z _=>some (g,z)
 |_=>Option.none
def Ob.row:Ob→Option (Nat×Nat×List AV)
 |.vec g z xs=>some (g,z,xs)
 |_=>Option.none
def X7:MC→Qj→Qj→Prop
 |.no,_,_=>True
 |.shape,m,m'=>∀l s,(Qd m l s).sh=(Qd m' l s).sh
 |.rows,m,m'=>∀l s,(Qd m l s).row=(Qd m' l s).row
 |.cell l s,m,m'=>Qd m l s=Qd m' l s∨((Qd m l s).isRow=true∧(Qd m' l s).isRow=true)
 |.outer,m,m'=>∀l s,Qd m (l+1) s=Qd m' (l+1) s
 |.all,m,m'=>m=m'
theorem X7.refl (c:MC)(m:Qj):X7 c m m:=by
 cases c<;>simp[X7]
theorem Gl {m m':Qj}{l s:Nat}(h:(Qd m l s).sh=(Qd m' l s).sh):YG m l s=YG m' l s:=by
 unfold YG;cases h1:Qd m l s<;>cases h2:Qd m' l s<;>rw[h1,h2]at h<;>simp_all[Ob.sh]
theorem RB {m m':Qj}(h:X7 .rows m m')(x:AV):Xi m x=Xi m' x:=by
 cases x with
 |vec l s g o n q=>
  have h:=h l s;simp only[Xi];cases h1:Qd m l s<;>cases h2:Qd m' l s<;>rw[h1,h2]at h<;>simp_all[Ob.row]
 |_=>rfl
theorem VK {m m':Qj}(h:X7 .shape m m')(sz:Option Nat)(x:AV)(lo hi:Nat)(mx:Option Nat):Xm m sz x lo hi mx=Xm m' sz x lo hi mx:=by
 cases sz with
 |none=>rfl
 |some z=>
  cases x with
  |vec l s g o n q=>
   have h:=h l s;simp only[Xm];cases h1:Qd m l s<;>cases h2:Qd m' l s<;>rw[h1,h2]at h<;>simp_all[Ob.sh]
  |_=>rfl
theorem VL {m m':Qj}(h:X7 .shape m m')(sz:Nat)(len:Option Nat)(x:AV)(i:Int):Qf m sz len x i=Qf m' sz len x i:=by
 unfold Qf;cases len with
 |none=>
  cases x with
  |vec l s g o n q=>
   have h:=h l s;simp only;cases h1:Qd m l s<;>cases h2:Qd m' l s<;>rw[h1,h2]at h<;>simp_all[Ob.sh]
  |_=>rfl
 |some k=>rfl
def ED (F:Nat→List AV→Option AV):Ob→Option AV
 |.vec g _ xs=>F g xs
 |_=>none
theorem SZ {o o':Ob}(h:o.row=o'.row)(F:Nat→List AV→Option AV):ED F o=ED F o':=by
  cases o<;>cases o'<;>simp only[Ob.row,Qoo,Qpt,reduceCtorEq]at h<;>first
    |rfl
    | (obtain⟨rfl,_,rfl⟩:=h
       rfl)
theorem FK (m:Qj)(k:Option Nat)(l s g i o:Nat):Xt m k (.vptr l s g i o)=ED (fun g' xs=>if g=g' then match xs[i]? with
  |some e=>part e.cells o k
  |none=>none
 else none) (Qd m l s):=by
 simp only[Xt];cases Qd m l s<;>rfl
theorem Qbe {f:Fr}{m m':Qj}{vo:VO}(h:X7 vo.mc m m'):Qw f m vo=Qw f m' vo:=by
 cases vo<;>simp only[VO.mc]at h<;>try rfl
 case load k x=>have h:m=m':=h;subst h;rfl
 case toU x=>have h:m=m':=h;subst h;rfl
 case ofU t n x=>have h:m=m':=h;subst h;rfl
 case mget ok z x i=>have h:m=m':=h;subst h;rfl
 case loado k x=>
  have h:∀l s,Qd m (l+1) s=Qd m' (l+1) s:=h;simp only[Qw];split
  ·simp only[Xt,h]
  ·rfl
 case loadv l s k x=>
  have h:Qd m l s=Qd m' l s∨((Qd m l s).isRow=true∧(Qd m' l s).isRow=true):=h;simp only[Qw];split
  ·split
   ·rename_i hh;obtain⟨rfl,rfl⟩:=hh;rcases h with h|⟨h1,h2⟩
    ·simp only[Xt,h]
    ·simp only[Xt];cases e1:Qd m _ _<;>cases e2:Qd m' _ _<;>rw[e1]at h1<;>rw[e2]at h2<;>first|rfl|(simp[Ob.isRow]at h1;done)|(simp[Ob.isRow]at h2;done)
   ·rfl
  ·rfl
 case b2s x=>simp only[Qw,RB h]
 case loadr k x=>
  simp only[Qw];split
  ·rfl
  ·rename_i l s g i o e;have h4:(Qd m l s).row=(Qd m' l s).row:=h l s;rw[FK,FK,SZ h4]
  ·rfl
 case nilck x=>simp only[Qw,fun l s=>Gl (h l s)]
 case faddr o x=>simp only[Qw,fun l s=>Gl (h l s)]
 case len k x=>simp only[Qw,fun l s=>Gl (h l s)]
 case slc sz x lo hi mx=>simp only[Qw,VK h]
 case iaddr sz len x i=>simp only[Qw,VL h]
mutual
theorem FL {m m':Qj}(h:X7 .rows m m'):∀x:AV,x.still false m=x.still false m'
 |.vec l s g o n q=>by
   have h:=h l s;simp only[AV.still];cases h1:Qd m l s<;>cases h2:Qd m' l s<;>rw[h1,h2]at h<;>simp_all[Ob.row]
 |.agg l=>by simp only[AV.still,Yr h l]
 |.tup l=>by simp only[AV.still,Yr h l]
 |.iface t x=>by simp only[AV.still,FL h x]
 |.top|.int .. | .bool _|.str _|.nils|.nilp|.nilf|.nili|.nilm|.anyp|.list _|.lcap _|.fn .. | .ptr .. | .vptr .. | .rptr _|.mp .. => rfl
 |.mptr l s=>by simp only[AV.still,Qpu,Qog,if_false]
theorem Yr {m m':Qj}(h:X7 .rows m m'):∀l:List AV,AV.stillL false m l=AV.stillL false m' l
 | []=>rfl
 |x :: l=>by simp only[AV.stillL,FL h x,Yr h l]
end
def RO.pure:RO→Bool
 |.val _=>true
 |.bsl .. => true
 |.call _ _=>true
 |.usd _=>true
 |_=>false
def RO.mc:RO→MC
 |.val v=>v.mc
 |.call _ _=>.rows
 |.usd _=>.rows
 |.bsl .. => .no
 |_=>.all
section
variable {P:Program}
def RD (P:Program)(op:RO)(st:St)(x:AV):Prop :=
 match op with
 |.val vo=>Qw st.f st.m vo=some x
 |.call f args=>∃k fa fb ys,f.ev st.f=.fn (.func k) fa fb∧AV.stillL false st.m (fa++args.map (RA.ev st.f)++fb)=some ys∧AV.rfL ys=true∧Qg P k ys x∧x.rf=true∧(AV.rfL (fa++args.map (RA.ev st.f)++fb)=true∨x.nl=true)
 |_=>False
def ZC (P:Program)(op:RO)(st:St)(x:AV)(m:Qj):Prop :=
 match op with
 |.val vo=>Qw st.f st.m vo=some x∧m=st.m
 |.call f args=>RD P (.call f args) st x∧m=st.m
 |.allocN s z=>Zu st.m s=true∧x=.ptr 0 s 0∧m=Am.put st.m 0 s (.cells z)
 |.boxN s r=>Zu st.m s=true∧(r.ev st.f).cells.all AV.leaf=true∧x=.ptr 0 s 0∧m=Am.put st.m 0 s (.cells (r.ev st.f).cells)
 |.store n p r=>(r.ev st.f).cells.length=n∧(r.ev st.f).cells.all AV.leaf=true∧Xn st.m (p.ev st.f) (r.ev st.f).cells=some m∧x=.tup []
 |.storev l s n p r=>(∃o,p.ev st.f=.ptr l s o)∧(r.ev st.f).cells.length=n∧(r.ev st.f).cells.all AV.leaf=true∧Xn st.m (p.ev st.f) (r.ev st.f).cells=some m∧x=.tup []
 |.app sz bytes el s r=>∃l site g n xs ys,s.ev st.f=.vec l site g 0 n false∧Qd st.m l site=.vec g sz xs∧Zn site el=true∧n≤xs.length∧Xi st.m (r.ev st.f)=some ys∧ys.all (fun e=>e.cells.length==sz)=true∧n+ys.length≤maxLen∧(n+ys.length)*bytes≤140737488355328∧
   x=.vec l site (g+1) 0 (n+ys.length) false∧m=Am.put st.m l site (.vec (g+1) sz (xs.take n++ys))
 |.bsl sz len z ps=>(∃y,fill st.f ps (X5 z sz len)=some y∧AV.rfL y=true∧y.all AV.leaf=true∧x=.list (Zt sz len (y.map nn0)))∧m=st.m
 |.bslv site sz len z ps=>∃y,fill st.f ps (X5 z sz len)=some y∧AV.rfL y=true∧y.all AV.leaf=true∧Qo (Qd st.m 0 site)=true∧x=.vec 0 site (Qy st.m 0 site) 0 len false∧m=Am.put st.m 0 site (.vec (Qy st.m 0 site) sz (Zt sz len (y.map nn0)))
 |.bsl0 site sz=>Qo (Qd st.m 0 site)=true∧x=.vec 0 site (Qy st.m 0 site) 0 0 false∧m=Am.put st.m 0 site (.vec (Qy st.m 0 site) sz [])
 |.appc site sz bytes _ s r=>∃xs ys,s.ev st.f=.lcap xs∧Xi st.m (r.ev st.f)=some ys∧ys≠[]∧xs.all (fun e=>e.cells.length==sz)=true∧ys.all (fun e=>e.cells.length==sz)=true∧xs.length+ys.length≤maxLen∧(xs.length+ys.length)*bytes≤140737488355328∧Qo (Qd st.m 0 site)=true∧
   x=.vec 0 site (Qy st.m 0 site) 0 (xs.length+ys.length) false∧m=Am.put st.m 0 site (.vec (Qy st.m 0 site) sz (xs++ys))
 |.callF f args=>∃k fa fb,f.ev st.f=.fn (.func k) fa fb∧Qe P k (fa++args.map (RA.ev st.f)++fb) st.m (fun y m'=>y=x∧m'=m)
 |.callK l s f args=>∃k fa fb,f.ev st.f=.fn (.func k) fa fb∧Qe P k (fa++args.map (RA.ev st.f)++fb) st.m (fun y m'=>y=x∧m'=m)∧Qd m l s=Qd st.m l s
 |.usd r=>(∃l s g n sz xs,2000≤s∧r.ev st.f=.vec l s g 0 n false∧Qd st.m l s=.vec g sz xs∧x=(if n=0 then .anyp else .vptr l s g 0 0))∧m=st.m
 |.ustr el p r=>(p.ev st.f=.anyp∧r.ev st.f=.int .i64 0∧x=.str []∧m=st.m)∨
   ∃l g n xs s,p.ev st.f=.vptr l (el+2000) g 0 0∧r.ev st.f=.int .i64 ((n:Nat):Int)∧Qd st.m l (el+2000)=.vec g 1 xs∧n≤xs.length∧n≠0∧xs.take n=Qu s∧x=.str s∧m=Am.put st.m l (el+2000) (.vec (g+1) 1 [])
 |_=>False
def RO.keeps:RO→Bool
 |.appS .. => false
 |.mk .. => false
 |.s2b .. => false
 |.isnil .. => false
 |.callG .. => false
 |.xb .. => false
 |.rngs .. => false
 |.nxts .. => false
 |.mkm .. => false
 |.mput .. => false
 |_=>true
theorem VM {d:Option Nat}{op:RO}{st:St}{K:St→Prop}(hk:op.keeps=true):H7 P d op st K↔∃x m,ZC P op st x m∧K { st with m:=m,f:=Ql st.f d x }:=by
 cases op<;>simp only[RO.keeps,Qog]at hk<;>simp only[H7,ZC,RD]
 case val=>exact⟨fun⟨x,h,k⟩=>⟨x,_,⟨h,rfl⟩,k⟩,fun⟨x,m,⟨h,e⟩,k⟩=>by subst e;exact⟨x,h,k⟩⟩
 case allocN=>exact⟨fun⟨h,k⟩=>⟨_,_,⟨h,rfl,rfl⟩,k⟩,fun⟨x,m,⟨h,e,e'⟩,k⟩=>by subst e e';exact⟨h,k⟩⟩
 case boxN=>exact⟨fun⟨h,h',k⟩=>⟨_,_,⟨h,h',rfl,rfl⟩,k⟩,fun⟨x,m,⟨h,h',e,e'⟩,k⟩=>by subst e e';exact⟨h,h',k⟩⟩
 case store=>exact⟨fun⟨h1,h2,m',h3,k⟩=>⟨_,m',⟨h1,h2,h3,rfl⟩,k⟩,fun⟨x,m,⟨h1,h2,h3,e⟩,k⟩=>by subst e;exact⟨h1,h2,m,h3,k⟩⟩
 case storev=>exact⟨fun⟨h0,h1,h2,m',h3,k⟩=>⟨_,m',⟨h0,h1,h2,h3,rfl⟩,k⟩,fun⟨x,m,⟨h0,h1,h2,h3,e⟩,k⟩=>by subst e;exact⟨h0,h1,h2,m,h3,k⟩⟩
 case app=>exact⟨fun⟨l,site,g,n,xs,ys,h1,h2,ht,h3,h4,h5,h6,h7,k⟩=>⟨_,_,⟨l,site,g,n,xs,ys,h1,h2,ht,h3,h4,h5,h6,h7,rfl,rfl⟩,k⟩,fun⟨x,m,⟨l,site,g,n,xs,ys,h1,h2,ht,h3,h4,h5,h6,h7,e,e'⟩,k⟩=>by subst e e';exact⟨l,site,g,n,xs,ys,h1,h2,ht,h3,h4,h5,h6,h7,k⟩⟩
 case call=>exact⟨fun⟨k,fa,fb,ys,v,h1,h2,h3,h4,h5,h6,kk⟩=>⟨v,_,⟨⟨k,fa,fb,ys,h1,h2,h3,h4,h5,h6⟩,rfl⟩,kk⟩,fun⟨x,m,⟨⟨k,fa,fb,ys,h1,h2,h3,h4,h5,h6⟩,e⟩,kk⟩=>by subst e;exact⟨k,fa,fb,ys,x,h1,h2,h3,h4,h5,h6,kk⟩⟩
 case usd=>exact⟨fun⟨l,s,g,n,sz,xs,h0,h1,h2,k⟩=>⟨_,_,⟨⟨l,s,g,n,sz,xs,h0,h1,h2,rfl⟩,rfl⟩,k⟩,fun⟨x,m,⟨⟨l,s,g,n,sz,xs,h0,h1,h2,e⟩,e'⟩,k⟩=>by subst e e';exact⟨l,s,g,n,sz,xs,h0,h1,h2,k⟩⟩
 case ustr=>
  constructor
  ·rintro(⟨h1,h2,k⟩|⟨l,g,n,xs,s,h1,h2,h3,h4,h5,h6,k⟩)
   ·exact⟨_,_,.inl ⟨h1,h2,rfl,rfl⟩,k⟩
   ·exact⟨_,_,.inr ⟨l,g,n,xs,s,h1,h2,h3,h4,h5,h6,rfl,rfl⟩,k⟩
  ·rintro⟨x,m,⟨h1,h2,e,e'⟩|⟨l,g,n,xs,s,h1,h2,h3,h4,h5,h6,e,e'⟩,k⟩
   ·subst e e';exact .inl ⟨h1,h2,k⟩
   ·subst e e';exact .inr ⟨l,g,n,xs,s,h1,h2,h3,h4,h5,h6,k⟩
 case bsl=>exact⟨fun⟨y,h1,h2,h3,k⟩=>⟨_,_,⟨⟨y,h1,h2,h3,rfl⟩,rfl⟩,k⟩,fun⟨x,m,⟨⟨y,h1,h2,h3,e⟩,e'⟩,k⟩=>by subst e e';exact⟨y,h1,h2,h3,k⟩⟩
 case bslv=>exact⟨fun⟨y,h1,h2,h3,h4,k⟩=>⟨_,_,⟨y,h1,h2,h3,h4,rfl,rfl⟩,k⟩,fun⟨x,m,⟨y,h1,h2,h3,h4,e,e'⟩,k⟩=>by subst e e';exact⟨y,h1,h2,h3,h4,k⟩⟩
 case bsl0=>exact⟨fun⟨h1,k⟩=>⟨_,_,⟨h1,rfl,rfl⟩,k⟩,fun⟨x,m,⟨h1,e,e'⟩,k⟩=>by subst e e';exact⟨h1,k⟩⟩
 case appc=>exact⟨fun⟨xs,ys,h1,h2,h3,h4,h5,h6,h7,h8,k⟩=>⟨_,_,⟨xs,ys,h1,h2,h3,h4,h5,h6,h7,h8,rfl,rfl⟩,k⟩,fun⟨x,m,⟨xs,ys,h1,h2,h3,h4,h5,h6,h7,h8,e,e'⟩,k⟩=>by subst e e';exact⟨xs,ys,h1,h2,h3,h4,h5,h6,h7,h8,k⟩⟩
 case callK=>exact⟨fun⟨k,fa,fb,v,m',h1,h2,h3,kk⟩=>⟨v,m',⟨k,fa,fb,h1,h2,h3⟩,kk⟩,fun⟨x,m,⟨k,fa,fb,h1,h2,h3⟩,kk⟩=>⟨k,fa,fb,x,m,h1,h2,h3,kk⟩⟩
 case callF=>exact⟨fun⟨k,fa,fb,v,m',h1,h2,kk⟩=>⟨v,m',⟨k,fa,fb,h1,h2⟩,kk⟩,fun⟨x,m,⟨k,fa,fb,h1,h2⟩,kk⟩=>⟨k,fa,fb,x,m,h1,h2,kk⟩⟩
def Jm (P:Program)(it:Item)(st:St)(x:AV)(m:Qj):Prop :=
 match it.g with
 |none=>ZC P it.op st x m
 |some (j,want)=>match st.f j with
  |.bool b=>(b=want∧ZC P it.op st x m)∨(b=(!want)∧x=.tup []∧m=st.m)
  |.tup l=>l=[]∧x=.tup []∧m=st.m
  |_=>False
theorem KP {it:Item}{st:St}{K:St→Prop}(hk:it.op.keeps=true):ZM P it st K↔∃x m,Jm P it st x m∧K { st with m:=m,f:=Ql st.f it.dst x }:=by
 obtain⟨d,op,g⟩:=it;cases g with
 |none=>exact VM hk
 |some p=>
  obtain⟨j,want⟩:=p;simp only[ZM,Jm];cases hj:st.f j with
  |bool b=>
   simp only;rw[VM hk]
   constructor
   ·intro⟨h1,h2⟩;by_cases hb:b=want
    ·obtain⟨x,m,h,k⟩:=h1 hb;exact⟨x,m,.inl ⟨hb,h⟩,k⟩
    ·have hb':b=!want:=by cases b<;>cases want<;>first|rfl|exact absurd rfl hb
     exact⟨_,_,.inr ⟨hb',rfl,rfl⟩,h2 hb'⟩
   ·rintro⟨x,m,⟨hb,h⟩|⟨hb,rfl,rfl⟩,k⟩
    ·exact⟨fun _=>⟨x,m,h,k⟩,fun e=>by rw[hb]at e;cases want<;>cases e⟩
    ·exact⟨fun e=>(by rw[hb]at e;cases want<;>cases e),fun _=>k⟩
  |tup l=>
   constructor
   ·rintro⟨h,k⟩;exact⟨_,_,⟨h,rfl,rfl⟩,k⟩
   ·rintro⟨x,m,⟨h,rfl,rfl⟩,k⟩;exact⟨h,k⟩
  |_=>exact⟨fun h=>h.elim,fun⟨_,_,h,_⟩=>h.elim⟩
theorem FM {op:RO}{f f':Fr}{m m':Qj}{ds ds':List DF}{x:AV}(h:Jw op.sl f f')(k:ZC P op ⟨f,m,ds⟩ x m'):ZC P op ⟨f',m,ds'⟩ x m':=by
 cases op with
 |val vo=>simp only[ZC,EC (vo:=vo) h]at k ⊢;exact k
 |call g args=>simp only[ZC,RD,RA.ev_same (r:=g) h.left,Ya (rs:=args) h.right]at k ⊢;exact k
 |callK l s g args=>simp only[ZC,RA.ev_same (r:=g) h.left,Ya (rs:=args) h.right]at k ⊢;exact k
 |callF g args=>simp only[ZC,RA.ev_same (r:=g) h.left,Ya (rs:=args) h.right]at k ⊢;exact k
 |allocN s z=>exact k
 |boxN s r=>simp only[ZC,RA.ev_same (r:=r) h]at k ⊢;exact k
 |store n p r=>simp only[ZC,RA.ev_same (r:=p) h.left,RA.ev_same (r:=r) h.right]at k ⊢;exact k
 |storev l s n p r=>simp only[ZC,RA.ev_same (r:=p) h.left,RA.ev_same (r:=r) h.right]at k ⊢;exact k
 |usd r=>simp only[ZC,RA.ev_same (r:=r) h]at k ⊢;exact k
 |ustr el p r=>simp only[ZC,RA.ev_same (r:=p) h.left,RA.ev_same (r:=r) h.right]at k ⊢;exact k
 |app sz bytes el s r=>simp only[ZC,RA.ev_same (r:=s) h.left,RA.ev_same (r:=r) h.right]at k ⊢;exact k
 |appc site sz bytes el s r=>simp only[ZC,RA.ev_same (r:=s) h.left,RA.ev_same (r:=r) h.right]at k ⊢;exact k
 |bsl sz len z ps=>simp only[ZC,UA (ps:=ps) h]at k ⊢;exact k
 |bslv site sz len z ps=>simp only[ZC,UA (ps:=ps) h]at k ⊢;exact k
 |bsl0 site sz=>exact k
 |_=>exact k.elim
theorem YP {it:Item}{f f':Fr}{m m':Qj}{ds ds':List DF}{x:AV}(h:Jw it.sl f f')(k:Jm P it ⟨f,m,ds⟩ x m'):Jm P it ⟨f',m,ds'⟩ x m':=by
 obtain⟨d,op,g⟩:=it;cases g with
 |none=>exact FM (Jw.left h) k
 |some p=>
  obtain⟨j,want⟩:=p;have hj:f j=f' j:=(Jw.right h) j (by simp);simp only[Jm]at k ⊢;rw[←hj];cases he:f j with
  |bool b=>rw[he]at k;exact k.imp (fun h1=>⟨h1.1,FM (Jw.left h) h1.2⟩) id
  |tup l=>rw[he]at k;exact k
  |_=>rw[he]at k;exact k
theorem VN {op:RO}(hp:op.pure=true){f:Fr}{m m' m1:Qj}{ds ds':List DF}{x:AV}(h:X7 op.mc m m')(k:ZC P op ⟨f,m,ds⟩ x m1):m1=m∧ZC P op ⟨f,m',ds'⟩ x m':=by
 cases op with
 |bsl sz len z ps=>obtain⟨k,e⟩:=k;exact⟨e,k,rfl⟩
 |val vo=>obtain⟨k,e⟩:=k;exact⟨e,by rw[←Qbe (f:=f) h];exact k,rfl⟩
 |call g args=>
  obtain⟨⟨k,fa,fb,ys,h1,h2,h3,h4,h5,h6⟩,e⟩:=k;refine⟨e,⟨k,fa,fb,ys,h1,?_,h3,h4,h5,h6⟩,rfl⟩;rw[←Yr h];exact h2
 |usd r=>
  obtain⟨⟨l,s,g,n,sz,xs,h0,h1,h2,h3⟩,e⟩:=k;refine⟨e,⟨l,s,g,n,sz,xs,h0,h1,?_,h3⟩,rfl⟩;have h4:(Qd m l s).row=(Qd m' l s).row:=h l s;have h2:Qd m l s=.vec g sz xs:=h2;show Qd m' l s=.vec g sz xs;rw[h2]at h4;cases hl:Qd m' l s with
  |vec g' sz' xs'=>rw[hl]at h4;simp only[Ob.row,Qoo,Qpt]at h4;obtain⟨rfl,rfl,rfl⟩:=h4;rfl
  |none=>rw[hl]at h4;cases h4
  |cells _=>rw[hl]at h4;cases h4
  |iter _ _=>rw[hl]at h4;cases h4
 |_=>cases hp
theorem Gm {it:Item}(hp:it.op.pure=true){f:Fr}{m m' m1:Qj}{ds ds':List DF}{x:AV}(h:X7 it.op.mc m m')(k:Jm P it ⟨f,m,ds⟩ x m1):m1=m∧Jm P it ⟨f,m',ds'⟩ x m':=by
 obtain⟨d,op,g⟩:=it;cases g with
 |none=>exact VN hp h k
 |some p=>
  obtain⟨j,want⟩:=p;simp only[Jm]at k ⊢;cases he:f j with
  |bool b=>
   rw[he]at k;rcases k with⟨h1,k⟩|⟨h1,h2,h3⟩
   ·obtain⟨a,b⟩:=VN hp h k;exact⟨a,.inl ⟨h1,b⟩⟩
   ·exact⟨h3,.inr ⟨h1,h2,trivial⟩⟩
  |tup l=>rw[he]at k;exact⟨k.2.2,k.1,k.2.1,trivial⟩
  |_=>rw[he]at k;exact k.elim
def RO.lets (op:RO)(c:MC):Bool :=
 match op with
 |.val _=>true
 |.call _ _=>true
 |.store .. => c == .no||c == .shape
 |.storev l s _ _ _=>match c with
  |.cell l' s'=>l' != l||s' != s
  |.outer=>l==0
  |.all=>false
  |_=>true
 |.allocN s _=>match c with
  |.cell l' s'=>l' != 0||s' != s
  |.all=>false
  |_=>true
 |.boxN s _=>match c with
  |.cell l' s'=>l' != 0||s' != s
  |.all=>false
  |_=>true
 |.app .. => match c with
  |.no=>true
  |.cell _ _=>true
  |_=>false
 |.bsl .. => true
 |.bslv s _ _ _ _=>match c with
  |.no=>true
  |.cell l' s'=>l' != 0||s' != s
  |.outer=>true
  |_=>false
 |.bsl0 s _=>match c with
  |.no=>true
  |.cell l' s'=>l' != 0||s' != s
  |.outer=>true
  |_=>false
 |.appc s _ _ _ _ _=>match c with
  |.no=>true
  |.cell l' s'=>l' != 0||s' != s
  |.outer=>true
  |_=>false
 |.callF .. => c == .no
 |.callK l s _ _=>match c with
  |.no=>true
  |.cell l' s'=>l'==l&&s'==s
  |_=>false
 |.usd _=>true
 |.ustr .. => c == .no
 |_=>false
theorem UW {m:Qj}{l s:Nat}{o o':Ob}(hl:Qd m l s=o)(ho:o.row=none)(ho':o'.row=none)(hlt:l<m.length){c:MC}(hc:match c with
  |.cell l' s'=>(l' != l||s' != s)=true
  |.outer=>(l==0)=true
  |.all=>False
  |_=>True):X7 c m (Am.put m l s o'):=by
 have key:∀l' s',(l'=l∧s'=s)∨Qd (Am.put m l s o') l' s'=Qd m l' s':=by
  intro l' s';by_cases hh:l'=l∧s'=s
  ·exact .inl hh
  ·exact .inr (QB (by omega))
 have hsh:∀ {x:Ob},x.row=none→x.sh=none:=by intro x;cases x<;>simp[Ob.row,Ob.sh]
 cases c with
 |no=>trivial
 |shape=>
  intro l' s';rcases key l' s' with⟨rfl,rfl⟩|e
  ·rw[Qq hlt,hl,hsh ho,hsh ho']
  ·rw[e]
 |rows=>
  intro l' s';rcases key l' s' with⟨rfl,rfl⟩|e
  ·rw[Qq hlt,hl,ho,ho']
  ·rw[e]
 |cell l' s'=>
  show Qd m l' s'=Qd _ l' s'∨_;rcases key l' s' with⟨rfl,rfl⟩|e
  ·simp at hc
  ·exact .inl e.symm
 |outer=>
  intro l' s';have hc:l=0:=by simpa using hc
  exact(QB (by omega)).symm
 |all=>exact hc.elim
theorem S0 {m:Qj}{s:Nat}(h:Zu m s=true):Qd m 0 s=.none:=by
 unfold Zu at h;split at h
 ·assumption
 ·cases h
end
theorem X7.symm {c:MC}{m m':Qj}(h:X7 c m m'):X7 c m' m:=by
 cases c with
 |no=>trivial
 |shape=>exact fun l s=>(h l s).symm
 |rows=>exact fun l s=>(h l s).symm
 |cell l s=>exact Or.imp Eq.symm And.symm h
 |outer=>exact fun l s=>(h l s).symm
 |all=>exact Eq.symm h
theorem VP {m m':Qj}{p:AV}{ys:List AV}(h:Xn m p ys=some m'):X7 .shape m m':=by
 cases p with
 |ptr l s o=>
  simp only[Xn]at h;split at h
  ·rename_i xs hlk;split at h
   ·split at h
    ·cases h;exact UW (c:=.shape) hlk rfl rfl (Xj (by rw[hlk];simp)) trivial
    ·cases h
   ·cases h
  ·cases h
 |vptr l s g i o=>
  simp only[Xn]at h;split at h
  ·rename_i g' sz xs hlk;split at h
   ·rename_i hg;subst hg;split at h
    ·split at h
     ·cases h;intro l' s';by_cases hh:l'=l∧s'=s
      ·obtain⟨rfl,rfl⟩:=hh;rw[Qq (Xj (by rw[hlk];simp)),hlk];rfl
      ·rw[QB (by omega)]
     ·cases h
    ·cases h
   ·cases h
  ·cases h
 |_=>simp[Xn]at h
section
variable {P:Program}{N:Nat}
theorem VQ {m:Qj}{s:Nat}{xs:List AV}(h:Zu m s=true){c:MC}(hc:match c with
  |.cell l' s'=>(l' != 0||s' != s)=true
  |.all=>False
  |_=>True):X7 c m (Am.put m 0 s (.cells xs)):=by
 cases m with
 |nil=>exact X7.refl c _
 |cons fr m=>exact UW (S0 h) rfl rfl (by simp) (by cases c<;>first|exact hc|rfl)
theorem FN {op:RO}{c:MC}(hc:op.lets c=true){st:St}{x:AV}{m:Qj}(h:ZC P op st x m):X7 c st.m m:=by
 cases op with
 |val vo=>rw[h.2];exact X7.refl c _
 |call f args=>rw[h.2];exact X7.refl c _
 |usd r=>rw[h.2];exact X7.refl c _
 |callK l s f args=>
  obtain⟨_,_,_,_,_,he⟩:=h;cases c with
  |no=>trivial
  |cell l' s'=>
   simp only[RO.lets,Qol,Qn2]at hc;obtain⟨rfl,rfl⟩:=hc;exact .inl he.symm
  |_=>simp[RO.lets]at hc
 |ustr el p r=>
  simp only[RO.lets,Qn2]at hc;subst hc;trivial
 |store n p r=>
  simp only[RO.lets,Qn0,Qn2]at hc;rcases hc with rfl|rfl
  ·trivial
  ·exact VP h.2.2.1
 |storev l s n p r=>
  obtain⟨⟨o,ho⟩,h1,h2,h3,h4⟩:=h;rw[ho]at h3;simp only[Xn]at h3;split at h3
  ·rename_i xs hlk;split at h3
   ·split at h3
    ·cases h3;refine UW hlk rfl rfl (Xj (by rw[hlk];simp)) ?_;cases c<;>first|trivial|exact hc|cases hc
    ·cases h3
   ·cases h3
  ·cases h3
 |allocN s z=>
  rw[h.2.2];refine VQ h.1 ?_;cases c<;>first|trivial|exact hc|cases hc
 |boxN s r=>
  rw[h.2.2.2];refine VQ h.1 ?_;cases c<;>first|trivial|exact hc|cases hc
 |app sz bytes el s r=>
  obtain⟨l,site,g,n,xs,ys,_,hlk,_,_,_,_,_,_,_,rfl⟩:=h;cases c with
  |no=>trivial
  |cell l' s'=>
   show Qd st.m l' s'=Qd _ l' s'∨_;by_cases hh:l'=l∧s'=site
   ·obtain⟨rfl,rfl⟩:=hh;refine .inr ⟨by rw[hlk];rfl,?_⟩;rw[Qq (Xj (by rw[hlk];simp))];rfl
   ·exact .inl (QB (by omega)).symm
  |_=>simp[RO.lets]at hc
 |bsl sz len z ps=>rw[h.2];exact X7.refl c _
 |bslv site sz len z ps=>
  obtain⟨y,_,_,_,_,_,rfl⟩:=h;cases c with
  |no=>trivial
  |cell l' s'=>
   simp only[RO.lets,Qn0,Qoq]at hc;exact .inl (QB (by omega)).symm
  |outer=>exact fun l' s'=>(QB (.inl (Nat.succ_ne_zero l'))).symm
  |_=>simp[RO.lets]at hc
 |bsl0 site sz=>
  obtain⟨_,_,rfl⟩:=h;cases c with
  |no=>trivial
  |cell l' s'=>
   simp only[RO.lets,Qn0,Qoq]at hc;exact .inl (QB (by omega)).symm
  |outer=>exact fun l' s'=>(QB (.inl (Nat.succ_ne_zero l'))).symm
  |_=>simp[RO.lets]at hc
 |appc site sz bytes el s r=>
  obtain⟨xs,ys,_,_,_,_,_,_,_,_,_,rfl⟩:=h;cases c with
  |no=>trivial
  |cell l' s'=>
   simp only[RO.lets,Qn0,Qoq]at hc;exact .inl (QB (by omega)).symm
  |outer=>exact fun l' s'=>(QB (.inl (Nat.succ_ne_zero l'))).symm
  |_=>simp[RO.lets]at hc
 |callF f args=>
  simp only[RO.lets,Qn2]at hc;subst hc;trivial
 |_=>exact h.elim
theorem FO {it:Item}{c:MC}(hc:it.op.lets c=true){st:St}{x:AV}{m:Qj}(h:Jm P it st x m):X7 c st.m m:=by
 obtain⟨d,op,g⟩:=it;cases g with
 |none=>exact FN hc h
 |some p=>
  obtain⟨j,want⟩:=p;simp only[Jm]at h;cases he:st.f j with
  |bool b=>
   rw[he]at h;rcases h with⟨_,h⟩|⟨_,_,h⟩
   ·exact FN hc h
   ·rw[h];exact X7.refl c _
  |tup l=>rw[he]at h;rw[h.2.2];exact X7.refl c _
  |_=>rw[he]at h;exact h.elim
def G7 (a b:Item):Bool :=
  (match a.dst with
   |some d=>!(b.sl.contains d)&&b.dst != some d
   |none=>true) &&
  (match b.dst with
   |some d=>!(a.sl.contains d)
   |none=>true)
def VR (a b:Item):Bool :=
 match a.op,b.op,a.g,b.g with
 |.allocN s _,.allocN t _,none,none=>s != t
 |_,_,_,_=>false
def G8 (a b:Item):Bool :=
 a.op.keeps&&b.op.keeps&&G7 a b&&((a.op.pure&&b.op.lets a.op.mc)||(b.op.pure&&a.op.lets b.op.mc)||VR a b)
theorem VS {m:Qj}{s t:Nat}{o:Ob}(h:s≠t):Zu (Am.put m 0 s o) t=Zu m t:=by
 unfold Zu;rw[QB (.inr (Ne.symm h))]
theorem EE {m:Qj}{s t:Nat}{o q:Ob}(h:s≠t):Am.put (Am.put m 0 s o) 0 t q=Am.put (Am.put m 0 t q) 0 s o:=by
 cases m with
 |nil=>rfl
 |cons fr m=>
  simp only[Am.put];congr 1
  funext i;by_cases h1:i=t
  ·subst h1;rw[Q4,Q8 _ _ (Ne.symm h),Q4]
  ·rw[Q8 _ _ h1];by_cases h2:i=s
   ·subst h2;rw[Q4,Q4]
   ·rw[Q8 _ _ h2,Q8 _ _ h2,Q8 _ _ h1]
theorem M3 {a b:Item}(h:VR a b=true){st:St}{f:Fr}{x y:AV}{m m2:Qj}(ga:Jm P a st x m)(gb:Jm P b { st with m:=m,f:=f } y m2) :
  ∃m1,Jm P b st y m1∧∀f',Jm P a { st with m:=m1,f:=f' } x m2:=by
 obtain⟨da,oa,ga'⟩:=a;obtain⟨db,ob,gb'⟩:=b;unfold VR at h;dsimp only at h;split at h
 ·rename_i s z t w;have hne:s≠t:=by simpa using h
  obtain⟨h1,rfl,rfl⟩:=ga;obtain⟨h2,rfl,rfl⟩:=gb;dsimp only at h2;rw[VS hne]at h2;refine⟨_,⟨h2,rfl,rfl⟩,fun f'=>⟨?_,rfl,?_⟩⟩
  ·dsimp only;rw[VS (Ne.symm hne)];exact h1
  ·exact EE hne
 ·cases h
theorem NF {l:List Nat}{f:Fr}{d:Option Nat}{x:AV}(h:∀k,d=some k→k∉l):Jw l f (Ql f d x):=by
 intro t ht;cases d with
 |none=>rfl
 |some k=>
  have:t≠k:=fun e=>h k rfl (e▸ht)
  show f t=QI f k x t;rw[Q8 _ _ this]
theorem S1 {f:Fr}{d e:Option Nat}{x y:AV}(h:∀k,d=some k→e≠some k):Ql (Ql f d x) e y=Ql (Ql f e y) d x:=by
 cases d with
 |none=>rfl
 |some d=>
  cases e with
  |none=>rfl
  |some e=>
   have hne:d≠e:=fun hh=>h d rfl (hh▸rfl)
   funext i;show QI (QI f d x) e y i=QI (QI f e y) d x i;by_cases h1:i=e
   ·subst h1;rw[Q4,Q8 _ _ (Ne.symm hne),Q4]
   ·rw[Q8 _ _ h1];by_cases h2:i=d
    ·subst h2;rw[Q4,Q4]
    ·rw[Q8 _ _ h2,Q8 _ _ h2,Q8 _ _ h1]
theorem RE {a b:Item}(h:G7 a b=true):(∀k,a.dst=some k→k∉b.sl)∧(∀k,a.dst=some k→b.dst≠some k)∧(∀k,b.dst=some k→k∉a.sl):=by
 unfold G7 at h;simp only[Qol]at h;refine⟨fun k e=>?_,fun k e=>?_,fun k e=>?_⟩
 ·have:=h.1;rw[e]at this;simp at this;exact this.1
 ·have:=h.1;rw[e]at this;simp at this;exact this.2
 ·have:=h.2;rw[e]at this;simpa using this
theorem RF {a b:Item}(h:G8 a b=true){st:St}{K:St→Prop}(k:ZM P a st fun s=>ZM P b s K):ZM P b st fun s=>ZM P a s K:=by
 unfold G8 at h;simp only[Qol,Qn0]at h;obtain⟨⟨⟨ka,kb⟩,hap⟩,hor⟩:=h;obtain⟨h1,h2,h3⟩:=RE hap;rw[KP ka]at k;obtain⟨x,m,ga,k⟩:=k;rw[KP kb]at k;obtain⟨y,m2,gb,k⟩:=k;rw[KP kb];have hs1:∀f:Fr,Jw b.sl f (Ql f a.dst x):=fun f=>NF h1
 have hs3:∀f:Fr,Jw a.sl f (Ql f b.dst y):=fun f=>NF h3
 have hsym:∀ {l f f'},Jw l f f'→Jw l f' f:=fun h t ht=>(h t ht).symm
 have hK:K { st with m:=m2,f:=Ql (Ql st.f b.dst y) a.dst x }:=by
  rw[←S1 h2];exact k
 rcases hor with(⟨pa,lb⟩|⟨pb,la⟩)|hf
 ·have e:m=st.m:=(Gm (m':=st.m) (ds':=st.ds) pa (X7.refl _ _) ga).1;subst e;have gb':Jm P b st y m2:=YP (hsym (hs1 st.f)) gb;refine⟨y,m2,gb',?_⟩;rw[KP ka];have ga':Jm P a { st with m:=m2 } x m2:=(Gm pa (FO lb gb') ga).2;exact⟨x,m2,YP (hs3 st.f) ga',hK⟩
 ·have hag:=FO la ga;obtain⟨e,gb1⟩:=Gm (m':=st.m) (ds':=st.ds) pb hag.symm gb;have e:m2=m:=e;subst e;have gb':Jm P b st y st.m:=YP (hsym (hs1 st.f)) gb1;refine⟨y,st.m,gb',?_⟩;rw[KP ka];exact⟨x,m2,YP (hs3 st.f) ga,hK⟩
 ·obtain⟨m1,gb',ga'⟩:=M3 hf ga gb;refine⟨y,m1,gb',?_⟩;rw[KP ka];exact⟨x,m2,ga' _,hK⟩
theorem S2 {ops:Array Oper}{o:Oper}{i:Nat}(hi:ops[i]? = some o){it:Item}(hc:Gi P N ops o it=true){st:St}{K:St→Prop}(h:ZM P it st K){G:Gh}{B:Nat}{a:Act}{w:World}(hr:Rel G B N st a w){KK:Act→World→Prop}{QQ:Exit→Act→World→Prop}
  (hk:∀G' st' a' w',K st'→Rel G' B N st' a' w'→Ext 1 G w G' w'→KK a' w'):wpOp P ops QQ i KK a w:=by
 have h1:Qx P N [it] st K:=VH (Hx (fun _ hs=>Qx.nil hs) h);have h2:=h1 ops [o] (by simp[ZQ,hc]) G B a w hr (fun e a w=>match e with
  |.normal=>KK a w
  |e=>QQ e a w) (fun G' st' a' w' h1 h2 h3=>hk G' st' a' w' h1 h2 h3)
 unfold wpOp;simp only[hi];unfold wpList at h2;split
 ·rename_i hw;rw[Qn5 hw]at h2;rcases h2 with h2|h2
  ·left
   unfold Oper.wp at h2 ⊢;generalize (execOp a.eval o).run P w=r at h2 ⊢;cases r with
   |ok n w'=>
    cases n<;>simp only[Oper.upon]at h2 ⊢<;>first
     |exact h2
     |exact Calls.mono h2 (fun e w'' he=>by cases e<;>exact he)
   |halt x w'=>cases x<;>simp only[Oper.upon]at h2 ⊢<;>exact h2
  ·exact .inr h2
 ·rename_i hw;rw[Qn4 hw]at h2;exact h2
def YH:Item:=⟨none,.val (.mov (.c .top)),none⟩
def Hy (its:List Item)(l:List Nat):List Item:=l.map fun i=>its.getD i YH
theorem S3 {its:List Item}{i:Nat}{post:List Nat}{Q:St→Prop}:∀ {pre:List Nat} {st:St},(∀p,p∈pre→G8 (its.getD p YH) (its.getD i YH)=true)→
  QE P (Hy its (pre++i :: post)) st Q→ZM P (its.getD i YH) st fun s=>QE P (Hy its (pre++post)) s Q
 | [],_,_,h=>h
 |p :: pre,st,hp,h=>by
  have h':ZM P (its.getD p YH) st fun s=>QE P (Hy its (pre++i :: post)) s Q:=h
  have h2:=Hx (fun s hs=>S3 (fun q hq=>hp q (Qod _ hq)) hs) h';exact RF (hp p (Qof ..)) h2
inductive Bef (ops:Array Oper):Nat→Nat→Prop
 |one {i:Nat} {o:Oper} {e:Edge} (ho:ops[i]? = some o) (he:e∈o.after) (hb:Region.binds .any e=true):Bef ops e.on i
 |more {i p:Nat} {o:Oper} {e:Edge} (ho:ops[i]? = some o) (he:e∈o.after) (hb:Region.binds .any e=true) (h:Bef ops p e.on):Bef ops p i
def RG (acc:List Nat)(m:Nat)(e:Edge):Nat:=if Region.binds .any e then(m ||| 2 ^ e.on) ||| acc.getD e.on 0 else m
def S4 (acc:List Nat)(o:Oper):Nat:=o.after.toList.foldl (RG acc) 0
def RH:List Oper→List Nat→List Nat
 | [],acc=>acc
 |o :: os,acc=>RH os (acc++[S4 acc o])
theorem FP {acc:List Nat}{p:Nat}:∀(l:List Edge) (m:Nat),(l.foldl (RG acc) m).testBit p=true→m.testBit p=true∨∃e∈l,Region.binds .any e=true∧(p=e.on∨(acc.getD e.on 0).testBit p=true)
 | [],m,h=>.inl h
 |e :: l,m,h=>by
  rw[List.foldl_cons]at h;rcases FP l _ h with h1|⟨e',h1,h2,h3⟩
  ·unfold RG at h1;split at h1
   ·rename_i hb;rw[Nat.testBit_or,Nat.testBit_or,Qn0,Qn0]at h1;rcases h1 with(h1|h1)|h1
    ·exact .inl h1
    ·rw[Nat.testBit_two_pow]at h1;exact .inr ⟨e,Qof ..,hb,.inl (of_decide_eq_true h1).symm⟩
    ·exact .inr ⟨e,Qof ..,hb,.inr h1⟩
   ·exact .inl h1
  ·exact .inr ⟨e',Qod _ h1,h2,h3⟩
theorem VT {ops:Array Oper}:∀(l:List Oper) (acc:List Nat),ops.toList=ops.toList.take acc.length++l→acc.length+l.length=ops.size→(∀i p,(acc.getD i 0).testBit p=true→Bef ops p i)→∀i p,((RH l acc).getD i 0).testBit p=true→Bef ops p i
 | [],acc,_,_,h=>h
 |o :: l,acc,e,hn,h=>by
  have hlen:acc.length<ops.toList.length:=by simp at hn ⊢;omega
  have hat:ops[acc.length]? = some o:=by
   rw[←Qor,e,Qpp (by simp;omega)];simp;have:acc.length-min acc.length ops.size=0:=by simp at hlen;omega
   rw[this];rfl
  refine VT l (acc++[S4 acc o]) ?_ (by simp at hn ⊢;omega) fun i p hb=>?_
  ·rw[QoB,Qpv,Qoh hlen,Qoi];have:ops.toList[acc.length]=o:=by
    have:=QnX hlen;rw[Qor,hat]at this;cases this;rfl
   rw[this];exact e
  ·rw[List.getD_eq_getElem?_getD]at hb;by_cases hi:i<acc.length
   ·rw[Qpo hi,←List.getD_eq_getElem?_getD]at hb;exact h i p hb
   ·by_cases hi2:i=acc.length
    ·subst hi2;rw[Qpp (QnV _)]at hb;simp only[Nat.sub_self,Qo0,Qo8]at hb;rcases FP _ _ hb with h1|⟨e',h1,h2,h3⟩
     ·simp at h1
     ·rcases h3 with rfl|h3
      ·exact .one hat (by simpa using h1) h2
      ·exact .more hat (by simpa using h1) h2 (h _ _ h3)
    ·rw[Qpm (by simp;omega)]at hb;simp at hb
def BW (ops:Array Oper)(its:List Item):Bool :=
 (List.range ops.size).all fun i=>match ops[i]? with
  |some o=>o.after.all (fun e=>!Region.binds .any e||decide (e.on<i))&&(List.range i).all fun p=>((RH ops.toList []).getD i 0).testBit p||G8 (its.getD p YH) (its.getD i YH)
  |none=>true
theorem Bef.listed {ops:Array Oper}{L:Nat→Prop}(hcl:∀q,L q→∀o e,ops[q]? = some o→e∈o.after→Region.binds .any e=true→L e.on){p i:Nat}(h:Bef ops p i)(hi:∀o e,ops[i]? = some o→e∈o.after→Region.binds .any e=true→L e.on):L p:=by
 induction h with
 |one ho he hb=>exact hi _ _ ho he hb
 |more ho he hb _ ih=>exact ih (hcl _ (hi _ _ ho he hb))
def Yt (n:Nat)(listed:Array Bool):List Nat:=(List.range n).filter fun i=>!listed.getD i true
theorem D2 {ops:Array Oper}:∀ {l:List Oper} {its:List Item},ZQ P N ops l its=true→l.length=its.length∧∀(i:Nat) (o:Oper),l[i]? = some o→Gi P N ops o (its.getD i YH)=true
 | [],its,h=>by
  cases its with
  |nil=>exact⟨rfl,by simp⟩
  |cons it its=>simp[ZQ]at h
 |o :: l,its,h=>by
  cases its with
  |nil=>simp[ZQ]at h
  |cons it its=>
   simp only[ZQ,Qol]at h;obtain⟨e,h2⟩:=D2 h.2;refine⟨by simp[e],fun i o' ho=>?_⟩;cases i with
   |zero=>simp at ho;subst ho;exact h.1
   |succ i=>simpa using h2 i o' (by simpa using ho)
theorem EF {ops:Array Oper}{its:List Item}(hc:ZQ P N ops ops.toList its=true)(hd:BW ops its=true){B:Nat}{Q:St→Prop}{QQ:Exit→Act→World→Prop} :
  ∀(fuel:Nat) (listed:Array Bool),listed.size=ops.size→(∀q,listed.getD q false=true→∀o e,ops[q]? = some o→e∈o.after→Region.binds .any e=true→listed.getD e.on false=true)→(Yt ops.size listed).length≤fuel→∀(st:St) (G:Gh) (a:Act) (w:World),QE P (Hy its (Yt ops.size listed)) st Q→Rel G B N st a w→
   (∀G' st' a' w',Q st'→Rel G' B N st' a' w'→Ext 1 G w G' w'→QQ .normal a' w')→wpAny P .any ops QQ fuel listed a w:=by
 obtain⟨hlen,hcs⟩:=D2 hc;have hready:∀(listed:Array Bool) i,i∈Region.ready .any ops listed→i∈Yt ops.size listed:=by
  intro listed i hi;obtain⟨h0,o,ho,_⟩:=mem_ready.1 hi;exact Qpw.2 ⟨Qpx.2 (Qn3.1 ho).1,by simp[h0]⟩
 have hat:∀i,i<ops.size→∃o,ops[i]? = some o∧(∀e∈o.after,Region.binds .any e=true→e.on<i)∧∀p,p<i→Bef ops p i∨G8 (its.getD p YH) (its.getD i YH)=true:=by
  intro i hi;refine⟨ops[i],Qoe hi,?_⟩;have h1:=Qoa.1 hd i (Qpx.2 hi);rw[Qoe hi]at h1;simp only[Qol]at h1;refine⟨fun e he hb=>?_,fun p hp=>?_⟩
  ·have h2:=Array.all_eq_true_iff_forall_mem.1 h1.1 e he
   simpa [hb]using h2
  ·have h2:=Qoa.1 h1.2 p (Qpx.2 hp);rw[Qn0]at h2;rcases h2 with h2|h2
   ·exact .inl (VT ops.toList [] (by simp) (by simp) (fun i p hb=>by simp at hb) i p h2)
   ·exact .inr h2
 -- the first that is left is ready
 have hfirst:∀(listed:Array Bool),listed.size=ops.size→Region.ready .any ops listed=[]→Yt ops.size listed=[]:=by
  intro listed hsz hr;cases hu:Yt ops.size listed with
  |nil=>rfl
  |cons i rest=>
   exfalso;have hpw:(Yt ops.size listed).Pairwise (· < ·):=List.Pairwise.filter _ List.pairwise_lt_range;have hi:i∈Yt ops.size listed:=by rw[hu];exact Qof ..
   obtain⟨hi1,hi2⟩:=Qpw.1 hi;obtain⟨o,ho,h1,_⟩:=hat i (Qpx.1 hi1);have:i∈Region.ready .any ops listed:=by
    refine mem_ready.2 ⟨by simpa using hi2,o,ho,fun e he hb=>?_⟩;have hlt:=h1 e he hb;cases hg:listed.getD e.on false with
    |true=>rfl
    |false=>
     have hin:e.on∈Yt ops.size listed:=by
      refine Qpw.2 ⟨Qpx.2 (Nat.lt_trans hlt (Qpx.1 hi1)),?_⟩;have hlt':e.on<listed.size:=by rw[hsz];exact Nat.lt_trans hlt (Qpx.1 hi1)
      simp[Qoe hlt']at hg ⊢;exact hg
     rw[hu]at hin hpw;rcases Qpk.1 hin with e'|e'
     ·omega
     ·have:=(Qpy.1 hpw).1 _ e';omega
   rw[hr]at this;cases this
 intro fuel
 induction fuel with
 |zero=>
  intro listed hsz hcl hl st G a w h hr hq;have hu:Yt ops.size listed=[]:=Qo2 (by omega);refine⟨?_,?_⟩
  ·cases hx:Region.ready .any ops listed with
   |nil=>rfl
   |cons i r=>
    have:=hready listed i (by rw[hx];exact Qof ..);rw[hu]at this;cases this
  ·rw[hu]at h;exact hq G st a w h hr (Ext.refl 1 G w)
 |succ fuel ih=>
  intro listed hsz hcl hl st G a w h hr hq;refine⟨fun hx=>?_,fun i hi=>?_⟩
  ·rw[hfirst listed hsz hx]at h;exact hq G st a w h hr (Ext.refl 1 G w)
  ·have hiu:=hready listed i hi;obtain⟨pre,post,hsplit⟩:=List.append_of_mem hiu;have hpw:(Yt ops.size listed).Pairwise (· < ·):=List.Pairwise.filter _ List.pairwise_lt_range;rw[hsplit]at h hpw;obtain⟨_,hp2,hp3⟩:=Qpz.1 hpw;obtain⟨hi1,hi2⟩:=Qpw.1 hiu;obtain⟨o,ho,h1,h2⟩:=hat i (Qpx.1 hi1);obtain⟨_,o',ho',h3⟩:=mem_ready.1 hi;rw[ho]at ho';cases ho';have hind:∀p,p∈pre→G8 (its.getD p YH) (its.getD i YH)=true:=by
    intro p hp;rcases h2 p (hp3 p hp i (Qof ..))with hbef|h
    ·exfalso;have hl1:=hbef.listed (L:=fun q=>listed.getD q false=true) hcl (fun o2 e ho2 he hb=>by rw[ho]at ho2;cases ho2;exact h3 e he hb);have hpu:p∈Yt ops.size listed:=by rw[hsplit];exact List.mem_append_left _ hp
     obtain⟨hr1,hr2⟩:=Qpw.1 hpu;have hlt':p<listed.size:=by rw[hsz];exact Qpx.1 hr1
     simp[Qoe hlt']at hl1 hr2;rw[hl1]at hr2;cases hr2
    ·exact h
   have hb:=S3 (P:=P) hind h;have hnext:Yt ops.size (listed.setIfInBounds i true)=pre++post:=by
    have e1:Yt ops.size (listed.setIfInBounds i true)=(Yt ops.size listed).filter fun j=>j != i:=by
     unfold Yt;rw[List.filter_filter];refine List.filter_congr fun j hj=>?_
     by_cases hji:j=i
     ·subst hji;have hlt':j<listed.size:=by rw[hsz];exact Qpx.1 hj
      simp[hlt']
     ·rw[getD_set_ne true (fun e=>hji e.symm)];simp[hji]
    rw[e1,hsplit,List.filter_append,QpA];have e2:pre.filter (fun j=>j != i)=pre:=List.filter_eq_self.2 fun j hj=>by
     have:=hp3 j hj i (Qof ..);simp;omega
    have e3:post.filter (fun j=>j != i)=post:=List.filter_eq_self.2 fun j hj=>by
     have:=(Qpy.1 hp2).1 j hj;simp;omega
    rw[e2,e3];simp
   have hset:∀q,listed.getD q false=true→(listed.setIfInBounds i true).getD q false=true:=fun q hq'=>by
    by_cases hqi:q=i
    ·subst hqi;have hlt':q<listed.size:=by rw[hsz];exact Qpx.1 hi1
     simp[hlt']
    ·rw[getD_set_ne false (fun e=>hqi e.symm)];exact hq'
   have hcl':∀q,(listed.setIfInBounds i true).getD q false=true→∀o e,ops[q]? = some o→e∈o.after→Region.binds .any e=true→(listed.setIfInBounds i true).getD e.on false=true:=fun q hq' o2 e ho2 he2 hb2=>by
    by_cases hqi:q=i
    ·subst hqi;rw[ho]at ho2;cases ho2;exact hset _ (h3 e he2 hb2)
    ·rw[getD_set_ne false (fun e=>hqi e.symm)]at hq';exact hset _ (hcl q hq' o2 e ho2 he2 hb2)
   refine S2 ho (hcs i o (by simpa using ho)) hb hr fun G' st' a' w' hk hr' he=>?_
   refine ih (listed.setIfInBounds i true) (by simpa using hsz) hcl' ?_ st' G' a' w' (by rw[hnext];exact hk) hr' fun G2 st2 a2 w2 hq2 hr2 he2=>hq G2 st2 a2 w2 hq2 hr2 (he.trans he2)
   rw[hnext];rw[hsplit]at hl;simp only[QoB,Qoc]at hl ⊢;omega
theorem S5 {its:List Item}:Hy its (List.range its.length)=its:=by
 apply List.ext_getElem
 ·simp[Hy]
 ·intro i h1 h2;simp[Hy,h2]
theorem Qbf {ops:Array Oper}{its:List Item}(hm:P.follows .mixedOrders=true)(hc:ZQ P N ops ops.toList its=true)(hd:BW ops its=true){st:St}{Q:St→Prop}(h:QE P its st Q){G:Gh}{B:Nat}{a:Act}{w:World}(hr:Rel G B N st a w){QQ:Exit→Act→World→Prop}{id:Nat}
  (hq:∀G' st' a' w',Q st'→Rel G' B N st' a' w'→Ext 1 G w G' w'→QQ .normal a' w'):(Code.region id ops true).wp P QQ a w:=by
 refine wp_region_any hm ?_;have hlen:=(D2 hc).1;simp only[Qot]at hlen;have hu:Yt ops.size (Array.replicate ops.size false)=List.range its.length:=by
  unfold Yt;rw[hlen];refine List.filter_eq_self.2 fun i hi=>?_
  simp[Qpx.1 hi]
 refine EF hc hd ops.size (Array.replicate ops.size false) (by simp) (fun q hq'=>by rw[Qn7]at hq';simp[Array.getElem?_replicate]at hq';split at hq'<;>cases hq') (by rw[hu];simp[hlen]) st G a _ (by rw[hu,S5];exact h) hr.drew fun G' st' a' w' h1 h2 h3=>hq G' st' a' w' h1 h2 ((Ext.drew G w).trans h3)
end
def ZT (P:Program)(N:Nat):RC→Code→Bool
 |.gho _ r,c=>ZT P N r c
 |.no,_=>true
 |.skip,c=>match c with
  |.skip=>true
  |_=>false
 |.reg its,c=>match c with
  |.region _ ops false=>ZQ P N ops ops.toList its
  |_=>false
 |.draw its,c=>match c with
  |.region _ ops true=>P.follows .mixedOrders&&ZQ P N ops ops.toList its&&BW ops its
  |_=>false
 |.seq a b,c=>match c with
  |.seq x y=>ZT P N a x&&ZT P N b y
  |_=>false
 |.cond r a b,c=>match c with
  |.cond o x y=>QJ o r&&ZT P N a x&&ZT P N b y
  |_=>false
 |.block i a,c=>match c with
  |.block j x=>i==j&&ZT P N a x
  |_=>false
 |.loop a,c=>match c with
  |.loop x=>ZT P N a x
  |_=>false
 |.exit i,c=>match c with
  |.exit j=>i==j
  |_=>false
 |.scope a,c=>match c with
  |.scope x=>ZT P N a x
  |_=>false
 |.lab,c=>match c with
  |.label _=>true
  |_=>false
 |.ret,c=>match c with
  |.ret=>true
  |_=>false
section
variable {P:Program}{N B:Nat}
theorem Qdk:∀ {rc:RC} {c:Code} {st:St} {Q:Exit→St→Prop},Q2 P rc st Q→ZT P N rc c=true→∀ {G:Gh} {a:Act} {w:World},Rel G B N st a w→∀ {QQ:Exit→Act→World→Prop},
  (∀e G' st' a' w',Q e st'→Rel G' B N st' a' w'→Ext 1 G w G' w'→QQ e a' w')→c.wp P QQ a w:=by
 intro rc
 induction rc with
 |skip=>
  intro c st Q h hc G a w hr QQ hq;cases c<;>simp only[ZT,Qog]at hc;exact wp_skip (hq _ _ _ _ _ h hr (Ext.refl 1 G w))
 |reg its=>
  intro c st Q h hc G a w hr QQ hq;cases c<;>simp only[ZT,Qog]at hc;rename_i id ops d;cases d<;>simp only[Qog]at hc;refine wp_region_list ?_;exact Pk (N:=N) h ops ops.toList hc G B a w hr QQ fun G' st' a' w' h1 h2 h3=>hq _ _ _ _ _ h1 h2 h3
 |draw its=>
  intro c st Q h hc G a w hr QQ hq;cases c<;>simp only[ZT,Qog]at hc;rename_i id ops d;cases d<;>simp only[Qog,Qol]at hc;exact Qbf hc.1.1 hc.1.2 hc.2 h hr fun G' st' a' w' h1 h2 h3=>hq _ _ _ _ _ h1 h2 h3
 |seq x y ihx ihy=>
  intro c st Q h hc G a w hr QQ hq;cases c<;>simp only[ZT,Qog,Qol]at hc;refine wp_seq (ihx h hc.1 hr fun e G' st' a' w' h1 h2 h3=>?_);cases e with
  |normal=>exact ihy h1 hc.2 h2 fun e G2 st2 a2 w2 k1 k2 k3=>hq _ _ _ _ _ k1 k2 (h3.trans k3)
  |_=>exact hq _ _ _ _ _ h1 h2 h3
 |cond r x y ihx ihy=>
  intro c st Q h hc G a w hr QQ hq;cases c<;>simp only[ZT,Qog,Qol]at hc;rename_i o cx cy;obtain⟨t,ht,h1,h2⟩:=h;have hv:=Qt hr hc.1.1;rw[ht]at hv;have hv':a.eval o=.bool t:=by
   generalize a.eval o=v at hv;cases hv;rfl
  refine wp_cond_split hv' (fun e=>?_) (fun e=>?_)
  ·exact ihx (h1 e) hc.1.2 hr hq
  ·exact ihy (h2 e) hc.2 hr hq
 |block i x ih=>
  intro c st Q h hc G a w hr QQ hq;cases c<;>simp only[ZT,Qog,Qol,Qn2]at hc;obtain⟨rfl,hc⟩:=hc;refine wp_block (ih h hc hr fun e G' st' a' w' h1 h2 h3=>?_);cases e with
  |exit j=>
   simp only[Exit.inBlock];simp only[Kb]at h1;split
   ·rename_i hh;rw[Qn5 hh]at h1;exact hq _ _ _ _ _ h1 h2 h3
   ·rename_i hh;rw[Qn4 hh]at h1;exact hq _ _ _ _ _ h1 h2 h3
  |_=>exact hq _ _ _ _ _ h1 h2 h3
 |loop x ih=>
  intro c st Q h hc G a w hr QQ hq;cases c<;>simp only[ZT,Qog]at hc;obtain⟨I,n,h0,hI⟩:=h;refine wp_loop_ghost (fun k a' w'=>∃G' st',I k st'∧Rel G' B N st' a' w'∧Ext 1 G w G' w') n ⟨G,st,h0,hr,Ext.refl 1 G w⟩ ?_;rintro k a' w' ⟨G',st',i1,i2,i3⟩;refine ih (hI k st' i1) hc i2 fun e G2 st2 a2 w2 h1 h2 h3=>?_
  cases e with
  |normal=>
   obtain⟨k',hk,hi⟩:=h1;exact⟨k',hk,G2,st2,hi,h2,i3.trans h3⟩
  |_=>exact hq _ _ _ _ _ h1 h2 (i3.trans h3)
 |exit i=>
  intro c st Q h hc G a w hr QQ hq;cases c<;>simp only[ZT,Qog,Qn2]at hc;subst hc;exact wp_exit (hq _ _ _ _ _ h hr (Ext.refl 1 G w))
 |scope x ih=>
  intro c st Q h hc G a w hr QQ hq;cases c<;>simp only[ZT,Qog]at hc;refine wp_scope_straight (ih h hc hr fun e G' st' a' w' h1 h2 h3=>?_);cases e with
  |goto l=>exact h1.elim
  |_=>exact hq _ _ _ _ _ h1 h2 h3
 |lab=>
  intro c st Q h hc G a w hr QQ hq;cases c<;>simp only[ZT,Qog]at hc;exact wp_label (hq _ _ _ _ _ h hr (Ext.refl 1 G w))
 |ret=>
  intro c st Q h hc G a w hr QQ hq;cases c<;>simp only[ZT,Qog]at hc;exact wp_ret (hq _ _ _ _ _ h hr (Ext.refl 1 G w))
 |gho g x ih=>
  intro c st Q h hc G a w hr QQ hq;obtain⟨st',hg,h⟩:=h;obtain⟨G',h1,h2⟩:=EB hr hg;exact ih h hc h1 fun e G2 st2 a2 w2 k1 k2 k3=>hq _ _ _ _ _ k1 k2 (h2.trans k3)
 |no=>
  intro c st Q h;exact h.elim
theorem MR.out {G:Gh}{fr:Nat→Ob}{m:Qj}{w:World}(h:MR G (fr :: m) w){S:Nat→Prop}(hS:∀b,S b→(∃s,G.vm 0 s=some b)∨∃s,G.nm 0 s=some b):MR ((G.pub w S).dn 1) m w:=by
 have hnS:∀l s b,G.nm (l+1) s=some b→¬S b:=fun l s b e hs=>by
  rcases hS b hs with⟨s',e'⟩|⟨s',e'⟩
  ·exact h.inj3 _ _ _ _ _ e e'
  ·have:=(h.inj1 _ _ _ _ _ e e').1;omega
 have hvS:∀l s b,G.vm (l+1) s=some b→¬S b:=fun l s b e hs=>by
  rcases hS b hs with⟨s',e'⟩|⟨s',e'⟩
  ·have:=(h.inj2 _ _ _ _ _ e e').1;omega
  ·exact h.inj3 _ _ _ _ _ e' e
 have hgle:Gle G (G.pub w S):=Gh.pub_gle h.stab;refine⟨fun b o v e=>?_,fun l s xs e=>?_,fun l s b e=>?_,fun l s g sz xs e=>?_,fun l s b e=>?_,fun l s e=>?_,fun l s l' s' b e e'=>?_,fun l s l' s' b e e'=>?_,fun l s l' s' b e e'=>?_,fun l s t p e=>h.iter (l+1) s t p e⟩
 ·have e:(G.pub w S).stab b o=some v:=e;by_cases hs:S b∧∀o,J0 b o=none
  ·rw[Gh.pub_c hs]at e;exact Vq e
  ·rw[Gh.pub_n hs]at e;exact h.stab b o v e
 ·obtain⟨b,cs,e',hc,hr⟩:=h.cells (l+1) s xs e;refine⟨b,cs,e',hc,?_⟩;rw[Gh.dn_dn];exact hr.mono (hgle.dn (l+1))
 ·obtain⟨h1,h2⟩:=h.nm (l+1) s b e;refine⟨h1,fun o=>?_⟩;show(G.pub w S).stab b o=none;rw[Gh.pub_out (hnS _ _ _ e)];exact h2 o
 ·obtain⟨a1,a2,a3,a4⟩:=h.vec (l+1) s g sz xs e;exact⟨a1,a2,a3,a4.imp id fun⟨b,e',r⟩=>⟨b,e',r.of rfl fun vs hv=>RepL.rfd (G:=G) (G':=(G.pub w S).dn 1) hgle.stab a3.rf hv⟩⟩
 ·obtain⟨h1,h2⟩:=h.vm (l+1) s b e;refine⟨h1,fun o=>?_⟩;show(G.pub w S).stab b o=none;rw[Gh.pub_out (hvS _ _ _ e)];exact h2 o
 ·exact h.gone (l+1) s e
 ·obtain⟨h1,h2⟩:=h.inj1 _ _ _ _ _ e e';exact⟨by omega,h2⟩
 ·obtain⟨h1,h2⟩:=h.inj2 _ _ _ _ _ e e';exact⟨by omega,h2⟩
 ·exact h.inj3 _ _ _ _ _ e e'
def ZY (rs:List RR)(n:Nat)(R:AV→Qj→Prop):Exit→St→Prop:=fun e st=>
 (e=.normal∨e=.ret)∧st.ds=[]∧∃x y fr m,W9 st rs=some x∧YO st.m x=some y∧st.m=fr :: m∧m.length=n∧R y m
theorem M4 {G:Gh}{args:List AV}{vs:List Value}(h:RepL G args vs){N:Nat}(i:Nat):Rep G.up (VC (AV.shL args) i) (((vs.toArray++Array.replicate (N-vs.toArray.size) undef):Array Value).getD i undef):=by
 have h':RepL G.up (AV.shL args) vs:=RepL.sh (G:=G.up) (by rw[Gh.up_dn];exact h);have hl:=h'.length;unfold VC;by_cases hi:i<vs.length
 ·obtain⟨x,e,hx⟩:=h'.back (QnX hi);rw[e];simp only[Qo8,Qn7];rw[Array.getElem?_append_left (by simpa using hi)]
  simpa [hi]using hx
 ·rw[Qpm (by omega)];simp only[QpB,Qn7];rw[Array.getElem?_append_right (by simpa using hi)];cases hx:(Array.replicate (N-vs.toArray.size) undef)[i-vs.toArray.size]? with
  |none=>exact .tup .nil
  |some v=>
   have:=Qn3.1 hx;obtain⟨_,h2⟩:=this;simp at h2;subst h2;exact .tup .nil
theorem S6 {fn:Func}{args:List AV}{m:Qj}{G:Gh}{w:World}{vs:List Value}(hvs:RepL G args vs)(hm:MR G m w)(hN:fn.ntmps=N)(ha:args.length≤N) :
  Rel G.up w.heap.size N (St.enter args m) { tmps:=vs.toArray++Array.replicate (fn.ntmps-vs.toArray.size) undef,defers:=[] } w:=by
 have hlen:=hvs.length;refine⟨hm.up,?_,fun i=>M4 hvs i,.nil,fun s b e=>?_,QnV _,by simp[St.enter]⟩
 ·simp;omega
 ·rcases e with e|e<;>cases e
theorem Qbg {fn:Func}{rs:List RR}{G G':Gh}{m m':Qj}{w w':World}{st':St}{a':Act}{fr:Nat→Ob}{x y:AV}{R:AV→Qj→Prop}(hr:KX P fn.results.toList rs=true)(hr':Rel G' w.heap.size N st' a' w')(he:Ext 1 G.up w G' w')
  (hx:W9 st' rs=some x) (hy:YO st'.m x=some y) (hst:st'.m=fr :: m') (hml:m'.length=m.length) (hR:R y m') :
  ∃v,(results fn a'.tmps).run P w'=.ok v w'∧(∃G'' x v' m'',(Ending.returned v)=.returned v'∧R x m''∧Rep G'' x v'∧MR G'' m'' w'∧Ext 0 G w G'' w'∧m''.length=m.length):=by
 obtain⟨v,hrun,hv⟩:=Qbb (P:=P) hr' hr hx
 let S:Nat→Prop:=fun b=>(∃s,G'.vm 0 s=some b)∨∃s,G'.nm 0 s=some b
 have hmr:=hr'.mr;have hSt:∀l s b,(true&&l != 0)=false→G'.vm l s=some b→S b:=by
  intro l s b hl e;have:l=0:=by simpa using hl
  subst this;exact .inl ⟨s,e⟩
 unfold YO at hy;rw[Option.bind_eq_some_iff]at hy;obtain⟨z,hz,hy⟩:=hy;have hv2:=Rep.un (D0 hmr (own:=true) (S:=S) hSt (fun _ s b _ _ _ e _=>.inr ⟨s,e⟩) hv z hz) y hy;rw[hst]at hmr;have hout:=hmr.out (S:=S) (fun b hs=>hs);have hmine:∀b,((G'.pub w' S).dn 1).mine b→G'.mine b:=by
  rintro b (⟨l,s,e⟩|⟨l,s,e⟩)
  ·exact .inl ⟨l+1,s,e⟩
  ·exact .inr ⟨l+1,s,e⟩
 have hext:Ext 0 G w ((G'.pub w' S).dn 1) w':=by
  refine⟨he.os,he.tape,he.output,he.size,fun b o v e=>?_,fun l s _=>he.nm (l+1) s (by omega),fun l s=>he.vg (l+1) s,fun l s e=>he.vs (l+1) s e,fun b hb hnm=>?_,fun b hb=>?_,fun l s b e=>?_⟩
  ·exact(Gh.pub_gle (S:=S) hr'.mr.stab).stab b o v (he.stab b o v e)
  ·obtain⟨h1,h2⟩:=he.old b hb (fun hx=>hnm (Gh.up_mine.1 hx));refine⟨h1,fun o=>?_⟩;have hnS:¬S b:=by
    rintro(⟨s,e⟩|⟨s,e⟩)
    ·have:=hr'.base s b (.inr e);omega
    ·have:=hr'.base s b (.inl e);omega
   show(G'.pub w' S).stab b o=G.stab b o;rw[Gh.pub_out hnS];exact h2 o
  ·rcases he.mine b (hmine b hb)with h1|h1
   ·exact .inl (Gh.up_mine.1 h1)
   ·exact .inr h1
  ·rcases he.mv (l+1) s b e with⟨i,t,hi,h1⟩|h1
   ·cases i with
    |zero=>cases h1
    |succ i=>exact .inl ⟨i,t,by omega,h1⟩
   ·exact .inr h1
 exact⟨v,hrun,_,y,v,m',rfl,hR,hv2,hout,hext,hml⟩
theorem H8 {k:FuncId} {fn:Func} {c:Code} {rc:RC} {rs:List RR} {args:List AV} {m:Qj} {R:AV→Qj→Prop} (hf:P.funcs[k]? = some fn) (hb:fn.body=some c) (hn:(fn.name == "runtime.NumGoroutine")=false) (hN:fn.ntmps=N) (hc:ZT P N rc c=true) (hr:KX P fn.results.toList rs=true)
  (ha:args.length≤N) (h:Q2 P rc (St.enter args m) (ZY rs m.length R)):Qe P k args m R:=by
 refine⟨⟨fn,hf,hn,by rw[hb];rfl⟩,fun G w vs hvs hm=>?_⟩;refine calls_of_wp hf hb ?_;refine Qdk h hc (S6 hvs hm hN ha) fun e G' st' a' w' hq hr' he=>?_
 obtain⟨hex,hds,x,y,fr,m',hx,hy,hst,hml,hR⟩:=hq;have hdef:a'.defers=[]:=by
  have:=hr'.ds;rw[hds]at this;cases hd:a'.defers with
  |nil=>rfl
  |cons d l=>rw[hd]at this;cases this
 have hfin:=Qbg (R:=R) hr hr' he hx hy hst hml hR;rcases hex with rfl|rfl
 ·exact⟨hdef,hfin⟩
 ·exact⟨hdef,hfin⟩
def BX (P:Program)(k:FuncId)(args:List AV)(m:Qj)(R:AV→Qj→Prop):Prop :=
 Hw P k∧∀(G:Gh) (w:World) (vs:List Value),RepL G args vs→MR G m w→∀u,CallsD P k ⟨vs⟩ u w fun e u' w'=>u'=u∧∃G' x v m',e=.returned v∧R x m'∧Rep G' x v∧MR G' m' w'∧Ext 0 G w G' w'∧m'.length=m.length
end
def CK (P:Program)(k N:Nat)(rc:RC)(rs:List RR):Prop :=
 ∃fn c, P.funcs[k]? = some fn∧fn.body=some c∧(fn.name == "runtime.NumGoroutine")=false∧fn.ntmps=N∧ZT P N rc c=true∧KX P fn.results.toList rs=true
theorem CK.go {P:Program}{k N:Nat}{rc:RC}{rs:List RR}{args:List AV}{m:Qj}{R:AV→Qj→Prop}(h:CK P k N rc rs)(ha:args.length≤N)(w:Q2 P rc (St.enter args m) (ZY rs m.length R)):Qe P k args m R:=by
 obtain⟨fn,c,h1,h2,h3,h4,h5,h6⟩:=h;exact H8 h1 h2 h3 h4 h5 h6 ha w
theorem ck {P:Program} {k N:Nat} {fn:Func} {rc:RC} {rs:List RR} (hf:P.funcs[k]? = some fn) (hN:fn.ntmps=N) (h:(fn.body.isSome && !(fn.name == "runtime.NumGoroutine")&&ZT P N rc (fn.body.getD .skip)&&KX P fn.results.toList rs)=true := by decide +kernel):CK P k N rc rs := by
 simp only[Qol,QoV,Qop]at h;obtain⟨⟨⟨⟨c,hc⟩,h1⟩,h2⟩,h3⟩:=h;rw[hc]at h2;exact⟨fn,c,hf,hc,h1,hN,h2,h3⟩
theorem CK.fn {P:Program}{k N:Nat}{rc:RC}{rs:List RR}{args:List AV}{v:AV}(h:CK P k N rc rs)(ha:args.length≤N)(w:Q2 P rc (St.enter args []) (ZY rs 0 fun x _=>x=v)):Qg P k args v:=h.go ha w
section
variable {P:Program}{f:Fr}{m:Qj}{ds:List DF}{K:St→Prop}{Q:Exit→St→Prop}{its:List Item}{d:Nat}
def Kc (P:Program)(b:RC)(Q:Exit→St→Prop):Exit→St→Prop:=Ks (fun st'=>Q2 P b st' Q) Q
def Kl (I:Nat→St→Prop)(n:Nat)(Q:Exit→St→Prop):Exit→St→Prop:=Ks (fun s=>∃k,k<n∧I k s) Q
theorem U7 {st:St}:Q2 P .skip st Q=Q .normal st:=id rfl
theorem QiX {st:St}:Q2 P .no st Q=False:=id rfl
theorem Lc {st:St}:Q2 P .lab st Q=Q .normal st:=id rfl
theorem Ld {st:St}:Q2 P .ret st Q=Q .ret st:=id rfl
theorem S7 {st:St}{i:Nat}:Q2 P (.exit i) st Q=Q (.exit i) st:=id rfl
theorem Hz {st:St}:Q2 P (.reg its) st Q=QE P its st (Q .normal):=id rfl
theorem S8 {st:St}:Q2 P (.draw its) st Q=QE P its st (Q .normal):=id rfl
theorem HA {st:St}{a b:RC}:Q2 P (.seq a b) st Q=Q2 P a st (Kc P b Q):=id rfl
theorem Pl {st:St}{i:Nat}{a:RC}:Q2 P (.block i a) st Q=Q2 P a st (Kb i Q):=id rfl
theorem Pm {st:St}{a:RC}:Q2 P (.scope a) st Q=Q2 P a st (Kg Q):=id rfl
def BY:AV→Bool
 |.bool b=>b
 |_=>false
def S9:AV→Prop
 |.bool _=>True
 |_=>False
theorem Ta (b:Bool):BY (.bool b)=b:=id rfl
theorem Le (b:Bool):S9 (.bool b)=True:=id rfl
def D3 (P:Program)(v:AV)(a b:RC)(st:St)(Q:Exit→St→Prop):Prop:=S9 v∧(BY v=true→Q2 P a st Q)∧(BY v=false→Q2 P b st Q)
theorem HB {a b:RC}{st:St}:D3 P (.bool true) a b st Q=Q2 P a st Q:=by simp[D3,S9,BY]
theorem Yc {a b:RC}{st:St}:D3 P (.bool false) a b st Q=Q2 P b st Q:=by simp[D3,S9,BY]
theorem Q3 {t:Bool}{a b:RC}{st:St}(h1:t=true→Q2 P a st Q)(h2:t=false→Q2 P b st Q):D3 P (.bool t) a b st Q:=⟨trivial,h1,h2⟩
theorem Yu {c:RA}{a b:RC}:Q2 P (.cond c a b) ⟨f,m,ds⟩ Q=D3 P (c.ev f) a b ⟨f,m,ds⟩ Q:=by
 simp only[Q2,D3];generalize c.ev f=v;cases v<;>simp[BY,S9]
theorem JJ {b:RC}{st:St}:Kc P b Q .normal st=Q2 P b st Q:=id rfl
theorem Tb {b:RC}{st:St}{i:Nat}:Kc P b Q (.exit i) st=Q (.exit i) st:=id rfl
theorem Tc {b:RC}{st:St}:Kc P b Q .ret st=Q .ret st:=id rfl
theorem Td {st:St}{i:Nat}:Kb i Q .normal st=Q .normal st:=id rfl
theorem FQ {st:St}{i j:Nat}:Kb i Q (.exit j) st=if j=i then Q .normal st else Q (.exit j) st:=id rfl
theorem Te {st:St}{i:Nat}:Kb i Q .ret st=Q .ret st:=id rfl
theorem Tf {st:St}:Kg Q .normal st=Q .normal st:=id rfl
theorem Th {st:St}{j:Nat}:Kg Q (.exit j) st=Q (.exit j) st:=id rfl
theorem Ti {st:St}:Kg Q .ret st=Q .ret st:=id rfl
theorem Tj {I:Nat→St→Prop}{n:Nat}{st:St}:Kl I n Q .normal st = ∃k,k<n∧I k st:=id rfl
theorem Tk {I:Nat→St→Prop}{n:Nat}{st:St}{j:Nat}:Kl I n Q (.exit j) st=Q (.exit j) st:=id rfl
theorem Tl {I:Nat→St→Prop}{n:Nat}{st:St}:Kl I n Q .ret st=Q .ret st:=id rfl
theorem Qi {a:RC}{st:St}(I:Nat→St→Prop)(n:Nat)(h0:I n st)(h:∀n st',I n st'→Q2 P a st' (Kl I n Q)):Q2 P (.loop a) st Q:=⟨I,n,h0,h⟩
theorem WD {st:St}:QE P [] st K=K st:=id rfl
def XO (x:Option AV):AV:=x.getD .top
def ZE (x:Option AV):Prop:=x.isSome=true
theorem JK (x:AV):XO (some x)=x:=id rfl
theorem WE (x:AV):ZE (some x)=True:=by simp[ZE]
theorem WF {vo:VO}:QE P (⟨some d,.val vo,none⟩ :: its) ⟨f,m,ds⟩ K=(ZE (Qw f m vo)∧QE P its ⟨QI f d (XO (Qw f m vo)),m,ds⟩ K):=by
 simp only[QE,ZM,H7,Ql];generalize Qw f m vo=v;cases v<;>simp[XO,ZE]
def mget (x:Option Qj):Qj:=x.getD []
def Pn (x:Option Qj):Prop:=x.isSome=true
theorem Qdl (x:Qj):mget (some x)=x:=id rfl
theorem Qgo (x:Qj):Pn (some x)=True:=by simp[Pn]
theorem Qbh {n:Nat}{p r:RA}:QE P (⟨none,.store n p r,none⟩ :: its) ⟨f,m,ds⟩ K=((r.ev f).cells.length=n∧(r.ev f).cells.all AV.leaf=true∧Pn (Xn m (p.ev f) (r.ev f).cells)∧QE P its ⟨f,mget (Xn m (p.ev f) (r.ev f).cells),ds⟩ K):=by
 simp only[QE,ZM,H7,Ql];generalize Xn m (p.ev f) (r.ev f).cells=v;cases v<;>simp[mget,Pn]
def EG (l s:Nat)(v:AV):Prop:=∃o,v=.ptr l s o
theorem Qdm (l s o:Nat):EG l s (.ptr l s o)=True:=eq_true ⟨o,rfl⟩
theorem EH {l s n:Nat}{p r:RA}:QE P (⟨none,.storev l s n p r,none⟩ :: its) ⟨f,m,ds⟩ K=(EG l s (p.ev f)∧(r.ev f).cells.length=n∧(r.ev f).cells.all AV.leaf=true∧Pn (Xn m (p.ev f) (r.ev f).cells)∧QE P its ⟨f,mget (Xn m (p.ev f) (r.ev f).cells),ds⟩ K):=by
 simp only[QE,ZM,H7,Ql,EG];generalize Xn m (p.ev f) (r.ev f).cells=v;cases v<;>simp[mget,Pn]
theorem EI {s:Nat}{z:List AV}:QE P (⟨some d,.allocN s z,none⟩ :: its) ⟨f,m,ds⟩ K=(Zu m s=true∧QE P its ⟨QI f d (.ptr 0 s 0),Am.put m 0 s (.cells z),ds⟩ K):=id rfl
theorem Qdn {s:Nat}{r:RA}:QE P (⟨some d,.boxN s r,none⟩ :: its) ⟨f,m,ds⟩ K=(Zu m s=true∧(r.ev f).cells.all AV.leaf=true∧QE P its ⟨QI f d (.ptr 0 s 0),Am.put m 0 s (.cells (r.ev f).cells),ds⟩ K):=id rfl
theorem Lf {sz len:Nat}{z:List AV}{ps:List (Nat×Nat×RA)}{y:List AV}(hy:fill f ps (X5 z sz len)=some y)(h1:AV.rfL y=true)(h2:y.all AV.leaf=true):QE P (⟨some d,.bsl sz len z ps,none⟩ :: its) ⟨f,m,ds⟩ K=QE P its ⟨QI f d (.list (Zt sz len (y.map nn0))),m,ds⟩ K:=by
 apply propext
 constructor
 ·rintro⟨y',h,_,_,k⟩;have h:fill f ps (X5 z sz len)=some y':=h;rw[hy]at h;cases h;exact k
 ·intro k;exact⟨y,hy,h1,h2,k⟩
theorem Qdo {z:AV}{r:RA}{k:IntKind}{n:Int}(hr:r.ev f=.int k n):QE P (⟨some d,.bsl 1 1 [z] [(0,1,r)],none⟩ :: its) ⟨f,m,ds⟩ K=QE P its ⟨QI f d (.list [.int k n]),m,ds⟩ K:=by
 refine Lf (y:=[.int k n]) ?_ rfl rfl;simp[fill,hr,AV.cells,AV.leaf,X5,List.range_succ,splice]
theorem NG {z:AV}{r:RA}{k:IntKind}{n:Int}(hr:r.ev f=.int k n)(h:QE P its ⟨QI f d (.list [.int k n]),m,ds⟩ K):QE P (⟨some d,.bsl 1 1 [z] [(0,1,r)],none⟩ :: its) ⟨f,m,ds⟩ K:=by
 rw[Qdo hr];exact h
theorem NH {sz:Nat}{z l:List AV}{r:RA}(hr:r.ev f=.agg l)(hl:l.length=sz)(h1:sz≠1)(hf:AV.rfL l=true)(hlf:l.all AV.leaf=true)(h:QE P its ⟨QI f d (.list [.agg (l.map nn0)]),m,ds⟩ K) :
  QE P (⟨some d,.bsl sz 1 z [(0,sz,r)],none⟩ :: its) ⟨f,m,ds⟩ K:=by
 have hz:(X5 z sz 1).length=sz:=by simp[X5]
 have hy:fill f [(0,sz,r)] (X5 z sz 1)=some l:=by
  simp only[fill,hr,AV.cells,hl,hlf,Qom,hz,QnV,and_self,if_true,splice,Qo6,Qok];rw[QoA (by omega),Qo1]
 rw[Lf hy hf hlf];have hc:Zt sz 1 (l.map nn0)=[.agg (l.map nn0)]:=by
  simp only[Zt,Qn4 h1];rw[Qox (by rw[QoS];omega)]
 rw[hc];exact h
theorem BX.mono {k:FuncId}{args:List AV}{m:Qj}{R R':AV→Qj→Prop}(h:BX P k args m R)(hr:∀x m',R x m'→R' x m'):BX P k args m R' :=
 ⟨h.1,fun G w vs h1 h2 u c cs hu=>by
  obtain⟨e,u',w',fr,⟨h3,G',x,v,m',h4,h5,h6⟩,h7⟩:=h.2 G w vs h1 h2 u c cs hu;exact⟨e,u',w',fr,⟨h3,G',x,v,m',h4,hr _ _ h5,h6⟩,h7⟩⟩
theorem ZG {slot site sz:Nat}{a:RC}{fr:Nat→Ob}(h1:f slot=.nils)(h2:fr site=.none)(h:Q2 P a ⟨QI f slot (.vec 0 site 1 0 0 false),QI fr site (.vec 1 sz []) :: m,ds⟩ Q):Q2 P (.gho (.vec slot site sz) a) ⟨f,fr :: m,ds⟩ Q:=by
 refine⟨_,?_,h⟩;have e:Qd (fr :: m) 0 site=.none:=h2;simp[JE,h1,e,Qo,Qy,Am.put]
theorem UB {fr:Nat→Ob}{site g sz n:Nat}{q:Bool}{xs:List AV}(hl:fr site=.vec g sz xs)(hn:n=xs.length):Xi (fr :: m) (.vec 0 site g 0 n q)=some xs:=by
 subst hn;simp[Xi,Am.Qd,hl]
theorem QK {sz bytes el:Nat}{s r:RA}{site g n:Nat}{fr:Nat→Ob}{xs ys:List AV}(hs:s.ev f=.vec 0 site g 0 n false)(hl:fr site=.vec g sz xs)(ht:Zn site el=true)(hn:n=xs.length)(hr:r.ev f=.list ys)(hz:ys.all (fun e=>e.cells.length==sz)=true)(hm:n+ys.length≤maxLen)(hb:(n+ys.length)*bytes≤140737488355328)
  (h:QE P its ⟨QI f d (.vec 0 site (g+1) 0 (n+ys.length) false),QI fr site (.vec (g+1) sz (xs++ys)) :: m,ds⟩ K):QE P (⟨some d,.app sz bytes el s r,none⟩ :: its) ⟨f,fr :: m,ds⟩ K:=by
 refine⟨0,site,g,n,xs,ys,hs,hl,ht,by omega,?_,hz,hm,hb,?_⟩
 ·show Xi (fr :: m) (r.ev f)=some ys;rw[hr];rfl
 ·subst hn;rw[QpC];exact h
theorem Zf {k:Nat}{args:List RA}{ys:List AV}{v:AV}(hk:Qg P k ys v)(hy:AV.stillL false m (args.map (RA.ev f))=some ys)(h1:AV.rfL ys=true)(h2:v.rf=true)(h3:AV.rfL (args.map (RA.ev f))=true∨v.nl=true)(h:QE P its ⟨QI f d v,m,ds⟩ K) :
  QE P (⟨some d,.call (.f k) args,none⟩ :: its) ⟨f,m,ds⟩ K:=by
 refine⟨k,[],[],ys,v,rfl,?_,h1,hk,h2,?_,h⟩
 ·simpa using hy
 ·simpa using h3
theorem aC {k:Nat}{args:List RA}{ys:List AV}{v:AV}(hk:Qg P k ys v)(h:QE P its ⟨QI f d v,m,ds⟩ K)(hy:AV.stillL false m (args.map (RA.ev f))=some ys:=by rfl)(h1:AV.rfL ys=true:=by rfl)(h2:v.rf=true:=by rfl)(h3:AV.rfL (args.map (RA.ev f))=true∨v.nl=true:=by exact .inl rfl) :
  QE P (⟨some d,.call (.f k) args,none⟩ :: its) ⟨f,m,ds⟩ K:=Zf hk hy h1 h2 h3 h
theorem Po {cnt:Bool}{k:Nat}{s c:RA}{t:List UInt8}{b:Int}(hs:s.ev f=.str t)(hb:c.ev f=.int .u8 b)(h:QE P its ⟨QI f d (.int .i64 (FJ cnt t b)),m,ds⟩ K):QE P (⟨some d,.xb cnt k s c,none⟩ :: its) ⟨f,m,ds⟩ K :=
 ⟨t,b,hs,hb,h⟩
theorem NI {s:Nat}{r:RA}{fr:Nat→Ob}{t:List UInt8}(ht:r.ev f=.str t)(hn:fr s=.none)(h:QE P its ⟨QI f d (.ptr 0 s 0),QI fr s (.iter (.str t) 0) :: m,ds⟩ K) :
  QE P (⟨some d,.rngs s r,none⟩ :: its) ⟨f,fr :: m,ds⟩ K:=by
 refine⟨t,ht,?_,h⟩;show(match fr s with|.none=>true|_=>false)=true;rw[hn]
theorem NJ {s p:Nat}{r:RA}{fr:Nat→Ob}{t:List UInt8}(hr:r.ev f=.ptr 0 s 0)(hl:fr s=.iter (.str t) p)
  (h1:p<t.length→QE P its ⟨QI f d (.tup [.bool true,.int .i64 (p:Nat),.int .i32 ((X6 t p).1:Nat)]),QI fr s (.iter (.str t) (p+(X6 t p).2)) :: m,ds⟩ K)
  (h2:t.length≤p→QE P its ⟨QI f d (.tup [.bool false]),fr :: m,ds⟩ K) :
  QE P (⟨some d,.nxts r,none⟩ :: its) ⟨f,fr :: m,ds⟩ K :=
 ⟨0,s,t,p,hr,hl,h1,h2⟩
theorem Qh {k:Nat}{args:List RA}{ys:List AV}{v:AV}{m':Qj}(hk:Qe P k ys m fun x m1=>x=v∧m1=m')(hy:args.map (RA.ev f)=ys)(h:QE P its ⟨QI f d v,m',ds⟩ K) :
  QE P (⟨some d,.callF (.f k) args,none⟩ :: its) ⟨f,m,ds⟩ K:=by
 refine⟨k,[],[],v,m',rfl,?_,h⟩;show Qe P k (args.map (RA.ev f)++[]) m fun x m1=>x=v∧m1=m'
 rw[Qo1,hy];exact hk
theorem QM {k:Nat}{args:List RA}{ys:List AV}{R:AV→Qj→Prop}(hk:Qe P k ys m R)(hy:args.map (RA.ev f)=ys)(h:∀x m',R x m'→m'.length=m.length→QE P its ⟨QI f d x,m',ds⟩ K) :
  QE P (⟨some d,.callG (.f k) args,none⟩ :: its) ⟨f,m,ds⟩ K:=by
 refine⟨k,[],[],R,rfl,?_,h⟩;show Qe P k (args.map (RA.ev f)++[]) m R;rw[Qo1,hy];exact hk
theorem G9 {site el sz bytes:Nat}{z:List AV}{l c:RA}{kl kc:IntKind}{n k:Nat}{fr:Nat→Ob}(hl:l.ev f=.int kl (n:Int))(hc:c.ev f=.int kc (k:Int))(hnk:n≤k)(hk:k≤9223372036854775807)(hb:bytes*k≤281474976710656)(hs:fr site=.none)
  (h:QE P its ⟨QI f d (.vec 0 site 1 0 n false),QI fr site (.vec 1 sz (List.replicate n (K7 sz z))) :: m,ds⟩ K):QE P (⟨some d,.mk site el sz bytes z l c,none⟩ :: its) ⟨f,fr :: m,ds⟩ K:=by
 have e:Qd (fr :: m) 0 site=.none:=hs;refine⟨kl,kc,n,k,hl,hc,hnk,hk,hb,?_,?_⟩
 ·show Qo (Qd (fr :: m) 0 site)=true;rw[e];rfl
 ·have hg:Qy (fr :: m) 0 site=1:=by unfold Qy;rw[e]
  simp only[hg];exact h
theorem EJ {site el:Nat}{r:RA}{s:List UInt8}{fr:Nat→Ob}(hr:r.ev f=.str s)(hl:s.length≤9223372036854775807)(hs:fr site=.none)
  (h:QE P its ⟨QI f d (.vec 0 site 1 0 s.length false),QI fr site (.vec 1 1 (Qu s)) :: m,ds⟩ K):QE P (⟨some d,.s2b site el r,none⟩ :: its) ⟨f,fr :: m,ds⟩ K:=by
 have e:Qd (fr :: m) 0 site=.none:=hs;refine⟨s,hr,hl,?_,?_⟩
 ·show Qo (Qd (fr :: m) 0 site)=true;rw[e];rfl
 ·have hg:Qy (fr :: m) 0 site=1:=by unfold Qy;rw[e]
  simp only[hg];exact h
theorem Gn {el:Nat}{s r:RA}{l site g n:Nat}{xs:List AV}{t:List UInt8}(hs:s.ev f=.vec l site g 0 n false)(hl:Qd m l site=.vec g 1 xs)(ht:Zn site el=true)(hn:n=xs.length)(hr:r.ev f=.str t)(hm:n+t.length≤140737488355328)
  (h:QE P its ⟨QI f d (.vec l site (g+1) 0 (n+t.length) false),Am.put m l site (.vec (g+1) 1 (xs++Qu t)),ds⟩ K):QE P (⟨some d,.appS el s r,none⟩ :: its) ⟨f,m,ds⟩ K:=by
 subst hn;refine⟨l,site,g,_,xs,t,hs,hl,ht,QnV _,hr,hm,?_⟩;rw[QpC];exact h
theorem Tm {s:Nat}{a:RC}{fr:Nat→Ob}:Q2 P (.gho (.drop s) a) ⟨f,fr :: m,ds⟩ Q=((fr s).isRow=false∧Q2 P a ⟨fun i=>(f i).scrub s,QI (fun i=>(fr i).scrub s) s .none :: m,ds.map (DF.scrub s)⟩ Q):=by
 apply propext
 have hn:Hs (fr :: m) s=!(fr s).isRow:=by
  unfold Hs;show(match fr s with|.vec .. => false|_=>true)=_;cases fr s<;>rfl
 constructor
 ·rintro⟨st',h1,h2⟩;simp only[JE,hn]at h1;cases hr:(fr s).isRow with
  |true=>rw[hr]at h1;cases h1
  |false=>rw[hr]at h1;cases h1;exact⟨rfl,h2⟩
 ·rintro⟨h1,h2⟩;refine⟨_,?_,h2⟩;simp only[JE,hn,h1];rfl
theorem Tn (s:Nat):AV.top.scrub s=.top:=id rfl
theorem To (s:Nat)(k:IntKind)(n:Int):(AV.int k n).scrub s=.int k n:=id rfl
theorem RI (s:Nat)(b:Bool):(AV.bool b).scrub s=.bool b:=id rfl
theorem Tp (s:Nat)(b:List UInt8):(AV.str b).scrub s=.str b:=id rfl
theorem RJ (s:Nat):AV.nils.scrub s=.nils:=id rfl
theorem RK (s:Nat):AV.nilp.scrub s=.nilp:=id rfl
theorem RL (s:Nat):AV.nili.scrub s=.nili:=id rfl
theorem RM (s:Nat):AV.nilf.scrub s=.nilf:=id rfl
theorem RN (s:Nat)(l:List AV):(AV.list l).scrub s=.list l:=id rfl
theorem Tq (s l t g o n:Nat)(q:Bool):(AV.vec l t g o n q).scrub s=.vec l t g o n q:=id rfl
theorem Tr (s:Nat)(l:List AV):(AV.agg l).scrub s=.agg (AV.scrubL s l):=id rfl
theorem Ts (s:Nat)(l:List AV):(AV.tup l).scrub s=.tup (AV.scrubL s l):=id rfl
theorem Tt (s t o:Nat):(AV.ptr 0 t o).scrub s=bif Nat.beq t s then .top else .ptr 0 t o:=id rfl
theorem RP (s l t o:Nat):(AV.ptr (l+1) t o).scrub s=.ptr (l+1) t o:=id rfl
theorem Tu (s:Nat):AV.scrubL s []=[]:=id rfl
theorem RQ (s:Nat)(x:AV)(l:List AV):AV.scrubL s (x :: l)=x.scrub s :: AV.scrubL s l:=id rfl
theorem M5 (s:Nat)(l:List AV):(Ob.cells l).scrub s=.cells (AV.scrubL s l):=id rfl
theorem Tv (s g z:Nat)(l:List AV):(Ob.vec g z l).scrub s=.vec g z l:=id rfl
theorem RS (s:Nat):Ob.none.scrub s=.none:=id rfl
theorem DG (s:Nat)(o:Ob):(o.scrub s).isRow=o.isRow:=by cases o<;>rfl
theorem M6 (l:List AV):(Ob.cells l).isRow=false:=id rfl
theorem RT:Ob.none.isRow=false:=id rfl
def JL (P:Program)(v:AV)(w:Bool)(d:Option Nat)(ro:RO)(its:List Item)(st:St)(K:St→Prop):Prop :=
 match v with
 |.bool b=>(b=w→QE P (⟨d,ro,none⟩ :: its) st K)∧(b=(!w)→QE P its { st with f:=Ql st.f d (.tup []) } K)
 |.tup l=>l=[]∧QE P its { st with f:=Ql st.f d (.tup []) } K
 |_=>False
theorem XZ {b:Bool}{d:Option Nat}{ro:RO}{st:St}(h1:b=true→QE P (⟨d,ro,none⟩ :: its) st K)(h2:b=false→QE P its { st with f:=Ql st.f d (.tup []) } K):JL P (.bool b) true d ro its st K:=⟨h1,h2⟩
theorem X0 {b:Bool}{d:Option Nat}{ro:RO}{st:St}(h1:b=false→QE P (⟨d,ro,none⟩ :: its) st K)(h2:b=true→QE P its { st with f:=Ql st.f d (.tup []) } K):JL P (.bool b) false d ro its st K:=⟨h1,h2⟩
theorem Yd {d:Option Nat}{ro:RO}{st:St}:JL P (.bool true) true d ro its st K=QE P (⟨d,ro,none⟩ :: its) st K:=by simp[JL]
theorem VU {d:Option Nat}{ro:RO}{st:St}:JL P (.bool false) false d ro its st K=QE P (⟨d,ro,none⟩ :: its) st K:=by simp[JL]
theorem NK {ro:RO}:JL P (.bool true) false (some d) ro its ⟨f,m,ds⟩ K=QE P its ⟨QI f d (.tup []),m,ds⟩ K:=by simp[JL,Ql]
theorem UC {ro:RO}:JL P (.bool false) true (some d) ro its ⟨f,m,ds⟩ K=QE P its ⟨QI f d (.tup []),m,ds⟩ K:=by simp[JL,Ql]
theorem VV {ro:RO}{w:Bool}:JL P (.tup []) w (some d) ro its ⟨f,m,ds⟩ K=QE P its ⟨QI f d (.tup []),m,ds⟩ K:=by simp[JL,Ql]
theorem FR {ro:RO}{st:St}:JL P (.bool true) false none ro its st K=QE P its st K:=by simp[JL,Ql]
theorem FS {ro:RO}{st:St}:JL P (.bool false) true none ro its st K=QE P its st K:=by simp[JL,Ql]
theorem NL {ro:RO}{w:Bool}{st:St}:JL P (.tup []) w none ro its st K=QE P its st K:=by simp[JL,Ql]
theorem DH {ro:RO}{j:Nat}{w:Bool}{d:Option Nat}:QE P (⟨d,ro,some (j,w)⟩ :: its) ⟨f,m,ds⟩ K=JL P (f j) w d ro its ⟨f,m,ds⟩ K:=by
 simp only[QE,ZM,JL]
 all_goals(generalize f j=v;cases v<;>rfl)
theorem VW {rs:List RR}{n:Nat}{R:AV→Qj→Prop}{fr:Nat→Ob}:ZY rs n R .ret ⟨f,fr :: m,ds⟩=(ds=[]∧ZE (W9 ⟨f,fr :: m,ds⟩ rs)∧ZE (YO (fr :: m) (XO (W9 ⟨f,fr :: m,ds⟩ rs)))∧m.length=n∧R (XO (YO (fr :: m) (XO (W9 ⟨f,fr :: m,ds⟩ rs)))) m):=by
 apply propext
 constructor
 ·rintro⟨_,h1,x,y,fr',m',h2,h3,h4,h5,h6⟩;cases h4;have h1:ds=[]:=h1;rw[h2,JK,h3];exact⟨h1,rfl,rfl,h5,h6⟩
 ·rintro⟨h1,h2,h3,h4,h5⟩;generalize hv:W9 ⟨f,fr :: m,ds⟩ rs=v at h2 h3 h5;cases v with
  |none=>cases h2
  |some x=>
   rw[JK]at h3 h5;cases hl:YO (fr :: m) x with
   |none=>rw[hl]at h3;cases h3
   |some y=>
    rw[hl]at h5;exact⟨.inr rfl,h1,x,y,fr,m,hv,hl,rfl,h4,h5⟩
theorem VX {rs:List RR}{n:Nat}{R:AV→Qj→Prop}{st:St}:ZY rs n R .normal st=ZY rs n R .ret st:=by
 simp[ZY]
theorem WG {α:Type}(f:Nat→α)(d:Nat)(x:α)(i:Nat):QI f d x i=bif Nat.beq i d then x else f i:=id rfl
theorem Kt (a b:Nat):Nat.beq a b=(a==b):=by
 cases h:Nat.beq a b with
 |true=>rw[QnS h];simp
 |false=>have:=Nat.ne_of_beq_eq_false h;simp[this]
theorem Ku {s idx site sz:Nat}{a:RC}{fr:Nat→Ob}{xs:List AV}(h1:fr s=.cells xs)(h2:xs[idx]? = some .nils)(h3:fr site=.none)(hne:Nat.beq site s=false)(h:Q2 P a ⟨f,QI (QI fr site (.vec 1 sz [])) s (.cells (xs.set idx (.vec 0 site 1 0 0 false))) :: m,ds⟩ Q):Q2 P (.gho (.vecc s idx site sz) a) ⟨f,fr :: m,ds⟩ Q:=by
 refine⟨_,?_,h⟩;have e1:Qd (fr :: m) 0 s=.cells xs:=h1;have e:Qd (fr :: m) 0 site=.none:=h3;simp[JE,e1,h2,e,Qo,Qy,Am.put,hne]
theorem Da {α:Type}(f:Nat→α)(d:Nat)(x y:α):QI (QI f d x) d y=QI f d y:=by
 funext i;by_cases h:i=d
 ·subst h;rw[Q4,Q4]
 ·rw[Q8 _ _ h,Q8 _ _ h,Q8 _ _ h]
theorem VY {α:Type}(f:Nat→α)(d e:Nat)(x y:α)(hde:d≠e):QI (QI f d x) e y=QI (QI f e y) d x:=by
 funext i;by_cases h:i=d
 ·subst h;rw[Q4,Q8 _ _ hde,Q4]
 ·by_cases h2:i=e
  ·subst h2;rw[Q4,Q8 _ _ h,Q4]
  ·rw[Q8 _ _ h2,Q8 _ _ h,Q8 _ _ h,Q8 _ _ h2]
theorem Qbi {α:Type}(f:Nat→α)(d:Nat)(x:α)(h:f d=x):QI f d x=f:=by
 funext i;by_cases hi:i=d
 ·subst hi;rw[Q4,h]
 ·rw[Q8 _ _ hi]
theorem Gp (n:Nat):(RA.t n).ev f=f n:=id rfl
theorem NM (x:AV):(RA.c x).ev f=x:=id rfl
theorem e_f (k:Nat):(RA.f k).ev f=.fn (.func k) [] []:=id rfl
end
end Go.Proofs.YtgnfjkkfbcnbfaaGreatDoor.Am
namespace Go.Proofs.YtgnfjkkfbcnbfaaGreatDoor.Br
open Go Am Go.RowKit Go.WideShapes Go.ChangeShapes Go.ChangeAt
theorem VZ {P:Program}{k:FuncId}{args:List AV}{v:Bool}(h:Qg P k args (.bool v)){stab:Nat→Nat→Option SV}(ht:∀b o v,J0 b o=some v→stab b o=some v){w:World}(hs:∀b o u,stab b o=some u→rd w b o u){vs:List Value}(hr:RepL (Gh.bare stab ht) args vs) :
  Calls P k ⟨vs⟩ w fun e w'=>e=.returned (.bool v)∧Below w.heap.size w w' :=
 (h.2 (Gh.bare stab ht) w vs hr (MR.bare hs)).mono fun e w' ⟨G',x,u,m',he,hx,hu,_,hex,_⟩=>by
  subst hx;cases hu;exact⟨he,hex.os,hex.tape,hex.output,hex.size,fun b hb=>(hex.old b hb Gh.bare_mine).1⟩
theorem Qbj {G:Gh}(s:ByteArray):Rep G (.str s.data.toList) (.string s):=by
 obtain⟨⟨l⟩⟩:=s;exact .str l
theorem V0 {n:Int}(h:(Lit.int .u64 n).wf=true):0≤n:=by
 simp[Lit.wf,IntKind.min,IntKind.max,IntKind.bits,IntKind.signed]at h;omega
theorem Gq {n:Int}(h:(Lit.int .u64 n).wf=true):n<18446744073709551616:=by
 simp[Lit.wf,IntKind.min,IntKind.max,IntKind.bits,IntKind.signed]at h;omega
section
variable {H:Type}{enc:TypeId×Value→H}{P:Program}
theorem Vn {f:Func}{s:ChangeSpec}{G7 fresh handsOn again:Bool}{W W':World}{args:Array Value}{v:Value}{ds gs:List (DataW H)}{before pa pv:List MemPlace}
  (hW:DataW.Whole enc P f.params.toList s.vars G7 W args.toList ds gs before)
  (hres:∀(b:Nat) (sp:Nat→Bool) (hd:Bool),DataW.TrodAll enc P W' b sp hd f.resultTypes.toList (v.resultList f.resultTypes.size) (s.fn H (ds++gs)).results [])
  (hargs:∀sp:Nat→Bool,(∀p∈before,sp p.block=true)→DataW.TrodAll enc P W' 0 sp true f.params.toList args.toList (s.fn H (ds++gs)).args pa)
  (hvars:∀sp:Nat→Bool,(∀p∈before,sp p.block=true)→DataW.TrodVars enc P W' sp s.vars (s.fn H (ds++gs)).vars pv)
  (hps:before=pa++pv) (hb:Below W.heap.size W W')
  (hok:∀(j:Nat) (t:TypeId) (r:Value),f.resultTypes[j]? = some t→(v.resultList f.resultTypes.size)[j]? = some r→Value.okWide P W' .any 0 t r) :
  s.post enc P f G7 fresh handsOn again W args v W':=by
 have hlt:∀p∈before,p.block<W.heap.size:=fun p hp=>hW.lt p hp
 have hold:∀p∈before,(fun b=>decide (b<W.heap.size)) p.block=true:=fun p hp=>by simpa using hlt p hp
 refine⟨ds,gs,before,[],pa,pv,hW,hres _ _ _,hargs _ hold,hvars _ hold,World.keptBut_mono (fun p hp=>⟨hp,?_⟩) (hb.frame (·∈before)),fun _=>?_⟩
 ·rw[hps,Qph]at hp;exact Or.inr hp
 ·obtain⟨_,_,_,_,_,hz,hn⟩:=hW;refine⟨hok,_,_,([]++pa)++pv,⟨[]++pa,pv,trodAll_append (hargs _ (fun _ _=>rfl)) (hres _ _ _),hvars _ (fun _ _=>rfl),rfl,?_,?_⟩,?_⟩
  ·intro b off hp;have hin:MemPlace.cell b off∈before:=by rw[hps];simpa using hp
   rw[hb.frozen (hlt _ hin)];exact hz b off hin
  ·intro ha;have:=hn ha;rw[hps]at this
   simpa using this
  ·intro p hp _;rw[hps]
   simpa using hp
end
section
variable {H:Type}{enc:TypeId×Value→H}{P:Program}{w:World}{base:Nat}{sp:Nat→Bool}{held:Bool}
end
end Go.Proofs.YtgnfjkkfbcnbfaaGreatDoor.Br
namespace Go.Proofs.YtgnfjkkfbcnbfaaGreatDoor.Am
open Go
variable {P:Program}{f:Fr}{m:Qj}{ds:List DF}{its:List Item}{d:Nat}
theorem Db {Q:Exit→St→Prop}{a:RC}{slot site g sz n:Nat}{fr:Nat→Ob}{xs:List AV}(h1:f slot=.vec 0 site g 0 n false)(h2:fr site=.vec g sz xs)(hn:n≤xs.length)
  (h:Q2 P a ⟨QI f slot (.list (xs.take n)),QI fr site (.vec (g+1) sz []) :: m,ds⟩ Q):Q2 P (.gho (.pub slot site) a) ⟨f,fr :: m,ds⟩ Q:=by
 refine⟨_,?_,h⟩;have e:Qd (fr :: m) 0 site=.vec g sz xs:=h2;simp only[JE,h1,e];rw[show Nat.beq site site=true from Nat.beq_refl site,show Nat.beq g g=true from Nat.beq_refl g,show Nat.ble (0+n) xs.length=true from Nat.ble_eq_true_of_le (by omega)];rfl
def Dc:List Nat→RC→RC
 | [],a=>a
 |s :: l,a=>.gho (.drop s) (Dc l a)
def D4:List Nat→AV→AV
 | [],x=>x
 |s :: l,x=>D4 l (x.scrub s)
def Dd:List Nat→Ob→Ob
 | [],x=>x
 |s :: l,x=>Dd l (x.scrub s)
theorem RU (l:List Nat):Dd l .none=.none:=by
 induction l with
 |nil=>rfl
 |cons s l ih=>exact ih
theorem QL {Q:Exit→St→Prop}{a:RC}(l:List Nat):∀ {f:Fr} {fr:Nat→Ob},(∀s∈l,(fr s).isRow=false)→
  (∀f' fr',(∀i,f' i=D4 l (f i))→(∀i,i∉l→fr' i=Dd l (fr i))→(∀i∈l,fr' i=.none)→Q2 P a ⟨f',fr' :: m,[]⟩ Q)→Q2 P (Dc l a) ⟨f,fr :: m,[]⟩ Q:=by
 induction l with
 |nil=>intro f fr _ h;exact h f fr (fun _=>rfl) (fun _ _=>rfl) (fun _ h=>by cases h)
 |cons s l ih=>
  intro f fr hr h;show Q2 P (.gho (.drop s) (Dc l a)) _ _;rw[Tm];refine⟨hr s (by simp),?_⟩;show Q2 P (Dc l a) ⟨_,_ :: m,[]⟩ Q;refine ih ?_ ?_
  ·intro t ht;by_cases e:t=s
   ·subst e;rw[Q4];rfl
   ·rw[Q8 _ _ e,DG];exact hr t (by simp[ht])
  ·intro f' fr' h1 h2 h3;refine h f' fr' h1 ?_ ?_
   ·intro i hi;rw[h2 i (fun h=>hi (Qod _ h)),Q8 _ _ (fun e=>hi (by rw[e];exact Qof))];rfl
   ·intro i hi;by_cases hl:i∈l
    ·exact h3 i hl
    ·have e:i=s:=by
      rcases Qpk.1 hi with e|e
      ·exact e
      ·exact absurd e hl
     rw[h2 i hl,e,Q4,RU]
def XP:Ob→Nat
 |.vec g _ _=>g+1
 |_=>1
theorem Kv {fr:Nat→Ob}{s:Nat}:Qy (fr :: m) 0 s=XP (fr s):=by
 unfold Qy XP;rfl
theorem J1 {K:St→Prop}{neg:Bool}{r:RA}{ys:List AV}(hr:r.ev f=.list ys)(h0:QE P its ⟨QI f d (.bool neg),m,ds⟩ K)(h1:ys=[]∨QT ys=[]→QE P its ⟨QI f d (.bool (!neg)),m,ds⟩ K):QE P (⟨some d,.isnil neg r,none⟩ :: its) ⟨f,m,ds⟩ K:=by
 refine⟨ys,?_,fun _=>h0,fun e=>h1 ?_⟩
 ·show Xi m (r.ev f)=some ys;rw[hr];rfl
 ·rcases e with e|e
  ·have e:r.ev f=.nils:=e;rw[hr]at e;cases e
  ·exact .inr e
theorem UD {K:St→Prop}{site sz bytes el:Nat}{s r:RA}{fr:Nat→Ob}{xs ys:List AV}(hs:s.ev f=.lcap xs)(hr:r.ev f=.list ys)(hne:ys≠[])(hxz:xs.all (fun e=>e.cells.length==sz)=true)(hsz:ys.all (fun e=>e.cells.length==sz)=true)(hm:xs.length+ys.length≤maxLen)(hb:(xs.length+ys.length)*bytes≤140737488355328)(hro:Qo (fr site)=true)
  (h:QE P its ⟨QI f d (.vec 0 site (XP (fr site)) 0 (xs.length+ys.length) false),QI fr site (.vec (XP (fr site)) sz (xs++ys)) :: m,ds⟩ K):QE P (⟨some d,.appc site sz bytes el s r,none⟩ :: its) ⟨f,fr :: m,ds⟩ K:=by
 refine⟨xs,ys,hs,?_,hne,hxz,hsz,hm,hb,hro,h⟩;show Xi (fr :: m) (r.ev f)=some ys;rw[hr];rfl
theorem Jn {K:St→Prop}{site sz:Nat}{fr:Nat→Ob}(hs:Qo (fr site)=true)
  (h:QE P its ⟨QI f d (.vec 0 site (XP (fr site)) 0 0 false),QI fr site (.vec (XP (fr site)) sz []) :: m,ds⟩ K):QE P (⟨some d,.bsl0 site sz,none⟩ :: its) ⟨f,fr :: m,ds⟩ K :=
 ⟨hs,h⟩
theorem NN {K:St→Prop}{site sz len:Nat}{z:List AV}{ps:List (Nat×Nat×RA)}{fr:Nat→Ob}{y:List AV}(hy:fill f ps (X5 z sz len)=some y)(h1:AV.rfL y=true)(h2:y.all AV.leaf=true)(hs:Qo (fr site)=true)
  (h:QE P its ⟨QI f d (.vec 0 site (XP (fr site)) 0 len false),QI fr site (.vec (XP (fr site)) sz (Zt sz len (y.map nn0))) :: m,ds⟩ K):QE P (⟨some d,.bslv site sz len z ps,none⟩ :: its) ⟨f,fr :: m,ds⟩ K :=
 ⟨y,hy,h1,h2,hs,h⟩
theorem FT {K:St→Prop}{site sz:Nat}{z l:List AV}{r:RA}{fr:Nat→Ob}(hr:r.ev f=.agg l)(hl:l.length=sz)(h1:sz≠1)(hf:AV.rfL l=true)(hlf:l.all AV.leaf=true)(hs:Qo (fr site)=true)
  (h:QE P its ⟨QI f d (.vec 0 site (XP (fr site)) 0 1 false),QI fr site (.vec (XP (fr site)) sz [.agg (l.map nn0)]) :: m,ds⟩ K):QE P (⟨some d,.bslv site sz 1 z [(0,sz,r)],none⟩ :: its) ⟨f,fr :: m,ds⟩ K:=by
 have hz:(X5 z sz 1).length=sz:=by simp[X5]
 have hy:fill f [(0,sz,r)] (X5 z sz 1)=some l:=by
  simp only[fill,hr,AV.cells,hl,hlf,Qom,hz,QnV,and_self,if_true,splice,Qo6,Qok];rw[QoA (by omega),Qo1]
 have hc:Zt sz 1 (l.map nn0)=[.agg (l.map nn0)]:=by
  simp only[Zt,Qn4 h1];rw[Qox (by rw[QoS];omega)]
 refine NN hy hf hlf hs ?_;rw[hc];exact h
theorem Zw {Q:Exit→St→Prop}{a:RC}{slot site l S g sz o n:Nat}{q:Bool}{fr:Nat→Ob}{xs:List AV}(h1:f slot=.vec 0 site g o n q)(h2:fr site=.vec g sz xs)(hl:l<m.length)(hS:S<2000)(hr:Qo (Qd m l S)=true)
  (h:Q2 P a ⟨QI f slot (.vec (l+1) S (Qy m l S) o n q),QI fr site (.vec (g+1) sz []) :: Am.put m l S (.vec (Qy m l S) sz xs),ds⟩ Q):Q2 P (.gho (.give slot site (l+1) S) a) ⟨f,fr :: m,ds⟩ Q:=by
 refine⟨_,?_,h⟩;have e:Qd (fr :: m) 0 site=.vec g sz xs:=h2;have e1:Qo (Qd (fr :: m) (l+1) S)=true:=hr;have e2:Qy (fr :: m) (l+1) S=Qy m l S:=rfl;simp only[JE,h1,e,e1,e2];rw[show Nat.beq site site=true from Nat.beq_refl site,show Nat.beq g g=true from Nat.beq_refl g,show Nat.blt (l+1) (fr :: m).length=true from Nat.ble_eq_true_of_le (by simp;omega),show Nat.blt S 2000=true from Nat.ble_eq_true_of_le hS];rfl
theorem V1 {Q:Exit→St→Prop}{a:RC}{slot:Nat}(h1:f slot=.nils)(h:Q2 P a ⟨QI f slot (.list []),m,ds⟩ Q):Q2 P (.gho (.lst slot) a) ⟨f,m,ds⟩ Q:=by
 refine⟨_,?_,h⟩;simp only[JE,h1]
theorem FU {K:St→Prop}{k:Nat}{r:RA}{args:List RA}{fa fb ys:List AV}{v:AV}{m':Qj}(hr:r.ev f=.fn (.func k) fa fb)(hk:Qe P k ys m fun x m1=>x=v∧m1=m')(hy:fa++args.map (RA.ev f)++fb=ys)(h:QE P its ⟨QI f d v,m',ds⟩ K) :
  QE P (⟨some d,.callF r args,none⟩ :: its) ⟨f,m,ds⟩ K:=by
 refine⟨k,fa,fb,v,m',hr,?_,h⟩;show Qe P k (fa++args.map (RA.ev f)++fb) m fun x m1=>x=v∧m1=m'
 rw[hy];exact hk
theorem WH {K:St→Prop}{k:Nat}{r:RA}{args:List RA}{fa fb ys:List AV}{v:AV}(hr:r.ev f=.fn (.func k) fa fb)(hk:Qg P k ys v)(hy:AV.stillL false m (fa++args.map (RA.ev f)++fb)=some ys)(h1:AV.rfL ys=true)(h2:v.rf=true)
  (h3:AV.rfL (fa++args.map (RA.ev f)++fb)=true∨v.nl=true) (h:QE P its ⟨QI f d v,m,ds⟩ K):QE P (⟨some d,.call r args,none⟩ :: its) ⟨f,m,ds⟩ K :=
 ⟨k,fa,fb,ys,v,hr,hy,h1,hk,h2,h3,h⟩
end Go.Proofs.YtgnfjkkfbcnbfaaGreatDoor.Am
namespace Go.Proofs.YtgnfjkkfbcnbfaaGreatDoor.Am
open Go
abbrev V2:=FuncId→Option (RC×List RR×Nat)
def FV (P:Program)(T:V2):Prop :=
 ∀k c rs N, T k=some (c, rs, N)→∃fn body, P.funcs[k]? = some fn∧fn.body=some body∧(fn.name == "runtime.NumGoroutine")=false∧fn.ntmps=N∧ZT P N c body=true∧KX P fn.results.toList rs=true
abbrev YJ:=FuncId→List AV→Qj→Option (AV×Qj)
def FX:Ob→Ob→Bool
 |.cells [.vec l s g o n q],.cells [.vec l' s' g' o' n' q']=>Nat.beq l l'&&Nat.beq s s'&&Nat.beq g g'&&Nat.beq o o'&&Nat.beq n n'&&q==q'
 |_,_=>false
theorem Tw:∀ {a b:Ob},FX a b=true→a=b:=by
 intro a b h;unfold FX at h;split at h
 ·simp only[Qol,Qn2]at h;obtain⟨⟨⟨⟨⟨h1,h2⟩,h3⟩,h4⟩,h5⟩,h6⟩:=h;rw[QnS h1,QnS h2,QnS h3,QnS h4,QnS h5,h6]
 ·cases h
def Zc (call:YJ)(d:Option Nat)(op:RO)(st:St):Option St :=
 match op with
 |.val vo=>match Qw st.f st.m vo with
  |some x=>some { st with f:=Ql st.f d x }
  |none=>none
 |.allocN s z=>bif Zu st.m s then some { st with m:=Am.put st.m 0 s (.cells z),f:=Ql st.f d (.ptr 0 s 0) } else none
 |.boxN s r=>bif Zu st.m s&&(r.ev st.f).cells.all AV.leaf then some { st with m:=Am.put st.m 0 s (.cells (r.ev st.f).cells),f:=Ql st.f d (.ptr 0 s 0) } else none
 |.store n p r=>bif Nat.beq (r.ev st.f).cells.length n&&(r.ev st.f).cells.all AV.leaf then match Xn st.m (p.ev st.f) (r.ev st.f).cells with
   |some m'=>some { st with m:=m',f:=Ql st.f d (.tup []) }
   |none=>none
  else none
 |.storev l s n p r=>match p.ev st.f with
  |.ptr l' s' _=>bif Nat.beq l' l&&Nat.beq s' s&&Nat.beq (r.ev st.f).cells.length n&&(r.ev st.f).cells.all AV.leaf then match Xn st.m (p.ev st.f) (r.ev st.f).cells with
    |some m'=>some { st with m:=m',f:=Ql st.f d (.tup []) }
    |none=>none
   else none
  |_=>none
 |.app sz bytes el s r=>match s.ev st.f with
  |.vec l site g 0 n false=>match Qd st.m l site with
   |.vec g' sz' xs=>match Xi st.m (r.ev st.f)with
    |some ys=>bif Nat.beq g' g&&Nat.beq sz' sz&&Zn site el&&Nat.ble n xs.length&&ys.all (fun e=>e.cells.length==sz)&&Nat.ble (n+ys.length) maxLen&&Nat.ble ((n+ys.length)*bytes) 140737488355328 then
      some { st with m:=Am.put st.m l site (.vec (g+1) sz (xs.take n++ys)),f:=Ql st.f d (.vec l site (g+1) 0 (n+ys.length) false) }
     else none
    |none=>none
   |_=>none
  |_=>none
 |.call f args=>match f.ev st.f with
  |.fn (.func k) fa fb=>match AV.stillL false st.m (fa++args.map (RA.ev st.f)++fb)with
   |some ys=>bif AV.rfL ys then match call k ys []with
     |some (v,_)=>bif v.rf&&(AV.rfL (fa++args.map (RA.ev st.f)++fb)||v.nl)then some { st with f:=Ql st.f d v } else none
     |none=>none
    else none
   |none=>none
  |_=>none
 |.callF f args=>match f.ev st.f with
  |.fn (.func k) fa fb=>match call k (fa++args.map (RA.ev st.f)++fb) st.m with
   |some (v,m')=>some { st with m:=m',f:=Ql st.f d v }
   |none=>none
  |_=>none
 |.callG f args=>match f.ev st.f with
  |.fn (.func k) fa fb=>match call k (fa++args.map (RA.ev st.f)++fb) st.m with
   |some (v,m')=>some { st with m:=m',f:=Ql st.f d v }
   |none=>none
  |_=>none
 |.bsl sz len z ps=>match fill st.f ps (X5 z sz len)with
  |some y=>bif AV.rfL y&&y.all AV.leaf then some { st with f:=Ql st.f d (.list (Zt sz len (y.map nn0))) } else none
  |none=>none
 |.bslv site sz len z ps=>match fill st.f ps (X5 z sz len)with
  |some y=>bif AV.rfL y&&y.all AV.leaf&&Qo (Qd st.m 0 site)then some { st with m:=Am.put st.m 0 site (.vec (Qy st.m 0 site) sz (Zt sz len (y.map nn0))),f:=Ql st.f d (.vec 0 site (Qy st.m 0 site) 0 len false) } else none
  |none=>none
 |.bsl0 site sz=>bif Qo (Qd st.m 0 site)then some { st with m:=Am.put st.m 0 site (.vec (Qy st.m 0 site) sz []),f:=Ql st.f d (.vec 0 site (Qy st.m 0 site) 0 0 false) } else none
 |.appc site sz bytes _ s r=>match s.ev st.f with
  |.lcap xs=>match Xi st.m (r.ev st.f)with
   |some (y :: ys)=>bif xs.all (fun e=>e.cells.length==sz)&&(y :: ys).all (fun e=>e.cells.length==sz)&&Nat.ble (xs.length+(y :: ys).length) maxLen&&Nat.ble ((xs.length+(y :: ys).length)*bytes) 140737488355328&&Qo (Qd st.m 0 site)then
     some { st with m:=Am.put st.m 0 site (.vec (Qy st.m 0 site) sz (xs++y :: ys)),f:=Ql st.f d (.vec 0 site (Qy st.m 0 site) 0 (xs.length+(y :: ys).length) false) }
    else none
   |_=>none
  |_=>none
 |.isnil neg r=>match r.ev st.f with
  |.nils=>some { st with f:=Ql st.f d (.bool (!neg)) }
  |.list l=>match QT l with
   |_ :: _=>some { st with f:=Ql st.f d (.bool neg) }
   | []=>none
  |_=>none
 |.callK l s f args=>match f.ev st.f with
  |.fn (.func k) fa fb=>match call k (fa++args.map (RA.ev st.f)++fb) st.m with
   |some (v,m')=>bif FX (Qd m' l s) (Qd st.m l s)then some { st with m:=m',f:=Ql st.f d v } else none
   |none=>none
  |_=>none
 |.xb cnt _ s c=>match s.ev st.f,c.ev st.f with
  |.str t,.int .u8 b=>some { st with f:=Ql st.f d (.int .i64 (FJ cnt t b)) }
  |_,_=>none
 |.rngs s r=>match r.ev st.f with
  |.str t=>bif Zu st.m s then some { st with m:=Am.put st.m 0 s (.iter (.str t) 0),f:=Ql st.f d (.ptr 0 s 0) } else none
  |_=>none
 |.nxts r=>match r.ev st.f with
  |.ptr l s 0=>match Qd st.m l s with
   |.iter (.str t) p=>bif Nat.blt p t.length then some { st with m:=Am.put st.m l s (.iter (.str t) (p+(X6 t p).2)),f:=Ql st.f d (.tup [.bool true,.int .i64 (p:Nat),.int .i32 ((X6 t p).1:Nat)]) } else some { st with f:=Ql st.f d (.tup [.bool false]) }
   |_=>none
  |_=>none
 |.mkm s=>bif Zu st.m s then some { st with m:=Am.put st.m 0 s (.iter (.mp [] []) 0),f:=Ql st.f d (.mptr 0 s) } else none
 |.mput x i v=>match x.ev st.f with
  |.mptr l s=>match Qd st.m l s with
   |.iter (.mp ks vs) p=>match i.ev st.f with
    |.str k=>bif (v.ev st.f).gr&&AV.grL vs&&Nat.beq ks.length vs.length then some { st with m:=Am.put st.m l s (.iter (.mp (ZP k (v.ev st.f) ks vs).1 (ZP k (v.ev st.f) ks vs).2) p),f:=Ql st.f d (.tup []) } else none
    |_=>none
   |_=>none
  |_=>none
 |.appS el s r=>match s.ev st.f,r.ev st.f with
  |.vec l site g 0 n false,.str t=>match Qd st.m l site with
   |.vec g' 1 xs=>bif Nat.beq g' g&&Zn site el&&Nat.ble n xs.length&&Nat.ble (n+t.length) 140737488355328 then
     some { st with m:=Am.put st.m l site (.vec (g+1) 1 (xs.take n++Qu t)),f:=Ql st.f d (.vec l site (g+1) 0 (n+t.length) false) }
    else none
   |_=>none
  |_,_=>none
 |.mk site _ sz bytes z l c=>match l.ev st.f,c.ev st.f with
  |.int _ (.ofNat n),.int _ (.ofNat k)=>bif Nat.ble n k&&Nat.ble k 9223372036854775807&&Nat.ble (bytes*k) 281474976710656&&Qo (Qd st.m 0 site)then
    some { st with m:=Am.put st.m 0 site (.vec (Qy st.m 0 site) sz (List.replicate n (K7 sz z))),f:=Ql st.f d (.vec 0 site (Qy st.m 0 site) 0 n false) }
   else none
  |_,_=>none
 |.s2b site _ r=>match r.ev st.f with
  |.str s=>bif Nat.ble s.length 9223372036854775807&&Qo (Qd st.m 0 site)then
    some { st with m:=Am.put st.m 0 site (.vec (Qy st.m 0 site) 1 (Qu s)),f:=Ql st.f d (.vec 0 site (Qy st.m 0 site) 0 s.length false) }
   else none
  |_=>none
 |.usd r=>match r.ev st.f with
  |.vec l s g 0 n false=>match Qd st.m l s with
   |.vec g' _ _=>bif Nat.beq g' g&&Nat.ble 2000 s then some { st with f:=Ql st.f d (if n=0 then .anyp else .vptr l s g 0 0) } else none
   |_=>none
  |_=>none
 |.ustr el p r=>match p.ev st.f,r.ev st.f with
  |.anyp,.int .i64 (.ofNat 0)=>some { st with f:=Ql st.f d (.str []) }
  |.vptr l s g 0 0,.int .i64 (.ofNat (n+1))=>match Qd st.m l s with
   |.vec g' 1 xs=>match bytesOf (xs.take (n+1))with
    |some t=>bif Nat.beq s (el+2000)&&Nat.beq g' g&&Nat.ble (n+1) xs.length&&isBytes (xs.take (n+1)) t then some { st with m:=Am.put st.m l (el+2000) (.vec (g+1) 1 []),f:=Ql st.f d (.str t) } else none
    |none=>none
   |_=>none
  |_,_=>none
where
  isBytes:List AV→List UInt8→Bool
  | [],[]=>true
  |.int .u8 (.ofNat n) :: l,b :: t=>Nat.beq n b.toNat&&isBytes l t
  |_,_=>false
def V3 (call:YJ)(it:Item)(st:St):Option St :=
 match it.g with
 |none=>Zc call it.dst it.op st
 |some (j,want)=>match st.f j with
  |.bool b=>bif b==want then Zc call it.dst it.op st else some { st with f:=Ql st.f it.dst (.tup []) }
  |.tup []=>some { st with f:=Ql st.f it.dst (.tup []) }
  |_=>none
def FY (call:YJ):List Item→St→Option St
 | [],st=>some st
 |it :: its,st=>match V3 call it st with
  |some st'=>FY call its st'
  |none=>none
def FZ (rs:List RR)(n:Nat)(r:Option (Exit×St)):Option (AV×Qj) :=
 match r with
 |some (.normal,st)=>fin st
 |some (.ret,st)=>fin st
 |_=>none
where
 fin (st:St):Option (AV×Qj):=match st.ds with
  | []=>match W9 st rs with
   |some x=>match YO st.m x with
    |some y=>match st.m with
     |_ :: m=>bif Nat.beq m.length n then some (y,m)else none
     | []=>none
    |none=>none
   |none=>none
  |_=>none
def U8 (nat:YJ)(T:V2)(body:RC→St→Option (Exit×St)):YJ:=fun k args m=>
 match nat k args m with
 |some r=>some r
 |none=>match T k with
  |some (c,rs,N)=>bif Nat.ble args.length N then FZ rs m.length (body c (St.enter args m))else none
  |none=>none
def Ki (nat:YJ)(T:V2):Nat→RC→St→Option (Exit×St)
 |0,_,_=>none
 |n+1,c,st=>match c with
  |.skip=>some (.normal,st)
  |.reg its=>match FY (U8 nat T (Ki nat T n)) its st with
   |some st'=>some (.normal,st')
   |none=>none
  |.draw its=>match FY (U8 nat T (Ki nat T n)) its st with
   |some st'=>some (.normal,st')
   |none=>none
  |.seq a b=>match Ki nat T n a st with
   |some (.normal,st')=>Ki nat T n b st'
   |r=>r
  |.cond c a b=>match c.ev st.f with
   |.bool t=>bif t then Ki nat T n a st else Ki nat T n b st
   |_=>none
  |.block id a=>match Ki nat T n a st with
   |some (.exit i,st')=>if i=id then some (.normal,st')else some (.exit i,st')
   |r=>r
  |.loop a=>match Ki nat T n a st with
   |some (.normal,st')=>Ki nat T n (.loop a) st'
   |r=>r
  |.exit id=>some (.exit id,st)
  |.scope a=>match Ki nat T n a st with
   |some (.goto _,_)=>none
   |r=>r
  |.lab=>some (.normal,st)
  |.ret=>some (.ret,st)
  |.gho g a=>match JE g st with
   |some st'=>Ki nat T n a st'
   |none=>none
  |.no=>none
section
variable {P:Program}{T:V2}
def YQ (P:Program)(call:YJ):Prop:=∀k args m v m',call k args m=some (v,m')→Qe P k args m fun x m1=>x=v∧m1=m'
theorem F0:∀ {l:List AV} {t:List UInt8},Zc.isBytes l t=true→l=Qu t
 | [],[],_=>rfl
 | [],_ :: _,h=>by simp[Zc.isBytes]at h
 |.int .u8 (.ofNat n) :: l,b :: t,h=>by
  simp only[Zc.isBytes,Qol]at h;rw[F0 h.2,QnS h.1];rfl
 |x :: l,[],h=>by
  unfold Zc.isBytes at h;split at h<;>simp_all
theorem Pp {call:YJ}(hc:YQ P call){d:Option Nat}{op:RO}{st st':St}(h:Zc call d op st=some st'){K:St→Prop}(hK:K st'):H7 P d op st K:=by
 cases op with
 |val vo=>
  simp only[Zc]at h;split at h
  ·rename_i x hx;cases h;exact⟨x,hx,hK⟩
  ·cases h
 |allocN s z=>
  simp only[Zc]at h;cases h1:Zu st.m s<;>rw[h1]at h<;>simp only[cond_true,cond_false,reduceCtorEq,Qoo]at h;subst h;exact⟨h1,hK⟩
 |boxN s r=>
  simp only[Zc]at h;cases h1:(Zu st.m s&&(r.ev st.f).cells.all AV.leaf)<;>rw[h1]at h<;>simp only[cond_true,cond_false,reduceCtorEq,Qoo]at h;rw[Qol]at h1;subst h;exact⟨h1.1,h1.2,hK⟩
 |store n p r=>
  simp only[Zc]at h;cases h1:(Nat.beq (r.ev st.f).cells.length n&&(r.ev st.f).cells.all AV.leaf)<;>rw[h1]at h<;>simp only[cond_true,cond_false,reduceCtorEq]at h;rw[Qol]at h1;split at h
  ·rename_i m' hm;cases h;exact⟨QnS h1.1,h1.2,m',hm,hK⟩
  ·cases h
 |storev l s n p r=>
  simp only[Zc]at h;split at h
  ·rename_i l' s' o hp;cases h1:(Nat.beq l' l&&Nat.beq s' s&&Nat.beq (r.ev st.f).cells.length n&&(r.ev st.f).cells.all AV.leaf)<;>rw[h1]at h<;>simp only[cond_true,cond_false,reduceCtorEq]at h;simp only[Qol]at h1;obtain⟨⟨⟨a1,a2⟩,a3⟩,a4⟩:=h1;have e1:=QnS a1;have e2:=QnS a2;subst e1 e2;split at h
   ·rename_i m' hm;cases h;exact⟨⟨o,hp⟩,QnS a3,a4,m',hm,hK⟩
   ·cases h
  ·cases h
 |app sz bytes el s r=>
  simp only[Zc]at h;split at h
  ·rename_i l site g n hs;split at h
   ·rename_i g' sz' xs hl;split at h
    ·rename_i ys hy;cases h1:(Nat.beq g' g&&Nat.beq sz' sz&&Zn site el&&Nat.ble n xs.length&&ys.all (fun e=>e.cells.length==sz)&&Nat.ble (n+ys.length) maxLen&&Nat.ble ((n+ys.length)*bytes) 140737488355328)<;>rw[h1]at h<;>simp only[cond_true,cond_false,reduceCtorEq,Qoo]at h;simp only[Qol]at h1;obtain⟨⟨⟨⟨⟨⟨a1,a2⟩,a3⟩,a4⟩,a5⟩,a6⟩,a7⟩:=h1;have e1:=QnS a1;have e2:=QnS a2;subst e1 e2 h;exact⟨l,site,_,n,xs,ys,hs,hl,a3,Qpr a4,hy,a5,Qpr a6,Qpr a7,hK⟩
    ·cases h
   ·cases h
  ·cases h
 |call f args=>
  simp only[Zc]at h;split at h
  ·rename_i k fa fb hf;split at h
   ·rename_i ys hy;cases h1:AV.rfL ys<;>rw[h1]at h<;>simp only[cond_true,cond_false,reduceCtorEq]at h;split at h
    ·rename_i v m' hv;cases h2:(v.rf&&(AV.rfL (fa++args.map (RA.ev st.f)++fb)||v.nl))<;>rw[h2]at h<;>simp only[cond_true,cond_false,reduceCtorEq,Qoo]at h;rw[Qol,Qn0]at h2;subst h;exact⟨k,fa,fb,ys,v,hf,hy,h1,(hc _ _ _ _ _ hv).mono (fun _ _ e=>e.1),h2.1,h2.2,hK⟩
    ·cases h
   ·cases h
  ·cases h
 |callF f args=>
  simp only[Zc]at h;split at h
  ·rename_i k fa fb hf;split at h
   ·rename_i v m' hv;cases h;exact⟨k,fa,fb,v,m',hf,hc _ _ _ _ _ hv,hK⟩
   ·cases h
  ·cases h
 |callG f args=>
  simp only[Zc]at h;split at h
  ·rename_i k fa fb hf;split at h
   ·rename_i v m' hv;cases h;exact⟨k,fa,fb,_,hf,hc _ _ _ _ _ hv,fun x m1 hx _=>by obtain⟨rfl,rfl⟩:=hx;exact hK⟩
   ·cases h
  ·cases h
 |bsl sz len z ps=>
  simp only[Zc]at h;split at h
  ·rename_i y hy;cases h1:(AV.rfL y&&y.all AV.leaf)<;>rw[h1]at h<;>simp only[cond_true,cond_false,reduceCtorEq,Qoo]at h;rw[Qol]at h1;subst h;exact⟨y,hy,h1.1,h1.2,hK⟩
  ·cases h
 |bslv site sz len z ps=>
  simp only[Zc]at h;split at h
  ·rename_i y hy;cases h1:(AV.rfL y&&y.all AV.leaf&&Qo (Qd st.m 0 site))<;>rw[h1]at h<;>simp only[cond_true,cond_false,reduceCtorEq,Qoo]at h;simp only[Qol]at h1;subst h;exact⟨y,hy,h1.1.1,h1.1.2,h1.2,hK⟩
  ·cases h
 |bsl0 site sz=>
  simp only[Zc]at h;cases h1:Qo (Qd st.m 0 site)<;>rw[h1]at h<;>simp only[cond_true,cond_false,reduceCtorEq,Qoo]at h;subst h;exact⟨h1,hK⟩
 |appc site sz bytes el s r=>
  simp only[Zc]at h;split at h
  ·rename_i xs hs;split at h
   ·rename_i y ys hy;cases h1:(xs.all (fun e=>e.cells.length==sz)&&(y :: ys).all (fun e=>e.cells.length==sz)&&Nat.ble (xs.length+(y :: ys).length) maxLen&&Nat.ble ((xs.length+(y :: ys).length)*bytes) 140737488355328&&Qo (Qd st.m 0 site))<;>rw[h1]at h<;>simp only[cond_true,cond_false,reduceCtorEq,Qoo]at h;simp only[Qol]at h1;obtain⟨⟨⟨⟨a1,a2⟩,a3⟩,a4⟩,a5⟩:=h1;subst h;exact⟨xs,y :: ys,hs,hy,by simp,a1,a2,Qpr a3,Qpr a4,a5,hK⟩
   ·cases h
  ·cases h
 |isnil neg r=>
  simp only[Zc]at h;split at h
  ·rename_i hr;cases h;exact⟨[],by rw[hr];rfl,fun e=>absurd hr e,fun _=>hK⟩
  ·rename_i l hr;split at h
   ·rename_i z zs hf;cases h;exact⟨l,by rw[hr];rfl,fun _=>hK,fun e=>by
     rcases e with e|e
     ·rw[hr]at e;cases e
     ·rw[hf]at e;cases e⟩
   ·cases h
  ·cases h
 |callK l s f args=>
  simp only[Zc]at h;split at h
  ·rename_i k fa fb hf;split at h
   ·rename_i v m' hv;cases he:FX (Qd m' l s) (Qd st.m l s)<;>rw[he]at h<;>simp only[cond_true,cond_false,reduceCtorEq,Qoo]at h;subst h;exact⟨k,fa,fb,v,m',hf,hc _ _ _ _ _ hv,Tw he,hK⟩
   ·cases h
  ·cases h
 |xb cnt k s c=>
  simp only[Zc]at h;split at h
  ·rename_i t b hs hb;cases h;exact⟨t,b,hs,hb,hK⟩
  ·cases h
 |rngs s r=>
  simp only[Zc]at h;split at h
  ·rename_i t ht;cases h1:Zu st.m s<;>rw[h1]at h<;>simp only[cond_true,cond_false,reduceCtorEq,Qoo]at h;subst h;exact⟨t,ht,h1,hK⟩
  ·cases h
 |mkm s=>
  simp only[Zc]at h;cases h1:Zu st.m s<;>rw[h1]at h<;>simp only[cond_true,cond_false,reduceCtorEq,Qoo]at h;subst h;exact⟨h1,hK⟩
 |mput x i v=>
  simp only[Zc]at h;split at h
  ·rename_i l s hx;split at h
   ·rename_i ks vs p hl;split at h
    ·rename_i k hi;cases h1:((v.ev st.f).gr&&AV.grL vs&&Nat.beq ks.length vs.length)<;>rw[h1]at h<;>simp only[cond_true,cond_false,reduceCtorEq,Qoo]at h;subst h;simp only[Qol]at h1;exact⟨l,s,ks,vs,p,k,hx,hl,hi,h1.1.1,h1.1.2,QnS h1.2,hK⟩
    ·cases h
   ·cases h
  ·cases h
 |nxts r=>
  simp only[Zc]at h;split at h
  ·rename_i l s hr;split at h
   ·rename_i t p hl;refine⟨l,s,t,p,hr,hl,fun e=>?_,fun e=>?_⟩
    ·have hb:Nat.blt p t.length=true:=by simp[Nat.blt_eq,e]
     rw[hb]at h;cases h;exact hK
    ·have hb:Nat.blt p t.length=false:=by
      cases hb:Nat.blt p t.length with
      |false=>rfl
      |true=>rw[Nat.blt_eq]at hb;omega
     rw[hb]at h;cases h;exact hK
   ·cases h
  ·cases h
 |appS el s r=>
  simp only[Zc]at h;split at h
  ·rename_i l site g n t hs hr;split at h
   ·rename_i g' xs hl;cases h1:(Nat.beq g' g&&Zn site el&&Nat.ble n xs.length&&Nat.ble (n+t.length) 140737488355328)<;>rw[h1]at h<;>simp only[cond_true,cond_false,reduceCtorEq,Qoo]at h;simp only[Qol]at h1;obtain⟨⟨⟨a1,a2⟩,a3⟩,a4⟩:=h1;have e1:=QnS a1;subst e1 h;exact⟨l,site,_,n,xs,t,hs,hl,a2,Qpr a3,hr,Qpr a4,hK⟩
   ·cases h
  ·cases h
 |mk site el sz bytes z l c=>
  simp only[Zc]at h;split at h
  ·rename_i kl n kc k hl hcc;cases h1:(Nat.ble n k&&Nat.ble k 9223372036854775807&&Nat.ble (bytes*k) 281474976710656&&Qo (Qd st.m 0 site))<;>rw[h1]at h<;>simp only[cond_true,cond_false,reduceCtorEq,Qoo]at h;simp only[Qol]at h1;obtain⟨⟨⟨a1,a2⟩,a3⟩,a4⟩:=h1;subst h;exact⟨kl,kc,n,k,hl,hcc,Qpr a1,Qpr a2,Qpr a3,a4,hK⟩
  ·cases h
 |s2b site el r=>
  simp only[Zc]at h;split at h
  ·rename_i s hs;cases h1:(Nat.ble s.length 9223372036854775807&&Qo (Qd st.m 0 site))<;>rw[h1]at h<;>simp only[cond_true,cond_false,reduceCtorEq,Qoo]at h;simp only[Qol]at h1;subst h;exact⟨s,hs,Qpr h1.1,h1.2,hK⟩
  ·cases h
 |usd r=>
  simp only[Zc]at h;split at h
  ·rename_i l s g n hr;split at h
   ·rename_i g' sz xs hl;cases h1:(Nat.beq g' g&&Nat.ble 2000 s)<;>rw[h1]at h<;>simp only[cond_true,cond_false,reduceCtorEq,Qoo]at h;simp only[Qol]at h1;have e1:=QnS h1.1;subst e1 h;exact⟨l,s,_,n,sz,xs,Qpr h1.2,hr,hl,hK⟩
   ·cases h
  ·cases h
 |ustr el p r=>
  simp only[Zc]at h;split at h
  ·rename_i hp hr;cases h;exact .inl ⟨hp,hr,hK⟩
  ·rename_i l s g n hp hr;split at h
   ·rename_i g' xs hl;split at h
    ·rename_i t ht;cases h1:(Nat.beq s (el+2000)&&Nat.beq g' g&&Nat.ble (n+1) xs.length&&Zc.isBytes (xs.take (n+1)) t)<;>rw[h1]at h<;>simp only[cond_true,cond_false,reduceCtorEq,Qoo]at h;simp only[Qol]at h1;obtain⟨⟨⟨a1,a2⟩,a3⟩,a4⟩:=h1;have e1:=QnS a1;have e2:=QnS a2;subst e1 e2 h;exact .inr ⟨l,_,n+1,xs,t,hp,hr,hl,Qpr a3,Nat.succ_ne_zero n,F0 a4,hK⟩
    ·cases h
   ·cases h
  ·cases h
theorem Tx {call:YJ}(hc:YQ P call){it:Item}{st st':St}(h:V3 call it st=some st'){K:St→Prop}(hK:K st'):ZM P it st K:=by
 obtain⟨d,op,g⟩:=it;cases g with
 |none=>exact Pp (d:=d) hc h hK
 |some p=>
  obtain⟨j,want⟩:=p;simp only[V3]at h;simp only[ZM];split at h
  ·rename_i b hj;simp only[hj];cases hb:(b==want)with
   |true=>
    rw[hb]at h;have e:b=want:=by simpa using hb
    exact⟨fun _=>Pp hc h hK,fun e'=>by rw[e]at e';cases want<;>cases e'⟩
   |false=>
    rw[hb]at h;simp only[cond_false,Qoo]at h;subst h;exact⟨fun e=>by rw[e]at hb;simp at hb,fun _=>hK⟩
  ·rename_i hj;cases h;simp only[hj];exact⟨trivial,hK⟩
  ·cases h
theorem D5 {call:YJ}(hc:YQ P call):∀ {its:List Item} {st st':St},FY call its st=some st'→∀ {K:St→Prop},K st'→QE P its st K
 | [],_,_,h,_,hK=>by cases h;exact hK
 |it :: its,st,st',h,K,hK=>by
  simp only[FY]at h;split at h
  ·rename_i st1 h1;exact Tx hc h1 (D5 hc h hK)
  ·cases h
theorem EK {rs:List RR}{n:Nat}{r:Option (Exit×St)}{v:AV}{m':Qj}(h:FZ rs n r=some (v,m')):∃e st,r=some (e,st)∧ZY rs n (fun x m1=>x=v∧m1=m') e st:=by
 have fin:∀ {e:Exit} {st:St},(e=.normal∨e=.ret)→FZ.fin rs n st=some (v,m')→ZY rs n (fun x m1=>x=v∧m1=m') e st:=by
  intro e st he h;unfold FZ.fin at h;split at h
  ·rename_i hds;split at h
   ·rename_i x hx;split at h
    ·rename_i y hy;split at h
     ·rename_i fr m hm;cases hb:Nat.beq m.length n with
      |false=>rw[hb]at h;cases h
      |true=>
       rw[hb]at h;simp only[cond_true,Qoo,Qpt]at h;exact⟨he,hds,x,y,fr,m,hx,hy,hm,QnS hb,h.1,h.2⟩
     ·cases h
    ·cases h
   ·cases h
  ·cases h
 unfold FZ at h;split at h
 ·exact⟨_,_,rfl,fin (.inl rfl) h⟩
 ·exact⟨_,_,rfl,fin (.inr rfl) h⟩
 ·cases h
theorem UE {nat:YJ}(hN:YQ P nat)(hT:FV P T){body:RC→St→Option (Exit×St)}(hb:∀c st e st',body c st=some (e,st')→∀Q:Exit→St→Prop,Q e st'→Q2 P c st Q):YQ P (U8 nat T body):=by
 intro k args m v m' h;unfold U8 at h;split at h
 ·rename_i r hr;cases h;exact hN _ _ _ _ _ hr
 split at h
 ·rename_i c rs N hk;cases hN:Nat.ble args.length N with
  |false=>rw[hN]at h;cases h
  |true=>
   rw[hN]at h;simp only[cond_true]at h;obtain⟨e,st,h1,h2⟩:=EK h;obtain⟨fn,cd,a1,a2,a3,a4,a5,a6⟩:=hT k c rs N hk;exact H8 a1 a2 a3 a4 a5 a6 (Qpr hN) (hb _ _ _ _ h1 _ h2)
 ·cases h
theorem TA {nat:YJ}(hN:YQ P nat)(hT:FV P T):∀(n:Nat) (c:RC) (st:St) (e:Exit) (st':St),Ki nat T n c st=some (e,st')→∀Q:Exit→St→Prop,Q e st'→Q2 P c st Q:=by
 intro n
 induction n using Nat.strongRecOn with
 |_ n ihs=>
 cases n with
 |zero=>intro c st e st' h;cases h
 |succ n=>
  intro c st e st' h Q hQ;have ih:=ihs n (Nat.lt_succ_self n);cases c with
  |skip=>cases h;exact hQ
  |reg its=>
   simp only[Ki]at h;split at h
   ·rename_i st1 h1;cases h;exact D5 (UE hN hT ih) h1 hQ
   ·cases h
  |draw its=>
   simp only[Ki]at h;split at h
   ·rename_i st1 h1;cases h;exact D5 (UE hN hT ih) h1 hQ
   ·cases h
  |seq a b=>
   simp only[Ki]at h;split at h
   ·rename_i st1 h1;exact ih _ _ _ _ h1 _ (ih _ _ _ _ h Q hQ)
   ·rename_i h1;refine ih _ _ _ _ h _ ?_;cases e with
    |normal=>exact absurd h (h1 st')
    |_=>exact hQ
  |cond c a b=>
   simp only[Ki]at h;split at h
   ·rename_i t ht;cases t with
    |true=>exact⟨true,ht,fun _=>ih _ _ _ _ h Q hQ,(fun e=>by cases e)⟩
    |false=>exact⟨false,ht,(fun e=>by cases e),fun _=>ih _ _ _ _ h Q hQ⟩
   ·cases h
  |block id a=>
   simp only[Ki]at h;split at h
   ·rename_i i st1 h1;refine ih _ _ _ _ h1 _ ?_;show if i=id then Q .normal st1 else Q (.exit i) st1
    split at h
    ·rename_i hi;cases h;rw[Qn5 hi];exact hQ
    ·rename_i hi;cases h;rw[Qn4 hi];exact hQ
   ·rename_i h1;refine ih _ _ _ _ h _ ?_;cases e with
    |exit i=>exact absurd h (h1 i st')
    |_=>exact hQ
  |loop a=>
   refine⟨fun k s=>k≤n∧Ki nat T (k+1) (.loop a) s=some (e,st'),n,⟨QnV _,h⟩,fun k s hh=>?_⟩;obtain⟨hk,hs⟩:=hh;simp only[Ki]at hs;split at hs
   ·rename_i st1 h1;refine ihs k (by omega) _ _ _ _ h1 _ ?_;show ∃j,j<k∧j≤n∧Ki nat T (j+1) (.loop a) st1=some (e,st');cases k with
    |zero=>cases h1
    |succ j=>exact⟨j,Nat.lt_succ_self j,by omega,hs⟩
   ·rename_i h1;refine ihs k (by omega) _ _ _ _ hs _ ?_;cases e with
    |normal=>exact absurd hs (h1 st')
    |_=>exact hQ
  |exit id=>cases h;exact hQ
  |scope a=>
   simp only[Ki]at h;split at h
   ·cases h
   ·rename_i h1;refine ih _ _ _ _ h _ ?_;cases e with
    |goto i=>exact absurd h (h1 i st')
    |_=>exact hQ
  |lab=>cases h;exact hQ
  |ret=>cases h;exact hQ
  |gho g a=>
   simp only[Ki]at h;split at h
   ·rename_i st1 h1;exact⟨st1,h1,ih _ _ _ _ h Q hQ⟩
   ·cases h
  |no=>cases h
def evT (nat:YJ)(T:V2)(n:Nat)(k:FuncId)(args:List AV):Bool :=
 match U8 nat T (Ki nat T n) k args []with
 |some (.bool true,_)=>true
 |_=>false
theorem RV {nat:YJ}(hN:YQ P nat)(hT:FV P T){n:Nat}{k:FuncId}{args:List AV}(h:evT nat T n k args=true):Qg P k args (.bool true):=by
 unfold evT at h;split at h
 ·rename_i m' h1;exact(UE hN hT (TA hN hT n) _ _ _ _ _ h1).mono fun _ _ e=>e.1
 ·cases h
end
def Qa:=(QpD (QpD (QpD (QpD (QpD (QpD (QpD (QpD @Am.HA @Am.Hz) (QpD @Am.S8 @Am.WD)) (QpD (QpD @Am.JJ @Am.Tb) (QpD @Am.Tc (QpD @Am.Pl @Am.Pm)))) (QpD (QpD (QpD @Am.U7 @Am.Lc) (QpD @Am.Ld @Am.S7)) (QpD (QpD @Am.Td @Am.FQ) (QpD @Am.Te (QpD @Am.Tf @Am.Th))))) (QpD (QpD (QpD (QpD @Am.Ti @Am.Tj) (QpD @Am.Tk @Am.Tl)) (QpD (QpD @Am.Yu @Am.Ta) (QpD @Am.Le (QpD @Am.NM @Am.Gp)))) (QpD (QpD (QpD @Am.e_f @Am.WF) (QpD @Am.JK @Am.WE)) (QpD (QpD @Am.WG @Am.DH) (QpD @Am.Yd (QpD @Am.VU @Am.NK)))))) (QpD (QpD (QpD (QpD (QpD @Am.UC @Am.VV) (QpD @Am.FR @Am.FS)) (QpD (QpD @Am.NL @Am.HB) (QpD @Am.Yc (QpD @Am.VW @Am.VX)))) (QpD (QpD (QpD @Am.Kt @Am.Qw.eq_1) (QpD @Am.Qw.eq_2 @Am.Qw.eq_3)) (QpD (QpD @Am.Qw.eq_4 @Am.Qw.eq_5) (QpD @Am.Qw.eq_6 (QpD @Am.Qw.eq_7 @Am.Qw.eq_8))))) (QpD (QpD (QpD (QpD @Am.Qw.eq_9 @Am.Qw.eq_10) (QpD @Am.Qw.eq_11 @Am.Qw.eq_12)) (QpD (QpD @Am.Qw.eq_13 @Am.Qw.eq_14) (QpD @Am.Qw.eq_15 (QpD @Am.Qw.eq_16 @Am.Qw.eq_17)))) (QpD (QpD (QpD @Am.Qw.eq_18 @Am.Qw.eq_19) (QpD @Am.Qw.eq_20 @Am.Qw.eq_21)) (QpD (QpD @Am.Qw.eq_22 @Am.Qw.eq_23) (QpD @Am.Qw.eq_24 (QpD @Am.Qw.eq_25 @Am.Qw.eq_26))))))) (QpD (QpD (QpD (QpD (QpD (QpD @Am.Qw.eq_27 @Am.Qw.eq_28) (QpD @Am.Qw.eq_29 @Am.Qw.eq_30)) (QpD (QpD @Am.Qw.eq_31 @Am.Qw.eq_32) (QpD @Am.Qw.eq_33 (QpD @Am.Qw.eq_34 @Am.Qw.eq_1)))) (QpD (QpD (QpD @Am.Qw.eq_1 @Am.Xc.eq_1) (QpD @Am.Xc.eq_2 @Am.Xc.eq_3)) (QpD (QpD @Am.Xc.eq_4 @Am.Xc.eq_5) (QpD @Am.Xc.eq_6 (QpD @Am.Xc.eq_7 @Am.Xc.eq_8))))) (QpD (QpD (QpD (QpD @Am.Xc.eq_9 @Am.Xc.eq_10) (QpD @Am.Xc.eq_11 @Am.Xc.eq_12)) (QpD (QpD @Am.Xc.eq_13 @Am.Xc.eq_14) (QpD @Am.Xc.eq_15 (QpD @Am.Xc.eq_16 @Am.Xc.eq_17)))) (QpD (QpD (QpD @Am.Xs.eq_1 @Am.Xs.eq_2) (QpD @Am.Xs.eq_3 @Am.Xs.eq_4)) (QpD (QpD @Am.Xs.eq_5 @Am.Xs.eq_6) (QpD @Am.Xs.eq_7 (QpD @Am.Xs.eq_8 @Am.Xs.eq_9)))))) (QpD (QpD (QpD (QpD (QpD @Am.Xs.eq_10 @Am.Xs.eq_11) (QpD @Am.Xs.eq_12 @Am.Xs.eq_13)) (QpD (QpD @Am.Xs.eq_14 @Am.Xs.eq_15) (QpD @Am.Xs.eq_16 (QpD @Am.Gc.eq_1 @Am.Gc.eq_2)))) (QpD (QpD (QpD @Am.Gc.eq_3 @Am.Gc.eq_4) (QpD @cond_true.{0} @cond_true.{1})) (QpD (QpD @cond_false.{0} @cond_false.{1}) (QpD @QoO (QpD @and_true @Qo0.{0}))))) (QpD (QpD (QpD (QpD @Qo4.{0} @List.getElem?_nil.{0}) (QpD @Qo8.{0} @QpB.{0})) (QpD (QpD @Am.St.enter.eq_1 @Am.VC.eq_1) (QpD @Am.AV.shL.eq_1 (QpD @Am.AV.shL.eq_2 @Am.AV.sh.eq_1)))) (QpD (QpD (QpD @Am.AV.sh.eq_2 @Am.AV.sh.eq_3) (QpD @Am.AV.sh.eq_4 @Am.AV.sh.eq_5)) (QpD (QpD @Am.AV.sh.eq_6 @Am.AV.sh.eq_7) (QpD @Am.AV.sh.eq_8 (QpD @Am.AV.sh.eq_9 @Am.W9.eq_1)))))))) (QpD (QpD (QpD (QpD (QpD (QpD (QpD @Am.W9.eq_2 @Am.RR.ev.eq_1) (QpD @Am.RR.ev.eq_2 @Am.RR.evL.eq_1)) (QpD (QpD @Am.RR.evL.eq_2 @Am.YO.eq_1) (QpD @Am.AV.still.eq_1 (QpD @Am.AV.still.eq_2 @Am.AV.still.eq_3)))) (QpD (QpD (QpD @Am.AV.still.eq_4 @Am.AV.still.eq_5) (QpD @Am.AV.still.eq_6 @Am.AV.still.eq_7)) (QpD (QpD @Am.AV.still.eq_8 @Am.AV.stillL.eq_1) (QpD @Am.AV.stillL.eq_2 (QpD @Am.AV.un.eq_1 @Am.AV.un.eq_2))))) (QpD (QpD (QpD (QpD @Am.AV.un.eq_3 @Am.AV.un.eq_4) (QpD @Am.AV.un.eq_5 @Am.AV.un.eq_6)) (QpD (QpD @Am.AV.un.eq_7 @Am.AV.un.eq_8) (QpD @Am.AV.un.eq_9 (QpD @Am.AV.un.eq_10 @Am.AV.un.eq_11)))) (QpD (QpD (QpD @Am.AV.un.eq_12 @Am.AV.un.eq_13) (QpD @Am.AV.unL.eq_1 @Am.AV.unL.eq_2)) (QpD (QpD @Option.bind_some.{0,0} @Qon.{0,0}) (QpD @if_true.{0} (QpD @if_true.{1} @if_false.{0})))))) (QpD (QpD (QpD (QpD (QpD @if_false.{1} @Qog) (QpD @Go.IntKind.bits.eq_1 @Go.IntKind.bits.eq_2)) (QpD (QpD @Go.IntKind.bits.eq_3 @Go.IntKind.bits.eq_4) (QpD @Go.IntKind.bits.eq_5 (QpD @Go.IntKind.bits.eq_6 @Go.IntKind.bits.eq_7)))) (QpD (QpD (QpD @Go.IntKind.bits.eq_8 @QoT.{0}) (QpD @Qoc.{0} @QpE)) (QpD (QpD @Qpb @forall_const.{1}) (QpD @not_true_eq_false (QpD @not_false_eq_true @Am.Da))))) (QpD (QpD (QpD (QpD @QpF @Qo5) (QpD @Am.YG.eq_1 @ne_eq.{1})) (QpD (QpD @Nat.one_ne_zero @decide_true) (QpD @decide_false (QpD @Am.Qbh @Am.EH)))) (QpD (QpD (QpD @Am.Qdm @Am.EI) (QpD @Am.Qdn @Am.Qdl)) (QpD (QpD @Am.Qgo @Am.Zu.eq_1) (QpD @Am.AV.unNL.eq_1 (QpD @Am.AV.unNL.eq_2 @Am.AV.unNL_zero))))))) (QpD (QpD (QpD (QpD (QpD (QpD @Am.AV.shNL.eq_1 @Am.AV.shNL.eq_2) (QpD @Am.AV.shN.eq_1 @Am.AV.shN.eq_2)) (QpD (QpD @Am.splice.eq_1 @Am.part.eq_1) (QpD @Am.part.eq_2 (QpD @Am.fill.eq_1 @Am.fill.eq_2)))) (QpD (QpD (QpD @Am.AV.leaf.eq_1 @Am.AV.leaf.eq_2) (QpD @Am.AV.leaf.eq_3 @Am.AV.leaf.eq_4)) (QpD (QpD @Qo9.{0} @Qpa.{0}) (QpD @Qow.{0} (QpD @Qo6.{0} @List.take_nil.{0}))))) (QpD (QpD (QpD (QpD @Qoz.{0} @QoF.{0}) (QpD @Qpc.{0} @Qok.{0})) (QpD (QpD @Qoj.{0} @Qo1.{0}) (QpD @Am.Qb.eq_1 (QpD @and_self @Am.Z7.eq_1)))) (QpD (QpD (QpD @Am.Z7.eq_2 @Am.Z7.eq_3) (QpD @Am.Z7.eq_4 @Am.Z7.eq_5)) (QpD (QpD @Am.Z7.eq_6 @Am.Jl.eq_1) (QpD @Am.Jl.eq_2 (QpD @Am.Xm.eq_1 @Am.Xm.eq_2)))))) (QpD (QpD (QpD (QpD (QpD @Am.Xm.eq_3 @Am.Xm.eq_4) (QpD @Am.Xm.eq_5 @Am.Xm.eq_6)) (QpD (QpD @Am.Xm.eq_7 @Am.Dy.eq_1) (QpD @Am.Dy.eq_2 (QpD @Am.Dy.eq_3 @Am.Fw.eq_1)))) (QpD (QpD (QpD @Am.Fw.eq_2 @Am.Fw.eq_3) (QpD @Am.Fw.eq_4 @Am.QiX)) (QpD (QpD @Am.Tm @Am.Tn) (QpD @Am.To (QpD @Am.RI @Am.Tp))))) (QpD (QpD (QpD (QpD @Am.RJ @Am.RK) (QpD @Am.RL @Am.RM)) (QpD (QpD @Am.RN @Am.Tq) (QpD @Am.Tr (QpD @Am.Ts @Am.Tt)))) (QpD (QpD (QpD @Am.RP @Am.Tu) (QpD @Am.RQ (QpD @Am.M5 @Am.Tv))) (QpD (QpD @Am.RS @Am.DG) (QpD @Am.M6 (QpD @Am.RT @QoZ.{0,0})))))))))
def TB:=(QpD (QpD (QpD @Am.Xn.eq_1 (QpD @Am.Xn.eq_2 @Am.Xn.eq_3)) (QpD (QpD @Am.Xt.eq_1 @Am.Xt.eq_2) (QpD @Am.Xt.eq_3 @Am.Xt.eq_4))) (QpD (QpD (QpD @Am.Qd.eq_1 @Am.Qd.eq_2) (QpD @Am.Qd.eq_3 @Am.put.eq_1)) (QpD (QpD @Am.put.eq_2 @Am.put.eq_3) (QpD @Am.AV.cells.eq_1 @Am.AV.cells.eq_2))))
def eE := QpD Qa TB
def Kj:=(QpD (QpD (QpD (QpD (QpD (QpD (QpD @Am.HA (QpD @Am.Hz @Am.S8)) (QpD @Am.WD (QpD @Am.JJ @Am.Tb))) (QpD (QpD @Am.Tc (QpD @Am.Pl @Am.Pm)) (QpD @Am.U7 (QpD @Am.Lc @Am.Ld)))) (QpD (QpD (QpD @Am.S7 (QpD @Am.Td @Am.FQ)) (QpD @Am.Te (QpD @Am.Tf @Am.Th))) (QpD (QpD @Am.Ti (QpD @Am.Tj @Am.Tk)) (QpD @Am.Tl (QpD @Am.Yu @Am.Ta))))) (QpD (QpD (QpD (QpD @Am.Le (QpD @Am.NM @Am.Gp)) (QpD @Am.e_f (QpD @Am.WF @Am.JK))) (QpD (QpD @Am.WE (QpD @Am.WG @Am.DH)) (QpD @Am.Yd (QpD @Am.VU @Am.NK)))) (QpD (QpD (QpD @Am.UC (QpD @Am.VV @Am.FR)) (QpD @Am.FS (QpD @Am.NL @Am.HB))) (QpD (QpD @Am.Yc (QpD @Am.VW @Am.VX)) (QpD (QpD @Am.Kt @Am.Qw.eq_1) (QpD @Am.Qw.eq_2 @Am.Qw.eq_3)))))) (QpD (QpD (QpD (QpD (QpD @Am.Qw.eq_4 (QpD @Am.Qw.eq_5 @Am.Qw.eq_6)) (QpD @Am.Qw.eq_7 (QpD @Am.Qw.eq_8 @Am.Qw.eq_9))) (QpD (QpD @Am.Qw.eq_10 (QpD @Am.Qw.eq_11 @Am.Qw.eq_12)) (QpD @Am.Qw.eq_13 (QpD @Am.Qw.eq_14 @Am.Qw.eq_15)))) (QpD (QpD (QpD @Am.Qw.eq_16 (QpD @Am.Qw.eq_17 @Am.Qw.eq_18)) (QpD @Am.Qw.eq_19 (QpD @Am.Qw.eq_20 @Am.Qw.eq_21))) (QpD (QpD @Am.Qw.eq_22 (QpD @Am.Qw.eq_23 @Am.Qw.eq_24)) (QpD @Am.Qw.eq_25 (QpD @Am.Qw.eq_26 @Am.Qw.eq_27))))) (QpD (QpD (QpD (QpD @Am.Qw.eq_28 (QpD @Am.Qw.eq_29 @Am.Qw.eq_30)) (QpD @Am.Qw.eq_31 (QpD @Am.Qw.eq_32 @Am.Qw.eq_33))) (QpD (QpD @Am.Qw.eq_34 (QpD @Am.Qw.eq_1 @Am.Qw.eq_1)) (QpD @Am.Xc.eq_1 (QpD @Am.Xc.eq_2 @Am.Xc.eq_3)))) (QpD (QpD (QpD @Am.Xc.eq_4 (QpD @Am.Xc.eq_5 @Am.Xc.eq_6)) (QpD @Am.Xc.eq_7 (QpD @Am.Xc.eq_8 @Am.Xc.eq_9))) (QpD (QpD @Am.Xc.eq_10 (QpD @Am.Xc.eq_11 @Am.Xc.eq_12)) (QpD (QpD @Am.Xc.eq_13 @Am.Xc.eq_14) (QpD @Am.Xc.eq_15 @Am.Xc.eq_16))))))) (QpD (QpD (QpD (QpD (QpD (QpD @Am.Xc.eq_17 (QpD @Am.Xs.eq_1 @Am.Xs.eq_2)) (QpD @Am.Xs.eq_3 (QpD @Am.Xs.eq_4 @Am.Xs.eq_5))) (QpD (QpD @Am.Xs.eq_6 (QpD @Am.Xs.eq_7 @Am.Xs.eq_8)) (QpD @Am.Xs.eq_9 (QpD @Am.Xs.eq_10 @Am.Xs.eq_11)))) (QpD (QpD (QpD @Am.Xs.eq_12 (QpD @Am.Xs.eq_13 @Am.Xs.eq_14)) (QpD @Am.Xs.eq_15 (QpD @Am.Xs.eq_16 @Am.Gc.eq_1))) (QpD (QpD @Am.Gc.eq_2 (QpD @Am.Gc.eq_3 @Am.Gc.eq_4)) (QpD @cond_true.{0} (QpD @cond_true.{1} @cond_false.{0}))))) (QpD (QpD (QpD (QpD @cond_false.{1} (QpD @QoO @and_true)) (QpD @Qo0.{0} (QpD @Qo4.{0} @List.getElem?_nil.{0}))) (QpD (QpD @Qo8.{0} (QpD @QpB.{0} @Am.St.enter.eq_1)) (QpD @Am.VC.eq_1 (QpD @Am.AV.shL.eq_1 @Am.AV.shL.eq_2)))) (QpD (QpD (QpD @Am.AV.sh.eq_1 (QpD @Am.AV.sh.eq_2 @Am.AV.sh.eq_3)) (QpD @Am.AV.sh.eq_4 (QpD @Am.AV.sh.eq_5 @Am.AV.sh.eq_6))) (QpD (QpD @Am.AV.sh.eq_7 (QpD @Am.AV.sh.eq_8 @Am.AV.sh.eq_9)) (QpD (QpD @Am.W9.eq_1 @Am.W9.eq_2) (QpD @Am.RR.ev.eq_1 @Am.RR.ev.eq_2)))))) (QpD (QpD (QpD (QpD (QpD @Am.RR.evL.eq_1 (QpD @Am.RR.evL.eq_2 @Am.YO.eq_1)) (QpD @Am.AV.still.eq_1 (QpD @Am.AV.still.eq_2 @Am.AV.still.eq_3))) (QpD (QpD @Am.AV.still.eq_4 (QpD @Am.AV.still.eq_5 @Am.AV.still.eq_6)) (QpD @Am.AV.still.eq_7 (QpD @Am.AV.still.eq_8 @Am.AV.stillL.eq_1)))) (QpD (QpD (QpD @Am.AV.stillL.eq_2 (QpD @Am.AV.un.eq_1 @Am.AV.un.eq_2)) (QpD @Am.AV.un.eq_3 (QpD @Am.AV.un.eq_4 @Am.AV.un.eq_5))) (QpD (QpD @Am.AV.un.eq_6 (QpD @Am.AV.un.eq_7 @Am.AV.un.eq_8)) (QpD (QpD @Am.AV.un.eq_9 @Am.AV.un.eq_10) (QpD @Am.AV.un.eq_11 @Am.AV.un.eq_12))))) (QpD (QpD (QpD (QpD @Am.AV.un.eq_13 (QpD @Am.AV.unL.eq_1 @Am.AV.unL.eq_2)) (QpD @Option.bind_some.{0,0} (QpD @Qon.{0,0} @if_true.{0}))) (QpD (QpD @if_true.{1} (QpD @if_false.{0} @if_false.{1})) (QpD @Qog (QpD @Go.IntKind.bits.eq_1 @Go.IntKind.bits.eq_2)))) (QpD (QpD (QpD @Go.IntKind.bits.eq_3 (QpD @Go.IntKind.bits.eq_4 @Go.IntKind.bits.eq_5)) (QpD @Go.IntKind.bits.eq_6 (QpD @Go.IntKind.bits.eq_7 @Go.IntKind.bits.eq_8))) (QpD (QpD @QoT.{0} (QpD @Qoc.{0} @QpE)) (QpD (QpD @Qpb @forall_const.{1}) (QpD @not_true_eq_false @not_false_eq_true))))))))
end Go.Proofs.YtgnfjkkfbcnbfaaGreatDoor.Am
namespace Go.Proofs.YtgnfjkkfbcnbfaaGreatDoor.Cg
open Go Am
structure TI where
 sz:Nat:=1
 st:Bool:=false
 k:Nat:=0
 y:Ty:=.other
 i:IntKind:=.i64
 e:Nat:=0
 n:Nat:=0
 b:Nat:=8
 z:List AV:=[]
 fs:List (Nat×Nat×Bool):=[]
 ys:List Ty:=[]
 x:Bool:=false
def tt:Nat→TI
 |3=>{ k:=1,y:=.num,z:=[.int .i64 0] }
 |4=>{ k:=3,y:=.bool,b:=1,z:=[.bool false] }
 |5=>{ k:=1,y:=.num,i:=.u8,b:=1,z:=[.int .u8 0] }
 |9=>{ k:=2,y:=.str,b:=16,z:=[.str []] }
 |21=>{ k:=1,y:=.num,i:=.i32,b:=4,z:=[.int .i32 0] }
 |22=>{ k:=6,e:=62,b:=24,z:=[.nils] }
 |23=>{ k:=6,e:=97,b:=24,z:=[.nils] }
 |25=>{ sz:=2,st:=true,k:=8,b:=48,z:=[.nils,.nils],fs:=[(0,1,false),(1,1,false)],ys:=[.other,.other] }
 |26=>{ k:=1,y:=.num,i:=.u64,z:=[.int .u64 0] }
 |27=>{ k:=6,e:=32,b:=24,z:=[.nils] }
 |28=>{ k:=6,e:=50,b:=24,z:=[.nils] }
 |29=>{ k:=6,e:=52,b:=24,z:=[.nils] }
 |30=>{ k:=6,e:=68,b:=24,z:=[.nils] }
 |32=>{ sz:=7,st:=true,k:=8,b:=128,z:=[.int .i64 0,.int .u64 0,.str [],.nils,.nils,.nils,.nils],fs:=[(0,1,false),(1,1,false),(2,1,false),(3,1,false),(4,1,false),(5,1,false),(6,1,false)],ys:=[.num,.num,.str,.other,.other,.other,.other] }
 |35=>{ k:=1,y:=.num,z:=[.int .i64 0] }
 |43=>{ sz:=4,st:=true,k:=8,b:=32,z:=[.int .i64 0,.int .i64 0,.int .i64 0,.int .i64 0],fs:=[(0,1,false),(1,1,false),(2,1,false),(3,1,false)],ys:=[.num,.num,.num,.num] }
 |50=>{ sz:=14,st:=true,k:=8,b:=256,z:=[.int .i64 0,.int .u64 0,.str [],.nils,.nils,.nils,.nils,.int .i64 0,.int .u64 0,.str [],.nils,.nils,.nils,.nils],fs:=[(0,7,true),(7,7,true)],ys:=[.other,.other] }
 |52=>{ sz:=8,st:=true,k:=8,b:=136,z:=[.int .i64 0,.int .i64 0,.int .u64 0,.str [],.nils,.nils,.nils,.nils],fs:=[(0,1,false),(1,7,true)],ys:=[.num,.other] }
 |56=>{ sz:=2,st:=true,k:=8,b:=48,z:=[.nils,.nils],fs:=[(0,2,true)],ys:=[.other] }
 |59=>{ sz:=8,st:=true,k:=8,b:=80,z:=[.int .i64 0,.str [],.str [],.int .i64 0,.int .i64 0,.int .i64 0,.int .i64 0,.int .i64 0],fs:=[(0,1,false),(1,1,false),(2,1,false),(3,1,false),(4,1,false),(5,1,false),(6,1,false),(7,1,false)],ys:=[.num,.str,.str,.num,.num,.num,.num,.num] }
 |60=>{ k:=6,e:=59,b:=24,z:=[.nils] }
 |62=>{ sz:=3,st:=true,k:=8,b:=48,z:=[.str [],.nils,.int .i64 0],fs:=[(0,1,false),(1,1,false),(2,1,false)],ys:=[.str,.other,.num] }
 |68=>{ sz:=4,st:=true,k:=8,b:=40,z:=[.int .i64 0,.int .i64 0,.int .u64 0,.str []],fs:=[(0,1,false),(1,1,false),(2,1,false),(3,1,false)],ys:=[.num,.num,.num,.str] }
 |74=>{ sz:=2,st:=true,k:=8,b:=48,z:=[.nils,.nils],fs:=[(0,2,true)],ys:=[.other] }
 |81=>{ sz:=6,st:=true,k:=8,b:=56,z:=[.str [],.int .i64 0,.int .i64 0,.int .i64 0,.int .i64 0,.int .i64 0],fs:=[(0,1,false),(1,1,false),(2,1,false),(3,1,false),(4,1,false),(5,1,false)],ys:=[.str,.num,.num,.num,.num,.num] }
 |86=>{ sz:=8,st:=true,k:=8,b:=104,z:=[.nils,.nils,.str [],.int .i64 0,.int .i64 0,.int .i64 0,.int .i64 0,.int .i64 0],fs:=[(0,2,true),(2,6,true)],ys:=[.other,.other] }
 |93=>{ k:=6,e:=100,b:=24,z:=[.nils] }
 |94=>{ k:=6,e:=103,b:=24,z:=[.nils] }
 |95=>{ k:=6,e:=105,b:=24,z:=[.nils] }
 |97=>{ sz:=5,st:=true,k:=8,b:=96,z:=[.str [],.bool false,.nils,.nils,.nils],fs:=[(0,1,false),(1,1,false),(2,1,false),(3,1,false),(4,1,false)],ys:=[.str,.bool,.other,.other,.other] }
 |100=>{ sz:=3,st:=true,k:=8,b:=48,z:=[.str [],.int .i64 0,.nils],fs:=[(0,1,false),(1,1,false),(2,1,false)],ys:=[.str,.num,.other] }
 |103=>{ sz:=2,st:=true,k:=8,b:=16,z:=[.int .i64 0,.int .i64 0],fs:=[(0,1,false),(1,1,false)],ys:=[.num,.num] }
 |105=>{ sz:=8,st:=true,k:=8,b:=144,z:=[.str [],.int .i64 0,.int .u64 0,.str [],.nils,.nils,.nils,.nils],fs:=[(0,1,false),(1,7,true)],ys:=[.str,.other] }
 |108=>{ k:=6,e:=4,b:=24,z:=[.nils] }
 |121=>{ k:=4,y:=.ptr,e:=124,z:=[.nilp] }
 |122=>{ k:=6,e:=5,b:=24,z:=[.nils] }
 |124=>{ sz:=2,st:=true,k:=8,b:=32,z:=[.nilp,.nils],fs:=[(0,1,false),(1,1,false)],ys:=[.ptr,.other] }
 |156=>{ z:=[.nilf] }
 |168=>{ z:=[.nilf] }
 |170=>{ z:=[.nilf] }
 |179=>{ st:=true,k:=8,z:=[.nilf],fs:=[(0,1,false)],ys:=[.other] }
 |183=>{ k:=1,y:=.num,i:=.u64,z:=[.int .u64 0] }
 |184=>{ k:=4,y:=.ptr,e:=5,z:=[.nilp] }
 |196=>{ k:=6,e:=9,b:=24,z:=[.nils] }
 |210=>{ k:=10,z:=[.nilp] }
 |241=>{ sz:=2,st:=true,k:=8,b:=16,z:=[.int .i64 0,.int .i64 0],fs:=[(0,1,false),(1,1,false)],ys:=[.num,.num] }
 |243=>{ k:=9,e:=241,z:=[.nilm] }
 |252=>{ sz:=7,st:=true,k:=8,b:=128,z:=[.int .i64 0,.int .u64 0,.str [],.nils,.nils,.nils,.nils],fs:=[(0,1,false),(1,1,false),(2,1,false),(3,1,false),(4,1,false),(5,1,false),(6,1,false)],ys:=[.num,.num,.str,.other,.other,.other,.other] }
 |253=>{ k:=6,e:=32,b:=24,z:=[.nils] }
 |255=>{ k:=6,e:=50,b:=24,z:=[.nils] }
 |258=>{ sz:=2,st:=true,k:=8,b:=48,z:=[.nils,.nils],fs:=[(0,1,false),(1,1,false)],ys:=[.other,.other] }
 |277=>{ k:=6,e:=3,b:=24,z:=[.nils] }
 |287=>{ sz:=2,st:=true,k:=8,b:=2,z:=[.int .u8 0,.int .u8 0],fs:=[(0,1,false),(1,1,false)],ys:=[.num,.num] }
 |289=>{ k:=1,y:=.num,i:=.u32,b:=4,z:=[.int .u32 0] }
 |_=>{}
end Go.Proofs.YtgnfjkkfbcnbfaaGreatDoor.Cg
set_option linter.unusedVariables false
namespace Go.Proofs.YtgnfjkkfbcnbfaaGreatDoor.Cg
open Go Am
inductive HV where
 |d
 |ro (r:RO)
 |lv (l s:Nat)
 |lr
 |lo
 |cc
 |cf
 |cg
 |ck (l s:Nat)
 |ac
 |bv
 |sl
 |sp
 |mp
 |sm
mutual
def av:Value→AV
 |.int k n=>.int k n
 |.bool b=>.bool b
 |.string ⟨⟨s⟩⟩=>.str s
 |.slice .. => .nils
 |.pointer _=>.nilp
 |.nilFunc=>.nilf
 |.nilIface=>.nili
 |.map _=>.nilm
 |.agg ⟨l⟩=>.agg (avs l)
 |.tuple ⟨l⟩=>.tup (avs l)
 |_=>.top
def avs:List Value→List AV
 | []=>[]
 |x :: l=>av x :: avs l
end
def ra:Operand→RA
 |.tmp n=>.t n
 |.const v=>.c (av v)
 |.func k=>.f k
 |.global k=>.t k
def ras:List Operand→List RA
 | []=>[]
 |x :: l=>ra x :: ras l
def rp:Option Operand→Option RA
 |none=>none
 |some x=>some (ra x)
def sh (t:TI):Option Nat:=bif t.st then some t.sz else none
def fo:List (Nat×Nat×Bool)→Nat→Nat
 | [],_=>0
 |x :: _,0=>x.1
 |_ :: l,i+1=>fo l i
def fh:List (Nat×Nat×Bool)→Nat→Option Nat
 | [],_=>none
 |x :: _,0=>bif x.2.2 then some x.2.1 else none
 |_ :: l,i+1=>fh l i
def fz:List (Nat×Nat×Bool)→Nat→Nat
 | [],_=>0
 |x :: _,0=>x.2.1
 |_ :: l,i+1=>fz l i
def ps (fs:List (Nat×Nat×Bool)):List (Nat×Operand)→List (Nat×Nat×RA)
 | []=>[]
 |(i,x) :: l=>(fo fs i,fz fs i,ra x) :: ps fs l
def pa (n:Nat):List (Nat×Operand)→List (Nat×Nat×RA)
 | []=>[]
 |(i,x) :: l=>(i*n,n,ra x) :: pa n l
def nl:Operand→Bool
 |.const (.slice ..)=>true
 |_=>false
def ok (d t:Nat):Nat:=bif t==124 then 2000+t else d
def ng:BinOp→Bool
 |.neq=>true
 |_=>false
def lk {α:Type}(x:α):List (Nat×α)→Nat→α
 | [],_=>x
 |(i,y) :: l,k=>bif i==k then y else lk x l k
def lz (t:TI):Nat:=bif t.k==2 then 0 else bif t.k==9 then 2 else 1
def zo (t:TI):AV:=bif t.st then .agg t.z else t.z.headD .top
def bt (M k:Nat):Bool:=M >>> k % 2==1
def ca:Operand→List RA→RO
 |.func k,l=>bif bt 4196329700946965100757880455514964348700560912427213628685270615681034379548605263356186591232 k then .callF (.f k) l else .call (.f k) l
 |f,l=>.callF (ra f) l
def bn (b:BinOp)(t:TI)(x y:Operand):RO:=bif t.k==6&&nl y then .isnil (ng b) (ra x)else bif t.k==8 then .val (.eqs (ng b) t.ys (ra x) (ra y))else .val (.bin t.y b (ra x) (ra y))
def cv (d:Nat)(s t:TI)(x:Operand):RO:=bif t.k==1 then .val (.cvi t.i (ra x))else bif t.k==2 then .val (.b2s (ra x))else bif t.k==6 then .s2b d t.e (ra x)else bif t.k==10 then .val (.toU (ra x))else .val (.ofU t.e (tt t.e).sz (ra x))
def bi (d:Nat):Builtin→List Operand→TI→TI→RO
 |.len,[x],t,_=>.val (.len (lz t) (ra x))
 |.max,[x,y],_,_=>.val (.mnx true (ra x) (ra y))
 |.min,[x,y],_,_=>.val (.mnx false (ra x) (ra y))
 |.max,[x,y,z],_,_=>.val (.mnx3 true (ra x) (ra y) (ra z))
 |.min,[x,y,z],_,_=>.val (.mnx3 false (ra x) (ra y) (ra z))
 |.append,[x,y],t,u=>bif u.k==2 then .appS t.e (ra x) (ra y)else .app (tt t.e).sz (tt t.e).b t.e (ra x) (ra y)
 |.unsafeSliceData,[x],_,_=>.usd (ra x)
 |.unsafeString,[x,y],t,_=>.ustr t.e (ra x) (ra y)
 |_,_,_,_=>.bsl0 0 d
def t1:List Nat→TI
 | []=>{}
 |t :: _=>tt t
def t2:List Nat→TI
 |_ :: t :: _=>tt t
 |_=>{}
def o1 (d:Nat):Op→RO
 |.move x=>.val (.mov (ra x))
 |.assign x=>.val (.mov (ra x))
 |.pick a b c=>.val (.pick (ra a) (ra b) (ra c))
 |.alloc t=>.allocN (ok d t) (tt t).z
 |.box t x=>.boxN (ok d t) (ra x)
 |.build t ⟨l⟩=>.val (.build (tt t).z (bif (tt t).k==7 then pa (tt (tt t).e).sz l else ps (tt t).fs l))
 |.load t p=>.val (.load (sh (tt t)) (ra p))
 |.store t p x=>.store (tt t).sz (ra p) (ra x)
 |.nilCheck x=>.val (.nilck (ra x))
 |.binOp b t x y _=>bn b (tt t) x y
 |.unOp u _ x=>.val (.un u (ra x))
 |.convert s t x=>cv d (tt s) (tt t) x
 |.fieldAddr t x i=>.val (.faddr (fo (tt t).fs i) (ra x))
 |.field t x i=>.val (.fld (fo (tt t).fs i) (fh (tt t).fs i) (ra x))
 |.indexAddr t x i=>.val (.iaddr (tt (tt t).e).sz (bif (tt t).k==7 then some (tt t).n else none) (ra x) (ra i))
 |.index t x i=>bif (tt t).k==7 then .bsl0 0 0 else .val (.idx (ra x) (ra i))
 |.slice t x a b c=>.val (.slc (bif (tt t).k==2 then none else some (tt (tt t).e).sz) (ra x) (rp a) (rp b) (rp c))
 |.extract x i=>.val (.ext (ra x) i)
 |.makeFunc f ⟨a⟩ ⟨b⟩=>.val (.mkfn f (ras a) (ras b))
 |.makeSlice t x y=>.mk d (tt t).e (tt (tt t).e).sz (tt (tt t).e).b (tt (tt t).e).z (ra x) (ra y)
 |.buildSlice t n ⟨l⟩=>bif n==0 then .bsl0 d (tt (tt t).e).sz else .bsl (tt (tt t).e).sz n (tt (tt t).e).z (pa (tt (tt t).e).sz l)
 |.call ⟨.value f,⟨l⟩,_⟩=>ca f (ras l)
 |.call ⟨.builtin b,⟨l⟩,⟨t⟩⟩=>bi d b l (t1 t) (t2 t)
 |.range _ x=>.rngs d (ra x)
 |.next x _=>.nxts (ra x)
 |.makeMap _ _=>.mkm d
 |.mapUpdate t x i v=>.mput (ra x) (ra i) (ra v)
 |.insert t x i v=>.mput (ra x) (ra i) (ra v)
 |.makeInterface t x=>.val (.mki t (ra x))
 |.typeAssert x _ t b=>.val (.tas t b (zo (tt t)) (ra x))
 |.lookup t x i b=>.val (.mget b (zo (tt (tt t).e)) (ra x) (ra i))
 |_=>.bsl0 0 0
def lf:Op→(Operand→List RA→RO)→RO
 |.call ⟨.value f,⟨l⟩,_⟩,k=>k f (ras l)
 |_,_=>.bsl0 0 0
def lp:Op→(RA→RA→TI→RO)→RO
 |.call ⟨_,⟨[x,y]⟩,⟨t :: _⟩⟩,k=>k (ra x) (ra y) (tt t)
 |_,_=>.bsl0 0 0
def lb:Op→(Nat→List (Nat×Operand)→TI→RO)→RO
 |.buildSlice t n ⟨l⟩,k=>k n l (tt (tt t).e)
 |_,_=>.bsl0 0 0
def ld (f:Option Nat→RA→VO):Op→RO
 |.load t p=>.val (f (sh (tt t)) (ra p))
 |_=>.bsl0 0 0
def sv (l s:Nat):Op→RO
 |.load t p=>.val (.loadv l s (sh (tt t)) (ra p))
 |.store t p x=>.storev l s (tt t).sz (ra p) (ra x)
 |_=>.bsl0 0 0
def ls (k:TI→RA→Option RA→Option RA→Option RA→RO):Op→RO
 |.slice t x a b c=>k (tt (tt t).e) (ra x) (rp a) (rp b) (rp c)
 |_=>.bsl0 0 0
def lq:Option RA→RA
 |some x=>x
 |none=>.t 0
def lm:Op→RO
 |.lookup t x i b=>.val (.mgetp b (zo (tt (tt t).e)) (ra x) (ra i))
 |_=>.bsl0 0 0
def la:Op→RO
 |_=>.bsl0 0 0
def hd:List RA→RA
 |x :: _=>x
 | []=>.t 0
def op (d:Nat)(o:Op):HV→RO
 |.d=>o1 d o
 |.ro r=>r
 |.lv l s=>sv l s o
 |.lr=>ld .loadr o
 |.lo=>ld .loado o
 |.cc=>lf o fun f l=>.call (ra f) l
 |.cf=>lf o fun f l=>.callF (ra f) l
 |.cg=>lf o fun f l=>.callG (ra f) l
 |.ck i s=>lf o fun f l=>.callK i s (ra f) l
 |.sm=>lf o fun _ l=>.val (.same (hd l))
 |.ac=>lp o fun x y t=>.appc d (tt t.e).sz (tt t.e).b t.e x y
 |.bv=>lb o fun n l t=>.bslv d t.sz n t.z (pa t.sz l)
 |.sl=>ls (fun _ x _ b c=>.val (.slcl x (lq b) (lq c))) o
 |.sp=>ls (fun t x a b c=>.val (.slcp (some t.sz) x a b c)) o
 |.mp=>lm o
def dd:Option Nat→Nat
 |some d=>d
 |none=>0
def ds:List Oper→List Nat
 | []=>[]
 |o :: l=>dd o.dst :: ds l
def nt:List Nat→Nat→Nat
 | [],_=>0
 |x :: _,0=>x
 |_ :: l,i+1=>nt l i
def gd (l:List Nat):Option (Nat×Bool)→Option (Nat×Bool)
 |none=>none
 |some (j,w)=>some (nt l j,w)
def its (ks:List (Nat×HV))(l:List Nat):Nat→List Oper→List Am.Item
 |_,[]=>[]
 |k,o :: os=>⟨o.dst,op (dd o.dst) o.op (lk .d ks k),gd l o.guard⟩ :: its ks l (k+1) os
def wr:List GO→RC→RC
 | [],c=>c
 |g :: l,c=>.gho g (wr l c)
def dr:List Nat→RC→RC
 | [],c=>c
 |s :: l,c=>dr l (.gho (.drop s) c)
def s1 (d:Nat):Op→List Nat
 |.alloc t=>[ok d t]
 |.box t _=>[ok d t]
 |.range _ _=>[d]
 |.makeMap _ _=>[d]
 |_=>[]
def so:List Oper→List Nat
 | []=>[]
 |o :: l=>s1 (dd o.dst) o.op++so l
def me (k:Nat):List Nat→Bool
 | []=>false
 |i :: l=>bif i==k then true else me k l
def st (no:List Nat):Code→List Nat
 |.region n ⟨l⟩ _=>bif me n no then []else so l
 |.seq a b=>st no a++st no b
 |.cond _ a b=>st no a++st no b
 |.block _ a=>st no a
 |.loop a=>st no a
 |.scope a=>st no a
 |_=>[]
def pn (pe:List (Nat×List GO)):Code→List GO
 |.region n _ _=>lk [] pe n
 |.seq _ b=>pn pe b
 |.cond _ a b=>pn pe a++pn pe b
 |.block _ a=>pn pe a
 |.loop a=>pn pe a
 |.scope a=>pn pe a
 |_=>[]
def cd (no:List Nat)(ov:List (Nat×List (Nat×HV)))(pe be:List (Nat×List GO)):Code→RC
 |.skip=>.skip
 |.region n ⟨l⟩ b=>bif me n no then .no else wr (lk [] be n) (bif b then .draw (its (lk [] ov n) (ds l) 0 l)else .reg (its (lk [] ov n) (ds l) 0 l))
 |.seq a b=>.seq (cd no ov pe be a) (wr (pn pe a) (cd no ov pe be b))
 |.cond x a b=>.cond (ra x) (cd no ov pe be a) (cd no ov pe be b)
 |.block n a=>.block n (cd no ov pe be a)
 |.loop a=>.loop (dr (st no a) (cd no ov pe be a))
 |.exit n=>.exit n
 |.scope a=>.scope (cd no ov pe be a)
 |.label _=>.lab
 |.ret=>.ret
 |_=>.no
def bo:Option Code→Code
 |some c=>c
 |none=>.skip
def fn (f:Func)(no:List Nat:=[])(ov:List (Nat×List (Nat×HV)):=[])(pe be:List (Nat×List GO):=[]):RC:=cd no ov pe be (bo f.body)
def r1:List ResultVar→List RR
 | []=>[]
 |.tmp t :: l=>.tmp t :: r1 l
 |.cell t y :: l=>.cell t (sh (tt y)) :: r1 l
def rs (f:Func):List RR:=r1 f.results.toList
end Go.Proofs.YtgnfjkkfbcnbfaaGreatDoor.Cg
set_option linter.defProp false
namespace Go.Proofs.YtgnfjkkfbcnbfaaGreatDoor.Am
open Go
def eC:=(QpD (QpD (QpD (QpD (QpD (QpD (QpD @Cg.av.eq_1 (QpD @Cg.av.eq_2 @Cg.av.eq_3)) (QpD (QpD @Cg.av.eq_4 @Cg.av.eq_5) (QpD @Cg.av.eq_6 @Cg.av.eq_7))) (QpD (QpD (QpD @Cg.av.eq_8 @Cg.av.eq_9) (QpD @Cg.av.eq_10 @Cg.av.eq_11)) (QpD (QpD @Cg.avs.eq_1 @Cg.avs.eq_2) (QpD @Cg.ra.eq_1 @Cg.ra.eq_2)))) (QpD (QpD (QpD (QpD @Cg.ra.eq_3 @Cg.ra.eq_4) (QpD @Cg.ras.eq_1 @Cg.ras.eq_2)) (QpD (QpD @Cg.rp.eq_1 @Cg.rp.eq_2) (QpD @Cg.sh.eq_1 @Cg.fo.eq_1))) (QpD (QpD (QpD @Cg.fo.eq_2 @Cg.fo.eq_3) (QpD @Cg.fh.eq_1 @Cg.fh.eq_2)) (QpD (QpD @Cg.fh.eq_3 @Cg.fz.eq_1) (QpD @Cg.fz.eq_2 @Cg.fz.eq_3))))) (QpD (QpD (QpD (QpD @Cg.ps.eq_1 (QpD @Cg.ps.eq_2 @Cg.pa.eq_1)) (QpD (QpD @Cg.pa.eq_2 @Cg.nl.eq_1) (QpD @Cg.nl.eq_2 @Cg.ok.eq_1))) (QpD (QpD (QpD @Cg.ng.eq_1 @Cg.ng.eq_2) (QpD @Cg.lk.eq_1 @Cg.lk.eq_2)) (QpD (QpD @Cg.lz.eq_1 @Cg.zo.eq_1) (QpD @Cg.bt.eq_1 @Cg.ca.eq_1)))) (QpD (QpD (QpD (QpD @Cg.ca.eq_2 @Cg.bn.eq_1) (QpD @Cg.cv.eq_1 @Cg.bi.eq_1)) (QpD (QpD @Cg.bi.eq_2 @Cg.bi.eq_3) (QpD @Cg.bi.eq_4 @Cg.bi.eq_5))) (QpD (QpD (QpD @Cg.bi.eq_6 @Cg.bi.eq_7) (QpD @Cg.bi.eq_8 @Cg.bi.eq_9)) (QpD (QpD @Cg.t1.eq_1 @Cg.t1.eq_2) (QpD @Cg.t2.eq_1 @Cg.t2.eq_2)))))) (QpD (QpD (QpD (QpD (QpD @Cg.o1.eq_1 (QpD @Cg.o1.eq_2 @Cg.o1.eq_3)) (QpD (QpD @Cg.o1.eq_4 @Cg.o1.eq_5) (QpD @Cg.o1.eq_6 @Cg.o1.eq_7))) (QpD (QpD (QpD @Cg.o1.eq_8 @Cg.o1.eq_9) (QpD @Cg.o1.eq_10 @Cg.o1.eq_11)) (QpD (QpD @Cg.o1.eq_12 @Cg.o1.eq_13) (QpD @Cg.o1.eq_14 @Cg.o1.eq_15)))) (QpD (QpD (QpD (QpD @Cg.o1.eq_16 @Cg.o1.eq_17) (QpD @Cg.o1.eq_18 @Cg.o1.eq_19)) (QpD (QpD @Cg.o1.eq_20 @Cg.o1.eq_21) (QpD @Cg.o1.eq_22 @Cg.o1.eq_23))) (QpD (QpD (QpD @Cg.o1.eq_24 @Cg.o1.eq_25) (QpD @Cg.o1.eq_26 @Cg.o1.eq_27)) (QpD (QpD @Cg.o1.eq_28 @Cg.o1.eq_29) (QpD @Cg.o1.eq_30 @Cg.o1.eq_31))))) (QpD (QpD (QpD (QpD (QpD @Cg.o1.eq_32 @Cg.lf.eq_1) (QpD @Cg.lf.eq_2 @Cg.lp.eq_1)) (QpD (QpD @Cg.lp.eq_2 @Cg.lb.eq_1) (QpD @Cg.lb.eq_2 @Cg.ld.eq_1))) (QpD (QpD (QpD @Cg.ld.eq_2 @Cg.sv.eq_1) (QpD @Cg.sv.eq_2 @Cg.sv.eq_3)) (QpD (QpD @Cg.ls.eq_1 @Cg.ls.eq_2) (QpD @Cg.lq.eq_1 @Cg.lq.eq_2)))) (QpD (QpD (QpD (QpD @Cg.lm.eq_1 @Cg.lm.eq_2) (QpD @Cg.la.eq_1 @Cg.hd.eq_1)) (QpD (QpD @Cg.hd.eq_2 @Cg.op.eq_1) (QpD @Cg.op.eq_2 @Cg.op.eq_3))) (QpD (QpD (QpD @Cg.op.eq_4 @Cg.op.eq_5) (QpD @Cg.op.eq_6 @Cg.op.eq_7)) (QpD (QpD @Cg.op.eq_8 @Cg.op.eq_9) (QpD @Cg.op.eq_10 @Cg.op.eq_11))))))) (QpD (QpD (QpD (QpD (QpD (QpD @Cg.op.eq_12 (QpD @Cg.op.eq_13 @Cg.op.eq_14)) (QpD (QpD @Cg.op.eq_15 @Cg.dd.eq_1) (QpD @Cg.dd.eq_2 @Cg.ds.eq_1))) (QpD (QpD (QpD @Cg.ds.eq_2 @Cg.nt.eq_1) (QpD @Cg.nt.eq_2 @Cg.nt.eq_3)) (QpD (QpD @Cg.gd.eq_1 @Cg.gd.eq_2) (QpD @Cg.its.eq_1 @Cg.its.eq_2)))) (QpD (QpD (QpD (QpD @Cg.wr.eq_1 @Cg.wr.eq_2) (QpD @Cg.dr.eq_1 @Cg.dr.eq_2)) (QpD (QpD @Cg.s1.eq_1 @Cg.s1.eq_2) (QpD @Cg.s1.eq_3 @Cg.s1.eq_4))) (QpD (QpD (QpD @Cg.s1.eq_5 @Cg.so.eq_1) (QpD @Cg.so.eq_2 @Cg.me.eq_1)) (QpD (QpD @Cg.me.eq_2 @Cg.st.eq_1) (QpD @Cg.st.eq_2 @Cg.st.eq_3))))) (QpD (QpD (QpD (QpD (QpD @Cg.st.eq_4 @Cg.st.eq_5) (QpD @Cg.st.eq_6 @Cg.st.eq_7)) (QpD (QpD @Cg.pn.eq_1 @Cg.pn.eq_2) (QpD @Cg.pn.eq_3 @Cg.pn.eq_4))) (QpD (QpD (QpD @Cg.pn.eq_5 @Cg.pn.eq_6) (QpD @Cg.pn.eq_7 @Cg.cd.eq_1)) (QpD (QpD @Cg.cd.eq_2 @Cg.cd.eq_3) (QpD @Cg.cd.eq_4 @Cg.cd.eq_5)))) (QpD (QpD (QpD (QpD @Cg.cd.eq_6 @Cg.cd.eq_7) (QpD @Cg.cd.eq_8 @Cg.cd.eq_9)) (QpD (QpD @Cg.cd.eq_10 @Cg.cd.eq_11) (QpD @Cg.bo.eq_1 @Cg.bo.eq_2))) (QpD (QpD (QpD @Cg.fn.eq_1 @Cg.r1.eq_1) (QpD @Cg.r1.eq_2 @Cg.r1.eq_3)) (QpD (QpD @Cg.rs.eq_1 @Cg.tt.eq_1) (QpD @Cg.tt.eq_2 @Cg.tt.eq_3)))))) (QpD (QpD (QpD (QpD (QpD @Cg.tt.eq_4 (QpD @Cg.tt.eq_5 @Cg.tt.eq_6)) (QpD (QpD @Cg.tt.eq_7 @Cg.tt.eq_8) (QpD @Cg.tt.eq_9 @Cg.tt.eq_10))) (QpD (QpD (QpD @Cg.tt.eq_11 @Cg.tt.eq_12) (QpD @Cg.tt.eq_13 @Cg.tt.eq_14)) (QpD (QpD @Cg.tt.eq_15 @Cg.tt.eq_16) (QpD @Cg.tt.eq_17 @Cg.tt.eq_18)))) (QpD (QpD (QpD (QpD @Cg.tt.eq_19 @Cg.tt.eq_20) (QpD @Cg.tt.eq_21 @Cg.tt.eq_22)) (QpD (QpD @Cg.tt.eq_23 @Cg.tt.eq_24) (QpD @Cg.tt.eq_25 @Cg.tt.eq_26))) (QpD (QpD (QpD @Cg.tt.eq_27 @Cg.tt.eq_28) (QpD @Cg.tt.eq_29 @Cg.tt.eq_30)) (QpD (QpD @Cg.tt.eq_31 @Cg.tt.eq_32) (QpD @Cg.tt.eq_33 @Cg.tt.eq_34))))) (QpD (QpD (QpD (QpD (QpD @Cg.tt.eq_35 @Cg.tt.eq_36) (QpD @Cg.tt.eq_37 @Cg.tt.eq_38)) (QpD (QpD @Cg.tt.eq_39 @Cg.tt.eq_40) (QpD @Cg.tt.eq_41 @Cg.tt.eq_42))) (QpD (QpD (QpD @Cg.tt.eq_43 @Cg.tt.eq_44) (QpD @Cg.tt.eq_45 @Cg.tt.eq_46)) (QpD (QpD @Cg.tt.eq_47 @Cg.tt.eq_48) (QpD @Cg.tt.eq_49 @Cg.tt.eq_50)))) (QpD (QpD (QpD (QpD @Cg.tt.eq_51 @Cg.tt.eq_52) (QpD @Cg.tt.eq_53 @Cg.tt.eq_54)) (QpD (QpD @Cg.tt.eq_55 @cond_true.{0}) (QpD @cond_true.{1} @cond_false.{0}))) (QpD (QpD (QpD @cond_false.{1} @QpE) (QpD @Qpu @Qpb)) (QpD (QpD @QpG @Qok.{0}) (QpD @Qoj.{0} @List.headD_cons.{0}))))))))
end Go.Proofs.YtgnfjkkfbcnbfaaGreatDoor.Am
namespace Go.Proofs.YtgnfjkkfbcnbfaaGreatDoor.Rc
open Go Am Cg
def hs:Nat→List Nat×List (Nat×List (Nat×HV))×List (Nat×List GO)×List (Nat×List GO)
 |5=>([],[(9,[(2,.lv 0 1),(6,.lr),(9,.lv 0 1),(13,.lr)])],[],[])
 |7=>([],[(2,[(0,.lv 0 1),(9,.lv 0 2)])],[],[])
 |10=>([],[(9,[(2,.lv 0 1),(6,.lr),(9,.lv 0 1),(13,.lr)])],[],[])
 |11=>([],[(9,[(2,.lv 0 1),(6,.lr),(9,.lv 0 1),(13,.lr)])],[],[])
 |17=>([],[(3,[(0,.lv 0 3),(3,.lv 0 3),(6,.lr),(7,.lv 0 5)])],[],[])
 |22=>([],[(7,[(1,.lv 0 7),(2,.lv 0 3),(3,.lv 0 4),(5,.lv 0 5),(8,.lr),(13,.lv 0 7)]),(15,[(1,.lv 0 9),(6,.lr),(8,.lv 0 3),(9,.lv 0 4),(14,.lr),(20,.lv 0 9)])],[(3,[.vecc 7 3 1100 7]),(10,[.vecc 9 4 1101 14])],[])
 |24=>([],[(13,[(1,.cg)]),(16,[(3,.cg)])],[],[])
 |29=>([],[(5,[(6,.lv 0 1),(11,.lr),(13,.lv 0 1),(17,.lr)]),(9,[(3,.lv 0 1),(7,.lr),(12,.lr),(14,.lv 0 1),(18,.lr),(22,.lr)]),(13,[(6,.lv 0 1),(11,.lr),(13,.lv 0 1),(17,.lr)]),(17,[(3,.lv 0 1),(7,.lr),(12,.lr),(14,.lv 0 1),(18,.lr),(22,.lr)])],[],[])
 |30=>([],[(8,[(3,.lv 0 1),(7,.lr),(9,.lv 0 1),(13,.lr)]),(16,[(6,.lr),(11,.lr)]),(27,[(6,.lr),(11,.lr)])],[],[])
 |31=>([],[(23,[(3,.lv 0 12),(8,.lv 0 12),(13,.lv 0 12),(15,.lv 0 12),(23,.lv 0 12),(25,.lv 0 8),(30,.lr)])],[],[])
 |32=>([],[(18,[(2,.lv 0 1),(4,.lv 0 1),(8,.lr),(11,.lr)])],[],[])
 |39=>([],[(7,[(1,.lv 0 3),(4,.lr),(6,.lv 0 9),(12,.lv 0 10)])],[(1,[.vecc 7 5 1100 8])],[])
 |40=>([],[(1,[(2,.lv 0 3),(5,.lr),(7,.lv 0 5),(13,.lv 0 7)]),(4,[(0,.lv 0 7),(2,.lv 0 3),(3,.lv 0 7),(5,.lv 0 5),(6,.cc)])],[],[])
 |41=>([],[],[(1,[.vecc 2124 1 2005 1])],[])
 |50=>([],[],[(5,[.vec 3 3 7])],[])
 |55=>([],[(12,[(7,.lr),(13,.lr)]),(14,[(7,.lr),(13,.lr)])],[],[])
 |64=>([],[(7,[(0,.lv 0 3),(2,.lv 0 3),(5,.lr),(8,.lv 0 5),(10,.ck 0 3)])],[],[])
 |66=>([],[(1,[(0,.lv 0 6),(5,.lr),(11,.lv 0 11)]),(13,[(0,.lv 0 5),(1,.lv 0 11),(6,.lr)])],[],[])
 |72=>([],[(7,[(7,.lv 0 6),(13,.lr)])],[(3,[.vec 4 4 8])],[])
 |74=>([],[(7,[(1,.lv 0 7),(2,.lv 0 3),(3,.lv 0 4),(4,.lv 0 9),(9,.lv 0 7)]),(15,[(1,.lv 0 10),(3,.lv 0 12),(5,.lv 0 3),(6,.lv 0 4),(8,.lv 0 12),(14,.lv 0 10)])],[(3,[.vecc 7 3 1100 7]),(11,[.vecc 10 4 1101 14])],[])
 |85=>([],[],[(1,[.vec 3 3 1])],[])
 |86=>([],[(1,[(3,.lo),(8,.lo)])],[],[])
 |92=>([],[(3,[(0,.lv 0 1),(4,.lv 0 4)]),(5,[(0,.lv 0 1),(3,.lv 0 4)]),(7,[(0,.lv 0 1),(3,.lv 0 4)]),(8,[(6,.lv 0 7),(9,.lv 0 4)])],[],[])
 |93=>([],[(4,[(4,.cg)]),(6,[(4,.cg)]),(10,[(4,.cg)]),(11,[(4,.cg)])],[],[])
 |94=>([],[(3,[(1,.lv 0 1),(3,.lv 0 2),(4,.lv 0 3)]),(6,[(1,.lv 0 1),(3,.lv 0 2),(4,.lv 0 3)]),(10,[(1,.lv 0 1),(3,.lv 0 2),(4,.lv 0 3)]),(11,[(0,.lv 0 9),(1,.lv 0 7),(2,.lv 0 2),(3,.lv 0 3)])],[],[])
 |95=>([],[(2,[(1,.lv 0 2),(4,.sl),(5,.lv 0 3),(7,.ac),(9,.lv 0 2)])],[],[])
 |97=>([],[(4,[(3,.lr),(7,.lr)])],[],[])
 |98=>([],[(4,[(4,.lr),(9,.lr)]),(7,[(4,.lr),(9,.lr)])],[],[])
 |99=>([],[(4,[(4,.lr),(9,.lr)]),(7,[(4,.lr),(9,.lr)])],[],[])
 |100=>([],[(4,[(3,.lr),(7,.lr)])],[],[])
 |101=>([],[(13,[(0,.lv 0 2),(2,.lv 0 3)]),(15,[(0,.lv 0 2),(2,.lv 0 3)])],[],[])
 |123=>([],[(4,[(5,.lr),(9,.lr)])],[],[])
 |125=>([],[(4,[(5,.lr),(9,.lr)])],[],[])
 |128=>([],[(4,[(5,.lr),(9,.lr)])],[],[])
 |131=>([],[(4,[(5,.lr),(9,.lr)])],[],[])
 |142=>([],[(4,[(1,.lv 0 4),(5,.lv 0 4),(10,.lv 0 4),(12,.lv 0 4),(20,.lv 0 4),(22,.lv 0 1),(27,.lr)])],[],[])
 |144=>([],[(7,[(2,.lv 0 6),(5,.lv 0 6)])],[],[])
 |165=>([],[(7,[(7,.lv 0 6),(13,.lr)])],[(3,[.vec 4 4 14])],[])
 |170=>([],[(5,[(1,.lv 0 9),(4,.lv 0 3),(5,.lv 0 4),(7,.lv 0 9)]),(6,[(2,.lv 0 4)])],[(1,[.vec 7 7 4])],[])
 |172=>([],[(4,[(2,.bv)])],[],[])
 |173=>([],[(5,[(2,.lv 0 4),(3,.lv 0 3),(4,.lv 0 4),(5,.lv 0 9)])],[(1,[.vec 7 7 4])],[])
 |174=>([],[(1,[(1,.lv 0 4),(2,.lv 0 3),(3,.lv 0 4),(4,.lv 0 5)])],[],[])
 |175=>([],[(1,[(3,.sm)])],[],[])
 |177=>([],[(3,[(0,.lv 0 1),(3,.lv 0 3)])],[],[])
 |181=>([],[(7,[(5,.cg)]),(10,[(0,.lv 0 5),(1,.lv 0 6),(2,.lv 0 7),(3,.lv 0 10),(4,.lv 0 14),(7,.lv 0 8)]),(13,[(4,.cg)])],[],[])
 |182=>([],[(1,[(1,.cg)]),(4,[(3,.cg)]),(7,[(3,.lo),(4,.lv 0 7),(5,.lv 0 11),(11,.lv 0 13)]),(16,[(1,.cg)]),(19,[(0,.lv 0 5),(1,.lv 0 6),(2,.lv 0 7),(3,.lv 0 14),(4,.lv 0 13),(7,.lv 0 8)])],[],[])
 |183=>([],[(3,[(1,.lv 0 2),(5,.lo),(14,.lv 0 2)])],[],[])
 |200=>([],[(1,[(1,.lv 0 3),(2,.cc),(5,.cc)])],[],[])
 |201=>([],[(1,[(1,.lv 0 3),(2,.cc),(5,.cc)])],[],[])
 |206=>([],[(1,[(2,.lv 0 4),(3,.mp),(8,.lv 0 9)])],[],[])
 |208=>([],[(2,[(0,.lv 0 4),(3,.lv 0 4),(5,.lv 0 5),(7,.lr),(8,.lv 0 6)])],[],[])
 |216=>([17],[],[],[])
 |220=>([],[(4,[(8,.lr),(13,.lr),(14,.cc)]),(6,[(9,.lr),(13,.lr)])],[],[])
 |221=>([],[(5,[(4,.lr),(8,.lr),(9,.cc)]),(11,[(9,.lr),(13,.lr)]),(17,[(4,.lr),(8,.lr),(9,.cc)]),(23,[(9,.lr),(13,.lr)]),(35,[(6,.lr),(10,.lr),(11,.cc)])],[],[])
 |232=>([],[(4,[(4,.cg)]),(5,[(2,.cg)]),(8,[(3,.lo),(4,.lv 0 4),(5,.lv 0 8),(9,.lv 0 6)])],[],[])
 |233=>([],[(1,[(4,.lo),(9,.lo),(11,.lv 0 3),(13,.lv 0 3)])],[],[])
 |234=>([],[],[(1,[.vecc 9 5 1100 8])],[])
 |235=>([],[(2,[(0,.lv 0 1),(2,.lv 0 3)]),(3,[(1,.lv 0 1),(3,.lv 0 1),(5,.lv 0 1),(8,.lv 0 3)])],[],[])
 |236=>([],[(1,[(1,.cg)]),(8,[(2,.cg)]),(11,[(3,.cg)]),(14,[(1,.lv 0 12),(5,.lo)])],[],[])
 |237=>([],[(2,[(1,.lv 0 2),(4,.sl),(5,.lv 0 3),(7,.ac),(9,.lv 0 4)])],[],[])
 |238=>([],[(6,[(1,.cg)])],[],[])
 |239=>([],[(3,[(1,.lv 0 5),(2,.lv 0 4)])],[],[])
 |240=>([],[(3,[(0,.lv 0 1),(3,.lv 0 3)])],[],[])
 |241=>([],[(3,[(0,.lv 0 2),(3,.lv 0 5)]),(8,[(0,.lv 0 2),(2,.lv 0 5)]),(11,[(0,.lv 0 2),(2,.lv 0 5)]),(14,[(1,.lv 0 8),(4,.lv 0 8),(6,.lv 0 8),(8,.lv 0 5)])],[],[])
 |257=>([],[(4,[(8,.lr),(13,.lr),(14,.cc)]),(6,[(9,.lr),(13,.lr)])],[],[])
 |258=>([],[(5,[(4,.lr),(8,.lr),(9,.cc)]),(11,[(9,.lr),(13,.lr)]),(17,[(4,.lr),(8,.lr),(9,.cc)]),(23,[(9,.lr),(13,.lr)]),(35,[(6,.lr),(10,.lr),(11,.cc)])],[],[])
 |261=>([],[(10,[(1,.lv 0 2),(4,.lv 0 3)])],[],[])
 |264=>([],[(1,[(1,.lv 0 2),(3,.lv 0 3),(6,.lv 0 2),(8,.lv 0 3)])],[],[])
 |267=>([],[(1,[(1,.lv 0 2),(3,.lv 0 3),(6,.lv 0 2),(8,.lv 0 3)])],[],[])
 |269=>([],[(1,[(1,.lv 0 2),(3,.lv 0 3),(6,.lv 0 2),(8,.lv 0 3),(11,.lv 0 2),(13,.lv 0 3),(16,.lv 0 2),(18,.lv 0 3)])],[],[])
 |274=>([],[(3,[(1,.lv 0 3),(3,.lv 0 3),(5,.lv 0 2),(7,.lv 0 2)])],[],[])
 |275=>([],[(2,[(0,.lv 0 2),(2,.lv 0 5)]),(4,[(0,.lv 0 2),(2,.lv 0 5)]),(6,[(0,.lv 0 2),(2,.lv 0 5)]),(8,[(0,.lv 0 2),(2,.lv 0 5)]),(9,[(0,.lv 0 2),(4,.lv 0 2),(8,.lv 0 5)])],[],[])
 |282=>([],[(4,[(3,.ro (.xb true 299 (.t 16) (.t 18)))])],[],[])
 |289=>([],[(4,[(8,.lr),(13,.lr),(14,.cc)]),(6,[(9,.lr),(13,.lr)])],[],[])
 |290=>([],[(5,[(4,.lr),(8,.lr),(9,.cc)]),(11,[(9,.lr),(13,.lr)]),(17,[(4,.lr),(8,.lr),(9,.cc)]),(23,[(9,.lr),(13,.lr)]),(35,[(6,.lr),(10,.lr),(11,.cc)])],[],[])
 |294=>([],[(3,[(13,.lr),(19,.lr)])],[],[])
 |302=>([],[(3,[(13,.lr),(19,.lr)])],[],[])
 |306=>([5,10],[],[],[])
 |307=>([],[(1,[(2,.ro (.xb false 312 (.t 5) (.t 6)))])],[],[])
 |311=>([],[(3,[(13,.lr),(19,.lr)])],[],[])
 |_=>([],[],[],[])
def rk (k:Nat)(f:Func):RC:=cd (hs k).1 (hs k).2.1 (hs k).2.2.1 (hs k).2.2.2 (bo f.body)
def KM:Nat:=24506561313292034860838400970037846186830745930235026968970540316706494131370600206439552908784
noncomputable def cx (k:Nat):Bool:=match Tryz.prog.funcs[k]? with
 |some f=>f.body.isSome && !(f.name == "runtime.NumGoroutine")&&ZT Tryz.prog f.ntmps (rk k f) (f.body.getD .skip)&&KX Tryz.prog f.results.toList (rs f)
 |none=>false
theorem kk:((List.range 314).all fun k=>!bt KM k||cx k)=true:=by decide +kernel
theorem kc {k:Nat}{f:Func}(hf:Tryz.prog.funcs[k]? = some f)(hk:bt KM k=true)(hl:k<314):CK Tryz.prog k f.ntmps (rk k f) (rs f):=by
 have h:=Qoa.1 kk k (Qpx.2 hl);rw[hk]at h;unfold cx at h;rw[hf]at h;exact ck hf rfl h
section
variable {k:Nat}{f:Func}{args:List AV}{m:Qj}(hf:Tryz.prog.funcs[k]? = some f)
include hf
theorem wG {R:AV→Qj→Prop}(w:Q2 Tryz.prog (rk k f) (St.enter args m) (ZY (rs f) m.length R))(hk:bt KM k=true:=by rfl)(hl:Nat.blt k 314=true:=by rfl)(ha:Nat.ble args.length f.ntmps=true:=by rfl):Qe Tryz.prog k args m R:=(kc hf hk (Qpr hl)).go (Qpr ha) w
theorem wF {v:AV}(w:Q2 Tryz.prog (rk k f) (St.enter args []) (ZY (rs f) 0 fun x _=>x=v))(hk:bt KM k=true:=by rfl)(hl:Nat.blt k 314=true:=by rfl)(ha:Nat.ble args.length f.ntmps=true:=by rfl):Qg Tryz.prog k args v:=(kc hf hk (Qpr hl)).fn (Qpr ha) w
end
noncomputable def ct (k:Nat):Option (RC×List RR×Nat):=bif bt KM k&&Nat.blt k 314 then Tryz.prog.funcs[k]?.map fun f=>(rk k f,rs f,f.ntmps)else none
theorem Qgp {k:Nat}{c:RC}{r:List RR}{n:Nat}(h:ct k=some (c,r,n)):CK Tryz.prog k n c r:=by
 unfold ct at h;cases hb:(bt KM k&&Nat.blt k 314)with
 |false=>rw[hb]at h;cases h
 |true=>
  rw[hb,cond_true]at h;rw[Qol]at hb;obtain⟨f,hf,e⟩:=QnZ.1 h;cases e;exact kc hf hb.1 (Qpr hb.2)
set_option linter.defProp false
def eK:=(QpD (QpD (QpD (QpD (QpD (QpD eC @rk.eq_1) (QpD @hs.eq_1 (QpD @hs.eq_2 @hs.eq_3))) (QpD (QpD @hs.eq_4 @hs.eq_5) (QpD @hs.eq_6 (QpD @hs.eq_7 @hs.eq_8)))) (QpD (QpD (QpD @hs.eq_9 @hs.eq_10) (QpD @hs.eq_11 (QpD @hs.eq_12 @hs.eq_13))) (QpD (QpD @hs.eq_14 @hs.eq_15) (QpD @hs.eq_16 (QpD @hs.eq_17 @hs.eq_18))))) (QpD (QpD (QpD (QpD @hs.eq_19 @hs.eq_20) (QpD @hs.eq_21 (QpD @hs.eq_22 @hs.eq_23))) (QpD (QpD @hs.eq_24 @hs.eq_25) (QpD @hs.eq_26 (QpD @hs.eq_27 @hs.eq_28)))) (QpD (QpD (QpD @hs.eq_29 @hs.eq_30) (QpD @hs.eq_31 (QpD @hs.eq_32 @hs.eq_33))) (QpD (QpD @hs.eq_34 (QpD @hs.eq_35 @hs.eq_36)) (QpD @hs.eq_37 (QpD @hs.eq_38 @hs.eq_39)))))) (QpD (QpD (QpD (QpD (QpD @hs.eq_40 @hs.eq_41) (QpD @hs.eq_42 (QpD @hs.eq_43 @hs.eq_44))) (QpD (QpD @hs.eq_45 @hs.eq_46) (QpD @hs.eq_47 (QpD @hs.eq_48 @hs.eq_49)))) (QpD (QpD (QpD @hs.eq_50 @hs.eq_51) (QpD @hs.eq_52 (QpD @hs.eq_53 @hs.eq_54))) (QpD (QpD @hs.eq_55 (QpD @hs.eq_56 @hs.eq_57)) (QpD @hs.eq_58 (QpD @hs.eq_59 @hs.eq_60))))) (QpD (QpD (QpD (QpD @hs.eq_61 @hs.eq_62) (QpD @hs.eq_63 (QpD @hs.eq_64 @hs.eq_65))) (QpD (QpD @hs.eq_66 @hs.eq_67) (QpD @hs.eq_68 (QpD @hs.eq_69 @hs.eq_70)))) (QpD (QpD (QpD @hs.eq_71 @hs.eq_72) (QpD @hs.eq_73 (QpD @hs.eq_74 @hs.eq_75))) (QpD (QpD @hs.eq_76 (QpD @hs.eq_77 @hs.eq_78)) (QpD @hs.eq_79 (QpD @hs.eq_80 @hs.eq_81)))))))
end Go.Proofs.YtgnfjkkfbcnbfaaGreatDoor.Rc
namespace Go.Proofs.YtgnfjkkfbcnbfaaGreatDoor.Rc
open Go Am Cg
abbrev ja (a b:Nat):Am.Item:=⟨some a,.val (.mov (.t b)),none⟩
abbrev jb (a b c:Nat):Am.Item:=⟨some a,.val (.load (some b) (.t c)),none⟩
abbrev jc (a b c:Nat):Am.Item:=⟨some a,.val (.faddr b (.t c)),none⟩
abbrev jd (a b c:Nat):Am.Item:=⟨none,.store a (.t b) (.t c),none⟩
abbrev je (a:Nat)(b:Int):Am.Item:=⟨some a,.val (.mov (.c (.int .i64 b))),none⟩
abbrev jf (a b c:Nat):Am.Item:=⟨some a,.val (.mov (.t b)),some (c,true)⟩
abbrev jg (a b:Nat):Am.Item:=⟨some a,.val (.load none (.t b)),none⟩
abbrev jh (a b c:Nat):Am.Item:=⟨some a,.val (.ext (.t b) c),none⟩
abbrev ji (a b c:Nat):Am.Item:=⟨some a,.val (.pick (.t b) (.t c) (.c (.bool false))),none⟩
abbrev jj (a b c:Nat):Am.Item:=⟨some a,.boxN b (.t c),none⟩
abbrev jk (a b c:Nat):Am.Item:=⟨some a,.val (.pick (.t b) (.c (.bool true)) (.t c)),none⟩
abbrev jl (a b c:Nat):Am.Item:=⟨some a,.val (.len b (.t c)),none⟩
abbrev jm (a b:Nat)(c:Int):Am.Item:=⟨some a,.val (.bin .num .add (.t b) (.c (.int .i64 c))),none⟩
abbrev jn (a b c d:Nat):Am.Item:=⟨some a,.val (.faddr b (.t c)),some (d,true)⟩
abbrev jo (a b:Nat)(c:Int):Am.Item:=⟨some a,.val (.bin .num .neq (.t b) (.c (.int .i64 c))),none⟩
abbrev jp (a b c:Nat):Am.Item:=⟨some a,.call (.f b) [(.t c)],none⟩
abbrev jq (a b c d:Nat):Am.Item:=⟨some a,.val (.iaddr b none (.t c) (.t d)),none⟩
abbrev jr (a b c:Nat):Am.Item:=⟨some a,.val (.bin .num .lss (.t b) (.t c)),none⟩
abbrev js (a b c:Nat):Am.Item:=⟨some a,.val (.mov (.t b)),some (c,false)⟩
abbrev jt (a b:Nat):Am.Item:=⟨some a,.allocN b [.int .i64 0,.int .u64 0,.str [],.nils,.nils,.nils,.nils],none⟩
abbrev ju (a b c d e f:Nat):Am.Item:=⟨some a,.app b c d (.t e) (.t f),none⟩
abbrev jv (a:Nat):Am.Item:=⟨some a,.val (.mov (.c (.bool false))),none⟩
abbrev jw (a b:Nat)(c:Int):Am.Item:=⟨some a,.val (.bin .num .eql (.t b) (.c (.int .i64 c))),none⟩
abbrev jx (a:Nat):Am.Item:=⟨some a,.val (.mov (.c (.nils))),none⟩
abbrev jy (a b c d:Nat):Am.Item:=⟨some a,.val (.faddr b (.t c)),some (d,false)⟩
abbrev jz (a b c:Nat):Am.Item:=⟨some a,.val (.load none (.t b)),some (c,false)⟩
abbrev ya (a b c d:Nat):Am.Item:=⟨some a,.call (.f b) [(.t c),(.t d)],none⟩
abbrev yb (a b:Nat):Am.Item:=⟨some a,.val (.nilck (.t b)),none⟩
abbrev yc (a b c:Nat):Am.Item:=⟨some a,.val (.load none (.t b)),some (c,true)⟩
abbrev yd (a b:Nat)(c:Int)(d:Nat):Am.Item:=⟨some a,.val (.bin .num .add (.t b) (.c (.int .i64 c))),some (d,true)⟩
abbrev ye (a b c d e:Nat):Am.Item:=⟨some a,.val (.loadv b c (some d) (.t e)),none⟩
abbrev yf (a b:Nat)(c:Int)(d:Nat):Am.Item:=⟨some a,.val (.bin .num .gtr (.t b) (.c (.int .i64 c))),some (d,false)⟩
abbrev yg (a b:Nat):Am.Item:=⟨some a,.val (.un .not (.t b)),none⟩
abbrev yh (a b c d e:Nat):Am.Item:=⟨some a,.call (.f b) [(.t c),(.t d),(.t e)],none⟩
abbrev yi (a b:Nat)(c:Int):Am.Item:=⟨some a,.val (.bin .num .lss (.t b) (.c (.int .i64 c))),none⟩
abbrev yj (a b c d:Nat)(e:Int)(f:Nat):Am.Item:=⟨some a,.call (.f b) [(.t c),(.t d),(.c (.int .i64 e))],some (f,true)⟩
abbrev yk (a:Nat):Am.Item:=⟨some a,.val (.mov (.c (.bool true))),none⟩
abbrev yl (a b:Nat)(c:Int):Am.Item:=⟨some a,.val (.bin .num .gtr (.t b) (.c (.int .i64 c))),none⟩
abbrev ym (a b:Nat):Am.Item:=⟨some a,.allocN b [.str [],.int .i64 0,.int .i64 0,.int .i64 0,.int .i64 0,.int .i64 0],none⟩
abbrev yn (a b c d e:Nat):Am.Item:=⟨some a,.val (.iaddr b none (.t c) (.t d)),some (e,true)⟩
abbrev yo (a b:Nat):Am.Item:=⟨some a,.allocN b [.int .i64 0,.str [],.str [],.int .i64 0,.int .i64 0,.int .i64 0,.int .i64 0,.int .i64 0],none⟩
abbrev yp (a b c:Nat):Am.Item:=⟨some a,.val (.bin .num .neq (.t b) (.t c)),none⟩
abbrev yq (a b c d:Nat):Am.Item:=⟨some a,.callG (.f b) [(.t c),(.t d)],none⟩
abbrev yr (a b c d:Nat):Am.Item:=⟨some a,.val (.len b (.t c)),some (d,false)⟩
abbrev ys (a b c d:Nat):Am.Item:=⟨some a,.val (.load (some b) (.t c)),some (d,false)⟩
abbrev yt (a b:Nat)(c:Int):Am.Item:=⟨some a,.val (.bin .num .sub (.t b) (.c (.int .i64 c))),none⟩
abbrev yu (a b c:Nat):Am.Item:=⟨some a,.val (.un .not (.t b)),some (c,true)⟩
abbrev jQ (g:List Am.Item)(c:RC):RC:=.seq (.reg g) c
abbrev jD (g:List Am.Item)(c:RC):RC:=.seq (.draw g) c
abbrev jX (a b:Nat):RC:=.cond (.t a) .skip (.exit b)
abbrev IL:=List Am.Item
abbrev CT (k n:Nat)(r:RC)(o:List RR):Prop:=CK Tryz.prog k n r o
abbrev Qgq:IL:=[jj 3 3 0,jj 5 5 2,jv 6]
abbrev Qgr:IL:=[jc 13 0 3,jg 14 13,ja 15 1,jq 16 3 14 15,jc 17 1 16,jg 18 17,jl 19 1 18,je 20 0]
abbrev Qgs:IL:=[jr 21 20 19]
abbrev Qgt:IL:=[jq 22 8 18 20,jb 23 8 22,yo 8 8,jd 8 8 23]
abbrev Qgu:IL:=[jb 25 7 5,jc 26 0 8,jg 27 26,ya 28 49 25 27,ja 24 28,jh 29 24 0,jh 30 24 1,jt 9 9,jd 7 9 29,ja 10 30]
abbrev Qgv:IL:=[ja 31 10,yg 32 31]
abbrev Qgw:IL:=[jc 33 3 8,jg 34 33,jw 35 34 1]
abbrev Qgx:IL:=[jv 6]
abbrev Qgy:IL:=[jc 36 5 8,jg 37 36,jo 38 37 10]
abbrev Qgz:IL:=[jb 39 7 9,jp 40 50 39,jl 41 1 40,je 42 0]
abbrev Qdq:IL:=[jr 43 42 41]
abbrev Qdr:IL:=[jq 44 7 40 42,jb 45 7 44,jt 12 12,jd 7 12 45]
abbrev Qds:IL:=[jb 46 2 3,jc 47 6 8,jg 48 47,jb 49 7 12,yh 50 25 46 48 49,yg 51 50]
abbrev Qdt:IL:=[jv 6]
abbrev Qdu:IL:=[jm 52 42 1,ja 42 52]
abbrev Lg:RC:=.gho (.drop 12) (jQ Qdq (.seq (jX 43 2) (.seq (.block 3 (jQ Qdr (jQ Qds (.cond (.t 51) (jQ Qdt (.ret)) (.skip))))) (.reg Qdu))))
abbrev Qdv:IL:=[jm 53 20 1,ja 20 53]
abbrev QgA:RC:=.gho (.drop 12) (.gho (.drop 9) (.gho (.drop 8) (jQ Qgs (.seq (jX 21 0) (.seq (.block 1 (jQ Qgt (jQ Qgu (.seq (jQ Qgv (.cond (.t 32) (.seq (jQ Qgw (.cond (.t 35) (jQ Qgx (.ret)) (.skip))) (.exit 1)) (.skip))) (.seq (jQ Qgy (.cond (.t 38) (.exit 1) (.skip))) (jQ Qgz (.block 2 (.loop Lg)))))))) (.reg Qdv))))))
abbrev Qdw:IL:=[yk 6]
abbrev r25:RC:=jQ Qgq (.seq (jQ Qgr (.block 0 (.loop QgA))) (jQ Qdw (.ret)))
abbrev o25:List RR:=[.tmp 6]
theorem k25:CT 25 54 r25 o25:=ck Tryz.func25 Tryz.ntmps25 (by decide +kernel)
def RX:IL:=[jx 2]
def RY:IL:=[ja 3 0,⟨some 4,.isnil false (.t 3),none⟩]
def RZ:IL:=[jx 2]
def R1:IL:=[⟨some 5,.bsl0 5 4,none⟩,ja 6 0,ju 7 4 40 68 5 6,ja 2 7]
def Lh:RC:=jQ RX (.seq (jQ RY (.cond (.t 4) (jQ RZ (.gho (.vec 2 2 4) (.gho (.give 2 2 1 1000) (.ret)))) (.skip))) (jQ R1 (.gho (.give 2 5 1 1000) (.ret))))
def Pq:List RR:=[.tmp 2]
theorem k71:CT 71 8 Lh Pq:=ck Tryz.func71 Tryz.ntmps71 (by decide +kernel)
abbrev QgB:IL:=[jj 5 5 2,jt 6 6,je 7 0]
abbrev QgC:IL:=[ja 17 0,yb 18 17,jc 19 0 18,jc 20 0 19,jg 21 20,ja 22 1,jq 23 3 21 22,jb 24 3 23,⟨some 8,.allocN 8 [.str [],.nils,.int .i64 0],none⟩,jd 3 8 24]
abbrev QgD:IL:=[ja 25 0,yb 26 25,jc 27 2 26,jb 28 6 27,jp 29 91 28,yl 30 29 0]
abbrev QgE:IL:=[ja 31 0,yb 32 31,jc 33 2 32,jb 34 6 33,ym 9 9,jd 6 9 34]
abbrev QgF:IL:=[jb 36 6 9,jp 37 92 36,ja 35 37,jh 38 35 0,jh 39 35 1,jh 40 35 2,jh 41 35 3,ym 12 12,ja 10 38,ja 11 39,jd 6 12 40,ja 13 41]
abbrev QgG:IL:=[ja 42 13,jo 43 42 0]
abbrev QgH:IL:=[jb 44 7 5,ja 45 13,jd 7 6 44,ja 7 45]
abbrev QgI:IL:=[jc 46 1 8,jg 47 46,jl 48 1 47,je 49 0]
abbrev QgJ:IL:=[jr 50 49 48]
abbrev QgK:IL:=[jq 51 8 47 49,jb 52 8 51,yo 15 15,jd 8 15 52]
abbrev Qdy:IL:=[jc 53 0 15,jg 54 53,ja 55 10,yp 56 54 55]
abbrev Qdz:IL:=[ja 57 0,jb 58 6 12,yb 59 57,jc 60 2 59,jd 6 60 58]
abbrev QdA:IL:=[ja 62 0,jb 63 3 8,jb 64 7 5,jb 65 8 15,ja 66 11,⟨some 67,.callG (.f 93) [(.t 62),(.t 63),(.t 64),(.t 65),(.t 66)],none⟩,ja 61 67,jh 68 61 0,jh 69 61 1,jd 7 5 68,ja 13 69]
abbrev QdB:IL:=[ja 70 13,jo 71 70 0]
abbrev QdC:IL:=[jb 72 7 5,ja 73 13,jd 7 6 72,ja 7 73]
abbrev QdD:IL:=[jm 74 49 1,ja 49 74]
abbrev Li:RC:=.gho (.drop 15) (jQ QgJ (.seq (jX 50 2) (.seq (.block 3 (jQ QgK (.seq (jQ Qdy (.cond (.t 56) (.exit 3) (.skip))) (jQ Qdz (jQ QdA (.seq (jQ QdB (.cond (.t 71) (jQ QdC (.ret)) (.skip))) (.exit 1))))))) (.reg QdD))))
abbrev QdE:IL:=[jb 76 6 9,jp 77 94 76,ja 75 77,jh 78 75 0,jh 79 75 1,jh 80 75 2,⟨some 16,.allocN 16 [.int .i64 0,.int .i64 0,.int .u64 0,.str []],none⟩,jd 4 16 78,jd 6 12 79,ja 13 80]
abbrev QdF:IL:=[ja 81 13,jo 82 81 0]
abbrev QdG:IL:=[jb 83 7 5,ja 84 13,jd 7 6 83,ja 7 84]
abbrev QdH:IL:=[ja 85 0,jb 86 6 12,yb 87 85,jc 88 2 87,jd 6 88 86]
abbrev QdI:IL:=[jb 89 7 5,jb 90 4 16,ya 91 95 89 90,jd 7 5 91]
abbrev Lj:RC:=.gho (.drop 16) (.gho (.drop 15) (.gho (.drop 12) (.gho (.drop 9) (.seq (jQ QgD (jX 30 0)) (.block 1 (jQ QgE (jQ QgF (.seq (jQ QgG (.cond (.t 43) (jQ QgH (.ret)) (.skip))) (.seq (jQ QgI (.block 2 (.loop Li))) (jQ QdE (.seq (jQ QdF (.cond (.t 82) (jQ QdG (.ret)) (.skip))) (jQ QdH (.reg QdI)))))))))))))
abbrev QdJ:IL:=[jb 92 7 5,jd 7 6 92,je 7 0]
abbrev r48:RC:=jQ QgB (.scope (jQ QgC (.seq (.lab) (.seq (.block 0 (.loop Lj)) (jQ QdJ (.ret))))))
abbrev o48:List RR:=[.cell 6 (some 7),.tmp 7]
theorem k48:CT 48 93 r48 o48:=ck Tryz.func48 Tryz.ntmps48 (by decide +kernel)
abbrev QdK:IL:=[jj 5 5 1,jj 6 6 2,jj 7 7 3,jt 8 8,je 9 0]
abbrev QdL:IL:=[ja 19 0,⟨some 20,.callG (.f 230) [(.t 19)],none⟩,ja 18 20,jh 21 18 0,jh 22 18 1,ja 10 21,ja 11 22]
abbrev QdM:IL:=[ja 23 11,jo 24 23 0]
abbrev QdN:IL:=[jb 25 7 6,ja 26 11,jd 7 8 25,ja 9 26]
abbrev QdO:IL:=[ja 27 0,ja 28 10,yq 29 231 27 28,ym 12 12,jd 6 12 29]
abbrev QdP:IL:=[ja 31 0,yb 32 31,jc 33 2 32,jb 34 6 33,jp 35 235 34,ja 30 35,jh 36 30 0,jh 37 30 1,jh 38 30 2,ym 14 14,ja 13 36,jd 6 14 37,ja 11 38]
abbrev QdQ:IL:=[ja 39 11,jo 40 39 0]
abbrev QdR:IL:=[jb 41 7 6,ja 42 11,jd 7 8 41,ja 9 42]
abbrev QdS:IL:=[ja 43 0,jb 44 6 14,yb 45 43,jc 46 2 45,jd 6 46 44]
abbrev QdT:IL:=[ja 47 13,⟨some 48,.val (.cvi .i64 (.t 47)),none⟩,jb 49 8 7,jp 50 180 49,yp 51 48 50]
abbrev Qbk:IL:=[jb 52 7 6,jd 7 8 52,je 9 13]
abbrev Qbl:IL:=[jb 54 7 6,jc 55 0 7,jg 56 55,ya 57 49 54 56,ja 53 57,jh 58 53 0,jh 59 53 1,jt 15 15,jd 7 15 58,ja 16 59]
abbrev Qbm:IL:=[ja 60 16,yg 61 60]
abbrev Qbn:IL:=[ja 62 0,⟨some 63,.callG (.f 47) [(.t 62),(.c (.int .i64 1))],none⟩,ja 17 63]
abbrev Qbo:IL:=[ja 64 17,jo 65 64 0]
abbrev Qbp:IL:=[jb 66 7 6,ja 67 17,jd 7 8 66,ja 9 67]
abbrev Qbq:IL:=[jb 68 3 5,jb 69 7 6,jb 70 8 7,⟨some 71,.val (.build [.int .i64 0,.int .u64 0,.str [],.nils,.nils,.nils,.nils] [(0,1,(.c (.int .i64 11)))]),none⟩,⟨some 72,.call (.f 234) [(.t 68),(.t 69),(.t 70),(.t 71)],none⟩,jd 7 6 72]
abbrev Qbr:IL:=[ja 73 0,yb 74 73,jc 75 2 74,jb 76 6 75,jp 77 91 76,yl 78 77 0]
abbrev Qbs:IL:=[ja 80 0,jb 81 3 5,jb 82 7 6,jb 83 8 7,⟨some 84,.callG (.f 182) [(.t 80),(.t 81),(.t 82),(.t 83)],none⟩,ja 79 84,jh 85 79 0,jh 86 79 1,jd 7 6 85,ja 11 86]
abbrev Qbt:IL:=[ja 87 11,jo 88 87 0]
abbrev Qbu:IL:=[jb 89 7 6,ja 90 11,jd 7 8 89,ja 9 90]
abbrev TC:RC:=.seq (jQ Qbr (jX 78 0)) (.block 1 (jQ Qbs (jQ Qbt (.cond (.t 88) (jQ Qbu (.ret)) (.skip)))))
abbrev Qbv:IL:=[ja 91 0,jb 92 6 12,yq 93 233 91 92]
abbrev Qbw:IL:=[jb 94 7 6,jd 7 8 94,je 9 0]
abbrev QdU:RC:=jQ QdK (jQ QdL (.seq (jQ QdM (.cond (.t 24) (jQ QdN (.ret)) (.skip))) (jQ QdO (jQ QdP (.seq (jQ QdQ (.cond (.t 40) (jQ QdR (.ret)) (.skip))) (jQ QdS (.seq (jQ QdT (.cond (.t 51) (jQ Qbk (.ret)) (.skip))) (.seq (jQ Qbl (jQ Qbm (.cond (.t 61) (.seq (jQ Qbn (jQ Qbo (.cond (.t 65) (jQ Qbp (.ret)) (.skip)))) (.reg Qbq)) (.skip)))) (.seq (.block 0 (.loop TC)) (jQ Qbv (jQ Qbw (.ret))))))))))))
abbrev QdV:List RR:=[.cell 8 (some 7),.tmp 9]
theorem QdW:CT 179 95 QdU QdV:=ck Tryz.func179 Tryz.ntmps179 (by decide +kernel)
def V4:IL:=[jx 2]
def V5:IL:=[ja 3 0,⟨some 4,.isnil false (.t 3),none⟩]
def V6:IL:=[jx 2]
def V7:IL:=[⟨some 5,.bsl0 5 8,none⟩,ja 6 0,ju 7 8 136 52 5 6,ja 2 7]
def R2:RC:=jQ V4 (.seq (jQ V5 (.cond (.t 4) (jQ V6 (.gho (.vec 2 2 8) (.gho (.give 2 2 1 1000) (.ret)))) (.skip))) (jQ V7 (.gho (.give 2 5 1 1000) (.ret))))
def BZ:List RR:=[.tmp 2]
theorem EL:CT 159 8 R2 BZ:=ck Tryz.func159 Tryz.ntmps159 (by decide +kernel)
def V8:IL:=[jx 2]
def V9:IL:=[ja 3 0,⟨some 4,.isnil false (.t 3),none⟩]
def Ca:IL:=[jx 2]
def Cb:IL:=[⟨some 5,.bsl0 5 14,none⟩,ja 6 0,ju 7 14 256 50 5 6,ja 2 7]
def R3:RC:=jQ V8 (.seq (jQ V9 (.cond (.t 4) (jQ Ca (.gho (.vec 2 2 14) (.gho (.give 2 2 1 1000) (.ret)))) (.skip))) (jQ Cb (.gho (.give 2 5 1 1000) (.ret))))
def B0:List RR:=[.tmp 2]
theorem EM:CT 213 8 R3 B0:=ck Tryz.func213 Tryz.ntmps213 (by decide +kernel)
abbrev QiY:IL:=[jj 3 3 0,jj 5 5 2,jt 6 6]
abbrev QiZ:IL:=[ja 12 1,yi 13 12 0,ja 14 13,js 15 1 14,jy 16 0 3 14,jz 17 16 14,yr 18 1 17 14,⟨some 19,.val (.bin .num .geq (.t 15) (.t 18)),(some (14,false))⟩,jk 20 14 19]
abbrev Qi0:IL:=[⟨some 21,.val (.build [.int .i64 0,.int .u64 0,.str [],.nils,.nils,.nils,.nils] []),none⟩,jd 7 6 21]
abbrev Qi1:IL:=[jc 22 6 5,jg 23 22,jp 24 21 23,⟨some 25,.val (.build [.int .i64 0,.int .u64 0,.str [],.nils,.nils,.nils,.nils] [(0,1,(.c (.int .i64 10))),(6,1,(.t 24))]),none⟩,jt 7 7,jd 7 7 25]
abbrev Qi2:IL:=[je 8 0]
abbrev Qi3:IL:=[ja 26 8,jc 27 0 3,jg 28 27,ja 29 1,jq 30 3 28 29,jc 31 1 30,jg 32 31,jl 33 1 32,jr 34 26 33]
abbrev Qi4:IL:=[jc 37 0 3,jg 38 37,ja 39 1,jq 40 3 38 39,jc 41 1 40,jg 42 41,ja 43 8,jq 44 8 42 43,jb 45 8 44,yo 9 9,jd 8 9 45]
abbrev Qi5:IL:=[je 10 0]
abbrev Qi6:IL:=[ja 46 10,jc 47 5 5,jg 48 47,jl 49 1 48,jr 50 46 49]
abbrev QgL:IL:=[jc 53 5 5,⟨some 54,.val (.loadv 0 5 none (.t 53)),none⟩,ja 55 10,jq 56 8 54 55,jc 57 0 56,⟨some 58,.val (.loadr none (.t 57)),none⟩,jc 59 0 9,⟨some 60,.val (.loadv 0 9 none (.t 59)),none⟩,yp 61 58 60]
abbrev QgM:IL:=[ye 62 0 3 2 3,ye 63 0 9 8 9,jc 64 5 5,⟨some 65,.val (.loadv 0 5 none (.t 64)),none⟩,ja 66 10,jq 67 8 65 66,jc 68 1 67,⟨some 69,.val (.loadr (some 7) (.t 68)),none⟩,yh 70 22 62 63 69,jt 11 11,⟨none,.storev 0 11 7 (.t 11) (.t 70),none⟩]
abbrev QgN:IL:=[jc 71 3 9,jg 72 71,yi 73 72 3,ja 74 73,ys 75 7 11 74,⟨some 76,.call (.f 23) [(.t 75)],(some (74,false))⟩,⟨some 77,.val (.un .not (.t 76)),(some (74,false))⟩,jk 78 74 77]
abbrev QgO:IL:=[jc 79 5 7,jg 80 79,jc 81 0 9,jg 82 81,jb 83 7 11,⟨some 84,.val (.build [.int .i64 0,.int .i64 0,.int .u64 0,.str [],.nils,.nils,.nils,.nils] [(0,1,(.t 82)),(1,7,(.t 83))]),none⟩,⟨some 85,.bsl 8 1 [.int .i64 0,.int .i64 0,.int .u64 0,.str [],.nils,.nils,.nils,.nils] [(0,8,(.t 84))],none⟩,ju 86 8 136 52 80 85,jc 87 5 7,jd 1 87 86]
abbrev QgP:IL:=[ja 51 10,jm 52 51 1,ja 10 52]
abbrev QdX:RC:=.gho (.drop 11) (.seq (jQ Qi6 (jX 50 2)) (.seq (.block 3 (.seq (jD QgL (.cond (.t 61) (.exit 3) (.skip))) (jD QgM (jQ QgN (.cond (.t 78) (.reg QgO) (.skip)))))) (.reg QgP)))
abbrev Qi7:IL:=[ja 35 8,jm 36 35 1,ja 8 36]
abbrev Qi8:RC:=.gho (.drop 11) (.gho (.drop 9) (.seq (jQ Qi3 (jX 34 0)) (.seq (.block 1 (jQ Qi4 (jQ Qi5 (.block 2 (.loop QdX))))) (.reg Qi7))))
abbrev QgQ:IL:=[jb 88 7 7,jd 7 6 88]
abbrev r9:RC:=jQ QiY (.seq (jQ QiZ (.cond (.t 20) (jQ Qi0 (.ret)) (.skip))) (jQ Qi1 (.gho (.vecc 7 5 1100 8) (.seq (jQ Qi2 (.block 0 (.loop Qi8))) (jQ QgQ (.ret))))))
abbrev o9:List RR:=[.cell 6 (some 7)]
theorem k9:CT 9 89 r9 o9:=ck Tryz.func9 Tryz.ntmps9 (by decide +kernel)
abbrev QgR:IL:=[jj 3 3 0,jj 5 5 2,⟨some 6,.val (.mov (.c (.str []))),none⟩]
abbrev QgS:IL:=[jc 12 0 3,jb 13 2 12,ja 14 1,jb 15 7 5,yh 16 39 13 14 15,jt 7 7,jd 7 7 16]
abbrev QgT:IL:=[jx 8]
abbrev QgU:IL:=[jc 17 6 7,jg 18 17,ja 9 18]
abbrev QgV:IL:=[jc 19 5 7,jg 20 19,jl 21 1 20,je 22 0]
abbrev QgW:IL:=[jr 23 22 21]
abbrev QgX:IL:=[jq 24 8 20 22,jb 25 8 24,⟨some 11,.allocN 11 [.int .i64 0,.int .i64 0,.int .u64 0,.str [],.nils,.nils,.nils,.nils],none⟩,jd 8 11 25]
abbrev QgY:IL:=[ja 26 9,jl 27 1 26,yl 28 27 0,ja 29 28,jf 30 9 29,⟨some 31,.val (.iaddr 4 none (.t 30) (.c (.int .i64 0))),(some (29,true))⟩,jn 32 0 31 29,⟨some 33,.val (.loadr none (.t 32)),(some (29,true))⟩,jn 34 0 11 29,⟨some 35,.val (.loadv 0 11 none (.t 34)),(some (29,true))⟩,⟨some 36,.val (.bin .num .lss (.t 33) (.t 35)),(some (29,true))⟩,ji 37 29 36]
abbrev QgZ:IL:=[ja 38 8,ja 39 9,⟨some 40,.val (.iaddr 4 none (.t 39) (.c (.int .i64 0))),none⟩,jb 41 4 40,⟨some 42,.bsl 4 1 [.int .i64 0,.int .i64 0,.int .u64 0,.str []] [(0,4,(.t 41))],none⟩,ju 43 4 40 68 38 42,ja 8 43]
abbrev Qg0:IL:=[ja 44 9,⟨some 45,.val (.slc (some 4) (.t 44) (some (.c (.int .i64 1))) none none),none⟩,ja 9 45]
abbrev Lk:RC:=.seq (jD QgY (jX 37 2)) (.block 3 (jQ QgZ (.reg Qg0)))
abbrev QdY:IL:=[ja 46 8,jb 47 2 3,ja 48 1,jb 49 8 11,yh 50 40 47 48 49,ju 51 4 40 68 46 50,ja 8 51]
abbrev QdZ:IL:=[jm 52 22 1,ja 22 52]
abbrev Qg1:RC:=.gho (.drop 11) (jQ QgW (.seq (jX 23 0) (.seq (.block 1 (jQ QgX (.seq (.block 2 (.loop Lk)) (.reg QdY)))) (.reg QdZ))))
abbrev Qd0:IL:=[ja 53 8,ja 54 9,ju 55 4 40 68 53 54,jp 56 41 55,ja 6 56]
abbrev r18:RC:=jQ QgR (jQ QgS (jQ QgT (.gho (.vec 8 8 4) (jQ QgU (.seq (jQ QgV (.block 0 (.loop Qg1))) (jQ Qd0 (.ret)))))))
abbrev o18:List RR:=[.tmp 6]
theorem k18:CT 18 57 r18 o18:=ck Tryz.func18 Tryz.ntmps18 (by decide +kernel)
abbrev Qg2:IL:=[jx 2]
abbrev Qg3:IL:=[jx 3]
abbrev Qg4:IL:=[je 4 0]
abbrev Qg5:IL:=[ja 7 4,ja 8 0,jl 9 1 8,jr 10 7 9]
abbrev Qg6:IL:=[ja 13 3,jl 14 1 13,ja 5 14]
abbrev Qg7:IL:=[ja 15 5,yl 16 15 0,ja 17 16,jf 18 3 17,jf 19 5 17,⟨some 20,.val (.bin .num .sub (.t 19) (.c (.int .i64 1))),(some (17,true))⟩,yn 21 4 18 20 17,jn 22 0 21 17,⟨some 23,.val (.loadr none (.t 22)),(some (17,true))⟩,jf 24 0 17,jf 25 4 17,yn 26 4 24 25 17,jn 27 0 26 17,⟨some 28,.val (.loadr none (.t 27)),(some (17,true))⟩,⟨some 29,.val (.bin .num .gtr (.t 23) (.t 28)),(some (17,true))⟩,ji 30 17 29]
abbrev Qg8:IL:=[ja 31 5,yt 32 31 1,ja 5 32]
abbrev Ll:RC:=.seq (jD Qg7 (jX 30 2)) (.block 3 (.reg Qg8))
abbrev Qg9:IL:=[ja 33 0,ja 34 4,jq 35 4 33 34,⟨some 36,.val (.loadr (some 4) (.t 35)),none⟩,⟨some 37,.bslv 37 4 1 [.int .i64 0,.int .i64 0,.int .u64 0,.str []] [(0,4,(.t 36))],none⟩,ja 38 3,ja 39 5,⟨some 40,.val (.slcp (some 4) (.t 38) (some (.t 39)) none none),none⟩,ju 41 4 40 68 37 40,ja 6 41]
abbrev Qha:IL:=[⟨some 42,.bsl0 42 4,none⟩,ja 43 3,ja 44 5,⟨some 45,.val (.slc (some 4) (.t 43) none (some (.t 44)) none),none⟩,ju 46 4 40 68 42 45,ja 47 6,ju 48 4 40 68 46 47,ja 3 48]
abbrev Qhb:IL:=[ja 11 4,jm 12 11 1,ja 4 12]
abbrev Qhc:RC:=.seq (jQ Qg5 (jX 10 0)) (.seq (.block 1 (jQ Qg6 (.seq (.block 2 (.loop Ll)) (jD Qg9 (.reg Qha))))) (.gho (.pub 3 42) (.reg Qhb)))
abbrev Qd1:IL:=[ja 49 3,ja 2 49]
abbrev r21:RC:=jQ Qg2 (jQ Qg3 (.gho (.lst 3) (.seq (jQ Qg4 (.block 0 (.loop Qhc))) (jQ Qd1 (.ret)))))
abbrev o21:List RR:=[.tmp 2]
theorem k21:CT 21 50 r21 o21:=ck Tryz.func21 Tryz.ntmps21 (by decide +kernel)
abbrev Qhd:IL:=[jj 4 4 0,jj 5 5 1,jj 6 6 2,je 8 0]
abbrev Qhe:IL:=[jc 17 0 6,jg 18 17,jo 19 18 10,ja 20 19,ys 21 7 6 20,⟨some 22,.call (.f 65) [(.t 21)],(some (20,false))⟩,jk 23 20 22,ja 16 23]
abbrev Qhf:IL:=[je 8 12]
abbrev Qhg:IL:=[ja 25 3,yl 26 25 16,ja 24 26]
abbrev Qhh:IL:=[je 8 17]
abbrev Qhi:IL:=[jc 27 5 6,jg 28 27,jl 29 1 28,je 30 0]
abbrev Qhj:IL:=[jr 31 30 29]
abbrev Qhk:IL:=[ja 32 30,ja 9 32]
abbrev Qhl:IL:=[jb 33 2 4,jb 34 3 5,jc 35 5 6,jg 36 35,ja 37 9,ja 38 3,⟨some 39,.call (.f 66) [(.t 33),(.t 34),(.t 36),(.t 37),(.t 38)],none⟩,ja 10 39]
abbrev Qhm:IL:=[ja 40 10,jo 41 40 0]
abbrev Qd2:IL:=[ja 42 10,ja 8 42]
abbrev Qd3:IL:=[jm 43 30 1,ja 30 43]
abbrev Lm:RC:=jQ Qhj (.seq (jX 31 1) (.seq (.block 2 (jQ Qhk (jQ Qhl (jQ Qhm (.cond (.t 41) (jQ Qd2 (.ret)) (.skip)))))) (.reg Qd3)))
abbrev Qd4:IL:=[jc 44 1 5,jg 45 44,jl 46 1 45,je 47 0]
abbrev Qd5:IL:=[jr 48 47 46]
abbrev Qd6:IL:=[jq 49 8 45 47,jb 50 8 49,yo 12 12,jd 8 12 50]
abbrev Qd7:IL:=[jc 51 3 12,jg 52 51,jw 53 52 1,ja 54 53,jn 55 5 6 54,yc 56 55 54,⟨some 57,.val (.mkfn (.func 68) [] [(.t 12)]),(some (54,true))⟩,⟨some 58,.callF (.f 67) [(.t 56),(.t 57)],(some (54,true))⟩,yu 59 58 54,ji 60 54 59]
abbrev Qd8:IL:=[je 8 14]
abbrev Qd9:IL:=[jm 61 47 1,ja 47 61]
abbrev Ln:RC:=.gho (.drop 12) (jQ Qd5 (.seq (jX 48 3) (.seq (.block 4 (jQ Qd6 (jQ Qd7 (.cond (.t 60) (jQ Qd8 (.ret)) (.skip))))) (.reg Qd9))))
abbrev Qea:IL:=[jc 62 6 6,jg 63 62,jl 64 1 63,je 65 0]
abbrev Qeb:IL:=[jr 66 65 64]
abbrev Qec:IL:=[jq 67 4 63 65,jb 68 4 67,⟨some 14,.allocN 14 [.int .i64 0,.int .i64 0,.int .u64 0,.str []],none⟩,jd 4 14 68]
abbrev Qed:IL:=[jb 69 2 4,jb 70 3 5,jb 71 4 14,yh 72 69 69 70 71,ja 15 72]
abbrev Qee:IL:=[ja 73 15,jo 74 73 0]
abbrev Qef:IL:=[ja 75 15,ja 8 75]
abbrev Qeg:IL:=[jm 76 65 1,ja 65 76]
abbrev Lo:RC:=.gho (.drop 14) (jQ Qeb (.seq (jX 66 5) (.seq (.block 6 (jQ Qec (jQ Qed (jQ Qee (.cond (.t 74) (jQ Qef (.ret)) (.skip)))))) (.reg Qeg))))
abbrev Qeh:IL:=[je 8 0]
abbrev r37:RC:=jQ Qhd (.seq (.block 0 (jQ Qhe (.cond (.t 16) (jQ Qhf (.ret)) (jQ Qhg (.cond (.t 24) (jQ Qhh (.ret)) (.skip)))))) (.seq (jQ Qhi (.block 1 (.loop Lm))) (.seq (jQ Qd4 (.block 3 (.loop Ln))) (.seq (jQ Qea (.block 5 (.loop Lo))) (jQ Qeh (.ret))))))
abbrev o37:List RR:=[.tmp 8]
theorem k37:CT 37 77 r37 o37:=ck Tryz.func37 Tryz.ntmps37 (by decide +kernel)
abbrev Qhn:IL:=[jx 2]
abbrev Qho:IL:=[jx 3]
abbrev Qhp:IL:=[je 4 0]
abbrev Qhq:IL:=[ja 9 4,ja 10 0,jl 11 1 10,jr 12 9 11]
abbrev Qhr:IL:=[yk 5]
abbrev Qhs:IL:=[ja 15 4,jm 16 15 1,ja 6 16]
abbrev Qht:IL:=[ja 17 6,ja 18 0,jl 19 1 18,jr 20 17 19]
abbrev Qhu:IL:=[ja 23 5,ja 24 23,jf 25 0 24,jf 26 4 24,yn 27 14 25 26 24,jn 28 0 27 24,⟨some 29,.val (.loadr (some 7) (.t 28)),(some (24,true))⟩,jf 30 0 24,jf 31 6 24,yn 32 14 30 31 24,jn 33 0 32 24,⟨some 34,.val (.loadr (some 7) (.t 33)),(some (24,true))⟩,⟨some 35,.call (.f 51) [(.t 29),(.t 34)],(some (24,true))⟩,⟨some 36,.val (.bin .num .neq (.t 35) (.c (.int .i64 0))),(some (24,true))⟩,ji 37 24 36,ja 5 37]
abbrev Qhv:IL:=[ja 21 6,jm 22 21 1,ja 6 22]
abbrev Lq:RC:=.seq (jQ Qht (jX 20 2)) (.seq (.block 3 (.draw Qhu)) (.reg Qhv))
abbrev Qej:IL:=[ja 38 5]
abbrev Qek:IL:=[je 7 0]
abbrev Qel:IL:=[ja 39 7,ja 40 3,jl 41 1 40,jr 42 39 41,ja 43 42,jf 44 3 43,jf 45 7 43,yn 46 14 44 45 43,jn 47 0 46 43,⟨some 48,.val (.loadr (some 7) (.t 47)),(some (43,true))⟩,jf 49 0 43,jf 50 4 43,yn 51 14 49 50 43,jn 52 0 51 43,⟨some 53,.val (.loadr (some 7) (.t 52)),(some (43,true))⟩,⟨some 54,.call (.f 51) [(.t 48),(.t 53)],(some (43,true))⟩,⟨some 55,.val (.bin .num .lss (.t 54) (.c (.int .i64 0))),(some (43,true))⟩,ji 56 43 55]
abbrev Qem:IL:=[ja 57 7,jm 58 57 1,ja 7 58]
abbrev Lr:RC:=.seq (jD Qel (jX 56 4)) (.block 5 (.reg Qem))
abbrev Qen:IL:=[ja 59 0,ja 60 4,jq 61 14 59 60,⟨some 62,.val (.loadr (some 14) (.t 61)),none⟩,⟨some 63,.bslv 63 14 1 [.int .i64 0,.int .u64 0,.str [],.nils,.nils,.nils,.nils,.int .i64 0,.int .u64 0,.str [],.nils,.nils,.nils,.nils] [(0,14,(.t 62))],none⟩,ja 64 3,ja 65 7,⟨some 66,.val (.slcp (some 14) (.t 64) (some (.t 65)) none none),none⟩,ju 67 14 256 50 63 66,ja 8 67]
abbrev Qeo:IL:=[⟨some 68,.bsl0 68 14,none⟩,ja 69 3,ja 70 7,⟨some 71,.val (.slc (some 14) (.t 69) none (some (.t 70)) none),none⟩,ju 72 14 256 50 68 71,ja 73 8,ju 74 14 256 50 72 73,ja 3 74]
abbrev Qhw:IL:=[ja 13 4,jm 14 13 1,ja 4 14]
abbrev Qhx:RC:=.seq (jQ Qhq (jX 12 0)) (.seq (.block 1 (jQ Qhr (.seq (jQ Qhs (.block 2 (.loop Lq))) (jQ Qej (.cond (.t 38) (jQ Qek (.seq (.block 4 (.loop Lr)) (jD Qen (.reg Qeo)))) (.skip)))))) (.gho (.pub 3 68) (.reg Qhw)))
abbrev Qep:IL:=[ja 75 3,ja 2 75]
abbrev r43:RC:=jQ Qhn (jQ Qho (.gho (.lst 3) (.seq (jQ Qhp (.block 0 (.loop Qhx))) (jQ Qep (.ret)))))
abbrev o43:List RR:=[.tmp 2]
theorem k43:CT 43 76 r43 o43:=ck Tryz.func43 Tryz.ntmps43 (by decide +kernel)
def Ls:IL:=[jj 2 2 0,jj 3 3 1,jv 4]
def Lt:IL:=[jc 6 2 3,jg 7 6,jp 8 109 7,yg 9 8,ja 10 9,jy 11 2 3 10,jz 12 11 10,yr 13 0 12 10,yf 14 13 4096 10,jk 15 10 14,ja 16 15,jy 17 3 3 16,jz 18 17 16,⟨some 19,.val (.bin .num .lss (.t 18) (.c (.int .i64 1))),(some (16,false))⟩,jk 20 16 19,ja 21 20,jy 22 3 3 21,jz 23 22 21,yf 24 23 5 21,jk 25 21 24,ja 26 25,jy 27 5 3 26,jz 28 27 26,⟨some 29,.val (.bin .num .lss (.t 28) (.c (.int .i64 1))),(some (26,false))⟩,jk 30 26 29,ja 31 30,jy 32 5 3 31,jz 33 32 31,yf 34 33 10 31,jk 35 31 34]
def Lu:IL:=[jv 4]
def Lv:IL:=[jc 36 4 3,jg 37 36,⟨some 38,.val (.bin .num .geq (.t 37) (.c (.int .i64 1))),none⟩,ja 39 38,jn 40 4 3 39,yc 41 40 39,⟨some 42,.val (.bin .num .leq (.t 41) (.c (.int .i64 5))),(some (39,true))⟩,ji 43 39 42,ja 44 43,jy 45 4 3 44,jz 46 45 44,⟨some 47,.val (.bin .num .eql (.t 46) (.c (.int .i64 7))),(some (44,false))⟩,jk 48 44 47,ja 5 48]
def Lw:IL:=[jc 49 3 3,jg 50 49,jo 51 50 5]
def Lx:IL:=[jc 52 4 3,jg 53 52,jw 54 53 0,ja 5 54]
def R4:IL:=[ja 55 5,ja 56 55,⟨some 57,.val (.load (some 2) (.t 2)),(some (56,true))⟩,⟨some 58,.val (.load (some 8) (.t 3)),(some (56,true))⟩,⟨some 59,.call (.f 110) [(.t 57),(.t 58)],(some (56,true))⟩,ji 60 56 59,ja 61 60,jn 62 7 3 61,yc 63 62 61,⟨some 64,.val (.bin .num .eql (.t 63) (.c (.int .i64 (-1)))),(some (61,true))⟩,jf 65 64 61,jy 66 3 3 65,jz 67 66 65,⟨some 68,.val (.bin .num .eql (.t 67) (.c (.int .i64 2))),(some (65,false))⟩,⟨some 69,.val (.pick (.t 65) (.c (.bool true)) (.t 68)),(some (61,true))⟩,ji 70 61 69,ja 4 70]
def r57:RC:=jQ Ls (.seq (jQ Lt (.cond (.t 35) (jQ Lu (.ret)) (.skip))) (jQ Lv (.seq (jQ Lw (.cond (.t 51) (.reg Lx) (.skip))) (jQ R4 (.ret)))))
def o57:List RR:=[.tmp 4]
theorem k57:CT 57 71 r57 o57:=ck Tryz.func57 Tryz.ntmps57 (by decide +kernel)
def Ly:IL:=[jj 3 3 0,jj 4 4 1,jj 5 5 2,je 6 0]
def Lz:IL:=[jc 11 1 5,jg 12 11,⟨some 13,.val (.bin .num .leq (.t 12) (.c (.int .i64 2))),none⟩,ja 7 13]
def LA:IL:=[jb 15 3 4,jc 16 0 5,jg 17 16,ya 18 73 15 17,ja 14 18,jh 19 14 0,jh 20 14 1,yo 8 8,jd 8 8 19,ja 9 20]
def HC:IL:=[jc 21 5 8,jg 22 21,jw 23 22 9,ja 24 23,jn 25 3 8 24,yc 26 25 24,⟨some 27,.val (.bin .num .neq (.t 26) (.c (.int .i64 5))),(some (24,true))⟩,ji 28 24 27,ja 29 28,jn 30 1 5 29,yc 31 30 29,⟨some 32,.val (.bin .num .eql (.t 31) (.c (.int .i64 0))),(some (29,true))⟩,ji 33 29 32,ja 34 33,jn 35 2 5 34,yc 36 35 34,⟨some 37,.val (.bin .num .leq (.t 36) (.c (.int .u64 2147483647))),(some (34,true))⟩,ji 38 34 37,ja 39 38,jn 40 0 3 39,⟨some 41,.val (.load (some 2) (.t 40)),(some (39,true))⟩,jn 42 6 8 39,yc 43 42 39,jn 44 2 5 39,yc 45 44 39,⟨some 46,.call (.f 157) [(.t 41),(.t 43),(.t 45)],(some (39,true))⟩,yu 47 46 39,ji 48 39 47,ja 10 48]
def LB:IL:=[jc 50 0 5,jg 51 50,yi 52 51 1,ja 53 52,jy 54 0 5 53,jz 55 54 53,yf 56 55 65535 53,jk 57 53 56,ja 58 57,jy 59 1 5 58,jz 60 59 58,⟨some 61,.val (.bin .num .lss (.t 60) (.c (.int .i64 0))),(some (58,false))⟩,jk 62 58 61,ja 63 62,jy 64 1 5 63,jz 65 64 63,yf 66 65 6 63,jk 67 63 66,ja 49 67]
def F1:IL:=[je 6 1]
def LC:IL:=[ja 69 7,ja 70 69,jn 71 3 5 70,yc 72 71 70,⟨some 73,.val (.bin .str .neq (.t 72) (.c (.str []))),(some (70,true))⟩,ji 74 70 73,ja 75 74,js 76 7 75,⟨some 77,.val (.un .not (.t 76)),(some (75,false))⟩,js 78 77 75,jn 79 2 5 78,yc 80 79 78,⟨some 81,.val (.bin .num .neq (.t 80) (.c (.int .u64 0))),(some (78,true))⟩,⟨some 82,.val (.pick (.t 78) (.t 81) (.c (.bool false))),(some (75,false))⟩,jk 83 75 82,ja 84 83,js 85 9 84,js 86 85 84,jf 87 10 86,yu 88 87 86,⟨some 89,.val (.pick (.t 86) (.t 88) (.c (.bool false))),(some (84,false))⟩,jk 90 84 89,ja 68 90]
def F2:IL:=[je 6 1]
def R5:IL:=[jc 92 1 5,jg 93 92,jw 94 93 3,ja 95 94,jn 96 3 5 95,yc 97 96 95,⟨some 98,.val (.len 0 (.t 97)),(some (95,true))⟩,⟨some 99,.val (.bin .num .gtr (.t 98) (.c (.int .i64 4096))),(some (95,true))⟩,ji 100 95 99,ja 101 100,jy 102 3 5 101,jz 103 102 101,yr 104 0 103 101,yf 105 104 65536 101,jk 106 101 105,ja 91 106]
def R6:IL:=[je 6 3]
def Cc:IL:=[je 6 0]
def r69:RC:=jQ Ly (jQ Lz (jQ LA (jQ HC (.seq (.block 0 (jQ LB (.cond (.t 49) (jQ F1 (.ret)) (jQ LC (.cond (.t 68) (jQ F2 (.ret)) (jQ R5 (.cond (.t 91) (jQ R6 (.ret)) (.skip)))))))) (jQ Cc (.ret))))))
def o69:List RR:=[.tmp 6]
theorem k69:CT 69 107 r69 o69:=ck Tryz.func69 Tryz.ntmps69 (by decide +kernel)
abbrev Qeq:IL:=[jv 2]
abbrev Qer:IL:=[ja 4 0,jl 5 0 4,jw 6 5 0,ja 7 6,js 8 0 7,yr 9 0 8 7,yf 10 9 40 7,jk 11 7 10,ja 12 11,js 13 0 12,⟨some 14,.val (.idx (.t 13) (.c (.int .i64 0))),(some (12,false))⟩,⟨some 15,.call (.f 187) [(.t 14)],(some (12,false))⟩,⟨some 16,.val (.un .not (.t 15)),(some (12,false))⟩,js 17 16 12,jf 18 0 17,⟨some 19,.val (.idx (.t 18) (.c (.int .i64 0))),(some (17,true))⟩,⟨some 20,.call (.f 188) [(.t 19)],(some (17,true))⟩,yu 21 20 17,⟨some 22,.val (.pick (.t 17) (.t 21) (.c (.bool false))),(some (12,false))⟩,jk 23 12 22]
abbrev Qes:IL:=[jv 2]
abbrev Qet:IL:=[je 3 1]
abbrev Qeu:IL:=[ja 24 3,ja 25 0,jl 26 0 25,jr 27 24 26]
abbrev Qev:IL:=[ja 30 0,ja 31 3,⟨some 32,.val (.idx (.t 30) (.t 31)),none⟩,jp 33 187 32,yg 34 33,ja 35 34,jf 36 0 35,jf 37 3 35,⟨some 38,.val (.idx (.t 36) (.t 37)),(some (35,true))⟩,⟨some 39,.call (.f 188) [(.t 38)],(some (35,true))⟩,yu 40 39 35,ji 41 35 40,ja 42 41,jf 43 0 42,jf 44 3 42,⟨some 45,.val (.idx (.t 43) (.t 44)),(some (42,true))⟩,⟨some 46,.val (.bin .num .neq (.t 45) (.c (.int .u8 95))),(some (42,true))⟩,ji 47 42 46,ja 48 47,jf 49 0 48,jf 50 3 48,⟨some 51,.val (.idx (.t 49) (.t 50)),(some (48,true))⟩,⟨some 52,.val (.bin .num .lss (.t 51) (.c (.int .u8 48))),(some (48,true))⟩,jf 53 52 48,js 54 0 53,js 55 3 53,⟨some 56,.val (.idx (.t 54) (.t 55)),(some (53,false))⟩,⟨some 57,.val (.bin .num .gtr (.t 56) (.c (.int .u8 57))),(some (53,false))⟩,⟨some 58,.val (.pick (.t 53) (.c (.bool true)) (.t 57)),(some (48,true))⟩,ji 59 48 58]
abbrev Qew:IL:=[jv 2]
abbrev Qex:IL:=[ja 28 3,jm 29 28 1,ja 3 29]
abbrev TD:RC:=.seq (jQ Qeu (jX 27 0)) (.seq (.block 1 (jQ Qev (.cond (.t 59) (jQ Qew (.ret)) (.skip)))) (.reg Qex))
abbrev Qey:IL:=[yk 2]
abbrev Qi9:RC:=jQ Qeq (.seq (jQ Qer (.cond (.t 23) (jQ Qes (.ret)) (.skip))) (.seq (jQ Qet (.block 0 (.loop TD))) (jQ Qey (.ret))))
abbrev Qja:List RR:=[.tmp 2]
theorem Qjb:CT 105 60 Qi9 Qja:=ck Tryz.func105 Tryz.ntmps105 (by decide +kernel)
def TF:IL:=[jx 2]
def TG:IL:=[ja 3 0,⟨some 4,.isnil false (.t 3),none⟩]
def TH:IL:=[jx 2]
def TJ:IL:=[⟨some 5,.bsl0 5 7,none⟩,ja 6 0,ju 7 7 128 32 5 6,ja 2 7]
def Qez:RC:=jQ TF (.seq (jQ TG (.cond (.t 4) (jQ TH (.gho (.vec 2 2 7) (.gho (.give 2 2 1 1000) (.ret)))) (.skip))) (jQ TJ (.gho (.give 2 5 1 1000) (.ret))))
def EN:List RR:=[.tmp 2]
theorem Qjc:CT 158 8 Qez EN:=ck Tryz.func158 Tryz.ntmps158 (by decide +kernel)
abbrev QeA:IL:=[jj 5 5 1,jj 6 6 2,jj 7 7 3,jt 8 8,je 9 0]
abbrev QeB:IL:=[ja 27 0,⟨some 28,.callG (.f 230) [(.t 27)],none⟩,ja 26 28,jh 29 26 0,jh 30 26 1,ja 10 29,ja 11 30]
abbrev QeC:IL:=[ja 31 11,jo 32 31 0]
abbrev QeD:IL:=[jb 33 7 6,ja 34 11,jd 7 8 33,ja 9 34]
abbrev QeE:IL:=[jb 36 7 6,jc 37 0 7,jg 38 37,ya 39 49 36 38,ja 35 39,jh 40 35 0,jh 41 35 1,jt 12 12,jd 7 12 40,ja 13 41]
abbrev QeF:IL:=[ja 42 0,ja 43 10,yq 44 231 42 43,ym 14 14,jd 6 14 44]
abbrev QeG:IL:=[je 15 2]
abbrev QeH:IL:=[ja 45 13,yg 46 45]
abbrev QeI:IL:=[je 15 3]
abbrev QeJ:IL:=[ja 47 0,ja 48 15,yq 49 47 47 48,ja 16 49]
abbrev Qbx:IL:=[ja 50 16,jo 51 50 0]
abbrev Qby:IL:=[jb 52 7 6,ja 53 16,jd 7 8 52,ja 9 53]
abbrev Qbz:IL:=[jc 54 4 7,jg 55 54,⟨some 56,.val (.build [.int .i64 0,.int .u64 0,.str [],.nils,.nils,.nils,.nils] [(0,1,(.t 55))]),none⟩,jc 57 5 7,jg 58 57,⟨some 59,.val (.build [.int .i64 0,.int .u64 0,.str [],.nils,.nils,.nils,.nils] [(0,1,(.t 58))]),none⟩,⟨some 60,.val (.build [.int .i64 0,.int .u64 0,.str [],.nils,.nils,.nils,.nils,.int .i64 0,.int .u64 0,.str [],.nils,.nils,.nils,.nils] [(0,7,(.t 56)),(7,7,(.t 59))]),none⟩,⟨some 17,.allocN 17 [.int .i64 0,.int .u64 0,.str [],.nils,.nils,.nils,.nils,.int .i64 0,.int .u64 0,.str [],.nils,.nils,.nils,.nils],none⟩,jd 14 17 60]
abbrev QbA:IL:=[jv 18,jv 19]
abbrev QbB:IL:=[ja 61 0,yb 62 61,jc 63 2 62,jb 64 6 63,jp 65 91 64,yl 66 65 0]
abbrev QbC:IL:=[ja 68 0,yb 69 68,jc 70 2 69,jb 71 6 70,jp 72 92 71,ja 67 72,jh 73 67 0,jh 74 67 1,jh 75 67 2,jh 76 67 3,ym 22 22,ja 20 73,ja 21 74,jd 6 22 75,ja 23 76]
abbrev QbD:IL:=[ja 78 23,jo 79 78 0,ja 77 79]
abbrev QbE:IL:=[jb 80 7 6,ja 81 23,jd 7 8 80,ja 9 81]
abbrev QbF:IL:=[ja 83 20,jo 84 83 1,ja 85 84,jf 86 20 85,⟨some 87,.val (.bin .num .neq (.t 86) (.c (.int .i64 2))),(some (85,true))⟩,ji 88 85 87,ja 82 88]
abbrev QbG:IL:=[jb 89 7 6,jd 7 8 89,je 9 18]
abbrev QbH:IL:=[ja 91 20,jw 92 91 1,ja 93 92,jf 94 18 93,ji 95 93 94,ja 96 95,js 97 20 96,⟨some 98,.val (.bin .num .eql (.t 97) (.c (.int .i64 2))),(some (96,false))⟩,js 99 98 96,jf 100 19 99,⟨some 101,.val (.pick (.t 99) (.t 100) (.c (.bool false))),(some (96,false))⟩,jk 102 96 101,ja 90 102]
abbrev QbI:IL:=[jb 103 7 6,jd 7 8 103,je 9 9]
abbrev QbJ:IL:=[ja 104 0,jb 105 6 22,yb 106 104,jc 107 2 106,jd 6 107 105]
abbrev QbK:IL:=[ja 108 20,jw 109 108 1]
abbrev QbL:IL:=[yk 18]
abbrev QbM:IL:=[ja 111 0,jc 112 4 7,jg 113 112,⟨some 114,.val (.build [.int .i64 0,.str [],.str [],.int .i64 0,.int .i64 0,.int .i64 0,.int .i64 0,.int .i64 0] [(5,1,(.t 113)),(6,1,(.c (.int .i64 (-1))))]),none⟩,ja 115 21,⟨some 116,.callG (.f 232) [(.t 111),(.t 114),(.t 115)],none⟩,ja 110 116,jh 117 110 0,jh 118 110 1,jc 119 0 17,jd 7 119 117,ja 23 118]
abbrev QbN:IL:=[yk 19]
abbrev QbO:IL:=[ja 121 0,jb 122 8 7,ja 123 21,⟨some 124,.callG (.f 232) [(.t 121),(.t 122),(.t 123)],none⟩,ja 120 124,jh 125 120 0,jh 126 120 1,jc 127 7 17,jd 7 127 125,ja 23 126]
abbrev QbP:IL:=[ja 128 23,jo 129 128 0]
abbrev QbQ:IL:=[jb 130 7 6,ja 131 23,jd 7 8 130,ja 9 131]
abbrev TK:RC:=.gho (.drop 22) (.seq (jQ QbB (jX 66 0)) (.block 1 (jQ QbC (.seq (.block 2 (jQ QbD (.cond (.t 77) (jQ QbE (.ret)) (jQ QbF (.cond (.t 82) (jQ QbG (.ret)) (jQ QbH (.cond (.t 90) (jQ QbI (.ret)) (.skip)))))))) (jQ QbJ (.seq (jQ QbK (.cond (.t 109) (jQ QbL (.reg QbM)) (jQ QbN (.reg QbO)))) (jQ QbP (.cond (.t 129) (jQ QbQ (.ret)) (.skip)))))))))
abbrev QbR:IL:=[ja 132 0,jb 133 6 14,yq 134 233 132 133]
abbrev QbS:IL:=[jc 135 4 12,jg 136 135,jl 137 1 136,ja 24 137]
abbrev QbT:IL:=[jc 138 4 12,⟨some 139,.val (.loadv 0 12 none (.t 138)),none⟩,ja 140 24,ja 141 24,⟨some 142,.val (.slcl (.t 139) (.t 140) (.t 141)),none⟩,ye 143 0 17 14 17,⟨some 144,.bsl 14 1 [.int .i64 0,.int .u64 0,.str [],.nils,.nils,.nils,.nils,.int .i64 0,.int .u64 0,.str [],.nils,.nils,.nils,.nils] [(0,14,(.t 143))],none⟩,⟨some 145,.appc 145 14 256 50 (.t 142) (.t 144),none⟩,ja 25 145]
abbrev QbU:IL:=[ye 146 0 5 3 5,ye 147 0 6 7 6,ye 148 0 7 8 7,ja 149 25,jp 150 165 149,⟨some 151,.val (.build [.int .i64 0,.int .u64 0,.str [],.nils,.nils,.nils,.nils] [(0,1,(.c (.int .i64 12))),(4,1,(.t 150))]),none⟩,⟨some 152,.call (.f 234) [(.t 146),(.t 147),(.t 148),(.t 151)],none⟩,⟨none,.storev 0 8 7 (.t 8) (.t 152),none⟩,je 9 0]
abbrev Qjd:RC:=jQ QeA (jQ QeB (.seq (jQ QeC (.cond (.t 32) (jQ QeD (.ret)) (.skip))) (jQ QeE (jQ QeF (jQ QeG (.seq (jQ QeH (.cond (.t 46) (.reg QeI) (.skip))) (.seq (jQ QeJ (jQ Qbx (.cond (.t 51) (jQ Qby (.ret)) (.skip)))) (jQ Qbz (jQ QbA (.seq (.block 0 (.loop TK)) (jQ QbR (jQ QbS (jD QbT (.gho (.pub 25 145) (jD QbU (.ret))))))))))))))))
abbrev Qje:List RR:=[.cell 8 (some 7),.tmp 9]
theorem Qjf:CT 178 153 Qjd Qje:=ck Tryz.func178 Tryz.ntmps178 (by decide +kernel)
def TL:IL:=[je 4 0]
def TM:IL:=[ja 6 0,ja 7 1,⟨some 8,.val (.idx (.t 6) (.t 7)),none⟩,ja 5 8]
def TN:IL:=[ja 10 5,⟨some 11,.val (.bin .num .lss (.t 10) (.c (.int .u8 128))),none⟩,ja 9 11]
def TO:IL:=[je 4 1]
def Cd:IL:=[ja 13 5,⟨some 14,.val (.bin .num .geq (.t 13) (.c (.int .u8 194))),none⟩,ja 15 14,jf 16 5 15,⟨some 17,.val (.bin .num .leq (.t 16) (.c (.int .u8 223))),(some (15,true))⟩,ji 18 15 17,ja 19 18,jf 20 0 19,jf 21 1 19,yd 22 21 1 19,yj 23 279 20 22 1 19,ji 24 19 23,ja 12 24]
def TP:IL:=[je 4 2]
def Ce:IL:=[ja 26 5,⟨some 27,.val (.bin .num .eql (.t 26) (.c (.int .u8 224))),none⟩,ja 28 27,jf 29 0 28,jf 30 1 28,yd 31 30 1 28,⟨some 32,.call (.f 280) [(.t 29),(.t 31),(.c (.int .u8 160)),(.c (.int .u8 191))],(some (28,true))⟩,ji 33 28 32,ja 34 33,jf 35 0 34,jf 36 1 34,yd 37 36 2 34,yj 38 279 35 37 1 34,ji 39 34 38,ja 25 39]
def TQ:IL:=[je 4 3]
def Cf:IL:=[ja 41 5,⟨some 42,.val (.bin .num .eql (.t 41) (.c (.int .u8 237))),none⟩,ja 43 42,jf 44 0 43,jf 45 1 43,yd 46 45 1 43,⟨some 47,.call (.f 280) [(.t 44),(.t 46),(.c (.int .u8 128)),(.c (.int .u8 159))],(some (43,true))⟩,ji 48 43 47,ja 49 48,jf 50 0 49,jf 51 1 49,yd 52 51 2 49,yj 53 279 50 52 1 49,ji 54 49 53,ja 40 54]
def TR:IL:=[je 4 3]
def B1:IL:=[ja 56 5,⟨some 57,.val (.bin .num .geq (.t 56) (.c (.int .u8 225))),none⟩,ja 58 57,jf 59 5 58,⟨some 60,.val (.bin .num .leq (.t 59) (.c (.int .u8 239))),(some (58,true))⟩,ji 61 58 60,ja 62 61,jf 63 5 62,⟨some 64,.val (.bin .num .neq (.t 63) (.c (.int .u8 237))),(some (62,true))⟩,ji 65 62 64,ja 66 65,jf 67 0 66,jf 68 1 66,yd 69 68 1 66,yj 70 279 67 69 2 66,ji 71 66 70,ja 55 71]
def Pr:IL:=[je 4 3]
def B4:IL:=[ja 73 5,⟨some 74,.val (.bin .num .eql (.t 73) (.c (.int .u8 240))),none⟩,ja 75 74,jf 76 0 75,jf 77 1 75,yd 78 77 1 75,⟨some 79,.call (.f 280) [(.t 76),(.t 78),(.c (.int .u8 144)),(.c (.int .u8 191))],(some (75,true))⟩,ji 80 75 79,ja 81 80,jf 82 0 81,jf 83 1 81,yd 84 83 2 81,yj 85 279 82 84 2 81,ji 86 81 85,ja 72 86]
def Ps:IL:=[je 4 4]
def B5:IL:=[ja 88 5,⟨some 89,.val (.bin .num .geq (.t 88) (.c (.int .u8 241))),none⟩,ja 90 89,jf 91 5 90,⟨some 92,.val (.bin .num .leq (.t 91) (.c (.int .u8 243))),(some (90,true))⟩,ji 93 90 92,ja 94 93,jf 95 0 94,jf 96 1 94,yd 97 96 1 94,yj 98 279 95 97 3 94,ji 99 94 98,ja 87 99]
def Pt:IL:=[je 4 4]
def B6:IL:=[ja 101 5,⟨some 102,.val (.bin .num .eql (.t 101) (.c (.int .u8 244))),none⟩,ja 103 102,jf 104 0 103,jf 105 1 103,yd 106 105 1 103,⟨some 107,.call (.f 280) [(.t 104),(.t 106),(.c (.int .u8 128)),(.c (.int .u8 143))],(some (103,true))⟩,ji 108 103 107,ja 109 108,jf 110 0 109,jf 111 1 109,yd 112 111 2 109,yj 113 279 110 112 2 109,ji 114 109 113,ja 100 114]
def Pu:IL:=[je 4 4]
def Pv:IL:=[je 4 0]
def QeK:RC:=jQ TL (jQ TM (.seq (.block 0 (jQ TN (.cond (.t 9) (jQ TO (.ret)) (jQ Cd (.cond (.t 12) (jQ TP (.ret)) (jQ Ce (.cond (.t 25) (jQ TQ (.ret)) (jQ Cf (.cond (.t 40) (jQ TR (.ret)) (jQ B1 (.cond (.t 55) (jQ Pr (.ret)) (jQ B4 (.cond (.t 72) (jQ Ps (.ret)) (jQ B5 (.cond (.t 87) (jQ Pt (.ret)) (jQ B6 (.cond (.t 100) (jQ Pu (.ret)) (.skip)))))))))))))))))) (jQ Pv (.ret))))
def QeL:List RR:=[.tmp 4]
theorem Qjg:CT 243 115 QeK QeL:=ck Tryz.func243 Tryz.ntmps243 (by decide +kernel)
def TS:IL:=[je 4 0]
def TT:IL:=[ja 14 1,jl 15 0 14,ja 5 15]
def TU:IL:=[ja 17 5,jw 18 17 0,ja 19 18,js 20 1 19,js 21 0 19,⟨some 22,.val (.bin .str .eql (.t 20) (.t 21)),(some (19,false))⟩,jk 23 19 22,ja 16 23]
def TV:IL:=[je 4 0]
def TW:IL:=[ja 25 5,jw 26 25 1,ja 24 26]
def TX:IL:=[ja 27 0,ja 28 1,⟨some 29,.val (.idx (.t 28) (.c (.int .i64 0))),none⟩,ya 30 307 27 29,ja 4 30]
def TZ:IL:=[ja 32 5,ja 33 0,jl 34 0 33,⟨some 35,.val (.bin .num .geq (.t 32) (.t 34)),none⟩,ja 31 35]
def T0:IL:=[je 4 (-1)]
def T1:IL:=[ja 45 0,ja 46 1,ya 47 308 45 46,ja 4 47]
def QbV:IL:=[ja 48 1,⟨some 49,.val (.idx (.t 48) (.c (.int .i64 0))),none⟩,ja 6 49]
def QbW:IL:=[ja 50 1,⟨some 51,.val (.idx (.t 50) (.c (.int .i64 1))),none⟩,ja 7 51]
def QbX:IL:=[je 8 0]
def QbY:IL:=[ja 52 0,jl 53 0 52,ja 54 5,⟨some 55,.val (.bin .num .sub (.t 53) (.t 54)),none⟩,jm 56 55 1,ja 9 56]
def QbZ:IL:=[je 10 0]
def Qb0:IL:=[ja 57 8,ja 58 9,jr 59 57 58]
def Qb1:IL:=[ja 60 0,ja 61 8,⟨some 62,.val (.idx (.t 60) (.t 61)),none⟩,ja 63 6,yp 64 62 63]
def Qb2:IL:=[ja 65 0,ja 66 8,jm 67 66 1,ja 68 9,⟨some 69,.val (.slc none (.t 65) (some (.t 67)) (some (.t 68)) none),none⟩,ja 70 6,ya 71 307 69 70,ja 11 71]
def Qb3:IL:=[ja 72 11,yi 73 72 0]
def Qb4:IL:=[je 4 (-1)]
def Qb5:IL:=[ja 74 8,ja 75 11,jm 76 75 1,⟨some 77,.val (.bin .num .add (.t 74) (.t 76)),none⟩,ja 8 77]
def Qb6:IL:=[ja 78 0,ja 79 8,jm 80 79 1,⟨some 81,.val (.idx (.t 78) (.t 80)),none⟩,ja 82 7,⟨some 83,.val (.bin .num .eql (.t 81) (.t 82)),none⟩,ja 84 83,jf 85 0 84,jf 86 8 84,jf 87 8 84,jf 88 5 84,⟨some 89,.val (.bin .num .add (.t 87) (.t 88)),(some (84,true))⟩,⟨some 90,.val (.slc none (.t 85) (some (.t 86)) (some (.t 89)) none),(some (84,true))⟩,jf 91 1 84,⟨some 92,.val (.bin .str .eql (.t 90) (.t 91)),(some (84,true))⟩,ji 93 84 92]
def Qb7:IL:=[ja 94 8,ja 4 94]
def Qb8:IL:=[ja 95 8,jm 96 95 1,ja 8 96]
def Qb9:IL:=[ja 97 10,jm 98 97 1,ja 10 98]
def Qca:IL:=[ja 108 0,ja 109 8,⟨some 110,.val (.slc none (.t 108) (some (.t 109)) none none),none⟩,ja 111 1,ya 112 308 110 111,ja 12 112]
def Qcb:IL:=[ja 113 12,⟨some 114,.val (.bin .num .geq (.t 113) (.c (.int .i64 0))),none⟩]
def Qcc:IL:=[ja 115 12,ja 116 8,⟨some 117,.val (.bin .num .add (.t 115) (.t 116)),none⟩,ja 4 117]
def Qcd:IL:=[je 4 (-1)]
def Qce:IL:=[ja 133 0,ja 134 8,⟨some 135,.val (.slc none (.t 133) (some (.t 134)) none none),none⟩,ja 136 1,ya 137 310 135 136,ja 13 137]
def Qcf:IL:=[ja 138 13,yi 139 138 0]
def Qcg:IL:=[je 4 (-1)]
def Qch:IL:=[ja 140 8,ja 141 13,⟨some 142,.val (.bin .num .add (.t 140) (.t 141)),none⟩,ja 4 142]
def QeM:RC:=.seq (jQ Qb0 (jX 59 1)) (.block 2 (.seq (jQ Qb1 (.cond (.t 64) (jQ Qb2 (.seq (jQ Qb3 (.cond (.t 73) (jQ Qb4 (.ret)) (.skip))) (.reg Qb5))) (.skip))) (.seq (jQ Qb6 (.cond (.t 93) (jQ Qb7 (.ret)) (.skip))) (jQ Qb8 (jQ Qb9 (.seq (.no) (.cond (.t 107) (jQ Qca (.seq (jQ Qcb (.cond (.t 114) (jQ Qcc (.ret)) (.skip))) (jQ Qcd (.ret)))) (.seq (.no) (.cond (.t 132) (jQ Qce (.seq (jQ Qcf (.cond (.t 139) (jQ Qcg (.ret)) (.skip))) (jQ Qch (.ret)))) (.skip))))))))))
def Qci:IL:=[je 4 (-1)]
def EO:RC:=jQ TS (jQ TT (.seq (.block 0 (jQ TU (.cond (.t 16) (jQ TV (.ret)) (jQ TW (.cond (.t 24) (jQ TX (.ret)) (jQ TZ (.cond (.t 31) (jQ T0 (.ret)) (.seq (.no) (.cond (.t 36) (jQ T1 (.ret)) (.skip)))))))))) (jQ QbV (jQ QbW (jQ QbX (jQ QbY (jQ QbZ (.seq (.block 1 (.loop QeM)) (jQ Qci (.ret))))))))))
def QeN:List RR:=[.tmp 4]
theorem Qjh:CT 300 143 EO QeN:=ck Tryz.func300 Tryz.ntmps300 (by decide +kernel)
end Go.Proofs.YtgnfjkkfbcnbfaaGreatDoor.Rc
namespace Go.Proofs.YtgnfjkkfbcnbfaaGreatDoor.Bt
open Go
theorem Jj (n:Int):IntKind.u64.wrap n=n % 18446744073709551616:=by simp[IntKind.wrap,IntKind.bits,IntKind.signed]
theorem wu8 (n:Int):IntKind.u8.wrap n=n % 256:=by simp[IntKind.wrap,IntKind.bits,IntKind.signed]
theorem Qz (n:Int):IntKind.i64.wrap n=(n+9223372036854775808) % 18446744073709551616-9223372036854775808:=IntKind.wrap_i64 n
theorem Wn {n:Nat}(h:n<18446744073709551616):(BitVec.ofInt 64 (n:Int)).toNat=n:=by
 simp;omega
theorem Pw (a b:Nat)(ha:a<18446744073709551616)(hb:b<18446744073709551616):bits .xor .u64 (a:Int) (b:Int)=((a ^^^ b:Nat):Int):=by
 have hx:a ^^^ b<2 ^ 64:=Nat.xor_lt_two_pow (by omega) (by omega);show IntKind.u64.wrap ((BitVec.ofInt 64 (a:Int) ^^^ BitVec.ofInt 64 (b:Int)).toNat:Int)=_;rw[BitVec.toNat_xor,Wn ha,Wn hb,Jj];omega
theorem U9 (a b:Nat)(ha:a<18446744073709551616)(hb:b<18446744073709551616):bits .and .u64 (a:Int) (b:Int)=((a &&& b:Nat):Int):=by
 have hx:a &&& b<2 ^ 64:=Nat.and_lt_two_pow _ (by omega);show IntKind.u64.wrap ((BitVec.ofInt 64 (a:Int) &&& BitVec.ofInt 64 (b:Int)).toNat:Int)=_;rw[BitVec.toNat_and,Wn ha,Wn hb,Jj];omega
theorem T2 (a b:Nat)(ha:a<18446744073709551616)(hb:b<18446744073709551616):bits .or .u64 (a:Int) (b:Int)=((a ||| b:Nat):Int):=by
 have hx:a ||| b<2 ^ 64:=Nat.or_lt_two_pow (by omega) (by omega)
 show IntKind.u64.wrap ((BitVec.ofInt 64 (a:Int) ||| BitVec.ofInt 64 (b:Int)).toNat:Int)=_;rw[BitVec.toNat_or,Wn ha,Wn hb,Jj];omega
theorem Gr (a:Nat)(ha:a<18446744073709551616):a ^^^ 18446744073709551615=18446744073709551615-a:=by
 have h1:(BitVec.ofNat 64 a ^^^ BitVec.allOnes 64).toNat=a ^^^ 18446744073709551615:=by
  rw[BitVec.toNat_xor,BitVec.toNat_ofNat,BitVec.toNat_allOnes,Nat.mod_eq_of_lt (by omega)]
 rw[←h1,BitVec.xor_allOnes,BitVec.toNat_not,BitVec.toNat_ofNat,Nat.mod_eq_of_lt (by omega)]
theorem Ch (a:Int)(h0:0≤a)(h1:a<18446744073709551616):bits .xor .u64 a 0=a:=by
 obtain⟨n,rfl⟩:=QpH h0;have:=Pw n 0 (by omega) (by omega);rw[Nat.xor_zero]at this;exact this
theorem Ci (a:Int)(h0:0≤a)(h1:a<18446744073709551616):bits .xor .u64 a 18446744073709551615=18446744073709551615-a:=by
 obtain⟨n,rfl⟩:=QpH h0;have:=Pw n 18446744073709551615 (by omega) (by omega);rw[Gr n (by omega)]at this;rw[show((18446744073709551615:Nat):Int)=18446744073709551615 from rfl]at this;rw[this];omega
theorem M7 (a:Int)(h0:0≤a)(h1:a<18446744073709551616):bits .and .u64 a 1=a % 2:=by
 obtain⟨n,rfl⟩:=QpH h0;have:=U9 n 1 (by omega) (by omega);rw[Nat.and_one_is_mod]at this;rw[show((1:Nat):Int)=1 from rfl]at this;rw[this];omega
theorem Cj (a:Int)(h0 : -9223372036854775808≤a)(h1:a<9223372036854775808):bits .xor .i64 a 0=a:=by
 show IntKind.i64.wrap ((BitVec.ofInt 64 a ^^^ BitVec.ofInt 64 0).toNat:Int)=_;rw[BitVec.toNat_xor,show(BitVec.ofInt 64 0).toNat=0 from rfl,Nat.xor_zero,BitVec.toNat_ofInt,Qz];omega
theorem Ck (a:Int)(h0 : -9223372036854775808≤a)(h1:a<9223372036854775808):bits .xor .i64 a (-1) = -1-a:=by
 show IntKind.i64.wrap ((BitVec.ofInt 64 a ^^^ BitVec.ofInt 64 (-1)).toNat:Int)=_;rw[BitVec.toNat_xor,show(BitVec.ofInt 64 (-1)).toNat=18446744073709551615 from rfl,BitVec.toNat_ofInt,Gr _ (by omega),Qz];omega
end Go.Proofs.YtgnfjkkfbcnbfaaGreatDoor.Bt
set_option linter.unusedSimpArgs false
namespace Go.Proofs.YtgnfjkkfbcnbfaaGreatDoor.Va
open Go Am Rc Bt
def isk (k:Int):Bool:=decide (k≥1)&&decide (k≤9)
def Zx (k:Int):Bool:=k==7||k==8
def wk (k:Int):Int:=if k=1∨k=4∨k=5∨k=9 then 0 else if k=2∨k=3 then 1 else if k=6 then 2 else if k=7∨k=8 then 3 else if k=10 then 4 else -1
theorem LD (k:Int):Qg Tryz.prog 88 [.int .i64 k] (.bool (isk k)):=by
 refine wF Tryz.func88 ?_;simp only[eK,Tryz.f88,seval];simp only[isk,Qa,seval];cases h:decide (k≥1)<;>simp only[QpE,Qpu,Qa,seval]
theorem B7 (k:Int):Qg Tryz.prog 205 [.int .i64 k] (.bool (isk k)):=by
 refine wF Tryz.func205 ?_;simp only[eK,Tryz.f205,seval];simp only[isk,Qa,seval];cases h:decide (k≥1)<;>simp only[QpE,Qpu,Qa,seval]
theorem Y8 (k:Int):Qg Tryz.prog 185 [.int .i64 k] (.bool (Zx k)):=by
 refine wF Tryz.func185 ?_;simp only[eK,Tryz.f185,seval];simp only[Zx,Qa,seval];cases h:(k==7)<;>simp only[QpI,QpJ,Qa,seval]
theorem QeP (k:Int):Qg Tryz.prog 270 [.int .i64 k] (.bool (Zx k)):=by
 refine wF Tryz.func270 ?_;simp only[eK,Tryz.f270,seval];simp only[Zx,Qa,seval];cases h:(k==7)<;>simp only[QpI,QpJ,Qa,seval]
def oc (n:Int)(s a:List UInt8)(c k kd t u:Int):AV:=.agg [.int .i64 n,.str s,.str a,.int .i64 c,.int .i64 k,.int .i64 kd,.int .i64 t,.int .i64 u]
def pk (c kd:Int):Bool:=c==4&&((decide (kd≥1)&&decide (kd≤6))||kd==9)
def Cm (c kd:Int):Int:=if c=5 then 6 else if pk c kd=true then 5 else wk kd
section
variable (n:Int)(s a:List UInt8)(c k kd t u:Int)
theorem EP:Qg Tryz.prog 171 [oc n s a c k kd t u] (.bool (pk c kd)):=by
 refine wF Tryz.func171 ?_;simp only[eK,Tryz.f171,seval];simp only[oc,pk,eE,seval];cases h0:(c==4)<;>cases h1:decide (kd≥1)<;>cases h2:decide (kd≤6)<;>simp only[h1,h2,QpE,Qpu,QpI,QpJ,eE,seval]
theorem QeQ:Qg Tryz.prog 225 [oc n s a c k kd t u] (.int .i64 (Cm c kd)):=by
 have hP:=EP n s a c k kd t u;simp only[oc]at hP;refine wF Tryz.func225 ?_;simp only[eK,Tryz.f225,seval];simp only[oc,eE,seval];by_cases hc:c=5
 ·have b0:(c==5)=true:=by simp[hc]
  simp only[b0,Cm,Qn5 hc,Qa,seval]
 ·have b0:(c==5)=false:=by simp[hc]
  simp only[b0,Cm,Qn4 hc,eE,seval];refine aC hP ?_;cases pk c kd
  ·simp only[Qog,eE,seval]
   repeat' (first|(refine Q3 (fun h=>?_) (fun h=>?_)<;>simp only[h,Qa,seval])|(refine XZ (fun h=>?_) (fun h=>?_)<;>simp only[h,Ql,eE,seval])|(refine X0 (fun h=>?_) (fun h=>?_)<;>simp only[h,Ql,eE,seval]))
   all_goals((try simp only[Qn2,QpK,ne_eq]at *)<;>unfold wk<;>(repeat' split)<;>first|rfl|(exfalso;omega))
  ·simp only[Qa,seval]
end
theorem Qs (i:Nat)(n:Nat)(h:i<n)(hn:n≤maxLen):IntKind.i64.wrap ((i:Int)+1)=((i+1:Nat):Int):=by
 simp only[maxLen]at hn;rw[Qz];omega
theorem QA {i n:Nat}(h:i<n):decide ((i:Int)<(n:Int))=true:=by simp;omega
theorem QH {i n:Nat}(h:¬i<n):decide ((i:Int)<(n:Int))=false:=by simp;omega
theorem Qp (i:Nat):(0≤(i:Int))=True:=by simp
end Go.Proofs.YtgnfjkkfbcnbfaaGreatDoor.Va
namespace Go.Proofs.YtgnfjkkfbcnbfaaGreatDoor.Br
open Go Am Go.RowKit Go.WideShapes Go.ChangeShapes Go.ChangeAt Go.Joins Go.Deep Go.WideElems Go.Maps
section
variable {H:Type}{enc:TypeId×Value→H}{P:Program}{W:World}{base:Nat}{sp:Nat→Bool}{held:Bool}
end
theorem DI {X α:Type}{f:X→List α}{sz:Nat}(hsz:0<sz)(hf:∀x,(f x).length=sz):∀(xs:List X) (j:Nat),(xs.flatMap f)[j]? = (xs[j / sz]?).bind fun x=>(f x)[j % sz]?
 | [],j=>by simp
 |x :: xs,j=>by
  rw[Qps];by_cases hj:j<sz
  ·rw[Qpo (by rw[hf];exact hj),Nat.div_eq_of_lt hj,Nat.mod_eq_of_lt hj];rfl
  ·obtain⟨i,rfl⟩:∃i,j=sz+i:=⟨j-sz,by omega⟩;rw[Qpp (by rw[hf];omega),hf,DI hsz hf xs,show sz+i-sz=i by omega,show(sz+i) / sz=i / sz+1 by rw[Nat.add_div_left _ hsz],Nat.add_mod_left];rfl
section
variable {H:Type}{enc:TypeId×Value→H}{P:Program}{W:World}
structure El (enc:TypeId×Value→H)(P:Program)(e:TypeId)(sz:Nat)(X:Type) where
 av:X→AV
 vals:X→List Value
 JY:X→DataW H
 ok:X→Prop
 pos:0<sz
 len:∀x,(vals x).length=sz
 cells:∀x,(av x).cells.length=sz
 rfl':∀x,AV.rfL (av x).cells=true
 leaf:∀x,(av x).cells.all AV.leaf=true
 rep:∀(G:Gh) x,RepL G (av x).cells (vals x)
 opened:∀ {W:World} {n:Nat} {cs:List Value} {d:DataW H} {pl:List MemPlace},cs.length=sz→DataW.trod enc P W 0 (fun _=>true) true n e cs=some (d,pl)→∃x,ok x∧cs=vals x∧d=JY x∧pl=[]
 shut:∀(W:World) (sp:Nat→Bool) x,ok x→∃n,DataW.trod enc P W 0 sp true n e (vals x)=some (JY x,[])
end
def Zg:List AV→AV
 | [x]=>x
 |l=>.agg l
def F3 (P:Program):Nat→List Field→Nat→Bool
 |o,[],n=>Nat.beq o n
 |o,f :: fs,n=>Nat.beq f.offset o&&F3 P (o+P.cellsOf f.type) fs n
def T3 (P:Program)(ts:List TypeId)(t:TypeId):Bool :=
 match P.underlying t with
 |some (.int _)|some .bool|some .string=>P.cellsOf t==1
 |some (.struct fs)=>F3 P 0 fs.toList (P.cellsOf t)&&fs.toList.all fun f=>ts.contains f.type
 |some (.slice e)=>P.cellsOf t==1&&(decide (0<P.cellsOf e)&&decide (0<P.bytesOf e))&&ts.contains e
 |_=>false
def Cn (P:Program)(ts:List TypeId):Bool:=ts.all (T3 P ts)
def Xx (P:Program)(M:Nat):Nat→TypeId→List AV→Prop
 |0,_,_=>False
 |k+1,t,cs=>match P.underlying t with
  |some (.int ik)=>∃n,cs=[.int ik n]∧(Lit.int ik n).wf=true
  |some .bool=>∃b,cs=[.bool b]
  |some .string=>∃s,cs=[.str s]∧s.length≤M
  |some (.struct fs)=>HasL (Xx P M k) fs.toList cs
  |some (.slice e)=>∃l:List (List AV),cs=[.list (l.map Zg)]∧(l.length≤maxLen∧(M=reachBytes→l.length*P.bytesOf e≤M))∧(∀c∈l,Xx P M k e c)∧l.length≤M
  |_=>False
where
 HasL (h:TypeId→List AV→Prop):List Field→List AV→Prop
  | [],cs=>cs=[]
  |f :: fs,cs=>∃a b,cs=a++b∧h f.type a∧HasL h fs b
theorem DJ {l:List AV}(h:l.all AV.leaf=true):(Zg l).cells=l:=by
 match l,h with
 | [],_=>rfl
 | [x],h=>cases x<;>first|rfl|simp[AV.leaf]at h
 |_ :: _ :: _,_=>rfl
mutual
def wt:AV→Nat
 |.list l=>1+Z3 l
 |.agg l=>Z3 l
 |_=>1
def Z3:List AV→Nat
 | []=>0
 |x :: l=>wt x+Z3 l
end
theorem B8 (a b:List AV):Z3 (a++b)=Z3 a+Z3 b:=by
 induction a with
 |nil=>simp[Z3]
 |cons x a ih=>simp only[Qoj,Z3,ih];omega
theorem EQ:∀l:List AV,wt (Zg l)=Z3 l
 | []=>by simp[Zg,wt]
 | [x]=>by simp[Zg,Z3]
 |_ :: _ :: _=>by simp[Zg,wt]
theorem Gs {G:Gh}:∀ {ls:List (List AV)} {cs:List (List Value)},ls.length=cs.length→(∀i (h1:i<ls.length) (h2:i<cs.length),RepL G ls[i] cs[i])→RepL G ls.flatten cs.flatten
 | [],[],_,_=>.nil
 |l :: ls,c :: cs,hn,h=>by
  rw[List.flatten_cons,List.flatten_cons];exact RepL.append (h 0 (by simp) (by simp)) (Gs (by simpa using hn) fun i h1 h2=>h (i+1) (by simpa using h1) (by simpa using h2))
 | [],_ :: _,hn,_=>by simp at hn
 |_ :: _,[],hn,_=>by simp at hn
section
variable {H:Type}{enc:TypeId×Value→H}{P:Program}{W:World}{M:Nat}
theorem D6 {d:DataW H}:∀ {l:List (DataW H)},d∈l→Rows.uptoBulk d≤Rows.uptoBulkAll l
 | [],h=>by cases h
 |x :: l,h=>by
  rw[Rows.uptoBulkAll];rcases Qpk.1 h with rfl|h
  ·omega
  ·have:=D6 h;omega
theorem ER (d:DataW H):1≤Rows.uptoBulk d:=by unfold Rows.uptoBulk;split<;>omega
theorem F4 {x:AV}(h:wt x=1)(d:DataW H):Z3 [x]≤Rows.uptoBulk d:=by
 have:=ER d;rw[Z3,Z3,h];exact this
theorem ES (a b:List (DataW H)):Rows.uptoBulkAll (a++b)=Rows.uptoBulkAll a+Rows.uptoBulkAll b:=by
 induction a with
 |nil=>simp[Rows.uptoBulkAll]
 |cons x a ih=>simp only[Qoj,Rows.uptoBulkAll,ih];omega
theorem Co (F:Nat→List AV)(xs:List (DataW H))(h:∀i d,xs[i]? = some d→Z3 (F i)≤Rows.uptoBulk d):∀n,n≤xs.length→Z3 (((List.range n).map F).map Zg)≤Rows.uptoBulkAll (xs.take n)
 |0,_=>Qn6 _
 |n+1,hn=>by
  have hx:xs[n]? = some xs[n]:=QnX (by omega);have:=Co F xs h n (by omega);have h1:=h n _ hx;rw[List.range_succ,QpL,QpL,B8,QpM,hx,ES];simp only[Qov,QoZ,Z3,EQ,Option.toList_some,Rows.uptoBulkAll];omega
def T4 (P:Program)(M:Nat)(t:TypeId)(d:DataW H):Prop:=M=maxLen∨(M≠reachBytes∧Rows.uptoBulk d≤M)∨(d.weights P t).all (·≤M)=true
theorem F5 {t:TypeId}{d:DataW H}:∀ {ts:List TypeId} {ds:List (DataW H)} (i:Nat),(DataW.weightsEach P ts ds).all (·≤M)=true→ts[i]? = some t→ds[i]? = some d→(d.weights P t).all (·≤M)=true
 | [],_,_,_,h,_=>by simp at h
 |_ :: _,[],_,_,_,h=>by simp at h
 |t' :: ts,d' :: ds,0,h,h1,h2=>by
  rw[DataW.weightsEach,Qpg,Qol]at h;cases h1;cases h2;exact h.1
 |t' :: ts,d' :: ds,i+1,h,h1,h2=>by
  rw[DataW.weightsEach,Qpg,Qol]at h;exact F5 i h.2 (by simpa using h1) (by simpa using h2)
theorem Ha {e:TypeId}{d:DataW H}:∀ {ds:List (DataW H)},(DataW.weightsAll P e ds).all (·≤M)=true→d∈ds→(d.weights P e).all (·≤M)=true
 | [],_,h=>by cases h
 |d' :: ds,h,hd=>by
  rw[DataW.weightsAll,Qpg,Qol]at h;rcases Qpk.1 hd with rfl|hd
  ·exact h.1
  ·exact Ha h.2 hd
def Opn (W:World)(hL:DX W)(h:List AV→Prop)(B n:Nat)(cs:List Value):Prop :=
 ∃avs,h avs∧RepL (Gh.world W hL) avs cs∧avs.length=n∧AV.rfL avs=true∧avs.all AV.leaf=true∧Z3 avs≤B
theorem DK (hL:DX W){h:TypeId→List AV→Prop}{cs:List Value}:∀(fs:List Field) (ds:List (DataW H)) (o:Nat),F3 P o fs cs.length=true→fs.length=ds.length→(∀(i:Nat) (f:Field) (d:DataW H),fs[i]? = some f→ds[i]? = some d→Opn W hL (h f.type) (Rows.uptoBulk d) (P.cellsOf f.type) ((cs.drop f.offset).take (P.cellsOf f.type)))→
  Opn W hL (Xx.HasL h fs) (Rows.uptoBulkAll ds) (cs.length-o) (cs.drop o)
 | [],_,o,hc,_,_=>by
  have e:o=cs.length:=QnS hc;refine⟨[],rfl,?_,by simp[e],rfl,rfl,Qn6 _⟩;rw[e,List.drop_length];exact .nil
 |_ :: _,[],_,_,hl,_=>by simp at hl
 |f :: fs,d :: ds,o,hc,hl,hf=>by
  simp only[F3,Qol]at hc;have eo:f.offset=o:=QnS hc.1;obtain⟨a,a1,a2,a3,a4,a5,a6⟩:=hf 0 f d rfl rfl;obtain⟨b,b1,b2,b3,b4,b5,b6⟩:=DK hL fs ds _ hc.2 (by simpa using hl) fun i g d hg hd=>hf (i+1) g d (by simpa using hg) (by simpa using hd)
  rw[eo]at a2;refine⟨a++b,⟨a,b,rfl,a1,b1⟩,?_,?_,by rw[WB,a4,b4]<;>rfl,by rw[Qpg,a5,b5]<;>rfl,by rw[B8,Rows.uptoBulkAll];omega⟩
  ·have:=RepL.append a2 b2
   rwa [←Qos,Qpf]at this
  ·have hlen:a.length=((cs.drop o).take (P.cellsOf f.type)).length:=(RepL.length a2).symm;rw[QoB,a3,b3];rw[a3,QoU,QoE]at hlen;omega
theorem UF (hL:DX W){ts:List TypeId}(hP:Cn P ts=true):∀(k:Nat) (t:TypeId) (cs:List Value) (d:DataW H) (pl:List MemPlace),ts.contains t=true→DataW.trod enc P W 0 (fun _=>true) true k t cs=some (d,pl)→T4 P M t d→
  Opn W hL (Xx P M k t) (Rows.uptoBulk d) (P.cellsOf t) cs
 |0,_,_,_,_,_,h,_=>by simp[DataW.trod]at h
 |k+1,t,cs,d,pl,ht,h,hb=>by
  have hp:=Qoa.1 hP t (by simpa using ht);unfold T3 at hp;split at hp
  ·rename_i ik hu;obtain⟨v,rfl,_,hw⟩:=DataW.trod_int hu h;refine⟨[.int ik v],?_,.cons (.int ik v) .nil,by rw[Qn2]at hp;simp[hp],rfl,rfl,F4 rfl _⟩;simp only[Xx,hu];exact⟨v,rfl,hw⟩
  ·rename_i hu;obtain⟨b,rfl,_⟩:=DataW.trod_bool hu h;refine⟨[.bool b],?_,.cons (.bool b) .nil,by rw[Qn2]at hp;simp[hp],rfl,rfl,F4 rfl _⟩;simp only[Xx,hu];exact⟨b,rfl⟩
  ·rename_i hu;obtain⟨⟨⟨s⟩⟩,rfl,e,hw⟩:=DataW.trod_string hu h;have hw:s.length≤M:=by
    cases e;rcases hb with rfl|hb|hb
    ·exact hw
    ·replace hb:=hb.2;rw[Rows.uptoBulk]at hb;exact QnU (Nat.le_succ _) hb
    ·rw[DataW.weights]at hb
     simpa using hb
   refine⟨[.str s],?_,.cons (.str s) .nil,by rw[Qn2]at hp;simp[hp],rfl,rfl,F4 rfl _⟩;simp only[Xx,hu];exact⟨s,rfl,hw⟩
  ·rename_i fs hu;simp only[Qol,Qoa]at hp;obtain⟨xs,n',hk,e,hlen,hxl,hx⟩:=DataW.trod_struct hu h;obtain rfl:k=n':=by omega
   have hbx:∀(i:Nat) x (f:Field),xs[i]? = some x→fs[i]? = some f→T4 P M f.type x.1:=fun i x f hx hf=>by
    cases e;refine hb.imp id fun hb=>hb.imp (fun hb=>⟨hb.1,?_⟩) fun hb=>?_
    ·replace hb:=hb.2;rw[Rows.uptoBulk]at hb;have:=D6 (l:=xs.map (·.1)) (Qpi.2 ⟨x,Qob hx,rfl⟩);omega
    ·rw[DataW.weights,hu]at hb;exact F5 i hb (by simp[hf]) (by simp[hx])
   have:=DK hL (W:=W) (h:=Xx P M k) (cs:=cs) fs.toList (xs.map (·.1)) 0 (by rw[hlen];exact hp.1) (by simp[hxl]) (fun i f d hi hd=>by
    have hi':fs[i]? = some f:=by simpa using hi
    have hf:f∈fs.toList:=Qob hi;obtain⟨x,hxi,rfl⟩:∃x,xs[i]? = some x∧x.1=d:=by
     rw[Qpl]at hd;obtain⟨x,h1,h2⟩:=QnZ.1 hd;exact⟨x,h1,h2⟩
    have h2:=hx i f hi';rw[hxi]at h2;exact UF hL hP k f.type _ _ _ (hp.2 f hf) h2 (hbx i _ f hxi hi'))
   rw[QoF,QoW,hlen]at this;obtain⟨avs,h1,h2,h3,h4,h5,h6⟩:=this;refine⟨avs,?_,h2,h3,h4,h5,by cases e;rw[Rows.uptoBulk];omega⟩;simp only[Xx,hu];exact h1
  ·rename_i e hu;simp only[Qol,Qn1,Qn2]at hp;obtain⟨⟨h1,h0,hby⟩,hpe⟩:=hp;rcases DataW.trod_slice hu h with⟨rfl,_⟩|⟨a,len,cap,elems,rest,n',hk,rfl,e0,_,hl,hm,hln0,hel,_⟩
   ·refine⟨[.list []],?_,.cons (.list (cs:=[]) (sz:=0) .nil (by simp) rfl rfl (by simp) rfl (Qn6 _) (Qn6 _)) .nil,by simp[h1],rfl,rfl,F4 rfl _⟩;simp only[Xx,hu];exact⟨[],rfl,⟨Qn6 _,fun _=>by simp⟩,by simp,Qn6 _⟩
   ·obtain rfl:k=n':=by omega
    have hbx:∀x∈elems,T4 P M e x.1:=fun x hx=>by
     cases e0;refine hb.imp id fun hb=>hb.imp (fun hb=>⟨hb.1,?_⟩) fun hb=>?_
     ·replace hb:=hb.2;rw[Rows.uptoBulk]at hb;have:=D6 (l:=elems.map (·.1)) (Qpi.2 ⟨x,hx,rfl⟩);omega
     ·rw[DataW.weights,hu,Qo9,Qpg,Qol,Qol]at hb;exact Ha hb.2.1 (Qpi.2 ⟨x,hx,rfl⟩)
    have hlenM:len≤M:=by
     cases e0;rcases hb with rfl|hb|hb
     ·omega
     ·have key:∀l:List (DataW H),l.length≤Rows.uptoBulkAll l:=by
       intro l
       induction l with
       |nil=>simp
       |cons x l ih=>
        have:1≤Rows.uptoBulk x:=by unfold Rows.uptoBulk;split<;>omega
        rw[Rows.uptoBulkAll,Qoc];omega
      replace hb:=hb.2;rw[Rows.uptoBulk]at hb;have:=key (elems.map (·.1));rw[QoS]at this;omega
     ·rw[DataW.weights,hu,Qo9,Qol]at hb;have h5:=hb.1;simp only[Qn1,QoS]at h5;have h6:elems.length*1≤(elems.length+rest.length)*P.bytesOf e:=Nat.mul_le_mul (Nat.le_add_right _ _) hby;omega
    have hlenB:M=reachBytes→len*P.bytesOf e≤M:=fun hM=>by
     cases e0;rcases hb with rfl|hb|hb
     ·exact absurd hM (by unfold maxLen reachBytes;omega)
     ·exact absurd hM hb.1
     ·rw[DataW.weights,hu,Qo9,Qol]at hb;have h5:=hb.1;simp only[Qn1,QoS]at h5;have h6:elems.length*P.bytesOf e≤(elems.length+rest.length)*P.bytesOf e:=Nat.mul_le_mul (Nat.le_add_right _ _) (QnV _);have h7:len*P.bytesOf e=elems.length*P.bytesOf e:=by rw[show len=elems.length by omega]
      omega
    haveI:Inhabited ({c:List Value // c.length=P.cellsOf e}×List AV):=⟨(⟨List.replicate (P.cellsOf e) (.bool false),by simp⟩,[])⟩
    obtain⟨F,hF⟩:=choose_lt (α:={c:List Value // c.length=P.cellsOf e}×List AV) (n:=len) (p:=fun i x=>W.cells? 0 (a.add (i*P.cellsOf e)) (P.cellsOf e)=some x.1.1∧Xx P M k e x.2∧RepL (Gh.world W hL) x.2 x.1.1∧x.2.length=P.cellsOf e∧AV.rfL x.2=true∧x.2.all AV.leaf=true∧∀d,elems[i]? = some d→Z3 x.2≤Rows.uptoBulk d.1) (fun i hi=>by
     have hb:=hel i hi;rw[QnX (by omega)]at hb;obtain⟨cs',c1,c2⟩:=Option.bind_eq_some_iff.1 hb;obtain⟨_,hln,_⟩:=World.cells?_some c1;obtain⟨avs,o1,o2,o3,o4,o5,o6⟩:=UF hL hP k e cs' _ _ hpe c2 (hbx _ (QoP _));exact⟨(⟨cs',hln⟩,avs),c1,o1,o2,o3,o4,o5,fun d hd=>by
      rw[QnX (by omega)]at hd;cases hd;exact o6⟩)
    have cellAt:∀i j,i<len→j<P.cellsOf e→W.cell? (a.add (i*P.cellsOf e+j))=(F i).1.1[j]?:=by
     intro i j hi hj;obtain⟨_,_,h3⟩:=World.cells?_some (hF i hi).1;rw[←h3 j hj,add_add]
    have hspot:0<len→a.spot=none:=by
     intro hc;have:=cellAt 0 0 hc h0;rw[Nat.zero_mul,show a.add (0+0)=a from rfl,QnX (by rw[(F 0).1.2];exact h0)]at this;unfold World.cell? at this;split at this
     ·split at this
      ·cases this
      ·rename_i h;simpa using h
     ·cases this
    have hel':∀c∈(List.range len).map (fun i=>(F i).2),∃i,i<len∧c=(F i).2:=by
     intro c hc;obtain⟨i,hi,rfl⟩:=Qpi.1 hc;exact⟨i,Qpx.1 hi,rfl⟩
    have hflat:∀L:List (List AV),(∀c∈L,c.all AV.leaf=true)→QT (L.map Zg)=L.flatten:=by
     intro L
     induction L with
     |nil=>intro _;rfl
     |cons c L ih=>
      intro hh;show(Zg c).cells++QT (L.map Zg)=c++L.flatten;rw[DJ (hh c (by simp)),ih fun x hx=>hh x (by simp[hx])]
    have hrf:∀L:List (List AV),(∀c∈L,AV.rfL c=true)→AV.rfL L.flatten=true:=by
     intro L
     induction L with
     |nil=>intro _;rfl
     |cons c L ih=>
      intro hh;rw[List.flatten_cons,WB,hh c (by simp),ih fun x hx=>hh x (by simp[hx])]<;>rfl
    have hlf:∀L:List (List AV),(∀c∈L,c.all AV.leaf=true)→L.flatten.all AV.leaf=true:=by
     intro L
     induction L with
     |nil=>intro _;rfl
     |cons c L ih=>
      intro hh;rw[List.flatten_cons,Qpg,hh c (by simp),ih fun x hx=>hh x (by simp[hx])]<;>rfl
    have hl1:∀c∈(List.range len).map (fun i=>(F i).2),c.all AV.leaf=true:=fun c hc=>by
     obtain⟨i,hi,rfl⟩:=hel' c hc;exact(hF i hi).2.2.2.2.2.1
    have hl2:∀c∈(List.range len).map (fun i=>(F i).2),AV.rfL c=true:=fun c hc=>by
     obtain⟨i,hi,rfl⟩:=hel' c hc;exact(hF i hi).2.2.2.2.1
    have hwt:Z3 [.list (((List.range len).map fun i=>(F i).2).map Zg)]≤Rows.uptoBulk d:=by
     cases e0;have hw:=fun n hn=>Co (fun i=>if i<len then(F i).2 else []) (elems.map (·.1)) (fun i d hd=>by
      rw[Qpl]at hd;obtain⟨x,h1,rfl⟩:=QnZ.1 hd;by_cases hi:i<len
      ·rw[Qn5 hi];exact(hF i hi).2.2.2.2.2.2 x h1
      ·rw[Qn4 hi];exact Qn6 _) n hn
     have h1:=hw len (by rw[QoS];omega);rw[Qox (by rw[QoS];omega)]at h1;have h2:(List.range len).map (fun i=>if i<len then(F i).2 else [])=(List.range len).map fun i=>(F i).2:=by
      refine QpN fun i hi=>?_
      rw[Qn5 (Qpx.1 hi)]
     rw[h2]at h1;rw[Z3,Z3,wt,Rows.uptoBulk];omega
    refine⟨[.list (((List.range len).map fun i=>(F i).2).map Zg)],?_,.cons (.list (cs:=((List.range len).map fun i=>(F i).1.1).flatten) (sz:=P.cellsOf e) ?_ ?_ ?_ ?_ ?_ (by simp) hl (by omega)) .nil,by simp[h1],rfl,rfl,hwt⟩
    ·simp only[Xx,hu];refine⟨_,rfl,⟨by simp;omega,fun hM=>by simpa using hlenB hM⟩,?_,by simpa using hlenM⟩;intro c hc;obtain⟨i,hi,rfl⟩:=hel' c hc;exact(hF i hi).2.1
    ·rw[hflat _ hl1];refine Gs (by simp) fun i g1 g2=>?_
     simp only[QoS,List.length_range]at g1;simp only[List.getElem_map,List.getElem_range];exact(hF i (by omega)).2.2.1
    ·intro x hx;obtain⟨c,hc,rfl⟩:=Qpi.1 hx;rw[DJ (hl1 c hc)];obtain⟨i,hi,rfl⟩:=hel' c hc;exact(hF i hi).2.2.2.1
    ·rw[hflat _ hl1];exact hrf _ hl2
    ·rw[hflat _ hl1];exact hlf _ hl1
    ·intro j u hj;rw[←List.flatMap_def,DI h0 (fun i=>(F i).1.2)]at hj;by_cases hi:j / P.cellsOf e<len
     ·rw[List.getElem?_range hi]at hj;have hj:(F (j / P.cellsOf e)).1.1[j % P.cellsOf e]? = some u:=hj;have hk:=cellAt (j / P.cellsOf e) (j % P.cellsOf e) (by omega) (Nat.mod_lt _ h0);rw[hj,Nat.div_add_mod']at hk;have hs:=hspot (Nat.lt_of_le_of_lt (Qn6 _) hi);obtain⟨b,o,s⟩:=a;subst hs;refine⟨b,o,rfl,?_⟩;refine G5 ?_;show W.cell? ⟨b,o+j,none⟩=some u;rw[←hk];unfold Addr.add;split
      ·rename_i h;rw[h];rfl
      ·rfl
     ·rw[Qpm (by simp;omega)]at hj;cases hj
  ·cases hp
theorem F6 {t:TypeId}{v:Value}{d:DataW H}{p:List MemPlace}(hl:laidOutB P=true)(hr:P.readableRec t=true)(hrow:t<P.types.size)(h:DataW.Trod enc P W 0 (fun _=>true) true t v d p) :
  ∀(W':World) (sp:Nat→Bool),Below W.heap.size W W'→(∀q∈p,sp q.block=true)→DataW.Trod enc P W' 0 sp true t v d p:=by
 intro W' sp hb hs;obtain⟨n,hn⟩:=h;exact Trod_stays hl hr hrow ⟨n,hn⟩ (fun x hx=>hb.same (DataW.trod_lt n _ _ _ hn x hx)) hs
theorem M8 (hL:DX W){t:TypeId}{fs:Array Field}{ts:List TypeId}{r:Reach}{b0:Nat}{v:Value}{d:DataW H}{p:List MemPlace}(hP:Cn P ts=true)(ht:ts.contains t=true)(hs:P.underlying t=some (.struct fs))(hv:Value.okWide P W r b0 t v)
  (h:DataW.Trod enc P W 0 (fun _=>true) true t v d p) (hb:T4 P M t d):∃k avs,Xx P M k t avs∧Rep (Gh.world W hL) (.agg avs) v:=by
 obtain⟨⟨cs⟩,rfl,_⟩:=okWide_struct hs hv;obtain⟨n,hn⟩:=h;obtain⟨avs,h1,h2,_⟩:=UF hL hP n t _ _ _ ht hn hb;exact⟨n,avs,h1,.agg h2⟩
theorem Vo (hL:DX W){t:TypeId}{fs:Array Field}{ts:List TypeId}{r:Reach}{b0:Nat}{v:Value}{d:DataW H}{p:List MemPlace}(hP:Cn P ts=true)(ht:ts.contains t=true)(hs:P.underlying t=some (.struct fs))(hv:Value.okWide P W r b0 t v)
  (h:DataW.Trod enc P W 0 (fun _=>true) true t v d p) (hb:T4 P M t d):∃k avs,Xx P M k t avs∧Rep (Gh.world W hL) (.agg avs) v∧Z3 avs≤Rows.uptoBulk d:=by
 obtain⟨⟨cs⟩,rfl,_⟩:=okWide_struct hs hv;obtain⟨n,hn⟩:=h;obtain⟨avs,h1,h2,_,_,_,h6⟩:=UF hL hP n t _ _ _ ht hn hb;exact⟨n,avs,h1,.agg h2,h6⟩
theorem Jk {X:Type}{f:X→List AV}{ok:X→Prop}:∀ {l:List (List AV)},(∀c∈l,∃x,ok x∧c=f x)→∃xs:List X,l=xs.map f∧∀x∈xs,ok x
 | [],_=>⟨[],rfl,by simp⟩
 |c :: l,h=>by
  obtain⟨x,hx,rfl⟩:=h c (by simp);obtain⟨xs,rfl,hxs⟩:=Jk (l:=l) fun c hc=>h c (by simp[hc])
  exact⟨x :: xs,rfl,by simpa using ⟨hx,hxs⟩⟩
end
end Go.Proofs.YtgnfjkkfbcnbfaaGreatDoor.Br
namespace Go.Proofs.YtgnfjkkfbcnbfaaGreatDoor.Br
open Go Am
section
variable {P:Program}{M k:Nat}{t:TypeId}{cs:List AV}
theorem Zk {ik:IntKind}(hu:P.underlying t=some (.int ik))(h:Xx P M k t cs):∃n,cs=[.int ik n]∧(Lit.int ik n).wf=true:=by
 cases k with
 |zero=>cases h
 |succ k=>simpa only [Xx,hu]using h
theorem ET (hu:P.underlying t=some .bool)(h:Xx P M k t cs):∃b,cs=[.bool b]:=by
 cases k with
 |zero=>cases h
 |succ k=>simpa only [Xx,hu]using h
theorem KQ (hu:P.underlying t=some .string)(h:Xx P M k t cs):∃s,cs=[.str s]∧s.length≤M:=by
 cases k with
 |zero=>cases h
 |succ k=>simpa only [Xx,hu]using h
theorem Kw {e:TypeId}(hu:P.underlying t=some (.slice e))(h:Xx P M k t cs):∃(k':Nat) (l:List (List AV)),cs=[.list (l.map Zg)]∧l.length≤maxLen∧∀c∈l,Xx P M k' e c:=by
 cases k with
 |zero=>cases h
 |succ k=>
  simp only[Xx,hu]at h;obtain⟨l,h1,h2,h3,_⟩:=h;exact⟨k,l,h1,h2.1,h3⟩
theorem YR {e:TypeId}(hu:P.underlying t=some (.slice e))(h:Xx P M k t cs):∃(k':Nat) (l:List (List AV)),cs=[.list (l.map Zg)]∧l.length≤M∧∀c∈l,Xx P M k' e c:=by
 cases k with
 |zero=>cases h
 |succ k=>
  simp only[Xx,hu]at h;obtain⟨l,h1,_,h3,h4⟩:=h;exact⟨k,l,h1,h4,h3⟩
theorem ZZ {fs:Array Field}(hu:P.underlying t=some (.struct fs))(h:Xx P M k t cs):∃k',Xx.HasL (Xx P M k') fs.toList cs:=by
 cases k with
 |zero=>cases h
 |succ k=>
  simp only[Xx,hu]at h;exact⟨k,h⟩
end
structure PO where
 num:Int
 name:List UInt8
 alias:List UInt8
 card:Int
 key:Int
 kind:Int
 target:Int
 union:Int
def PO.cells (o:PO):List AV:=[.int .i64 o.num,.str o.name,.str o.alias,.int .i64 o.card,.int .i64 o.key,.int .i64 o.kind,.int .i64 o.target,.int .i64 o.union]
structure PO.ok (M:Nat)(o:PO):Prop where
 num:(Lit.int .i64 o.num).wf=true
 name:o.name.length≤M
 alias:o.alias.length≤M
 card:(Lit.int .i64 o.card).wf=true
 key:(Lit.int .i64 o.key).wf=true
 kind:(Lit.int .i64 o.kind).wf=true
 target:(Lit.int .i64 o.target).wf=true
 union:(Lit.int .i64 o.union).wf=true
theorem QeS {M k:Nat}{cs:List AV}(h:Xx Tryz.prog M k 59 cs):∃o:PO,o.ok M∧cs=o.cells:=by
 obtain⟨k,h⟩:=ZZ Tryz.underlying59 h;simp only[Xx.HasL]at h;obtain⟨_,_,rfl,h0,_,_,rfl,h1,_,_,rfl,h2,_,_,rfl,h3,_,_,rfl,h4,_,_,rfl,h5,_,_,rfl,h6,_,_,rfl,h7,rfl⟩:=h;obtain⟨a0,rfl,w0⟩:=Zk Tryz.underlying3 h0;obtain⟨a1,rfl,w1⟩:=KQ Tryz.underlying9 h1;obtain⟨a2,rfl,w2⟩:=KQ Tryz.underlying9 h2;obtain⟨a3,rfl,w3⟩:=Zk Tryz.underlying3 h3;obtain⟨a4,rfl,w4⟩:=Zk Tryz.underlying3 h4;obtain⟨a5,rfl,w5⟩:=Zk Tryz.underlying3 h5;obtain⟨a6,rfl,w6⟩:=Zk Tryz.underlying3 h6;obtain⟨a7,rfl,w7⟩:=Zk Tryz.underlying3 h7;exact⟨⟨a0,a1,a2,a3,a4,a5,a6,a7⟩,⟨w0,w1,w2,w3,w4,w5,w6,w7⟩,rfl⟩
structure PG where
 name:List UInt8
 ops:List PO
 unions:Int
def PG.cells (g:PG):List AV:=[.str g.name,.list (g.ops.map fun o=>.agg o.cells),.int .i64 g.unions]
structure PG.ok (M:Nat)(g:PG):Prop where
 name:g.name.length≤M
 len:g.ops.length≤maxLen
 ops:∀o∈g.ops,o.ok M
 unions:(Lit.int .i64 g.unions).wf=true
theorem EU {M k:Nat}{cs:List AV}(h:Xx Tryz.prog M k 62 cs):∃g:PG,g.ok M∧cs=g.cells:=by
 obtain⟨k,h⟩:=ZZ Tryz.underlying62 h;simp only[Xx.HasL]at h;obtain⟨_,_,rfl,h0,_,_,rfl,h1,_,_,rfl,h2,rfl⟩:=h;obtain⟨a0,rfl,w0⟩:=KQ Tryz.underlying9 h0;obtain⟨k',l,rfl,w1,hl⟩:=Kw Tryz.underlying60 h1;obtain⟨a2,rfl,w2⟩:=Zk Tryz.underlying3 h2;obtain⟨ops,rfl,hok⟩:=Jk (f:=PO.cells) (ok:=PO.ok M) fun c hc=>QeS (hl c hc)
 refine⟨⟨a0,ops,a2⟩,⟨w0,by simpa using w1,hok,w2⟩,?_⟩;simp only[PG.cells,QpO,Qoj,Qok];rfl
structure PS where
 lo:Int
 hi:Int
def PS.cells (x:PS):List AV:=[.int .i64 x.lo,.int .i64 x.hi]
def PS.ok (x:PS):Prop:=(Lit.int .i64 x.lo).wf=true∧(Lit.int .i64 x.hi).wf=true
theorem EV {M k:Nat}{cs:List AV}(h:Xx Tryz.prog M k 103 cs):∃x:PS,x.ok∧cs=x.cells:=by
 obtain⟨k,h⟩:=ZZ Tryz.underlying103 h;simp only[Xx.HasL]at h;obtain⟨_,_,rfl,h0,_,_,rfl,h1,rfl⟩:=h;obtain⟨a0,rfl,w0⟩:=Zk Tryz.underlying3 h0;obtain⟨a1,rfl,w1⟩:=Zk Tryz.underlying3 h1;exact⟨⟨a0,a1⟩,⟨w0,w1⟩,rfl⟩
structure PN where
 name:List UInt8
 val:List AV
def PN.cells (x:PN):List AV:=.str x.name :: x.val
def PN.ok (P:Program)(M:Nat)(t:TypeId)(x:PN):Prop:=x.name.length≤M∧∃k,Xx P M k t x.val
theorem Cq {M k:Nat}{cs:List AV}(h:Xx Tryz.prog M k 105 cs):∃x:PN,x.ok Tryz.prog M 32∧cs=x.cells:=by
 obtain⟨k,h⟩:=ZZ Tryz.underlying105 h;simp only[Xx.HasL]at h;obtain⟨_,_,rfl,h0,a1,_,rfl,h1,rfl⟩:=h;obtain⟨a0,rfl,w0⟩:=KQ Tryz.underlying9 h0;exact⟨⟨a0,a1⟩,⟨w0,k,h1⟩,by simp[PN.cells]⟩
structure PI where
 name:List UInt8
 num:Int
 notes:List PN
def PI.cells (x:PI):List AV:=[.str x.name,.int .i64 x.num,.list (x.notes.map fun n=>Zg n.cells)]
structure PI.ok (M:Nat)(x:PI):Prop where
 name:x.name.length≤M
 num:(Lit.int .i64 x.num).wf=true
 len:x.notes.length≤maxLen
 notes:∀n∈x.notes,n.ok Tryz.prog M 32
theorem EX {M k:Nat}{cs:List AV}(h:Xx Tryz.prog M k 100 cs):∃x:PI,x.ok M∧cs=x.cells:=by
 obtain⟨k,h⟩:=ZZ Tryz.underlying100 h;simp only[Xx.HasL]at h;obtain⟨_,_,rfl,h0,_,_,rfl,h1,_,_,rfl,h2,rfl⟩:=h;obtain⟨a0,rfl,w0⟩:=KQ Tryz.underlying9 h0;obtain⟨a1,rfl,w1⟩:=Zk Tryz.underlying3 h1;obtain⟨k',l,rfl,w2,hl⟩:=Kw Tryz.underlying95 h2;obtain⟨ns,rfl,hok⟩:=Jk (f:=PN.cells) (ok:=PN.ok Tryz.prog M 32) fun c hc=>Cq (hl c hc)
 refine⟨⟨a0,a1,ns⟩,⟨w0,w1,by simpa using w2,hok⟩,?_⟩;simp only[PI.cells,QpO,Qoj,Qok];rfl
structure PE where
 name:List UInt8
 opn:Bool
 items:List PI
 free:List PS
 notes:List PN
def PE.cells (x:PE):List AV:=[.str x.name,.bool x.opn,.list (x.items.map fun n=>.agg n.cells),.list (x.free.map fun n=>.agg n.cells),.list (x.notes.map fun n=>Zg n.cells)]
structure PE.ok (M:Nat)(x:PE):Prop where
 name:x.name.length≤M
 len1:x.items.length≤maxLen
 items:∀n∈x.items,n.ok M
 len2:x.free.length≤maxLen
 free:∀n∈x.free,n.ok
 len3:x.notes.length≤maxLen
 notes:∀n∈x.notes,n.ok Tryz.prog M 32
theorem EY {M k:Nat}{cs:List AV}(h:Xx Tryz.prog M k 97 cs):∃x:PE,x.ok M∧cs=x.cells:=by
 obtain⟨k,h⟩:=ZZ Tryz.underlying97 h;simp only[Xx.HasL]at h;obtain⟨_,_,rfl,h0,_,_,rfl,h1,_,_,rfl,h2,_,_,rfl,h3,_,_,rfl,h4,rfl⟩:=h;obtain⟨a0,rfl,w0⟩:=KQ Tryz.underlying9 h0;obtain⟨a1,rfl⟩:=ET Tryz.underlying4 h1;obtain⟨k2,l2,rfl,w2,hl2⟩:=Kw Tryz.underlying93 h2;obtain⟨k3,l3,rfl,w3,hl3⟩:=Kw Tryz.underlying94 h3;obtain⟨k4,l4,rfl,w4,hl4⟩:=Kw Tryz.underlying95 h4;obtain⟨x2,rfl,o2⟩:=Jk (f:=PI.cells) (ok:=PI.ok M) fun c hc=>EX (hl2 c hc)
 obtain⟨x3,rfl,o3⟩:=Jk (f:=PS.cells) (ok:=PS.ok) fun c hc=>EV (hl3 c hc)
 obtain⟨x4,rfl,o4⟩:=Jk (f:=PN.cells) (ok:=PN.ok Tryz.prog M 32) fun c hc=>Cq (hl4 c hc)
 refine⟨⟨a0,a1,x2,x3,x4⟩,⟨w0,by simpa using w2,o2,by simpa using w3,o3,by simpa using w4,o4⟩,?_⟩;simp only[PE.cells,QpO,Qoj,Qok];rfl
structure PL where
 progs:List PG
 enums:List PE
def PL.av (p:PL):AV:=.agg [.list (p.progs.map fun n=>.agg n.cells),.list (p.enums.map fun n=>.agg n.cells)]
structure PL.ok (M:Nat)(x:PL):Prop where
 len1:x.progs.length≤maxLen
 progs:∀n∈x.progs,n.ok M
 len2:x.enums.length≤maxLen
 enums:∀n∈x.enums,n.ok M
theorem EZ {M k:Nat}{cs:List AV}(h:Xx Tryz.prog M k 25 cs):∃x:PL,x.ok M∧.agg cs=x.av:=by
 obtain⟨k,h⟩:=ZZ Tryz.underlying25 h;simp only[Xx.HasL]at h;obtain⟨_,_,rfl,h0,_,_,rfl,h1,rfl⟩:=h;obtain⟨k2,l2,rfl,w2,hl2⟩:=Kw Tryz.underlying22 h0;obtain⟨k3,l3,rfl,w3,hl3⟩:=Kw Tryz.underlying23 h1;obtain⟨x2,rfl,o2⟩:=Jk (f:=PG.cells) (ok:=PG.ok M) fun c hc=>EU (hl2 c hc)
 obtain⟨x3,rfl,o3⟩:=Jk (f:=PE.cells) (ok:=PE.ok M) fun c hc=>EY (hl3 c hc)
 refine⟨⟨x2,x3⟩,⟨by simpa using w2,o2,by simpa using w3,o3⟩,?_⟩;simp only[PL.av,QpO,Qoj,Qok];rfl
end Go.Proofs.YtgnfjkkfbcnbfaaGreatDoor.Br
namespace Go.Proofs.YtgnfjkkfbcnbfaaGreatDoor.Am
open Go
variable {P:Program}{m:Qj}
def Ag {α:Type}(f:Nat→α)(L:List (Nat×α)):Prop:=L.map (fun p=>f p.1)=L.map Prod.snd
theorem Ag.iff {α:Type}{f:Nat→α}{L:List (Nat×α)}:Ag f L↔∀q∈L,f q.1=q.2:=List.map_inj_left
def XF {α:Type}:List (Nat×α)→(Nat→α)→Nat→α
 | [],f=>f
 |p :: L,f=>QI (XF L f) p.1 p.2
theorem E0 {α:Type}{f:Nat→α}{d:Nat}{x:α}(h:f d=x):QI f d x=f:=by
 funext i;by_cases e:i=d
 ·rw[e,Q4,h]
 ·rw[Q8 _ _ e]
theorem Hb {α:Type}{f:Nat→α}:∀ {L:List (Nat×α)},Ag f L→XF L f=f
 | [],_=>rfl
 |q :: L,h=>by
  rw[Ag.iff]at h;rw[XF,Hb (Ag.iff.2 fun x hx=>h x (Qod _ hx))];exact E0 (h q Qof)
def Ix {X:Type}(L:X→List (Nat×AV))(O:X→List (Nat×Ob))(l:List Nat)(mu:X→Nat)(p:X→Prop)(mm:X→Qj)(n:Nat)(st:St):Prop :=
 ∃x f fr,st=⟨f,fr :: mm x,[]⟩∧n=mu x∧p x∧Ag f (L x)∧Ag fr (O x)∧(l.all fun s=>!(fr s).isRow)=true
theorem Ix.go {X:Type}{L:X→List (Nat×AV)}{O:X→List (Nat×Ob)}{l:List Nat}{mu:X→Nat}{p:X→Prop}{mm:X→Qj}(x:X){n:Nat}{f:Fr}{fr:Nat→Ob}(hn:mu x<n)(hp:p x)(hf:Ag f (L x):=by exact rfl)(ho:Ag fr (O x):=by exact rfl)(hr:(l.all fun s=>!(fr s).isRow)=true:=by exact rfl) :
  ∃k,k<n∧Ix L O l mu p mm k ⟨f,fr :: mm x,[]⟩:=⟨mu x,hn,x,f,fr,rfl,rfl,hp,hf,ho,hr⟩
theorem Hc {X:Type}{a:RC}{Q:Exit→St→Prop}{f:Fr}{fr:Nat→Ob}(L:X→List (Nat×AV))(O:X→List (Nat×Ob))(l:List Nat)(mu:X→Nat)(p:X→Prop)(mm:X→Qj)(x0:X)(hp:p x0)
  (h:∀x f fr,p x→Q2 P a ⟨XF (L x) f,XF (O x++l.map fun s=>(s,.none)) fr :: mm x,[]⟩ (Kl (Ix L O l mu p mm) (mu x) Q))
  (hf:Ag f (L x0):=by exact rfl) (ho:Ag fr (O x0):=by exact rfl) (hr:(l.all fun s=>!(fr s).isRow)=true:=by exact rfl) (hm:m=mm x0:=by exact rfl)
  (hs:∀x,(L x).map (fun q=>D4 l q.2)=(L x).map Prod.snd:=by exact fun _=>rfl) (ht:∀x,(O x).map (fun q=>(l.contains q.1,Dd l q.2))=(O x).map fun q=>(false,q.2):=by exact fun _=>rfl):Q2 P (.loop (Dc l a)) ⟨f,fr :: m,[]⟩ Q:=by
 subst hm;refine Qi (Ix L O l mu p mm) (mu x0) ⟨x0,f,fr,rfl,rfl,hp,hf,ho,hr⟩ ?_;rintro _ _ ⟨x,f1,fr1,rfl,rfl,hp,hf,ho,hr⟩;refine QL l (fun s hs=>by simpa using Qoa.1 hr s hs) ?_;intro f2 fr2 h1 h2 h3;have e1:Ag f2 (L x):=Ag.iff.2 fun q hq=>by
  rw[h1,Ag.iff.1 hf q hq];exact List.map_inj_left.1 (hs x) q hq
 have e2:Ag fr2 (O x++l.map fun s=>(s,.none)):=Ag.iff.2 fun q hq=>by
  rcases Qph.1 hq with hq|hq
  ·have:=List.map_inj_left.1 (ht x) q hq;simp only[Qpt]at this;rw[h2 _ (fun hi=>by rw[List.contains_iff_mem.2 hi]at this;cases this.1),Ag.iff.1 ho q hq];exact this.2
  ·obtain⟨s,hs,rfl⟩:=Qpi.1 hq;exact h3 s hs
 have:=h x f2 fr2 hp;rw[Hb e1,Hb e2]at this;exact this
theorem XS {α:Type}(l:List α)(i:Nat):(∃x,l[i]? = some x∧i<l.length)∨¬i<l.length:=by
 by_cases h:i<l.length
 ·exact .inl ⟨l[i],QnX h,h⟩
 ·exact .inr h
end Go.Proofs.YtgnfjkkfbcnbfaaGreatDoor.Am
namespace Go.Proofs.YtgnfjkkfbcnbfaaGreatDoor.Va
open Go Am Rc Bt Br
def Zo {α:Type}(p:α→Bool):List α→Nat→Int
 | [],_=>-1
 |x :: l,i=>if p x=true then(i:Int)else Zo p l (i+1)
theorem Y9 {α:Type}(p:α→Bool):∀(l:List α) (i:Nat),(Zo p l i = -1∧l.find? p=none)∨∃k o,Zo p l i=((i+k:Nat):Int)∧l[k]? = some o∧l.find? p=some o
 | [],_=>.inl ⟨rfl,rfl⟩
 |x :: l,i=>by
  unfold Zo;rw[QpP];cases h:p x with
  |true=>exact .inr ⟨0,x,by simp,rfl,rfl⟩
  |false=>
   simp only[Qog,if_false];rcases Y9 p l (i+1)with h'|⟨k,o,h1,h2,h3⟩
   ·exact .inl h'
   ·exact .inr ⟨k+1,o,by rw[h1];congr 1;omega,by simpa using h2,h3⟩
theorem D7 {α:Type}(p:α→Bool){l:List α}{i:Nat}{x:α}(hx:l[i]? = some x):Zo p (l.drop i) i=if p x=true then(i:Int)else Zo p (l.drop (i+1)) (i+1):=by
 have hlt:i<l.length:=(QnW.1 hx).1;rw[QoG hlt,show l[i]=x from(QnW.1 hx).2];rfl
def Qv (o:PO):AV:=.agg o.cells
def Qn (g:PG):AV:=.agg g.cells
def XC (x:PI):AV:=.agg x.cells
def QC (x:PE):AV:=.agg x.cells
abbrev ixC (n:Nat)(s:Option Nat):RC:=.seq (.reg [⟨some 4,.val (.mov (.c (.int .i64 0))),none⟩]) (.seq (.seq (.reg [⟨some 6,.val (.mov (.t 0)),none⟩,⟨some 7,.val (.len 1 (.t 6)),none⟩,⟨some 8,.val (.mov (.c (.int .i64 0))),none⟩]) (.block 0 (.loop (.seq (.reg [⟨some 9,.val (.bin .num .lss (.t 8) (.t 7)),none⟩]) (.seq (.cond (.t 9) (.skip) (.exit 0)) (.seq (.block 1 (.seq (.reg [⟨some 10,.val (.mov (.t 8)),none⟩,⟨some 5,.val (.mov (.t 10)),none⟩]) (.seq (.reg [⟨some 11,.val (.mov (.t 1)),none⟩,⟨some 12,.val (.mov (.t 0)),none⟩,⟨some 13,.val (.mov (.t 5)),none⟩,⟨some 14,.val (.iaddr n none (.t 12) (.t 13)),none⟩,⟨some 15,.val (.load s (.t 14)),none⟩,⟨some 16,.callF (.t 11) [(.t 15)],none⟩]) (.cond (.t 16) (.seq (.reg [⟨some 17,.val (.mov (.t 5)),none⟩,⟨some 4,.val (.mov (.t 17)),none⟩]) (.ret)) (.skip))))) (.reg [⟨some 18,.val (.bin .num .add (.t 8) (.c (.int .i64 1))),none⟩,⟨some 8,.val (.mov (.t 18)),none⟩]))))))) (.seq (.reg [⟨some 4,.val (.mov (.c (.int .i64 (-1)))),none⟩]) (.ret)))
theorem Gt {X:Type}{L:List X}(hl:L.length≤maxLen){av:X→AV}{n:Nat}{s:Option Nat}(he:∀x,(av x).cells.length=n∧Am.part (av x).cells 0 s=some (av x)){p:X→Bool}{c:Nat}{cs:List AV}{m:Qj}(hc:∀o∈L,Qe Tryz.prog c (av o :: AV.shL cs) (Qb :: m) fun y m1=>y=.bool (p o)∧m1=Qb :: m) :
  Q2 Tryz.prog (ixC n s) (St.enter [.list (L.map av),.fn (.func c) [] cs] m) (ZY [.tmp 4] m.length fun y m1=>y=.int .i64 (Zo p L 0)∧m1=m):=by
 let I:Nat→St→Prop:=fun j st=>∃f k,st=⟨f,Qb :: m,[]⟩∧j=L.length-k∧Zo p L 0=Zo p (L.drop k) k∧Ag f [(0,.list (L.map av)),(1,.fn (.func c) [] (AV.shL cs)),(7,.int .i64 (L.length:Nat)),(8,.int .i64 (k:Nat))]
 simp only[ixC,QoS,Qa,seval];refine Qi I _ ⟨_,0,rfl,rfl,rfl,rfl⟩ ?_;rintro _ _ ⟨f,k,rfl,rfl,hz,hf⟩;rw[←Hb hf];simp only[XF,Qa,seval];rcases XS L k with⟨x,hx,hlt⟩|hlt
 case inr=>
  rw[QoA (by omega)]at hz;simp only[QH hlt,hz,Zo,Qa,seval]
 have hg:(L.map av)[k]? = some (av x):=by rw[Qpl,hx];rfl
 have e1:=Qs k _ hlt hl;have hcl:=hc x (Qob hx);rw[D7 p hx]at hz;simp only[QA hlt,Qp,Qpq,Qf,hg,he,eE,seval];refine FU (fa:=[]) (fb:=AV.shL cs) rfl hcl rfl ?_;cases hp:p x
 ·rw[hp]at hz;simp only[e1,Qa,seval];exact⟨_,by omega,_,k+1,rfl,rfl,by simpa using hz,rfl⟩
 ·rw[hp]at hz;simp only[if_true]at hz;simp only[hz,Qa,seval]
section ops
variable (L:List PO)(hl:L.length≤maxLen)(p:PO→Bool)(c:Nat)(cap:AV)(m:Qj)
include hl in
theorem Qji (hc:∀o∈L,Qe Tryz.prog c [Qv o,cap.sh] (Qb :: m) fun y m1=>y=.bool (p o)∧m1=Qb :: m) :
  Qe Tryz.prog 212 [.list (L.map Qv),.fn (.func c) [] [cap]] m fun y m1=>y=.int .i64 (Zo p L 0)∧m1=m:=by
 refine wG Tryz.func212 ?_;simp only[eK,Tryz.f212,seval];exact Gt hl (av:=Qv) (n:=8) (s:=some 8) (cs:=[cap]) (fun _=>⟨rfl,rfl⟩) hc
end ops
def DL:PO:=⟨0,[],[],0,0,0,0,0⟩
def Px (p:PO→Bool)(L:List PO):AV:=.tup [Qv ((L.find? p).getD DL),.bool (L.find? p).isSome]
theorem Qjj (g:PG)(hl:g.ops.length≤maxLen)(p:PO→Bool)(c:Nat)(cap:AV)(m:Qj)(hc:∀fr,∀o∈g.ops,Qe Tryz.prog c [Qv o,cap.sh.sh] (Qb :: fr :: m) fun y m1=>y=.bool (p o)∧m1=Qb :: fr :: m) :
  Qe Tryz.prog 163 [.agg [.fn (.func c) [] [cap]],Qn g] m fun y m1=>y=Px p g.ops∧m1=m:=by
 refine wG Tryz.func163 ?_;simp only[eK,Tryz.f163,seval];simp only[Qn,PG.cells,eE,seval];refine Qh (Qji g.ops hl p c cap.sh _ fun o ho=>hc _ o ho) (by simp only[Qov,QoZ,Qa,seval];rfl) ?_;rcases Y9 p g.ops 0 with⟨h1,h2⟩|⟨j,o,h1,h2,h3⟩
 ·simp only[h1,Px,h2,QpB,QoN,DL,Qv,PO.cells,splice,Qo6,Qok,Qoz,QoF,Qpc,Qo1,Qoc,QoT,Qo9,Qpa,AV.leaf,eE,seval]
 ·have hj:(g.ops.map fun o=>AV.agg o.cells)[j]? = some (.agg o.cells):=by simp[h2]
  have d:decide ((j:Int)<0)=false:=QpQ (by omega);rw[Qom]at h1;simp only[PO.cells]at hj;simp only[h1,d,Qp,Qpq,Qf,Qom,hj,Px,h3,Qo8,QpR,Qv,PO.cells,splice,Qo6,Qok,Qoz,QoF,Qpc,Qo1,Qoc,QoT,Qo9,Qpa,AV.leaf,eE,seval]
section
variable (o:PO)(fr frO:Nat→Ob)
theorem Qjk (n:Int)(hf:frO 3=.cells [.int .i64 n]):Qe Tryz.prog 162 [Qv o,.ptr 2 3 0] [Qb,fr,frO] fun y m1=>y=.bool (o.num==n)∧m1=[Qb,fr,frO]:=by
 refine wG Tryz.func162 ?_;simp only[eK,Tryz.f162,seval];simp only[hf,Qv,PO.cells,eE,seval]
end
theorem T5 (g:PG)(hl:g.ops.length≤maxLen)(n:Int):Qg Tryz.prog 73 [Qn g,.int .i64 n] (Px (fun o=>o.num==n) g.ops):=by
 refine wF Tryz.func73 ?_;simp only[eK,Tryz.f73,seval];simp only[Qn,PG.cells,eE,seval];refine Qh (Qjj g hl (fun o=>o.num==n) 162 (.ptr 0 3 0) _ fun fr o _=>Qjk o fr _ n rfl) (by simp only[Qov,QoZ,Qn,PG.cells,Qa,seval]) ?_;simp only[Px,Qv,PO.cells,splice,Qo6,Qok,Qoz,QoF,Qpc,Qo1,Qoc,QoT,Qo9,Qpa,AV.leaf,eE,seval]
def Qr (p:Nat→Bool):Nat→Bool
 |0=>true
 |n+1=>Qr p n&&p n
theorem Q5 {p:Nat→Bool}{n:Nat}:Qr p n=true↔∀i,i<n→p i=true:=by
 induction n with
 |zero=>simp[Qr]
 |succ n ih=>
  simp only[Qr,Qol,ih]
  constructor
  ·rintro⟨h1,h2⟩ i hi;rcases Nat.lt_succ_iff_lt_or_eq.1 hi with h|rfl
   ·exact h1 i h
   ·exact h2
  ·intro h;exact⟨fun i hi=>h i (by omega),h n (by omega)⟩
theorem R7 {p:Nat→Bool}{n i:Nat}(hi:i<n)(h:p i=false):Qr p n=false:=by
 rw[QpS];intro h';rw[Q5.1 h' i hi]at h;cases h
theorem D8 {p q:Nat→Bool}{n:Nat}:Qr (fun i=>p i&&q i) n=(Qr p n&&Qr q n):=by
 induction n with
 |zero=>rfl
 |succ n ih=>
  simp only[Qr,ih];cases Qr p n<;>cases Qr q n<;>cases p n<;>cases q n<;>rfl
def Xf {α:Type}(l:List α)(q:α→Bool)(i:Nat):Bool:=match l[i]? with
 |some x=>q x
 |none=>true
theorem XH {α:Type}{l:List α}{q:α→Bool}{i:Nat}{x:α}(h:l[i]? = some x):Xf l q i=q x:=by
 unfold Xf;rw[h]
theorem HD {α:Type}(l:List α)(q:α→Bool):Qr (Xf l q) l.length=l.all q:=by
 rw[QoR,Q5,Qoa]
 constructor
 ·intro h x hx;obtain⟨i,hi⟩:=Qn9.1 hx;have:=h i (QnW.1 hi).1
  rwa [XH hi]at this
 ·intro h i hi;rw[XH (QnX hi)];exact h _ (QoP _)
def Zp {α:Type}(l:List α)(lt:α→α→Bool)(i:Nat):Bool:=match i with
 |0=>true
 |k+1=>match l[k]?,l[k+1]? with
  |some x,some y=>lt x y
  |_,_=>true
theorem Yv {α:Type}{l:List α}{lt:α→α→Bool}{k:Nat}{x y:α}(h:l[k]? = some x)(h':l[k+1]? = some y):Zp l lt (k+1)=lt x y:=by
 unfold Zp;simp only[h,h']
theorem E1 {α:Type}{l:List α}{lt:α→α→Bool}:Zp l lt 0=true:=rfl
def JB {α:Type}(l:List α)(lt:α→α→Bool):Bool:=Qr (Zp l lt) l.length
def uniq {α:Type}(l:List α)(nm:α→List UInt8)(i:Nat):Bool:=match l[i]? with
 |some x=>(l.take i).all fun y=>!(nm y==nm x)
 |none=>true
theorem De {α:Type}{l:List α}{nm:α→List UInt8}{i:Nat}{x:α}(h:l[i]? = some x):uniq l nm i=(l.take i).all fun y=>!(nm y==nm x):=by
 unfold uniq;rw[h]
def Ua {α:Type}(l:List α)(nm:α→List UInt8):Bool:=Qr (uniq l nm) l.length
theorem HE {α:Type}{l:List α}{q:α→Bool}{i:Nat}{x:α}(h:l[i]? = some x):(l.take (i+1)).all q=((l.take i).all q&&q x):=by
 rw[QpM,h];simp
theorem Cr {α:Type}{l:List α}{q:α→Bool}{i:Nat}{x:α}(h:l[i]? = some x):(l.take (i+1)).any q=((l.take i).any q||q x):=by
 rw[QpM,h];simp
theorem B9 {α:Type}{l:List α}{q:α→Bool}:(l.all fun x=>!q x)=!l.any q:=by
 induction l with
 |nil=>rfl
 |cons x l ih=>simp[ih]
def K3 (c:UInt8):Bool:=(decide (97≤c.toNat)&&decide (c.toNat≤122))||(decide (65≤c.toNat)&&decide (c.toNat≤90))
def Kk (c:UInt8):Bool:=K3 c||c.toNat==95||(decide (48≤c.toNat)&&decide (c.toNat≤57))
def Xo:List UInt8→Bool
 | []=>false
 |c :: t=>decide ((c :: t).length≤40)&&K3 c&&t.all Kk
def HF:List (List UInt8):=[[109,101,115,115,97,103,101],[101,110,117,109],[115,101,114,118,105,99,101],[117,110,105,111,110],[109,97,112],[108,105,115,116],[114,101,113,117,105,114,101,100],[111,112,116,105,111,110,97,108],[112,108,97,105,110],[100,101,102,97,117,108,116],[114,101,115,101,114,118,101,100],
 [105,109,112,111,114,116],[115,112,97,99,101],[114,112,99],[115,116,114,101,97,109],[114,101,116,117,114,110,115],[111,112,101,110],[116,114,117,101],[102,97,108,115,101],[110,97,110],[105,110,102]]
def Z8 (s:List UInt8):Bool:=HF.any fun w=>s==w
def WI (s:List UInt8):Bool:=Xo s && !Z8 s
def Qm:List UInt8→List (List UInt8)
 | []=>[[]]
 |c :: t=>if c=46 then [] :: Qm t else match Qm t with
  | []=>[[c]]
  |p :: ps=>(c :: p) :: ps
def WJ (s:List UInt8):Bool:=decide (s.length≤120)&&(Qm s).all Xo && !(Qm s).any Z8
theorem Ye:∀s:List UInt8,Qm s≠[]
 | []=>by simp[Qm]
 |c :: t=>by
  unfold Qm;split
  ·simp
  ·split<;>simp
theorem NO (a:List UInt8):∀s:List UInt8,(∀c∈a,c≠46)→Qm (a++s)=match Qm s with
  | []=>[a]
  |p :: ps=>(a++p) :: ps:=by
 induction a with
 |nil=>intro s _;cases h:Qm s with
  |nil=>exact absurd h (Ye s)
  |cons p ps=>simp[h]
 |cons c a ih=>
  intro s h;have hc:c≠46:=h c (by simp);rw[Qoj,Qm,Qn4 hc,ih s fun x hx=>h x (by simp[hx])];cases hs:Qm s with
  |nil=>exact absurd hs (Ye s)
  |cons p ps=>rfl
theorem UG {s:List UInt8}(h:∀c∈s,c≠46):Qm s=[s]:=by
 have:=NO s [] h
 simpa [Qm]using this
theorem F7 {a t:List UInt8}(h:∀c∈a,c≠46):Qm (a++46 :: t)=a :: Qm t:=by
 rw[NO a _ h,Qm,Qn5 rfl];simp
theorem F8 {a t:List UInt8}(h:∀c∈t,c≠46):Qm (a++46 :: t)=Qm a++[t]:=by
 induction a with
 |nil=>
  show Qm (46 :: t)=[[]]++[t];rw[show Qm (46 :: t)=[] :: Qm t from by rw[Qm,Qn5 rfl],UG h];rfl
 |cons c a ih=>
  rw[Qoj,Qm,Qm,ih];split
  ·rfl
  ·cases hs:Qm a with
   |nil=>exact absurd hs (Ye a)
   |cons p ps=>rfl
theorem Gu (s:List UInt8):(Qm s).length=s.count 46+1:=by
 induction s with
 |nil=>rfl
 |cons c t ih=>
  unfold Qm;split
  ·rename_i h;subst h;simp[ih]
  ·rename_i h;rw[List.count_cons_of_ne (by simpa using h)];cases hs:Qm t with
   |nil=>exact absurd hs (Ye t)
   |cons p ps=>rw[hs]at ih;simpa using ih
def WK (g:PG):Bool:=decide (g.ops.length≤64)
def Ub (e:PE):Bool:=decide (1≤e.items.length)&&decide (e.items.length≤64)&&decide (e.free.length≤16)
def DM (P:PL):Bool:=decide (P.progs.length≤64)&&decide (P.enums.length≤64)&&P.progs.all WK&&P.enums.all Ub
def Wa (g:PG):Bool:=WJ g.name&&g.ops.all fun o=>WI o.name
def UX (e:PE):Bool:=WJ e.name&&e.items.all fun o=>WI o.name
def F9 (P:PL):Bool:=P.progs.all Wa&&P.enums.all UX
def KY {α:Type}(f:α→Int)(x y:α):Bool:=decide (f x<f y)
def XT {α:Type}(f:α→List UInt8)(x y:α):Bool:=Op.bytesLess (f x) (f y)
def WL (g:PG):Bool:=JB g.ops (KY PO.num)
def UY (e:PE):Bool:=JB e.items (KY PI.num)
def DN (P:PL):Bool:=JB P.progs (XT PG.name)&&JB P.enums (XT PE.name)&&P.progs.all WL&&P.enums.all UY
def Kx (P:PL)(g:PG):Bool:=(P.enums.all fun e=>!(e.name==g.name))&&Ua g.ops PO.name
def HG (e:PE):Bool:=Ua e.items PI.name
def Ct (P:PL):Bool:=P.progs.all (Kx P)&&P.enums.all HG
def Kf (o:PO):Bool:=decide (o.num≥1)&&decide (o.num≤65535)
def NP (x:PS):Bool:=decide (x.lo≥0)&&decide (x.hi≤2147483647)&&decide (x.lo≤x.hi)
def Ba (x y:PS):Bool:=decide (y.lo > x.hi)
def kept (l:List PS)(n:Int):Bool:=l.any fun x=>decide (x.lo≤n)&&decide (n≤x.hi)
def Uc (e:PE)(x:PI):Bool:=decide (x.num≤2147483647) && !kept e.free x.num
def HH (e:PE):Bool:=match e.items with
 | []=>true
 |x :: _=>x.num==0
def Ud (e:PE):Bool:=e.free.all NP&&JB e.free Ba&&HH e&&e.items.all (Uc e)
def Bb (P:PL):Bool:=P.progs.all (fun g=>g.ops.all Kf)&&P.enums.all Ud
end Go.Proofs.YtgnfjkkfbcnbfaaGreatDoor.Va

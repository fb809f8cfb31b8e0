/- Parts of the proof, in order. -/
import Derived.Laws.RangeString
import Derived.Lib.Bytealg
import Derived.Deep.LoopGhost
import Derived.Scope
import Derived.Orders
import Derived.ScopeJumps
import Derived.Defers
import Derived.Below
import Derived.ChangeSame
import Derived.ProofKit
import Derived.OpenShut
import Derived.ChangeArms
import Derived.Test.YtkhpgmeokilhaaaGreatDoorProg
import Derived.WalkKit
import Derived.Lib.SmallJoins
import Derived.Deep.Slices
import Derived.DataShut
import Derived.Test.YtkhpgmeokilhaaaGreatDoorMLensDecodes0

namespace Go.Proofs.YtkhpgmeokilhaaaGreatDoor.Am
open Go

theorem Az {G G':Gh}{m:Qh}{w:World}(h:MR G m w){s g sz o n:Nat}{q:Bool}{xs:List AV}{v:Value}(hlk:Qc m 0 s=.vec g sz xs)(hle:o+n≤xs.length)(hr:Rep G (.vec 0 s g o n q) v)
  (hst:G.sameStab G') (hpub:∀b o v,G.vm 0 s=some b→w.cell? ⟨b,o,none⟩=some v→G'.stab b o=some (.cell v)):Rep G' (.list ((xs.drop o).take n)) v:=by
 obtain⟨e1,e2,e3,e4⟩:=h.vec 0 s g sz xs hlk;have hmem:∀x∈(xs.drop o).take n,x∈xs:=fun x hx=>Qni (Qnj hx)
 cases hr with
 |vec hone hg hh'=>
  rcases hh' e1.symm with⟨hvm,rfl,rfl,A0,rfl,hA0⟩|⟨b,A,c,hvm,hok,rfl,hkc,hcm,hq,hA⟩
  ·simp only[QnF];exact .list (sz:=0) (cs:=[]) .nil (by simp) rfl rfl (by simp) rfl (Qms _) (QmE _)
  ·rcases e4 with⟨e,_⟩|⟨b',e,hrow⟩
   ·rw[hvm]at e;cases e
   ·rw[hvm]at e;cases e;obtain⟨cur,hsoft,hcs,hrep⟩:=hrow.cur;have hr:=(RepL.rfd hst e3.rf hrep).takeDrop (o*sz) (n*sz);rw[ZZ e3.size,Jm (fun x hx=>e3.size x (Qni hx))]at hr;refine .list (sz:=sz) hr (fun x hx=>e3.size x (hmem x hx)) (ZX e3.rf (Z7 hmem)) (XZ e3.leaf (Z7 hmem)) (fun j u hu=>?_) (by simp;omega) hkc (by omega);rw[Qna]at hu;split at hu
    ·rename_i hj;rw[Qnb,Qna]at hu;split at hu
     ·have hk:0<n:=by
       rcases Qnk n with h0|h0
       ·subst h0;simp at hj
       ·exact h0
      have hovc:o<G.vc 0 s:=Nat.lt_of_lt_of_le (Nat.lt_add_of_pos_right hk) hok;have hA':=hA ⟨.inl hovc,.inr hk⟩;rw[e2]at hA';refine⟨b,o*sz,by rw[hA'],hpub b (o*sz+j) u hvm ?_⟩;rw[hsoft.cell]
      simpa using hu
     ·cases hu
    ·cases hu

theorem Rel.pub0 {G:Gh}{B N:Nat}{st:St}{a:Act}{w:World}(h:Rel G B N st a w){site g sz:Nat}{xs:List AV}(hlk:Qc st.m 0 site=.vec g sz xs) :
  ∃G',Rel G' B N { st with m:=Am.put st.m 0 site (.vec (g+1) sz []) } a w∧Ext 1 G w G' w∧(∀o n q v,o+n≤xs.length→Rep G (.vec 0 site g o n q) v→Rep G' (.list ((xs.drop o).take n)) v)∧G'.nm=G.nm:=by
 have hl:0<st.m.length:=QnR.2 h.ne;have hro:Qn (Qc st.m 0 site)=true:=by rw[hlk];rfl
 have hvg:=(h.mr.vec 0 site g sz xs hlk).1;obtain⟨h1,h2⟩:=h.vecput (w':=w) (sz:=sz) (cap:=0) (b:=none) (g:=g+1) (ys:=[]) hl hro (by omega) rfl rfl rfl (Qms _) (fun _ _ _=>rfl) (fun k e=>by cases e) ⟨by simp,rfl,rfl⟩ (.inl ⟨rfl,rfl⟩);generalize hG1:G.row 0 site none 0 (g+1) sz=G1 at h1 h2;have hst1:G1.stab=G.stab:=by rw[←hG1];rfl
 have hnm1:G1.nm=G.nm:=by rw[←hG1];rfl
 have hvm1:∀l s,G1.vm l s=if l=0∧s=site then none else G.vm l s:=by rw[←hG1];exact fun _ _=>rfl
 have hle1:Gle G1 (G1.pub w fun b=>G.vm 0 site=some b):=Gh.pub_gle h1.mr.stab;have nS:∀l s b,G1.nm l s=some b→¬G.vm 0 site=some b:=fun l s b e=>by rw[hnm1]at e;exact h.mr.inj3 _ _ _ _ _ e
 have vS:∀l s b,G1.vm l s=some b→¬G.vm 0 site=some b:=fun l s b e e'=>by
  rw[hvm1]at e;split at e
  ·cases e
  ·rename_i hh;exact hh (h.mr.inj2 _ _ _ _ _ e e')
 refine⟨G1.pub w fun b=>G.vm 0 site=some b,⟨⟨?_,?_,?_,?_,?_,h1.mr.gone,h1.mr.inj1,h1.mr.inj2,h1.mr.inj3,h1.mr.iter⟩,h.size,?_,h1.ds.mono hle1,h1.base,h1.top,h1.ne⟩,?_,?_,hnm1⟩
 ·intro b o v e;by_cases hS:G.vm 0 site=some b∧∀o,Jb b o=none
  ·rw[Gh.pub_c hS]at e;exact NW e
  ·rw[Gh.pub_n hS]at e;exact h1.mr.stab b o v e
 ·intro l s zs e;obtain⟨b,cs,e',hc,hr⟩:=h1.mr.cells l s zs e;exact⟨b,cs,e',hc,hr.mono (hle1.dn l)⟩
 ·intro l s b e;obtain⟨g1,g2⟩:=h1.mr.nm l s b e;exact⟨g1,fun o=>by rw[Gh.pub_out (nS l s b e)];exact g2 o⟩
 ·intro l s g' z zs e;obtain⟨a1,a2,a3,a4⟩:=h1.mr.vec l s g' z zs e;exact⟨a1,a2,a3,a4.imp id fun⟨b,e',r⟩=>⟨b,e',r.of rfl fun vs hv=>RepL.rfd hle1.stab a3.rf hv⟩⟩
 ·intro l s b e;obtain⟨g1,g2⟩:=h1.mr.vm l s b e;exact⟨g1,fun o=>by rw[Gh.pub_out (vS l s b e)];exact g2 o⟩
 ·exact fun i=>(h1.slots i).mono hle1
 ·refine⟨rfl,rfl,rfl,Qms _,fun b o v e=>hle1.stab b o v (by rw[hst1];exact e),fun l s _=>by show G1.nm l s=_;rw[hnm1],h2.vg,h2.vs,fun b hb hm=>⟨rfl,fun o=>?_⟩,h2.mine,h2.mv⟩;rw[Gh.pub_out (fun e=>hm (.inr ⟨0,site,e⟩)),hst1]
 ·intro o n q v hle hr;refine Az h.mr hlk hle hr (fun b o v e=>?_) (fun b o v e hv=>?_)
  ·exact hle1.stab b o v (by rw[hst1];exact e)
  ·rw[Gh.pub_in e (Gh.notab (h.mr.vm 0 site b e).2)];exact Gz hv

theorem Rel.publish {G:Gh}{B N:Nat}{st:St}{a:Act}{w:World}(h:Rel G B N st a w){slot site g sz o n:Nat}{q:Bool}{xs:List AV}(hs:st.f slot=.vec 0 site g o n q)(hlk:Qc st.m 0 site=.vec g sz xs)(hle:o+n≤xs.length) :
  ∃G',Rel G' B N { st with m:=Am.put st.m 0 site (.vec (g+1) sz []),f:=QG st.f slot (.list ((xs.drop o).take n)) } a w∧Ext 1 G w G' w:=by
 obtain⟨G',h1,h2,h3,h4⟩:=h.pub0 hlk;refine⟨G',⟨h1.mr,h1.size,fun i=>?_,h1.ds,h1.base,h1.top,h1.ne⟩,h2⟩;by_cases hi:i=slot
 ·subst hi;show Rep _ (QG st.f i _ i) _;rw[QU];have hr:=h.slots i;rw[hs]at hr;exact h3 _ _ _ _ hle hr
 ·show Rep _ (QG st.f slot _ i) _;rw[QX _ _ hi];exact h1.slots i

theorem Rel.give {G:Gh}{B N:Nat}{st:St}{a:Act}{w:World}(h:Rel G B N st a w){slot site g sz o n l S:Nat}{q:Bool}{xs:List AV}(hs:st.f slot=.vec 0 site g o n q)(hlk:Qc st.m 0 site=.vec g sz xs)(hl:l<st.m.length)(hl0:l≠0)(hro:Qn (Qc st.m l S)=true)(hS:S<2000) :
  ∃G',Rel G' B N { st with m:=Am.put (Am.put st.m 0 site (.vec (g+1) sz [])) l S (.vec (Qy st.m l S) sz xs),f:=QG st.f slot (.vec l S (Qy st.m l S) o n q) } a w∧Ext 1 G w G' w:=by
 have hlp:0<st.m.length:=QnR.2 h.ne;have hro0:Qn (Qc st.m 0 site)=true:=by rw[hlk];rfl
 obtain⟨e1,e2,e3,e4⟩:=h.mr.vec 0 site g sz xs hlk;obtain⟨h1,h2⟩:=h.vecput (w':=w) (sz:=sz) (cap:=0) (b:=none) (g:=g+1) (ys:=[]) hlp hro0 (by omega) rfl rfl rfl (Qms _) (fun _ _ _=>rfl) (fun k e=>by cases e) ⟨by simp,rfl,rfl⟩ (.inl ⟨rfl,rfl⟩);have hlen:(Am.put st.m 0 site (.vec (g+1) sz [])).length=st.m.length:=by
  cases st.m<;>rfl
 have hlk1:Qc (Am.put st.m 0 site (.vec (g+1) sz [])) l S=Qc st.m l S:=QA (.inl hl0);have hng:Qy (Am.put st.m 0 site (.vec (g+1) sz [])) l S=Qy st.m l S:=by unfold Qy;rw[hlk1]
 have hgl:(G.row 0 site none 0 (g+1) sz).vg l S<Qy st.m l S:=by
  rw[←hng];exact Jn h1.mr (by rw[hlk1];exact hro)
 have hvm1:∀i t,(G.row 0 site none 0 (g+1) sz).vm i t=if i=0∧t=site then none else G.vm i t:=fun _ _=>rfl
 have hfree:∀k,G.vm 0 site=some k→¬(G.row 0 site none 0 (g+1) sz).mine k∧∀o,(G.row 0 site none 0 (g+1) sz).stab k o=none:=by
  intro k e;refine⟨?_,(h.mr.vm 0 site k e).2⟩;rintro(⟨i,t,e'⟩|⟨i,t,e'⟩)
  ·exact h.mr.inj3 _ _ _ _ _ e' e
  ·rw[hvm1]at e';split at e'
   ·cases e'
   ·rename_i hh;exact hh (h.mr.inj2 _ _ _ _ _ e' e)
 have hrow:(G.vm 0 site=none∧xs=[])∨∃k,G.vm 0 site=some k∧RowIs (G.row 0 site none 0 (g+1) sz) S w k (G.vc 0 site) sz xs:=by
  rcases e4 with e|⟨b,e,hr⟩
  ·exact .inl e
  ·refine .inr ⟨b,e,⟨?_,hr.le,hr.max⟩⟩;obtain⟨cs,⟨t,lo,hi,hh,_,hb⟩,hsz,hrep⟩:=hr.cur;exact⟨cs,⟨t,lo,hi,hh,by simp[XY,hS],hb⟩,hsz,RepL.rfd (G:=G) (G':=G.row 0 site none 0 (g+1) sz) (fun _ _ _ h=>h) e3.rf hrep⟩
 have hmr:=h1.mr.vecput' (l:=l) (s:=S) (g:=Qy st.m l S) (sz:=sz) (cap:=G.vc 0 site) (b:=G.vm 0 site) (ys:=xs) (w':=w) (by rw[hlen];exact hl) (by rw[hlk1];exact hro) hgl (fun _ _ _=>rfl) (fun k e=>.inr (hfree k e)) e3 hrow;have hgle:=Gh.row_gle (G:=G.row 0 site none 0 (g+1) sz) (l:=l) (s:=S) (cap:=G.vc 0 site) (sz:=sz) (b:=G.vm 0 site) hgl;have hnm2:((G.row 0 site none 0 (g+1) sz).row l S (G.vm 0 site) (G.vc 0 site) (Qy st.m l S) sz).nm=G.nm:=rfl;have hvm2:∀i t,((G.row 0 site none 0 (g+1) sz).row l S (G.vm 0 site) (G.vc 0 site) (Qy st.m l S) sz).vm i t=if i=l∧t=S then G.vm 0 site else if i=0∧t=site then none else G.vm i t:=fun _ _=>rfl
 have hvc2:((G.row 0 site none 0 (g+1) sz).row l S (G.vm 0 site) (G.vc 0 site) (Qy st.m l S) sz).vc l S=G.vc 0 site:=by simp[Gh.row]
 have hvz2:((G.row 0 site none 0 (g+1) sz).row l S (G.vm 0 site) (G.vc 0 site) (Qy st.m l S) sz).vz l S=sz:=by simp[Gh.row]
 have hvg2:((G.row 0 site none 0 (g+1) sz).row l S (G.vm 0 site) (G.vc 0 site) (Qy st.m l S) sz).vg l S=Qy st.m l S:=by simp[Gh.row]
 refine⟨(G.row 0 site none 0 (g+1) sz).row l S (G.vm 0 site) (G.vc 0 site) (Qy st.m l S) sz,⟨hmr,h1.size,fun i=>?_,h1.ds.mono hgle,fun s' b' e=>?_,h1.top,Ko h1.ne⟩,⟨rfl,rfl,rfl,Qms _,h2.stab,fun _ _ _=>rfl,fun i t=>Qmt (h2.vg i t) (hgle.vg i t),?_,h2.old,fun b e=>?_,fun i t b e=>?_⟩⟩
 ·by_cases hi:i=slot
  ·subst hi;show Rep _ (QG st.f i _ i) _;rw[QU];have hr:=h.slots i;rw[hs]at hr;generalize a.tmps.getD i undef=v at hr;cases hr with
   |vec hone hg hh=>
    refine .vec hone (by rw[hvg2];exact Qms _) fun _=>?_
    rcases hh e1.symm with⟨hvm,ho,hn,A,hv,_⟩|⟨b,A,c,hvm,hok,hv,hkc,hcm,hq,hA⟩
    ·exact .inl ⟨by rw[hvm2,QmD ⟨rfl,rfl⟩];exact hvm,ho,hn,A,hv,fun h=>by omega⟩
    ·refine .inr ⟨b,A,c,by rw[hvm2,QmD ⟨rfl,rfl⟩];exact hvm,by rw[hvc2];exact hok,hv,hkc,hcm,by rw[hvc2];exact hq,?_⟩;rw[hvc2,hvz2,←e2];exact hA
  ·show Rep _ (QG st.f slot _ i) _;rw[QX _ _ hi];exact(h1.slots i).mono hgle
 ·rw[hnm2,hvm2]at e;rw[QmC (by omega)]at e;exact h1.base s' b' (by rw[hvm1];exact e)
 ·intro i t e;have hb1:=h2.vg i t;have hb2:=hgle.vg i t;obtain⟨a1,a2,a3⟩:=h2.vs i t (by omega);obtain⟨b1,b2,b3⟩:=hgle.vs i t (by omega);exact⟨b1.trans a1,b2.trans a2,b3.trans a3⟩
 ·refine .inl ?_;rcases e with⟨i,t,e⟩|⟨i,t,e⟩
  ·exact .inl ⟨i,t,e⟩
  ·rw[hvm2]at e;split at e
   ·exact .inr ⟨0,site,e⟩
   ·split at e
    ·cases e
    ·exact .inr ⟨i,t,e⟩
 ·refine .inl ?_;rw[hvm2]at e;split at e
  ·exact⟨0,site,QmE _,e⟩
  ·split at e
   ·cases e
   ·exact⟨i,t,Qms _,e⟩

def XK (t:List UInt8)(p:Nat):Nat×Nat:=Utf8.decode ⟨⟨t⟩⟩ p

theorem MR.moved {G:Gh}{m:Qh}{w w':World}(h:MR G m w){l s b q:Nat}{p:Nat}{t u:IT}(hx:Qc m l s=.iter t p)(hb:G.nm l s=some b)(ht:Turned b w w')(hs:w'.heap[b]? = some (u.obj q)) :
  MR G (Am.put m l s (.iter u q)) w' where
 stab k o v e:=by
  have hk:k≠b:=by rintro rfl;rw[(h.nm l s k hb).2 o]at e;cases e
  exact JO (ht.heap k hk) (h.stab k o v e)
 cells l' s' zs e:=by
  by_cases hh:l'=l∧s'=s
  ·obtain⟨rfl,rfl⟩:=hh;rw[Qo (Q8 (by rw[hx];simp))]at e;cases e
  ·rw[QA (by omega)]at e;obtain⟨b',cs',e',hc,hr⟩:=h.cells l' s' zs e;exact⟨b',cs',e',hc.of (ht.heap b' (fun eb=>hh (by subst eb;exact h.inj1 _ _ _ _ _ e' hb))),hr⟩
 nm l' s' b' e:=by
  obtain⟨hz,h2⟩:=h.nm l' s' b' e;refine⟨?_,h2⟩;by_cases hh:l'=l∧s'=s
  ·obtain⟨rfl,rfl⟩:=hh;rw[Qo (Q8 (by rw[hx];simp))];rfl
  ·rw[QA (by omega)];exact hz
 vec l' s' g sz zs e:=by
  by_cases hh:l'=l∧s'=s
  ·obtain⟨rfl,rfl⟩:=hh;rw[Qo (Q8 (by rw[hx];simp))]at e;cases e
  ·rw[QA (by omega)]at e;obtain⟨a1,a2,a3,a4⟩:=h.vec l' s' g sz zs e;refine⟨a1,a2,a3,a4.imp id fun⟨b',e',r⟩=>⟨b',e',r.of (ht.heap b' ?_) fun _ h=>h⟩⟩;rintro rfl;exact h.inj3 _ _ _ _ _ hb e'
 vm l' s' b' e:=by
  obtain⟨⟨g,sz,zs,hz⟩,h2⟩:=h.vm l' s' b' e;refine⟨?_,h2⟩;by_cases hh:l'=l∧s'=s
  ·obtain⟨rfl,rfl⟩:=hh;rw[hx]at hz;cases hz
  ·exact⟨g,sz,zs,by rw[QA (by omega)];exact hz⟩
 gone l' s' e:=by
  by_cases hh:l'=l∧s'=s
  ·obtain⟨rfl,rfl⟩:=hh;exact h.gone l' s' (by rw[hx];rfl)
  ·rw[QA (by omega)]at e;exact h.gone l' s' e
 inj1:=h.inj1
 inj2:=h.inj2
 inj3:=h.inj3
 iter l' s' t' p' e:=by
  by_cases hh:l'=l∧s'=s
  ·obtain⟨rfl,rfl⟩:=hh;rw[Qo (Q8 (by rw[hx];simp))]at e;cases e;exact⟨b,hb,hs⟩
  ·rw[QA (by omega)]at e;obtain⟨b',e',hc⟩:=h.iter l' s' t' p' e;exact⟨b',e',(ht.heap b' (fun eb=>hh (by subst eb;exact h.inj1 _ _ _ _ _ e' hb))).trans hc⟩

theorem NS {P:Program}{w:World}{b p:Nat}{s:ByteArray}(hh:w.heap[b]? = some (.stringIter s p))(h:p<s.size)(ty:TypeId) :
  (Instr.next (.pointer (some ⟨b,0,none⟩)) true ty).run P w=.ok (.tuple #[.bool true,.int .i64 p,.int .i32 (Utf8.decode s p).1]) { w with heap:=w.heap.setIfInBounds b (.stringIter s (p+(Utf8.decode s p).2)) }:=by
 simp only[Instr.next,getObj,setObj,Sem.run_bind,Sem.run,hh,Result.andThen,h,if_true];simp[goInt]
theorem NT {P:Program}{w:World}{b p:Nat}{s:ByteArray}(hh:w.heap[b]? = some (.stringIter s p))(h:¬p<s.size)(ty:TypeId) :
  (Instr.next (.pointer (some ⟨b,0,none⟩)) true ty).run P w=.ok (.tuple #[.bool false]) w:=by
 simp[Instr.next,getObj,Sem.run,hh,h]

section
variable {P:Program}{N:Nat}{st:St}{Q:St→Prop}

theorem Qu.rngs {d:Option Nat}{s:Nat}{r:RA}{its:List Item}{t:List UInt8}(ht:r.ev st.f=.str t)(hn:X0 st.m s=true)(h:Qu P N its { st with m:=Am.put st.m 0 s (.iter (.str t) 0),f:=Qj st.f d (.ptr 0 s 0) } Q) :
  Qu P N (⟨d,.rngs s r,none⟩ :: its) st Q:=by
 refine Qu.step rfl fun G B a w o hr hd hdN hc K QQ hK=>?_
 cases ho:o.op<;>rw[ho]at hc<;>simp only[XJ,QmO,QmT]at hc;rename_i ty x;have hx:=Qs hr hc.2;rw[ht]at hx;have hv:a.eval x=.string ⟨⟨t⟩⟩:=by
  generalize a.eval x=v at hx;cases hx;rfl
 obtain⟨hr',he⟩:=hr.freshO s hn (ob:=.iter (.str t) 0) (x:=.stringIter ⟨⟨t⟩⟩ 0) rfl (fun _ e=>by cases e) (fun _ _ e=>by cases e;rfl);have hrun:(execOp a.eval o).run P w=.ok (.value (.pointer (some ⟨w.heap.size,0,none⟩))) (w.alloc (.stringIter ⟨⟨t⟩⟩ 0)):=by
  simp only[execOp,ho,hv,Sem.run_bind,run_range_string w ty _ (KA hc.1),Result.andThen_ok,Sem.run_pure];rfl
 unfold Oper.wp;rw[hrun];have hd':o.dst=d:=hd;show K (a.put o.dst _) _;rw[hd'];refine hK _ _ _ _ h (hr'.put hdN (.ptr ?_)) he;show(if (0:Nat)=0∧s=s then some w.heap.size else G.nm 0 s)=some w.heap.size;simp

theorem Qu.nxts {d:Option Nat}{r:RA}{its:List Item}{l s p:Nat}{t:List UInt8}(hp:r.ev st.f=.ptr l s 0)(hl:Qc st.m l s=.iter (.str t) p)
  (h1:p<t.length→Qu P N its { st with m:=Am.put st.m l s (.iter (.str t) (p+(XK t p).2)),f:=Qj st.f d (.tup [.bool true,.int .i64 (p:Nat),.int .i32 ((XK t p).1:Nat)]) } Q)
  (h2:t.length≤p→Qu P N its { st with f:=Qj st.f d (.tup [.bool false]) } Q) :
  Qu P N (⟨d,.nxts r,none⟩ :: its) st Q:=by
 refine Qu.step rfl fun G B a w o hr hd hdN hc K QQ hK=>?_
 cases ho:o.op<;>rw[ho]at hc<;>simp only[XJ,QmO]at hc;rename_i x str;cases str with
 |false=>cases hc
 |true=>
 have hx:=Qs hr hc;rw[hp]at hx;obtain⟨b,hb,hh⟩:=hr.mr.iter l s (.str t) p hl;have hv:a.eval x=.pointer (some ⟨b,0,none⟩):=by
  generalize a.eval x=v at hx;cases hx;rename_i b' hb';rw[hb]at hb';cases hb';rfl
 have hd':o.dst=d:=hd;unfold Oper.wp;by_cases hlt:p<t.length
 ·have hrun:(execOp a.eval o).run P w=.ok (.value (.tuple #[.bool true,.int .i64 p,.int .i32 (XK t p).1])) { w with heap:=w.heap.setIfInBounds b (.stringIter ⟨⟨t⟩⟩ (p+(XK t p).2)) }:=by
   simp only[execOp,ho,hv,Sem.run_bind,NS hh (show p<ByteArray.size ⟨⟨t⟩⟩from hlt),Result.andThen_ok,Sem.run_pure];rfl
  rw[hrun];show K (a.put o.dst _) _;rw[hd'];have hlen:b<w.heap.size:=(QmB.1 hh).1;have htn:Turned b w { w with heap:=w.heap.setIfInBounds b (.stringIter ⟨⟨t⟩⟩ (p+(XK t p).2)) } :=
   ⟨rfl,rfl,rfl,by simp,fun k hk=>by
    show(w.heap.setIfInBounds b _)[k]? = _;rw[Array.getElem?_setIfInBounds_ne (fun e=>hk e.symm)]⟩
  have hnew:(w.heap.setIfInBounds b (.stringIter ⟨⟨t⟩⟩ (p+(XK t p).2)))[b]? = some (.stringIter ⟨⟨t⟩⟩ (p+(XK t p).2)):=by
   rw[QmG,QmD hlen]
  have hm:=hr.mr.moved (u:=.str t) hl hb htn hnew;have hr':Rel G B N { st with m:=Am.put st.m l s (.iter (.str t) (p+(XK t p).2)) } a { w with heap:=w.heap.setIfInBounds b (.stringIter ⟨⟨t⟩⟩ (p+(XK t p).2)) } :=
   ⟨hm,hr.size,hr.slots,hr.ds,hr.base,by rw[htn.size];exact hr.top,Ko hr.ne⟩
  exact hK _ _ _ _ (h1 hlt) (hr'.put hdN (.tup (.cons (.bool _) (.cons (.int _ _) (.cons (.int _ _) .nil))))) (Ext.turned htn (.inl ⟨l,s,hb⟩))
 ·have hrun:(execOp a.eval o).run P w=.ok (.value (.tuple #[.bool false])) w:=by
   simp only[execOp,ho,hv,Sem.run_bind,NT hh (show ¬p<ByteArray.size ⟨⟨t⟩⟩from hlt),Result.andThen_ok,Sem.run_pure]
  rw[hrun];show K (a.put o.dst _) _;rw[hd'];exact hK _ _ _ _ (h2 (by omega)) (hr.put hdN (.tup (.cons (.bool _) .nil))) (Ext.refl 1 G w)

def Ff (cnt:Bool)(t:List UInt8)(b:Int):Int:=if cnt then(Lib.countByte t b.toNat.toUInt8:Nat)else Lib.indexByte t b.toNat.toUInt8

theorem LU {fn:Func} (h1:fn.name = "internal/bytealg.CountString") (h2:fn.origin = ""):Extern.findNext fn=none∧Extern.find fn=some Extern.BytealgCount.count := by
 unfold Extern.findNext Extern.find;rw[h1,h2];exact⟨by kernel_rfl,by kernel_rfl⟩
theorem LV {fn:Func} (h1:fn.name = "internal/bytealg.IndexByteString") (h2:fn.origin = ""):Extern.findNext fn=none∧Extern.find fn=some Extern.BytealgIndexByte.indexByte := by
 unfold Extern.findNext Extern.find;rw[h1,h2];exact⟨by kernel_rfl,by kernel_rfl⟩

theorem Qu.xb {d:Option Nat}{cnt:Bool}{k:Nat}{s c:RA}{its:List Item}{t:List UInt8}{b:Int}(hs:s.ev st.f=.str t)(hb:c.ev st.f=.int .u8 b)(h:Qu P N its { st with f:=Qj st.f d (.int .i64 (Ff cnt t b)) } Q) :
  Qu P N (⟨d,.xb cnt k s c,none⟩ :: its) st Q:=by
 refine Qu.step rfl fun G B a w o hr hd hdN hc K QQ hK=>?_
 cases ho:o.op<;>rw[ho]at hc<;>simp only[XJ,QmO]at hc;rename_i cl;split at hc
 case h_2=>cases hc
 rename_i o1 k' x y ts o2;cases o2;simp only[QmT,QmA]at hc;obtain⟨⟨⟨hk,hf⟩,hx⟩,hy⟩:=hc;subst hk;cases hfn:P.funcs[k]? with
 |none=>rw[hfn]at hf;cases hf
 |some fn=>
 rw[hfn]at hf;simp only[QmT,QmA]at hf;obtain⟨⟨hname,hor⟩,hbody⟩:=hf;have rs:=Qs hr hx;have rc:=Qs hr hy;rw[hs]at rs;rw[hb]at rc;have ev:a.eval x=.string ⟨⟨t⟩⟩:=by
  generalize a.eval x=v at rs;cases rs;rfl
 have ec:a.eval y=.int .u8 b:=by
  generalize a.eval y=v at rc;cases rc;rfl
 have hrun:(execOp a.eval o).run P w=.ok (.value (.int .i64 (Ff cnt t b))) w:=by
  cases cnt with
  |true=>
   have hname:fn.name = "internal/bytealg.CountString" := hname
   obtain⟨e1,e2⟩:=LU hname hor;have hcf:=run_callFunc_extern (P:=P) hfn (by rw[hname];decide) hbody e1 e2 #[.string ⟨⟨t⟩⟩,.int .u8 b] w;rw[Lib.run_countString]at hcf;simp only[execOp,ho,resolve,Act.eval,Deferred.ofValue,Sem.run_bind,Sem.run_pure,Result.andThen_ok,invoke];simp[ev,ec,hcf,Ff,Result.andThen]
  |false=>
   have hname:fn.name = "internal/bytealg.IndexByteString" := hname
   obtain⟨e1,e2⟩:=LV hname hor;have hcf:=run_callFunc_extern (P:=P) hfn (by rw[hname];decide) hbody e1 e2 #[.string ⟨⟨t⟩⟩,.int .u8 b] w;rw[Lib.run_indexByteString]at hcf;simp only[execOp,ho,resolve,Act.eval,Deferred.ofValue,Sem.run_bind,Sem.run_pure,Result.andThen_ok,invoke];simp[ev,ec,hcf,Ff,Result.andThen]
 unfold Oper.wp;rw[hrun];have hd':o.dst=d:=hd;show K (a.put o.dst _) _;rw[hd'];exact hK _ _ _ _ h (hr.put hdN (.int _ _)) (Ext.refl 1 G w)

theorem Qu.mkm {d:Option Nat}{s:Nat}{its:List Item}(hn:X0 st.m s=true)(h:Qu P N its { st with m:=Am.put st.m 0 s (.iter (.mp [] []) 0),f:=Qj st.f d (.mptr 0 s) } Q) :
  Qu P N (⟨d,.mkm s,none⟩ :: its) st Q:=by
 refine Qu.step rfl fun G B a w o hr hd hdN hc K QQ hK=>?_
 cases ho:o.op<;>rw[ho]at hc<;>simp only[XJ,QmO]at hc;rename_i ty hint;cases hint with
 |some _=>cases hc
 |none=>
 obtain⟨hr',he⟩:=hr.freshO s hn (ob:=.iter (.mp [] []) 0) (x:=.map #[] 0) rfl (fun _ e=>by cases e) (fun _ _ e=>by cases e;rfl);have hrun:(execOp a.eval o).run P w=.ok (.value (.map (some w.heap.size))) (w.alloc (.map #[] 0)):=by
  simp only[execOp,ho,Sem.run_bind,Option.map_none,show(Instr.makeMap ty none).run P w=.ok (.map (some w.heap.size)) (w.alloc (.map #[] 0))from rfl,Result.andThen_ok,Sem.run_pure]
 unfold Oper.wp;rw[hrun];have hd':o.dst=d:=hd;show K (a.put o.dst _) _;rw[hd'];refine hK _ _ _ _ h (hr'.put hdN (.mptr ?_)) he;show(if (0:Nat)=0∧s=s then some w.heap.size else G.nm 0 s)=some w.heap.size;simp

theorem Qu.mput {d:Option Nat}{tx:Bool}{x i v:RA}{its:List Item}{l s p:Nat}{ks:List MK}{vs:List AV}{k:MK}(hx:x.ev st.f=.mptr l s)(hl:Qc st.m l s=.iter (.mp ks vs) p)(hi:KZ tx (i.ev st.f)=some k)(hks:keys tx ks=true)(hg:(v.ev st.f).gr=true)(_hgs:AV.grL vs=true)(hlen:ks.length=vs.length)
  (h:Qu P N its { st with m:=Am.put st.m l s (.iter (.mp (Am.Zc k (v.ev st.f) ks vs).1 (Am.Zc k (v.ev st.f) ks vs).2) p),f:=Qj st.f d (.tup []) } Q) :
  Qu P N (⟨d,.mput tx x i v,none⟩ :: its) st Q:=by
 refine Qu.step rfl fun G B a w o hr hd hdN hc K QQ hK=>?_
 obtain⟨ty,ox,oi,ov,hc,hex⟩:∃ty ox oi ov,((((match P.underlying ty with|some (.map kt _)=>N3 P tx kt|_=>false)&&QH ox x)&&QH oi i)&&QH ov v)=true∧
   ∀w',(Instr.mapUpdate ty (a.eval ox) (a.eval oi) (a.eval ov)).run P w=.ok () w'→(execOp a.eval o).run P w=.ok .skip w':=by
  cases ho:o.op<;>rw[ho]at hc<;>simp only[XJ,QmO]at hc
  ·exact⟨_,_,_,_,hc,fun w' h=>by simp only[execOp,ho,Sem.run_bind,h,Result.andThen_ok,Sem.run_pure]⟩
  ·exact⟨_,_,_,_,hc,fun w' h=>by simp only[execOp,ho,Sem.run_bind,h,Result.andThen_ok,Sem.run_pure]⟩
 simp only[QmT]at hc;obtain⟨⟨⟨hty,h1⟩,h2⟩,h3⟩:=hc;split at hty
 case h_2=>cases hty
 rename_i kt et hu;have r1:=Qs hr h1;have r2:=Qs hr h2;have r3:=Qs hr h3;rw[hx]at r1;obtain⟨hkt,ei⟩:=Dr hi r2;obtain⟨b,hb,hh⟩:=hr.mr.iter l s (.mp ks vs) p hl;have ex:a.eval ox=.map (some b):=by
  generalize a.eval ox=u at r1;cases r1;rename_i b' hb';rw[hb]at hb';cases hb';rfl
 have ev:a.eval ov=(v.ev st.f).gv:=E4 hg r3;have hrun:(execOp a.eval o).run P w=.ok .skip { w with heap:=w.heap.setIfInBounds b (IT.obj (.mp (Am.Zc k (v.ev st.f) ks vs).1 (Am.Zc k (v.ev st.f) ks vs).2) p) }:=by
  refine hex _ ?_;rw[ex,ei,ev];exact Ds hkt hks hlen hu (Bq hty) hh
 unfold Oper.wp;rw[hrun];have hd':o.dst=d:=hd;show K (a.put o.dst undef) _;rw[hd'];have hlt:b<w.heap.size:=(QmB.1 hh).1;generalize hu':IT.mp (Am.Zc k (v.ev st.f) ks vs).1 (Am.Zc k (v.ev st.f) ks vs).2=u at *;have htn:Turned b w { w with heap:=w.heap.setIfInBounds b (u.obj p) } :=
  ⟨rfl,rfl,rfl,by simp,fun k hk=>by
   show(w.heap.setIfInBounds b _)[k]? = _;rw[Array.getElem?_setIfInBounds_ne (fun e=>hk e.symm)]⟩
 have hnew:(w.heap.setIfInBounds b (u.obj p))[b]? = some (u.obj p):=by
  rw[QmG,QmD hlt]
 have hm:=hr.mr.moved (u:=u) hl hb htn hnew;have hr':Rel G B N { st with m:=Am.put st.m l s (.iter u p) } a { w with heap:=w.heap.setIfInBounds b (u.obj p) } :=
  ⟨hm,hr.size,hr.slots,hr.ds,hr.base,by rw[htn.size];exact hr.top,Ko hr.ne⟩
 exact hK _ _ _ _ h (hr'.put hdN (v:=undef) (.tup .nil)) (Ext.turned htn (.inl ⟨l,s,hb⟩))

end

def Qi (P:Program)(k:FuncId)(args:List AV)(v:AV):Prop:=Fn? P k args (· = v)

def Hx (P:Program)(d:Option Nat)(op:RO)(st:St)(K:St→Prop):Prop :=
 match op with
 |.val vo=>∃x,Qx st.f st.m vo=some x∧K { st with f:=Qj st.f d x }
 |.allocN s z=>X0 st.m s=true∧K { st with m:=Am.put st.m 0 s (.cells z),f:=Qj st.f d (.ptr 0 s 0) }
 |.boxN s r=>X0 st.m s=true∧(r.ev st.f).cells.all AV.leaf=true∧K { st with m:=Am.put st.m 0 s (.cells (r.ev st.f).cells),f:=Qj st.f d (.ptr 0 s 0) }
 |.store n p r=>(r.ev st.f).cells.length=n∧(r.ev st.f).cells.all AV.leaf=true∧∃m',Xa st.m (p.ev st.f) (r.ev st.f).cells=some m'∧K { st with m:=m',f:=Qj st.f d (.tup []) }
 |.app sz bytes el s r=>∃l site g n xs ys,s.ev st.f=.vec l site g 0 n false∧Qc st.m l site=.vec g sz xs∧XY site el=true∧n≤xs.length∧QY st.m (r.ev st.f)=some ys∧ys.all (fun e=>e.cells.length==sz)=true∧n+ys.length≤maxLen∧(n+ys.length)*bytes≤140737488355328∧
   K { st with m:=Am.put st.m l site (.vec (g+1) sz (xs.take n++ys)),f:=Qj st.f d (.vec l site (g+1) 0 (n+ys.length) false) }
 |.storev l s n p r=>(∃o,p.ev st.f=.ptr l s o)∧(r.ev st.f).cells.length=n∧(r.ev st.f).cells.all AV.leaf=true∧∃m',Xa st.m (p.ev st.f) (r.ev st.f).cells=some m'∧K { st with m:=m',f:=Qj st.f d (.tup []) }
 |.call f args=>∃k fa fb ys v,f.ev st.f=.fn (.func k) fa fb∧AV.stillL false st.m (fa++args.map (RA.ev st.f)++fb)=some ys∧AV.rfL ys=true∧Qi P k ys v∧v.rf=true∧(AV.rfL (fa++args.map (RA.ev st.f)++fb)=true∨v.nl=true)∧K { st with f:=Qj st.f d v }
 |.callF f args=>∃k fa fb v m',f.ev st.f=.fn (.func k) fa fb∧Qd P k (fa++args.map (RA.ev st.f)++fb) st.m (fun x m=>x=v∧m=m')∧K { st with m:=m',f:=Qj st.f d v }
 |.callG f args=>∃k fa fb R,f.ev st.f=.fn (.func k) fa fb∧Qd P k (fa++args.map (RA.ev st.f)++fb) st.m R∧∀x m',R x m'→m'.length=st.m.length→K { st with m:=m',f:=Qj st.f d x }
 |.bsl sz len z ps=>∃y,fill st.f ps (X9 z sz len)=some y∧AV.rfL y=true∧y.all AV.leaf=true∧K { st with f:=Qj st.f d (.list (Zl sz len (y.map nn0))) }
 |.bslv site sz len z ps=>∃y,fill st.f ps (X9 z sz len)=some y∧AV.rfL y=true∧y.all AV.leaf=true∧Qn (Qc st.m 0 site)=true∧
   K { st with m:=Am.put st.m 0 site (.vec (Qy st.m 0 site) sz (Zl sz len (y.map nn0))),f:=Qj st.f d (.vec 0 site (Qy st.m 0 site) 0 len false) }
 |.bsl0 site sz=>Qn (Qc st.m 0 site)=true∧K { st with m:=Am.put st.m 0 site (.vec (Qy st.m 0 site) sz []),f:=Qj st.f d (.vec 0 site (Qy st.m 0 site) 0 0 false) }
 |.appc site sz bytes _ s r=>∃xs ys,s.ev st.f=.lcap xs∧QY st.m (r.ev st.f)=some ys∧ys≠[]∧xs.all (fun e=>e.cells.length==sz)=true∧ys.all (fun e=>e.cells.length==sz)=true∧xs.length+ys.length≤maxLen∧(xs.length+ys.length)*bytes≤140737488355328∧Qn (Qc st.m 0 site)=true∧
   K { st with m:=Am.put st.m 0 site (.vec (Qy st.m 0 site) sz (xs++ys)),f:=Qj st.f d (.vec 0 site (Qy st.m 0 site) 0 (xs.length+ys.length) false) }
 |.clr sz z r=>∃l s g o n q xs,r.ev st.f=.vec l s g o n q∧Qc st.m l s=.vec g sz xs∧o+n≤xs.length∧0<n∧K { st with m:=Am.put st.m l s (.vec g sz (xs.take o++List.replicate n (Zx sz z)++xs.drop (o+n))),f:=Qj st.f d (.tup []) }
 |.isnil neg r=>∃ys,QY st.m (r.ev st.f)=some ys∧(r.ev st.f≠.nils→K { st with f:=Qj st.f d (.bool neg) })∧((r.ev st.f=.nils∨QK ys=[])→K { st with f:=Qj st.f d (.bool (!neg)) })
 |.callK l s f args=>∃k fa fb v m',f.ev st.f=.fn (.func k) fa fb∧Qd P k (fa++args.map (RA.ev st.f)++fb) st.m (fun x m=>x=v∧m=m')∧Qc m' l s=Qc st.m l s∧K { st with m:=m',f:=Qj st.f d v }
 |.callO l s f args=>∃k fa fb g z xs v,f.ev st.f=.fn (.func k) fa fb∧Qc st.m l s=.vec g z xs∧(∀m',Qc m' l s=.vec g z xs→Qd P k (fa++args.map (RA.ev st.f)++fb) m' (fun x m=>x=v∧m=m'))∧K { st with f:=Qj st.f d v }
 |.xb cnt _ s c=>∃t b,s.ev st.f=.str t∧c.ev st.f=.int .u8 b∧K { st with f:=Qj st.f d (.int .i64 (Ff cnt t b)) }
 |.rngs s r=>∃t,r.ev st.f=.str t∧X0 st.m s=true∧K { st with m:=Am.put st.m 0 s (.iter (.str t) 0),f:=Qj st.f d (.ptr 0 s 0) }
 |.mkm s=>X0 st.m s=true∧K { st with m:=Am.put st.m 0 s (.iter (.mp [] []) 0),f:=Qj st.f d (.mptr 0 s) }
 |.mput tx x i v=>∃l s ks vs p k,x.ev st.f=.mptr l s∧Qc st.m l s=.iter (.mp ks vs) p∧KZ tx (i.ev st.f)=some k∧keys tx ks=true∧(v.ev st.f).gr=true∧AV.grL vs=true∧ks.length=vs.length∧K { st with m:=Am.put st.m l s (.iter (.mp (Zc k (v.ev st.f) ks vs).1 (Zc k (v.ev st.f) ks vs).2) p),f:=Qj st.f d (.tup []) }
 |.nxts r=>∃l s t p,r.ev st.f=.ptr l s 0∧Qc st.m l s=.iter (.str t) p∧
   (p<t.length→K { st with m:=Am.put st.m l s (.iter (.str t) (p+(XK t p).2)),f:=Qj st.f d (.tup [.bool true,.int .i64 (p:Nat),.int .i32 ((XK t p).1:Nat)]) })∧(t.length≤p→K { st with f:=Qj st.f d (.tup [.bool false]) })
 |.appS el s r=>∃l site g n xs t,s.ev st.f=.vec l site g 0 n false∧Qc st.m l site=.vec g 1 xs∧XY site el=true∧n≤xs.length∧r.ev st.f=.str t∧n+t.length≤140737488355328∧
   K { st with m:=Am.put st.m l site (.vec (g+1) 1 (xs.take n++Qr t)),f:=Qj st.f d (.vec l site (g+1) 0 (n+t.length) false) }
 |.mk site _ sz bytes z l c=>∃(kl kc:IntKind) (n k:Nat),l.ev st.f=.int kl (n:Int)∧c.ev st.f=.int kc (k:Int)∧n≤k∧k≤9223372036854775807∧bytes*k≤281474976710656∧Qn (Qc st.m 0 site)=true∧
   K { st with m:=Am.put st.m 0 site (.vec (Qy st.m 0 site) sz (List.replicate n (Zx sz z))),f:=Qj st.f d (.vec 0 site (Qy st.m 0 site) 0 n false) }
 |.s2b site _ r=>∃s,r.ev st.f=.str s∧s.length≤9223372036854775807∧Qn (Qc st.m 0 site)=true∧
   K { st with m:=Am.put st.m 0 site (.vec (Qy st.m 0 site) 1 (Qr s)),f:=Qj st.f d (.vec 0 site (Qy st.m 0 site) 0 s.length false) }
 |.usd r=>∃l s g n sz xs,2000≤s∧r.ev st.f=.vec l s g 0 n false∧Qc st.m l s=.vec g sz xs∧K { st with f:=Qj st.f d (if n=0 then .anyp else .vptr l s g 0 0) }
 |.ustr el p r=>(p.ev st.f=.anyp∧r.ev st.f=.int .i64 0∧K { st with f:=Qj st.f d (.str []) })∨
   ∃l g n xs s,p.ev st.f=.vptr l (el+2000) g 0 0∧r.ev st.f=.int .i64 ((n:Nat):Int)∧Qc st.m l (el+2000)=.vec g 1 xs∧n≤xs.length∧n≠0∧xs.take n=Qr s∧K { st with m:=Am.put st.m l (el+2000) (.vec (g+1) 1 []),f:=Qj st.f d (.str s) }

def Zq (P:Program)(it:Item)(st:St)(K:St→Prop):Prop :=
 match it.g with
 |none=>Hx P it.dst it.op st K
 |some (j,want)=>match st.f j with
  |.bool b=>(b=want→Hx P it.dst it.op st K)∧(b=(!want)→K { st with f:=Qj st.f it.dst (.tup []) })
  |.tup l=>l=[]∧K { st with f:=Qj st.f it.dst (.tup []) }
  |_=>False

def QB (P:Program):List Item→St→(St→Prop)→Prop
 | [],st,K=>K st
 |it :: its,st,K=>Zq P it st fun st'=>QB P its st' K

section
variable {P:Program}{N:Nat}

theorem Sc {d:Option Nat}{op:RO}{its:List Item}{st:St}{Q:St→Prop}(h:Hx P d op st fun st'=>Qu P N its st' Q):Qu P N (⟨d,op,none⟩ :: its) st Q:=by
 cases op with
 |val vo=>obtain⟨x,hx,h⟩:=h;exact .val hx h
 |allocN s z=>exact .allocN h.1 h.2
 |boxN s r=>exact .boxN h.1 h.2.1 h.2.2
 |store n p r=>obtain⟨h1,h2,m',h3,h⟩:=h;exact .store h1 h2 h3 h
 |app sz bytes el s r=>obtain⟨l,site,g,n,xs,ys,h1,h2,ht,h3,h4,h5,h6,h7,h⟩:=h;exact .app h1 h2 ht h3 h4 h5 h6 h7 h
 |appS el s r=>obtain⟨l,site,g,n,xs,t,h1,h2,ht,h3,h4,h5,h⟩:=h;exact .appS h1 h2 ht h3 h4 h5 h
 |mk site el sz bytes z l c=>obtain⟨kl,kc,n,k,h1,h2,h3,h4,h5,h6,h⟩:=h;exact .mk h1 h2 h3 h4 h5 h6 h
 |s2b site el r=>obtain⟨s,h1,h2,h3,h⟩:=h;exact .s2b h1 h2 h3 h
 |usd r=>obtain⟨l,s,g,n,sz,xs,h0,h1,h2,h⟩:=h;exact .usd h0 h1 h2 h
 |ustr el p r=>
  rcases h with⟨h1,h2,h⟩|⟨l,g,n,xs,s,h1,h2,h3,h4,h5,h6,h⟩
  ·exact .ustr0 h1 h2 h
  ·exact .ustr h1 h2 h3 h4 h5 h6 h
 |storev l s n p r=>obtain⟨_,h1,h2,m',h3,h⟩:=h;exact .same (ro:=.store n p r) (fun _=>rfl) (.store h1 h2 h3 h)
 |call f args=>
  obtain⟨k,fa,fb,ys,v,hf,h1,h2,h3,h4,h5,h⟩:=h;exact .callPure hf h1 h2 h3 (fun x hx=>by subst hx;exact⟨h4,h5⟩) fun x hx=>by subst hx;exact h
 |callF f args=>
  obtain⟨k,fa,fb,v,m',hf,h1,h⟩:=h;exact .same (ro:=.call f args) (fun _=>rfl) (.callFull hf h1 fun x m hx _=>by obtain⟨rfl,rfl⟩:=hx;exact h)
 |callG f args=>
  obtain⟨k,fa,fb,R,hf,h1,h⟩:=h;exact .same (ro:=.call f args) (fun _=>rfl) (.callFull hf h1 h)
 |bsl sz len z ps=>obtain⟨y,h1,h2,h3,h⟩:=h;exact .bsl h1 h2 h3 h
 |bslv site sz len z ps=>obtain⟨y,h1,h2,h3,h4,h⟩:=h;exact .bslv h1 h2 h3 h4 h
 |bsl0 site sz=>exact .bsl0 h.1 h.2
 |clr sz z r=>obtain⟨l,s,g,o,n,q,xs,h1,h2,h3,h4,h⟩:=h;exact .clr h1 h2 h3 h4 h
 |isnil neg r=>obtain⟨ys,h1,h2,h3⟩:=h;exact .isnil h1 h2 h3
 |appc site sz bytes el s r=>obtain⟨xs,ys,h1,h2,h3,h4,h5,h6,h7,h8,h⟩:=h;exact .appc h1 h2 h3 h4 h5 h6 h7 h8 h
 |callK l s f args=>
  obtain⟨k,fa,fb,v,m',hf,h1,_,h⟩:=h;exact .same (ro:=.call f args) (fun _=>rfl) (.callFull hf h1 fun x m hx _=>by obtain⟨rfl,rfl⟩:=hx;exact h)
 |callO l s f args=>
  obtain⟨k,fa,fb,g,z,xs,v,hf,hl,h1,h⟩:=h;exact .same (ro:=.call f args) (fun _=>rfl) (.callFull hf (h1 _ hl) fun x m hx _=>by obtain⟨rfl,rfl⟩:=hx;exact h)
 |xb cnt k s c=>obtain⟨t,b,h1,h2,h⟩:=h;exact .xb h1 h2 h
 |rngs s r=>obtain⟨t,h1,h2,h⟩:=h;exact .rngs h1 h2 h
 |nxts r=>obtain⟨l,s,t,p,h1,h2,h3,h4⟩:=h;exact .nxts h1 h2 h3 h4
 |mkm s=>obtain⟨h1,h⟩:=h;exact .mkm h1 h
 |mput tx x i v=>obtain⟨l,s,ks,vs,p,k,h1,h2,h3,h7,h4,h5,h6,h⟩:=h;exact .mput h1 h2 h3 h7 h4 h5 h6 h

theorem Vg {it:Item}{its:List Item}{st:St}{Q:St→Prop}(h:Zq P it st fun st'=>Qu P N its st' Q):Qu P N (it :: its) st Q:=by
 obtain⟨d,op,g⟩:=it;cases g with
 |none=>exact Sc h
 |some p=>
  obtain⟨j,want⟩:=p;simp only[Zq]at h;split at h
  ·rename_i b hj;by_cases hb:b=want
   ·subst hb;exact .yes hj (Sc (h.1 rfl))
   ·have hb':b=!want:=by cases b<;>cases want<;>first|rfl|exact absurd rfl hb
    subst hb';exact .no (.inl hj) (h.2 rfl)
  ·rename_i l hj;obtain⟨rfl,h⟩:=h;exact .no (.inr hj) h
  ·exact h.elim

theorem Vh {d:Option Nat}{op:RO}{st:St}{K K':St→Prop}(hk:∀s,K s→K' s)(h:Hx P d op st K):Hx P d op st K':=by
 cases op<;>simp only[Hx]at h ⊢
 case val=>obtain⟨x,a,b⟩:=h;exact⟨x,a,hk _ b⟩
 case allocN=>exact⟨h.1,hk _ h.2⟩
 case boxN=>exact⟨h.1,h.2.1,hk _ h.2.2⟩
 case store=>obtain⟨h1,h2,m',h3,h⟩:=h;exact⟨h1,h2,m',h3,hk _ h⟩
 case app=>obtain⟨l,site,g,n,xs,ys,h1,h2,ht,h3,h4,h5,h6,h7,h⟩:=h;exact⟨l,site,g,n,xs,ys,h1,h2,ht,h3,h4,h5,h6,h7,hk _ h⟩
 case appS=>obtain⟨l,site,g,n,xs,t,h1,h2,ht,h3,h4,h5,h⟩:=h;exact⟨l,site,g,n,xs,t,h1,h2,ht,h3,h4,h5,hk _ h⟩
 case mk=>obtain⟨kl,kc,n,k,h1,h2,h3,h4,h5,h6,h⟩:=h;exact⟨kl,kc,n,k,h1,h2,h3,h4,h5,h6,hk _ h⟩
 case s2b=>obtain⟨s,h1,h2,h3,h⟩:=h;exact⟨s,h1,h2,h3,hk _ h⟩
 case usd=>obtain⟨l,s,g,n,sz,xs,h0,h1,h2,h⟩:=h;exact⟨l,s,g,n,sz,xs,h0,h1,h2,hk _ h⟩
 case ustr=>
  rcases h with⟨h1,h2,h⟩|⟨l,g,n,xs,s,h1,h2,h3,h4,h5,h6,h⟩
  ·exact .inl ⟨h1,h2,hk _ h⟩
  ·exact .inr ⟨l,g,n,xs,s,h1,h2,h3,h4,h5,h6,hk _ h⟩
 case bsl=>obtain⟨y,h1,h2,h3,h⟩:=h;exact⟨y,h1,h2,h3,hk _ h⟩
 case bslv=>obtain⟨y,h1,h2,h3,h4,h⟩:=h;exact⟨y,h1,h2,h3,h4,hk _ h⟩
 case bsl0=>exact⟨h.1,hk _ h.2⟩
 case clr=>obtain⟨l,s,g,o,n,q,xs,h1,h2,h3,h4,h⟩:=h;exact⟨l,s,g,o,n,q,xs,h1,h2,h3,h4,hk _ h⟩
 case appc=>obtain⟨xs,ys,h1,h2,h3,h4,h5,h6,h7,h8,h⟩:=h;exact⟨xs,ys,h1,h2,h3,h4,h5,h6,h7,h8,hk _ h⟩
 case isnil=>obtain⟨ys,h1,h2,h3⟩:=h;exact⟨ys,h1,fun e=>hk _ (h2 e),fun e=>hk _ (h3 e)⟩
 case callK=>obtain⟨k,fa,fb,v,m',hf,h1,h2,h⟩:=h;exact⟨k,fa,fb,v,m',hf,h1,h2,hk _ h⟩
 case callO=>obtain⟨k,fa,fb,g,z,xs,v,hf,hl,h1,h⟩:=h;exact⟨k,fa,fb,g,z,xs,v,hf,hl,h1,hk _ h⟩
 case xb=>obtain⟨t,b,h1,h2,h⟩:=h;exact⟨t,b,h1,h2,hk _ h⟩
 case rngs=>obtain⟨t,h1,h2,h⟩:=h;exact⟨t,h1,h2,hk _ h⟩
 case mkm=>obtain⟨h1,h⟩:=h;exact⟨h1,hk _ h⟩
 case mput=>obtain⟨l,s,ks,vs,p,k,h1,h2,h3,h7,h4,h5,h6,h⟩:=h;exact⟨l,s,ks,vs,p,k,h1,h2,h3,h7,h4,h5,h6,hk _ h⟩
 case nxts=>obtain⟨l,s,t,p,h1,h2,h3,h4⟩:=h;exact⟨l,s,t,p,h1,h2,fun e=>hk _ (h3 e),fun e=>hk _ (h4 e)⟩
 case storev=>obtain⟨h0,h1,h2,m',h3,h⟩:=h;exact⟨h0,h1,h2,m',h3,hk _ h⟩
 case call=>obtain⟨k,fa,fb,ys,v,hf,h1,h2,h3,h4,h5,h⟩:=h;exact⟨k,fa,fb,ys,v,hf,h1,h2,h3,h4,h5,hk _ h⟩
 case callF=>obtain⟨k,fa,fb,v,m',hf,h1,h⟩:=h;exact⟨k,fa,fb,v,m',hf,h1,hk _ h⟩
 case callG=>obtain⟨k,fa,fb,R,hf,h1,h⟩:=h;exact⟨k,fa,fb,R,hf,h1,fun x m' hr hl=>hk _ (h x m' hr hl)⟩

theorem UY {it:Item}{st:St}{K K':St→Prop}(hk:∀s,K s→K' s)(h:Zq P it st K):Zq P it st K':=by
 unfold Zq at h ⊢;split at h
 ·exact Vh hk h
 ·split at h
  ·exact⟨fun e=>Vh hk (h.1 e),fun e=>hk _ (h.2 e)⟩
  ·exact⟨h.1,hk _ h.2⟩
  ·exact h.elim

theorem My:∀ {its:List Item} {st:St} {Q:St→Prop},QB P its st Q→Qu P N its st Q
 | [],_,_,h=>.nil h
 |_ :: _,_,_,h=>Vg (UY (fun _ hs=>My hs) h)

end

inductive GO where
 |vec (slot site sz:Nat)
 |drop (s:Nat)
 |vecc (s idx site sz:Nat)
 |pub (slot site:Nat)
 |give (slot site l S:Nat)

def JF (g:GO)(st:St):Option St :=
 match g with
 |.vec slot site sz=>match st.f slot with
  |.nils=>bif Qn (Qc st.m 0 site)then some { st with m:=Am.put st.m 0 site (.vec (Qy st.m 0 site) sz []),f:=QG st.f slot (.vec 0 site (Qy st.m 0 site) 0 0 false) } else none
  |_=>none
 |.drop s=>bif US st.m s then some (st.drop s)else none
 |.vecc s idx site sz=>match Qc st.m 0 s with
  |.cells xs=>match xs[idx]? with
   |some .nils=>bif Qn (Qc st.m 0 site) && !(Nat.beq site s)then some { st with m:=Am.put (Am.put st.m 0 site (.vec (Qy st.m 0 site) sz [])) 0 s (.cells (xs.set idx (.vec 0 site (Qy st.m 0 site) 0 0 false))) } else none
   |some _=>some st
   |none=>none
  |_=>none
 |.pub slot site=>match st.f slot with
  |.vec 0 s' g o n _=>match Qc st.m 0 site with
   |.vec g' sz xs=>bif Nat.beq s' site&&Nat.beq g g'&&Nat.ble (o+n) xs.length then some { st with m:=Am.put st.m 0 site (.vec (g+1) sz []),f:=QG st.f slot (.list ((xs.drop o).take n)) } else none
   |_=>none
  |.list _=>some st
  |_=>none
 |.give slot site l S=>match st.f slot with
  |.vec 0 s' g o n q=>match Qc st.m 0 site with
   |.vec g' sz xs=>bif Nat.beq s' site&&Nat.beq g g'&&Nat.blt l st.m.length && !(Nat.beq l 0)&&Qn (Qc st.m l S)&&Nat.blt S 2000 then some { st with m:=Am.put (Am.put st.m 0 site (.vec (g+1) sz [])) l S (.vec (Qy st.m l S) sz xs),f:=QG st.f slot (.vec l S (Qy st.m l S) o n q) } else none
   |_=>none
  |_=>none

inductive RC where
 |skip
 |reg (its:List Item)
 |draw (its:List Item)
 |seq (a b:RC)
 |cond (c:RA) (a b:RC)
 |block (id:Nat) (a:RC)
 |loop (a:RC)
 |exit (id:Nat)
 |scope (a:RC)
 |lab
 |ret
 |gho (g:GO) (a:RC)
 |no
 |goto (l:Nat)
 |jump (l:Nat) (a b:RC)

def Ks (f:St→Prop)(Q:Exit→St→Prop):Exit→St→Prop
 |.normal,st=>f st
 |e,st=>Q e st
def Kb (id:Nat)(Q:Exit→St→Prop):Exit→St→Prop
 |.exit i,st=>if i=id then Q .normal st else Q (.exit i) st
 |e,st=>Q e st
def Kg (Q:Exit→St→Prop):Exit→St→Prop
 |.goto _,_=>False
 |e,st=>Q e st

def Kj (l:Nat)(J:St→Prop)(Q:Exit→St→Prop):Exit→St→Prop
 |.goto i,st=>i=l∧J st
 |e,st=>Q e st

def QR (P:Program):RC→St→(Exit→St→Prop)→Prop
 |.skip,st,Q=>Q .normal st
 |.reg its,st,Q=>QB P its st (Q .normal)
 |.draw its,st,Q=>QB P its st (Q .normal)
 |.seq a b,st,Q=>QR P a st (Ks (fun st'=>QR P b st' Q) Q)
 |.cond c a b,st,Q=>∃t,c.ev st.f=.bool t∧(t=true→QR P a st Q)∧(t=false→QR P b st Q)
 |.block id a,st,Q=>QR P a st (Kb id Q)
 |.loop a,st,Q=>∃(I:Nat→St→Prop) (n:Nat),I n st∧∀n st',I n st'→QR P a st' (Ks (fun s=>∃k,k<n∧I k s) Q)
 |.exit id,st,Q=>Q (.exit id) st
 |.scope a,st,Q=>QR P a st (Kg Q)
 |.lab,st,Q=>Q .normal st
 |.ret,st,Q=>Q .ret st
 |.gho g a,st,Q=>∃st',JF g st=some st'∧QR P a st' Q
 |.no,_,_=>False
 |.goto l,st,Q=>Q (.goto l) st
 |.jump l a b,st,Q=>∃I:Nat→St→Prop,QR P a st (Kj l (fun s=>∃n,I n s) Q)∧∀n st',I n st'→QR P b st' (Kj l (fun s=>∃k,k<n∧I k s) Q)

theorem Sd {G:Gh}{f:Fr}{a:Act}(hs:∀i,Rep G (f i) (a.tmps.getD i undef)){d:Nat}{x:AV}(hx:Rep G x (a.tmps.getD d undef)):∀i,Rep G (QG f d x i) (a.tmps.getD i undef):=by
 intro i;by_cases hi:i=d
 ·subst hi;rw[QU];exact hx
 ·rw[QX _ _ hi];exact hs i

theorem AA {G:Gh}{B N:Nat}{st st':St}{a:Act}{w:World}(h:Rel G B N st a w){g:GO}(hg:JF g st=some st'):∃G',Rel G' B N st' a w∧Ext 1 G w G' w:=by
 cases g with
 |vec slot site sz=>
  simp only[JF]at hg;split at hg
  ·rename_i hn;cases hro:Qn (Qc st.m 0 site)with
   |false=>rw[hro]at hg;cases hg
   |true=>
    rw[hro]at hg;simp only[cond_true,QmW]at hg;subst hg;have hl:0<st.m.length:=QnR.2 h.ne;obtain⟨h1,h2⟩:=h.vecput (w':=w) (sz:=sz) (cap:=0) (b:=none) (ys:=[]) hl hro (Jn h.mr hro) rfl rfl rfl (Qms _) (fun _ _ _=>rfl) (fun k e=>by cases e) ⟨by simp,rfl,rfl⟩ (.inl ⟨rfl,rfl⟩);refine⟨_,⟨h1.mr,h1.size,Sd h1.slots ?_,h1.ds,h1.base,h1.top,h1.ne⟩,h2⟩;have hs:=h.slots slot;rw[hn]at hs;generalize a.tmps.getD slot undef=v at hs;cases hs;exact .vec rfl (Qnf (by simp[Gh.row])) fun _=>.inl ⟨by simp[Gh.row],rfl,rfl,none,rfl,fun _=>rfl⟩
  ·cases hg
 |drop s=>
  simp only[JF]at hg;cases hro:US st.m s with
  |false=>rw[hro]at hg;cases hg
  |true=>
   rw[hro]at hg;simp only[cond_true,QmW]at hg;subst hg;exact⟨_,h.drop s hro⟩
 |vecc s idx site sz=>
  simp only[JF]at hg;split at hg
  ·rename_i xs hlk;split at hg
   ·rename_i hn;cases hro:(Qn (Qc st.m 0 site) && !(Nat.beq site s))with
    |false=>rw[hro]at hg;cases hg
    |true=>
     rw[hro]at hg;simp only[cond_true,QmW]at hg;subst hg;rw[QmT]at hro;have hne:s≠site:=fun e=>by
      have h2:=hro.2;rw[e]at h2;simp at h2
     have hl:0<st.m.length:=QnR.2 h.ne;obtain⟨h1,h2⟩:=h.vecput (w':=w) (sz:=sz) (cap:=0) (b:=none) (ys:=[]) hl hro.1 (Jn h.mr hro.1) rfl rfl rfl (Qms _) (fun _ _ _=>rfl) (fun k e=>by cases e) ⟨by simp,rfl,rfl⟩ (.inl ⟨rfl,rfl⟩);have hlk':Qc (Am.put st.m 0 site (.vec (Qy st.m 0 site) sz [])) 0 s=.cells xs:=by
      rw[QA (.inr hne)];exact hlk
     obtain⟨b,cs,hb,hsoft,hrep⟩:=h1.mr.cells 0 s xs hlk';obtain⟨v,hv,hr⟩:=hrep.at_ hn;have hvn:v=.slice none 0 0:=by cases hr;rfl
     subst hvn;have hset:cs.toList.set idx (.slice none 0 0)=cs.toList:=by
      obtain⟨hi,he⟩:=Qmu.1 hv;rw[←he,List.set_getElem_self]
     have hrep':=hrep.set idx (x:=.vec 0 site (Qy st.m 0 site) 0 0 false) (v:=.slice none 0 0) (.vec rfl (Qnf (by simp[Gh.row,Gh.dn])) fun _=>.inl ⟨by simp[Gh.row,Gh.dn],rfl,rfl,none,rfl,fun _=>rfl⟩);rw[hset]at hrep';exact⟨_,⟨h1.mr.stored hlk' hb (Turned.refl b w) hsoft hrep',h1.size,h1.slots,h1.ds,h1.base,h1.top,Ko h1.ne⟩,h2⟩
   ·cases hg;exact⟨G,h,Ext.refl 1 G w⟩
   ·cases hg
  ·cases hg
 |pub slot site=>
  simp only[JF]at hg;split at hg
  ·rename_i s' g o n q hs;split at hg
   ·rename_i g' sz xs hlk;cases hb:(Nat.beq s' site&&Nat.beq g g'&&Nat.ble (o+n) xs.length)with
    |false=>rw[hb]at hg;cases hg
    |true=>
     rw[hb]at hg;simp only[cond_true,QmW]at hg;subst hg;simp only[QmT]at hb;obtain⟨⟨b1,b2⟩,b3⟩:=hb;have e1:=Qmq b1;have e2:=Qmq b2;subst e1 e2;exact h.publish hs hlk (QnZ b3)
   ·cases hg
  ·cases hg;exact⟨G,h,Ext.refl 1 G w⟩
  ·cases hg
 |give slot site l S=>
  simp only[JF]at hg;split at hg
  ·rename_i s' g o n q hs;split at hg
   ·rename_i g' sz xs hlk;cases hb:(Nat.beq s' site&&Nat.beq g g'&&Nat.blt l st.m.length && !(Nat.beq l 0)&&Qn (Qc st.m l S)&&Nat.blt S 2000)with
    |false=>rw[hb]at hg;cases hg
    |true=>
     rw[hb]at hg;simp only[cond_true,QmW]at hg;subst hg;simp only[QmT]at hb;obtain⟨⟨⟨⟨⟨b1,b2⟩,b3⟩,b4⟩,b5⟩,b6⟩:=hb;have e1:=Qmq b1;have e2:=Qmq b2;subst e1 e2;have b4':l≠0:=fun e=>by rw[e]at b4;simp at b4
     exact h.give hs hlk (QnZ b3) b4' b5 (QnZ b6)
   ·cases hg
  ·cases hg

def RA.sl:RA→List Nat
 |.t n=>[n]
 |_=>[]
def E5:Option RA→List Nat
 |some r=>r.sl
 |none=>[]
def VO.sl:VO→List Nat
 |.mov x=>x.sl
 |.pick c a b=>c.sl++(a.sl++b.sl)
 |.build _ ps=>ps.flatMap fun p=>p.2.2.sl
 |.load _ x=>x.sl
 |.loadv _ _ _ x=>x.sl
 |.loado _ x=>x.sl
 |.loadr _ x=>x.sl
 |.nilck x=>x.sl
 |.un _ x=>x.sl
 |.cvi _ x=>x.sl
 |.b2s x=>x.sl
 |.faddr _ x=>x.sl
 |.fld _ _ x=>x.sl
 |.ext x _=>x.sl
 |.len _ x=>x.sl
 |.bin _ _ x y=>x.sl++y.sl
 |.eqs _ _ x y=>x.sl++y.sl
 |.iaddr _ _ x y=>x.sl++y.sl
 |.idx x y=>x.sl++y.sl
 |.mnx _ x y=>x.sl++y.sl
 |.slc _ x lo hi mx=>x.sl++(E5 lo++(E5 hi++E5 mx))
 |.slcl x hi mx=>x.sl++(hi.sl++mx.sl)
 |.mkfn _ a b=>a.flatMap RA.sl++b.flatMap RA.sl
 |.toU x=>x.sl
 |.ofU _ _ x=>x.sl
 |.same x=>x.sl
 |.mget _ _ _ x y=>x.sl++y.sl
 |.mgetp _ _ _ x y=>x.sl++y.sl
 |.mki _ x=>x.sl
 |.tas _ _ _ x=>x.sl
def RO.sl:RO→List Nat
 |.val v=>v.sl
 |.allocN _ _=>[]
 |.boxN _ r=>r.sl
 |.store _ p r=>p.sl++r.sl
 |.storev _ _ _ p r=>p.sl++r.sl
 |.app _ _ _ s r=>s.sl++r.sl
 |.appS _ s r=>s.sl++r.sl
 |.mk _ _ _ _ _ l c=>l.sl++c.sl
 |.s2b _ _ r=>r.sl
 |.usd r=>r.sl
 |.ustr _ p r=>p.sl++r.sl
 |.bsl _ _ _ ps=>ps.flatMap fun p=>p.2.2.sl
 |.call f rs=>f.sl++rs.flatMap RA.sl
 |.callF f rs=>f.sl++rs.flatMap RA.sl
 |.bslv _ _ _ _ ps=>ps.flatMap fun p=>p.2.2.sl
 |.bsl0 _ _=>[]
 |.clr _ _ r=>r.sl
 |.isnil _ x=>x.sl
 |.appc _ _ _ _ s r=>s.sl++r.sl
 |.callG f rs=>f.sl++rs.flatMap RA.sl
 |.xb _ _ s c=>s.sl++c.sl
 |.callK _ _ f rs=>f.sl++rs.flatMap RA.sl
 |.callO _ _ f rs=>f.sl++rs.flatMap RA.sl
 |.rngs _ r=>r.sl
 |.nxts r=>r.sl
 |.mkm _=>[]
 |.mput _ x y z=>x.sl++(y.sl++z.sl)
def Item.sl (it:Item):List Nat:=it.op.sl++(match it.g with|some (j,_)=>[j]|none=>[])

def Z8 (l:List Nat)(f f':Fr):Prop:=∀t,t∈l→f t=f' t
theorem Z8.left {a b:List Nat}{f f':Fr}(h:Z8 (a++b) f f'):Z8 a f f':=fun t ht=>h t (List.mem_append_left _ ht)
theorem Z8.right {a b:List Nat}{f f':Fr}(h:Z8 (a++b) f f'):Z8 b f f':=fun t ht=>h t (List.mem_append_right _ ht)

theorem RA.ev_same {r:RA}{f f':Fr}(h:Z8 r.sl f f'):r.ev f=r.ev f':=by
 cases r with
 |t n=>exact h n (by simp[RA.sl])
 |c x=>rfl
 |f k=>rfl
 |g k l=>rfl

theorem KC:∀ {rs:List RA} {f f':Fr},Z8 (rs.flatMap RA.sl) f f'→rs.map (RA.ev f)=rs.map (RA.ev f')
 | [],_,_,_=>rfl
 |r :: rs,f,f',h=>by
  rw[Qn0]at h;rw[Qm3,Qm3,RA.ev_same h.left,KC h.right]

theorem Y0 {f f':Fr}:∀ {ps:List (Nat×Nat×RA)} {z:List AV},Z8 (ps.flatMap fun p=>p.2.2.sl) f f'→fill f ps z=fill f' ps z
 | [],_,_=>rfl
 |(o,n,r) :: ps,z,h=>by
  rw[Qn0]at h;simp only[fill,RA.ev_same h.left,Y0 h.right]

theorem Dv {f f':Fr}{d:Nat}{r:Option RA}(h:Z8 (E5 r) f f'):KY f d r=KY f' d r:=by
 cases r with
 |none=>rfl
 |some r=>simp only[KY,RA.ev_same (r:=r) h]

theorem AB {f f':Fr}{m:Qh}{vo:VO}(h:Z8 vo.sl f f'):Qx f m vo=Qx f' m vo:=by
 cases vo with
 |mov x=>simp only[Qx,RA.ev_same (r:=x) h]
 |pick c a b=>simp only[Qx,RA.ev_same (r:=c) h.left,RA.ev_same (r:=a) h.right.left,RA.ev_same (r:=b) h.right.right]
 |build z ps=>simp only[Qx,Y0 (ps:=ps) h]
 |load k x=>simp only[Qx,RA.ev_same (r:=x) h]
 |loadv l s k x=>simp only[Qx,RA.ev_same (r:=x) h]
 |loado k x=>simp only[Qx,RA.ev_same (r:=x) h]
 |loadr k x=>simp only[Qx,RA.ev_same (r:=x) h]
 |nilck x=>simp only[Qx,RA.ev_same (r:=x) h]
 |un o x=>simp only[Qx,RA.ev_same (r:=x) h]
 |cvi k x=>simp only[Qx,RA.ev_same (r:=x) h]
 |b2s x=>simp only[Qx,RA.ev_same (r:=x) h]
 |faddr o x=>simp only[Qx,RA.ev_same (r:=x) h]
 |fld o k x=>simp only[Qx,RA.ev_same (r:=x) h]
 |ext x i=>simp only[Qx,RA.ev_same (r:=x) h]
 |toU x=>simp only[Qx,RA.ev_same (r:=x) h]
 |ofU t n x=>simp only[Qx,RA.ev_same (r:=x) h]
 |same x=>simp only[Qx,RA.ev_same (r:=x) h]
 |len k x=>simp only[Qx,RA.ev_same (r:=x) h]
 |bin t o x y=>simp only[Qx,RA.ev_same (r:=x) h.left,RA.ev_same (r:=y) h.right]
 |eqs n ks x y=>simp only[Qx,RA.ev_same (r:=x) h.left,RA.ev_same (r:=y) h.right]
 |iaddr sz len x y=>simp only[Qx,RA.ev_same (r:=x) h.left,RA.ev_same (r:=y) h.right]
 |idx x y=>simp only[Qx,RA.ev_same (r:=x) h.left,RA.ev_same (r:=y) h.right]
 |mget tx ok z x y=>simp only[Qx,RA.ev_same (r:=x) h.left,RA.ev_same (r:=y) h.right]
 |mgetp tx ok z x y=>simp only[Qx,RA.ev_same (r:=x) h.left,RA.ev_same (r:=y) h.right]
 |mki t x=>simp only[Qx,RA.ev_same (r:=x) h]
 |tas t ok z x=>simp only[Qx,RA.ev_same (r:=x) h]
 |mnx b x y=>simp only[Qx,RA.ev_same (r:=x) h.left,RA.ev_same (r:=y) h.right]
 |slc sz x lo hi mx=>
  have h1:=h.right.left;have h2:=h.right.right.left;have h3:=h.right.right.right;simp only[Qx,RA.ev_same (r:=x) h.left,Dv (r:=lo) h1,Dv (r:=hi) h2];cases mx with
  |none=>rfl
  |some r=>simp only[Dv (r:=some r) h3]
 |mkfn fn a b=>simp only[Qx,KC (rs:=a) h.left,KC (rs:=b) h.right]
 |slcl x hi mx=>simp only[Qx,RA.ev_same (r:=x) h.left,RA.ev_same (r:=hi) h.right.left,RA.ev_same (r:=mx) h.right.right]

inductive MC where
 |no
 |shape
 |rows
 |cell (l s:Nat)
 |outer
 |all
 deriving DecidableEq

def VO.mc:VO→MC
 |.load _ _=>.all
 |.loadv l s _ _=>.cell l s
 |.loado _ _=>.outer
 |.loadr _ _=>.rows
 |.b2s _=>.rows
 |.nilck _=>.shape
 |.faddr _ _=>.shape
 |.len _ _=>.shape
 |.slc .. => .shape
 |.iaddr .. => .shape
 |.toU _=>.all
 |.ofU .. => .all
 |.mget .. => .all
 |_=>.no

def Ob.sh:Ob→Option (Nat×Nat)
 |.vec g z _=>some (g,z)
 |_=>Option.none
def Ob.row:Ob→Option (Nat×Nat×List AV)
 |.vec g z xs=>some (g,z,xs)
 |_=>Option.none

def XA:MC→Qh→Qh→Prop
 |.no,_,_=>True
 |.shape,m,m'=>∀l s,(Qc m l s).sh=(Qc m' l s).sh
 |.rows,m,m'=>∀l s,(Qc m l s).row=(Qc m' l s).row
 |.cell l s,m,m'=>Qc m l s=Qc m' l s∨((Qc m l s).isRow=true∧(Qc m' l s).isRow=true)
 |.outer,m,m'=>∀l s,Qc m (l+1) s=Qc m' (l+1) s
 |.all,m,m'=>m=m'

theorem XA.refl (c:MC)(m:Qh):XA c m m:=by
 cases c<;>simp[XA]

theorem HK {m m':Qh}{l s:Nat}(h:(Qc m l s).sh=(Qc m' l s).sh):W9 m l s=W9 m' l s:=by
 unfold W9;cases h1:Qc m l s<;>cases h2:Qc m' l s<;>rw[h1,h2]at h<;>simp_all[Ob.sh]

theorem PF {m m':Qh}(h:XA .rows m m')(x:AV):QY m x=QY m' x:=by
 cases x with
 |vec l s g o n q=>
  have h:=h l s;simp only[QY];cases h1:Qc m l s<;>cases h2:Qc m' l s<;>rw[h1,h2]at h<;>simp_all[Ob.row]
 |_=>rfl

theorem Vi {m m':Qh}(h:XA .shape m m')(sz:Option Nat)(x:AV)(lo hi:Nat)(mx:Option Nat):XD m sz x lo hi mx=XD m' sz x lo hi mx:=by
 cases sz with
 |none=>rfl
 |some z=>
  cases x with
  |vec l s g o n q=>
   have h:=h l s;simp only[XD];cases h1:Qc m l s<;>cases h2:Qc m' l s<;>rw[h1,h2]at h<;>simp_all[Ob.sh]
  |_=>rfl

theorem Vj {m m':Qh}(h:XA .shape m m')(sz:Nat)(len:Option Nat)(x:AV)(i:Int):Qf m sz len x i=Qf m' sz len x i:=by
 unfold Qf;cases len with
 |none=>
  cases x with
  |vec l s g o n q=>
   have h:=h l s;simp only;cases h1:Qc m l s<;>cases h2:Qc m' l s<;>rw[h1,h2]at h<;>simp_all[Ob.sh]
  |_=>rfl
 |some k=>rfl

def AC (F:Nat→List AV→Option AV):Ob→Option AV
 |.vec g _ xs=>F g xs
 |_=>none

theorem Se {o o':Ob}(h:o.row=o'.row)(F:Nat→List AV→Option AV):AC F o=AC F o':=by
  cases o<;>cases o'<;>simp only[Ob.row,QmW,Prod.mk.injEq,reduceCtorEq]at h<;>first
    |rfl
    | (obtain⟨rfl,_,rfl⟩:=h
       rfl)

theorem Fg (m:Qh)(k:Option Nat)(l s g i o:Nat):Xf m k (.vptr l s g i o)=AC (fun g' xs=>if g=g' then match xs[i]? with
  |some e=>part e.cells o k
  |none=>none
 else none) (Qc m l s):=by
 simp only[Xf];cases Qc m l s<;>rfl

theorem LW {f:Fr}{m m':Qh}{vo:VO}(h:XA vo.mc m m'):Qx f m vo=Qx f m' vo:=by
 cases vo<;>simp only[VO.mc]at h<;>try rfl
 case load k x=>have h:m=m':=h;subst h;rfl
 case toU x=>have h:m=m':=h;subst h;rfl
 case ofU t n x=>have h:m=m':=h;subst h;rfl
 case mget tx ok z x i=>have h:m=m':=h;subst h;rfl
 case loado k x=>
  have h:∀l s,Qc m (l+1) s=Qc m' (l+1) s:=h;simp only[Qx];split
  ·simp only[Xf,h]
  ·rfl
 case loadv l s k x=>
  have h:Qc m l s=Qc m' l s∨((Qc m l s).isRow=true∧(Qc m' l s).isRow=true):=h;simp only[Qx];split
  ·split
   ·rename_i hh;obtain⟨rfl,rfl⟩:=hh;rcases h with h|⟨h1,h2⟩
    ·simp only[Xf,h]
    ·simp only[Xf];cases e1:Qc m _ _<;>cases e2:Qc m' _ _<;>rw[e1]at h1<;>rw[e2]at h2<;>first|rfl|(simp[Ob.isRow]at h1;done)|(simp[Ob.isRow]at h2;done)
   ·rfl
  ·rfl
 case b2s x=>simp only[Qx,PF h]
 case loadr k x=>
  simp only[Qx];split
  ·rfl
  ·rename_i l s g i o e;have h4:(Qc m l s).row=(Qc m' l s).row:=h l s;rw[Fg,Fg,Se h4]
  ·rfl
 case nilck x=>simp only[Qx,fun l s=>HK (h l s)]
 case faddr o x=>simp only[Qx,fun l s=>HK (h l s)]
 case len k x=>simp only[Qx,fun l s=>HK (h l s)]
 case slc sz x lo hi mx=>simp only[Qx,Vi h]
 case iaddr sz len x i=>simp only[Qx,Vj h]

mutual
theorem Fh {m m':Qh}(h:XA .rows m m'):∀x:AV,x.still false m=x.still false m'
 |.vec l s g o n q=>by
   have h:=h l s;simp only[AV.still];cases h1:Qc m l s<;>cases h2:Qc m' l s<;>rw[h1,h2]at h<;>simp_all[Ob.row]
 |.agg l=>by simp only[AV.still,WQ h l]
 |.tup l=>by simp only[AV.still,WQ h l]
 |.iface t x=>by simp only[AV.still,Fh h x]
 |.top|.int .. | .bool _|.str _|.nils|.nilp|.nilf|.nili|.nilm|.anyp|.list _|.lcap _|.fn .. | .ptr .. | .vptr .. | .rptr _|.mp .. => rfl
 |.mptr l s=>by simp only[AV.still,Qn1,QmO,if_false]
theorem WQ {m m':Qh}(h:XA .rows m m'):∀l:List AV,AV.stillL false m l=AV.stillL false m' l
 | []=>rfl
 |x :: l=>by simp only[AV.stillL,Fh h x,WQ h l]
end

def RO.pure:RO→Bool
 |.val _=>true
 |.callO .. => true
 |.bsl .. => true
 |.call _ _=>true
 |.usd _=>true
 |_=>false

def RO.mc:RO→MC
 |.val v=>v.mc
 |.call _ _=>.rows
 |.callO .. => .rows
 |.usd _=>.rows
 |.bsl .. => .no
 |_=>.all

section
variable {P:Program}

def Fi (P:Program)(op:RO)(st:St)(x:AV):Prop :=
 match op with
 |.val vo=>Qx st.f st.m vo=some x
 |.call f args=>∃k fa fb ys,f.ev st.f=.fn (.func k) fa fb∧AV.stillL false st.m (fa++args.map (RA.ev st.f)++fb)=some ys∧AV.rfL ys=true∧Qi P k ys x∧x.rf=true∧(AV.rfL (fa++args.map (RA.ev st.f)++fb)=true∨x.nl=true)
 |.callO l s f args=>∃k fa fb g z xs,f.ev st.f=.fn (.func k) fa fb∧Qc st.m l s=.vec g z xs∧∀m',Qc m' l s=.vec g z xs→Qd P k (fa++args.map (RA.ev st.f)++fb) m' (fun y m1=>y=x∧m1=m')
 |_=>False

def Zd (P:Program)(op:RO)(st:St)(x:AV)(m:Qh):Prop :=
 match op with
 |.val vo=>Qx st.f st.m vo=some x∧m=st.m
 |.call f args=>Fi P (.call f args) st x∧m=st.m
 |.callO l s f args=>Fi P (.callO l s f args) st x∧m=st.m
 |.allocN s z=>X0 st.m s=true∧x=.ptr 0 s 0∧m=Am.put st.m 0 s (.cells z)
 |.boxN s r=>X0 st.m s=true∧(r.ev st.f).cells.all AV.leaf=true∧x=.ptr 0 s 0∧m=Am.put st.m 0 s (.cells (r.ev st.f).cells)
 |.store n p r=>(r.ev st.f).cells.length=n∧(r.ev st.f).cells.all AV.leaf=true∧Xa st.m (p.ev st.f) (r.ev st.f).cells=some m∧x=.tup []
 |.storev l s n p r=>(∃o,p.ev st.f=.ptr l s o)∧(r.ev st.f).cells.length=n∧(r.ev st.f).cells.all AV.leaf=true∧Xa st.m (p.ev st.f) (r.ev st.f).cells=some m∧x=.tup []
 |.app sz bytes el s r=>∃l site g n xs ys,s.ev st.f=.vec l site g 0 n false∧Qc st.m l site=.vec g sz xs∧XY site el=true∧n≤xs.length∧QY st.m (r.ev st.f)=some ys∧ys.all (fun e=>e.cells.length==sz)=true∧n+ys.length≤maxLen∧(n+ys.length)*bytes≤140737488355328∧
   x=.vec l site (g+1) 0 (n+ys.length) false∧m=Am.put st.m l site (.vec (g+1) sz (xs.take n++ys))
 |.bsl sz len z ps=>(∃y,fill st.f ps (X9 z sz len)=some y∧AV.rfL y=true∧y.all AV.leaf=true∧x=.list (Zl sz len (y.map nn0)))∧m=st.m
 |.bslv site sz len z ps=>∃y,fill st.f ps (X9 z sz len)=some y∧AV.rfL y=true∧y.all AV.leaf=true∧Qn (Qc st.m 0 site)=true∧x=.vec 0 site (Qy st.m 0 site) 0 len false∧m=Am.put st.m 0 site (.vec (Qy st.m 0 site) sz (Zl sz len (y.map nn0)))
 |.bsl0 site sz=>Qn (Qc st.m 0 site)=true∧x=.vec 0 site (Qy st.m 0 site) 0 0 false∧m=Am.put st.m 0 site (.vec (Qy st.m 0 site) sz [])
 |.appc site sz bytes _ s r=>∃xs ys,s.ev st.f=.lcap xs∧QY st.m (r.ev st.f)=some ys∧ys≠[]∧xs.all (fun e=>e.cells.length==sz)=true∧ys.all (fun e=>e.cells.length==sz)=true∧xs.length+ys.length≤maxLen∧(xs.length+ys.length)*bytes≤140737488355328∧Qn (Qc st.m 0 site)=true∧
   x=.vec 0 site (Qy st.m 0 site) 0 (xs.length+ys.length) false∧m=Am.put st.m 0 site (.vec (Qy st.m 0 site) sz (xs++ys))
 |.callF f args=>∃k fa fb,f.ev st.f=.fn (.func k) fa fb∧Qd P k (fa++args.map (RA.ev st.f)++fb) st.m (fun y m'=>y=x∧m'=m)
 |.callK l s f args=>∃k fa fb,f.ev st.f=.fn (.func k) fa fb∧Qd P k (fa++args.map (RA.ev st.f)++fb) st.m (fun y m'=>y=x∧m'=m)∧Qc m l s=Qc st.m l s
 |.usd r=>(∃l s g n sz xs,2000≤s∧r.ev st.f=.vec l s g 0 n false∧Qc st.m l s=.vec g sz xs∧x=(if n=0 then .anyp else .vptr l s g 0 0))∧m=st.m
 |.ustr el p r=>(p.ev st.f=.anyp∧r.ev st.f=.int .i64 0∧x=.str []∧m=st.m)∨
   ∃l g n xs s,p.ev st.f=.vptr l (el+2000) g 0 0∧r.ev st.f=.int .i64 ((n:Nat):Int)∧Qc st.m l (el+2000)=.vec g 1 xs∧n≤xs.length∧n≠0∧xs.take n=Qr s∧x=.str s∧m=Am.put st.m l (el+2000) (.vec (g+1) 1 [])
 |_=>False

def RO.keeps:RO→Bool
 |.appS .. => false
 |.mk .. => false
 |.s2b .. => false
 |.isnil .. => false
 |.callG .. => false
 |.xb .. => false
 |.rngs .. => false
 |.nxts .. => false
 |.mkm .. => false
 |.mput .. => false
 |.clr .. => false
 |_=>true

theorem Vk {d:Option Nat}{op:RO}{st:St}{K:St→Prop}(hk:op.keeps=true):Hx P d op st K↔∃x m,Zd P op st x m∧K { st with m:=m,f:=Qj st.f d x }:=by
 cases op<;>simp only[RO.keeps,QmO]at hk<;>simp only[Hx,Zd,Fi]
 case val=>exact⟨fun⟨x,h,k⟩=>⟨x,_,⟨h,rfl⟩,k⟩,fun⟨x,m,⟨h,e⟩,k⟩=>by subst e;exact⟨x,h,k⟩⟩
 case allocN=>exact⟨fun⟨h,k⟩=>⟨_,_,⟨h,rfl,rfl⟩,k⟩,fun⟨x,m,⟨h,e,e'⟩,k⟩=>by subst e e';exact⟨h,k⟩⟩
 case boxN=>exact⟨fun⟨h,h',k⟩=>⟨_,_,⟨h,h',rfl,rfl⟩,k⟩,fun⟨x,m,⟨h,h',e,e'⟩,k⟩=>by subst e e';exact⟨h,h',k⟩⟩
 case store=>exact⟨fun⟨h1,h2,m',h3,k⟩=>⟨_,m',⟨h1,h2,h3,rfl⟩,k⟩,fun⟨x,m,⟨h1,h2,h3,e⟩,k⟩=>by subst e;exact⟨h1,h2,m,h3,k⟩⟩
 case storev=>exact⟨fun⟨h0,h1,h2,m',h3,k⟩=>⟨_,m',⟨h0,h1,h2,h3,rfl⟩,k⟩,fun⟨x,m,⟨h0,h1,h2,h3,e⟩,k⟩=>by subst e;exact⟨h0,h1,h2,m,h3,k⟩⟩
 case app=>exact⟨fun⟨l,site,g,n,xs,ys,h1,h2,ht,h3,h4,h5,h6,h7,k⟩=>⟨_,_,⟨l,site,g,n,xs,ys,h1,h2,ht,h3,h4,h5,h6,h7,rfl,rfl⟩,k⟩,fun⟨x,m,⟨l,site,g,n,xs,ys,h1,h2,ht,h3,h4,h5,h6,h7,e,e'⟩,k⟩=>by subst e e';exact⟨l,site,g,n,xs,ys,h1,h2,ht,h3,h4,h5,h6,h7,k⟩⟩
 case call=>exact⟨fun⟨k,fa,fb,ys,v,h1,h2,h3,h4,h5,h6,kk⟩=>⟨v,_,⟨⟨k,fa,fb,ys,h1,h2,h3,h4,h5,h6⟩,rfl⟩,kk⟩,fun⟨x,m,⟨⟨k,fa,fb,ys,h1,h2,h3,h4,h5,h6⟩,e⟩,kk⟩=>by subst e;exact⟨k,fa,fb,ys,x,h1,h2,h3,h4,h5,h6,kk⟩⟩
 case usd=>exact⟨fun⟨l,s,g,n,sz,xs,h0,h1,h2,k⟩=>⟨_,_,⟨⟨l,s,g,n,sz,xs,h0,h1,h2,rfl⟩,rfl⟩,k⟩,fun⟨x,m,⟨⟨l,s,g,n,sz,xs,h0,h1,h2,e⟩,e'⟩,k⟩=>by subst e e';exact⟨l,s,g,n,sz,xs,h0,h1,h2,k⟩⟩
 case ustr=>
  constructor
  ·rintro(⟨h1,h2,k⟩|⟨l,g,n,xs,s,h1,h2,h3,h4,h5,h6,k⟩)
   ·exact⟨_,_,.inl ⟨h1,h2,rfl,rfl⟩,k⟩
   ·exact⟨_,_,.inr ⟨l,g,n,xs,s,h1,h2,h3,h4,h5,h6,rfl,rfl⟩,k⟩
  ·rintro⟨x,m,⟨h1,h2,e,e'⟩|⟨l,g,n,xs,s,h1,h2,h3,h4,h5,h6,e,e'⟩,k⟩
   ·subst e e';exact .inl ⟨h1,h2,k⟩
   ·subst e e';exact .inr ⟨l,g,n,xs,s,h1,h2,h3,h4,h5,h6,k⟩
 case bsl=>exact⟨fun⟨y,h1,h2,h3,k⟩=>⟨_,_,⟨⟨y,h1,h2,h3,rfl⟩,rfl⟩,k⟩,fun⟨x,m,⟨⟨y,h1,h2,h3,e⟩,e'⟩,k⟩=>by subst e e';exact⟨y,h1,h2,h3,k⟩⟩
 case bslv=>exact⟨fun⟨y,h1,h2,h3,h4,k⟩=>⟨_,_,⟨y,h1,h2,h3,h4,rfl,rfl⟩,k⟩,fun⟨x,m,⟨y,h1,h2,h3,h4,e,e'⟩,k⟩=>by subst e e';exact⟨y,h1,h2,h3,h4,k⟩⟩
 case bsl0=>exact⟨fun⟨h1,k⟩=>⟨_,_,⟨h1,rfl,rfl⟩,k⟩,fun⟨x,m,⟨h1,e,e'⟩,k⟩=>by subst e e';exact⟨h1,k⟩⟩
 case appc=>exact⟨fun⟨xs,ys,h1,h2,h3,h4,h5,h6,h7,h8,k⟩=>⟨_,_,⟨xs,ys,h1,h2,h3,h4,h5,h6,h7,h8,rfl,rfl⟩,k⟩,fun⟨x,m,⟨xs,ys,h1,h2,h3,h4,h5,h6,h7,h8,e,e'⟩,k⟩=>by subst e e';exact⟨xs,ys,h1,h2,h3,h4,h5,h6,h7,h8,k⟩⟩
 case callK=>exact⟨fun⟨k,fa,fb,v,m',h1,h2,h3,kk⟩=>⟨v,m',⟨k,fa,fb,h1,h2,h3⟩,kk⟩,fun⟨x,m,⟨k,fa,fb,h1,h2,h3⟩,kk⟩=>⟨k,fa,fb,x,m,h1,h2,h3,kk⟩⟩
 case callO=>exact⟨fun⟨k,fa,fb,g,z,xs,v,h1,h2,h3,kk⟩=>⟨v,_,⟨⟨k,fa,fb,g,z,xs,h1,h2,h3⟩,rfl⟩,kk⟩,fun⟨x,m,⟨⟨k,fa,fb,g,z,xs,h1,h2,h3⟩,e⟩,kk⟩=>by subst e;exact⟨k,fa,fb,g,z,xs,x,h1,h2,h3,kk⟩⟩
 case callF=>exact⟨fun⟨k,fa,fb,v,m',h1,h2,kk⟩=>⟨v,m',⟨k,fa,fb,h1,h2⟩,kk⟩,fun⟨x,m,⟨k,fa,fb,h1,h2⟩,kk⟩=>⟨k,fa,fb,x,m,h1,h2,kk⟩⟩

def Z0 (P:Program)(it:Item)(st:St)(x:AV)(m:Qh):Prop :=
 match it.g with
 |none=>Zd P it.op st x m
 |some (j,want)=>match st.f j with
  |.bool b=>(b=want∧Zd P it.op st x m)∨(b=(!want)∧x=.tup []∧m=st.m)
  |.tup l=>l=[]∧x=.tup []∧m=st.m
  |_=>False

theorem J5 {it:Item}{st:St}{K:St→Prop}(hk:it.op.keeps=true):Zq P it st K↔∃x m,Z0 P it st x m∧K { st with m:=m,f:=Qj st.f it.dst x }:=by
 obtain⟨d,op,g⟩:=it;cases g with
 |none=>exact Vk hk
 |some p=>
  obtain⟨j,want⟩:=p;simp only[Zq,Z0];cases hj:st.f j with
  |bool b=>
   simp only;rw[Vk hk]
   constructor
   ·intro⟨h1,h2⟩;by_cases hb:b=want
    ·obtain⟨x,m,h,k⟩:=h1 hb;exact⟨x,m,.inl ⟨hb,h⟩,k⟩
    ·have hb':b=!want:=by cases b<;>cases want<;>first|rfl|exact absurd rfl hb
     exact⟨_,_,.inr ⟨hb',rfl,rfl⟩,h2 hb'⟩
   ·rintro⟨x,m,⟨hb,h⟩|⟨hb,rfl,rfl⟩,k⟩
    ·exact⟨fun _=>⟨x,m,h,k⟩,fun e=>by rw[hb]at e;cases want<;>cases e⟩
    ·exact⟨fun e=>(by rw[hb]at e;cases want<;>cases e),fun _=>k⟩
  |tup l=>
   constructor
   ·rintro⟨h,k⟩;exact⟨_,_,⟨h,rfl,rfl⟩,k⟩
   ·rintro⟨x,m,⟨h,rfl,rfl⟩,k⟩;exact⟨h,k⟩
  |_=>exact⟨fun h=>h.elim,fun⟨_,_,h,_⟩=>h.elim⟩

theorem Fj {op:RO}{f f':Fr}{m m':Qh}{ds ds':List DF}{x:AV}(h:Z8 op.sl f f')(k:Zd P op ⟨f,m,ds⟩ x m'):Zd P op ⟨f',m,ds'⟩ x m':=by
 cases op with
 |val vo=>simp only[Zd,AB (vo:=vo) h]at k ⊢;exact k
 |call g args=>simp only[Zd,Fi,RA.ev_same (r:=g) h.left,KC (rs:=args) h.right]at k ⊢;exact k
 |callK l s g args=>simp only[Zd,RA.ev_same (r:=g) h.left,KC (rs:=args) h.right]at k ⊢;exact k
 |callO l s g args=>simp only[Zd,Fi,RA.ev_same (r:=g) h.left,KC (rs:=args) h.right]at k ⊢;exact k
 |callF g args=>simp only[Zd,RA.ev_same (r:=g) h.left,KC (rs:=args) h.right]at k ⊢;exact k
 |allocN s z=>exact k
 |boxN s r=>simp only[Zd,RA.ev_same (r:=r) h]at k ⊢;exact k
 |store n p r=>simp only[Zd,RA.ev_same (r:=p) h.left,RA.ev_same (r:=r) h.right]at k ⊢;exact k
 |storev l s n p r=>simp only[Zd,RA.ev_same (r:=p) h.left,RA.ev_same (r:=r) h.right]at k ⊢;exact k
 |usd r=>simp only[Zd,RA.ev_same (r:=r) h]at k ⊢;exact k
 |ustr el p r=>simp only[Zd,RA.ev_same (r:=p) h.left,RA.ev_same (r:=r) h.right]at k ⊢;exact k
 |app sz bytes el s r=>simp only[Zd,RA.ev_same (r:=s) h.left,RA.ev_same (r:=r) h.right]at k ⊢;exact k
 |appc site sz bytes el s r=>simp only[Zd,RA.ev_same (r:=s) h.left,RA.ev_same (r:=r) h.right]at k ⊢;exact k
 |bsl sz len z ps=>simp only[Zd,Y0 (ps:=ps) h]at k ⊢;exact k
 |bslv site sz len z ps=>simp only[Zd,Y0 (ps:=ps) h]at k ⊢;exact k
 |bsl0 site sz=>exact k
 |_=>exact k.elim

theorem Yk {it:Item}{f f':Fr}{m m':Qh}{ds ds':List DF}{x:AV}(h:Z8 it.sl f f')(k:Z0 P it ⟨f,m,ds⟩ x m'):Z0 P it ⟨f',m,ds'⟩ x m':=by
 obtain⟨d,op,g⟩:=it;cases g with
 |none=>exact Fj (Z8.left h) k
 |some p=>
  obtain⟨j,want⟩:=p;have hj:f j=f' j:=(Z8.right h) j (by simp);simp only[Z0]at k ⊢;rw[←hj];cases he:f j with
  |bool b=>rw[he]at k;exact k.imp (fun h1=>⟨h1.1,Fj (Z8.left h) h1.2⟩) id
  |tup l=>rw[he]at k;exact k
  |_=>rw[he]at k;exact k

theorem Vl {op:RO}(hp:op.pure=true){f:Fr}{m m' m1:Qh}{ds ds':List DF}{x:AV}(h:XA op.mc m m')(k:Zd P op ⟨f,m,ds⟩ x m1):m1=m∧Zd P op ⟨f,m',ds'⟩ x m':=by
 cases op with
 |bsl sz len z ps=>obtain⟨k,e⟩:=k;exact⟨e,k,rfl⟩
 |val vo=>obtain⟨k,e⟩:=k;exact⟨e,by rw[←LW (f:=f) h];exact k,rfl⟩
 |call g args=>
  obtain⟨⟨k,fa,fb,ys,h1,h2,h3,h4,h5,h6⟩,e⟩:=k;refine⟨e,⟨k,fa,fb,ys,h1,?_,h3,h4,h5,h6⟩,rfl⟩;rw[←WQ h];exact h2
 |callO l s g args=>
  obtain⟨⟨k,fa,fb,g,z,xs,h1,h2,h3⟩,e⟩:=k;refine⟨e,⟨k,fa,fb,g,z,xs,h1,?_,h3⟩,rfl⟩;have h4:(Qc m l s).row=(Qc m' l s).row:=h l s;have h2:Qc m l s=.vec g z xs:=h2;show Qc m' l s=.vec g z xs;rw[h2]at h4;cases hl:Qc m' l s with
  |vec g' sz' xs'=>rw[hl]at h4;simp only[Ob.row,QmW,Prod.mk.injEq]at h4;obtain⟨rfl,rfl,rfl⟩:=h4;rfl
  |none=>rw[hl]at h4;cases h4
  |cells _=>rw[hl]at h4;cases h4
  |iter _ _=>rw[hl]at h4;cases h4
 |usd r=>
  obtain⟨⟨l,s,g,n,sz,xs,h0,h1,h2,h3⟩,e⟩:=k;refine⟨e,⟨l,s,g,n,sz,xs,h0,h1,?_,h3⟩,rfl⟩;have h4:(Qc m l s).row=(Qc m' l s).row:=h l s;have h2:Qc m l s=.vec g sz xs:=h2;show Qc m' l s=.vec g sz xs;rw[h2]at h4;cases hl:Qc m' l s with
  |vec g' sz' xs'=>rw[hl]at h4;simp only[Ob.row,QmW,Prod.mk.injEq]at h4;obtain⟨rfl,rfl,rfl⟩:=h4;rfl
  |none=>rw[hl]at h4;cases h4
  |cells _=>rw[hl]at h4;cases h4
  |iter _ _=>rw[hl]at h4;cases h4
 |_=>cases hp

theorem HL {it:Item}(hp:it.op.pure=true){f:Fr}{m m' m1:Qh}{ds ds':List DF}{x:AV}(h:XA it.op.mc m m')(k:Z0 P it ⟨f,m,ds⟩ x m1):m1=m∧Z0 P it ⟨f,m',ds'⟩ x m':=by
 obtain⟨d,op,g⟩:=it;cases g with
 |none=>exact Vl hp h k
 |some p=>
  obtain⟨j,want⟩:=p;simp only[Z0]at k ⊢;cases he:f j with
  |bool b=>
   rw[he]at k;rcases k with⟨h1,k⟩|⟨h1,h2,h3⟩
   ·obtain⟨a,b⟩:=Vl hp h k;exact⟨a,.inl ⟨h1,b⟩⟩
   ·exact⟨h3,.inr ⟨h1,h2,trivial⟩⟩
  |tup l=>rw[he]at k;exact⟨k.2.2,k.1,k.2.1,trivial⟩
  |_=>rw[he]at k;exact k.elim

def RO.lets (op:RO)(c:MC):Bool :=
 match op with
 |.val _=>true
 |.call _ _=>true
 |.callO .. => true
 |.store .. => c == .no||c == .shape
 |.storev l s _ _ _=>match c with
  |.cell l' s'=>l' != l||s' != s
  |.outer=>l==0
  |.all=>false
  |_=>true
 |.allocN s _=>match c with
  |.cell l' s'=>l' != 0||s' != s
  |.all=>false
  |_=>true
 |.boxN s _=>match c with
  |.cell l' s'=>l' != 0||s' != s
  |.all=>false
  |_=>true
 |.app .. => match c with
  |.no=>true
  |.cell _ _=>true
  |_=>false
 |.bsl .. => true
 |.bslv s _ _ _ _=>match c with
  |.no=>true
  |.cell l' s'=>l' != 0||s' != s
  |.outer=>true
  |_=>false
 |.bsl0 s _=>match c with
  |.no=>true
  |.cell l' s'=>l' != 0||s' != s
  |.outer=>true
  |_=>false
 |.appc s _ _ _ _ _=>match c with
  |.no=>true
  |.cell l' s'=>l' != 0||s' != s
  |.outer=>true
  |_=>false
 |.callF .. => c == .no
 |.callK l s _ _=>match c with
  |.no=>true
  |.cell l' s'=>l'==l&&s'==s
  |_=>false
 |.usd _=>true
 |.ustr .. => c == .no
 |_=>false

theorem Um {m:Qh}{l s:Nat}{o o':Ob}(hl:Qc m l s=o)(ho:o.row=none)(ho':o'.row=none)(hlt:l<m.length){c:MC}(hc:match c with
  |.cell l' s'=>(l' != l||s' != s)=true
  |.outer=>(l==0)=true
  |.all=>False
  |_=>True):XA c m (Am.put m l s o'):=by
 have key:∀l' s',(l'=l∧s'=s)∨Qc (Am.put m l s o') l' s'=Qc m l' s':=by
  intro l' s';by_cases hh:l'=l∧s'=s
  ·exact .inl hh
  ·exact .inr (QA (by omega))
 have hsh:∀ {x:Ob},x.row=none→x.sh=none:=by intro x;cases x<;>simp[Ob.row,Ob.sh]
 cases c with
 |no=>trivial
 |shape=>
  intro l' s';rcases key l' s' with⟨rfl,rfl⟩|e
  ·rw[Qo hlt,hl,hsh ho,hsh ho']
  ·rw[e]
 |rows=>
  intro l' s';rcases key l' s' with⟨rfl,rfl⟩|e
  ·rw[Qo hlt,hl,ho,ho']
  ·rw[e]
 |cell l' s'=>
  show Qc m l' s'=Qc _ l' s'∨_;rcases key l' s' with⟨rfl,rfl⟩|e
  ·simp at hc
  ·exact .inl e.symm
 |outer=>
  intro l' s';have hc:l=0:=by simpa using hc
  exact(QA (by omega)).symm
 |all=>exact hc.elim

theorem Sf {m:Qh}{s:Nat}(h:X0 m s=true):Qc m 0 s=.none:=by
 unfold X0 at h;split at h
 ·assumption
 ·cases h

end

theorem XA.symm {c:MC}{m m':Qh}(h:XA c m m'):XA c m' m:=by
 cases c with
 |no=>trivial
 |shape=>exact fun l s=>(h l s).symm
 |rows=>exact fun l s=>(h l s).symm
 |cell l s=>exact Or.imp Eq.symm And.symm h
 |outer=>exact fun l s=>(h l s).symm
 |all=>exact Eq.symm h

theorem Vm {m m':Qh}{p:AV}{ys:List AV}(h:Xa m p ys=some m'):XA .shape m m':=by
 cases p with
 |ptr l s o=>
  simp only[Xa]at h;split at h
  ·rename_i xs hlk;split at h
   ·split at h
    ·cases h;exact Um (c:=.shape) hlk rfl rfl (Q8 (by rw[hlk];simp)) trivial
    ·cases h
   ·cases h
  ·cases h
 |vptr l s g i o=>
  simp only[Xa]at h;split at h
  ·rename_i g' sz xs hlk;split at h
   ·rename_i hg;subst hg;split at h
    ·split at h
     ·cases h;intro l' s';by_cases hh:l'=l∧s'=s
      ·obtain⟨rfl,rfl⟩:=hh;rw[Qo (Q8 (by rw[hlk];simp)),hlk];rfl
      ·rw[QA (by omega)]
     ·cases h
    ·cases h
   ·cases h
  ·cases h
 |_=>simp[Xa]at h

section
variable {P:Program}{N:Nat}

theorem Vn {m:Qh}{s:Nat}{xs:List AV}(h:X0 m s=true){c:MC}(hc:match c with
  |.cell l' s'=>(l' != 0||s' != s)=true
  |.all=>False
  |_=>True):XA c m (Am.put m 0 s (.cells xs)):=by
 cases m with
 |nil=>exact XA.refl c _
 |cons fr m=>exact Um (Sf h) rfl rfl (by simp) (by cases c<;>first|exact hc|rfl)

theorem Fk {op:RO}{c:MC}(hc:op.lets c=true){st:St}{x:AV}{m:Qh}(h:Zd P op st x m):XA c st.m m:=by
 cases op with
 |val vo=>rw[h.2];exact XA.refl c _
 |call f args=>rw[h.2];exact XA.refl c _
 |callO l s f args=>rw[h.2];exact XA.refl c _
 |usd r=>rw[h.2];exact XA.refl c _
 |callK l s f args=>
  obtain⟨_,_,_,_,_,he⟩:=h;cases c with
  |no=>trivial
  |cell l' s'=>
   simp only[RO.lets,QmT,QmA]at hc;obtain⟨rfl,rfl⟩:=hc;exact .inl he.symm
  |_=>simp[RO.lets]at hc
 |ustr el p r=>
  simp only[RO.lets,QmA]at hc;subst hc;trivial
 |store n p r=>
  simp only[RO.lets,Qmy,QmA]at hc;rcases hc with rfl|rfl
  ·trivial
  ·exact Vm h.2.2.1
 |storev l s n p r=>
  obtain⟨⟨o,ho⟩,h1,h2,h3,h4⟩:=h;rw[ho]at h3;simp only[Xa]at h3;split at h3
  ·rename_i xs hlk;split at h3
   ·split at h3
    ·cases h3;refine Um hlk rfl rfl (Q8 (by rw[hlk];simp)) ?_;cases c<;>first|trivial|exact hc|cases hc
    ·cases h3
   ·cases h3
  ·cases h3
 |allocN s z=>
  rw[h.2.2];refine Vn h.1 ?_;cases c<;>first|trivial|exact hc|cases hc
 |boxN s r=>
  rw[h.2.2.2];refine Vn h.1 ?_;cases c<;>first|trivial|exact hc|cases hc
 |app sz bytes el s r=>
  obtain⟨l,site,g,n,xs,ys,_,hlk,_,_,_,_,_,_,_,rfl⟩:=h;cases c with
  |no=>trivial
  |cell l' s'=>
   show Qc st.m l' s'=Qc _ l' s'∨_;by_cases hh:l'=l∧s'=site
   ·obtain⟨rfl,rfl⟩:=hh;refine .inr ⟨by rw[hlk];rfl,?_⟩;rw[Qo (Q8 (by rw[hlk];simp))];rfl
   ·exact .inl (QA (by omega)).symm
  |_=>simp[RO.lets]at hc
 |bsl sz len z ps=>rw[h.2];exact XA.refl c _
 |bslv site sz len z ps=>
  obtain⟨y,_,_,_,_,_,rfl⟩:=h;cases c with
  |no=>trivial
  |cell l' s'=>
   simp only[RO.lets,Qmy,QmY]at hc;exact .inl (QA (by omega)).symm
  |outer=>exact fun l' s'=>(QA (.inl (Nat.succ_ne_zero l'))).symm
  |_=>simp[RO.lets]at hc
 |bsl0 site sz=>
  obtain⟨_,_,rfl⟩:=h;cases c with
  |no=>trivial
  |cell l' s'=>
   simp only[RO.lets,Qmy,QmY]at hc;exact .inl (QA (by omega)).symm
  |outer=>exact fun l' s'=>(QA (.inl (Nat.succ_ne_zero l'))).symm
  |_=>simp[RO.lets]at hc
 |appc site sz bytes el s r=>
  obtain⟨xs,ys,_,_,_,_,_,_,_,_,_,rfl⟩:=h;cases c with
  |no=>trivial
  |cell l' s'=>
   simp only[RO.lets,Qmy,QmY]at hc;exact .inl (QA (by omega)).symm
  |outer=>exact fun l' s'=>(QA (.inl (Nat.succ_ne_zero l'))).symm
  |_=>simp[RO.lets]at hc
 |callF f args=>
  simp only[RO.lets,QmA]at hc;subst hc;trivial
 |_=>exact h.elim

theorem Fl {it:Item}{c:MC}(hc:it.op.lets c=true){st:St}{x:AV}{m:Qh}(h:Z0 P it st x m):XA c st.m m:=by
 obtain⟨d,op,g⟩:=it;cases g with
 |none=>exact Fk hc h
 |some p=>
  obtain⟨j,want⟩:=p;simp only[Z0]at h;cases he:st.f j with
  |bool b=>
   rw[he]at h;rcases h with⟨_,h⟩|⟨_,_,h⟩
   ·exact Fk hc h
   ·rw[h];exact XA.refl c _
  |tup l=>rw[he]at h;rw[h.2.2];exact XA.refl c _
  |_=>rw[he]at h;exact h.elim

def GA (a b:Item):Bool :=
  (match a.dst with
   |some d=>!(b.sl.contains d)&&b.dst != some d
   |none=>true) &&
  (match b.dst with
   |some d=>!(a.sl.contains d)
   |none=>true)

def Vo (a b:Item):Bool :=
 match a.op,b.op,a.g,b.g with
 |.allocN s _,.allocN t _,none,none=>s != t
 |_,_,_,_=>false

def GB (a b:Item):Bool :=
 a.op.keeps&&b.op.keeps&&GA a b&&((a.op.pure&&b.op.lets a.op.mc)||(b.op.pure&&a.op.lets b.op.mc)||Vo a b)

theorem Vq {m:Qh}{s t:Nat}{o:Ob}(h:s≠t):X0 (Am.put m 0 s o) t=X0 m t:=by
 unfold X0;rw[QA (.inr (Ne.symm h))]
theorem AD {m:Qh}{s t:Nat}{o q:Ob}(h:s≠t):Am.put (Am.put m 0 s o) 0 t q=Am.put (Am.put m 0 t q) 0 s o:=by
 cases m with
 |nil=>rfl
 |cons fr m=>
  simp only[Am.put];congr 1
  funext i;by_cases h1:i=t
  ·subst h1;rw[QU,QX _ _ (Ne.symm h),QU]
  ·rw[QX _ _ h1];by_cases h2:i=s
   ·subst h2;rw[QU,QU]
   ·rw[QX _ _ h2,QX _ _ h2,QX _ _ h1]
theorem Mh {a b:Item}(h:Vo a b=true){st:St}{f:Fr}{x y:AV}{m m2:Qh}(ga:Z0 P a st x m)(gb:Z0 P b { st with m:=m,f:=f } y m2) :
  ∃m1,Z0 P b st y m1∧∀f',Z0 P a { st with m:=m1,f:=f' } x m2:=by
 obtain⟨da,oa,ga'⟩:=a;obtain⟨db,ob,gb'⟩:=b;unfold Vo at h;dsimp only at h;split at h
 ·rename_i s z t w;have hne:s≠t:=by simpa using h
  obtain⟨h1,rfl,rfl⟩:=ga;obtain⟨h2,rfl,rfl⟩:=gb;dsimp only at h2;rw[Vq hne]at h2;refine⟨_,⟨h2,rfl,rfl⟩,fun f'=>⟨?_,rfl,?_⟩⟩
  ·dsimp only;rw[Vq (Ne.symm hne)];exact h1
  ·exact AD hne
 ·cases h

theorem Nd {l:List Nat}{f:Fr}{d:Option Nat}{x:AV}(h:∀k,d=some k→k∉l):Z8 l f (Qj f d x):=by
 intro t ht;cases d with
 |none=>rfl
 |some k=>
  have:t≠k:=fun e=>h k rfl (e▸ht)
  show f t=QG f k x t;rw[QX _ _ this]

theorem Sg {f:Fr}{d e:Option Nat}{x y:AV}(h:∀k,d=some k→e≠some k):Qj (Qj f d x) e y=Qj (Qj f e y) d x:=by
 cases d with
 |none=>rfl
 |some d=>
  cases e with
  |none=>rfl
  |some e=>
   have hne:d≠e:=fun hh=>h d rfl (hh▸rfl)
   funext i;show QG (QG f d x) e y i=QG (QG f e y) d x i;by_cases h1:i=e
   ·subst h1;rw[QU,QX _ _ (Ne.symm hne),QU]
   ·rw[QX _ _ h1];by_cases h2:i=d
    ·subst h2;rw[QU,QU]
    ·rw[QX _ _ h2,QX _ _ h2,QX _ _ h1]

theorem PH {a b:Item}(h:GA a b=true):(∀k,a.dst=some k→k∉b.sl)∧(∀k,a.dst=some k→b.dst≠some k)∧(∀k,b.dst=some k→k∉a.sl):=by
 unfold GA at h;simp only[QmT]at h;refine⟨fun k e=>?_,fun k e=>?_,fun k e=>?_⟩
 ·have:=h.1;rw[e]at this;simp at this;exact this.1
 ·have:=h.1;rw[e]at this;simp at this;exact this.2
 ·have:=h.2;rw[e]at this;simpa using this

theorem PJ {a b:Item}(h:GB a b=true){st:St}{K:St→Prop}(k:Zq P a st fun s=>Zq P b s K):Zq P b st fun s=>Zq P a s K:=by
 unfold GB at h;simp only[QmT,Qmy]at h;obtain⟨⟨⟨ka,kb⟩,hap⟩,hor⟩:=h;obtain⟨h1,h2,h3⟩:=PH hap;rw[J5 ka]at k;obtain⟨x,m,ga,k⟩:=k;rw[J5 kb]at k;obtain⟨y,m2,gb,k⟩:=k;rw[J5 kb];have hs1:∀f:Fr,Z8 b.sl f (Qj f a.dst x):=fun f=>Nd h1
 have hs3:∀f:Fr,Z8 a.sl f (Qj f b.dst y):=fun f=>Nd h3
 have hsym:∀ {l f f'},Z8 l f f'→Z8 l f' f:=fun h t ht=>(h t ht).symm
 have hK:K { st with m:=m2,f:=Qj (Qj st.f b.dst y) a.dst x }:=by
  rw[←Sg h2];exact k
 rcases hor with(⟨pa,lb⟩|⟨pb,la⟩)|hf
 ·have e:m=st.m:=(HL (m':=st.m) (ds':=st.ds) pa (XA.refl _ _) ga).1;subst e;have gb':Z0 P b st y m2:=Yk (hsym (hs1 st.f)) gb;refine⟨y,m2,gb',?_⟩;rw[J5 ka];have ga':Z0 P a { st with m:=m2 } x m2:=(HL pa (Fl lb gb') ga).2;exact⟨x,m2,Yk (hs3 st.f) ga',hK⟩
 ·have hag:=Fl la ga;obtain⟨e,gb1⟩:=HL (m':=st.m) (ds':=st.ds) pb hag.symm gb;have e:m2=m:=e;subst e;have gb':Z0 P b st y st.m:=Yk (hsym (hs1 st.f)) gb1;refine⟨y,st.m,gb',?_⟩;rw[J5 ka];exact⟨x,m2,Yk (hs3 st.f) ga,hK⟩
 ·obtain⟨m1,gb',ga'⟩:=Mh hf ga gb;refine⟨y,m1,gb',?_⟩;rw[J5 ka];exact⟨x,m2,ga' _,hK⟩

theorem Sh {ops:Array Oper}{o:Oper}{i:Nat}(hi:ops[i]? = some o){it:Item}(hc:HI P N ops o it=true){st:St}{K:St→Prop}(h:Zq P it st K){G:Gh}{B:Nat}{a:Act}{w:World}(hr:Rel G B N st a w){KK:Act→World→Prop}{QQ:Exit→Act→World→Prop}
  (hk:∀G' st' a' w',K st'→Rel G' B N st' a' w'→Ext 1 G w G' w'→KK a' w'):wpOp P ops QQ i KK a w:=by
 have h1:Qu P N [it] st K:=Vg (UY (fun _ hs=>Qu.nil hs) h);have h2:=h1 ops [o] (by simp[Zw,hc]) G B a w hr (fun e a w=>match e with
  |.normal=>KK a w
  |e=>QQ e a w) (fun G' st' a' w' h1 h2 h3=>hk G' st' a' w' h1 h2 h3)
 unfold wpOp;simp only[hi];unfold wpList at h2;split
 ·rename_i hw;rw[QmD hw]at h2;rcases h2 with h2|h2
  ·left
   unfold Oper.wp at h2 ⊢;generalize (execOp a.eval o).run P w=r at h2 ⊢;cases r with
   |ok n w'=>
    cases n<;>simp only[Oper.upon]at h2 ⊢<;>first
     |exact h2
     |exact Calls.mono h2 (fun e w'' he=>by cases e<;>exact he)
   |halt x w'=>cases x<;>simp only[Oper.upon]at h2 ⊢<;>exact h2
  ·exact .inr h2
 ·rename_i hw;rw[QmC hw]at h2;exact h2

def Ya:Item:=⟨none,.val (.mov (.c .top)),none⟩
def UZ (its:List Item)(l:List Nat):List Item:=l.map fun i=>its.getD i Ya

theorem Si {its:List Item}{i:Nat}{post:List Nat}{Q:St→Prop}:∀ {pre:List Nat} {st:St},(∀p,p∈pre→GB (its.getD p Ya) (its.getD i Ya)=true)→
  QB P (UZ its (pre++i :: post)) st Q→Zq P (its.getD i Ya) st fun s=>QB P (UZ its (pre++post)) s Q
 | [],_,_,h=>h
 |p :: pre,st,hp,h=>by
  have h':Zq P (its.getD p Ya) st fun s=>QB P (UZ its (pre++i :: post)) s Q:=h
  have h2:=UY (fun s hs=>Si (fun q hq=>hp q (QmL _ hq)) hs) h';exact PJ (hp p (QmN ..)) h2

inductive Bef (ops:Array Oper):Nat→Nat→Prop
 |one {i:Nat} {o:Oper} {e:Edge} (ho:ops[i]? = some o) (he:e∈o.after) (hb:Region.binds .any e=true):Bef ops e.on i
 |more {i p:Nat} {o:Oper} {e:Edge} (ho:ops[i]? = some o) (he:e∈o.after) (hb:Region.binds .any e=true) (h:Bef ops p e.on):Bef ops p i

def PK (acc:List Nat)(m:Nat)(e:Edge):Nat:=if Region.binds .any e then(m ||| 2 ^ e.on) ||| acc.getD e.on 0 else m
def Sj (acc:List Nat)(o:Oper):Nat:=o.after.toList.foldl (PK acc) 0
def PM:List Oper→List Nat→List Nat
 | [],acc=>acc
 |o :: os,acc=>PM os (acc++[Sj acc o])

theorem Fm {acc:List Nat}{p:Nat}:∀(l:List Edge) (m:Nat),(l.foldl (PK acc) m).testBit p=true→m.testBit p=true∨∃e∈l,Region.binds .any e=true∧(p=e.on∨(acc.getD e.on 0).testBit p=true)
 | [],m,h=>.inl h
 |e :: l,m,h=>by
  rw[List.foldl_cons]at h;rcases Fm l _ h with h1|⟨e',h1,h2,h3⟩
  ·unfold PK at h1;split at h1
   ·rename_i hb;rw[Nat.testBit_or,Nat.testBit_or,Qmy,Qmy]at h1;rcases h1 with(h1|h1)|h1
    ·exact .inl h1
    ·rw[Nat.testBit_two_pow]at h1;exact .inr ⟨e,QmN ..,hb,.inl (of_decide_eq_true h1).symm⟩
    ·exact .inr ⟨e,QmN ..,hb,.inr h1⟩
   ·exact .inl h1
  ·exact .inr ⟨e',QmL _ h1,h2,h3⟩

theorem Vr {ops:Array Oper}:∀(l:List Oper) (acc:List Nat),ops.toList=ops.toList.take acc.length++l→acc.length+l.length=ops.size→(∀i p,(acc.getD i 0).testBit p=true→Bef ops p i)→∀i p,((PM l acc).getD i 0).testBit p=true→Bef ops p i
 | [],acc,_,_,h=>h
 |o :: l,acc,e,hn,h=>by
  have hlen:acc.length<ops.toList.length:=by simp at hn ⊢;omega
  have hat:ops[acc.length]? = some o:=by
   rw[←QmZ,e,QnX (by simp;omega)];simp;have:acc.length-min acc.length ops.size=0:=by simp at hlen;omega
   rw[this];rfl
  refine Vr l (acc++[Sj acc o]) ?_ (by simp at hn ⊢;omega) fun i p hb=>?_
  ·rw[Qm9,Qn2,QmP hlen,QmQ];have:ops.toList[acc.length]=o:=by
    have:=Qmv hlen;rw[QmZ,hat]at this;cases this;rfl
   rw[this];exact e
  ·rw[List.getD_eq_getElem?_getD]at hb;by_cases hi:i<acc.length
   ·rw[QnW hi,←List.getD_eq_getElem?_getD]at hb;exact h i p hb
   ·by_cases hi2:i=acc.length
    ·subst hi2;rw[QnX (Qms _)]at hb;simp only[Nat.sub_self,Qny,QnH]at hb;rcases Fm _ _ hb with h1|⟨e',h1,h2,h3⟩
     ·simp at h1
     ·rcases h3 with rfl|h3
      ·exact .one hat (by simpa using h1) h2
      ·exact .more hat (by simpa using h1) h2 (h _ _ h3)
    ·rw[QnU (by simp;omega)]at hb;simp at hb

def Bv (ops:Array Oper)(its:List Item):Bool :=
 (List.range ops.size).all fun i=>match ops[i]? with
  |some o=>o.after.all (fun e=>!Region.binds .any e||decide (e.on<i))&&(List.range i).all fun p=>((PM ops.toList []).getD i 0).testBit p||GB (its.getD p Ya) (its.getD i Ya)
  |none=>true

theorem Bef.listed {ops:Array Oper}{L:Nat→Prop}(hcl:∀q,L q→∀o e,ops[q]? = some o→e∈o.after→Region.binds .any e=true→L e.on){p i:Nat}(h:Bef ops p i)(hi:∀o e,ops[i]? = some o→e∈o.after→Region.binds .any e=true→L e.on):L p:=by
 induction h with
 |one ho he hb=>exact hi _ _ ho he hb
 |more ho he hb _ ih=>exact ih (hcl _ (hi _ _ ho he hb))

def WY (n:Nat)(listed:Array Bool):List Nat:=(List.range n).filter fun i=>!listed.getD i true

theorem Dw {ops:Array Oper}:∀ {l:List Oper} {its:List Item},Zw P N ops l its=true→l.length=its.length∧∀(i:Nat) (o:Oper),l[i]? = some o→HI P N ops o (its.getD i Ya)=true
 | [],its,h=>by
  cases its with
  |nil=>exact⟨rfl,by simp⟩
  |cons it its=>simp[Zw]at h
 |o :: l,its,h=>by
  cases its with
  |nil=>simp[Zw]at h
  |cons it its=>
   simp only[Zw,QmT]at h;obtain⟨e,h2⟩:=Dw h.2;refine⟨by simp[e],fun i o' ho=>?_⟩;cases i with
   |zero=>simp at ho;subst ho;exact h.1
   |succ i=>simpa using h2 i o' (by simpa using ho)

theorem AE {ops:Array Oper}{its:List Item}(hc:Zw P N ops ops.toList its=true)(hd:Bv ops its=true){B:Nat}{Q:St→Prop}{QQ:Exit→Act→World→Prop} :
  ∀(fuel:Nat) (listed:Array Bool),listed.size=ops.size→(∀q,listed.getD q false=true→∀o e,ops[q]? = some o→e∈o.after→Region.binds .any e=true→listed.getD e.on false=true)→(WY ops.size listed).length≤fuel→∀(st:St) (G:Gh) (a:Act) (w:World),QB P (UZ its (WY ops.size listed)) st Q→Rel G B N st a w→
   (∀G' st' a' w',Q st'→Rel G' B N st' a' w'→Ext 1 G w G' w'→QQ .normal a' w')→wpAny P .any ops QQ fuel listed a w:=by
 obtain⟨hlen,hcs⟩:=Dw hc;have hready:∀(listed:Array Bool) i,i∈Region.ready .any ops listed→i∈WY ops.size listed:=by
  intro listed i hi;obtain⟨h0,o,ho,_⟩:=mem_ready.1 hi;exact Qn3.2 ⟨Qn4.2 (QmB.1 ho).1,by simp[h0]⟩
 have hat:∀i,i<ops.size→∃o,ops[i]? = some o∧(∀e∈o.after,Region.binds .any e=true→e.on<i)∧∀p,p<i→Bef ops p i∨GB (its.getD p Ya) (its.getD i Ya)=true:=by
  intro i hi;refine⟨ops[i],QmM hi,?_⟩;have h1:=QmI.1 hd i (Qn4.2 hi);rw[QmM hi]at h1;simp only[QmT]at h1;refine⟨fun e he hb=>?_,fun p hp=>?_⟩
  ·have h2:=Array.all_eq_true_iff_forall_mem.1 h1.1 e he
   simpa [hb]using h2
  ·have h2:=QmI.1 h1.2 p (Qn4.2 hp);rw[Qmy]at h2;rcases h2 with h2|h2
   ·exact .inl (Vr ops.toList [] (by simp) (by simp) (fun i p hb=>by simp at hb) i p h2)
   ·exact .inr h2
 -- the first that is left is ready
 have hfirst:∀(listed:Array Bool),listed.size=ops.size→Region.ready .any ops listed=[]→WY ops.size listed=[]:=by
  intro listed hsz hr;cases hu:WY ops.size listed with
  |nil=>rfl
  |cons i rest=>
   exfalso;have hpw:(WY ops.size listed).Pairwise (· < ·):=List.Pairwise.filter _ List.pairwise_lt_range;have hi:i∈WY ops.size listed:=by rw[hu];exact QmN ..
   obtain⟨hi1,hi2⟩:=Qn3.1 hi;obtain⟨o,ho,h1,_⟩:=hat i (Qn4.1 hi1);have:i∈Region.ready .any ops listed:=by
    refine mem_ready.2 ⟨by simpa using hi2,o,ho,fun e he hb=>?_⟩;have hlt:=h1 e he hb;cases hg:listed.getD e.on false with
    |true=>rfl
    |false=>
     have hin:e.on∈WY ops.size listed:=by
      refine Qn3.2 ⟨Qn4.2 (Nat.lt_trans hlt (Qn4.1 hi1)),?_⟩;have hlt':e.on<listed.size:=by rw[hsz];exact Nat.lt_trans hlt (Qn4.1 hi1)
      simp[QmM hlt']at hg ⊢;exact hg
     rw[hu]at hin hpw;rcases QnS.1 hin with e'|e'
     ·omega
     ·have:=(Qn5.1 hpw).1 _ e';omega
   rw[hr]at this;cases this
 intro fuel
 induction fuel with
 |zero=>
  intro listed hsz hcl hl st G a w h hr hq;have hu:WY ops.size listed=[]:=QnB (by omega);refine⟨?_,?_⟩
  ·cases hx:Region.ready .any ops listed with
   |nil=>rfl
   |cons i r=>
    have:=hready listed i (by rw[hx];exact QmN ..);rw[hu]at this;cases this
  ·rw[hu]at h;exact hq G st a w h hr (Ext.refl 1 G w)
 |succ fuel ih=>
  intro listed hsz hcl hl st G a w h hr hq;refine⟨fun hx=>?_,fun i hi=>?_⟩
  ·rw[hfirst listed hsz hx]at h;exact hq G st a w h hr (Ext.refl 1 G w)
  ·have hiu:=hready listed i hi;obtain⟨pre,post,hsplit⟩:=List.append_of_mem hiu;have hpw:(WY ops.size listed).Pairwise (· < ·):=List.Pairwise.filter _ List.pairwise_lt_range;rw[hsplit]at h hpw;obtain⟨_,hp2,hp3⟩:=Qn6.1 hpw;obtain⟨hi1,hi2⟩:=Qn3.1 hiu;obtain⟨o,ho,h1,h2⟩:=hat i (Qn4.1 hi1);obtain⟨_,o',ho',h3⟩:=mem_ready.1 hi;rw[ho]at ho';cases ho';have hind:∀p,p∈pre→GB (its.getD p Ya) (its.getD i Ya)=true:=by
    intro p hp;rcases h2 p (hp3 p hp i (QmN ..))with hbef|h
    ·exfalso;have hl1:=hbef.listed (L:=fun q=>listed.getD q false=true) hcl (fun o2 e ho2 he hb=>by rw[ho]at ho2;cases ho2;exact h3 e he hb);have hpu:p∈WY ops.size listed:=by rw[hsplit];exact List.mem_append_left _ hp
     obtain⟨hr1,hr2⟩:=Qn3.1 hpu;have hlt':p<listed.size:=by rw[hsz];exact Qn4.1 hr1
     simp[QmM hlt']at hl1 hr2;rw[hl1]at hr2;cases hr2
    ·exact h
   have hb:=Si (P:=P) hind h;have hnext:WY ops.size (listed.setIfInBounds i true)=pre++post:=by
    have e1:WY ops.size (listed.setIfInBounds i true)=(WY ops.size listed).filter fun j=>j != i:=by
     unfold WY;rw[List.filter_filter];refine List.filter_congr fun j hj=>?_
     by_cases hji:j=i
     ·subst hji;have hlt':j<listed.size:=by rw[hsz];exact Qn4.1 hj
      simp[hlt']
     ·rw[getD_set_ne true (fun e=>hji e.symm)];simp[hji]
    rw[e1,hsplit,List.filter_append,Qn7];have e2:pre.filter (fun j=>j != i)=pre:=List.filter_eq_self.2 fun j hj=>by
     have:=hp3 j hj i (QmN ..);simp;omega
    have e3:post.filter (fun j=>j != i)=post:=List.filter_eq_self.2 fun j hj=>by
     have:=(Qn5.1 hp2).1 j hj;simp;omega
    rw[e2,e3];simp
   have hset:∀q,listed.getD q false=true→(listed.setIfInBounds i true).getD q false=true:=fun q hq'=>by
    by_cases hqi:q=i
    ·subst hqi;have hlt':q<listed.size:=by rw[hsz];exact Qn4.1 hi1
     simp[hlt']
    ·rw[getD_set_ne false (fun e=>hqi e.symm)];exact hq'
   have hcl':∀q,(listed.setIfInBounds i true).getD q false=true→∀o e,ops[q]? = some o→e∈o.after→Region.binds .any e=true→(listed.setIfInBounds i true).getD e.on false=true:=fun q hq' o2 e ho2 he2 hb2=>by
    by_cases hqi:q=i
    ·subst hqi;rw[ho]at ho2;cases ho2;exact hset _ (h3 e he2 hb2)
    ·rw[getD_set_ne false (fun e=>hqi e.symm)]at hq';exact hset _ (hcl q hq' o2 e ho2 he2 hb2)
   refine Sh ho (hcs i o (by simpa using ho)) hb hr fun G' st' a' w' hk hr' he=>?_
   refine ih (listed.setIfInBounds i true) (by simpa using hsz) hcl' ?_ st' G' a' w' (by rw[hnext];exact hk) hr' fun G2 st2 a2 w2 hq2 hr2 he2=>hq G2 st2 a2 w2 hq2 hr2 (he.trans he2)
   rw[hnext];rw[hsplit]at hl;simp only[Qm9,QmK]at hl ⊢;omega

theorem Sk {its:List Item}:UZ its (List.range its.length)=its:=by
 apply List.ext_getElem
 ·simp[UZ]
 ·intro i h1 h2;simp[UZ,h2]

theorem LX {ops:Array Oper}{its:List Item}(hm:P.follows .mixedOrders=true)(hc:Zw P N ops ops.toList its=true)(hd:Bv ops its=true){st:St}{Q:St→Prop}(h:QB P its st Q){G:Gh}{B:Nat}{a:Act}{w:World}(hr:Rel G B N st a w){QQ:Exit→Act→World→Prop}{id:Nat}
  (hq:∀G' st' a' w',Q st'→Rel G' B N st' a' w'→Ext 1 G w G' w'→QQ .normal a' w'):(Code.region id ops true).wp P QQ a w:=by
 refine wp_region_any hm ?_;have hlen:=(Dw hc).1;simp only[Qm1]at hlen;have hu:WY ops.size (Array.replicate ops.size false)=List.range its.length:=by
  unfold WY;rw[hlen];refine List.filter_eq_self.2 fun i hi=>?_
  simp[Qn4.1 hi]
 refine AE hc hd ops.size (Array.replicate ops.size false) (by simp) (fun q hq'=>by rw[QmF]at hq';simp[Array.getElem?_replicate]at hq';split at hq'<;>cases hq') (by rw[hu];simp[hlen]) st G a _ (by rw[hu,Sk];exact h) hr.drew fun G' st' a' w' h1 h2 h3=>hq G' st' a' w' h1 h2 ((Ext.drew G w).trans h3)

end

theorem Bw {P:Program}{Q:Exit→Act→World→Prop}{a:Act}{w:World}{c rest:Code}(l:Nat)(J:Nat→Act→World→Prop)(hf:findLabel c l=some rest)
  (first:c.wp P (Exit.jump l (fun a' w'=>∃n,J n a' w') Q) a w)
  (pass:∀n a w,J n a w→rest.wp P (Exit.jump l (fun a' w'=>∃k,k<n∧J k a' w') Q) a w):(Code.scope c).wp P Q a w:=by
 intro b k cs;have hg:gotoIn l (.inScope c :: k)=some (.code rest :: .inScope c :: k):=by simp[gotoIn,hf]
 have key:∀n a w,J n a w→∃e a' w',Q e a' w'∧Arrives P (lone (b.at a (.code rest :: .inScope c :: k)) cs w) b k cs e a' w':=by
  intro n
  induction n using Nat.strongRecOn with
  |_ n ih=>
   intro a w hJ;obtain⟨e,a₁,w₁,hq,harr⟩:=pass n a w hJ b (.inScope c :: k) cs;cases e with
   |normal=>exact⟨.normal,a₁,w₁,hq,Steps.trans harr (.one step_inScope)⟩
   |exit id=>exact⟨.exit id,a₁,w₁,hq,fun k' hk=>harr k' (by simp[exitTo,hk])⟩
   |goto l'=>
    obtain⟨rfl,j,hlt,hJ'⟩:=hq;obtain⟨e₂,a₂,w₂,hq₂,harr₂⟩:=ih j hlt a₁ w₁ hJ';exact⟨e₂,a₂,w₂,hq₂,.of_steps (harr _ hg) harr₂⟩
   |ret=>exact⟨_,a₁,w₁,hq,harr⟩
   |panic ch=>exact⟨_,a₁,w₁,hq,harr⟩
   |outgrown=>exact⟨_,a₁,w₁,hq,harr⟩
 obtain⟨e,a₁,w₁,hq,harr⟩:=first b (.inScope c :: k) cs
 cases e with
 |normal=>exact⟨.normal,a₁,w₁,hq,.head step_scope (Steps.trans harr (.one step_inScope))⟩
 |exit id=>exact⟨.exit id,a₁,w₁,hq,fun k' hk=>.head step_scope (harr k' (by simp[exitTo,hk]))⟩
 |goto l'=>
  obtain⟨rfl,n,hJ⟩:=hq;obtain⟨e₂,a₂,w₂,hq₂,harr₂⟩:=key n a₁ w₁ hJ;exact⟨e₂,a₂,w₂,hq₂,.of_steps (.one step_scope) (.of_steps (harr _ hg) harr₂)⟩
 |ret=>exact⟨_,a₁,w₁,hq,.of_steps (.one step_scope) harr⟩
 |panic ch=>exact⟨_,a₁,w₁,hq,.of_steps (.one step_scope) harr⟩
 |outgrown=>exact⟨_,a₁,w₁,hq,.of_steps (.one step_scope) harr⟩

def X3 (P:Program)(N:Nat):RC→Code→Bool
 |.gho _ r,c=>X3 P N r c
 |.no,_=>true
 |.skip,c=>match c with
  |.skip=>true
  |_=>false
 |.goto l,c=>match c with
  |.goto i=>i==l
  |_=>false
 |.jump l a b,c=>match c with
  |.scope x=>X3 P N a x&&(match findLabel x l with
   |some y=>X3 P N b y
   |none=>false)
  |_=>false
 |.reg its,c=>match c with
  |.region _ ops false=>Zw P N ops ops.toList its
  |_=>false
 |.draw its,c=>match c with
  |.region _ ops true=>P.follows .mixedOrders&&Zw P N ops ops.toList its&&Bv ops its
  |_=>false
 |.seq a b,c=>match c with
  |.seq x y=>X3 P N a x&&X3 P N b y
  |_=>false
 |.cond r a b,c=>match c with
  |.cond o x y=>QH o r&&X3 P N a x&&X3 P N b y
  |_=>false
 |.block i a,c=>match c with
  |.block j x=>i==j&&X3 P N a x
  |_=>false
 |.loop a,c=>match c with
  |.loop x=>X3 P N a x
  |_=>false
 |.exit i,c=>match c with
  |.exit j=>i==j
  |_=>false
 |.scope a,c=>match c with
  |.scope x=>X3 P N a x
  |_=>false
 |.lab,c=>match c with
  |.label _=>true
  |_=>false
 |.ret,c=>match c with
  |.ret=>true
  |_=>false

section
variable {P:Program}{N B:Nat}

theorem Vs:∀ {rc:RC} {c:Code} {st:St} {Q:Exit→St→Prop},QR P rc st Q→X3 P N rc c=true→∀ {G:Gh} {a:Act} {w:World},Rel G B N st a w→∀ {QQ:Exit→Act→World→Prop},
  (∀e G' st' a' w',Q e st'→Rel G' B N st' a' w'→Ext 1 G w G' w'→QQ e a' w')→c.wp P QQ a w:=by
 intro rc
 induction rc with
 |skip=>
  intro c st Q h hc G a w hr QQ hq;cases c<;>simp only[X3,QmO]at hc;exact wp_skip (hq _ _ _ _ _ h hr (Ext.refl 1 G w))
 |reg its=>
  intro c st Q h hc G a w hr QQ hq;cases c<;>simp only[X3,QmO]at hc;rename_i id ops d;cases d<;>simp only[QmO]at hc;refine wp_region_list ?_;exact My (N:=N) h ops ops.toList hc G B a w hr QQ fun G' st' a' w' h1 h2 h3=>hq _ _ _ _ _ h1 h2 h3
 |draw its=>
  intro c st Q h hc G a w hr QQ hq;cases c<;>simp only[X3,QmO]at hc;rename_i id ops d;cases d<;>simp only[QmO,QmT]at hc;exact LX hc.1.1 hc.1.2 hc.2 h hr fun G' st' a' w' h1 h2 h3=>hq _ _ _ _ _ h1 h2 h3
 |seq x y ihx ihy=>
  intro c st Q h hc G a w hr QQ hq;cases c<;>simp only[X3,QmO,QmT]at hc;refine wp_seq (ihx h hc.1 hr fun e G' st' a' w' h1 h2 h3=>?_);cases e with
  |normal=>exact ihy h1 hc.2 h2 fun e G2 st2 a2 w2 k1 k2 k3=>hq _ _ _ _ _ k1 k2 (h3.trans k3)
  |_=>exact hq _ _ _ _ _ h1 h2 h3
 |cond r x y ihx ihy=>
  intro c st Q h hc G a w hr QQ hq;cases c<;>simp only[X3,QmO,QmT]at hc;rename_i o cx cy;obtain⟨t,ht,h1,h2⟩:=h;have hv:=Qs hr hc.1.1;rw[ht]at hv;have hv':a.eval o=.bool t:=by
   generalize a.eval o=v at hv;cases hv;rfl
  refine wp_cond_split hv' (fun e=>?_) (fun e=>?_)
  ·exact ihx (h1 e) hc.1.2 hr hq
  ·exact ihy (h2 e) hc.2 hr hq
 |block i x ih=>
  intro c st Q h hc G a w hr QQ hq;cases c<;>simp only[X3,QmO,QmT,QmA]at hc;obtain⟨rfl,hc⟩:=hc;refine wp_block (ih h hc hr fun e G' st' a' w' h1 h2 h3=>?_);cases e with
  |exit j=>
   simp only[Exit.inBlock];simp only[Kb]at h1;split
   ·rename_i hh;rw[QmD hh]at h1;exact hq _ _ _ _ _ h1 h2 h3
   ·rename_i hh;rw[QmC hh]at h1;exact hq _ _ _ _ _ h1 h2 h3
  |_=>exact hq _ _ _ _ _ h1 h2 h3
 |loop x ih=>
  intro c st Q h hc G a w hr QQ hq;cases c<;>simp only[X3,QmO]at hc;obtain⟨I,n,h0,hI⟩:=h;refine wp_loop_ghost (fun k a' w'=>∃G' st',I k st'∧Rel G' B N st' a' w'∧Ext 1 G w G' w') n ⟨G,st,h0,hr,Ext.refl 1 G w⟩ ?_;rintro k a' w' ⟨G',st',i1,i2,i3⟩;refine ih (hI k st' i1) hc i2 fun e G2 st2 a2 w2 h1 h2 h3=>?_
  cases e with
  |normal=>
   obtain⟨k',hk,hi⟩:=h1;exact⟨k',hk,G2,st2,hi,h2,i3.trans h3⟩
  |_=>exact hq _ _ _ _ _ h1 h2 (i3.trans h3)
 |exit i=>
  intro c st Q h hc G a w hr QQ hq;cases c<;>simp only[X3,QmO,QmA]at hc;subst hc;exact wp_exit (hq _ _ _ _ _ h hr (Ext.refl 1 G w))
 |scope x ih=>
  intro c st Q h hc G a w hr QQ hq;cases c<;>simp only[X3,QmO]at hc;refine wp_scope_straight (ih h hc hr fun e G' st' a' w' h1 h2 h3=>?_);cases e with
  |goto l=>exact h1.elim
  |_=>exact hq _ _ _ _ _ h1 h2 h3
 |goto l=>
  intro c st Q h hc G a w hr QQ hq;cases c<;>simp only[X3,QmO,QmA]at hc;subst hc;exact wp_goto (hq _ _ _ _ _ h hr (Ext.refl 1 G w))
 |jump l x y ih ih2=>
  intro c st Q h hc G a w hr QQ hq;cases c<;>simp only[X3,QmO,QmT]at hc;obtain⟨hc1,hc2⟩:=hc;split at hc2
  case h_2=>cases hc2
  rename_i z hz;obtain⟨I,h0,hI⟩:=h;refine Bw l (fun k a' w'=>∃G' st',I k st'∧Rel G' B N st' a' w'∧Ext 1 G w G' w') hz ?_ ?_
  ·refine ih h0 hc1 hr fun e G2 st2 a2 w2 h1 h2 h3=>?_
   cases e with
   |goto i=>exact⟨h1.1,h1.2.imp fun n hn=>⟨G2,st2,hn,h2,h3⟩⟩
   |_=>exact hq _ _ _ _ _ h1 h2 h3
  ·rintro k a' w' ⟨G',st',i1,i2,i3⟩;refine ih2 (hI k st' i1) hc2 i2 fun e G2 st2 a2 w2 h1 h2 h3=>?_
   cases e with
   |goto i=>exact⟨h1.1,h1.2.imp fun n hn=>⟨hn.1,G2,st2,hn.2,h2,i3.trans h3⟩⟩
   |_=>exact hq _ _ _ _ _ h1 h2 (i3.trans h3)
 |lab=>
  intro c st Q h hc G a w hr QQ hq;cases c<;>simp only[X3,QmO]at hc;exact wp_label (hq _ _ _ _ _ h hr (Ext.refl 1 G w))
 |ret=>
  intro c st Q h hc G a w hr QQ hq;cases c<;>simp only[X3,QmO]at hc;exact wp_ret (hq _ _ _ _ _ h hr (Ext.refl 1 G w))
 |gho g x ih=>
  intro c st Q h hc G a w hr QQ hq;obtain⟨st',hg,h⟩:=h;obtain⟨G',h1,h2⟩:=AA hr hg;exact ih h hc h1 fun e G2 st2 a2 w2 k1 k2 k3=>hq _ _ _ _ _ k1 k2 (h2.trans k3)
 |no=>
  intro c st Q h;exact h.elim

theorem MR.out {G:Gh}{fr:Nat→Ob}{m:Qh}{w:World}(h:MR G (fr :: m) w){S:Nat→Prop}(hS:∀b,S b→(∃s,G.vm 0 s=some b)∨∃s,G.nm 0 s=some b):MR ((G.pub w S).dn 1) m w:=by
 have hnS:∀l s b,G.nm (l+1) s=some b→¬S b:=fun l s b e hs=>by
  rcases hS b hs with⟨s',e'⟩|⟨s',e'⟩
  ·exact h.inj3 _ _ _ _ _ e e'
  ·have:=(h.inj1 _ _ _ _ _ e e').1;omega
 have hvS:∀l s b,G.vm (l+1) s=some b→¬S b:=fun l s b e hs=>by
  rcases hS b hs with⟨s',e'⟩|⟨s',e'⟩
  ·have:=(h.inj2 _ _ _ _ _ e e').1;omega
  ·exact h.inj3 _ _ _ _ _ e' e
 have hgle:Gle G (G.pub w S):=Gh.pub_gle h.stab;refine⟨fun b o v e=>?_,fun l s xs e=>?_,fun l s b e=>?_,fun l s g sz xs e=>?_,fun l s b e=>?_,fun l s e=>?_,fun l s l' s' b e e'=>?_,fun l s l' s' b e e'=>?_,fun l s l' s' b e e'=>?_,fun l s t p e=>h.iter (l+1) s t p e⟩
 ·have e:(G.pub w S).stab b o=some v:=e;by_cases hs:S b∧∀o,Jb b o=none
  ·rw[Gh.pub_c hs]at e;exact NW e
  ·rw[Gh.pub_n hs]at e;exact h.stab b o v e
 ·obtain⟨b,cs,e',hc,hr⟩:=h.cells (l+1) s xs e;refine⟨b,cs,e',hc,?_⟩;rw[Gh.dn_dn];exact hr.mono (hgle.dn (l+1))
 ·obtain⟨h1,h2⟩:=h.nm (l+1) s b e;refine⟨h1,fun o=>?_⟩;show(G.pub w S).stab b o=none;rw[Gh.pub_out (hnS _ _ _ e)];exact h2 o
 ·obtain⟨a1,a2,a3,a4⟩:=h.vec (l+1) s g sz xs e;exact⟨a1,a2,a3,a4.imp id fun⟨b,e',r⟩=>⟨b,e',r.of rfl fun vs hv=>RepL.rfd (G:=G) (G':=(G.pub w S).dn 1) hgle.stab a3.rf hv⟩⟩
 ·obtain⟨h1,h2⟩:=h.vm (l+1) s b e;refine⟨h1,fun o=>?_⟩;show(G.pub w S).stab b o=none;rw[Gh.pub_out (hvS _ _ _ e)];exact h2 o
 ·exact h.gone (l+1) s e
 ·obtain⟨h1,h2⟩:=h.inj1 _ _ _ _ _ e e';exact⟨by omega,h2⟩
 ·obtain⟨h1,h2⟩:=h.inj2 _ _ _ _ _ e e';exact⟨by omega,h2⟩
 ·exact h.inj3 _ _ _ _ _ e e'

def Zm (rs:List RR)(n:Nat)(R:AV→Qh→Prop):Exit→St→Prop:=fun e st=>
 (e=.normal∨e=.ret)∧st.ds=[]∧∃x y fr m,K4 st rs=some x∧WP st.m x=some y∧st.m=fr :: m∧m.length=n∧R y m

theorem Mi {G:Gh}{args:List AV}{vs:List Value}(h:RepL G args vs){N:Nat}(i:Nat):Rep G.up (Vb (AV.shL args) i) (((vs.toArray++Array.replicate (N-vs.toArray.size) undef):Array Value).getD i undef):=by
 have h':RepL G.up (AV.shL args) vs:=RepL.sh (G:=G.up) (by rw[Gh.up_dn];exact h);have hl:=h'.length;unfold Vb;by_cases hi:i<vs.length
 ·obtain⟨x,e,hx⟩:=h'.back (Qmv hi);rw[e];simp only[QnH,QmF];rw[Array.getElem?_append_left (by simpa using hi)]
  simpa [hi]using hx
 ·rw[QnU (by omega)];simp only[Qn8,QmF];rw[Array.getElem?_append_right (by simpa using hi)];cases hx:(Array.replicate (N-vs.toArray.size) undef)[i-vs.toArray.size]? with
  |none=>exact .tup .nil
  |some v=>
   have:=QmB.1 hx;obtain⟨_,h2⟩:=this;simp at h2;subst h2;exact .tup .nil

theorem HM {fn:Func}{args:List AV}{m:Qh}{G:Gh}{w:World}{vs:List Value}(hvs:RepL G args vs)(hm:MR G m w)(hN:fn.ntmps=N)(ha:args.length≤N) :
  Rel G.up w.heap.size N (St.enter args m) { tmps:=vs.toArray++Array.replicate (fn.ntmps-vs.toArray.size) undef,defers:=[] } w:=by
 have hlen:=hvs.length;refine⟨hm.up,?_,fun i=>Mi hvs i,.nil,fun s b e=>?_,Qms _,by simp[St.enter]⟩
 ·simp;omega
 ·rcases e with e|e<;>cases e

theorem Bx {fn:Func}{rs:List RR}{G G':Gh}{m m':Qh}{w w':World}{st':St}{a':Act}{fr:Nat→Ob}{x y:AV}{R:AV→Qh→Prop}(hr:Jv P fn.results.toList rs=true)(hr':Rel G' w.heap.size N st' a' w')(he:Ext 1 G.up w G' w')
  (hx:K4 st' rs=some x) (hy:WP st'.m x=some y) (hst:st'.m=fr :: m') (hml:m'.length=m.length) (hR:R y m') :
  ∃v,(results fn a'.tmps).run P w'=.ok v w'∧(∃G'' x v' m'',(Ending.returned v)=.returned v'∧R x m''∧Rep G'' x v'∧MR G'' m'' w'∧Ext 0 G w G'' w'∧m''.length=m.length):=by
 obtain⟨v,hrun,hv⟩:=LS (P:=P) hr' hr hx
 let S:Nat→Prop:=fun b=>(∃s,G'.vm 0 s=some b)∨∃s,G'.nm 0 s=some b
 have hmr:=hr'.mr;have hSt:∀l s b,(true&&l != 0)=false→G'.vm l s=some b→S b:=by
  intro l s b hl e;have:l=0:=by simpa using hl
  subst this;exact .inl ⟨s,e⟩
 unfold WP at hy;rw[Option.bind_eq_some_iff]at hy;obtain⟨z,hz,hy⟩:=hy;have hv2:=Rep.un (Dt hmr (own:=true) (S:=S) hSt (fun _ s b _ _ _ e _=>.inr ⟨s,e⟩) hv z hz) y hy;rw[hst]at hmr;have hout:=hmr.out (S:=S) (fun b hs=>hs);have hmine:∀b,((G'.pub w' S).dn 1).mine b→G'.mine b:=by
  rintro b (⟨l,s,e⟩|⟨l,s,e⟩)
  ·exact .inl ⟨l+1,s,e⟩
  ·exact .inr ⟨l+1,s,e⟩
 have hext:Ext 0 G w ((G'.pub w' S).dn 1) w':=by
  refine⟨he.os,he.tape,he.output,he.size,fun b o v e=>?_,fun l s _=>he.nm (l+1) s (by omega),fun l s=>he.vg (l+1) s,fun l s e=>he.vs (l+1) s e,fun b hb hnm=>?_,fun b hb=>?_,fun l s b e=>?_⟩
  ·exact(Gh.pub_gle (S:=S) hr'.mr.stab).stab b o v (he.stab b o v e)
  ·obtain⟨h1,h2⟩:=he.old b hb (fun hx=>hnm (Gh.up_mine.1 hx));refine⟨h1,fun o=>?_⟩;have hnS:¬S b:=by
    rintro(⟨s,e⟩|⟨s,e⟩)
    ·have:=hr'.base s b (.inr e);omega
    ·have:=hr'.base s b (.inl e);omega
   show(G'.pub w' S).stab b o=G.stab b o;rw[Gh.pub_out hnS];exact h2 o
  ·rcases he.mine b (hmine b hb)with h1|h1
   ·exact .inl (Gh.up_mine.1 h1)
   ·exact .inr h1
  ·rcases he.mv (l+1) s b e with⟨i,t,hi,h1⟩|h1
   ·cases i with
    |zero=>cases h1
    |succ i=>exact .inl ⟨i,t,by omega,h1⟩
   ·exact .inr h1
 exact⟨v,hrun,_,y,v,m',rfl,hR,hv2,hout,hext,hml⟩

theorem Hy {k:FuncId} {fn:Func} {c:Code} {rc:RC} {rs:List RR} {args:List AV} {m:Qh} {R:AV→Qh→Prop} (hf:P.funcs[k]? = some fn) (hb:fn.body=some c) (hn:(fn.name == "runtime.NumGoroutine")=false) (hN:fn.ntmps=N) (hc:X3 P N rc c=true) (hr:Jv P fn.results.toList rs=true)
  (ha:args.length≤N) (h:QR P rc (St.enter args m) (Zm rs m.length R)):Qd P k args m R:=by
 refine⟨⟨fn,hf,hn,by rw[hb];rfl⟩,fun G w vs hvs hm=>?_⟩;refine calls_of_wp hf hb ?_;refine Vs h hc (HM hvs hm hN ha) fun e G' st' a' w' hq hr' he=>?_
 obtain⟨hex,hds,x,y,fr,m',hx,hy,hst,hml,hR⟩:=hq;have hdef:a'.defers=[]:=by
  have:=hr'.ds;rw[hds]at this;cases hd:a'.defers with
  |nil=>rfl
  |cons d l=>rw[hd]at this;cases this
 have hfin:=Bx (R:=R) hr hr' he hx hy hst hml hR;rcases hex with rfl|rfl
 ·exact⟨hdef,hfin⟩
 ·exact⟨hdef,hfin⟩

def Yv (P:Program)(k:FuncId)(args:List AV)(m:Qh)(R:AV→Qh→Prop):Prop :=
 UW P k∧∀(G:Gh) (w:World) (vs:List Value),RepL G args vs→MR G m w→∀u,CallsD P k ⟨vs⟩ u w fun e u' w'=>u'=u∧∃G' x v m',e=.returned v∧R x m'∧Rep G' x v∧MR G' m' w'∧Ext 0 G w G' w'∧m'.length=m.length

theorem Bz {k:FuncId} {fn:Func} {c:Code} {rc:RC} {rs:List RR} {args:List AV} {m:Qh} {R:AV→Qh→Prop} (hf:P.funcs[k]? = some fn) (hb:fn.body=some c) (hn:(fn.name == "runtime.NumGoroutine")=false) (hN:fn.ntmps=N) (hc:X3 P N rc c=true) (hr:Jv P fn.results.toList rs=true)
  (ha:args.length≤N) (h:QR P rc (St.enter args m) (Zm rs m.length R)):Yv P k args m R:=by
 refine⟨⟨fn,hf,hn,by rw[hb];rfl⟩,fun G w vs hvs hm u=>?_⟩;refine callsD_of_wp (R:=fun e w'=>∃G' x v m',e=.returned v∧R x m'∧Rep G' x v∧MR G' m' w'∧Ext 0 G w G' w'∧m'.length=m.length) hf hb ?_;refine Vs h hc (HM hvs hm hN ha) fun e G' st' a' w' hq hr' he=>?_
 obtain⟨hex,hds,x,y,fr,m',hx,hy,hst,hml,hR⟩:=hq;have hdef:a'.defers=[]:=by
  have:=hr'.ds;rw[hds]at this;cases hd:a'.defers with
  |nil=>rfl
  |cons d l=>rw[hd]at this;cases this
 have hfin:=Bx (R:=R) hr hr' he hx hy hst hml hR;rcases hex with rfl|rfl
 ·exact⟨hdef,hfin⟩
 ·exact⟨hdef,hfin⟩

def GC (P:Program)(rs:List RR)(n:Nat)(R:AV→Qh→Prop)(f:Fr):List DF→Qh→Prop
 | [],m=>∃x y fr m',K4 ⟨f,m,[]⟩ rs=some x∧WP m x=some y∧m=fr :: m'∧m'.length=n∧R y m'
 |d :: ds,m=>∃k,d.fn=.func k∧Yv P k (d.args++d.cap) m fun _ m1=>GC P rs n R f ds m1

theorem Nf {fn:Func}{rs:List RR}{G:Gh}{m:Qh}{w:World}{R:AV→Qh→Prop}(hr:Jv P fn.results.toList rs=true)(hm:MR G m w)(f:Fr):∀(ds:List DF) (m1:Qh) (G1:Gh) (a:Act) (w1:World),GC P rs m.length R f ds m1→Rel G1 w.heap.size N ⟨f,m1,ds⟩ a w1→Ext 1 G.up w G1 w1→
  Leaves P fn a.tmps (fun e w'=>∃G' x v m',e=.returned v∧R x m'∧Rep G' x v∧MR G' m' w'∧Ext 0 G w G' w'∧m'.length=m.length) a.defers .returning w1
 | [],m1,G1,a,w1,h,hrel,he=>by
  obtain⟨x,y,fr,m',hx,hy,hst,hml,hR⟩:=h;have hdef:a.defers=[]:=by
   have:=hrel.ds;cases hd:a.defers with
   |nil=>rfl
   |cons d l=>rw[hd]at this;cases this
  rw[hdef];exact Bx (R:=R) hr hrel he hx hy hst hml hR
 |d :: ds,m1,G1,a,w1,h,hrel,he=>by
  obtain⟨k,hk,⟨fn',hf',hn',hb'⟩,hcall⟩:=h;cases hd:a.defers with
  |nil=>have:=hrel.ds;rw[hd]at this;cases this
  |cons dv dvs=>
   have hds:=hrel.ds;rw[hd]at hds;cases hds with
   |cons hd1 hds'=>
    cases hd1 with
    |mk hcap hargs=>
     rename_i fnn cap args vc va;have hk:fnn=.func k:=hk;subst hk;have hc2:=hcall G1 w1 (va++vc) (hargs.append hcap) hrel.mr .returning;refine⟨by simp,.func k,⟨vc⟩,k,⟨va++vc⟩,rfl,?_,?_⟩
     ·simp only[invoke,callFunc,Sem.run_bind,run_program,Result.andThen_ok,hf',hn',QmO,if_false,hb'];simp
     ·intro c cs hu;obtain⟨e,u',w',fr',⟨hu',G2,x,v,m2,rfl,hR2,hv2,hm2,he2,hl2⟩,h1,h2,h3⟩:=hc2 c cs hu;subst hu';refine⟨_,_,w',fr',?_,h1,h2,h3⟩;show Leaves P fn a.tmps _ dvs (settle .returning) w';have hrel2:=hrel.after hm2 he2 hl2;have hrel3:Rel G2 w.heap.size N ⟨f,m2,ds⟩ { a with defers:=dvs } w' :=
       ⟨hrel2.mr,hrel2.size,hrel2.slots,hds'.mono he2.gle,hrel2.base,hrel2.top,hrel2.ne⟩
      exact Nf hr hm f ds m2 G2 { a with defers:=dvs } w' hR2 hrel3 (he.trans (he2.mono (QmE _)))

theorem BA {k:FuncId} {fn:Func} {c:Code} {rc:RC} {rs:List RR} {args:List AV} {m:Qh} {R:AV→Qh→Prop} (hf:P.funcs[k]? = some fn) (hb:fn.body=some c) (hn:(fn.name == "runtime.NumGoroutine")=false) (hN:fn.ntmps=N) (hc:X3 P N rc c=true) (hr:Jv P fn.results.toList rs=true)
  (ha:args.length≤N) (h:QR P rc (St.enter args m) (fun e st=>(e=.normal∨e=.ret)∧GC P rs m.length R st.f st.ds st.m)):Qd P k args m R:=by
 refine⟨⟨fn,hf,hn,by rw[hb];rfl⟩,fun G w vs hvs hm=>?_⟩;refine calls_of_wp_defers hf hb ?_;refine Vs h hc (HM hvs hm hN ha) fun e G' st' a' w' hq hr' he=>?_
 obtain⟨hex,hlv⟩:=hq;have:=Nf (N:=N) hr hm st'.f st'.ds st'.m G' a' w' hlv hr' he;rcases hex with rfl|rfl
 ·exact this
 ·exact this

end

def CK (P:Program)(k N:Nat)(rc:RC)(rs:List RR):Prop :=
 ∃fn c, P.funcs[k]? = some fn∧fn.body=some c∧(fn.name == "runtime.NumGoroutine")=false∧fn.ntmps=N∧X3 P N rc c=true∧Jv P fn.results.toList rs=true
theorem CK.go {P:Program}{k N:Nat}{rc:RC}{rs:List RR}{args:List AV}{m:Qh}{R:AV→Qh→Prop}(h:CK P k N rc rs)(ha:args.length≤N)(w:QR P rc (St.enter args m) (Zm rs m.length R)):Qd P k args m R:=by
 obtain⟨fn,c,h1,h2,h3,h4,h5,h6⟩:=h;exact Hy h1 h2 h3 h4 h5 h6 ha w
theorem ck {P:Program} {k N:Nat} {fn:Func} {rc:RC} {rs:List RR} (hf:P.funcs[k]? = some fn) (hN:fn.ntmps=N) (h:(fn.body.isSome && !(fn.name == "runtime.NumGoroutine")&&X3 P N rc (fn.body.getD .skip)&&Jv P fn.results.toList rs)=true):CK P k N rc rs := by
 simp only[QmT,Qnt,QmX]at h;obtain⟨⟨⟨⟨c,hc⟩,h1⟩,h2⟩,h3⟩:=h;rw[hc]at h2;exact⟨fn,c,hf,hc,h1,hN,h2,h3⟩
theorem CK.dd {P:Program}{k N:Nat}{rc:RC}{rs:List RR}{args:List AV}{m:Qh}{R:AV→Qh→Prop}(h:CK P k N rc rs)(ha:args.length≤N)(w:QR P rc (St.enter args m) (Zm rs m.length R)):Yv P k args m R:=by
 obtain⟨fn,c,h1,h2,h3,h4,h5,h6⟩:=h;exact Bz h1 h2 h3 h4 h5 h6 ha w
theorem CK.gd {P:Program}{k N:Nat}{rc:RC}{rs:List RR}{args:List AV}{m:Qh}{R:AV→Qh→Prop}(h:CK P k N rc rs)(ha:args.length≤N)(w:QR P rc (St.enter args m) (fun e st=>(e=.normal∨e=.ret)∧GC P rs m.length R st.f st.ds st.m)):Qd P k args m R:=by
 obtain⟨fn,c,h1,h2,h3,h4,h5,h6⟩:=h;exact BA h1 h2 h3 h4 h5 h6 ha w
theorem CK.rl {P:Program}{k N:Nat}{rc:RC}{rs:List RR}{args:List AV}{R:AV→Prop}(h:CK P k N rc rs)(ha:args.length≤N)(w:QR P rc (St.enter args []) (Zm rs 0 fun x _=>R x)):Fn? P k args R:=h.go ha w
theorem CK.fn {P:Program}{k N:Nat}{rc:RC}{rs:List RR}{args:List AV}{v:AV}(h:CK P k N rc rs)(ha:args.length≤N)(w:QR P rc (St.enter args []) (Zm rs 0 fun x _=>x=v)):Qi P k args v:=h.go ha w

section
variable {P:Program}{f:Fr}{m:Qh}{ds:List DF}{K:St→Prop}{Q:Exit→St→Prop}{its:List Item}{d:Nat}

def Kc (P:Program)(b:RC)(Q:Exit→St→Prop):Exit→St→Prop:=Ks (fun st'=>QR P b st' Q) Q
def Kl (I:Nat→St→Prop)(n:Nat)(Q:Exit→St→Prop):Exit→St→Prop:=Ks (fun s=>∃k,k<n∧I k s) Q

theorem Uw {st:St}:QR P .skip st Q=Q .normal st:=id rfl
theorem Qh7 {st:St}:QR P .no st Q=False:=id rfl
theorem E6 {st:St}:QR P .lab st Q=Q .normal st:=id rfl
theorem E7 {st:St}:QR P .ret st Q=Q .ret st:=id rfl
theorem Sl {st:St}{i:Nat}:QR P (.exit i) st Q=Q (.exit i) st:=id rfl
theorem U0 {st:St}:QR P (.reg its) st Q=QB P its st (Q .normal):=id rfl
theorem Sm {st:St}:QR P (.draw its) st Q=QB P its st (Q .normal):=id rfl
theorem U1 {st:St}{a b:RC}:QR P (.seq a b) st Q=QR P a st (Kc P b Q):=id rfl
theorem Mz {st:St}{i:Nat}{a:RC}:QR P (.block i a) st Q=QR P a st (Kb i Q):=id rfl
theorem MA {st:St}{a:RC}:QR P (.scope a) st Q=QR P a st (Kg Q):=id rfl
def BB:AV→Bool
 |.bool b=>b
 |_=>false
def Sn:AV→Prop
 |.bool _=>True
 |_=>False
theorem Sp (b:Bool):BB (.bool b)=b:=id rfl
theorem E8 (b:Bool):Sn (.bool b)=True:=id rfl
def Dx (P:Program)(v:AV)(a b:RC)(st:St)(Q:Exit→St→Prop):Prop:=Sn v∧(BB v=true→QR P a st Q)∧(BB v=false→QR P b st Q)
theorem U2 {a b:RC}{st:St}:Dx P (.bool true) a b st Q=QR P a st Q:=by simp[Dx,Sn,BB]
theorem WB {a b:RC}{st:St}:Dx P (.bool false) a b st Q=QR P b st Q:=by simp[Dx,Sn,BB]
theorem QW {t:Bool}{a b:RC}{st:St}(h1:t=true→QR P a st Q)(h2:t=false→QR P b st Q):Dx P (.bool t) a b st Q:=⟨trivial,h1,h2⟩
theorem WZ {c:RA}{a b:RC}:QR P (.cond c a b) ⟨f,m,ds⟩ Q=Dx P (c.ev f) a b ⟨f,m,ds⟩ Q:=by
 simp only[QR,Dx];generalize c.ev f=v;cases v<;>simp[BB,Sn]

theorem Jf {b:RC}{st:St}:Kc P b Q .normal st=QR P b st Q:=id rfl
theorem Sq {b:RC}{st:St}{i:Nat}:Kc P b Q (.exit i) st=Q (.exit i) st:=id rfl
theorem Sr {b:RC}{st:St}:Kc P b Q .ret st=Q .ret st:=id rfl
theorem Ss {st:St}{i:Nat}:Kb i Q .normal st=Q .normal st:=id rfl
theorem Fo {st:St}{i j:Nat}:Kb i Q (.exit j) st=if j=i then Q .normal st else Q (.exit j) st:=id rfl
theorem Su {st:St}{i:Nat}:Kb i Q .ret st=Q .ret st:=id rfl
theorem Sv {st:St}:Kg Q .normal st=Q .normal st:=id rfl
theorem Sw {st:St}{j:Nat}:Kg Q (.exit j) st=Q (.exit j) st:=id rfl
theorem Sx {st:St}:Kg Q .ret st=Q .ret st:=id rfl
theorem Sy {I:Nat→St→Prop}{n:Nat}{st:St}:Kl I n Q .normal st = ∃k,k<n∧I k st:=id rfl
theorem Sz {I:Nat→St→Prop}{n:Nat}{st:St}{j:Nat}:Kl I n Q (.exit j) st=Q (.exit j) st:=id rfl
theorem SA {I:Nat→St→Prop}{n:Nat}{st:St}:Kl I n Q .ret st=Q .ret st:=id rfl

theorem Qk {a:RC}{st:St}(I:Nat→St→Prop)(n:Nat)(h0:I n st)(h:∀n st',I n st'→QR P a st' (Kl I n Q)):QR P (.loop a) st Q:=⟨I,n,h0,h⟩

theorem K5 {st:St}:QB P [] st K=K st:=id rfl
def XE (x:Option AV):AV:=x.getD .top
def Zr (x:Option AV):Prop:=x.isSome=true
theorem Jg (x:AV):XE (some x)=x:=id rfl
theorem K6 (x:AV):Zr (some x)=True:=by simp[Zr]
theorem K7 {vo:VO}:QB P (⟨some d,.val vo,none⟩ :: its) ⟨f,m,ds⟩ K=(Zr (Qx f m vo)∧QB P its ⟨QG f d (XE (Qx f m vo)),m,ds⟩ K):=by
 simp only[QB,Zq,Hx,Qj];generalize Qx f m vo=v;cases v<;>simp[XE,Zr]

def mget (x:Option Qh):Qh:=x.getD []
def MB (x:Option Qh):Prop:=x.isSome=true
theorem QbX (x:Qh):mget (some x)=x:=id rfl
theorem Qfa (x:Qh):MB (some x)=True:=by simp[MB]
theorem LY {n:Nat}{p r:RA}:QB P (⟨none,.store n p r,none⟩ :: its) ⟨f,m,ds⟩ K=((r.ev f).cells.length=n∧(r.ev f).cells.all AV.leaf=true∧MB (Xa m (p.ev f) (r.ev f).cells)∧QB P its ⟨f,mget (Xa m (p.ev f) (r.ev f).cells),ds⟩ K):=by
 simp only[QB,Zq,Hx,Qj];generalize Xa m (p.ev f) (r.ev f).cells=v;cases v<;>simp[mget,MB]
def AF (l s:Nat)(v:AV):Prop:=∃o,v=.ptr l s o
theorem QbY (l s o:Nat):AF l s (.ptr l s o)=True:=eq_true ⟨o,rfl⟩
theorem AG {l s n:Nat}{p r:RA}:QB P (⟨none,.storev l s n p r,none⟩ :: its) ⟨f,m,ds⟩ K=(AF l s (p.ev f)∧(r.ev f).cells.length=n∧(r.ev f).cells.all AV.leaf=true∧MB (Xa m (p.ev f) (r.ev f).cells)∧QB P its ⟨f,mget (Xa m (p.ev f) (r.ev f).cells),ds⟩ K):=by
 simp only[QB,Zq,Hx,Qj,AF];generalize Xa m (p.ev f) (r.ev f).cells=v;cases v<;>simp[mget,MB]
theorem AH {s:Nat}{z:List AV}:QB P (⟨some d,.allocN s z,none⟩ :: its) ⟨f,m,ds⟩ K=(X0 m s=true∧QB P its ⟨QG f d (.ptr 0 s 0),Am.put m 0 s (.cells z),ds⟩ K):=id rfl
theorem QbZ {s:Nat}{r:RA}:QB P (⟨some d,.boxN s r,none⟩ :: its) ⟨f,m,ds⟩ K=(X0 m s=true∧(r.ev f).cells.all AV.leaf=true∧QB P its ⟨QG f d (.ptr 0 s 0),Am.put m 0 s (.cells (r.ev f).cells),ds⟩ K):=id rfl

theorem E9 {sz len:Nat}{z:List AV}{ps:List (Nat×Nat×RA)}{y:List AV}(hy:fill f ps (X9 z sz len)=some y)(h1:AV.rfL y=true)(h2:y.all AV.leaf=true):QB P (⟨some d,.bsl sz len z ps,none⟩ :: its) ⟨f,m,ds⟩ K=QB P its ⟨QG f d (.list (Zl sz len (y.map nn0))),m,ds⟩ K:=by
 apply propext
 constructor
 ·rintro⟨y',h,_,_,k⟩;have h:fill f ps (X9 z sz len)=some y':=h;rw[hy]at h;cases h;exact k
 ·intro k;exact⟨y,hy,h1,h2,k⟩
theorem Qb0 {z:AV}{r:RA}{k:IntKind}{n:Int}(hr:r.ev f=.int k n):QB P (⟨some d,.bsl 1 1 [z] [(0,1,r)],none⟩ :: its) ⟨f,m,ds⟩ K=QB P its ⟨QG f d (.list [.int k n]),m,ds⟩ K:=by
 refine E9 (y:=[.int k n]) ?_ rfl rfl;simp[fill,hr,AV.cells,AV.leaf,X9,List.range_succ,splice]

theorem Ng {z:AV}{r:RA}{k:IntKind}{n:Int}(hr:r.ev f=.int k n)(h:QB P its ⟨QG f d (.list [.int k n]),m,ds⟩ K):QB P (⟨some d,.bsl 1 1 [z] [(0,1,r)],none⟩ :: its) ⟨f,m,ds⟩ K:=by
 rw[Qb0 hr];exact h

theorem Nh {sz:Nat}{z l:List AV}{r:RA}(hr:r.ev f=.agg l)(hl:l.length=sz)(h1:sz≠1)(hf:AV.rfL l=true)(hlf:l.all AV.leaf=true)(h:QB P its ⟨QG f d (.list [.agg (l.map nn0)]),m,ds⟩ K) :
  QB P (⟨some d,.bsl sz 1 z [(0,sz,r)],none⟩ :: its) ⟨f,m,ds⟩ K:=by
 have hz:(X9 z sz 1).length=sz:=by simp[X9]
 have hy:fill f [(0,sz,r)] (X9 z sz 1)=some l:=by
  simp only[fill,hr,AV.cells,hl,hlf,QmU,hz,Qms,and_self,if_true,splice,QnF,QmS];rw[Qm8 (by omega),Qnz]
 rw[E9 hy hf hlf];have hc:Zl sz 1 (l.map nn0)=[.agg (l.map nn0)]:=by
  simp only[Zl,QmC h1];rw[Qm5 (by rw[Qnq];omega)]
 rw[hc];exact h

theorem Yv.mono {k:FuncId}{args:List AV}{m:Qh}{R R':AV→Qh→Prop}(h:Yv P k args m R)(hr:∀x m',R x m'→R' x m'):Yv P k args m R' :=
 ⟨h.1,fun G w vs h1 h2 u c cs hu=>by
  obtain⟨e,u',w',fr,⟨h3,G',x,v,m',h4,h5,h6⟩,h7⟩:=h.2 G w vs h1 h2 u c cs hu;exact⟨e,u',w',fr,⟨h3,G',x,v,m',h4,hr _ _ h5,h6⟩,h7⟩⟩

theorem Zo {slot site sz:Nat}{a:RC}{fr:Nat→Ob}(h1:f slot=.nils)(h2:fr site=.none)(h:QR P a ⟨QG f slot (.vec 0 site 1 0 0 false),QG fr site (.vec 1 sz []) :: m,ds⟩ Q):QR P (.gho (.vec slot site sz) a) ⟨f,fr :: m,ds⟩ Q:=by
 refine⟨_,?_,h⟩;have e:Qc (fr :: m) 0 site=.none:=h2;simp[JF,h1,e,Qn,Qy,Am.put]

theorem HN {fr:Nat→Ob}{site g sz n:Nat}{q:Bool}{xs:List AV}(hl:fr site=.vec g sz xs)(hn:n=xs.length):QY (fr :: m) (.vec 0 site g 0 n q)=some xs:=by
 subst hn;simp[QY,Am.Qc,hl]

theorem QN {sz bytes el:Nat}{s r:RA}{site g n:Nat}{fr:Nat→Ob}{xs ys:List AV}(hs:s.ev f=.vec 0 site g 0 n false)(hl:fr site=.vec g sz xs)(ht:XY site el=true)(hn:n=xs.length)(hr:r.ev f=.list ys)(hz:ys.all (fun e=>e.cells.length==sz)=true)(hm:n+ys.length≤maxLen)(hb:(n+ys.length)*bytes≤140737488355328)
  (h:QB P its ⟨QG f d (.vec 0 site (g+1) 0 (n+ys.length) false),QG fr site (.vec (g+1) sz (xs++ys)) :: m,ds⟩ K):QB P (⟨some d,.app sz bytes el s r,none⟩ :: its) ⟨f,fr :: m,ds⟩ K:=by
 refine⟨0,site,g,n,xs,ys,hs,hl,ht,by omega,?_,hz,hm,hb,?_⟩
 ·show QY (fr :: m) (r.ev f)=some ys;rw[hr];rfl
 ·subst hn;rw[Qn9];exact h

theorem XR {k:Nat}{args:List RA}{ys:List AV}{v:AV}(hk:Qi P k ys v)(hy:AV.stillL false m (args.map (RA.ev f))=some ys)(h1:AV.rfL ys=true)(h2:v.rf=true)(h3:AV.rfL (args.map (RA.ev f))=true∨v.nl=true)(h:QB P its ⟨QG f d v,m,ds⟩ K) :
  QB P (⟨some d,.call (.f k) args,none⟩ :: its) ⟨f,m,ds⟩ K:=by
 refine⟨k,[],[],ys,v,rfl,?_,h1,hk,h2,?_,h⟩
 ·simpa using hy
 ·simpa using h3

theorem aC {k:Nat}{args:List RA}{ys:List AV}{v:AV}(hk:Qi P k ys v)(h:QB P its ⟨QG f d v,m,ds⟩ K)(hy:AV.stillL false m (args.map (RA.ev f))=some ys:=by rfl)(h1:AV.rfL ys=true:=by rfl)(h2:v.rf=true:=by rfl)(h3:AV.rfL (args.map (RA.ev f))=true∨v.nl=true:=by exact .inl rfl) :
  QB P (⟨some d,.call (.f k) args,none⟩ :: its) ⟨f,m,ds⟩ K:=XR hk hy h1 h2 h3 h

theorem MD {cnt:Bool}{k:Nat}{s c:RA}{t:List UInt8}{b:Int}(hs:s.ev f=.str t)(hb:c.ev f=.int .u8 b)(h:QB P its ⟨QG f d (.int .i64 (Ff cnt t b)),m,ds⟩ K):QB P (⟨some d,.xb cnt k s c,none⟩ :: its) ⟨f,m,ds⟩ K :=
 ⟨t,b,hs,hb,h⟩

theorem Ni {s:Nat}{r:RA}{fr:Nat→Ob}{t:List UInt8}(ht:r.ev f=.str t)(hn:fr s=.none)(h:QB P its ⟨QG f d (.ptr 0 s 0),QG fr s (.iter (.str t) 0) :: m,ds⟩ K) :
  QB P (⟨some d,.rngs s r,none⟩ :: its) ⟨f,fr :: m,ds⟩ K:=by
 refine⟨t,ht,?_,h⟩;show(match fr s with|.none=>true|_=>false)=true;rw[hn]

theorem Nj {s p:Nat}{r:RA}{fr:Nat→Ob}{t:List UInt8}(hr:r.ev f=.ptr 0 s 0)(hl:fr s=.iter (.str t) p)
  (h1:p<t.length→QB P its ⟨QG f d (.tup [.bool true,.int .i64 (p:Nat),.int .i32 ((XK t p).1:Nat)]),QG fr s (.iter (.str t) (p+(XK t p).2)) :: m,ds⟩ K)
  (h2:t.length≤p→QB P its ⟨QG f d (.tup [.bool false]),fr :: m,ds⟩ K) :
  QB P (⟨some d,.nxts r,none⟩ :: its) ⟨f,fr :: m,ds⟩ K :=
 ⟨0,s,t,p,hr,hl,h1,h2⟩

theorem Qg {k:Nat}{args:List RA}{ys:List AV}{v:AV}{m':Qh}(hk:Qd P k ys m fun x m1=>x=v∧m1=m')(hy:args.map (RA.ev f)=ys)(h:QB P its ⟨QG f d v,m',ds⟩ K) :
  QB P (⟨some d,.callF (.f k) args,none⟩ :: its) ⟨f,m,ds⟩ K:=by
 refine⟨k,[],[],v,m',rfl,?_,h⟩;show Qd P k (args.map (RA.ev f)++[]) m fun x m1=>x=v∧m1=m'
 rw[Qnz,hy];exact hk

theorem QJ {k:Nat}{args:List RA}{ys:List AV}{R:AV→Qh→Prop}(hk:Qd P k ys m R)(hy:args.map (RA.ev f)=ys)(h:∀x m',R x m'→m'.length=m.length→QB P its ⟨QG f d x,m',ds⟩ K) :
  QB P (⟨some d,.callG (.f k) args,none⟩ :: its) ⟨f,m,ds⟩ K:=by
 refine⟨k,[],[],R,rfl,?_,h⟩;show Qd P k (args.map (RA.ev f)++[]) m R;rw[Qnz,hy];exact hk
theorem GD {site el sz bytes:Nat}{z:List AV}{l c:RA}{kl kc:IntKind}{n k:Nat}{fr:Nat→Ob}(hl:l.ev f=.int kl (n:Int))(hc:c.ev f=.int kc (k:Int))(hnk:n≤k)(hk:k≤9223372036854775807)(hb:bytes*k≤281474976710656)(hs:fr site=.none)
  (h:QB P its ⟨QG f d (.vec 0 site 1 0 n false),QG fr site (.vec 1 sz (List.replicate n (Zx sz z))) :: m,ds⟩ K):QB P (⟨some d,.mk site el sz bytes z l c,none⟩ :: its) ⟨f,fr :: m,ds⟩ K:=by
 have e:Qc (fr :: m) 0 site=.none:=hs;refine⟨kl,kc,n,k,hl,hc,hnk,hk,hb,?_,?_⟩
 ·show Qn (Qc (fr :: m) 0 site)=true;rw[e];rfl
 ·have hg:Qy (fr :: m) 0 site=1:=by unfold Qy;rw[e]
  simp only[hg];exact h

theorem AI {site el:Nat}{r:RA}{s:List UInt8}{fr:Nat→Ob}(hr:r.ev f=.str s)(hl:s.length≤9223372036854775807)(hs:fr site=.none)
  (h:QB P its ⟨QG f d (.vec 0 site 1 0 s.length false),QG fr site (.vec 1 1 (Qr s)) :: m,ds⟩ K):QB P (⟨some d,.s2b site el r,none⟩ :: its) ⟨f,fr :: m,ds⟩ K:=by
 have e:Qc (fr :: m) 0 site=.none:=hs;refine⟨s,hr,hl,?_,?_⟩
 ·show Qn (Qc (fr :: m) 0 site)=true;rw[e];rfl
 ·have hg:Qy (fr :: m) 0 site=1:=by unfold Qy;rw[e]
  simp only[hg];exact h

theorem HO {el:Nat}{s r:RA}{l site g n:Nat}{xs:List AV}{t:List UInt8}(hs:s.ev f=.vec l site g 0 n false)(hl:Qc m l site=.vec g 1 xs)(ht:XY site el=true)(hn:n=xs.length)(hr:r.ev f=.str t)(hm:n+t.length≤140737488355328)
  (h:QB P its ⟨QG f d (.vec l site (g+1) 0 (n+t.length) false),Am.put m l site (.vec (g+1) 1 (xs++Qr t)),ds⟩ K):QB P (⟨some d,.appS el s r,none⟩ :: its) ⟨f,m,ds⟩ K:=by
 subst hn;refine⟨l,site,g,_,xs,t,hs,hl,ht,Qms _,hr,hm,?_⟩;rw[Qn9];exact h

theorem SB {s:Nat}{a:RC}{fr:Nat→Ob}:QR P (.gho (.drop s) a) ⟨f,fr :: m,ds⟩ Q=((fr s).isRow=false∧QR P a ⟨fun i=>(f i).scrub s,QG (fun i=>(fr i).scrub s) s .none :: m,ds.map (DF.scrub s)⟩ Q):=by
 apply propext
 have hn:US (fr :: m) s=!(fr s).isRow:=by
  unfold US;show(match fr s with|.vec .. => false|_=>true)=_;cases fr s<;>rfl
 constructor
 ·rintro⟨st',h1,h2⟩;simp only[JF,hn]at h1;cases hr:(fr s).isRow with
  |true=>rw[hr]at h1;cases h1
  |false=>rw[hr]at h1;cases h1;exact⟨rfl,h2⟩
 ·rintro⟨h1,h2⟩;refine⟨_,?_,h2⟩;simp only[JF,hn,h1];rfl
theorem SC (s:Nat):AV.top.scrub s=.top:=id rfl
theorem SD (s:Nat)(k:IntKind)(n:Int):(AV.int k n).scrub s=.int k n:=id rfl
theorem PP (s:Nat)(b:Bool):(AV.bool b).scrub s=.bool b:=id rfl
theorem SE (s:Nat)(b:List UInt8):(AV.str b).scrub s=.str b:=id rfl
theorem PQ (s:Nat):AV.nils.scrub s=.nils:=id rfl
theorem PR (s:Nat):AV.nilp.scrub s=.nilp:=id rfl
theorem PU (s:Nat):AV.nili.scrub s=.nili:=id rfl
theorem PV (s:Nat):AV.nilf.scrub s=.nilf:=id rfl
theorem PW (s:Nat)(l:List AV):(AV.list l).scrub s=.list l:=id rfl
theorem SF (s l t g o n:Nat)(q:Bool):(AV.vec l t g o n q).scrub s=.vec l t g o n q:=id rfl
theorem SG (s:Nat)(l:List AV):(AV.agg l).scrub s=.agg (AV.scrubL s l):=id rfl
theorem SH (s:Nat)(l:List AV):(AV.tup l).scrub s=.tup (AV.scrubL s l):=id rfl
theorem SI (s t o:Nat):(AV.ptr 0 t o).scrub s=bif Nat.beq t s then .top else .ptr 0 t o:=id rfl
theorem PX (s l t o:Nat):(AV.ptr (l+1) t o).scrub s=.ptr (l+1) t o:=id rfl
theorem SJ (s:Nat):AV.scrubL s []=[]:=id rfl
theorem PY (s:Nat)(x:AV)(l:List AV):AV.scrubL s (x :: l)=x.scrub s :: AV.scrubL s l:=id rfl
theorem Mj (s:Nat)(l:List AV):(Ob.cells l).scrub s=.cells (AV.scrubL s l):=id rfl
theorem SK (s g z:Nat)(l:List AV):(Ob.vec g z l).scrub s=.vec g z l:=id rfl
theorem PZ (s:Nat):Ob.none.scrub s=.none:=id rfl
theorem Da (s:Nat)(o:Ob):(o.scrub s).isRow=o.isRow:=by cases o<;>rfl
theorem Mk (l:List AV):(Ob.cells l).isRow=false:=id rfl
theorem P0:Ob.none.isRow=false:=id rfl

def Jh (P:Program)(v:AV)(w:Bool)(d:Option Nat)(ro:RO)(its:List Item)(st:St)(K:St→Prop):Prop :=
 match v with
 |.bool b=>(b=w→QB P (⟨d,ro,none⟩ :: its) st K)∧(b=(!w)→QB P its { st with f:=Qj st.f d (.tup []) } K)
 |.tup l=>l=[]∧QB P its { st with f:=Qj st.f d (.tup []) } K
 |_=>False
theorem XM {b:Bool}{d:Option Nat}{ro:RO}{st:St}(h1:b=true→QB P (⟨d,ro,none⟩ :: its) st K)(h2:b=false→QB P its { st with f:=Qj st.f d (.tup []) } K):Jh P (.bool b) true d ro its st K:=⟨h1,h2⟩
theorem XN {b:Bool}{d:Option Nat}{ro:RO}{st:St}(h1:b=false→QB P (⟨d,ro,none⟩ :: its) st K)(h2:b=true→QB P its { st with f:=Qj st.f d (.tup []) } K):Jh P (.bool b) false d ro its st K:=⟨h1,h2⟩
theorem WC {d:Option Nat}{ro:RO}{st:St}:Jh P (.bool true) true d ro its st K=QB P (⟨d,ro,none⟩ :: its) st K:=by simp[Jh]
theorem Vt {d:Option Nat}{ro:RO}{st:St}:Jh P (.bool false) false d ro its st K=QB P (⟨d,ro,none⟩ :: its) st K:=by simp[Jh]
theorem Nk {ro:RO}:Jh P (.bool true) false (some d) ro its ⟨f,m,ds⟩ K=QB P its ⟨QG f d (.tup []),m,ds⟩ K:=by simp[Jh,Qj]
theorem Y3 {ro:RO}:Jh P (.bool false) true (some d) ro its ⟨f,m,ds⟩ K=QB P its ⟨QG f d (.tup []),m,ds⟩ K:=by simp[Jh,Qj]
theorem Vu {ro:RO}{w:Bool}:Jh P (.tup []) w (some d) ro its ⟨f,m,ds⟩ K=QB P its ⟨QG f d (.tup []),m,ds⟩ K:=by simp[Jh,Qj]
theorem Fp {ro:RO}{st:St}:Jh P (.bool true) false none ro its st K=QB P its st K:=by simp[Jh,Qj]
theorem Fq {ro:RO}{st:St}:Jh P (.bool false) true none ro its st K=QB P its st K:=by simp[Jh,Qj]
theorem Nl {ro:RO}{w:Bool}{st:St}:Jh P (.tup []) w none ro its st K=QB P its st K:=by simp[Jh,Qj]
theorem Db {ro:RO}{j:Nat}{w:Bool}{d:Option Nat}:QB P (⟨d,ro,some (j,w)⟩ :: its) ⟨f,m,ds⟩ K=Jh P (f j) w d ro its ⟨f,m,ds⟩ K:=by
 simp only[QB,Zq,Jh]
 all_goals(generalize f j=v;cases v<;>rfl)

theorem Vv {rs:List RR}{n:Nat}{R:AV→Qh→Prop}{fr:Nat→Ob}:Zm rs n R .ret ⟨f,fr :: m,ds⟩=(ds=[]∧Zr (K4 ⟨f,fr :: m,ds⟩ rs)∧Zr (WP (fr :: m) (XE (K4 ⟨f,fr :: m,ds⟩ rs)))∧m.length=n∧R (XE (WP (fr :: m) (XE (K4 ⟨f,fr :: m,ds⟩ rs)))) m):=by
 apply propext
 constructor
 ·rintro⟨_,h1,x,y,fr',m',h2,h3,h4,h5,h6⟩;cases h4;have h1:ds=[]:=h1;rw[h2,Jg,h3];exact⟨h1,rfl,rfl,h5,h6⟩
 ·rintro⟨h1,h2,h3,h4,h5⟩;generalize hv:K4 ⟨f,fr :: m,ds⟩ rs=v at h2 h3 h5;cases v with
  |none=>cases h2
  |some x=>
   rw[Jg]at h3 h5;cases hl:WP (fr :: m) x with
   |none=>rw[hl]at h3;cases h3
   |some y=>
    rw[hl]at h5;exact⟨.inr rfl,h1,x,y,fr,m,hv,hl,rfl,h4,h5⟩
theorem Vw {rs:List RR}{n:Nat}{R:AV→Qh→Prop}{st:St}:Zm rs n R .normal st=Zm rs n R .ret st:=by
 simp[Zm]

theorem K8 {α:Type}(f:Nat→α)(d:Nat)(x:α)(i:Nat):QG f d x i=bif Nat.beq i d then x else f i:=id rfl
theorem JQ (a b:Nat):Nat.beq a b=(a==b):=by
 cases h:Nat.beq a b with
 |true=>rw[Qmq h];simp
 |false=>have:=Nat.ne_of_beq_eq_false h;simp[this]
theorem YF {s idx site sz:Nat}{a:RC}{fr:Nat→Ob}{xs:List AV}(h1:fr s=.cells xs)(h2:xs[idx]? = some .nils)(h3:fr site=.none)(hne:Nat.beq site s=false)(h:QR P a ⟨f,QG (QG fr site (.vec 1 sz [])) s (.cells (xs.set idx (.vec 0 site 1 0 0 false))) :: m,ds⟩ Q):QR P (.gho (.vecc s idx site sz) a) ⟨f,fr :: m,ds⟩ Q:=by
 refine⟨_,?_,h⟩;have e1:Qc (fr :: m) 0 s=.cells xs:=h1;have e:Qc (fr :: m) 0 site=.none:=h3;simp[JF,e1,h2,e,Qn,Qy,Am.put,hne]
theorem GE {α:Type}(f:Nat→α)(d:Nat)(x y:α):QG (QG f d x) d y=QG f d y:=by
 funext i;by_cases h:i=d
 ·subst h;rw[QU,QU]
 ·rw[QX _ _ h,QX _ _ h,QX _ _ h]
theorem Vx {α:Type}(f:Nat→α)(d e:Nat)(x y:α)(hde:d≠e):QG (QG f d x) e y=QG (QG f e y) d x:=by
 funext i;by_cases h:i=d
 ·subst h;rw[QU,QX _ _ hde,QU]
 ·by_cases h2:i=e
  ·subst h2;rw[QU,QX _ _ h,QU]
  ·rw[QX _ _ h2,QX _ _ h,QX _ _ h,QX _ _ h2]
theorem LZ {α:Type}(f:Nat→α)(d:Nat)(x:α)(h:f d=x):QG f d x=f:=by
 funext i;by_cases hi:i=d
 ·subst hi;rw[QU,h]
 ·rw[QX _ _ hi]
theorem HP (n:Nat):(RA.t n).ev f=f n:=id rfl
theorem Nm (x:AV):(RA.c x).ev f=x:=id rfl
theorem e_f (k:Nat):(RA.f k).ev f=.fn (.func k) [] []:=id rfl

end

end Go.Proofs.YtkhpgmeokilhaaaGreatDoor.Am

namespace Go.Proofs.YtkhpgmeokilhaaaGreatDoor.Br
open Go Am Go.RowKit Go.WideShapes Go.ChangeShapes Go.ChangeAt

theorem Vy {P:Program}{k:FuncId}{args:List AV}{v:Bool}(h:Qi P k args (.bool v)){stab:Nat→Nat→Option SV}(ht:∀b o v,Jb b o=some v→stab b o=some v){w:World}(hs:∀b o u,stab b o=some u→rd w b o u){vs:List Value}(hr:RepL (Gh.bare stab ht) args vs) :
  Calls P k ⟨vs⟩ w fun e w'=>e=.returned (.bool v)∧Below w.heap.size w w' :=
 (h.2 (Gh.bare stab ht) w vs hr (MR.bare hs)).mono fun e w' ⟨G',x,u,m',he,hx,hu,_,hex,_⟩=>by
  subst hx;cases hu;exact⟨he,hex.os,hex.tape,hex.output,hex.size,fun b hb=>(hex.old b hb Gh.bare_mine).1⟩

theorem L0 {G:Gh}(s:ByteArray):Rep G (.str s.data.toList) (.string s):=by
 obtain⟨⟨l⟩⟩:=s;exact .str l

theorem Vz {n:Int}(h:(Lit.int .u64 n).wf=true):0≤n:=by
 simp[Lit.wf,IntKind.min,IntKind.max,IntKind.bits,IntKind.signed]at h;omega
theorem VA {n:Int}(h:(Lit.int .u64 n).wf=true):n<18446744073709551616:=by
 simp[Lit.wf,IntKind.min,IntKind.max,IntKind.bits,IntKind.signed]at h;omega

section
variable {H:Type}{enc:TypeId×Value→H}{P:Program}
theorem NU {f:Func}{s:ChangeSpec}{GA fresh handsOn again:Bool}{W W':World}{args:Array Value}{v:Value}{ds gs:List (DataW H)}{before pa pv:List MemPlace}
  (hW:DataW.Whole enc P f.params.toList s.vars GA W args.toList ds gs before)
  (hres:∀(b:Nat) (sp:Nat→Bool) (hd:Bool),DataW.TrodAll enc P W' b sp hd f.resultTypes.toList (v.resultList f.resultTypes.size) (s.fn H (ds++gs)).results [])
  (hargs:∀sp:Nat→Bool,(∀p∈before,sp p.block=true)→DataW.TrodAll enc P W' 0 sp true f.params.toList args.toList (s.fn H (ds++gs)).args pa)
  (hvars:∀sp:Nat→Bool,(∀p∈before,sp p.block=true)→DataW.TrodVars enc P W' sp s.vars (s.fn H (ds++gs)).vars pv)
  (hps:before=pa++pv) (hb:Below W.heap.size W W')
  (hok:∀(j:Nat) (t:TypeId) (r:Value),f.resultTypes[j]? = some t→(v.resultList f.resultTypes.size)[j]? = some r→Value.okWide P W' .any 0 t r) :
  s.post enc P f GA fresh handsOn again W args v W':=by
 have hlt:∀p∈before,p.block<W.heap.size:=fun p hp=>hW.lt p hp
 have hold:∀p∈before,(fun b=>decide (b<W.heap.size)) p.block=true:=fun p hp=>by simpa using hlt p hp
 refine⟨ds,gs,before,[],pa,pv,hW,hres _ _ _,hargs _ hold,hvars _ hold,World.keptBut_mono (fun p hp=>⟨hp,?_⟩) (hb.frame (·∈before)),fun _=>?_⟩
 ·rw[hps,QnP]at hp;exact Or.inr hp
 ·obtain⟨_,_,_,_,_,hz,hn⟩:=hW;refine⟨hok,_,_,([]++pa)++pv,⟨[]++pa,pv,trodAll_append (hargs _ (fun _ _=>rfl)) (hres _ _ _),hvars _ (fun _ _=>rfl),rfl,?_,?_⟩,?_⟩
  ·intro b off hp;have hin:MemPlace.cell b off∈before:=by rw[hps];simpa using hp
   rw[hb.frozen (hlt _ hin)];exact hz b off hin
  ·intro ha;have:=hn ha;rw[hps]at this
   simpa using this
  ·intro p hp _;rw[hps]
   simpa using hp
end

section
variable {H:Type}{enc:TypeId×Value→H}{P:Program}{w:World}{base:Nat}{sp:Nat→Bool}{held:Bool}

def P1 (g:DataW H→Option (List Value)):List (DataW H)→Option (List Value)
 | []=>some []
 |d :: ds=>match g d,P1 g ds with
  |some a,some b=>some (a++b)
  |_,_=>none
def U3 (P:Program)(g:TypeId→DataW H→Option (List Value)):Nat→Nat→List Field→List (DataW H)→Option (List Value)
 |o,n,[],[]=>bif o==n then some []else none
 |o,n,f :: fs,d :: ds=>bif f.offset==o then match g f.type d,U3 P g (o+P.cellsOf f.type) n fs ds with
  |some a,some b=>some (a++b)
  |_,_=>none else none
 |_,_,_,_=>none
def HQ (P:Program):Nat→TypeId→DataW H→Option (List Value)
 |0,_,_=>none
 |k+1,t,d=>match P.underlying t with
  |some (.int ik)=>match d with
   |.lit (.int ik' n)=>bif ik'==ik then some [.int ik n]else none
   |_=>none
  |some (.array n e)=>match d with
   |.agg ds=>bif P.cellsOf t==n*P.cellsOf e then P1 (HQ P k e) ds else none
   |_=>none
  |some (.struct fs)=>match d with
   |.agg ds=>U3 P (HQ P k) 0 (P.cellsOf t) fs.toList ds
   |_=>none
  |_=>none

theorem ME {g:DataW H→Option (List Value)}{c:Nat}:∀ {ds:List (DataW H)} {cs ls:List Value},cs.length=ds.length*c→(∀i d l,ds[i]? = some d→g d=some l→(cs.drop (i*c)).take c=l)→P1 g ds=some ls→cs=ls
 | [],cs,ls,hl,_,h=>by
  cases h;exact QnB (by simpa using hl)
 |d :: ds,cs,ls,hl,hx,h=>by
  rw[P1]at h;split at h
  ·rename_i a b ea eb;cases h;rw[QmK,Nat.succ_mul]at hl;have h0:=hx 0 d a rfl ea;rw[Nat.zero_mul,Qnd]at h0;have h1:cs.drop c=b:=ME (c:=c) (by rw[Qnc];omega) (fun i d' l hd hg=>by
    have:=hx (i+1) d' l (by simpa using hd) hg;rw[Qm0]
    rwa [Nat.succ_mul,Nat.add_comm]at this) eb
   rw[←h0,←h1,QnN]
  ·cases h
theorem VB {g:TypeId→DataW H→Option (List Value)}{cs:List Value}:∀ {fs:List Field} {ds:List (DataW H)} {o:Nat} {ls:List Value},(∀(i:Nat) (f:Field) (d:DataW H) l,fs[i]? = some f→ds[i]? = some d→g f.type d=some l→(cs.drop f.offset).take (P.cellsOf f.type)=l)→U3 P g o cs.length fs ds=some ls→cs.drop o=ls
 | [],[],o,ls,_,h=>by
  rw[U3]at h;cases ho:o==cs.length with
  |false=>rw[ho]at h;cases h
  |true=>
   rw[ho]at h;cases h;rw[QmA]at ho;rw[ho,List.drop_length]
 |f :: fs,d :: ds,o,ls,hx,h=>by
  rw[U3]at h;cases ho:f.offset==o with
  |false=>rw[ho]at h;cases h
  |true=>
   rw[ho,cond_true]at h;rw[QmA]at ho;split at h
   ·rename_i a b ea eb;cases h;have h0:=hx 0 f d a rfl rfl ea;have h1:=VB (fun i f' d' l h1 h2 h3=>hx (i+1) f' d' l (by simpa using h1) (by simpa using h2) h3) eb;rw[ho]at h0;rw[←h0,←h1,←Qm0,QnN]
   ·cases h
 | [],_ :: _,_,_,_,h=>by rw[U3]at h;cases h;all_goals simp
 |_ :: _,[],_,_,_,h=>by rw[U3]at h;cases h;all_goals simp

theorem HR:∀(k m:Nat) (t:TypeId) (cs:List Value) (d:DataW H) (p:List MemPlace) (ls:List Value),DataW.trod enc P w base sp held m t cs=some (d,p)→HQ P k t d=some ls→cs=ls
 |0,_,_,_,_,_,_,_,h=>by cases h
 |k+1,m,t,cs,d,p,ls,ht,h=>by
  rw[HQ]at h;split at h
  ·rename_i ik hu;obtain⟨n,rfl,e,_⟩:=DataW.trod_int hu ht;cases e;simp only[BEq.rfl,cond_true,QmW]at h;exact h
  ·rename_i n e hu;obtain⟨xs,m',rfl,ex,hlen,hxl,hx⟩:=DataW.trod_array hu ht;cases ex;dsimp only at h;cases hc:P.cellsOf t==n*P.cellsOf e with
   |false=>rw[hc]at h;cases h
   |true=>
    rw[hc,cond_true]at h;rw[QmA]at hc;refine ME (c:=P.cellsOf e) (by rw[Qnq,hxl,hlen,hc]) (fun i d l hd hg=>?_) h;rw[QnT,Qmx]at hd;obtain⟨x,h1,rfl⟩:=hd;have h2:=hx i (by rw[←hxl];exact(Qmu.1 h1).1);rw[h1]at h2;exact HR k m' e _ x.1 x.2 l h2 hg
  ·rename_i fs hu;obtain⟨xs,m',rfl,ex,hlen,hxl,hx⟩:=DataW.trod_struct hu ht;cases ex;dsimp only at h;rw[←hlen]at h;have:=VB (P:=P) (cs:=cs) (fun i f d l hf hd hg=>by
    rw[QnT,Qmx]at hd;obtain⟨x,h1,rfl⟩:=hd;have h2:=hx i f (by simpa using hf);rw[h1]at h2;exact HR k m' f.type _ x.1 x.2 l h2 hg) h
   rwa [Qnd]at this
  ·cases h

def vEq:Value→Value→Bool
 |.int k n,.int k' n'=>k==k'&&n==n'
 |_,_=>false
theorem Qb2:∀ {a b:Value},vEq a b=true→a=b:=by
 intro a b h;unfold vEq at h;split at h
 ·rw[QmT,QmA,QmA]at h;rw[h.1,h.2]
 ·cases h
def P2:List Value→List Value→Bool
 | [],[]=>true
 |a :: l,b :: r=>vEq a b&&P2 l r
 |_,_=>false
theorem MF:∀ {a b:List Value},P2 a b=true→a=b
 | [],[],_=>rfl
 |a :: l,b :: r,h=>by
  rw[P2,QmT]at h;rw[Qb2 h.1,MF h.2]
 | [],_ :: _,h=>by cases h
 |_ :: _,[],h=>by cases h

theorem MG {n:String}{d:DataW Unit}:∀ {l:List (String×DataW Unit)} {ps:List MemPlace},DataW.LaidVars P w l ps→(n,d)∈l→
  ∃g t cs fuel p,P.globalNamed n=some g∧(P.globals[g]?).map (·.type)=some t∧w.var? P n=some cs∧DataW.trod (fun _=>()) P w 0 (fun _=>true) false fuel t cs.toList=some (d,p)
 | [],_,_,hm=>by cases hm
 |x :: r,ps,h,hm=>by
  obtain⟨g,t,cs,fuel,p,q,k1,k2,k3,k4,k5,_⟩:=h;rcases QnS.1 hm with e|e
  ·subst e;exact⟨g,t,cs,fuel,p,k1,k2,k3,k4⟩
  ·exact MG k5 e

def Qfb (P:Program)(laid:List (String×DataW Unit)):Bool :=
 N2.all fun x=>laid.any fun y=>P.globalNamed y.1==some x.1&&(match (P.globals[x.1]?).map (·.type)with
  |some t=>(match HQ P 6 t y.2 with
   |some l=>P2 l x.2
   |none=>false)
  |none=>false)

theorem Fs {b:Nat}{l:List Value}:∀ {T:List (Nat×List Value)},T.lookup b=some l→(b,l)∈T
 | [],h=>by cases h
 |(c,m) :: T,h=>by
  rw[List.lookup]at h;split at h
  ·rename_i e;cases h;rw[QmA]at e;subst e;exact QmN ..
  ·exact QmL _ (Fs h)

theorem L1 {laid:List (String×DataW Unit)}(h:laidMet P laid w)(ht:Qfb P laid=true):HC w:=by
 intro b o v e;obtain⟨ps,hv,_⟩:=h;unfold Jb at e;cases hl:N2.lookup b with
 |none=>rw[hl]at e;cases e
 |some l=>
  rw[hl]at e;have h1:=QmI.1 ht _ (Fs hl);obtain⟨⟨n,d⟩,hy,h2⟩:=Qoa.1 h1;rw[QmT]at h2;obtain⟨h2,h3⟩:=h2;have h2:P.globalNamed n=some b:=by simpa using h2
  obtain⟨g,t,cs,fuel,p,k1,k2,k3,k4⟩:=MG hv hy;rw[h2]at k1;cases k1;dsimp only at h3;rw[k2]at h3;dsimp only at h3;split at h3
  ·rename_i l' hc;have h4:=HR 6 fuel t cs.toList d p l' k4 hc;rw[MF h3]at h4;unfold World.var? at k3;rw[h2]at k3;simp only[Option.bind_some]at k3;split at k3
   ·rename_i cs' t' fz hh;cases k3;dsimp only at e;split at e
    ·rename_i ho;cases e;exact⟨cs,t',fz,hh,by rw[ho,←h4];simp,rfl⟩
    ·obtain⟨u,hu,rfl⟩:=Qmx.1 e;show w.cell? ⟨b,o,none⟩=some u;rw[cell_of_row w b o cs t' fz hh,←QmZ,h4];exact hu
   ·cases k3
  ·cases h3
end

end Go.Proofs.YtkhpgmeokilhaaaGreatDoor.Br

namespace Go.Proofs.YtkhpgmeokilhaaaGreatDoor.Am
open Go

variable {P:Program}{f:Fr}{m:Qh}{ds:List DF}{its:List Item}{d:Nat}

theorem MH {Q:Exit→St→Prop}{a:RC}{slot site g sz n:Nat}{fr:Nat→Ob}{xs:List AV}(h1:f slot=.vec 0 site g 0 n false)(h2:fr site=.vec g sz xs)(hn:n≤xs.length)
  (h:QR P a ⟨QG f slot (.list (xs.take n)),QG fr site (.vec (g+1) sz []) :: m,ds⟩ Q):QR P (.gho (.pub slot site) a) ⟨f,fr :: m,ds⟩ Q:=by
 refine⟨_,?_,h⟩;have e:Qc (fr :: m) 0 site=.vec g sz xs:=h2;simp only[JF,h1,e];rw[show Nat.beq site site=true from Nat.beq_refl site,show Nat.beq g g=true from Nat.beq_refl g,show Nat.ble (0+n) xs.length=true from Nat.ble_eq_true_of_le (by omega)];rfl

def GF:List Nat→RC→RC
 | [],a=>a
 |s :: l,a=>.gho (.drop s) (GF l a)
def Dy:List Nat→AV→AV
 | [],x=>x
 |s :: l,x=>Dy l (x.scrub s)
def GG:List Nat→Ob→Ob
 | [],x=>x
 |s :: l,x=>GG l (x.scrub s)

theorem P3 (l:List Nat):GG l .none=.none:=by
 induction l with
 |nil=>rfl
 |cons s l ih=>exact ih

theorem QL {Q:Exit→St→Prop}{a:RC}(l:List Nat):∀ {f:Fr} {fr:Nat→Ob},(∀s∈l,(fr s).isRow=false)→
  (∀f' fr',(∀i,f' i=Dy l (f i))→(∀i,i∉l→fr' i=GG l (fr i))→(∀i∈l,fr' i=.none)→QR P a ⟨f',fr' :: m,[]⟩ Q)→QR P (GF l a) ⟨f,fr :: m,[]⟩ Q:=by
 induction l with
 |nil=>intro f fr _ h;exact h f fr (fun _=>rfl) (fun _ _=>rfl) (fun _ h=>by cases h)
 |cons s l ih=>
  intro f fr hr h;show QR P (.gho (.drop s) (GF l a)) _ _;rw[SB];refine⟨hr s (by simp),?_⟩;show QR P (GF l a) ⟨_,_ :: m,[]⟩ Q;refine ih ?_ ?_
  ·intro t ht;by_cases e:t=s
   ·subst e;rw[QU];rfl
   ·rw[QX _ _ e,Da];exact hr t (by simp[ht])
  ·intro f' fr' h1 h2 h3;refine h f' fr' h1 ?_ ?_
   ·intro i hi;rw[h2 i (fun h=>hi (QmL _ h)),QX _ _ (fun e=>hi (by rw[e];exact QmN))];rfl
   ·intro i hi;by_cases hl:i∈l
    ·exact h3 i hl
    ·have e:i=s:=by
      rcases QnS.1 hi with e|e
      ·exact e
      ·exact absurd e hl
     rw[h2 i hl,e,QU,P3]

def Xr:Ob→Nat
 |.vec g _ _=>g+1
 |_=>1

theorem Jo {fr:Nat→Ob}{s:Nat}:Qy (fr :: m) 0 s=Xr (fr s):=by
 unfold Qy Xr;rfl

theorem Jw {K:St→Prop}{neg:Bool}{r:RA}{ys:List AV}(hr:r.ev f=.list ys)(h0:QB P its ⟨QG f d (.bool neg),m,ds⟩ K)(h1:ys=[]∨QK ys=[]→QB P its ⟨QG f d (.bool (!neg)),m,ds⟩ K):QB P (⟨some d,.isnil neg r,none⟩ :: its) ⟨f,m,ds⟩ K:=by
 refine⟨ys,?_,fun _=>h0,fun e=>h1 ?_⟩
 ·show QY m (r.ev f)=some ys;rw[hr];rfl
 ·rcases e with e|e
  ·have e:r.ev f=.nils:=e;rw[hr]at e;cases e
  ·exact .inr e

theorem Y4 {K:St→Prop}{site sz bytes el:Nat}{s r:RA}{fr:Nat→Ob}{xs ys:List AV}(hs:s.ev f=.lcap xs)(hr:r.ev f=.list ys)(hne:ys≠[])(hxz:xs.all (fun e=>e.cells.length==sz)=true)(hsz:ys.all (fun e=>e.cells.length==sz)=true)(hm:xs.length+ys.length≤maxLen)(hb:(xs.length+ys.length)*bytes≤140737488355328)(hro:Qn (fr site)=true)
  (h:QB P its ⟨QG f d (.vec 0 site (Xr (fr site)) 0 (xs.length+ys.length) false),QG fr site (.vec (Xr (fr site)) sz (xs++ys)) :: m,ds⟩ K):QB P (⟨some d,.appc site sz bytes el s r,none⟩ :: its) ⟨f,fr :: m,ds⟩ K:=by
 refine⟨xs,ys,hs,?_,hne,hxz,hsz,hm,hb,hro,h⟩;show QY (fr :: m) (r.ev f)=some ys;rw[hr];rfl

theorem Jp {K:St→Prop}{site sz:Nat}{fr:Nat→Ob}(hs:Qn (fr site)=true)
  (h:QB P its ⟨QG f d (.vec 0 site (Xr (fr site)) 0 0 false),QG fr site (.vec (Xr (fr site)) sz []) :: m,ds⟩ K):QB P (⟨some d,.bsl0 site sz,none⟩ :: its) ⟨f,fr :: m,ds⟩ K :=
 ⟨hs,h⟩

theorem SL {K:St→Prop}{site sz len:Nat}{z:List AV}{ps:List (Nat×Nat×RA)}{fr:Nat→Ob}{y:List AV}(hy:fill f ps (X9 z sz len)=some y)(h1:AV.rfL y=true)(h2:y.all AV.leaf=true)(hs:Qn (fr site)=true)
  (h:QB P its ⟨QG f d (.vec 0 site (Xr (fr site)) 0 len false),QG fr site (.vec (Xr (fr site)) sz (Zl sz len (y.map nn0))) :: m,ds⟩ K):QB P (⟨some d,.bslv site sz len z ps,none⟩ :: its) ⟨f,fr :: m,ds⟩ K :=
 ⟨y,hy,h1,h2,hs,h⟩

theorem X4 {Q:Exit→St→Prop}{a:RC}{slot site l S g sz o n:Nat}{q:Bool}{fr:Nat→Ob}{xs:List AV}(h1:f slot=.vec 0 site g o n q)(h2:fr site=.vec g sz xs)(hl:l<m.length)(hS:S<2000)(hr:Qn (Qc m l S)=true)
  (h:QR P a ⟨QG f slot (.vec (l+1) S (Qy m l S) o n q),QG fr site (.vec (g+1) sz []) :: Am.put m l S (.vec (Qy m l S) sz xs),ds⟩ Q):QR P (.gho (.give slot site (l+1) S) a) ⟨f,fr :: m,ds⟩ Q:=by
 refine⟨_,?_,h⟩;have e:Qc (fr :: m) 0 site=.vec g sz xs:=h2;have e1:Qn (Qc (fr :: m) (l+1) S)=true:=hr;have e2:Qy (fr :: m) (l+1) S=Qy m l S:=rfl;simp only[JF,h1,e,e1,e2];rw[show Nat.beq site site=true from Nat.beq_refl site,show Nat.beq g g=true from Nat.beq_refl g,show Nat.blt (l+1) (fr :: m).length=true from Nat.ble_eq_true_of_le (by simp;omega),show Nat.blt S 2000=true from Nat.ble_eq_true_of_le hS];rfl

theorem Ft {K:St→Prop}{k:Nat}{r:RA}{args:List RA}{fa fb ys:List AV}{v:AV}{m':Qh}(hr:r.ev f=.fn (.func k) fa fb)(hk:Qd P k ys m fun x m1=>x=v∧m1=m')(hy:fa++args.map (RA.ev f)++fb=ys)(h:QB P its ⟨QG f d v,m',ds⟩ K) :
  QB P (⟨some d,.callF r args,none⟩ :: its) ⟨f,m,ds⟩ K:=by
 refine⟨k,fa,fb,v,m',hr,?_,h⟩;show Qd P k (fa++args.map (RA.ev f)++fb) m fun x m1=>x=v∧m1=m'
 rw[hy];exact hk

theorem J6 {K:St→Prop}{k:Nat}{r:RA}{args:List RA}{fa fb ys:List AV}{v:AV}(hr:r.ev f=.fn (.func k) fa fb)(hk:Qi P k ys v)(hy:AV.stillL false m (fa++args.map (RA.ev f)++fb)=some ys)(h1:AV.rfL ys=true)(h2:v.rf=true)
  (h3:AV.rfL (fa++args.map (RA.ev f)++fb)=true∨v.nl=true) (h:QB P its ⟨QG f d v,m,ds⟩ K):QB P (⟨some d,.call r args,none⟩ :: its) ⟨f,m,ds⟩ K :=
 ⟨k,fa,fb,ys,v,hr,hy,h1,hk,h2,h3,h⟩

end Go.Proofs.YtkhpgmeokilhaaaGreatDoor.Am

namespace Go.Proofs.YtkhpgmeokilhaaaGreatDoor.Am
open Go

abbrev Nn:=FuncId→Option (RC×List RR×Nat)

def GH (P:Program)(T:Nn):Prop :=
 ∀k c rs N, T k=some (c, rs, N)→∃fn body, P.funcs[k]? = some fn∧fn.body=some body∧(fn.name == "runtime.NumGoroutine")=false∧fn.ntmps=N∧X3 P N c body=true∧Jv P fn.results.toList rs=true

abbrev W0:=FuncId→List AV→Qh→Option (AV×Qh)

def Fu:Ob→Ob→Bool
 |.cells [.vec l s g o n q],.cells [.vec l' s' g' o' n' q']=>Nat.beq l l'&&Nat.beq s s'&&Nat.beq g g'&&Nat.beq o o'&&Nat.beq n n'&&q==q'
 |_,_=>false
theorem SM:∀ {a b:Ob},Fu a b=true→a=b:=by
 intro a b h;unfold Fu at h;split at h
 ·simp only[QmT,QmA]at h;obtain⟨⟨⟨⟨⟨h1,h2⟩,h3⟩,h4⟩,h5⟩,h6⟩:=h;rw[Qmq h1,Qmq h2,Qmq h3,Qmq h4,Qmq h5,h6]
 ·cases h

def Yw:Nat→Nat→Ob→Qh
 |0,s,o=>[fun t=>bif Nat.beq t s then o else .none]
 |l+1,s,o=>(fun _=>.none) :: Yw l s o
theorem KR:∀(l s:Nat) (o:Ob) (i t:Nat),Qc (Yw l s o) i t=if i=l∧t=s then o else .none
 |0,s,o,0,t=>by
  show(bif Nat.beq t s then o else Ob.none)=_;by_cases h:t=s
  ·subst h;rw[QmD ⟨rfl,rfl⟩,show Nat.beq t t=true from Nat.beq_refl t];rfl
  ·rw[QmC (fun e=>h e.2)];cases hb:Nat.beq t s with
   |true=>exact absurd (Qmq hb) h
   |false=>rfl
 |0,s,o,i+1,t=>by
  rw[QmC (by omega)];cases i<;>rfl
 |l+1,s,o,0,t=>by
  rw[QmC (by omega)];rfl
 |l+1,s,o,i+1,t=>by
  show Qc (Yw l s o) i t=_;rw[KR];simp only[Nat.add_right_cancel_iff]

mutual
def AV.npv (l s:Nat):AV→Bool
 |.vec i t _ _ _ _=>Nat.beq i l&&Nat.beq t s
 |.ptr .. | .mptr .. | .vptr .. | .rptr _=>false
 |.agg a|.tup a=>AV.npvL l s a
 |.iface _ x=>x.npv l s
 |.fn _ a b=>AV.npvL l s a&&AV.npvL l s b
 |_=>true
def AV.npvL (l s:Nat):List AV→Bool
 | []=>true
 |x :: a=>x.npv l s&&AV.npvL l s a
end
mutual
theorem Rep.npv {G G':Gh}{l s:Nat}(hg:G.sameStab G')(h1:G'.vg l s=G.vg l s)(h2:G'.vm l s=G.vm l s)(h3:G'.vc l s=G.vc l s)(h4:G'.vz l s=G.vz l s):∀ {x:AV} {v:Value},x.npv l s=true→Rep G x v→Rep G' x v
 |_,_,_,.top v=>.top v
 |_,_,_,.int k n=>.int k n
 |_,_,_,.bool b=>.bool b
 |_,_,_,.str s=>.str s
 |_,_,_,.nils=>.nils
 |_,_,_,.nilp=>.nilp
 |_,_,_,.nilf=>.nilf
 |_,_,_,.nili=>.nili
 |_,_,_,.nilm=>.nilm
 |_,_,_,.anyp p=>.anyp p
 |_,_,_,.list hc hz hf hl hs hn hcap hm=>.list (RepL.rfd hg hf hc) hz hf hl (fun j u h=>by
   obtain⟨b,o,e,h'⟩:=hs j u h;exact⟨b,o,e,hg _ _ _ h'⟩) hn hcap hm
 |_,_,_,.lcap hc hz hf hl hs hn hm=>.lcap (RepL.rfd hg hf hc) hz hf hl (fun j u h=>by
   obtain⟨b,o,e,h'⟩:=hs j u h;exact⟨b,o,e,hg _ _ _ h'⟩) hn hm
 |_,_,hr,.agg h=>.agg (RepL.npv hg h1 h2 h3 h4 hr h)
 |_,_,hr,.tup h=>.tup (RepL.npv hg h1 h2 h3 h4 hr h)
 |_,_,hr,.iface h=>.iface (Rep.npv hg h1 h2 h3 h4 hr h)
 |_,_,hr,.fn ha hb=>by
   have hr:=Qmw.1 hr;exact .fn (RepL.npv hg h1 h2 h3 h4 hr.1 ha) (RepL.npv hg h1 h2 h3 h4 hr.2 hb)
 |_,_,hr,.ptr h=>by cases hr
 |_,_,hr,.mp h=>.mp (hg _ _ _ h)
 |_,_,hr,.mptr h=>by cases hr
 |_,_,hr,.vec hv hl h=>by
   have hr:=Qmw.1 hr;have e1:=Qmq hr.1;have e2:=Qmq hr.2;rw[e1,e2]at hl h ⊢;exact .vec hv (by rw[h1];exact hl) (by rw[h1,h2,h3,h4];exact h)
 |_,_,hr,.vptr hv hl h=>by cases hr
 |_,_,hr,.rptr hc hf hl hs=>by cases hr
theorem RepL.npv {G G':Gh}{l s:Nat}(hg:G.sameStab G')(h1:G'.vg l s=G.vg l s)(h2:G'.vm l s=G.vm l s)(h3:G'.vc l s=G.vc l s)(h4:G'.vz l s=G.vz l s):∀ {x:List AV} {v:List Value},AV.npvL l s x=true→RepL G x v→RepL G' x v
 |_,_,_,.nil=>.nil
 |_,_,hr,.cons h t=>by
   have hr:=Qmw.1 hr;exact .cons (Rep.npv hg h1 h2 h3 h4 hr.1 h) (RepL.npv hg h1 h2 h3 h4 hr.2 t)
end

theorem Ml {P:Program}{k:FuncId}{args:List AV}{l s g z:Nat}{xs:List AV}{v:AV}{m1:Qh}(h:Qd P k args (Yw l s (.vec g z xs)) (fun x m'=>x=v∧m'=m1))(hr:Qc m1 l s=.vec g z xs)(hv:v.rf=true)(hn:AV.npvL l s args=true)(m:Qh)(hm:Qc m l s=.vec g z xs):Qd P k args m (fun x m'=>x=v∧m'=m):=by
 refine⟨h.1,fun G w vs hrep hmr=>?_⟩
 let G0:Gh:={ stab:=G.stab,nm:=fun _ _=>none,vm:=fun i t=>if i=l∧t=s then G.vm l s else none,vc:=fun i t=>if i=l∧t=s then G.vc l s else 0,vg:=fun i t=>if i=l∧t=s then G.vg l s else 0,vz:=fun i t=>if i=l∧t=s then G.vz l s else 0,tab:=G.tab }
 have z1:G0.vg l s=G.vg l s:=QmD ⟨rfl,rfl⟩;have z2:G0.vm l s=G.vm l s:=QmD ⟨rfl,rfl⟩;have z3:G0.vc l s=G.vc l s:=QmD ⟨rfl,rfl⟩;have z4:G0.vz l s=G.vz l s:=QmD ⟨rfl,rfl⟩;have zn:∀ {i t:Nat},¬(i=l∧t=s)→G0.vm i t=none:=fun h=>QmC h
 have mine0:∀ {b:Nat},G0.mine b→G.vm l s=some b:=by
  rintro b (⟨i,t,e⟩|⟨i,t,e⟩)
  ·cases e
  ·by_cases hc:i=l∧t=s
   ·rw[show G0.vm i t=G.vm l s from QmD hc]at e;exact e
   ·rw[zn hc]at e;cases e
 obtain⟨v1,v2,v3,v4⟩:=hmr.vec l s g z xs hm;have hmr0:MR G0 (Yw l s (.vec g z xs)) w:={
  stab:=hmr.stab
  cells:=fun i t ys e=>by rw[KR]at e;split at e<;>cases e
  nm:=fun i t b e=>by cases e
  vec:=fun i t g' z' ys e=>by
   rw[KR]at e;by_cases hc:i=l∧t=s
   ·rw[QmD hc]at e;cases e;rw[hc.1,hc.2,z1,z2,z3,z4];exact⟨v1,v2,v3,v4.imp id fun⟨b,e',r⟩=>⟨b,e',r.of rfl fun vs hv=>RepL.rfd (G:=G) (G':=G0) (fun _ _ _ h=>h) v3.rf hv⟩⟩
   ·rw[QmC hc]at e;cases e
  vm:=fun i t b e=>by
   have e':=mine0 (.inr ⟨i,t,e⟩);by_cases hc:i=l∧t=s
   ·exact⟨⟨g,z,xs,by rw[KR,QmD hc]⟩,(hmr.vm _ _ _ e').2⟩
   ·rw[zn hc]at e;cases e
  gone:=fun i t e=>by
   rw[KR]at e;by_cases hc:i=l∧t=s
   ·rw[QmD hc]at e;cases e
   ·exact QmC hc
  inj1:=fun i t i' t' b e=>by cases e
  inj2:=fun i t i' t' b e e'=>by
   by_cases hc:i=l∧t=s
   ·by_cases hc':i'=l∧t'=s
    ·exact⟨hc.1.trans hc'.1.symm,hc.2.trans hc'.2.symm⟩
    ·rw[zn hc']at e';cases e'
   ·rw[zn hc]at e;cases e
  inj3:=fun i t i' t' b e=>by cases e
  iter:=fun i t y p e=>by rw[KR]at e;split at e<;>cases e }
 refine(h.2 G0 w vs (RepL.npv (G:=G) (G':=G0) (fun _ _ _ h=>h) z1 z2 z3 z4 hn hrep) hmr0).mono fun e w' ⟨G',x,v',m',he,⟨hx,hm'⟩,hv',hr',ext,_⟩=>?_
 subst hx hm';have hg:∀b o v,G.stab b o=some v→G'.stab b o=some v:=ext.stab;obtain⟨u1,u2,u3,u4⟩:=hr'.vec l s g z xs hr;have evs:=ext.vs l s (by rw[u1,z1,v1]);have old:∀b,b<w.heap.size→G.vm l s≠some b→w'.heap[b]? = w.heap[b]?∧∀o,G'.stab b o=G.stab b o:=fun b hb hne=>ext.old b hb fun hc=>hne (mine0 hc)
 refine⟨G.with G'.stab hg,x,v',m,he,⟨rfl,rfl⟩,Rep.rfd (G:=G') (G':=G.with G'.stab hg) (fun _ _ _ h=>h) hv hv',?_,?_,rfl⟩
 ·exact {
   stab:=hr'.stab
   cells:=fun i t ys e=>by
    obtain⟨b,cs,e',hc,hr2⟩:=hmr.cells i t ys e;have hb:=(old b hc.lt (hmr.inj3 _ _ _ _ _ e')).1;exact⟨b,cs,e',hc.of hb,RepL.mono (G:=G.dn i) (G':=(G.with G'.stab hg).dn i) ⟨hg,fun _ _ _ h=>h,fun _ _=>Qms _,fun _ _ _=>⟨rfl,rfl,rfl⟩⟩ hr2⟩
   nm:=fun i t b e=>⟨(hmr.nm i t b e).1,fun o=>((old b (hmr.mine (.inl ⟨i,t,e⟩)).1 (hmr.inj3 _ _ _ _ _ e)).2 o).trans ((hmr.nm i t b e).2 o)⟩
   vec:=fun i t g' z' ys e=>by
    by_cases hc:i=l∧t=s
    ·rw[hc.1,hc.2]at e ⊢;rw[hm]at e;cases e;have q:=u4;rw[evs.1,evs.2.1,z2,z3]at q;exact⟨v1,v2,v3,q.imp id fun⟨b,e',r⟩=>⟨b,e',r.of rfl fun vs hv=>RepL.rfd (G:=G') (G':=G.with G'.stab hg) (fun _ _ _ h=>h) u3.rf hv⟩⟩
    ·obtain⟨a1,a2,a3,a4⟩:=hmr.vec i t g' z' ys e;exact⟨a1,a2,a3,a4.imp id fun⟨b,e',r⟩=>⟨b,e',r.of (old b (hmr.mine (.inr ⟨i,t,e'⟩)).1 fun e2=>hc (hmr.inj2 _ _ _ _ _ e' e2)).1 fun vs hv=>RepL.rfd (G:=G) (G':=G.with G'.stab hg) hg a3.rf hv⟩⟩
   vm:=fun i t b e=>⟨(hmr.vm i t b e).1,fun o=>by
    by_cases hc:i=l∧t=s
    ·have e':G.vm i t=some b:=e;rw[hc.1,hc.2]at e';exact(hr'.vm l s b (by rw[evs.1,z2];exact e')).2 o
    ·exact((old b (hmr.mine (.inr ⟨i,t,e⟩)).1 fun e2=>hc (hmr.inj2 _ _ _ _ _ e e2)).2 o).trans ((hmr.vm i t b e).2 o)⟩
   gone:=hmr.gone
   inj1:=hmr.inj1
   inj2:=hmr.inj2
   inj3:=hmr.inj3
   iter:=fun i t y p e=>by
    obtain⟨b,e',hc⟩:=hmr.iter i t y p e;exact⟨b,e',(old b (hmr.mine (.inl ⟨i,t,e'⟩)).1 (hmr.inj3 _ _ _ _ _ e')).1.trans hc⟩ }
 ·exact⟨ext.os,ext.tape,ext.output,ext.size,hg,fun _ _ _=>rfl,fun _ _=>Qms _,fun _ _ _=>⟨rfl,rfl,rfl⟩,fun b hb hn'=>old b hb fun e2=>hn' (.inr ⟨l,s,e2⟩),fun _ h=>.inl h,fun l s _ h=>.inl ⟨l,s,Qms _,h⟩⟩

mutual
def AV.eqb:AV→AV→Bool
 |.int k n,b=>match b with|.int k' n'=>decide (k=k')&&decide (n=n')|_=>false
 |.bool x,b=>match b with|.bool y=>x==y|_=>false
 |.str x,b=>match b with|.str y=>x==y|_=>false
 |.nils,b=>match b with|.nils=>true|_=>false
 |.list x,b=>match b with|.list y=>AV.eqbL x y|_=>false
 |.agg x,b=>match b with|.agg y=>AV.eqbL x y|_=>false
 |_,_=>false
def AV.eqbL:List AV→List AV→Bool
 | [],b=>match b with | []=>true|_=>false
 |x :: a,b=>match b with|y :: b=>x.eqb y&&AV.eqbL a b|_=>false
end
mutual
theorem AV.eqb_ok:∀(a b:AV),a.eqb b=true→a=b
 |.int k n,b,h=>by cases b<;>simp_all[AV.eqb]
 |.bool x,b,h=>by cases b<;>simp_all[AV.eqb]
 |.str x,b,h=>by cases b<;>simp_all[AV.eqb]
 |.nils,b,h=>by cases b<;>simp_all[AV.eqb]
 |.list x,b,h=>by
  cases b with
  |list y=>rw[AV.eqbL_ok x y h]
  |_=>cases h
 |.agg x,b,h=>by
  cases b with
  |agg y=>rw[AV.eqbL_ok x y h]
  |_=>cases h
 |.top,b,h=>by cases b<;>cases h
 |.nilp,b,h=>by cases b<;>cases h
 |.nilf,b,h=>by cases b<;>cases h
 |.nili,b,h=>by cases b<;>cases h
 |.nilm,b,h=>by cases b<;>cases h
 |.anyp,b,h=>by cases b<;>cases h
 |.lcap _,b,h=>by cases b<;>cases h
 |.tup _,b,h=>by cases b<;>cases h
 |.iface _ _,b,h=>by cases b<;>cases h
 |.fn _ _ _,b,h=>by cases b<;>cases h
 |.ptr _ _ _,b,h=>by cases b<;>cases h
 |.vec _ _ _ _ _ _,b,h=>by cases b<;>cases h
 |.vptr _ _ _ _ _,b,h=>by cases b<;>cases h
 |.rptr _,b,h=>by cases b<;>cases h
 |.mp _ _,b,h=>by cases b<;>cases h
 |.mptr _ _,b,h=>by cases b<;>cases h
theorem AV.eqbL_ok:∀(a b:List AV),AV.eqbL a b=true→a=b
 | [],b,h=>by
  cases b with
  |nil=>rfl
  |cons _ _=>cases h
 |x :: a,b,h=>by
  cases b with
  |nil=>cases h
  |cons y b=>
   have h:=Qmw.1 h;rw[AV.eqb_ok x y h.1,AV.eqbL_ok a b h.2]
end
def GI (o:Ob)(g z:Nat)(xs:List AV):Bool:=match o with
 |.vec g' z' ys=>Nat.beq g' g&&Nat.beq z' z&&AV.eqbL ys xs
 |_=>false
theorem P4 {o:Ob}{g z:Nat}{xs:List AV}(h:GI o g z xs=true):o=.vec g z xs:=by
 unfold GI at h;split at h
 ·simp only[QmT]at h;rw[Qmq h.1.1,Qmq h.1.2,AV.eqbL_ok _ _ h.2]
 ·cases h

def XF (call:W0)(d:Option Nat)(op:RO)(st:St):Option St :=
 match op with
 |.val vo=>match Qx st.f st.m vo with
  |some x=>some { st with f:=Qj st.f d x }
  |none=>none
 |.allocN s z=>bif X0 st.m s then some { st with m:=Am.put st.m 0 s (.cells z),f:=Qj st.f d (.ptr 0 s 0) } else none
 |.boxN s r=>bif X0 st.m s&&(r.ev st.f).cells.all AV.leaf then some { st with m:=Am.put st.m 0 s (.cells (r.ev st.f).cells),f:=Qj st.f d (.ptr 0 s 0) } else none
 |.store n p r=>bif Nat.beq (r.ev st.f).cells.length n&&(r.ev st.f).cells.all AV.leaf then match Xa st.m (p.ev st.f) (r.ev st.f).cells with
   |some m'=>some { st with m:=m',f:=Qj st.f d (.tup []) }
   |none=>none
  else none
 |.storev l s n p r=>match p.ev st.f with
  |.ptr l' s' _=>bif Nat.beq l' l&&Nat.beq s' s&&Nat.beq (r.ev st.f).cells.length n&&(r.ev st.f).cells.all AV.leaf then match Xa st.m (p.ev st.f) (r.ev st.f).cells with
    |some m'=>some { st with m:=m',f:=Qj st.f d (.tup []) }
    |none=>none
   else none
  |_=>none
 |.app sz bytes el s r=>match s.ev st.f with
  |.vec l site g 0 n false=>match Qc st.m l site with
   |.vec g' sz' xs=>match QY st.m (r.ev st.f)with
    |some ys=>bif Nat.beq g' g&&Nat.beq sz' sz&&XY site el&&Nat.ble n xs.length&&ys.all (fun e=>e.cells.length==sz)&&Nat.ble (n+ys.length) maxLen&&Nat.ble ((n+ys.length)*bytes) 140737488355328 then
      some { st with m:=Am.put st.m l site (.vec (g+1) sz (xs.take n++ys)),f:=Qj st.f d (.vec l site (g+1) 0 (n+ys.length) false) }
     else none
    |none=>none
   |_=>none
  |_=>none
 |.call f args=>match f.ev st.f with
  |.fn (.func k) fa fb=>match AV.stillL false st.m (fa++args.map (RA.ev st.f)++fb)with
   |some ys=>bif AV.rfL ys then match call k ys []with
     |some (v,_)=>bif v.rf&&(AV.rfL (fa++args.map (RA.ev st.f)++fb)||v.nl)then some { st with f:=Qj st.f d v } else none
     |none=>none
    else none
   |none=>none
  |_=>none
 |.callF f args=>match f.ev st.f with
  |.fn (.func k) fa fb=>match call k (fa++args.map (RA.ev st.f)++fb) st.m with
   |some (v,m')=>some { st with m:=m',f:=Qj st.f d v }
   |none=>none
  |_=>none
 |.callG f args=>match f.ev st.f with
  |.fn (.func k) fa fb=>match call k (fa++args.map (RA.ev st.f)++fb) st.m with
   |some (v,m')=>some { st with m:=m',f:=Qj st.f d v }
   |none=>none
  |_=>none
 |.bsl sz len z ps=>match fill st.f ps (X9 z sz len)with
  |some y=>bif AV.rfL y&&y.all AV.leaf then some { st with f:=Qj st.f d (.list (Zl sz len (y.map nn0))) } else none
  |none=>none
 |.bslv site sz len z ps=>match fill st.f ps (X9 z sz len)with
  |some y=>bif AV.rfL y&&y.all AV.leaf&&Qn (Qc st.m 0 site)then some { st with m:=Am.put st.m 0 site (.vec (Qy st.m 0 site) sz (Zl sz len (y.map nn0))),f:=Qj st.f d (.vec 0 site (Qy st.m 0 site) 0 len false) } else none
  |none=>none
 |.clr .. => none
 |.bsl0 site sz=>bif Qn (Qc st.m 0 site)then some { st with m:=Am.put st.m 0 site (.vec (Qy st.m 0 site) sz []),f:=Qj st.f d (.vec 0 site (Qy st.m 0 site) 0 0 false) } else none
 |.appc site sz bytes _ s r=>match s.ev st.f with
  |.lcap xs=>match QY st.m (r.ev st.f)with
   |some (y :: ys)=>bif xs.all (fun e=>e.cells.length==sz)&&(y :: ys).all (fun e=>e.cells.length==sz)&&Nat.ble (xs.length+(y :: ys).length) maxLen&&Nat.ble ((xs.length+(y :: ys).length)*bytes) 140737488355328&&Qn (Qc st.m 0 site)then
     some { st with m:=Am.put st.m 0 site (.vec (Qy st.m 0 site) sz (xs++y :: ys)),f:=Qj st.f d (.vec 0 site (Qy st.m 0 site) 0 (xs.length+(y :: ys).length) false) }
    else none
   |_=>none
  |_=>none
 |.isnil neg r=>match r.ev st.f with
  |.nils=>some { st with f:=Qj st.f d (.bool (!neg)) }
  |.list l=>match QK l with
   |_ :: _=>some { st with f:=Qj st.f d (.bool neg) }
   | []=>none
  |_=>none
 |.callK l s f args=>match f.ev st.f with
  |.fn (.func k) fa fb=>match call k (fa++args.map (RA.ev st.f)++fb) st.m with
   |some (v,m')=>bif Fu (Qc m' l s) (Qc st.m l s)then some { st with m:=m',f:=Qj st.f d v } else none
   |none=>none
  |_=>none
 |.callO l s f args=>match f.ev st.f with
  |.fn (.func k) fa fb=>match Qc st.m l s with
   |.vec g z xs=>bif AV.npvL l s (fa++args.map (RA.ev st.f)++fb)then(match call k (fa++args.map (RA.ev st.f)++fb) (Yw l s (.vec g z xs))with
    |some (v,m')=>bif v.rf&&GI (Qc m' l s) g z xs then some { st with f:=Qj st.f d v } else none
    |none=>none)else none
   |_=>none
  |_=>none
 |.xb cnt _ s c=>match s.ev st.f,c.ev st.f with
  |.str t,.int .u8 b=>some { st with f:=Qj st.f d (.int .i64 (Ff cnt t b)) }
  |_,_=>none
 |.rngs s r=>match r.ev st.f with
  |.str t=>bif X0 st.m s then some { st with m:=Am.put st.m 0 s (.iter (.str t) 0),f:=Qj st.f d (.ptr 0 s 0) } else none
  |_=>none
 |.nxts r=>match r.ev st.f with
  |.ptr l s 0=>match Qc st.m l s with
   |.iter (.str t) p=>bif Nat.blt p t.length then some { st with m:=Am.put st.m l s (.iter (.str t) (p+(XK t p).2)),f:=Qj st.f d (.tup [.bool true,.int .i64 (p:Nat),.int .i32 ((XK t p).1:Nat)]) } else some { st with f:=Qj st.f d (.tup [.bool false]) }
   |_=>none
  |_=>none
 |.mkm s=>bif X0 st.m s then some { st with m:=Am.put st.m 0 s (.iter (.mp [] []) 0),f:=Qj st.f d (.mptr 0 s) } else none
 |.mput tx x i v=>match x.ev st.f with
  |.mptr l s=>match Qc st.m l s with
   |.iter (.mp ks vs) p=>match KZ tx (i.ev st.f)with
    |some k=>bif keys tx ks&&((v.ev st.f).gr&&AV.grL vs&&Nat.beq ks.length vs.length)then some { st with m:=Am.put st.m l s (.iter (.mp (Zc k (v.ev st.f) ks vs).1 (Zc k (v.ev st.f) ks vs).2) p),f:=Qj st.f d (.tup []) } else none
    |_=>none
   |_=>none
  |_=>none
 |.appS el s r=>match s.ev st.f,r.ev st.f with
  |.vec l site g 0 n false,.str t=>match Qc st.m l site with
   |.vec g' 1 xs=>bif Nat.beq g' g&&XY site el&&Nat.ble n xs.length&&Nat.ble (n+t.length) 140737488355328 then
     some { st with m:=Am.put st.m l site (.vec (g+1) 1 (xs.take n++Qr t)),f:=Qj st.f d (.vec l site (g+1) 0 (n+t.length) false) }
    else none
   |_=>none
  |_,_=>none
 |.mk site _ sz bytes z l c=>match l.ev st.f,c.ev st.f with
  |.int _ (.ofNat n),.int _ (.ofNat k)=>bif Nat.ble n k&&Nat.ble k 9223372036854775807&&Nat.ble (bytes*k) 281474976710656&&Qn (Qc st.m 0 site)then
    some { st with m:=Am.put st.m 0 site (.vec (Qy st.m 0 site) sz (List.replicate n (Zx sz z))),f:=Qj st.f d (.vec 0 site (Qy st.m 0 site) 0 n false) }
   else none
  |_,_=>none
 |.s2b site _ r=>match r.ev st.f with
  |.str s=>bif Nat.ble s.length 9223372036854775807&&Qn (Qc st.m 0 site)then
    some { st with m:=Am.put st.m 0 site (.vec (Qy st.m 0 site) 1 (Qr s)),f:=Qj st.f d (.vec 0 site (Qy st.m 0 site) 0 s.length false) }
   else none
  |_=>none
 |.usd r=>match r.ev st.f with
  |.vec l s g 0 n false=>match Qc st.m l s with
   |.vec g' _ _=>bif Nat.beq g' g&&Nat.ble 2000 s then some { st with f:=Qj st.f d (if n=0 then .anyp else .vptr l s g 0 0) } else none
   |_=>none
  |_=>none
 |.ustr el p r=>match p.ev st.f,r.ev st.f with
  |.anyp,.int .i64 (.ofNat 0)=>some { st with f:=Qj st.f d (.str []) }
  |.vptr l s g 0 0,.int .i64 (.ofNat (n+1))=>match Qc st.m l s with
   |.vec g' 1 xs=>match bytesOf (xs.take (n+1))with
    |some t=>bif Nat.beq s (el+2000)&&Nat.beq g' g&&Nat.ble (n+1) xs.length&&isBytes (xs.take (n+1)) t then some { st with m:=Am.put st.m l (el+2000) (.vec (g+1) 1 []),f:=Qj st.f d (.str t) } else none
    |none=>none
   |_=>none
  |_,_=>none
where
  isBytes:List AV→List UInt8→Bool
  | [],[]=>true
  |.int .u8 (.ofNat n) :: l,b :: t=>Nat.beq n b.toNat&&isBytes l t
  |_,_=>false

def VC (call:W0)(it:Item)(st:St):Option St :=
 match it.g with
 |none=>XF call it.dst it.op st
 |some (j,want)=>match st.f j with
  |.bool b=>bif b==want then XF call it.dst it.op st else some { st with f:=Qj st.f it.dst (.tup []) }
  |.tup []=>some { st with f:=Qj st.f it.dst (.tup []) }
  |_=>none

def Fv (call:W0):List Item→St→Option St
 | [],st=>some st
 |it :: its,st=>match VC call it st with
  |some st'=>Fv call its st'
  |none=>none

def Fw (rs:List RR)(n:Nat)(r:Option (Exit×St)):Option (AV×Qh) :=
 match r with
 |some (.normal,st)=>fin st
 |some (.ret,st)=>fin st
 |_=>none
where
 fin (st:St):Option (AV×Qh):=match st.ds with
  | []=>match K4 st rs with
   |some x=>match WP st.m x with
    |some y=>match st.m with
     |_ :: m=>bif Nat.beq m.length n then some (y,m)else none
     | []=>none
    |none=>none
   |none=>none
  |_=>none

def Ux (nat:W0)(T:Nn)(body:RC→St→Option (Exit×St)):W0:=fun k args m=>
 match nat k args m with
 |some r=>some r
 |none=>match T k with
  |some (c,rs,N)=>bif Nat.ble args.length N then Fw rs m.length (body c (St.enter args m))else none
  |none=>none

def ZM (nat:W0)(T:Nn):Nat→RC→St→Option (Exit×St)
 |0,_,_=>none
 |n+1,c,st=>match c with
  |.skip=>some (.normal,st)
  |.reg its=>match Fv (Ux nat T (ZM nat T n)) its st with
   |some st'=>some (.normal,st')
   |none=>none
  |.draw its=>match Fv (Ux nat T (ZM nat T n)) its st with
   |some st'=>some (.normal,st')
   |none=>none
  |.seq a b=>match ZM nat T n a st with
   |some (.normal,st')=>ZM nat T n b st'
   |r=>r
  |.cond c a b=>match c.ev st.f with
   |.bool t=>bif t then ZM nat T n a st else ZM nat T n b st
   |_=>none
  |.block id a=>match ZM nat T n a st with
   |some (.exit i,st')=>if i=id then some (.normal,st')else some (.exit i,st')
   |r=>r
  |.loop a=>match ZM nat T n a st with
   |some (.normal,st')=>ZM nat T n (.loop a) st'
   |r=>r
  |.exit id=>some (.exit id,st)
  |.scope a=>match ZM nat T n a st with
   |some (.goto _,_)=>none
   |r=>r
  |.lab=>some (.normal,st)
  |.ret=>some (.ret,st)
  |.gho g a=>match JF g st with
   |some st'=>ZM nat T n a st'
   |none=>none
  |.no=>none
  |.goto l=>some (.goto l,st)
  |.jump l a b=>match ZM nat T n a st with
   |some (.goto i,st')=>if i=l then ZM nat T n (.jump l b b) st' else none
   |r=>r

section
variable {P:Program}{T:Nn}

def WR (P:Program)(call:W0):Prop:=∀k args m v m',call k args m=some (v,m')→Qd P k args m fun x m1=>x=v∧m1=m'

theorem Fx:∀ {l:List AV} {t:List UInt8},XF.isBytes l t=true→l=Qr t
 | [],[],_=>rfl
 | [],_ :: _,h=>by simp[XF.isBytes]at h
 |.int .u8 (.ofNat n) :: l,b :: t,h=>by
  simp only[XF.isBytes,QmT]at h;rw[Fx h.2,Qmq h.1];rfl
 |x :: l,[],h=>by
  unfold XF.isBytes at h;split at h<;>simp_all

theorem MI {call:W0}(hc:WR P call){d:Option Nat}{op:RO}{st st':St}(h:XF call d op st=some st'){K:St→Prop}(hK:K st'):Hx P d op st K:=by
 cases op with
 |val vo=>
  simp only[XF]at h;split at h
  ·rename_i x hx;cases h;exact⟨x,hx,hK⟩
  ·cases h
 |allocN s z=>
  simp only[XF]at h;cases h1:X0 st.m s<;>rw[h1]at h<;>simp only[cond_true,cond_false,reduceCtorEq,QmW]at h;subst h;exact⟨h1,hK⟩
 |boxN s r=>
  simp only[XF]at h;cases h1:(X0 st.m s&&(r.ev st.f).cells.all AV.leaf)<;>rw[h1]at h<;>simp only[cond_true,cond_false,reduceCtorEq,QmW]at h;rw[QmT]at h1;subst h;exact⟨h1.1,h1.2,hK⟩
 |store n p r=>
  simp only[XF]at h;cases h1:(Nat.beq (r.ev st.f).cells.length n&&(r.ev st.f).cells.all AV.leaf)<;>rw[h1]at h<;>simp only[cond_true,cond_false,reduceCtorEq]at h;rw[QmT]at h1;split at h
  ·rename_i m' hm;cases h;exact⟨Qmq h1.1,h1.2,m',hm,hK⟩
  ·cases h
 |storev l s n p r=>
  simp only[XF]at h;split at h
  ·rename_i l' s' o hp;cases h1:(Nat.beq l' l&&Nat.beq s' s&&Nat.beq (r.ev st.f).cells.length n&&(r.ev st.f).cells.all AV.leaf)<;>rw[h1]at h<;>simp only[cond_true,cond_false,reduceCtorEq]at h;simp only[QmT]at h1;obtain⟨⟨⟨a1,a2⟩,a3⟩,a4⟩:=h1;have e1:=Qmq a1;have e2:=Qmq a2;subst e1 e2;split at h
   ·rename_i m' hm;cases h;exact⟨⟨o,hp⟩,Qmq a3,a4,m',hm,hK⟩
   ·cases h
  ·cases h
 |app sz bytes el s r=>
  simp only[XF]at h;split at h
  ·rename_i l site g n hs;split at h
   ·rename_i g' sz' xs hl;split at h
    ·rename_i ys hy;cases h1:(Nat.beq g' g&&Nat.beq sz' sz&&XY site el&&Nat.ble n xs.length&&ys.all (fun e=>e.cells.length==sz)&&Nat.ble (n+ys.length) maxLen&&Nat.ble ((n+ys.length)*bytes) 140737488355328)<;>rw[h1]at h<;>simp only[cond_true,cond_false,reduceCtorEq,QmW]at h;simp only[QmT]at h1;obtain⟨⟨⟨⟨⟨⟨a1,a2⟩,a3⟩,a4⟩,a5⟩,a6⟩,a7⟩:=h1;have e1:=Qmq a1;have e2:=Qmq a2;subst e1 e2 h;exact⟨l,site,_,n,xs,ys,hs,hl,a3,QnZ a4,hy,a5,QnZ a6,QnZ a7,hK⟩
    ·cases h
   ·cases h
  ·cases h
 |call f args=>
  simp only[XF]at h;split at h
  ·rename_i k fa fb hf;split at h
   ·rename_i ys hy;cases h1:AV.rfL ys<;>rw[h1]at h<;>simp only[cond_true,cond_false,reduceCtorEq]at h;split at h
    ·rename_i v m' hv;cases h2:(v.rf&&(AV.rfL (fa++args.map (RA.ev st.f)++fb)||v.nl))<;>rw[h2]at h<;>simp only[cond_true,cond_false,reduceCtorEq,QmW]at h;rw[QmT,Qmy]at h2;subst h;exact⟨k,fa,fb,ys,v,hf,hy,h1,(hc _ _ _ _ _ hv).mono (fun _ _ e=>e.1),h2.1,h2.2,hK⟩
    ·cases h
   ·cases h
  ·cases h
 |callF f args=>
  simp only[XF]at h;split at h
  ·rename_i k fa fb hf;split at h
   ·rename_i v m' hv;cases h;exact⟨k,fa,fb,v,m',hf,hc _ _ _ _ _ hv,hK⟩
   ·cases h
  ·cases h
 |callG f args=>
  simp only[XF]at h;split at h
  ·rename_i k fa fb hf;split at h
   ·rename_i v m' hv;cases h;exact⟨k,fa,fb,_,hf,hc _ _ _ _ _ hv,fun x m1 hx _=>by obtain⟨rfl,rfl⟩:=hx;exact hK⟩
   ·cases h
  ·cases h
 |bsl sz len z ps=>
  simp only[XF]at h;split at h
  ·rename_i y hy;cases h1:(AV.rfL y&&y.all AV.leaf)<;>rw[h1]at h<;>simp only[cond_true,cond_false,reduceCtorEq,QmW]at h;rw[QmT]at h1;subst h;exact⟨y,hy,h1.1,h1.2,hK⟩
  ·cases h
 |bslv site sz len z ps=>
  simp only[XF]at h;split at h
  ·rename_i y hy;cases h1:(AV.rfL y&&y.all AV.leaf&&Qn (Qc st.m 0 site))<;>rw[h1]at h<;>simp only[cond_true,cond_false,reduceCtorEq,QmW]at h;simp only[QmT]at h1;subst h;exact⟨y,hy,h1.1.1,h1.1.2,h1.2,hK⟩
  ·cases h
 |clr sz z r=>simp only[XF]at h;cases h
 |bsl0 site sz=>
  simp only[XF]at h;cases h1:Qn (Qc st.m 0 site)<;>rw[h1]at h<;>simp only[cond_true,cond_false,reduceCtorEq,QmW]at h;subst h;exact⟨h1,hK⟩
 |appc site sz bytes el s r=>
  simp only[XF]at h;split at h
  ·rename_i xs hs;split at h
   ·rename_i y ys hy;cases h1:(xs.all (fun e=>e.cells.length==sz)&&(y :: ys).all (fun e=>e.cells.length==sz)&&Nat.ble (xs.length+(y :: ys).length) maxLen&&Nat.ble ((xs.length+(y :: ys).length)*bytes) 140737488355328&&Qn (Qc st.m 0 site))<;>rw[h1]at h<;>simp only[cond_true,cond_false,reduceCtorEq,QmW]at h;simp only[QmT]at h1;obtain⟨⟨⟨⟨a1,a2⟩,a3⟩,a4⟩,a5⟩:=h1;subst h;exact⟨xs,y :: ys,hs,hy,by simp,a1,a2,QnZ a3,QnZ a4,a5,hK⟩
   ·cases h
  ·cases h
 |isnil neg r=>
  simp only[XF]at h;split at h
  ·rename_i hr;cases h;exact⟨[],by rw[hr];rfl,fun e=>absurd hr e,fun _=>hK⟩
  ·rename_i l hr;split at h
   ·rename_i z zs hf;cases h;exact⟨l,by rw[hr];rfl,fun _=>hK,fun e=>by
     rcases e with e|e
     ·rw[hr]at e;cases e
     ·rw[hf]at e;cases e⟩
   ·cases h
  ·cases h
 |callO l s f args=>
  simp only[XF]at h;split at h
  ·rename_i k fa fb hf;split at h
   ·rename_i g z xs hl;cases h1:AV.npvL l s (fa++args.map (RA.ev st.f)++fb)<;>rw[h1]at h<;>simp only[cond_true,cond_false,reduceCtorEq]at h;split at h
    ·rename_i v m' hv;cases h2:(v.rf&&GI (Qc m' l s) g z xs)<;>rw[h2]at h<;>simp only[cond_true,cond_false,reduceCtorEq,QmW]at h;rw[QmT]at h2;subst h;exact⟨k,fa,fb,g,z,xs,v,hf,hl,fun m hm=>Ml (hc _ _ _ _ _ hv) (P4 h2.2) h2.1 h1 m hm,hK⟩
    ·cases h
   ·cases h
  ·cases h
 |callK l s f args=>
  simp only[XF]at h;split at h
  ·rename_i k fa fb hf;split at h
   ·rename_i v m' hv;cases he:Fu (Qc m' l s) (Qc st.m l s)<;>rw[he]at h<;>simp only[cond_true,cond_false,reduceCtorEq,QmW]at h;subst h;exact⟨k,fa,fb,v,m',hf,hc _ _ _ _ _ hv,SM he,hK⟩
   ·cases h
  ·cases h
 |xb cnt k s c=>
  simp only[XF]at h;split at h
  ·rename_i t b hs hb;cases h;exact⟨t,b,hs,hb,hK⟩
  ·cases h
 |rngs s r=>
  simp only[XF]at h;split at h
  ·rename_i t ht;cases h1:X0 st.m s<;>rw[h1]at h<;>simp only[cond_true,cond_false,reduceCtorEq,QmW]at h;subst h;exact⟨t,ht,h1,hK⟩
  ·cases h
 |mkm s=>
  simp only[XF]at h;cases h1:X0 st.m s<;>rw[h1]at h<;>simp only[cond_true,cond_false,reduceCtorEq,QmW]at h;subst h;exact⟨h1,hK⟩
 |mput tx x i v=>
  simp only[XF]at h;split at h
  ·rename_i l s hx;split at h
   ·rename_i ks vs p hl;split at h
    ·rename_i k hi;cases h1:(keys tx ks&&((v.ev st.f).gr&&AV.grL vs&&Nat.beq ks.length vs.length))<;>rw[h1]at h<;>simp only[cond_true,cond_false,reduceCtorEq,QmW]at h;subst h;simp only[QmT]at h1;exact⟨l,s,ks,vs,p,k,hx,hl,hi,h1.1,h1.2.1.1,h1.2.1.2,Qmq h1.2.2,hK⟩
    ·cases h
   ·cases h
  ·cases h
 |nxts r=>
  simp only[XF]at h;split at h
  ·rename_i l s hr;split at h
   ·rename_i t p hl;refine⟨l,s,t,p,hr,hl,fun e=>?_,fun e=>?_⟩
    ·have hb:Nat.blt p t.length=true:=by simp[Nat.blt_eq,e]
     rw[hb]at h;cases h;exact hK
    ·have hb:Nat.blt p t.length=false:=by
      cases hb:Nat.blt p t.length with
      |false=>rfl
      |true=>rw[Nat.blt_eq]at hb;omega
     rw[hb]at h;cases h;exact hK
   ·cases h
  ·cases h
 |appS el s r=>
  simp only[XF]at h;split at h
  ·rename_i l site g n t hs hr;split at h
   ·rename_i g' xs hl;cases h1:(Nat.beq g' g&&XY site el&&Nat.ble n xs.length&&Nat.ble (n+t.length) 140737488355328)<;>rw[h1]at h<;>simp only[cond_true,cond_false,reduceCtorEq,QmW]at h;simp only[QmT]at h1;obtain⟨⟨⟨a1,a2⟩,a3⟩,a4⟩:=h1;have e1:=Qmq a1;subst e1 h;exact⟨l,site,_,n,xs,t,hs,hl,a2,QnZ a3,hr,QnZ a4,hK⟩
   ·cases h
  ·cases h
 |mk site el sz bytes z l c=>
  simp only[XF]at h;split at h
  ·rename_i kl n kc k hl hcc;cases h1:(Nat.ble n k&&Nat.ble k 9223372036854775807&&Nat.ble (bytes*k) 281474976710656&&Qn (Qc st.m 0 site))<;>rw[h1]at h<;>simp only[cond_true,cond_false,reduceCtorEq,QmW]at h;simp only[QmT]at h1;obtain⟨⟨⟨a1,a2⟩,a3⟩,a4⟩:=h1;subst h;exact⟨kl,kc,n,k,hl,hcc,QnZ a1,QnZ a2,QnZ a3,a4,hK⟩
  ·cases h
 |s2b site el r=>
  simp only[XF]at h;split at h
  ·rename_i s hs;cases h1:(Nat.ble s.length 9223372036854775807&&Qn (Qc st.m 0 site))<;>rw[h1]at h<;>simp only[cond_true,cond_false,reduceCtorEq,QmW]at h;simp only[QmT]at h1;subst h;exact⟨s,hs,QnZ h1.1,h1.2,hK⟩
  ·cases h
 |usd r=>
  simp only[XF]at h;split at h
  ·rename_i l s g n hr;split at h
   ·rename_i g' sz xs hl;cases h1:(Nat.beq g' g&&Nat.ble 2000 s)<;>rw[h1]at h<;>simp only[cond_true,cond_false,reduceCtorEq,QmW]at h;simp only[QmT]at h1;have e1:=Qmq h1.1;subst e1 h;exact⟨l,s,_,n,sz,xs,QnZ h1.2,hr,hl,hK⟩
   ·cases h
  ·cases h
 |ustr el p r=>
  simp only[XF]at h;split at h
  ·rename_i hp hr;cases h;exact .inl ⟨hp,hr,hK⟩
  ·rename_i l s g n hp hr;split at h
   ·rename_i g' xs hl;split at h
    ·rename_i t ht;cases h1:(Nat.beq s (el+2000)&&Nat.beq g' g&&Nat.ble (n+1) xs.length&&XF.isBytes (xs.take (n+1)) t)<;>rw[h1]at h<;>simp only[cond_true,cond_false,reduceCtorEq,QmW]at h;simp only[QmT]at h1;obtain⟨⟨⟨a1,a2⟩,a3⟩,a4⟩:=h1;have e1:=Qmq a1;have e2:=Qmq a2;subst e1 e2 h;exact .inr ⟨l,_,n+1,xs,t,hp,hr,hl,QnZ a3,Nat.succ_ne_zero n,Fx a4,hK⟩
    ·cases h
   ·cases h
  ·cases h

theorem SN {call:W0}(hc:WR P call){it:Item}{st st':St}(h:VC call it st=some st'){K:St→Prop}(hK:K st'):Zq P it st K:=by
 obtain⟨d,op,g⟩:=it;cases g with
 |none=>exact MI (d:=d) hc h hK
 |some p=>
  obtain⟨j,want⟩:=p;simp only[VC]at h;simp only[Zq];split at h
  ·rename_i b hj;simp only[hj];cases hb:(b==want)with
   |true=>
    rw[hb]at h;have e:b=want:=by simpa using hb
    exact⟨fun _=>MI hc h hK,fun e'=>by rw[e]at e';cases want<;>cases e'⟩
   |false=>
    rw[hb]at h;simp only[cond_false,QmW]at h;subst h;exact⟨fun e=>by rw[e]at hb;simp at hb,fun _=>hK⟩
  ·rename_i hj;cases h;simp only[hj];exact⟨trivial,hK⟩
  ·cases h

theorem Dz {call:W0}(hc:WR P call):∀ {its:List Item} {st st':St},Fv call its st=some st'→∀ {K:St→Prop},K st'→QB P its st K
 | [],_,_,h,_,hK=>by cases h;exact hK
 |it :: its,st,st',h,K,hK=>by
  simp only[Fv]at h;split at h
  ·rename_i st1 h1;exact SN hc h1 (Dz hc h hK)
  ·cases h

theorem AJ {rs:List RR}{n:Nat}{r:Option (Exit×St)}{v:AV}{m':Qh}(h:Fw rs n r=some (v,m')):∃e st,r=some (e,st)∧Zm rs n (fun x m1=>x=v∧m1=m') e st:=by
 have fin:∀ {e:Exit} {st:St},(e=.normal∨e=.ret)→Fw.fin rs n st=some (v,m')→Zm rs n (fun x m1=>x=v∧m1=m') e st:=by
  intro e st he h;unfold Fw.fin at h;split at h
  ·rename_i hds;split at h
   ·rename_i x hx;split at h
    ·rename_i y hy;split at h
     ·rename_i fr m hm;cases hb:Nat.beq m.length n with
      |false=>rw[hb]at h;cases h
      |true=>
       rw[hb]at h;simp only[cond_true,QmW,Prod.mk.injEq]at h;exact⟨he,hds,x,y,fr,m,hx,hy,hm,Qmq hb,h.1,h.2⟩
     ·cases h
    ·cases h
   ·cases h
  ·cases h
 unfold Fw at h;split at h
 ·exact⟨_,_,rfl,fin (.inl rfl) h⟩
 ·exact⟨_,_,rfl,fin (.inr rfl) h⟩
 ·cases h

theorem Y5 {nat:W0}(hN:WR P nat)(hT:GH P T){body:RC→St→Option (Exit×St)}(hb:∀c st e st',body c st=some (e,st')→∀Q:Exit→St→Prop,Q e st'→QR P c st Q):WR P (Ux nat T body):=by
 intro k args m v m' h;unfold Ux at h;split at h
 ·rename_i r hr;cases h;exact hN _ _ _ _ _ hr
 split at h
 ·rename_i c rs N hk;cases hN:Nat.ble args.length N with
  |false=>rw[hN]at h;cases h
  |true=>
   rw[hN]at h;simp only[cond_true]at h;obtain⟨e,st,h1,h2⟩:=AJ h;obtain⟨fn,cd,a1,a2,a3,a4,a5,a6⟩:=hT k c rs N hk;exact Hy a1 a2 a3 a4 a5 a6 (QnZ hN) (hb _ _ _ _ h1 _ h2)
 ·cases h

theorem SO {nat:W0}(hN:WR P nat)(hT:GH P T):∀(n:Nat) (c:RC) (st:St) (e:Exit) (st':St),ZM nat T n c st=some (e,st')→∀Q:Exit→St→Prop,Q e st'→QR P c st Q:=by
 intro n
 induction n using Nat.strongRecOn with
 |_ n ihs=>
 cases n with
 |zero=>intro c st e st' h;cases h
 |succ n=>
  intro c st e st' h Q hQ;have ih:=ihs n (Nat.lt_succ_self n);cases c with
  |skip=>cases h;exact hQ
  |reg its=>
   simp only[ZM]at h;split at h
   ·rename_i st1 h1;cases h;exact Dz (Y5 hN hT ih) h1 hQ
   ·cases h
  |draw its=>
   simp only[ZM]at h;split at h
   ·rename_i st1 h1;cases h;exact Dz (Y5 hN hT ih) h1 hQ
   ·cases h
  |seq a b=>
   simp only[ZM]at h;split at h
   ·rename_i st1 h1;exact ih _ _ _ _ h1 _ (ih _ _ _ _ h Q hQ)
   ·rename_i h1;refine ih _ _ _ _ h _ ?_;cases e with
    |normal=>exact absurd h (h1 st')
    |_=>exact hQ
  |cond c a b=>
   simp only[ZM]at h;split at h
   ·rename_i t ht;cases t with
    |true=>exact⟨true,ht,fun _=>ih _ _ _ _ h Q hQ,(fun e=>by cases e)⟩
    |false=>exact⟨false,ht,(fun e=>by cases e),fun _=>ih _ _ _ _ h Q hQ⟩
   ·cases h
  |block id a=>
   simp only[ZM]at h;split at h
   ·rename_i i st1 h1;refine ih _ _ _ _ h1 _ ?_;show if i=id then Q .normal st1 else Q (.exit i) st1
    split at h
    ·rename_i hi;cases h;rw[QmD hi];exact hQ
    ·rename_i hi;cases h;rw[QmC hi];exact hQ
   ·rename_i h1;refine ih _ _ _ _ h _ ?_;cases e with
    |exit i=>exact absurd h (h1 i st')
    |_=>exact hQ
  |loop a=>
   refine⟨fun k s=>k≤n∧ZM nat T (k+1) (.loop a) s=some (e,st'),n,⟨Qms _,h⟩,fun k s hh=>?_⟩;obtain⟨hk,hs⟩:=hh;simp only[ZM]at hs;split at hs
   ·rename_i st1 h1;refine ihs k (by omega) _ _ _ _ h1 _ ?_;show ∃j,j<k∧j≤n∧ZM nat T (j+1) (.loop a) st1=some (e,st');cases k with
    |zero=>cases h1
    |succ j=>exact⟨j,Nat.lt_succ_self j,by omega,hs⟩
   ·rename_i h1;refine ihs k (by omega) _ _ _ _ hs _ ?_;cases e with
    |normal=>exact absurd hs (h1 st')
    |_=>exact hQ
  |exit id=>cases h;exact hQ
  |scope a=>
   simp only[ZM]at h;split at h
   ·cases h
   ·rename_i h1;refine ih _ _ _ _ h _ ?_;cases e with
    |goto i=>exact absurd h (h1 i st')
    |_=>exact hQ
  |lab=>cases h;exact hQ
  |ret=>cases h;exact hQ
  |gho g a=>
   simp only[ZM]at h;split at h
   ·rename_i st1 h1;exact⟨st1,h1,ih _ _ _ _ h Q hQ⟩
   ·cases h
  |no=>cases h
  |goto l=>cases h;exact hQ
  |jump l a b=>
   have pass:∀k s,(k≤n∧ZM nat T (k+1) (.jump l b b) s=some (e,st'))→QR P b s (Kj l (fun s=>∃j,j<k∧(j≤n∧ZM nat T (j+1) (.jump l b b) s=some (e,st'))) Q):=by
    intro k s hh;obtain⟨hk,hs⟩:=hh;simp only[ZM]at hs;split at hs
    ·rename_i i st1 h1;split at hs
     ·rename_i hi;refine ihs k (by omega) _ _ _ _ h1 _ ?_;cases k with
      |zero=>cases h1
      |succ j=>exact⟨hi,j,Nat.lt_succ_self j,by omega,hs⟩
     ·cases hs
    ·rename_i h1;refine ihs k (by omega) _ _ _ _ hs _ ?_;cases e with
     |goto i=>exact absurd hs (h1 i st')
     |_=>exact hQ
   refine⟨fun k s=>k≤n∧ZM nat T (k+1) (.jump l b b) s=some (e,st'),?_,pass⟩;simp only[ZM]at h;split at h
   ·rename_i i st1 h1;split at h
    ·rename_i hi;refine ih _ _ _ _ h1 _ ?_;cases n with
     |zero=>cases h1
     |succ j=>exact⟨hi,j,by omega,h⟩
    ·cases h
   ·rename_i h1;refine ih _ _ _ _ h _ ?_;cases e with
    |goto i=>exact absurd h (h1 i st')
    |_=>exact hQ

def evT (nat:W0)(T:Nn)(n:Nat)(k:FuncId)(args:List AV):Bool :=
 match Ux nat T (ZM nat T n) k args []with
 |some (.bool true,_)=>true
 |_=>false

theorem P5 {nat:W0}(hN:WR P nat)(hT:GH P T){n:Nat}{k:FuncId}{args:List AV}(h:evT nat T n k args=true):Qi P k args (.bool true):=by
 unfold evT at h;split at h
 ·rename_i m' h1;exact(Y5 hN hT (SO hN hT n) _ _ _ _ _ h1).mono fun _ _ e=>e.1
 ·cases h

end

set_option linter.defProp false in
def Qa:=(Qob (Qob (Qob (Qob (Qob (Qob (Qob (Qob @Am.U1 @Am.U0) (Qob @Am.Sm @Am.K5)) (Qob (Qob @Am.Jf @Am.Sq) (Qob @Am.Sr (Qob @Am.Mz @Am.MA)))) (Qob (Qob (Qob @Am.Uw @Am.E6) (Qob @Am.E7 @Am.Sl)) (Qob (Qob @Am.Ss @Am.Fo) (Qob @Am.Su (Qob @Am.Sv @Am.Sw))))) (Qob (Qob (Qob (Qob @Am.Sx @Am.Sy) (Qob @Am.Sz @Am.SA)) (Qob (Qob @Am.WZ @Am.Sp) (Qob @Am.E8 (Qob @Am.Nm @Am.HP)))) (Qob (Qob (Qob @Am.e_f @Am.K7) (Qob @Am.Jg @Am.K6)) (Qob (Qob @Am.K8 @Am.Db) (Qob @Am.WC (Qob @Am.Vt @Am.Nk)))))) (Qob (Qob (Qob (Qob (Qob @Am.Y3 @Am.Vu) (Qob @Am.Fp @Am.Fq)) (Qob (Qob @Am.Nl @Am.U2) (Qob @Am.WB (Qob @Am.Vv @Am.Vw)))) (Qob (Qob (Qob @Am.JQ @Am.Qx.eq_1) (Qob @Am.Qx.eq_2 @Am.Qx.eq_3)) (Qob (Qob @Am.Qx.eq_4 @Am.Qx.eq_5) (Qob @Am.Qx.eq_6 (Qob @Am.Qx.eq_7 @Am.Qx.eq_8))))) (Qob (Qob (Qob (Qob @Am.Qx.eq_9 @Am.Qx.eq_10) (Qob @Am.Qx.eq_11 @Am.Qx.eq_12)) (Qob (Qob @Am.Qx.eq_13 @Am.Qx.eq_14) (Qob @Am.Qx.eq_15 (Qob @Am.Qx.eq_16 @Am.Qx.eq_17)))) (Qob (Qob (Qob @Am.Qx.eq_18 @Am.Qx.eq_19) (Qob @Am.Qx.eq_20 @Am.Qx.eq_21)) (Qob (Qob @Am.Qx.eq_22 @Am.Qx.eq_23) (Qob @Am.Qx.eq_24 (Qob @Am.Qx.eq_25 @Am.Qx.eq_26))))))) (Qob (Qob (Qob (Qob (Qob (Qob @Am.Qx.eq_27 @Am.Qx.eq_28) (Qob @Am.Qx.eq_29 @Am.Qx.eq_30)) (Qob (Qob @Am.Qx.eq_31 @Am.Qx.eq_32) (Qob @Am.Qx.eq_1 (Qob @Am.Qx.eq_1 @Am.Qx.eq_1)))) (Qob (Qob (Qob @Am.Qx.eq_1 @Am.Q3.eq_1) (Qob @Am.Q3.eq_2 @Am.Q3.eq_3)) (Qob (Qob @Am.Q3.eq_4 @Am.Q3.eq_5) (Qob @Am.Q3.eq_6 (Qob @Am.Q3.eq_7 @Am.Q3.eq_8))))) (Qob (Qob (Qob (Qob @Am.Q3.eq_9 @Am.Q3.eq_10) (Qob @Am.Q3.eq_11 @Am.Q3.eq_12)) (Qob (Qob @Am.Q3.eq_13 @Am.Q3.eq_14) (Qob @Am.Q3.eq_15 (Qob @Am.Q3.eq_16 @Am.Q3.eq_17)))) (Qob (Qob (Qob @Am.Xe.eq_1 @Am.Xe.eq_2) (Qob @Am.Xe.eq_3 @Am.Xe.eq_4)) (Qob (Qob @Am.Xe.eq_5 @Am.Xe.eq_6) (Qob @Am.Xe.eq_7 (Qob @Am.Xe.eq_8 @Am.Xe.eq_9)))))) (Qob (Qob (Qob (Qob (Qob @Am.Xe.eq_10 @Am.Xe.eq_11) (Qob @Am.Xe.eq_12 @Am.Xe.eq_13)) (Qob (Qob @Am.Xe.eq_14 @Am.Xe.eq_15) (Qob @Am.Xe.eq_16 (Qob @Am.HD.eq_1 @Am.HD.eq_2)))) (Qob (Qob (Qob @Am.HD.eq_3 @Am.HD.eq_4) (Qob @cond_true.{0} @cond_true.{1})) (Qob (Qob @cond_false.{0} @cond_false.{1}) (Qob @Qnm (Qob @and_true @Qny.{0}))))) (Qob (Qob (Qob (Qob @QnD.{0} @List.getElem?_nil.{0}) (Qob @QnH.{0} @Qn8.{0})) (Qob (Qob @Am.St.enter.eq_1 @Am.Vb.eq_1) (Qob @Am.AV.shL.eq_1 (Qob @Am.AV.shL.eq_2 @Am.AV.sh.eq_1)))) (Qob (Qob (Qob @Am.AV.sh.eq_2 @Am.AV.sh.eq_3) (Qob @Am.AV.sh.eq_4 @Am.AV.sh.eq_5)) (Qob (Qob @Am.AV.sh.eq_6 @Am.AV.sh.eq_7) (Qob @Am.AV.sh.eq_8 (Qob @Am.AV.sh.eq_9 @Am.K4.eq_1)))))))) (Qob (Qob (Qob (Qob (Qob (Qob (Qob @Am.K4.eq_2 @Am.RR.ev.eq_1) (Qob @Am.RR.ev.eq_2 @Am.RR.evL.eq_1)) (Qob (Qob @Am.RR.evL.eq_2 @Am.WP.eq_1) (Qob @Am.AV.still.eq_1 (Qob @Am.AV.still.eq_2 @Am.AV.still.eq_3)))) (Qob (Qob (Qob @Am.AV.still.eq_4 @Am.AV.still.eq_5) (Qob @Am.AV.still.eq_6 @Am.AV.still.eq_7)) (Qob (Qob @Am.AV.still.eq_8 @Am.AV.stillL.eq_1) (Qob @Am.AV.stillL.eq_2 (Qob @Am.AV.un.eq_1 @Am.AV.un.eq_2))))) (Qob (Qob (Qob (Qob @Am.AV.un.eq_3 @Am.AV.un.eq_4) (Qob @Am.AV.un.eq_5 @Am.AV.un.eq_6)) (Qob (Qob @Am.AV.un.eq_7 @Am.AV.un.eq_8) (Qob @Am.AV.un.eq_9 (Qob @Am.AV.un.eq_10 @Am.AV.un.eq_11)))) (Qob (Qob (Qob @Am.AV.un.eq_12 @Am.AV.un.eq_13) (Qob @Am.AV.unL.eq_1 @Am.AV.unL.eq_2)) (Qob (Qob @Option.bind_some.{0,0} @QmV.{0,0}) (Qob @if_true.{0} (Qob @if_true.{1} @if_false.{0})))))) (Qob (Qob (Qob (Qob (Qob @if_false.{1} @QmO) (Qob @Go.IntKind.bits.eq_1 @Go.IntKind.bits.eq_2)) (Qob (Qob @Go.IntKind.bits.eq_3 @Go.IntKind.bits.eq_4) (Qob @Go.IntKind.bits.eq_5 (Qob @Go.IntKind.bits.eq_6 @Go.IntKind.bits.eq_7)))) (Qob (Qob (Qob @Go.IntKind.bits.eq_8 @Qnr.{0}) (Qob @QmK.{0} @Qoc)) (Qob (Qob @QnK @forall_const.{1}) (Qob @not_true_eq_false (Qob @not_false_eq_true @Am.GE))))) (Qob (Qob (Qob (Qob @Qod @QnE) (Qob @Am.W9.eq_1 @ne_eq.{1})) (Qob (Qob @Nat.one_ne_zero @decide_true) (Qob @decide_false (Qob @Am.LY @Am.AG)))) (Qob (Qob (Qob @Am.QbY @Am.AH) (Qob @Am.QbZ @Am.QbX)) (Qob (Qob @Am.Qfa @Am.X0.eq_1) (Qob @Am.AV.unNL.eq_1 (Qob @Am.AV.unNL.eq_2 @Am.AV.unNL_zero))))))) (Qob (Qob (Qob (Qob (Qob (Qob @Am.AV.shNL.eq_1 @Am.AV.shNL.eq_2) (Qob @Am.AV.shN.eq_1 @Am.AV.shN.eq_2)) (Qob (Qob @Am.splice.eq_1 @Am.part.eq_1) (Qob @Am.part.eq_2 (Qob @Am.fill.eq_1 @Am.fill.eq_2)))) (Qob (Qob (Qob @Am.AV.leaf.eq_1 @Am.AV.leaf.eq_2) (Qob @Am.AV.leaf.eq_3 @Am.AV.leaf.eq_4)) (Qob (Qob @QnI.{0} @QnJ.{0}) (Qob @Qm4.{0} (Qob @QnF.{0} @List.take_nil.{0}))))) (Qob (Qob (Qob (Qob @Qm7.{0} @Qnd.{0}) (Qob @QnL.{0} @QmS.{0})) (Qob (Qob @QmR.{0} @Qnz.{0}) (Qob @Am.Qb.eq_1 (Qob @and_self @Am.Jc.eq_1)))) (Qob (Qob (Qob @Am.Jc.eq_2 @Am.Jc.eq_3) (Qob @Am.Jc.eq_4 @Am.Jc.eq_5)) (Qob (Qob @Am.Jc.eq_6 @Am.KY.eq_1) (Qob @Am.KY.eq_2 (Qob @Am.XD.eq_1 @Am.XD.eq_2)))))) (Qob (Qob (Qob (Qob (Qob @Am.XD.eq_3 @Am.XD.eq_4) (Qob @Am.XD.eq_5 @Am.XD.eq_6)) (Qob (Qob @Am.XD.eq_7 @Am.GZ.eq_1) (Qob @Am.GZ.eq_2 (Qob @Am.GZ.eq_3 @Am.D2.eq_1)))) (Qob (Qob (Qob @Am.D2.eq_2 @Am.D2.eq_3) (Qob @Am.D2.eq_4 @Am.Qh7)) (Qob (Qob @Am.SB @Am.SC) (Qob @Am.SD (Qob @Am.PP @Am.SE))))) (Qob (Qob (Qob (Qob @Am.PQ @Am.PR) (Qob @Am.PU @Am.PV)) (Qob (Qob @Am.PW @Am.SF) (Qob @Am.SG (Qob @Am.SH @Am.SI)))) (Qob (Qob (Qob @Am.PX @Am.SJ) (Qob @Am.PY (Qob @Am.Mj @Am.SK))) (Qob (Qob @Am.PZ @Am.Da) (Qob @Am.Mk (Qob @Am.P0 @Qnx.{0,0})))))))))

set_option linter.defProp false in
def SP:=(Qob (Qob (Qob @Am.Xa.eq_1 (Qob @Am.Xa.eq_2 @Am.Xa.eq_3)) (Qob (Qob @Am.Xf.eq_1 @Am.Xf.eq_2) (Qob @Am.Xf.eq_3 @Am.Xf.eq_4))) (Qob (Qob (Qob @Am.Qc.eq_1 @Am.Qc.eq_2) (Qob @Am.Qc.eq_3 @Am.put.eq_1)) (Qob (Qob @Am.put.eq_2 @Am.put.eq_3) (Qob @Am.AV.cells.eq_1 @Am.AV.cells.eq_2))))

set_option linter.defProp false in
def eE := Qob Qa SP

set_option linter.defProp false in
def JG:=(Qob (Qob (Qob (Qob (Qob (Qob (Qob @Am.U1 (Qob @Am.U0 @Am.Sm)) (Qob @Am.K5 (Qob @Am.Jf @Am.Sq))) (Qob (Qob @Am.Sr (Qob @Am.Mz @Am.MA)) (Qob @Am.Uw (Qob @Am.E6 @Am.E7)))) (Qob (Qob (Qob @Am.Sl (Qob @Am.Ss @Am.Fo)) (Qob @Am.Su (Qob @Am.Sv @Am.Sw))) (Qob (Qob @Am.Sx (Qob @Am.Sy @Am.Sz)) (Qob @Am.SA (Qob @Am.WZ @Am.Sp))))) (Qob (Qob (Qob (Qob @Am.E8 (Qob @Am.Nm @Am.HP)) (Qob @Am.e_f (Qob @Am.K7 @Am.Jg))) (Qob (Qob @Am.K6 (Qob @Am.K8 @Am.Db)) (Qob @Am.WC (Qob @Am.Vt @Am.Nk)))) (Qob (Qob (Qob @Am.Y3 (Qob @Am.Vu @Am.Fp)) (Qob @Am.Fq (Qob @Am.Nl @Am.U2))) (Qob (Qob @Am.WB (Qob @Am.Vv @Am.Vw)) (Qob (Qob @Am.JQ @Am.Qx.eq_1) (Qob @Am.Qx.eq_2 @Am.Qx.eq_3)))))) (Qob (Qob (Qob (Qob (Qob @Am.Qx.eq_4 (Qob @Am.Qx.eq_5 @Am.Qx.eq_6)) (Qob @Am.Qx.eq_7 (Qob @Am.Qx.eq_8 @Am.Qx.eq_9))) (Qob (Qob @Am.Qx.eq_10 (Qob @Am.Qx.eq_11 @Am.Qx.eq_12)) (Qob @Am.Qx.eq_13 (Qob @Am.Qx.eq_14 @Am.Qx.eq_15)))) (Qob (Qob (Qob @Am.Qx.eq_16 (Qob @Am.Qx.eq_17 @Am.Qx.eq_18)) (Qob @Am.Qx.eq_19 (Qob @Am.Qx.eq_20 @Am.Qx.eq_21))) (Qob (Qob @Am.Qx.eq_22 (Qob @Am.Qx.eq_23 @Am.Qx.eq_24)) (Qob @Am.Qx.eq_25 (Qob @Am.Qx.eq_26 @Am.Qx.eq_27))))) (Qob (Qob (Qob (Qob @Am.Qx.eq_28 (Qob @Am.Qx.eq_29 @Am.Qx.eq_30)) (Qob @Am.Qx.eq_31 (Qob @Am.Qx.eq_32 @Am.Qx.eq_1))) (Qob (Qob @Am.Qx.eq_1 (Qob @Am.Qx.eq_1 @Am.Qx.eq_1)) (Qob @Am.Q3.eq_1 (Qob @Am.Q3.eq_2 @Am.Q3.eq_3)))) (Qob (Qob (Qob @Am.Q3.eq_4 (Qob @Am.Q3.eq_5 @Am.Q3.eq_6)) (Qob @Am.Q3.eq_7 (Qob @Am.Q3.eq_8 @Am.Q3.eq_9))) (Qob (Qob @Am.Q3.eq_10 (Qob @Am.Q3.eq_11 @Am.Q3.eq_12)) (Qob (Qob @Am.Q3.eq_13 @Am.Q3.eq_14) (Qob @Am.Q3.eq_15 @Am.Q3.eq_16))))))) (Qob (Qob (Qob (Qob (Qob (Qob @Am.Q3.eq_17 (Qob @Am.Xe.eq_1 @Am.Xe.eq_2)) (Qob @Am.Xe.eq_3 (Qob @Am.Xe.eq_4 @Am.Xe.eq_5))) (Qob (Qob @Am.Xe.eq_6 (Qob @Am.Xe.eq_7 @Am.Xe.eq_8)) (Qob @Am.Xe.eq_9 (Qob @Am.Xe.eq_10 @Am.Xe.eq_11)))) (Qob (Qob (Qob @Am.Xe.eq_12 (Qob @Am.Xe.eq_13 @Am.Xe.eq_14)) (Qob @Am.Xe.eq_15 (Qob @Am.Xe.eq_16 @Am.HD.eq_1))) (Qob (Qob @Am.HD.eq_2 (Qob @Am.HD.eq_3 @Am.HD.eq_4)) (Qob @cond_true.{0} (Qob @cond_true.{1} @cond_false.{0}))))) (Qob (Qob (Qob (Qob @cond_false.{1} (Qob @Qnm @and_true)) (Qob @Qny.{0} (Qob @QnD.{0} @List.getElem?_nil.{0}))) (Qob (Qob @QnH.{0} (Qob @Qn8.{0} @Am.St.enter.eq_1)) (Qob @Am.Vb.eq_1 (Qob @Am.AV.shL.eq_1 @Am.AV.shL.eq_2)))) (Qob (Qob (Qob @Am.AV.sh.eq_1 (Qob @Am.AV.sh.eq_2 @Am.AV.sh.eq_3)) (Qob @Am.AV.sh.eq_4 (Qob @Am.AV.sh.eq_5 @Am.AV.sh.eq_6))) (Qob (Qob @Am.AV.sh.eq_7 (Qob @Am.AV.sh.eq_8 @Am.AV.sh.eq_9)) (Qob (Qob @Am.K4.eq_1 @Am.K4.eq_2) (Qob @Am.RR.ev.eq_1 @Am.RR.ev.eq_2)))))) (Qob (Qob (Qob (Qob (Qob @Am.RR.evL.eq_1 (Qob @Am.RR.evL.eq_2 @Am.WP.eq_1)) (Qob @Am.AV.still.eq_1 (Qob @Am.AV.still.eq_2 @Am.AV.still.eq_3))) (Qob (Qob @Am.AV.still.eq_4 (Qob @Am.AV.still.eq_5 @Am.AV.still.eq_6)) (Qob @Am.AV.still.eq_7 (Qob @Am.AV.still.eq_8 @Am.AV.stillL.eq_1)))) (Qob (Qob (Qob @Am.AV.stillL.eq_2 (Qob @Am.AV.un.eq_1 @Am.AV.un.eq_2)) (Qob @Am.AV.un.eq_3 (Qob @Am.AV.un.eq_4 @Am.AV.un.eq_5))) (Qob (Qob @Am.AV.un.eq_6 (Qob @Am.AV.un.eq_7 @Am.AV.un.eq_8)) (Qob (Qob @Am.AV.un.eq_9 @Am.AV.un.eq_10) (Qob @Am.AV.un.eq_11 @Am.AV.un.eq_12))))) (Qob (Qob (Qob (Qob @Am.AV.un.eq_13 (Qob @Am.AV.unL.eq_1 @Am.AV.unL.eq_2)) (Qob @Option.bind_some.{0,0} (Qob @QmV.{0,0} @if_true.{0}))) (Qob (Qob @if_true.{1} (Qob @if_false.{0} @if_false.{1})) (Qob @QmO (Qob @Go.IntKind.bits.eq_1 @Go.IntKind.bits.eq_2)))) (Qob (Qob (Qob @Go.IntKind.bits.eq_3 (Qob @Go.IntKind.bits.eq_4 @Go.IntKind.bits.eq_5)) (Qob @Go.IntKind.bits.eq_6 (Qob @Go.IntKind.bits.eq_7 @Go.IntKind.bits.eq_8))) (Qob (Qob @Qnr.{0} (Qob @QmK.{0} @Qoc)) (Qob (Qob @QnK @forall_const.{1}) (Qob @not_true_eq_false @not_false_eq_true))))))))

end Go.Proofs.YtkhpgmeokilhaaaGreatDoor.Am

namespace Go.Proofs.YtkhpgmeokilhaaaGreatDoor.Cg
open Go Am
structure TI where
 sz:Nat:=1
 st:Bool:=false
 k:Nat:=0
 y:Ty:=.other
 i:IntKind:=.i64
 e:Nat:=0
 n:Nat:=0
 b:Nat:=8
 z:List AV:=[]
 fs:List (Nat×Nat×Bool):=[]
 ys:List Ty:=[]
 x:Bool:=false

def tt:Nat→TI
 |3=>{ k:=1,y:=.num,z:=[.int .i64 0] }
 |4=>{ k:=3,y:=.bool,b:=1,z:=[.bool false] }
 |5=>{ k:=1,y:=.num,i:=.u8,b:=1,z:=[.int .u8 0] }
 |9=>{ k:=2,y:=.str,b:=16,z:=[.str []] }
 |21=>{ k:=1,y:=.num,i:=.i32,b:=4,z:=[.int .i32 0] }
 |22=>{ k:=6,e:=61,b:=24,z:=[.nils] }
 |23=>{ k:=6,e:=115,b:=24,z:=[.nils] }
 |25=>{ sz:=2,st:=true,k:=8,b:=48,z:=[.nils,.nils],fs:=[(0,1,false),(1,1,false)],ys:=[.other,.other] }
 |26=>{ k:=1,y:=.num,i:=.u64,z:=[.int .u64 0] }
 |27=>{ k:=6,e:=32,b:=24,z:=[.nils] }
 |28=>{ k:=6,e:=70,b:=24,z:=[.nils] }
 |29=>{ k:=6,e:=52,b:=24,z:=[.nils] }
 |30=>{ k:=6,e:=72,b:=24,z:=[.nils] }
 |32=>{ sz:=7,st:=true,k:=8,b:=128,z:=[.int .i64 0,.int .u64 0,.str [],.nils,.nils,.nils,.nils],fs:=[(0,1,false),(1,1,false),(2,1,false),(3,1,false),(4,1,false),(5,1,false),(6,1,false)],ys:=[.num,.num,.str,.other,.other,.other,.other] }
 |36=>{ k:=1,y:=.num,z:=[.int .i64 0] }
 |44=>{ sz:=4,st:=true,k:=8,b:=32,z:=[.int .i64 0,.int .i64 0,.int .i64 0,.int .i64 0],fs:=[(0,1,false),(1,1,false),(2,1,false),(3,1,false)],ys:=[.num,.num,.num,.num] }
 |52=>{ sz:=8,st:=true,k:=8,b:=136,z:=[.int .i64 0,.int .i64 0,.int .u64 0,.str [],.nils,.nils,.nils,.nils],fs:=[(0,1,false),(1,7,true)],ys:=[.num,.other] }
 |57=>{ sz:=2,st:=true,k:=8,b:=48,z:=[.nils,.nils],fs:=[(0,2,true)],ys:=[.other] }
 |59=>{ k:=6,e:=74,b:=24,z:=[.nils] }
 |61=>{ sz:=3,st:=true,k:=8,b:=48,z:=[.str [],.nils,.int .i64 0],fs:=[(0,1,false),(1,1,false),(2,1,false)],ys:=[.str,.other,.num] }
 |64=>{ z:=[.nilf] }
 |65=>{ k:=9,e:=64,z:=[.nilm] }
 |70=>{ sz:=14,st:=true,k:=8,b:=256,z:=[.int .i64 0,.int .u64 0,.str [],.nils,.nils,.nils,.nils,.int .i64 0,.int .u64 0,.str [],.nils,.nils,.nils,.nils],fs:=[(0,7,true),(7,7,true)],ys:=[.other,.other] }
 |72=>{ sz:=4,st:=true,k:=8,b:=40,z:=[.int .i64 0,.int .i64 0,.int .u64 0,.str []],fs:=[(0,1,false),(1,1,false),(2,1,false),(3,1,false)],ys:=[.num,.num,.num,.str] }
 |74=>{ sz:=8,st:=true,k:=8,b:=80,z:=[.int .i64 0,.str [],.str [],.int .i64 0,.int .i64 0,.int .i64 0,.int .i64 0,.int .i64 0],fs:=[(0,1,false),(1,1,false),(2,1,false),(3,1,false),(4,1,false),(5,1,false),(6,1,false),(7,1,false)],ys:=[.num,.str,.str,.num,.num,.num,.num,.num] }
 |78=>{ sz:=2,st:=true,k:=8,b:=48,z:=[.nils,.nils],fs:=[(0,2,true)],ys:=[.other] }
 |83=>{ sz:=6,st:=true,k:=8,b:=56,z:=[.str [],.int .i64 0,.int .i64 0,.int .i64 0,.int .i64 0,.int .i64 0],fs:=[(0,1,false),(1,1,false),(2,1,false),(3,1,false),(4,1,false),(5,1,false)],ys:=[.str,.num,.num,.num,.num,.num] }
 |88=>{ sz:=8,st:=true,k:=8,b:=104,z:=[.nils,.nils,.str [],.int .i64 0,.int .i64 0,.int .i64 0,.int .i64 0,.int .i64 0],fs:=[(0,2,true),(2,6,true)],ys:=[.other,.other] }
 |98=>{ sz:=4,st:=true,k:=8,b:=96,z:=[.nils,.nils,.nils,.nils],fs:=[(0,2,true),(2,2,true)],ys:=[.other,.other] }
 |102=>{ sz:=5,st:=true,k:=8,b:=104,z:=[.nils,.nils,.nils,.nils,.int .i64 0],fs:=[(0,2,true),(2,2,true),(4,1,false)],ys:=[.other,.other,.num] }
 |111=>{ k:=6,e:=118,b:=24,z:=[.nils] }
 |112=>{ k:=6,e:=121,b:=24,z:=[.nils] }
 |113=>{ k:=6,e:=123,b:=24,z:=[.nils] }
 |115=>{ sz:=5,st:=true,k:=8,b:=96,z:=[.str [],.bool false,.nils,.nils,.nils],fs:=[(0,1,false),(1,1,false),(2,1,false),(3,1,false),(4,1,false)],ys:=[.str,.bool,.other,.other,.other] }
 |118=>{ sz:=3,st:=true,k:=8,b:=48,z:=[.str [],.int .i64 0,.nils],fs:=[(0,1,false),(1,1,false),(2,1,false)],ys:=[.str,.num,.other] }
 |121=>{ sz:=2,st:=true,k:=8,b:=16,z:=[.int .i64 0,.int .i64 0],fs:=[(0,1,false),(1,1,false)],ys:=[.num,.num] }
 |123=>{ sz:=8,st:=true,k:=8,b:=144,z:=[.str [],.int .i64 0,.int .u64 0,.str [],.nils,.nils,.nils,.nils],fs:=[(0,1,false),(1,7,true)],ys:=[.str,.other] }
 |126=>{ k:=6,e:=4,b:=24,z:=[.nils] }
 |133=>{ k:=4,y:=.ptr,e:=136,z:=[.nilp] }
 |134=>{ k:=6,e:=5,b:=24,z:=[.nils] }
 |136=>{ sz:=2,st:=true,k:=8,b:=32,z:=[.nilp,.nils],fs:=[(0,1,false),(1,1,false)],ys:=[.ptr,.other] }
 |159=>{ z:=[.nilf] }
 |161=>{ st:=true,k:=8,z:=[.nilf],fs:=[(0,1,false)],ys:=[.other] }
 |185=>{ z:=[.nilf] }
 |187=>{ z:=[.nilf] }
 |194=>{ k:=1,y:=.num,i:=.u64,z:=[.int .u64 0] }
 |195=>{ k:=4,y:=.ptr,e:=5,z:=[.nilp] }
 |210=>{ k:=9,e:=74,z:=[.nilm] }
 |225=>{ k:=6,e:=9,b:=24,z:=[.nils] }
 |233=>{ k:=10,z:=[.nilp] }
 |254=>{ k:=6,e:=30,b:=24,z:=[.nils] }
 |266=>{ sz:=7,st:=true,k:=8,b:=128,z:=[.int .i64 0,.int .u64 0,.str [],.nils,.nils,.nils,.nils],fs:=[(0,1,false),(1,1,false),(2,1,false),(3,1,false),(4,1,false),(5,1,false),(6,1,false)],ys:=[.num,.num,.str,.other,.other,.other,.other] }
 |267=>{ k:=6,e:=32,b:=24,z:=[.nils] }
 |269=>{ k:=6,e:=70,b:=24,z:=[.nils] }
 |272=>{ sz:=2,st:=true,k:=8,b:=48,z:=[.nils,.nils],fs:=[(0,1,false),(1,1,false)],ys:=[.other,.other] }
 |286=>{ sz:=2,st:=true,k:=8,b:=16,z:=[.int .i64 0,.int .i64 0],fs:=[(0,1,false),(1,1,false)],ys:=[.num,.num] }
 |288=>{ k:=9,e:=286,x:=true,z:=[.nilm] }
 |304=>{ k:=6,e:=3,b:=24,z:=[.nils] }
 |319=>{ sz:=2,st:=true,k:=8,b:=16,z:=[.int .u64 0,.int .u64 0],fs:=[(0,1,false),(1,1,false)],ys:=[.num,.num] }
 |320=>{ sz:=18,st:=true,k:=7,e:=319,n:=9,b:=144,z:=[.int .u64 0,.int .u64 0,.int .u64 0,.int .u64 0,.int .u64 0,.int .u64 0,.int .u64 0,.int .u64 0,.int .u64 0,.int .u64 0,.int .u64 0,.int .u64 0,.int .u64 0,.int .u64 0,.int .u64 0,.int .u64 0,.int .u64 0,.int .u64 0] }
 |321=>{ sz:=9,st:=true,k:=7,e:=3,n:=9,b:=72,z:=[.int .i64 0,.int .i64 0,.int .i64 0,.int .i64 0,.int .i64 0,.int .i64 0,.int .i64 0,.int .i64 0,.int .i64 0] }
 |322=>{ sz:=27,st:=true,k:=7,e:=321,n:=3,b:=216,z:=[.int .i64 0,.int .i64 0,.int .i64 0,.int .i64 0,.int .i64 0,.int .i64 0,.int .i64 0,.int .i64 0,.int .i64 0,.int .i64 0,.int .i64 0,.int .i64 0,.int .i64 0,.int .i64 0,.int .i64 0,.int .i64 0,.int .i64 0,.int .i64 0,.int .i64 0,.int .i64 0,.int .i64 0,.int .i64 0,.int .i64 0,.int .i64 0,.int .i64 0,.int .i64 0,.int .i64 0] }
 |327=>{ sz:=2,st:=true,k:=8,b:=2,z:=[.int .u8 0,.int .u8 0],fs:=[(0,1,false),(1,1,false)],ys:=[.num,.num] }
 |329=>{ k:=1,y:=.num,i:=.u32,b:=4,z:=[.int .u32 0] }
 |_=>{}
abbrev gl2:List AV:=[.int .i64 1,.int .i64 2,.int .i64 2,.int .i64 1,.int .i64 1,.int .i64 6,.int .i64 7,.int .i64 7,.int .i64 1,.int .i64 1,.int .i64 2,.int .i64 2,.int .i64 2,.int .i64 2,.int .i64 6,.int .i64 7,.int .i64 7,.int .i64 2,.int .i64 1,.int .i64 2,.int .i64 2,.int .i64 2,.int .i64 2,.int .i64 6,.int .i64 7,.int .i64 8,.int .i64 9]
abbrev gl0:List AV:=[.int .u64 0,.int .u64 1,.int .u64 2147483648,.int .u64 2147483647,.int .u64 9223372036854775808,.int .u64 9223372036854775807,.int .u64 0,.int .u64 4294967295,.int .u64 0,.int .u64 18446744073709551615,.int .u64 0,.int .u64 0,.int .u64 0,.int .u64 0,.int .u64 0,.int .u64 0,.int .u64 0,.int .u64 2147483647]
def glo:Nat→List AV
 |2=>gl2
 |0=>gl0
 |_=>[]
end Go.Proofs.YtkhpgmeokilhaaaGreatDoor.Cg

set_option linter.unusedVariables false
namespace Go.Proofs.YtkhpgmeokilhaaaGreatDoor.Cg
open Go Am

inductive HV where
 |d
 |ro (r:RO)
 |lv (l s:Nat)
 |lr
 |lo
 |cc
 |cf
 |cg
 |ck (l s:Nat)
 |ac
 |bv
 |sl
 |mp
 |sm

mutual
def av:Value→AV
 |.int k n=>.int k n
 |.bool b=>.bool b
 |.string ⟨⟨s⟩⟩=>.str s
 |.slice .. => .nils
 |.pointer _=>.nilp
 |.nilFunc=>.nilf
 |.nilIface=>.nili
 |.map _=>.nilm
 |.agg ⟨l⟩=>.agg (avs l)
 |.tuple ⟨l⟩=>.tup (avs l)
 |_=>.top
def avs:List Value→List AV
 | []=>[]
 |x :: l=>av x :: avs l
end
def ra:Operand→RA
 |.tmp n=>.t n
 |.const v=>.c (av v)
 |.func k=>.f k
 |.global k=>.g k (glo k)
def ras:List Operand→List RA
 | []=>[]
 |x :: l=>ra x :: ras l
def rp:Option Operand→Option RA
 |none=>none
 |some x=>some (ra x)
def sh (t:TI):Option Nat:=bif t.st then some t.sz else none
def fo:List (Nat×Nat×Bool)→Nat→Nat
 | [],_=>0
 |x :: _,0=>x.1
 |_ :: l,i+1=>fo l i
def fh:List (Nat×Nat×Bool)→Nat→Option Nat
 | [],_=>none
 |x :: _,0=>bif x.2.2 then some x.2.1 else none
 |_ :: l,i+1=>fh l i
def fz:List (Nat×Nat×Bool)→Nat→Nat
 | [],_=>0
 |x :: _,0=>x.2.1
 |_ :: l,i+1=>fz l i
def ps (fs:List (Nat×Nat×Bool)):List (Nat×Operand)→List (Nat×Nat×RA)
 | []=>[]
 |(i,x) :: l=>(fo fs i,fz fs i,ra x) :: ps fs l
def pa (n:Nat):List (Nat×Operand)→List (Nat×Nat×RA)
 | []=>[]
 |(i,x) :: l=>(i*n,n,ra x) :: pa n l
def nl:Operand→Bool
 |.const (.slice ..)=>true
 |_=>false
def ok (d t:Nat):Nat:=bif t==136 then 2000+t else d
def ng:BinOp→Bool
 |.neq=>true
 |_=>false
def lk {α:Type}(x:α):List (Nat×α)→Nat→α
 | [],_=>x
 |(i,y) :: l,k=>bif i==k then y else lk x l k

def lz (t:TI):Nat:=bif t.k==2 then 0 else bif t.k==9 then 2 else 1
def zo (t:TI):AV:=bif t.st then .agg t.z else t.z.headD .top
def bt (M k:Nat):Bool:=M >>> k % 2==1
def ca:Operand→List RA→RO
 |.func k,l=>bif bt 2311429701777869084155471610585510540562396672355284225007807230926275338966069252178586493070008832229376 k then .callF (.f k) l else .call (.f k) l
 |f,l=>.callF (ra f) l
def bn (b:BinOp)(t:TI)(x y:Operand):RO:=bif t.k==6&&nl y then .isnil (ng b) (ra x)else bif t.k==8 then .val (.eqs (ng b) t.ys (ra x) (ra y))else .val (.bin t.y b (ra x) (ra y))
def cv (d:Nat)(s t:TI)(x:Operand):RO:=bif t.k==1 then .val (.cvi t.i (ra x))else bif t.k==2 then .val (.b2s (ra x))else bif t.k==6 then .s2b d t.e (ra x)else bif t.k==10 then .val (.toU (ra x))else .val (.ofU t.e (tt t.e).sz (ra x))
def bi (d:Nat):Builtin→List Operand→TI→TI→RO
 |.len,[x],t,_=>.val (.len (lz t) (ra x))
 |.max,[x,y],_,_=>.val (.mnx true (ra x) (ra y))
 |.min,[x,y],_,_=>.val (.mnx false (ra x) (ra y))
 |.append,[x,y],t,u=>bif u.k==2 then .appS t.e (ra x) (ra y)else .app (tt t.e).sz (tt t.e).b t.e (ra x) (ra y)
 |.clear,[x],t,_=>.clr (tt t.e).sz (tt t.e).z (ra x)
 |.unsafeSliceData,[x],_,_=>.usd (ra x)
 |.unsafeString,[x,y],t,_=>.ustr t.e (ra x) (ra y)
 |_,_,_,_=>.bsl0 0 d
def t1:List Nat→TI
 | []=>{}
 |t :: _=>tt t
def t2:List Nat→TI
 |_ :: t :: _=>tt t
 |_=>{}
def o1 (d:Nat):Op→RO
 |.move x=>.val (.mov (ra x))
 |.assign x=>.val (.mov (ra x))
 |.pick a b c=>.val (.pick (ra a) (ra b) (ra c))
 |.alloc t=>.allocN (ok d t) (tt t).z
 |.box t x=>.boxN (ok d t) (ra x)
 |.build t ⟨l⟩=>.val (.build (tt t).z (bif (tt t).k==7 then pa (tt (tt t).e).sz l else ps (tt t).fs l))
 |.load t p=>.val (.load (sh (tt t)) (ra p))
 |.store t p x=>.store (tt t).sz (ra p) (ra x)
 |.nilCheck x=>.val (.nilck (ra x))
 |.binOp b t x y _=>bn b (tt t) x y
 |.unOp u _ x=>.val (.un u (ra x))
 |.convert s t x=>cv d (tt s) (tt t) x
 |.fieldAddr t x i=>.val (.faddr (fo (tt t).fs i) (ra x))
 |.field t x i=>.val (.fld (fo (tt t).fs i) (fh (tt t).fs i) (ra x))
 |.indexAddr t x i=>.val (.iaddr (tt (tt t).e).sz (bif (tt t).k==7 then some (tt t).n else none) (ra x) (ra i))
 |.index t x i=>bif (tt t).k==7 then .bsl0 0 0 else .val (.idx (ra x) (ra i))
 |.slice t x a b c=>.val (.slc (bif (tt t).k==2 then none else some (tt (tt t).e).sz) (ra x) (rp a) (rp b) (rp c))
 |.extract x i=>.val (.ext (ra x) i)
 |.makeFunc f ⟨a⟩ ⟨b⟩=>.val (.mkfn f (ras a) (ras b))
 |.makeSlice t x y=>.mk d (tt t).e (tt (tt t).e).sz (tt (tt t).e).b (tt (tt t).e).z (ra x) (ra y)
 |.buildSlice t n ⟨l⟩=>bif n==0 then .bsl0 d (tt (tt t).e).sz else .bsl (tt (tt t).e).sz n (tt (tt t).e).z (pa (tt (tt t).e).sz l)
 |.call ⟨.value f,⟨l⟩,_⟩=>ca f (ras l)
 |.call ⟨.builtin b,⟨l⟩,⟨t⟩⟩=>bi d b l (t1 t) (t2 t)
 |.range _ x=>.rngs d (ra x)
 |.next x _=>.nxts (ra x)
 |.makeMap _ _=>.mkm d
 |.mapUpdate t x i v=>.mput (tt t).x (ra x) (ra i) (ra v)
 |.insert t x i v=>.mput (tt t).x (ra x) (ra i) (ra v)
 |.makeInterface t x=>.val (.mki t (ra x))
 |.typeAssert x _ t b=>.val (.tas t b (zo (tt t)) (ra x))
 |.lookup t x i b=>.val (.mget (tt t).x b (zo (tt (tt t).e)) (ra x) (ra i))
 |_=>.bsl0 0 0
def lf:Op→(Operand→List RA→RO)→RO
 |.call ⟨.value f,⟨l⟩,_⟩,k=>k f (ras l)
 |_,_=>.bsl0 0 0
def lp:Op→(RA→RA→TI→RO)→RO
 |.call ⟨_,⟨[x,y]⟩,⟨t :: _⟩⟩,k=>k (ra x) (ra y) (tt t)
 |_,_=>.bsl0 0 0
def lb:Op→(Nat→List (Nat×Operand)→TI→RO)→RO
 |.buildSlice t n ⟨l⟩,k=>k n l (tt (tt t).e)
 |_,_=>.bsl0 0 0
def ld (f:Option Nat→RA→VO):Op→RO
 |.load t p=>.val (f (sh (tt t)) (ra p))
 |_=>.bsl0 0 0
def sv (l s:Nat):Op→RO
 |.load t p=>.val (.loadv l s (sh (tt t)) (ra p))
 |.store t p x=>.storev l s (tt t).sz (ra p) (ra x)
 |_=>.bsl0 0 0
def ls (k:TI→RA→Option RA→Option RA→Option RA→RO):Op→RO
 |.slice t x a b c=>k (tt (tt t).e) (ra x) (rp a) (rp b) (rp c)
 |_=>.bsl0 0 0
def lq:Option RA→RA
 |some x=>x
 |none=>.t 0
def lm:Op→RO
 |.lookup t x i b=>.val (.mgetp (tt t).x b (zo (tt (tt t).e)) (ra x) (ra i))
 |_=>.bsl0 0 0
def la:Op→RO
 |_=>.bsl0 0 0
def hd:List RA→RA
 |x :: _=>x
 | []=>.t 0
def op (d:Nat)(o:Op):HV→RO
 |.d=>o1 d o
 |.ro r=>r
 |.lv l s=>sv l s o
 |.lr=>ld .loadr o
 |.lo=>ld .loado o
 |.cc=>lf o fun f l=>.call (ra f) l
 |.cf=>lf o fun f l=>.callF (ra f) l
 |.cg=>lf o fun f l=>.callG (ra f) l
 |.ck i s=>lf o fun f l=>.callK i s (ra f) l
 |.sm=>lf o fun _ l=>.val (.same (hd l))
 |.ac=>lp o fun x y t=>.appc d (tt t.e).sz (tt t.e).b t.e x y
 |.bv=>lb o fun n l t=>.bslv d t.sz n t.z (pa t.sz l)
 |.sl=>ls (fun _ x _ b c=>.val (.slcl x (lq b) (lq c))) o
 |.mp=>lm o

def dd:Option Nat→Nat
 |some d=>d
 |none=>0
def ds:List Oper→List Nat
 | []=>[]
 |o :: l=>dd o.dst :: ds l
def nt:List Nat→Nat→Nat
 | [],_=>0
 |x :: _,0=>x
 |_ :: l,i+1=>nt l i
def gd (l:List Nat):Option (Nat×Bool)→Option (Nat×Bool)
 |none=>none
 |some (j,w)=>some (nt l j,w)
def its (ks:List (Nat×HV))(l:List Nat):Nat→List Oper→List Am.Item
 |_,[]=>[]
 |k,o :: os=>⟨o.dst,op (dd o.dst) o.op (lk .d ks k),gd l o.guard⟩ :: its ks l (k+1) os

def wr:List GO→RC→RC
 | [],c=>c
 |g :: l,c=>.gho g (wr l c)
def dr:List Nat→RC→RC
 | [],c=>c
 |s :: l,c=>dr l (.gho (.drop s) c)
def s1 (d:Nat):Op→List Nat
 |.alloc t=>[ok d t]
 |.box t _=>[ok d t]
 |.range _ _=>[d]
 |.makeMap _ _=>[d]
 |_=>[]
def so:List Oper→List Nat
 | []=>[]
 |o :: l=>s1 (dd o.dst) o.op++so l
def me (k:Nat):List Nat→Bool
 | []=>false
 |i :: l=>bif i==k then true else me k l
def st (no:List Nat):Code→List Nat
 |.region n ⟨l⟩ _=>bif me n no then []else so l
 |.seq a b=>st no a++st no b
 |.cond _ a b=>st no a++st no b
 |.block _ a=>st no a
 |.loop a=>st no a
 |.scope a=>st no a
 |_=>[]
def pn (pe:List (Nat×List GO)):Code→List GO
 |.region n _ _=>lk [] pe n
 |.seq _ b=>pn pe b
 |.cond _ a b=>pn pe a++pn pe b
 |.block _ a=>pn pe a
 |.loop a=>pn pe a
 |.scope a=>pn pe a
 |_=>[]
def hg:Code→Bool
 |.goto _=>true
 |.seq a b=>bif hg a then true else hg b
 |.cond _ a b=>bif hg a then true else hg b
 |.block _ a=>hg a
 |.loop a=>hg a
 |.scope a=>hg a
 |_=>false
def lbl:Code→Option Nat
 |.seq a b=>match lbl a with
  |some l=>some l
  |none=>lbl b
 |.label l=>some l
 |_=>none
def fl:RC→Option RC
 |.seq a b=>match fl a with
  |some r=>some (.seq r b)
  |none=>fl b
 |.gho _ a=>fl a
 |.lab=>some .skip
 |_=>none
def sj (no:List Nat)(x:Code)(l:Nat):List Nat:=match findLabel x l with
 |some r=>st no r
 |none=>[]
def sk (no:List Nat)(x:Code)(c:RC)(l:Nat):RC:=match fl c with
 |some r=>.jump l c (dr (sj no x l) r)
 |none=>.no
def sc (no:List Nat)(x:Code)(c:RC):RC:=match lbl x with
 |some l=>bif hg x then sk no x c l else .scope c
 |none=>.scope c
def cd (no:List Nat)(ov:List (Nat×List (Nat×HV)))(pe be:List (Nat×List GO)):Code→RC
 |.skip=>.skip
 |.region n ⟨l⟩ b=>bif me n no then .no else wr (lk [] be n) (bif b then .draw (its (lk [] ov n) (ds l) 0 l)else .reg (its (lk [] ov n) (ds l) 0 l))
 |.seq a b=>.seq (cd no ov pe be a) (wr (pn pe a) (cd no ov pe be b))
 |.cond x a b=>.cond (ra x) (cd no ov pe be a) (cd no ov pe be b)
 |.block n a=>.block n (cd no ov pe be a)
 |.loop a=>.loop (dr (st no a) (cd no ov pe be a))
 |.exit n=>.exit n
 |.scope a=>sc no a (cd no ov pe be a)
 |.goto n=>.goto n
 |.label _=>.lab
 |.ret=>.ret
 |_=>.no
def bo:Option Code→Code
 |some c=>c
 |none=>.skip
def fn (f:Func)(no:List Nat:=[])(ov:List (Nat×List (Nat×HV)):=[])(pe be:List (Nat×List GO):=[]):RC:=cd no ov pe be (bo f.body)
def r1:List ResultVar→List RR
 | []=>[]
 |.tmp t :: l=>.tmp t :: r1 l
 |.cell t y :: l=>.cell t (sh (tt y)) :: r1 l
def rs (f:Func):List RR:=r1 f.results.toList

end Go.Proofs.YtkhpgmeokilhaaaGreatDoor.Cg

set_option linter.defProp false
namespace Go.Proofs.YtkhpgmeokilhaaaGreatDoor.Am
open Go
def eC:=(Qob (Qob (Qob (Qob (Qob (Qob (Qob (Qob @Cg.av.eq_1 @Cg.av.eq_2) (Qob @Cg.av.eq_3 @Cg.av.eq_4)) (Qob (Qob @Cg.av.eq_5 @Cg.av.eq_6) (Qob @Cg.av.eq_7 @Cg.av.eq_8))) (Qob (Qob (Qob @Cg.av.eq_9 @Cg.av.eq_10) (Qob @Cg.av.eq_11 @Cg.avs.eq_1)) (Qob (Qob @Cg.avs.eq_2 @Cg.ra.eq_1) (Qob @Cg.ra.eq_2 (Qob @Cg.ra.eq_3 @Cg.ra.eq_4))))) (Qob (Qob (Qob (Qob @Cg.ras.eq_1 @Cg.ras.eq_2) (Qob @Cg.rp.eq_1 @Cg.rp.eq_2)) (Qob (Qob @Cg.sh.eq_1 @Cg.fo.eq_1) (Qob @Cg.fo.eq_2 (Qob @Cg.fo.eq_3 @Cg.fh.eq_1)))) (Qob (Qob (Qob @Cg.fh.eq_2 @Cg.fh.eq_3) (Qob @Cg.fz.eq_1 @Cg.fz.eq_2)) (Qob (Qob @Cg.fz.eq_3 @Cg.ps.eq_1) (Qob @Cg.ps.eq_2 (Qob @Cg.pa.eq_1 @Cg.pa.eq_2)))))) (Qob (Qob (Qob (Qob (Qob @Cg.nl.eq_1 @Cg.nl.eq_2) (Qob @Cg.ok.eq_1 @Cg.ng.eq_1)) (Qob (Qob @Cg.ng.eq_2 @Cg.lk.eq_1) (Qob @Cg.lk.eq_2 @Cg.lz.eq_1))) (Qob (Qob (Qob @Cg.zo.eq_1 @Cg.bt.eq_1) (Qob @Cg.ca.eq_1 @Cg.ca.eq_2)) (Qob (Qob @Cg.bn.eq_1 @Cg.cv.eq_1) (Qob @Cg.bi.eq_1 (Qob @Cg.bi.eq_2 @Cg.bi.eq_3))))) (Qob (Qob (Qob (Qob @Cg.bi.eq_4 @Cg.bi.eq_5) (Qob @Cg.bi.eq_6 @Cg.bi.eq_7)) (Qob (Qob @Cg.bi.eq_8 @Cg.t1.eq_1) (Qob @Cg.t1.eq_2 (Qob @Cg.t2.eq_1 @Cg.t2.eq_2)))) (Qob (Qob (Qob @Cg.o1.eq_1 @Cg.o1.eq_2) (Qob @Cg.o1.eq_3 @Cg.o1.eq_4)) (Qob (Qob @Cg.o1.eq_5 @Cg.o1.eq_6) (Qob @Cg.o1.eq_7 (Qob @Cg.o1.eq_8 @Cg.o1.eq_9))))))) (Qob (Qob (Qob (Qob (Qob (Qob @Cg.o1.eq_10 @Cg.o1.eq_11) (Qob @Cg.o1.eq_12 @Cg.o1.eq_13)) (Qob (Qob @Cg.o1.eq_14 @Cg.o1.eq_15) (Qob @Cg.o1.eq_16 @Cg.o1.eq_17))) (Qob (Qob (Qob @Cg.o1.eq_18 @Cg.o1.eq_19) (Qob @Cg.o1.eq_20 @Cg.o1.eq_21)) (Qob (Qob @Cg.o1.eq_22 @Cg.o1.eq_23) (Qob @Cg.o1.eq_24 (Qob @Cg.o1.eq_25 @Cg.o1.eq_26))))) (Qob (Qob (Qob (Qob @Cg.o1.eq_27 @Cg.o1.eq_28) (Qob @Cg.o1.eq_29 @Cg.o1.eq_30)) (Qob (Qob @Cg.o1.eq_31 @Cg.o1.eq_32) (Qob @Cg.lf.eq_1 (Qob @Cg.lf.eq_2 @Cg.lp.eq_1)))) (Qob (Qob (Qob @Cg.lp.eq_2 @Cg.lb.eq_1) (Qob @Cg.lb.eq_2 @Cg.ld.eq_1)) (Qob (Qob @Cg.ld.eq_2 @Cg.sv.eq_1) (Qob @Cg.sv.eq_2 (Qob @Cg.sv.eq_3 @Cg.ls.eq_1)))))) (Qob (Qob (Qob (Qob (Qob @Cg.ls.eq_2 @Cg.lq.eq_1) (Qob @Cg.lq.eq_2 @Cg.lm.eq_1)) (Qob (Qob @Cg.lm.eq_2 @Cg.la.eq_1) (Qob @Cg.hd.eq_1 @Cg.hd.eq_2))) (Qob (Qob (Qob @Cg.op.eq_1 @Cg.op.eq_2) (Qob @Cg.op.eq_3 @Cg.op.eq_4)) (Qob (Qob @Cg.op.eq_5 @Cg.op.eq_6) (Qob @Cg.op.eq_7 (Qob @Cg.op.eq_8 @Cg.op.eq_9))))) (Qob (Qob (Qob (Qob @Cg.op.eq_10 @Cg.op.eq_11) (Qob @Cg.op.eq_12 @Cg.op.eq_13)) (Qob (Qob @Cg.op.eq_14 @Cg.dd.eq_1) (Qob @Cg.dd.eq_2 (Qob @Cg.ds.eq_1 @Cg.ds.eq_2)))) (Qob (Qob (Qob @Cg.nt.eq_1 @Cg.nt.eq_2) (Qob @Cg.nt.eq_3 @Cg.gd.eq_1)) (Qob (Qob @Cg.gd.eq_2 @Cg.its.eq_1) (Qob @Cg.its.eq_2 (Qob @Cg.wr.eq_1 @Cg.wr.eq_2)))))))) (Qob (Qob (Qob (Qob (Qob (Qob (Qob @Cg.dr.eq_1 @Cg.dr.eq_2) (Qob @Cg.s1.eq_1 @Cg.s1.eq_2)) (Qob (Qob @Cg.s1.eq_3 @Cg.s1.eq_4) (Qob @Cg.s1.eq_5 @Cg.so.eq_1))) (Qob (Qob (Qob @Cg.so.eq_2 @Cg.me.eq_1) (Qob @Cg.me.eq_2 @Cg.st.eq_1)) (Qob (Qob @Cg.st.eq_2 @Cg.st.eq_3) (Qob @Cg.st.eq_4 (Qob @Cg.st.eq_5 @Cg.st.eq_6))))) (Qob (Qob (Qob (Qob @Cg.st.eq_7 @Cg.pn.eq_1) (Qob @Cg.pn.eq_2 @Cg.pn.eq_3)) (Qob (Qob @Cg.pn.eq_4 @Cg.pn.eq_5) (Qob @Cg.pn.eq_6 (Qob @Cg.pn.eq_7 @Cg.hg.eq_1)))) (Qob (Qob (Qob @Cg.hg.eq_2 @Cg.hg.eq_3) (Qob @Cg.hg.eq_4 @Cg.hg.eq_5)) (Qob (Qob @Cg.hg.eq_6 @Cg.hg.eq_7) (Qob @Cg.lbl.eq_1 (Qob @Cg.lbl.eq_2 @Cg.lbl.eq_3)))))) (Qob (Qob (Qob (Qob (Qob @Cg.fl.eq_1 @Cg.fl.eq_2) (Qob @Cg.fl.eq_3 @Cg.fl.eq_4)) (Qob (Qob @Cg.sj.eq_1 @Cg.sk.eq_1) (Qob @Cg.sc.eq_1 @Cg.cd.eq_1))) (Qob (Qob (Qob @Cg.cd.eq_2 @Cg.cd.eq_3) (Qob @Cg.cd.eq_4 @Cg.cd.eq_5)) (Qob (Qob @Cg.cd.eq_6 @Cg.cd.eq_7) (Qob @Cg.cd.eq_8 (Qob @Cg.cd.eq_9 @Cg.cd.eq_10))))) (Qob (Qob (Qob (Qob @Cg.cd.eq_11 @Cg.cd.eq_12) (Qob @Cg.bo.eq_1 @Cg.bo.eq_2)) (Qob (Qob @Cg.fn.eq_1 @Cg.r1.eq_1) (Qob @Cg.r1.eq_2 (Qob @Cg.r1.eq_3 @Cg.rs.eq_1)))) (Qob (Qob (Qob @Cg.tt.eq_1 @Cg.tt.eq_2) (Qob @Cg.tt.eq_3 @Cg.tt.eq_4)) (Qob (Qob @Cg.tt.eq_5 @Cg.tt.eq_6) (Qob @Cg.tt.eq_7 (Qob @Cg.tt.eq_8 @Cg.tt.eq_9))))))) (Qob (Qob (Qob (Qob (Qob (Qob @Cg.tt.eq_10 @Cg.tt.eq_11) (Qob @Cg.tt.eq_12 @Cg.tt.eq_13)) (Qob (Qob @Cg.tt.eq_14 @Cg.tt.eq_15) (Qob @Cg.tt.eq_16 @Cg.tt.eq_17))) (Qob (Qob (Qob @Cg.tt.eq_18 @Cg.tt.eq_19) (Qob @Cg.tt.eq_20 @Cg.tt.eq_21)) (Qob (Qob @Cg.tt.eq_22 @Cg.tt.eq_23) (Qob @Cg.tt.eq_24 (Qob @Cg.tt.eq_25 @Cg.tt.eq_26))))) (Qob (Qob (Qob (Qob @Cg.tt.eq_27 @Cg.tt.eq_28) (Qob @Cg.tt.eq_29 @Cg.tt.eq_30)) (Qob (Qob @Cg.tt.eq_31 @Cg.tt.eq_32) (Qob @Cg.tt.eq_33 (Qob @Cg.tt.eq_34 @Cg.tt.eq_35)))) (Qob (Qob (Qob @Cg.tt.eq_36 @Cg.tt.eq_37) (Qob @Cg.tt.eq_38 @Cg.tt.eq_39)) (Qob (Qob @Cg.tt.eq_40 @Cg.tt.eq_41) (Qob @Cg.tt.eq_42 (Qob @Cg.tt.eq_43 @Cg.tt.eq_44)))))) (Qob (Qob (Qob (Qob (Qob @Cg.tt.eq_45 @Cg.tt.eq_46) (Qob @Cg.tt.eq_47 @Cg.tt.eq_48)) (Qob (Qob @Cg.tt.eq_49 @Cg.tt.eq_50) (Qob @Cg.tt.eq_51 @Cg.tt.eq_52))) (Qob (Qob (Qob @Cg.tt.eq_53 @Cg.tt.eq_54) (Qob @Cg.tt.eq_55 @Cg.tt.eq_56)) (Qob (Qob @Cg.tt.eq_57 @Cg.tt.eq_58) (Qob @Cg.tt.eq_59 (Qob @Cg.tt.eq_60 @Cg.tt.eq_61))))) (Qob (Qob (Qob (Qob @Cg.tt.eq_62 @Cg.tt.eq_63) (Qob @Cg.tt.eq_64 @Cg.tt.eq_65)) (Qob (Qob @Cg.glo.eq_1 @Cg.glo.eq_2) (Qob @Cg.glo.eq_3 (Qob @cond_true.{0} @cond_true.{1})))) (Qob (Qob (Qob @cond_false.{0} @cond_false.{1}) (Qob @Qoc @Qn1)) (Qob (Qob @QnK @Qoe) (Qob @QmS.{0} (Qob @QmR.{0} @List.headD_cons.{0})))))))))
end Go.Proofs.YtkhpgmeokilhaaaGreatDoor.Am

namespace Go.Proofs.YtkhpgmeokilhaaaGreatDoor.Rc
open Go Am Cg
def hs:Nat→List Nat×List (Nat×List (Nat×HV))×List (Nat×List GO)×List (Nat×List GO)
 |3=>([],[(7,[(0,.lv 0 5),(9,.lv 0 13)])],[],[])
 |6=>([],[(2,[(2,.lv 0 1),(8,.lv 0 2)]),(4,[(2,.lv 0 1),(8,.lv 0 4)])],[],[])
 |11=>([],[(12,[(1,.lv 0 5),(2,.lv 0 6),(5,.lv 0 5),(7,.lv 0 8),(9,.cc),(12,.lv 0 10)])],[],[])
 |14=>([],[(9,[(2,.lv 0 1),(6,.lr),(9,.lv 0 1),(13,.lr)])],[],[])
 |15=>([],[(9,[(2,.lv 0 1),(6,.lr),(10,.lv 0 1),(14,.lr)])],[],[])
 |19=>([],[(3,[(0,.lv 0 3),(3,.lv 0 3),(6,.lr),(7,.lv 0 5)])],[],[])
 |21=>([],[(13,[(1,.cg)]),(16,[(3,.cg)])],[],[])
 |23=>([],[(4,[(0,.lv 0 6),(2,.lv 0 13),(3,.lv 0 5),(5,.lv 0 9),(13,.lv 0 15)])],[],[])
 |26=>([],[(7,[(1,.lv 0 3),(4,.lr),(6,.lv 0 9),(12,.lv 0 10)])],[(1,[.vecc 7 5 1100 8])],[])
 |30=>([],[(5,[(6,.lv 0 1),(11,.lr),(13,.lv 0 1),(17,.lr)]),(9,[(3,.lv 0 1),(7,.lr),(12,.lr),(14,.lv 0 1),(18,.lr),(22,.lr)]),(13,[(6,.lv 0 1),(11,.lr),(13,.lv 0 1),(17,.lr)]),(17,[(3,.lv 0 1),(7,.lr),(12,.lr),(14,.lv 0 1),(18,.lr),(22,.lr)])],[],[])
 |31=>([],[(8,[(3,.lv 0 1),(7,.lr),(9,.lv 0 1),(13,.lr)]),(16,[(6,.lr),(11,.lr)]),(27,[(6,.lr),(11,.lr)])],[],[])
 |32=>([],[(23,[(3,.lv 0 12),(8,.lv 0 12),(13,.lv 0 12),(15,.lv 0 12),(23,.lv 0 12),(25,.lv 0 8),(30,.lr)])],[],[])
 |33=>([],[(18,[(2,.lv 0 1),(4,.lv 0 1),(8,.lr),(11,.lr)])],[],[])
 |40=>([],[(1,[(2,.lv 0 3),(5,.lr),(7,.lv 0 5),(13,.lv 0 7)]),(4,[(0,.lv 0 7),(2,.lv 0 3),(3,.lv 0 7),(5,.lv 0 5),(6,.cc)])],[],[])
 |41=>([],[],[(1,[.vecc 2136 1 2005 1])],[])
 |46=>([],[],[(5,[.vec 3 3 7])],[])
 |47=>([],[(5,[(1,.lv 0 4),(4,.lr),(6,.lv 0 5),(9,.lr),(10,.lv 0 8),(11,.lv 0 9)])],[],[])
 |50=>([],[(4,[(2,.lv 0 4),(5,.lr),(7,.lv 0 10),(13,.lv 0 11)]),(11,[(2,.lv 0 4),(5,.lr),(7,.lv 0 14),(13,.lv 0 15)]),(12,[(2,.lv 0 4),(5,.lr),(7,.lv 0 14),(13,.lv 0 17)])],[],[])
 |54=>([],[(7,[(7,.lv 0 6),(13,.lr)])],[(3,[.vec 4 4 8])],[])
 |56=>([],[(7,[(1,.lv 0 7),(2,.lv 0 3),(3,.lv 0 4),(4,.lv 0 9),(9,.lv 0 7)]),(15,[(1,.lv 0 10),(3,.lv 0 12),(5,.lv 0 3),(6,.lv 0 4),(8,.lv 0 12),(14,.lv 0 10)])],[(3,[.vecc 7 3 1100 7]),(11,[.vecc 10 4 1101 14])],[])
 |64=>([],[(12,[(7,.lr),(13,.lr)]),(14,[(7,.lr),(13,.lr)])],[],[])
 |73=>([],[(7,[(0,.lv 0 3),(2,.lv 0 3),(5,.lr),(8,.lv 0 5),(10,.ck 0 3)])],[],[])
 |75=>([],[(1,[(0,.lv 0 6),(5,.lr),(11,.lv 0 11)]),(13,[(0,.lv 0 5),(1,.lv 0 11),(6,.lr)])],[],[])
 |86=>([],[],[(1,[.vec 3 3 1])],[])
 |87=>([],[(1,[(3,.lo),(8,.lo)])],[],[])
 |90=>([],[(3,[(0,.lv 0 1),(4,.lv 0 4)]),(5,[(0,.lv 0 1),(3,.lv 0 4)]),(7,[(0,.lv 0 1),(3,.lv 0 4)]),(8,[(6,.lv 0 7),(9,.lv 0 4)])],[],[])
 |91=>([],[(4,[(4,.cg)]),(6,[(4,.cg)]),(10,[(4,.cg)]),(11,[(4,.cg)])],[],[])
 |92=>([],[(3,[(1,.lv 0 1),(3,.lv 0 2),(4,.lv 0 3)]),(6,[(1,.lv 0 1),(3,.lv 0 2),(4,.lv 0 3)]),(10,[(1,.lv 0 1),(3,.lv 0 2),(4,.lv 0 3)]),(11,[(0,.lv 0 9),(1,.lv 0 7),(2,.lv 0 2),(3,.lv 0 3)])],[],[])
 |93=>([],[(2,[(1,.lv 0 2),(4,.sl),(5,.lv 0 3),(7,.ac),(9,.lv 0 2)])],[],[])
 |96=>([],[],[(5,[.vec 3 3 7])],[])
 |98=>([],[(4,[(2,.lv 0 5),(5,.lr),(7,.lv 0 13),(13,.lv 0 14)]),(5,[(2,.lv 0 5),(5,.lr),(7,.lv 0 13),(13,.lv 0 16)]),(10,[(1,.lv 0 8),(3,.lv 0 5),(5,.lv 0 13),(10,.lv 0 8)]),(8,[(1,.lv 0 5),(4,.lv 0 5),(8,.lr),(9,.lv 0 8),(11,.lv 0 5),(13,.lv 0 19),(20,.lv 0 8)])],[],[])
 |101=>([],[(1,[(2,.lv 0 4),(5,.lr),(8,.lv 0 4),(11,.lr),(14,.lv 0 10),(15,.lv 0 11)])],[],[])
 |108=>([],[(7,[(7,.lv 0 6),(13,.lr)])],[(3,[.vec 4 4 14])],[])
 |134=>([],[(4,[(5,.lr),(9,.lr)])],[],[])
 |136=>([],[(4,[(5,.lr),(9,.lr)])],[],[])
 |139=>([],[(4,[(5,.lr),(9,.lr)])],[],[])
 |142=>([],[(4,[(5,.lr),(9,.lr)])],[],[])
 |153=>([],[(4,[(1,.lv 0 4),(5,.lv 0 4),(10,.lv 0 4),(12,.lv 0 4),(20,.lv 0 4),(22,.lv 0 1),(27,.lr)])],[],[])
 |155=>([],[(7,[(2,.lv 0 6),(5,.lv 0 6)])],[],[])
 |170=>([],[(5,[(1,.lv 0 9),(4,.lv 0 3),(5,.lv 0 4),(7,.lv 0 9)]),(6,[(2,.lv 0 4)])],[(1,[.vec 7 7 4])],[])
 |172=>([],[(4,[(2,.bv)])],[],[])
 |173=>([],[(5,[(2,.lv 0 4),(3,.lv 0 3),(4,.lv 0 4),(5,.lv 0 9)])],[(1,[.vec 7 7 4])],[])
 |174=>([],[(1,[(1,.lv 0 4),(2,.lv 0 3),(3,.lv 0 4),(4,.lv 0 5)])],[],[])
 |175=>([],[(1,[(3,.sm)])],[],[])
 |177=>([],[(3,[(0,.lv 0 1),(3,.lv 0 3)])],[],[])
 |181=>([],[(7,[(5,.cg)]),(10,[(0,.lv 0 5),(1,.lv 0 6),(2,.lv 0 7),(3,.lv 0 10),(4,.lv 0 14),(7,.lv 0 8)]),(13,[(4,.cg)])],[],[])
 |182=>([],[(1,[(1,.cg)]),(4,[(3,.cg)]),(7,[(3,.lo),(4,.lv 0 7),(5,.lv 0 11),(11,.lv 0 13)]),(16,[(1,.cg)]),(19,[(0,.lv 0 5),(1,.lv 0 6),(2,.lv 0 7),(3,.lv 0 14),(4,.lv 0 13),(7,.lv 0 8)])],[],[])
 |183=>([],[(3,[(1,.lv 0 2),(5,.lo),(14,.lv 0 2)])],[],[])
 |185=>([7],[],[],[])
 |187=>([],[(11,[(2,.lv 0 6),(5,.lr),(6,.lv 0 10),(7,.lv 0 9),(8,.lv 0 17),(10,.lv 0 12)])],[],[])
 |194=>([],[(12,[(1,.lv 0 7),(4,.lv 0 7),(8,.lr),(9,.lv 0 15)])],[(0,[.vecc 7 5 1100 8])],[])
 |200=>([17],[],[],[])
 |205=>([],[(4,[(8,.lr),(13,.lr),(14,.cc)]),(6,[(9,.lr),(13,.lr)])],[],[])
 |206=>([],[(5,[(4,.lr),(8,.lr),(9,.cc)]),(11,[(9,.lr),(13,.lr)]),(17,[(4,.lr),(8,.lr),(9,.cc)]),(23,[(9,.lr),(13,.lr)]),(35,[(6,.lr),(10,.lr),(11,.cc)])],[],[])
 |220=>([],[(1,[(1,.lv 0 3),(2,.cc),(5,.cc)])],[],[])
 |221=>([],[(1,[(1,.lv 0 3),(2,.cc),(5,.cc)])],[],[])
 |225=>([],[(1,[(2,.lv 0 4),(3,.mp),(8,.lv 0 9)])],[],[])
 |227=>([],[(2,[(0,.lv 0 4),(3,.lv 0 4),(5,.lv 0 5),(7,.lr),(8,.lv 0 6)])],[],[])
 |240=>([],[(4,[(4,.cg)]),(5,[(2,.cg)]),(8,[(3,.lo),(4,.lv 0 4),(5,.lv 0 8),(9,.lv 0 6)])],[],[])
 |241=>([],[(1,[(4,.lo),(9,.lo),(11,.lv 0 3),(13,.lv 0 3)])],[],[])
 |242=>([],[],[(1,[.vecc 9 5 1100 8])],[])
 |243=>([],[(2,[(0,.lv 0 1),(2,.lv 0 3)]),(3,[(1,.lv 0 1),(3,.lv 0 1),(5,.lv 0 1),(8,.lv 0 3)])],[],[])
 |244=>([],[(1,[(1,.cg)]),(8,[(2,.cg)]),(11,[(3,.cg)]),(14,[(1,.lv 0 12),(5,.lo)])],[],[])
 |245=>([],[(2,[(1,.lv 0 2),(4,.sl),(5,.lv 0 3),(7,.ac),(9,.lv 0 4)])],[],[])
 |246=>([],[(6,[(1,.cg)])],[],[])
 |247=>([],[(3,[(1,.lv 0 5),(2,.lv 0 4)])],[],[])
 |248=>([],[(3,[(0,.lv 0 1),(3,.lv 0 3)])],[],[])
 |249=>([],[(3,[(0,.lv 0 2),(3,.lv 0 5)]),(8,[(0,.lv 0 2),(2,.lv 0 5)]),(11,[(0,.lv 0 2),(2,.lv 0 5)]),(14,[(1,.lv 0 8),(4,.lv 0 8),(6,.lv 0 8),(8,.lv 0 5)])],[],[])
 |250=>([2,3,5],[],[],[])
 |251=>([],[],[(1,[.vecc 12 3 1100 7])],[])
 |253=>([],[],[(0,[.vecc 5 5 1100 8])],[])
 |258=>([],[(10,[(0,.lv 0 4),(1,.lv 0 5),(2,.lv 0 6),(4,.lv 0 7),(6,.lr),(12,.lv 0 10)])],[],[])
 |260=>([1],[],[(1,[.vecc 6 4 1100 14])],[])
 |261=>([],[(4,[(8,.lr),(13,.lr),(14,.cc)]),(6,[(9,.lr),(13,.lr)])],[],[])
 |262=>([],[(5,[(4,.lr),(8,.lr),(9,.cc)]),(11,[(9,.lr),(13,.lr)]),(17,[(4,.lr),(8,.lr),(9,.cc)]),(23,[(9,.lr),(13,.lr)]),(35,[(6,.lr),(10,.lr),(11,.cc)])],[],[])
 |265=>([],[(10,[(1,.lv 0 2),(4,.lv 0 3)])],[],[])
 |268=>([],[(1,[(1,.lv 0 2),(3,.lv 0 3),(6,.lv 0 2),(8,.lv 0 3)])],[],[])
 |271=>([],[(1,[(1,.lv 0 2),(3,.lv 0 3),(6,.lv 0 2),(8,.lv 0 3)])],[],[])
 |273=>([],[(1,[(1,.lv 0 2),(3,.lv 0 3),(6,.lv 0 2),(8,.lv 0 3),(11,.lv 0 2),(13,.lv 0 3),(16,.lv 0 2),(18,.lv 0 3)])],[],[])
 |294=>([],[(3,[(1,.lv 0 3),(3,.lv 0 3),(5,.lv 0 2),(7,.lv 0 2)])],[],[])
 |295=>([],[(2,[(0,.lv 0 2),(2,.lv 0 5)]),(4,[(0,.lv 0 2),(2,.lv 0 5)]),(6,[(0,.lv 0 2),(2,.lv 0 5)]),(8,[(0,.lv 0 2),(2,.lv 0 5)]),(9,[(0,.lv 0 2),(4,.lv 0 2),(8,.lv 0 5)])],[],[])
 |304=>([],[],[(1,[.vecc 10 3 1100 7])],[])
 |305=>([],[],[(1,[.vecc 10 4 1100 14])],[])
 |310=>([],[(4,[(8,.lr),(13,.lr),(14,.cc)]),(6,[(9,.lr),(13,.lr)])],[],[])
 |311=>([],[(5,[(4,.lr),(8,.lr),(9,.cc)]),(11,[(9,.lr),(13,.lr)]),(17,[(4,.lr),(8,.lr),(9,.cc)]),(23,[(9,.lr),(13,.lr)]),(35,[(6,.lr),(10,.lr),(11,.cc)])],[],[])
 |315=>([],[(3,[(13,.lr),(19,.lr)])],[],[])
 |319=>([],[(4,[(3,.ro (.xb true 337 (.t 16) (.t 18)))])],[],[])
 |331=>([],[(3,[(13,.lr),(19,.lr)])],[],[])
 |342=>([],[(1,[(2,.lv 0 4),(4,.lv 0 5),(6,.lr),(9,.lv 0 4),(11,.lv 0 6),(13,.lr),(16,.lv 0 10),(17,.lv 0 11)])],[],[])
 |343=>([],[(3,[(13,.lr),(19,.lr)])],[],[])
 |344=>([5,10],[],[],[])
 |345=>([],[(1,[(2,.ro (.xb false 352 (.t 5) (.t 6)))])],[],[])
 |_=>([],[],[],[])
def rk (k:Nat)(f:Func):RC:=cd (hs k).1 (hs k).2.1 (hs k).2.2.1 (hs k).2.2.2 (bo f.body)
def KM:Nat:=27377799824103161993274244062367336797012253822818357606197216349568091124284510379436552756559474156634104
noncomputable def cx (k:Nat):Bool:=match Tryz.prog.funcs[k]? with
 |some f=>f.body.isSome && !(f.name == "runtime.NumGoroutine")&&X3 Tryz.prog f.ntmps (rk k f) (f.body.getD .skip)&&Jv Tryz.prog f.results.toList (rs f)
 |none=>false
theorem kk:((List.range 354).all fun k=>!bt KM k||cx k)=true:=by decide +kernel
theorem kc {k:Nat}{f:Func}(hf:Tryz.prog.funcs[k]? = some f)(hk:bt KM k=true)(hl:k<354):CK Tryz.prog k f.ntmps (rk k f) (rs f):=by
 have h:=QmI.1 kk k (Qn4.2 hl);rw[hk]at h;unfold cx at h;rw[hf]at h;exact ck hf rfl h
section
variable {k:Nat}{f:Func}{args:List AV}{m:Qh}(hf:Tryz.prog.funcs[k]? = some f)
include hf
theorem wG {R:AV→Qh→Prop}(w:QR Tryz.prog (rk k f) (St.enter args m) (Zm (rs f) m.length R))(hk:bt KM k=true:=by rfl)(hl:Nat.blt k 354=true:=by rfl)(ha:Nat.ble args.length f.ntmps=true:=by rfl):Qd Tryz.prog k args m R:=(kc hf hk (QnZ hl)).go (QnZ ha) w
theorem wF {v:AV}(w:QR Tryz.prog (rk k f) (St.enter args []) (Zm (rs f) 0 fun x _=>x=v))(hk:bt KM k=true:=by rfl)(hl:Nat.blt k 354=true:=by rfl)(ha:Nat.ble args.length f.ntmps=true:=by rfl):Qi Tryz.prog k args v:=(kc hf hk (QnZ hl)).fn (QnZ ha) w
end
noncomputable def ct (k:Nat):Option (RC×List RR×Nat):=bif bt KM k&&Nat.blt k 354 then Tryz.prog.funcs[k]?.map fun f=>(rk k f,rs f,f.ntmps)else none
theorem Qfc {k:Nat}{c:RC}{r:List RR}{n:Nat}(h:ct k=some (c,r,n)):CK Tryz.prog k n c r:=by
 unfold ct at h;cases hb:(bt KM k&&Nat.blt k 354)with
 |false=>rw[hb]at h;cases h
 |true=>
  rw[hb,cond_true]at h;rw[QmT]at hb;obtain⟨f,hf,e⟩:=Qmx.1 h;cases e;exact kc hf hb.1 (QnZ hb.2)
set_option linter.defProp false
def eK:=(Qob (Qob (Qob (Qob (Qob (Qob eC @rk.eq_1) (Qob @hs.eq_1 (Qob @hs.eq_2 @hs.eq_3))) (Qob (Qob @hs.eq_4 (Qob @hs.eq_5 @hs.eq_6)) (Qob @hs.eq_7 (Qob @hs.eq_8 @hs.eq_9)))) (Qob (Qob (Qob @hs.eq_10 (Qob @hs.eq_11 @hs.eq_12)) (Qob @hs.eq_13 (Qob @hs.eq_14 @hs.eq_15))) (Qob (Qob @hs.eq_16 (Qob @hs.eq_17 @hs.eq_18)) (Qob @hs.eq_19 (Qob @hs.eq_20 @hs.eq_21))))) (Qob (Qob (Qob (Qob @hs.eq_22 (Qob @hs.eq_23 @hs.eq_24)) (Qob @hs.eq_25 (Qob @hs.eq_26 @hs.eq_27))) (Qob (Qob @hs.eq_28 (Qob @hs.eq_29 @hs.eq_30)) (Qob @hs.eq_31 (Qob @hs.eq_32 @hs.eq_33)))) (Qob (Qob (Qob @hs.eq_34 (Qob @hs.eq_35 @hs.eq_36)) (Qob @hs.eq_37 (Qob @hs.eq_38 @hs.eq_39))) (Qob (Qob @hs.eq_40 (Qob @hs.eq_41 @hs.eq_42)) (Qob @hs.eq_43 (Qob @hs.eq_44 @hs.eq_45)))))) (Qob (Qob (Qob (Qob (Qob @hs.eq_46 (Qob @hs.eq_47 @hs.eq_48)) (Qob @hs.eq_49 (Qob @hs.eq_50 @hs.eq_51))) (Qob (Qob @hs.eq_52 (Qob @hs.eq_53 @hs.eq_54)) (Qob @hs.eq_55 (Qob @hs.eq_56 @hs.eq_57)))) (Qob (Qob (Qob @hs.eq_58 (Qob @hs.eq_59 @hs.eq_60)) (Qob @hs.eq_61 (Qob @hs.eq_62 @hs.eq_63))) (Qob (Qob @hs.eq_64 (Qob @hs.eq_65 @hs.eq_66)) (Qob @hs.eq_67 (Qob @hs.eq_68 @hs.eq_69))))) (Qob (Qob (Qob (Qob @hs.eq_70 (Qob @hs.eq_71 @hs.eq_72)) (Qob @hs.eq_73 (Qob @hs.eq_74 @hs.eq_75))) (Qob (Qob @hs.eq_76 (Qob @hs.eq_77 @hs.eq_78)) (Qob @hs.eq_79 (Qob @hs.eq_80 @hs.eq_81)))) (Qob (Qob (Qob @hs.eq_82 (Qob @hs.eq_83 @hs.eq_84)) (Qob @hs.eq_85 (Qob @hs.eq_86 @hs.eq_87))) (Qob (Qob @hs.eq_88 (Qob @hs.eq_89 @hs.eq_90)) (Qob @hs.eq_91 (Qob @hs.eq_92 @hs.eq_93)))))))
end Go.Proofs.YtkhpgmeokilhaaaGreatDoor.Rc

namespace Go.Proofs.YtkhpgmeokilhaaaGreatDoor.Rc
open Go Am Cg
abbrev gl2:List AV:=[.int .i64 1,.int .i64 2,.int .i64 2,.int .i64 1,.int .i64 1,.int .i64 6,.int .i64 7,.int .i64 7,.int .i64 1,.int .i64 1,.int .i64 2,.int .i64 2,.int .i64 2,.int .i64 2,.int .i64 6,.int .i64 7,.int .i64 7,.int .i64 2,.int .i64 1,.int .i64 2,.int .i64 2,.int .i64 2,.int .i64 2,.int .i64 6,.int .i64 7,.int .i64 8,.int .i64 9]
abbrev gl0:List AV:=[.int .u64 0,.int .u64 1,.int .u64 2147483648,.int .u64 2147483647,.int .u64 9223372036854775808,.int .u64 9223372036854775807,.int .u64 0,.int .u64 4294967295,.int .u64 0,.int .u64 18446744073709551615,.int .u64 0,.int .u64 0,.int .u64 0,.int .u64 0,.int .u64 0,.int .u64 0,.int .u64 0,.int .u64 2147483647]
abbrev ja (a b:Nat):Am.Item:=⟨some a,.val (.mov (.t b)),none⟩
abbrev jb (a b c:Nat):Am.Item:=⟨some a,.val (.load (some b) (.t c)),none⟩
abbrev jc (a b c:Nat):Am.Item:=⟨some a,.val (.faddr b (.t c)),none⟩
abbrev jd (a b c:Nat):Am.Item:=⟨none,.store a (.t b) (.t c),none⟩
abbrev je (a:Nat)(b:Int):Am.Item:=⟨some a,.val (.mov (.c (.int .i64 b))),none⟩
abbrev jf (a b c:Nat):Am.Item:=⟨some a,.val (.ext (.t b) c),none⟩
abbrev jg (a b c:Nat):Am.Item:=⟨some a,.val (.mov (.t b)),some (c,true)⟩
abbrev jh (a b:Nat):Am.Item:=⟨some a,.val (.load none (.t b)),none⟩
abbrev ji (a b c:Nat):Am.Item:=⟨some a,.val (.pick (.t b) (.t c) (.c (.bool false))),none⟩
abbrev jj (a b c d:Nat):Am.Item:=⟨some a,.val (.faddr b (.t c)),some (d,false)⟩
abbrev jk (a b c:Nat):Am.Item:=⟨some a,.val (.pick (.t b) (.c (.bool true)) (.t c)),none⟩
abbrev jl (a b c:Nat):Am.Item:=⟨some a,.boxN b (.t c),none⟩
abbrev jm (a b c:Nat):Am.Item:=⟨some a,.val (.load none (.t b)),some (c,false)⟩
abbrev jn (a b c:Nat):Am.Item:=⟨some a,.val (.len b (.t c)),none⟩
abbrev jo (a b c d:Nat):Am.Item:=⟨some a,.val (.faddr b (.t c)),some (d,true)⟩
abbrev jp (a b:Nat)(c:Int):Am.Item:=⟨some a,.val (.bin .num .add (.t b) (.c (.int .i64 c))),none⟩
abbrev jq (a b c:Nat):Am.Item:=⟨some a,.val (.mov (.t b)),some (c,false)⟩
abbrev jr (a b c d:Nat):Am.Item:=⟨some a,.val (.iaddr b none (.t c) (.t d)),none⟩
abbrev js (a b:Nat)(c:Int):Am.Item:=⟨some a,.val (.bin .num .neq (.t b) (.c (.int .i64 c))),none⟩
abbrev jt (a:Nat):Am.Item:=⟨some a,.val (.mov (.c (.bool false))),none⟩
abbrev ju (a b c:Nat):Am.Item:=⟨some a,.val (.load none (.t b)),some (c,true)⟩
abbrev jv (a b:Nat):Am.Item:=⟨some a,.allocN b [.int .i64 0,.int .u64 0,.str [],.nils,.nils,.nils,.nils],none⟩
abbrev jw (a b c:Nat):Am.Item:=⟨some a,.val (.bin .num .lss (.t b) (.t c)),none⟩
abbrev jx (a b c d:Nat):Am.Item:=⟨some a,.call (.f b) [(.t c),(.t d)],none⟩
abbrev jy (a b c:Nat):Am.Item:=⟨some a,.call (.f b) [(.t c)],none⟩
abbrev jz (a b:Nat)(c:Int):Am.Item:=⟨some a,.val (.bin .num .eql (.t b) (.c (.int .i64 c))),none⟩
abbrev ya (a b c d:Nat):Am.Item:=⟨some a,.val (.len b (.t c)),some (d,false)⟩
abbrev yb (a:Nat):Am.Item:=⟨some a,.val (.mov (.c (.nils))),none⟩
abbrev yc (a b:Nat):Am.Item:=⟨some a,.val (.un .not (.t b)),none⟩
abbrev yd (a b:Nat):Am.Item:=⟨some a,.val (.nilck (.t b)),none⟩
abbrev ye (a b c d:Nat):Am.Item:=⟨some a,.val (.loadv b c none (.t d)),none⟩
abbrev yf (a b:Nat)(c:Int)(d:Nat):Am.Item:=⟨some a,.val (.bin .num .add (.t b) (.c (.int .i64 c))),some (d,true)⟩
abbrev yg (a b c d e:Nat):Am.Item:=⟨some a,.val (.loadv b c (some d) (.t e)),none⟩
abbrev yh (a b c d e f:Nat):Am.Item:=⟨some a,.app b c d (.t e) (.t f),none⟩
abbrev yi (a b:Nat)(c:Int)(d:Nat):Am.Item:=⟨some a,.val (.bin .num .gtr (.t b) (.c (.int .i64 c))),some (d,false)⟩
abbrev yj (a b c:Nat):Am.Item:=⟨some a,.val (.loadr (some b) (.t c)),none⟩
abbrev yk (a b c d:Nat)(e:Int)(f:Nat):Am.Item:=⟨some a,.call (.f b) [(.t c),(.t d),(.c (.int .i64 e))],some (f,true)⟩
abbrev yl (a b c d e:Nat):Am.Item:=⟨some a,.call (.f b) [(.t c),(.t d),(.t e)],none⟩
abbrev ym (a b:Nat):Am.Item:=⟨some a,.allocN b [.str [],.int .i64 0,.int .i64 0,.int .i64 0,.int .i64 0,.int .i64 0],none⟩
abbrev yn (a b c:Nat):Am.Item:=⟨some a,.val (.un .not (.t b)),some (c,false)⟩
abbrev yo (a b c d:Nat):Am.Item:=⟨some a,.val (.bin .num .neq (.t b) (.t c)),some (d,false)⟩
abbrev yp (a b:Nat)(c:Int):Am.Item:=⟨some a,.val (.bin .num .gtr (.t b) (.c (.int .i64 c))),none⟩
abbrev yq (a b:Nat):Am.Item:=⟨some a,.allocN b [.int .i64 0,.str [],.str [],.int .i64 0,.int .i64 0,.int .i64 0,.int .i64 0,.int .i64 0],none⟩
abbrev yr (a:Nat):Am.Item:=⟨some a,.val (.mov (.c (.bool true))),none⟩
abbrev ys (a b c:Nat):Am.Item:=⟨some a,.val (.un .not (.t b)),some (c,true)⟩
abbrev yt (a b c:Nat):Am.Item:=⟨some a,.val (.bin .num .neq (.t b) (.t c)),none⟩
abbrev yu (a b:Nat)(c:Int)(d:Nat):Am.Item:=⟨some a,.val (.bin .num .eql (.t b) (.c (.int .i64 c))),some (d,true)⟩
abbrev yv (a b c d:Nat):Am.Item:=⟨some a,.callG (.f b) [(.t c),(.t d)],none⟩
abbrev yw (a b:Nat)(c:Int)(d:Nat):Am.Item:=⟨some a,.val (.bin .num .eql (.t b) (.c (.int .i64 c))),some (d,false)⟩
abbrev yx (a b c d e:Nat):Am.Item:=⟨none,.storev a b c (.t d) (.t e),none⟩
abbrev yy (a b c d e:Nat):Am.Item:=⟨some a,.val (.loadv b c none (.t d)),some (e,false)⟩
abbrev yz (a b c d e:Nat):Am.Item:=⟨some a,.val (.iaddr b none (.t c) (.t d)),some (e,false)⟩
abbrev jQ (g:List Am.Item)(c:RC):RC:=.seq (.reg g) c
abbrev jD (g:List Am.Item)(c:RC):RC:=.seq (.draw g) c
abbrev jX (a b:Nat):RC:=.cond (.t a) .skip (.exit b)
abbrev IL:=List Am.Item
abbrev CT (k n:Nat)(r:RC)(o:List RR):Prop:=CK Tryz.prog k n r o
abbrev Qfd:IL:=[jl 3 3 0,jl 5 5 2,⟨some 6,.val (.mov (.c (.str []))),none⟩]
abbrev Qfe:IL:=[jc 12 0 3,jb 13 2 12,ja 14 1,jb 15 7 5,yl 16 26 13 14 15,jv 7 7,jd 7 7 16]
abbrev Qff:IL:=[yb 8]
abbrev Qfg:IL:=[jc 17 6 7,jh 18 17,ja 9 18]
abbrev Qfh:IL:=[jc 19 5 7,jh 20 19,jn 21 1 20,je 22 0]
abbrev Qfi:IL:=[jw 23 22 21]
abbrev Qfj:IL:=[jr 24 8 20 22,jb 25 8 24,⟨some 11,.allocN 11 [.int .i64 0,.int .i64 0,.int .u64 0,.str [],.nils,.nils,.nils,.nils],none⟩,jd 8 11 25]
abbrev Qfk:IL:=[ja 26 9,jn 27 1 26,yp 28 27 0,ja 29 28,jg 30 9 29,⟨some 31,.val (.iaddr 4 none (.t 30) (.c (.int .i64 0))),(some (29,true))⟩,jo 32 0 31 29,⟨some 33,.val (.loadr none (.t 32)),(some (29,true))⟩,jo 34 0 11 29,⟨some 35,.val (.loadv 0 11 none (.t 34)),(some (29,true))⟩,⟨some 36,.val (.bin .num .lss (.t 33) (.t 35)),(some (29,true))⟩,ji 37 29 36]
abbrev Qfl:IL:=[ja 38 8,ja 39 9,⟨some 40,.val (.iaddr 4 none (.t 39) (.c (.int .i64 0))),none⟩,jb 41 4 40,⟨some 42,.bsl 4 1 [.int .i64 0,.int .i64 0,.int .u64 0,.str []] [(0,4,(.t 41))],none⟩,yh 43 4 40 72 38 42,ja 8 43]
abbrev Qfm:IL:=[ja 44 9,⟨some 45,.val (.slc (some 4) (.t 44) (some (.c (.int .i64 1))) none none),none⟩,ja 9 45]
abbrev Ia:RC:=.seq (jD Qfk (jX 37 2)) (.block 3 (jQ Qfl (.reg Qfm)))
abbrev Qb4:IL:=[ja 46 8,jb 47 2 3,ja 48 1,jb 49 8 11,yl 50 40 47 48 49,yh 51 4 40 72 46 50,ja 8 51]
abbrev Qb5:IL:=[jp 52 22 1,ja 22 52]
abbrev Qfn:RC:=.gho (.drop 11) (jQ Qfi (.seq (jX 23 0) (.seq (.block 1 (jQ Qfj (.seq (.block 2 (.loop Ia)) (.reg Qb4)))) (.reg Qb5))))
abbrev Qb6:IL:=[ja 53 8,ja 54 9,yh 55 4 40 72 53 54,jy 56 41 55,ja 6 56]
abbrev r20:RC:=jQ Qfd (jQ Qfe (jQ Qff (.gho (.vec 8 8 4) (jQ Qfg (.seq (jQ Qfh (.block 0 (.loop Qfn))) (jQ Qb6 (.ret)))))))
abbrev o20:List RR:=[.tmp 6]
theorem k20:CT 20 57 r20 o20:=ck Tryz.func20 Tryz.ntmps20 (by decide +kernel)
abbrev Qfo:IL:=[jl 3 3 0,jl 5 5 2,jt 6]
abbrev Qfp:IL:=[jc 13 0 3,jh 14 13,ja 15 1,jr 16 3 14 15,jc 17 1 16,jh 18 17,jn 19 1 18,je 20 0]
abbrev Qfq:IL:=[jw 21 20 19]
abbrev Qfr:IL:=[jr 22 8 18 20,jb 23 8 22,yq 8 8,jd 8 8 23]
abbrev Qfs:IL:=[jb 25 7 5,jc 26 0 8,jh 27 26,jx 28 45 25 27,ja 24 28,jf 29 24 0,jf 30 24 1,jv 9 9,jd 7 9 29,ja 10 30]
abbrev Qft:IL:=[ja 31 10,yc 32 31]
abbrev Qfu:IL:=[jc 33 3 8,jh 34 33,jz 35 34 1]
abbrev Qfv:IL:=[jt 6]
abbrev Qfw:IL:=[jc 36 5 8,jh 37 36,js 38 37 10]
abbrev Qfx:IL:=[jb 39 7 9,jy 40 46 39,jn 41 1 40,je 42 0]
abbrev Qb7:IL:=[jw 43 42 41]
abbrev Qb8:IL:=[jr 44 7 40 42,jb 45 7 44,jv 12 12,jd 7 12 45]
abbrev Qb9:IL:=[jb 46 2 3,jc 47 6 8,jh 48 47,jb 49 7 12,yl 50 22 46 48 49,yc 51 50]
abbrev Qca:IL:=[jt 6]
abbrev Qcb:IL:=[jp 52 42 1,ja 42 52]
abbrev Ib:RC:=.gho (.drop 12) (jQ Qb7 (.seq (jX 43 2) (.seq (.block 3 (jQ Qb8 (jQ Qb9 (.cond (.t 51) (jQ Qca (.ret)) (.skip))))) (.reg Qcb))))
abbrev Qcc:IL:=[jp 53 20 1,ja 20 53]
abbrev Qfy:RC:=.gho (.drop 12) (.gho (.drop 9) (.gho (.drop 8) (jQ Qfq (.seq (jX 21 0) (.seq (.block 1 (jQ Qfr (jQ Qfs (.seq (jQ Qft (.cond (.t 32) (.seq (jQ Qfu (.cond (.t 35) (jQ Qfv (.ret)) (.skip))) (.exit 1)) (.skip))) (.seq (jQ Qfw (.cond (.t 38) (.exit 1) (.skip))) (jQ Qfx (.block 2 (.loop Ib)))))))) (.reg Qcc))))))
abbrev Qcd:IL:=[yr 6]
abbrev r22:RC:=jQ Qfo (.seq (jQ Qfp (.block 0 (.loop Qfy))) (jQ Qcd (.ret)))
abbrev o22:List RR:=[.tmp 6]
theorem k22:CT 22 54 r22 o22:=ck Tryz.func22 Tryz.ntmps22 (by decide +kernel)
abbrev Qfz:IL:=[jl 4 4 0,jl 5 5 1,jl 6 6 2,je 8 0]
abbrev QfA:IL:=[jc 17 0 6,jh 18 17,js 19 18 10,ja 20 19,⟨some 21,.val (.load (some 7) (.t 6)),(some (20,false))⟩,⟨some 22,.call (.f 74) [(.t 21)],(some (20,false))⟩,jk 23 20 22,ja 16 23]
abbrev QfB:IL:=[je 8 12]
abbrev QfC:IL:=[ja 25 3,yp 26 25 16,ja 24 26]
abbrev QfD:IL:=[je 8 17]
abbrev QfE:IL:=[jc 27 5 6,jh 28 27,jn 29 1 28,je 30 0]
abbrev QfF:IL:=[jw 31 30 29]
abbrev QfG:IL:=[ja 32 30,ja 9 32]
abbrev QfH:IL:=[jb 33 2 4,jb 34 3 5,jc 35 5 6,jh 36 35,ja 37 9,ja 38 3,⟨some 39,.call (.f 75) [(.t 33),(.t 34),(.t 36),(.t 37),(.t 38)],none⟩,ja 10 39]
abbrev QfI:IL:=[ja 40 10,js 41 40 0]
abbrev Qce:IL:=[ja 42 10,ja 8 42]
abbrev Qcf:IL:=[jp 43 30 1,ja 30 43]
abbrev Ic:RC:=jQ QfF (.seq (jX 31 1) (.seq (.block 2 (jQ QfG (jQ QfH (jQ QfI (.cond (.t 41) (jQ Qce (.ret)) (.skip)))))) (.reg Qcf)))
abbrev Qcg:IL:=[jc 44 1 5,jh 45 44,jn 46 1 45,je 47 0]
abbrev Qch:IL:=[jw 48 47 46]
abbrev Qci:IL:=[jr 49 8 45 47,jb 50 8 49,yq 12 12,jd 8 12 50]
abbrev Qcj:IL:=[jc 51 3 12,jh 52 51,jz 53 52 1,ja 54 53,jo 55 5 6 54,ju 56 55 54,⟨some 57,.val (.mkfn (.func 77) [] [(.t 12)]),(some (54,true))⟩,⟨some 58,.callF (.f 76) [(.t 56),(.t 57)],(some (54,true))⟩,ys 59 58 54,ji 60 54 59]
abbrev Qck:IL:=[je 8 14]
abbrev Qcl:IL:=[jp 61 47 1,ja 47 61]
abbrev Ie:RC:=.gho (.drop 12) (jQ Qch (.seq (jX 48 3) (.seq (.block 4 (jQ Qci (jQ Qcj (.cond (.t 60) (jQ Qck (.ret)) (.skip))))) (.reg Qcl))))
abbrev Qcm:IL:=[jc 62 6 6,jh 63 62,jn 64 1 63,je 65 0]
abbrev Qcn:IL:=[jw 66 65 64]
abbrev Qco:IL:=[jr 67 4 63 65,jb 68 4 67,⟨some 14,.allocN 14 [.int .i64 0,.int .i64 0,.int .u64 0,.str []],none⟩,jd 4 14 68]
abbrev Qcp:IL:=[jb 69 2 4,jb 70 3 5,jb 71 4 14,yl 72 78 69 70 71,ja 15 72]
abbrev Qcq:IL:=[ja 73 15,js 74 73 0]
abbrev Qcr:IL:=[ja 75 15,ja 8 75]
abbrev Qcs:IL:=[jp 76 65 1,ja 65 76]
abbrev Ig:RC:=.gho (.drop 14) (jQ Qcn (.seq (jX 66 5) (.seq (.block 6 (jQ Qco (jQ Qcp (jQ Qcq (.cond (.t 74) (jQ Qcr (.ret)) (.skip)))))) (.reg Qcs))))
abbrev Qct:IL:=[je 8 0]
abbrev r38:RC:=jQ Qfz (.seq (.block 0 (jQ QfA (.cond (.t 16) (jQ QfB (.ret)) (jQ QfC (.cond (.t 24) (jQ QfD (.ret)) (.skip)))))) (.seq (jQ QfE (.block 1 (.loop Ic))) (.seq (jQ Qcg (.block 3 (.loop Ie))) (.seq (jQ Qcm (.block 5 (.loop Ig))) (jQ Qct (.ret))))))
abbrev o38:List RR:=[.tmp 8]
theorem k38:CT 38 77 r38 o38:=ck Tryz.func38 Tryz.ntmps38 (by decide +kernel)
abbrev QfJ:IL:=[jl 5 5 2,jv 6 6,je 7 0]
abbrev QfK:IL:=[ja 17 0,yd 18 17,jc 19 0 18,jc 20 0 19,jh 21 20,ja 22 1,jr 23 3 21 22,jb 24 3 23,⟨some 8,.allocN 8 [.str [],.nils,.int .i64 0],none⟩,jd 3 8 24]
abbrev QfL:IL:=[ja 25 0,yd 26 25,jc 27 2 26,jb 28 6 27,jy 29 89 28,yp 30 29 0]
abbrev QfM:IL:=[ja 31 0,yd 32 31,jc 33 2 32,jb 34 6 33,ym 9 9,jd 6 9 34]
abbrev QfN:IL:=[jb 36 6 9,jy 37 90 36,ja 35 37,jf 38 35 0,jf 39 35 1,jf 40 35 2,jf 41 35 3,ym 12 12,ja 10 38,ja 11 39,jd 6 12 40,ja 13 41]
abbrev QfO:IL:=[ja 42 13,js 43 42 0]
abbrev QfP:IL:=[jb 44 7 5,ja 45 13,jd 7 6 44,ja 7 45]
abbrev QfQ:IL:=[jc 46 1 8,jh 47 46,jn 48 1 47,je 49 0]
abbrev QfR:IL:=[jw 50 49 48]
abbrev QfS:IL:=[jr 51 8 47 49,jb 52 8 51,yq 15 15,jd 8 15 52]
abbrev Qcv:IL:=[jc 53 0 15,jh 54 53,ja 55 10,yt 56 54 55]
abbrev Qcw:IL:=[ja 57 0,jb 58 6 12,yd 59 57,jc 60 2 59,jd 6 60 58]
abbrev Qcx:IL:=[ja 62 0,jb 63 3 8,jb 64 7 5,jb 65 8 15,ja 66 11,⟨some 67,.callG (.f 91) [(.t 62),(.t 63),(.t 64),(.t 65),(.t 66)],none⟩,ja 61 67,jf 68 61 0,jf 69 61 1,jd 7 5 68,ja 13 69]
abbrev Qcy:IL:=[ja 70 13,js 71 70 0]
abbrev Qcz:IL:=[jb 72 7 5,ja 73 13,jd 7 6 72,ja 7 73]
abbrev QcA:IL:=[jp 74 49 1,ja 49 74]
abbrev Ih:RC:=.gho (.drop 15) (jQ QfR (.seq (jX 50 2) (.seq (.block 3 (jQ QfS (.seq (jQ Qcv (.cond (.t 56) (.exit 3) (.skip))) (jQ Qcw (jQ Qcx (.seq (jQ Qcy (.cond (.t 71) (jQ Qcz (.ret)) (.skip))) (.exit 1))))))) (.reg QcA))))
abbrev QcB:IL:=[jb 76 6 9,jy 77 92 76,ja 75 77,jf 78 75 0,jf 79 75 1,jf 80 75 2,⟨some 16,.allocN 16 [.int .i64 0,.int .i64 0,.int .u64 0,.str []],none⟩,jd 4 16 78,jd 6 12 79,ja 13 80]
abbrev QcC:IL:=[ja 81 13,js 82 81 0]
abbrev QcD:IL:=[jb 83 7 5,ja 84 13,jd 7 6 83,ja 7 84]
abbrev QcE:IL:=[ja 85 0,jb 86 6 12,yd 87 85,jc 88 2 87,jd 6 88 86]
abbrev QcF:IL:=[jb 89 7 5,jb 90 4 16,jx 91 93 89 90,jd 7 5 91]
abbrev Ii:RC:=.gho (.drop 16) (.gho (.drop 15) (.gho (.drop 12) (.gho (.drop 9) (.seq (jQ QfL (jX 30 0)) (.block 1 (jQ QfM (jQ QfN (.seq (jQ QfO (.cond (.t 43) (jQ QfP (.ret)) (.skip))) (.seq (jQ QfQ (.block 2 (.loop Ih))) (jQ QcB (.seq (jQ QcC (.cond (.t 82) (jQ QcD (.ret)) (.skip))) (jQ QcE (.reg QcF)))))))))))))
abbrev QcG:IL:=[jb 92 7 5,jd 7 6 92,je 7 0]
abbrev r44:RC:=jQ QfJ (.scope (jQ QfK (.seq (.lab) (.seq (.block 0 (.loop Ii)) (jQ QcG (.ret))))))
abbrev o44:List RR:=[.cell 6 (some 7),.tmp 7]
theorem k44:CT 44 93 r44 o44:=ck Tryz.func44 Tryz.ntmps44 (by decide +kernel)
def P6:IL:=[yb 2]
def P7:IL:=[ja 3 0,⟨some 4,.isnil false (.t 3),none⟩]
def P8:IL:=[yb 2]
def P9:IL:=[⟨some 5,.bsl0 5 4,none⟩,ja 6 0,yh 7 4 40 72 5 6,ja 2 7]
def Ij:RC:=jQ P6 (.seq (jQ P7 (.cond (.t 4) (jQ P8 (.gho (.vec 2 2 4) (.gho (.give 2 2 1 1000) (.ret)))) (.skip))) (jQ P9 (.gho (.give 2 5 1 1000) (.ret))))
def MJ:List RR:=[.tmp 2]
theorem k53:CT 53 8 Ij MJ:=ck Tryz.func53 Tryz.ntmps53 (by decide +kernel)
def Ik:IL:=[jl 3 3 0,jl 4 4 1,jl 5 5 2,je 6 0]
def Il:IL:=[jc 11 1 5,jh 12 11,⟨some 13,.val (.bin .num .leq (.t 12) (.c (.int .i64 2))),none⟩,ja 7 13]
def Im:IL:=[jb 15 3 4,jc 16 0 5,jh 17 16,jx 18 55 15 17,ja 14 18,jf 19 14 0,jf 20 14 1,yq 8 8,jd 8 8 19,ja 9 20]
def U4:IL:=[jc 21 5 8,jh 22 21,jz 23 22 9,ja 24 23,jo 25 3 8 24,ju 26 25 24,⟨some 27,.val (.bin .num .neq (.t 26) (.c (.int .i64 5))),(some (24,true))⟩,ji 28 24 27,ja 29 28,jo 30 1 5 29,ju 31 30 29,yu 32 31 0 29,ji 33 29 32,ja 34 33,jo 35 2 5 34,ju 36 35 34,⟨some 37,.val (.bin .num .leq (.t 36) (.c (.int .u64 2147483647))),(some (34,true))⟩,ji 38 34 37,ja 39 38,jo 40 0 3 39,⟨some 41,.val (.load (some 2) (.t 40)),(some (39,true))⟩,jo 42 6 8 39,ju 43 42 39,jo 44 2 5 39,ju 45 44 39,⟨some 46,.call (.f 168) [(.t 41),(.t 43),(.t 45)],(some (39,true))⟩,ys 47 46 39,ji 48 39 47,ja 10 48]
def Io:IL:=[jc 50 0 5,jh 51 50,⟨some 52,.val (.bin .num .lss (.t 51) (.c (.int .i64 1))),none⟩,ja 53 52,jj 54 0 5 53,jm 55 54 53,yi 56 55 65535 53,jk 57 53 56,ja 58 57,jj 59 1 5 58,jm 60 59 58,⟨some 61,.val (.bin .num .lss (.t 60) (.c (.int .i64 0))),(some (58,false))⟩,jk 62 58 61,ja 63 62,jj 64 1 5 63,jm 65 64 63,yi 66 65 6 63,jk 67 63 66,ja 49 67]
def Fy:IL:=[je 6 1]
def Ip:IL:=[ja 69 7,ja 70 69,jo 71 3 5 70,ju 72 71 70,⟨some 73,.val (.bin .str .neq (.t 72) (.c (.str []))),(some (70,true))⟩,ji 74 70 73,ja 75 74,jq 76 7 75,yn 77 76 75,jq 78 77 75,jo 79 2 5 78,ju 80 79 78,⟨some 81,.val (.bin .num .neq (.t 80) (.c (.int .u64 0))),(some (78,true))⟩,⟨some 82,.val (.pick (.t 78) (.t 81) (.c (.bool false))),(some (75,false))⟩,jk 83 75 82,ja 84 83,jq 85 9 84,jq 86 85 84,jg 87 10 86,ys 88 87 86,⟨some 89,.val (.pick (.t 86) (.t 88) (.c (.bool false))),(some (84,false))⟩,jk 90 84 89,ja 68 90]
def Fz:IL:=[je 6 1]
def Ra:IL:=[jc 92 1 5,jh 93 92,jz 94 93 3,ja 95 94,jo 96 3 5 95,ju 97 96 95,⟨some 98,.val (.len 0 (.t 97)),(some (95,true))⟩,⟨some 99,.val (.bin .num .gtr (.t 98) (.c (.int .i64 4096))),(some (95,true))⟩,ji 100 95 99,ja 101 100,jj 102 3 5 101,jm 103 102 101,ya 104 0 103 101,yi 105 104 65536 101,jk 106 101 105,ja 91 106]
def Re:IL:=[je 6 3]
def VD:IL:=[je 6 0]
def r78:RC:=jQ Ik (jQ Il (jQ Im (jQ U4 (.seq (.block 0 (jQ Io (.cond (.t 49) (jQ Fy (.ret)) (jQ Ip (.cond (.t 68) (jQ Fz (.ret)) (jQ Ra (.cond (.t 91) (jQ Re (.ret)) (.skip)))))))) (jQ VD (.ret))))))
def o78:List RR:=[.tmp 6]
theorem k78:CT 78 107 r78 o78:=ck Tryz.func78 Tryz.ntmps78 (by decide +kernel)
def FA:IL:=[yb 2]
def FB:IL:=[ja 3 0,⟨some 4,.isnil false (.t 3),none⟩]
def VE:IL:=[yb 2]
def FC:IL:=[⟨some 5,.bsl0 5 8,none⟩,ja 6 0,yh 7 8 136 52 5 6,ja 2 7]
def VF:RC:=jQ FA (.seq (jQ FB (.cond (.t 4) (jQ VE (.gho (.vec 2 2 8) (.gho (.give 2 2 1 1000) (.ret)))) (.skip))) (jQ FC (.gho (.give 2 5 1 1000) (.ret))))
def DA:List RR:=[.tmp 2]
theorem Rf:CT 102 8 VF DA:=ck Tryz.func102 Tryz.ntmps102 (by decide +kernel)
def VG:IL:=[yb 2]
def VH:IL:=[ja 3 0,⟨some 4,.isnil false (.t 3),none⟩]
def VI:IL:=[yb 2]
def VJ:IL:=[⟨some 5,.bsl0 5 7,none⟩,ja 6 0,yh 7 7 128 32 5 6,ja 2 7]
def Rg:RC:=jQ VG (.seq (jQ VH (.cond (.t 4) (jQ VI (.gho (.vec 2 2 7) (.gho (.give 2 2 1 1000) (.ret)))) (.skip))) (jQ VJ (.gho (.give 2 5 1 1000) (.ret))))
def BC:List RR:=[.tmp 2]
theorem AK:CT 169 8 Rg BC:=ck Tryz.func169 Tryz.ntmps169 (by decide +kernel)
abbrev QcK:IL:=[jl 5 5 1,jl 6 6 2,jl 7 7 3,jv 8 8,je 9 0]
abbrev QcL:IL:=[ja 27 0,⟨some 28,.callG (.f 238) [(.t 27)],none⟩,ja 26 28,jf 29 26 0,jf 30 26 1,ja 10 29,ja 11 30]
abbrev QcM:IL:=[ja 31 11,js 32 31 0]
abbrev QcN:IL:=[jb 33 7 6,ja 34 11,jd 7 8 33,ja 9 34]
abbrev QcO:IL:=[jb 36 7 6,jc 37 0 7,jh 38 37,jx 39 45 36 38,ja 35 39,jf 40 35 0,jf 41 35 1,jv 12 12,jd 7 12 40,ja 13 41]
abbrev QcP:IL:=[ja 42 0,ja 43 10,yv 44 239 42 43,ym 14 14,jd 6 14 44]
abbrev QcQ:IL:=[je 15 2]
abbrev QcR:IL:=[ja 45 13,yc 46 45]
abbrev QcS:IL:=[je 15 3]
abbrev QcT:IL:=[ja 47 0,ja 48 15,yv 49 43 47 48,ja 16 49]
abbrev L2:IL:=[ja 50 16,js 51 50 0]
abbrev L3:IL:=[jb 52 7 6,ja 53 16,jd 7 8 52,ja 9 53]
abbrev L4:IL:=[jc 54 4 7,jh 55 54,⟨some 56,.val (.build [.int .i64 0,.int .u64 0,.str [],.nils,.nils,.nils,.nils] [(0,1,(.t 55))]),none⟩,jc 57 5 7,jh 58 57,⟨some 59,.val (.build [.int .i64 0,.int .u64 0,.str [],.nils,.nils,.nils,.nils] [(0,1,(.t 58))]),none⟩,⟨some 60,.val (.build [.int .i64 0,.int .u64 0,.str [],.nils,.nils,.nils,.nils,.int .i64 0,.int .u64 0,.str [],.nils,.nils,.nils,.nils] [(0,7,(.t 56)),(7,7,(.t 59))]),none⟩,⟨some 17,.allocN 17 [.int .i64 0,.int .u64 0,.str [],.nils,.nils,.nils,.nils,.int .i64 0,.int .u64 0,.str [],.nils,.nils,.nils,.nils],none⟩,jd 14 17 60]
abbrev L5:IL:=[jt 18,jt 19]
abbrev L6:IL:=[ja 61 0,yd 62 61,jc 63 2 62,jb 64 6 63,jy 65 89 64,yp 66 65 0]
abbrev L7:IL:=[ja 68 0,yd 69 68,jc 70 2 69,jb 71 6 70,jy 72 90 71,ja 67 72,jf 73 67 0,jf 74 67 1,jf 75 67 2,jf 76 67 3,ym 22 22,ja 20 73,ja 21 74,jd 6 22 75,ja 23 76]
abbrev L8:IL:=[ja 78 23,js 79 78 0,ja 77 79]
abbrev L9:IL:=[jb 80 7 6,ja 81 23,jd 7 8 80,ja 9 81]
abbrev Qaa:IL:=[ja 83 20,js 84 83 1,ja 85 84,jg 86 20 85,⟨some 87,.val (.bin .num .neq (.t 86) (.c (.int .i64 2))),(some (85,true))⟩,ji 88 85 87,ja 82 88]
abbrev Qab:IL:=[jb 89 7 6,jd 7 8 89,je 9 18]
abbrev Qac:IL:=[ja 91 20,jz 92 91 1,ja 93 92,jg 94 18 93,ji 95 93 94,ja 96 95,jq 97 20 96,yw 98 97 2 96,jq 99 98 96,jg 100 19 99,⟨some 101,.val (.pick (.t 99) (.t 100) (.c (.bool false))),(some (96,false))⟩,jk 102 96 101,ja 90 102]
abbrev Qad:IL:=[jb 103 7 6,jd 7 8 103,je 9 9]
abbrev Qae:IL:=[ja 104 0,jb 105 6 22,yd 106 104,jc 107 2 106,jd 6 107 105]
abbrev Qaf:IL:=[ja 108 20,jz 109 108 1]
abbrev Qag:IL:=[yr 18]
abbrev Qah:IL:=[ja 111 0,jc 112 4 7,jh 113 112,⟨some 114,.val (.build [.int .i64 0,.str [],.str [],.int .i64 0,.int .i64 0,.int .i64 0,.int .i64 0,.int .i64 0] [(5,1,(.t 113)),(6,1,(.c (.int .i64 (-1))))]),none⟩,ja 115 21,⟨some 116,.callG (.f 240) [(.t 111),(.t 114),(.t 115)],none⟩,ja 110 116,jf 117 110 0,jf 118 110 1,jc 119 0 17,jd 7 119 117,ja 23 118]
abbrev Qai:IL:=[yr 19]
abbrev Qaj:IL:=[ja 121 0,jb 122 8 7,ja 123 21,⟨some 124,.callG (.f 240) [(.t 121),(.t 122),(.t 123)],none⟩,ja 120 124,jf 125 120 0,jf 126 120 1,jc 127 7 17,jd 7 127 125,ja 23 126]
abbrev Qak:IL:=[ja 128 23,js 129 128 0]
abbrev Qal:IL:=[jb 130 7 6,ja 131 23,jd 7 8 130,ja 9 131]
abbrev SQ:RC:=.gho (.drop 22) (.seq (jQ L6 (jX 66 0)) (.block 1 (jQ L7 (.seq (.block 2 (jQ L8 (.cond (.t 77) (jQ L9 (.ret)) (jQ Qaa (.cond (.t 82) (jQ Qab (.ret)) (jQ Qac (.cond (.t 90) (jQ Qad (.ret)) (.skip)))))))) (jQ Qae (.seq (jQ Qaf (.cond (.t 109) (jQ Qag (.reg Qah)) (jQ Qai (.reg Qaj)))) (jQ Qak (.cond (.t 129) (jQ Qal (.ret)) (.skip)))))))))
abbrev Qam:IL:=[ja 132 0,jb 133 6 14,yv 134 241 132 133]
abbrev Qan:IL:=[jc 135 4 12,jh 136 135,jn 137 1 136,ja 24 137]
abbrev Qao:IL:=[jc 138 4 12,ye 139 0 12 138,ja 140 24,ja 141 24,⟨some 142,.val (.slcl (.t 139) (.t 140) (.t 141)),none⟩,yg 143 0 17 14 17,⟨some 144,.bsl 14 1 [.int .i64 0,.int .u64 0,.str [],.nils,.nils,.nils,.nils,.int .i64 0,.int .u64 0,.str [],.nils,.nils,.nils,.nils] [(0,14,(.t 143))],none⟩,⟨some 145,.appc 145 14 256 70 (.t 142) (.t 144),none⟩,ja 25 145]
abbrev Qap:IL:=[yg 146 0 5 3 5,yg 147 0 6 7 6,yg 148 0 7 8 7,ja 149 25,jy 150 108 149,⟨some 151,.val (.build [.int .i64 0,.int .u64 0,.str [],.nils,.nils,.nils,.nils] [(0,1,(.c (.int .i64 12))),(4,1,(.t 150))]),none⟩,⟨some 152,.call (.f 242) [(.t 146),(.t 147),(.t 148),(.t 151)],none⟩,yx 0 8 7 8 152,je 9 0]
abbrev QcU:RC:=jQ QcK (jQ QcL (.seq (jQ QcM (.cond (.t 32) (jQ QcN (.ret)) (.skip))) (jQ QcO (jQ QcP (jQ QcQ (.seq (jQ QcR (.cond (.t 46) (.reg QcS) (.skip))) (.seq (jQ QcT (jQ L2 (.cond (.t 51) (jQ L3 (.ret)) (.skip)))) (jQ L4 (jQ L5 (.seq (.block 0 (.loop SQ)) (jQ Qam (jQ Qan (jD Qao (.gho (.pub 25 145) (jD Qap (.ret))))))))))))))))
abbrev QcV:List RR:=[.cell 8 (some 7),.tmp 9]
theorem QcW:CT 178 153 QcU QcV:=ck Tryz.func178 Tryz.ntmps178 (by decide +kernel)
abbrev QcX:IL:=[jl 5 5 1,jl 6 6 2,jl 7 7 3,jv 8 8,je 9 0]
abbrev QcY:IL:=[ja 19 0,⟨some 20,.callG (.f 238) [(.t 19)],none⟩,ja 18 20,jf 21 18 0,jf 22 18 1,ja 10 21,ja 11 22]
abbrev QcZ:IL:=[ja 23 11,js 24 23 0]
abbrev Qc0:IL:=[jb 25 7 6,ja 26 11,jd 7 8 25,ja 9 26]
abbrev Qc1:IL:=[ja 27 0,ja 28 10,yv 29 239 27 28,ym 12 12,jd 6 12 29]
abbrev Qc2:IL:=[ja 31 0,yd 32 31,jc 33 2 32,jb 34 6 33,jy 35 243 34,ja 30 35,jf 36 30 0,jf 37 30 1,jf 38 30 2,ym 14 14,ja 13 36,jd 6 14 37,ja 11 38]
abbrev Qc3:IL:=[ja 39 11,js 40 39 0]
abbrev Qc4:IL:=[jb 41 7 6,ja 42 11,jd 7 8 41,ja 9 42]
abbrev Qc5:IL:=[ja 43 0,jb 44 6 14,yd 45 43,jc 46 2 45,jd 6 46 44]
abbrev Qc6:IL:=[ja 47 13,⟨some 48,.val (.cvi .i64 (.t 47)),none⟩,jb 49 8 7,jy 50 180 49,yt 51 48 50]
abbrev Qaq:IL:=[jb 52 7 6,jd 7 8 52,je 9 13]
abbrev Qar:IL:=[jb 54 7 6,jc 55 0 7,jh 56 55,jx 57 45 54 56,ja 53 57,jf 58 53 0,jf 59 53 1,jv 15 15,jd 7 15 58,ja 16 59]
abbrev Qas:IL:=[ja 60 16,yc 61 60]
abbrev Qat:IL:=[ja 62 0,⟨some 63,.callG (.f 43) [(.t 62),(.c (.int .i64 1))],none⟩,ja 17 63]
abbrev Qau:IL:=[ja 64 17,js 65 64 0]
abbrev Qav:IL:=[jb 66 7 6,ja 67 17,jd 7 8 66,ja 9 67]
abbrev Qaw:IL:=[jb 68 3 5,jb 69 7 6,jb 70 8 7,⟨some 71,.val (.build [.int .i64 0,.int .u64 0,.str [],.nils,.nils,.nils,.nils] [(0,1,(.c (.int .i64 11)))]),none⟩,⟨some 72,.call (.f 242) [(.t 68),(.t 69),(.t 70),(.t 71)],none⟩,jd 7 6 72]
abbrev Qax:IL:=[ja 73 0,yd 74 73,jc 75 2 74,jb 76 6 75,jy 77 89 76,yp 78 77 0]
abbrev Qay:IL:=[ja 80 0,jb 81 3 5,jb 82 7 6,jb 83 8 7,⟨some 84,.callG (.f 182) [(.t 80),(.t 81),(.t 82),(.t 83)],none⟩,ja 79 84,jf 85 79 0,jf 86 79 1,jd 7 6 85,ja 11 86]
abbrev Qaz:IL:=[ja 87 11,js 88 87 0]
abbrev QaA:IL:=[jb 89 7 6,ja 90 11,jd 7 8 89,ja 9 90]
abbrev SR:RC:=.seq (jQ Qax (jX 78 0)) (.block 1 (jQ Qay (jQ Qaz (.cond (.t 88) (jQ QaA (.ret)) (.skip)))))
abbrev QaB:IL:=[ja 91 0,jb 92 6 12,yv 93 241 91 92]
abbrev QaC:IL:=[jb 94 7 6,jd 7 8 94,je 9 0]
abbrev Qc7:RC:=jQ QcX (jQ QcY (.seq (jQ QcZ (.cond (.t 24) (jQ Qc0 (.ret)) (.skip))) (jQ Qc1 (jQ Qc2 (.seq (jQ Qc3 (.cond (.t 40) (jQ Qc4 (.ret)) (.skip))) (jQ Qc5 (.seq (jQ Qc6 (.cond (.t 51) (jQ Qaq (.ret)) (.skip))) (.seq (jQ Qar (jQ Qas (.cond (.t 61) (.seq (jQ Qat (jQ Qau (.cond (.t 65) (jQ Qav (.ret)) (.skip)))) (.reg Qaw)) (.skip)))) (.seq (.block 0 (.loop SR)) (jQ QaB (jQ QaC (.ret))))))))))))
abbrev Qc8:List RR:=[.cell 8 (some 7),.tmp 9]
theorem Qc9:CT 179 95 Qc7 Qc8:=ck Tryz.func179 Tryz.ntmps179 (by decide +kernel)
def SS:IL:=[yb 2]
def SU:IL:=[ja 3 0,⟨some 4,.isnil false (.t 3),none⟩]
def SX:IL:=[yb 2]
def SY:IL:=[⟨some 5,.bsl0 5 14,none⟩,ja 6 0,yh 7 14 256 70 5 6,ja 2 7]
def AL:RC:=jQ SS (.seq (jQ SU (.cond (.t 4) (jQ SX (.gho (.vec 2 2 14) (.gho (.give 2 2 1 1000) (.ret)))) (.skip))) (jQ SY (.gho (.give 2 5 1 1000) (.ret))))
def Rh:List RR:=[.tmp 2]
theorem Qda:CT 197 8 AL Rh:=ck Tryz.func197 Tryz.ntmps197 (by decide +kernel)
def SZ:IL:=[je 4 0]
def S0:IL:=[ja 14 1,jn 15 0 14,ja 5 15]
def S1:IL:=[ja 17 5,jz 18 17 0,ja 19 18,jq 20 1 19,jq 21 0 19,⟨some 22,.val (.bin .str .eql (.t 20) (.t 21)),(some (19,false))⟩,jk 23 19 22,ja 16 23]
def S2:IL:=[je 4 0]
def S3:IL:=[ja 25 5,jz 26 25 1,ja 24 26]
def S4:IL:=[ja 27 0,ja 28 1,⟨some 29,.val (.idx (.t 28) (.c (.int .i64 0))),none⟩,jx 30 345 27 29,ja 4 30]
def S5:IL:=[ja 32 5,ja 33 0,jn 34 0 33,⟨some 35,.val (.bin .num .geq (.t 32) (.t 34)),none⟩,ja 31 35]
def S6:IL:=[je 4 (-1)]
def S7:IL:=[ja 45 0,ja 46 1,jx 47 346 45 46,ja 4 47]
def QaD:IL:=[ja 48 1,⟨some 49,.val (.idx (.t 48) (.c (.int .i64 0))),none⟩,ja 6 49]
def QaE:IL:=[ja 50 1,⟨some 51,.val (.idx (.t 50) (.c (.int .i64 1))),none⟩,ja 7 51]
def QaF:IL:=[je 8 0]
def QaG:IL:=[ja 52 0,jn 53 0 52,ja 54 5,⟨some 55,.val (.bin .num .sub (.t 53) (.t 54)),none⟩,jp 56 55 1,ja 9 56]
def QaH:IL:=[je 10 0]
def QaI:IL:=[ja 57 8,ja 58 9,jw 59 57 58]
def QaJ:IL:=[ja 60 0,ja 61 8,⟨some 62,.val (.idx (.t 60) (.t 61)),none⟩,ja 63 6,yt 64 62 63]
def QaK:IL:=[ja 65 0,ja 66 8,jp 67 66 1,ja 68 9,⟨some 69,.val (.slc none (.t 65) (some (.t 67)) (some (.t 68)) none),none⟩,ja 70 6,jx 71 345 69 70,ja 11 71]
def QaL:IL:=[ja 72 11,⟨some 73,.val (.bin .num .lss (.t 72) (.c (.int .i64 0))),none⟩]
def QaM:IL:=[je 4 (-1)]
def QaN:IL:=[ja 74 8,ja 75 11,jp 76 75 1,⟨some 77,.val (.bin .num .add (.t 74) (.t 76)),none⟩,ja 8 77]
def QaO:IL:=[ja 78 0,ja 79 8,jp 80 79 1,⟨some 81,.val (.idx (.t 78) (.t 80)),none⟩,ja 82 7,⟨some 83,.val (.bin .num .eql (.t 81) (.t 82)),none⟩,ja 84 83,jg 85 0 84,jg 86 8 84,jg 87 8 84,jg 88 5 84,⟨some 89,.val (.bin .num .add (.t 87) (.t 88)),(some (84,true))⟩,⟨some 90,.val (.slc none (.t 85) (some (.t 86)) (some (.t 89)) none),(some (84,true))⟩,jg 91 1 84,⟨some 92,.val (.bin .str .eql (.t 90) (.t 91)),(some (84,true))⟩,ji 93 84 92]
def QaP:IL:=[ja 94 8,ja 4 94]
def QaQ:IL:=[ja 95 8,jp 96 95 1,ja 8 96]
def QaR:IL:=[ja 97 10,jp 98 97 1,ja 10 98]
def QaS:IL:=[ja 108 0,ja 109 8,⟨some 110,.val (.slc none (.t 108) (some (.t 109)) none none),none⟩,ja 111 1,jx 112 346 110 111,ja 12 112]
def QaT:IL:=[ja 113 12,⟨some 114,.val (.bin .num .geq (.t 113) (.c (.int .i64 0))),none⟩]
def QaU:IL:=[ja 115 12,ja 116 8,⟨some 117,.val (.bin .num .add (.t 115) (.t 116)),none⟩,ja 4 117]
def QaV:IL:=[je 4 (-1)]
def QaW:IL:=[ja 133 0,ja 134 8,⟨some 135,.val (.slc none (.t 133) (some (.t 134)) none none),none⟩,ja 136 1,jx 137 348 135 136,ja 13 137]
def QaX:IL:=[ja 138 13,⟨some 139,.val (.bin .num .lss (.t 138) (.c (.int .i64 0))),none⟩]
def QaY:IL:=[je 4 (-1)]
def QaZ:IL:=[ja 140 8,ja 141 13,⟨some 142,.val (.bin .num .add (.t 140) (.t 141)),none⟩,ja 4 142]
def Qdb:RC:=.seq (jQ QaI (jX 59 1)) (.block 2 (.seq (jQ QaJ (.cond (.t 64) (jQ QaK (.seq (jQ QaL (.cond (.t 73) (jQ QaM (.ret)) (.skip))) (.reg QaN))) (.skip))) (.seq (jQ QaO (.cond (.t 93) (jQ QaP (.ret)) (.skip))) (jQ QaQ (jQ QaR (.seq (.no) (.cond (.t 107) (jQ QaS (.seq (jQ QaT (.cond (.t 114) (jQ QaU (.ret)) (.skip))) (jQ QaV (.ret)))) (.seq (.no) (.cond (.t 132) (jQ QaW (.seq (jQ QaX (.cond (.t 139) (jQ QaY (.ret)) (.skip))) (jQ QaZ (.ret)))) (.skip))))))))))
def Qa0:IL:=[je 4 (-1)]
def Ri:RC:=jQ SZ (jQ S0 (.seq (.block 0 (jQ S1 (.cond (.t 16) (jQ S2 (.ret)) (jQ S3 (.cond (.t 24) (jQ S4 (.ret)) (jQ S5 (.cond (.t 31) (jQ S6 (.ret)) (.seq (.no) (.cond (.t 36) (jQ S7 (.ret)) (.skip)))))))))) (jQ QaD (jQ QaE (jQ QaF (jQ QaG (jQ QaH (.seq (.block 1 (.loop Qdb)) (jQ Qa0 (.ret))))))))))
def AM:List RR:=[.tmp 4]
theorem Qdc:CT 338 143 Ri AM:=ck Tryz.func338 Tryz.ntmps338 (by decide +kernel)
abbrev QfT:IL:=[jl 2 2 0,jl 3 3 1,jt 4]
abbrev QfU:IL:=[jc 9 0 2,jh 10 9,jc 11 0 3,jh 12 11,yt 13 10 12,ja 14 13,jj 15 1 2 14,jm 16 15 14,jj 17 1 3 14,jm 18 17 14,yo 19 16 18 14,jk 20 14 19,ja 21 20,jj 22 2 2 21,jm 23 22 21,jj 24 2 3 21,jm 25 24 21,⟨some 26,.val (.bin .str .neq (.t 23) (.t 25)),(some (21,false))⟩,jk 27 21 26,ja 28 27,jj 29 3 2 28,jm 30 29 28,ya 31 1 30 28,jj 32 3 3 28,jm 33 32 28,ya 34 1 33 28,yo 35 31 34 28,jk 36 28 35,ja 37 36,jj 38 4 2 37,jm 39 38 37,ya 40 1 39 37,jj 41 4 3 37,jm 42 41 37,ya 43 1 42 37,yo 44 40 43 37,jk 45 37 44,ja 46 45,jj 47 5 2 46,jm 48 47 46,ya 49 1 48 46,jj 50 5 3 46,jm 51 50 46,ya 52 1 51 46,yo 53 49 52 46,jk 54 46 53,ja 55 54,jj 56 6 2 55,jm 57 56 55,ya 58 1 57 55,jj 59 6 3 55,jm 60 59 55,ya 61 1 60 55,yo 62 58 61 55,jk 63 55 62]
abbrev QfV:IL:=[jt 4]
abbrev QfW:IL:=[je 5 0]
abbrev QfX:IL:=[ja 64 5,jc 65 3 2,jh 66 65,jn 67 1 66,jw 68 64 67]
abbrev QfY:IL:=[jc 71 3 2,ye 72 0 2 71,ja 73 5,jr 74 7 72 73,yj 75 7 74,jc 76 3 3,ye 77 0 3 76,ja 78 5,jr 79 7 77 78,yj 80 7 79,jx 81 27 75 80,yc 82 81]
abbrev QfZ:IL:=[jt 4]
abbrev Qf0:IL:=[ja 69 5,jp 70 69 1,ja 5 70]
abbrev Iq:RC:=.seq (jQ QfX (jX 68 0)) (.seq (.block 1 (jD QfY (.cond (.t 82) (jQ QfZ (.ret)) (.skip)))) (.reg Qf0))
abbrev Qf1:IL:=[je 6 0]
abbrev Qf2:IL:=[ja 83 6,jc 84 4 2,jh 85 84,jn 86 1 85,jw 87 83 86]
abbrev Qdd:IL:=[jc 90 4 2,ye 91 0 2 90,ja 92 6,jr 93 14 91 92,jc 94 0 93,yj 95 7 94,jc 96 4 3,ye 97 0 3 96,ja 98 6,jr 99 14 97 98,jc 100 0 99,yj 101 7 100,jx 102 27 95 101,yc 103 102,ja 104 103,jj 105 4 2 104,yy 106 0 2 105 104,jq 107 6 104,yz 108 14 106 107 104,jj 109 7 108 104,⟨some 110,.val (.loadr (some 7) (.t 109)),(some (104,false))⟩,jj 111 4 3 104,yy 112 0 3 111 104,jq 113 6 104,yz 114 14 112 113 104,jj 115 7 114 104,⟨some 116,.val (.loadr (some 7) (.t 115)),(some (104,false))⟩,⟨some 117,.call (.f 27) [(.t 110),(.t 116)],(some (104,false))⟩,yn 118 117 104,jk 119 104 118]
abbrev Qde:IL:=[jt 4]
abbrev Qdf:IL:=[ja 88 6,jp 89 88 1,ja 6 89]
abbrev Ir:RC:=.seq (jQ Qf2 (jX 87 2)) (.seq (.block 3 (jD Qdd (.cond (.t 119) (jQ Qde (.ret)) (.skip)))) (.reg Qdf))
abbrev Qdg:IL:=[je 7 0]
abbrev Qdh:IL:=[ja 120 7,jc 121 5 2,jh 122 121,jn 123 1 122,jw 124 120 123]
abbrev Qdi:IL:=[jc 127 5 2,ye 128 0 2 127,ja 129 7,jr 130 8 128 129,jc 131 0 130,⟨some 132,.val (.loadr none (.t 131)),none⟩,jc 133 5 3,ye 134 0 3 133,ja 135 7,jr 136 8 134 135,jc 137 0 136,⟨some 138,.val (.loadr none (.t 137)),none⟩,yt 139 132 138,ja 140 139,jj 141 5 2 140,yy 142 0 2 141 140,jq 143 7 140,yz 144 8 142 143 140,jj 145 1 144 140,⟨some 146,.val (.loadr (some 7) (.t 145)),(some (140,false))⟩,jj 147 5 3 140,yy 148 0 3 147 140,jq 149 7 140,yz 150 8 148 149 140,jj 151 1 150 140,⟨some 152,.val (.loadr (some 7) (.t 151)),(some (140,false))⟩,⟨some 153,.call (.f 27) [(.t 146),(.t 152)],(some (140,false))⟩,yn 154 153 140,jk 155 140 154]
abbrev Qdj:IL:=[jt 4]
abbrev Qdk:IL:=[ja 125 7,jp 126 125 1,ja 7 126]
abbrev Is:RC:=.seq (jQ Qdh (jX 124 4)) (.seq (.block 5 (jD Qdi (.cond (.t 155) (jQ Qdj (.ret)) (.skip)))) (.reg Qdk))
abbrev Qdl:IL:=[je 8 0]
abbrev Qdm:IL:=[ja 156 8,jc 157 6 2,jh 158 157,jn 159 1 158,jw 160 156 159]
abbrev Qdn:IL:=[jc 163 6 2,ye 164 0 2 163,ja 165 8,jr 166 4 164 165,yj 167 4 166,jc 168 6 3,ye 169 0 3 168,ja 170 8,jr 171 4 169 170,yj 172 4 171,⟨some 173,.val (.eqs true [.num,.num,.num,.str] (.t 167) (.t 172)),none⟩]
abbrev Qdo:IL:=[jt 4]
abbrev Qdp:IL:=[ja 161 8,jp 162 161 1,ja 8 162]
abbrev It:RC:=.seq (jQ Qdm (jX 160 6)) (.seq (.block 7 (jD Qdn (.cond (.t 173) (jQ Qdo (.ret)) (.skip)))) (.reg Qdp))
abbrev Qdq:IL:=[yr 4]
abbrev r27:RC:=jQ QfT (.seq (jQ QfU (.cond (.t 63) (jQ QfV (.ret)) (.skip))) (.seq (jQ QfW (.block 0 (.loop Iq))) (.seq (jQ Qf1 (.block 2 (.loop Ir))) (.seq (jQ Qdg (.block 4 (.loop Is))) (.seq (jQ Qdl (.block 6 (.loop It))) (jQ Qdq (.ret)))))))
abbrev o27:List RR:=[.tmp 4]
theorem No:CT 27 174 r27 o27:=ck Tryz.func27 Tryz.ntmps27 (by decide +kernel)
def Iu:IL:=[jl 2 2 0,jl 3 3 1,jt 4]
def Iv:IL:=[jc 6 2 3,jh 7 6,jy 8 120 7,yc 9 8,ja 10 9,jj 11 2 3 10,jm 12 11 10,ya 13 0 12 10,yi 14 13 4096 10,jk 15 10 14,ja 16 15,jj 17 3 3 16,jm 18 17 16,⟨some 19,.val (.bin .num .lss (.t 18) (.c (.int .i64 1))),(some (16,false))⟩,jk 20 16 19,ja 21 20,jj 22 3 3 21,jm 23 22 21,yi 24 23 5 21,jk 25 21 24,ja 26 25,jj 27 5 3 26,jm 28 27 26,⟨some 29,.val (.bin .num .lss (.t 28) (.c (.int .i64 1))),(some (26,false))⟩,jk 30 26 29,ja 31 30,jj 32 5 3 31,jm 33 32 31,yi 34 33 10 31,jk 35 31 34]
def Iw:IL:=[jt 4]
def Iy:IL:=[jc 36 4 3,jh 37 36,⟨some 38,.val (.bin .num .geq (.t 37) (.c (.int .i64 1))),none⟩,ja 39 38,jo 40 4 3 39,ju 41 40 39,⟨some 42,.val (.bin .num .leq (.t 41) (.c (.int .i64 5))),(some (39,true))⟩,ji 43 39 42,ja 44 43,jj 45 4 3 44,jm 46 45 44,yw 47 46 7 44,jk 48 44 47,ja 5 48]
def Iz:IL:=[jc 49 3 3,jh 50 49,js 51 50 5]
def IA:IL:=[jc 52 4 3,jh 53 52,jz 54 53 0,ja 5 54]
def Rj:IL:=[ja 55 5,ja 56 55,⟨some 57,.val (.load (some 2) (.t 2)),(some (56,true))⟩,⟨some 58,.val (.load (some 8) (.t 3)),(some (56,true))⟩,⟨some 59,.call (.f 121) [(.t 57),(.t 58)],(some (56,true))⟩,ji 60 56 59,ja 61 60,jo 62 7 3 61,ju 63 62 61,yu 64 63 (-1) 61,jg 65 64 61,jj 66 3 3 65,jm 67 66 65,yw 68 67 2 65,⟨some 69,.val (.pick (.t 65) (.c (.bool true)) (.t 68)),(some (61,true))⟩,ji 70 61 69,ja 4 70]
def r66:RC:=jQ Iu (.seq (jQ Iv (.cond (.t 35) (jQ Iw (.ret)) (.skip))) (jQ Iy (.seq (jQ Iz (.cond (.t 51) (.reg IA) (.skip))) (jQ Rj (.ret)))))
def o66:List RR:=[.tmp 4]
theorem k66:CT 66 71 r66 o66:=ck Tryz.func66 Tryz.ntmps66 (by decide +kernel)
abbrev Qdr:IL:=[jt 2]
abbrev Qds:IL:=[ja 4 0,jn 5 0 4,jz 6 5 0,ja 7 6,jq 8 0 7,ya 9 0 8 7,yi 10 9 40 7,jk 11 7 10,ja 12 11,jq 13 0 12,⟨some 14,.val (.idx (.t 13) (.c (.int .i64 0))),(some (12,false))⟩,⟨some 15,.call (.f 207) [(.t 14)],(some (12,false))⟩,yn 16 15 12,jq 17 16 12,jg 18 0 17,⟨some 19,.val (.idx (.t 18) (.c (.int .i64 0))),(some (17,true))⟩,⟨some 20,.call (.f 208) [(.t 19)],(some (17,true))⟩,ys 21 20 17,⟨some 22,.val (.pick (.t 17) (.t 21) (.c (.bool false))),(some (12,false))⟩,jk 23 12 22]
abbrev Qdt:IL:=[jt 2]
abbrev Qdu:IL:=[je 3 1]
abbrev Qdv:IL:=[ja 24 3,ja 25 0,jn 26 0 25,jw 27 24 26]
abbrev Qdw:IL:=[ja 30 0,ja 31 3,⟨some 32,.val (.idx (.t 30) (.t 31)),none⟩,jy 33 207 32,yc 34 33,ja 35 34,jg 36 0 35,jg 37 3 35,⟨some 38,.val (.idx (.t 36) (.t 37)),(some (35,true))⟩,⟨some 39,.call (.f 208) [(.t 38)],(some (35,true))⟩,ys 40 39 35,ji 41 35 40,ja 42 41,jg 43 0 42,jg 44 3 42,⟨some 45,.val (.idx (.t 43) (.t 44)),(some (42,true))⟩,⟨some 46,.val (.bin .num .neq (.t 45) (.c (.int .u8 95))),(some (42,true))⟩,ji 47 42 46,ja 48 47,jg 49 0 48,jg 50 3 48,⟨some 51,.val (.idx (.t 49) (.t 50)),(some (48,true))⟩,⟨some 52,.val (.bin .num .lss (.t 51) (.c (.int .u8 48))),(some (48,true))⟩,jg 53 52 48,jq 54 0 53,jq 55 3 53,⟨some 56,.val (.idx (.t 54) (.t 55)),(some (53,false))⟩,⟨some 57,.val (.bin .num .gtr (.t 56) (.c (.int .u8 57))),(some (53,false))⟩,⟨some 58,.val (.pick (.t 53) (.c (.bool true)) (.t 57)),(some (48,true))⟩,ji 59 48 58]
abbrev Qdx:IL:=[jt 2]
abbrev Qdy:IL:=[ja 28 3,jp 29 28 1,ja 3 29]
abbrev S8:RC:=.seq (jQ Qdv (jX 27 0)) (.seq (.block 1 (jQ Qdw (.cond (.t 59) (jQ Qdx (.ret)) (.skip)))) (.reg Qdy))
abbrev Qdz:IL:=[yr 2]
abbrev Qh8:RC:=jQ Qdr (.seq (jQ Qds (.cond (.t 23) (jQ Qdt (.ret)) (.skip))) (.seq (jQ Qdu (.block 0 (.loop S8))) (jQ Qdz (.ret))))
abbrev Qh9:List RR:=[.tmp 2]
theorem Qia:CT 116 60 Qh8 Qh9:=ck Tryz.func116 Tryz.ntmps116 (by decide +kernel)
def S9:IL:=[je 4 0]
def Ta:IL:=[ja 6 0,ja 7 1,⟨some 8,.val (.idx (.t 6) (.t 7)),none⟩,ja 5 8]
def Tb:IL:=[ja 10 5,⟨some 11,.val (.bin .num .lss (.t 10) (.c (.int .u8 128))),none⟩,ja 9 11]
def Tc:IL:=[je 4 1]
def VK:IL:=[ja 13 5,⟨some 14,.val (.bin .num .geq (.t 13) (.c (.int .u8 194))),none⟩,ja 15 14,jg 16 5 15,⟨some 17,.val (.bin .num .leq (.t 16) (.c (.int .u8 223))),(some (15,true))⟩,ji 18 15 17,ja 19 18,jg 20 0 19,jg 21 1 19,yf 22 21 1 19,yk 23 316 20 22 1 19,ji 24 19 23,ja 12 24]
def Td:IL:=[je 4 2]
def VL:IL:=[ja 26 5,⟨some 27,.val (.bin .num .eql (.t 26) (.c (.int .u8 224))),none⟩,ja 28 27,jg 29 0 28,jg 30 1 28,yf 31 30 1 28,⟨some 32,.call (.f 317) [(.t 29),(.t 31),(.c (.int .u8 160)),(.c (.int .u8 191))],(some (28,true))⟩,ji 33 28 32,ja 34 33,jg 35 0 34,jg 36 1 34,yf 37 36 2 34,yk 38 316 35 37 1 34,ji 39 34 38,ja 25 39]
def Te:IL:=[je 4 3]
def VM:IL:=[ja 41 5,⟨some 42,.val (.bin .num .eql (.t 41) (.c (.int .u8 237))),none⟩,ja 43 42,jg 44 0 43,jg 45 1 43,yf 46 45 1 43,⟨some 47,.call (.f 317) [(.t 44),(.t 46),(.c (.int .u8 128)),(.c (.int .u8 159))],(some (43,true))⟩,ji 48 43 47,ja 49 48,jg 50 0 49,jg 51 1 49,yf 52 51 2 49,yk 53 316 50 52 1 49,ji 54 49 53,ja 40 54]
def Tf:IL:=[je 4 3]
def BD:IL:=[ja 56 5,⟨some 57,.val (.bin .num .geq (.t 56) (.c (.int .u8 225))),none⟩,ja 58 57,jg 59 5 58,⟨some 60,.val (.bin .num .leq (.t 59) (.c (.int .u8 239))),(some (58,true))⟩,ji 61 58 60,ja 62 61,jg 63 5 62,⟨some 64,.val (.bin .num .neq (.t 63) (.c (.int .u8 237))),(some (62,true))⟩,ji 65 62 64,ja 66 65,jg 67 0 66,jg 68 1 66,yf 69 68 1 66,yk 70 316 67 69 2 66,ji 71 66 70,ja 55 71]
def ML:IL:=[je 4 3]
def BE:IL:=[ja 73 5,⟨some 74,.val (.bin .num .eql (.t 73) (.c (.int .u8 240))),none⟩,ja 75 74,jg 76 0 75,jg 77 1 75,yf 78 77 1 75,⟨some 79,.call (.f 317) [(.t 76),(.t 78),(.c (.int .u8 144)),(.c (.int .u8 191))],(some (75,true))⟩,ji 80 75 79,ja 81 80,jg 82 0 81,jg 83 1 81,yf 84 83 2 81,yk 85 316 82 84 2 81,ji 86 81 85,ja 72 86]
def MM:IL:=[je 4 4]
def BF:IL:=[ja 88 5,⟨some 89,.val (.bin .num .geq (.t 88) (.c (.int .u8 241))),none⟩,ja 90 89,jg 91 5 90,⟨some 92,.val (.bin .num .leq (.t 91) (.c (.int .u8 243))),(some (90,true))⟩,ji 93 90 92,ja 94 93,jg 95 0 94,jg 96 1 94,yf 97 96 1 94,yk 98 316 95 97 3 94,ji 99 94 98,ja 87 99]
def MN:IL:=[je 4 4]
def BG:IL:=[ja 101 5,⟨some 102,.val (.bin .num .eql (.t 101) (.c (.int .u8 244))),none⟩,ja 103 102,jg 104 0 103,jg 105 1 103,yf 106 105 1 103,⟨some 107,.call (.f 317) [(.t 104),(.t 106),(.c (.int .u8 128)),(.c (.int .u8 143))],(some (103,true))⟩,ji 108 103 107,ja 109 108,jg 110 0 109,jg 111 1 109,yf 112 111 2 109,yk 113 316 110 112 2 109,ji 114 109 113,ja 100 114]
def MO:IL:=[je 4 4]
def MP:IL:=[je 4 0]
def QdA:RC:=jQ S9 (jQ Ta (.seq (.block 0 (jQ Tb (.cond (.t 9) (jQ Tc (.ret)) (jQ VK (.cond (.t 12) (jQ Td (.ret)) (jQ VL (.cond (.t 25) (jQ Te (.ret)) (jQ VM (.cond (.t 40) (jQ Tf (.ret)) (jQ BD (.cond (.t 55) (jQ ML (.ret)) (jQ BE (.cond (.t 72) (jQ MM (.ret)) (jQ BF (.cond (.t 87) (jQ MN (.ret)) (jQ BG (.cond (.t 100) (jQ MO (.ret)) (.skip)))))))))))))))))) (jQ MP (.ret))))
def QdB:List RR:=[.tmp 4]
theorem Qib:CT 279 115 QdA QdB:=ck Tryz.func279 Tryz.ntmps279 (by decide +kernel)
end Go.Proofs.YtkhpgmeokilhaaaGreatDoor.Rc

namespace Go.Proofs.YtkhpgmeokilhaaaGreatDoor.Bt
open Go

theorem JR (n:Int):IntKind.u64.wrap n=n % 18446744073709551616:=by simp[IntKind.wrap,IntKind.bits,IntKind.signed]
theorem wu8 (n:Int):IntKind.u8.wrap n=n % 256:=by simp[IntKind.wrap,IntKind.bits,IntKind.signed]
theorem QC (n:Int):IntKind.i64.wrap n=(n+9223372036854775808) % 18446744073709551616-9223372036854775808:=IntKind.wrap_i64 n

theorem KS {n:Nat}(h:n<18446744073709551616):(BitVec.ofInt 64 (n:Int)).toNat=n:=by
 simp;omega

theorem MQ (a b:Nat)(ha:a<18446744073709551616)(hb:b<18446744073709551616):bits .xor .u64 (a:Int) (b:Int)=((a ^^^ b:Nat):Int):=by
 have hx:a ^^^ b<2 ^ 64:=Nat.xor_lt_two_pow (by omega) (by omega);show IntKind.u64.wrap ((BitVec.ofInt 64 (a:Int) ^^^ BitVec.ofInt 64 (b:Int)).toNat:Int)=_;rw[BitVec.toNat_xor,KS ha,KS hb,JR];omega
theorem Uy (a b:Nat)(ha:a<18446744073709551616)(hb:b<18446744073709551616):bits .and .u64 (a:Int) (b:Int)=((a &&& b:Nat):Int):=by
 have hx:a &&& b<2 ^ 64:=Nat.and_lt_two_pow _ (by omega);show IntKind.u64.wrap ((BitVec.ofInt 64 (a:Int) &&& BitVec.ofInt 64 (b:Int)).toNat:Int)=_;rw[BitVec.toNat_and,KS ha,KS hb,JR];omega
theorem Th (a b:Nat)(ha:a<18446744073709551616)(hb:b<18446744073709551616):bits .or .u64 (a:Int) (b:Int)=((a ||| b:Nat):Int):=by
 have hx:a ||| b<2 ^ 64:=Nat.or_lt_two_pow (by omega) (by omega)
 show IntKind.u64.wrap ((BitVec.ofInt 64 (a:Int) ||| BitVec.ofInt 64 (b:Int)).toNat:Int)=_;rw[BitVec.toNat_or,KS ha,KS hb,JR];omega

theorem HS (a:Nat)(ha:a<18446744073709551616):a ^^^ 18446744073709551615=18446744073709551615-a:=by
 have h1:(BitVec.ofNat 64 a ^^^ BitVec.allOnes 64).toNat=a ^^^ 18446744073709551615:=by
  rw[BitVec.toNat_xor,BitVec.toNat_ofNat,BitVec.toNat_allOnes,Nat.mod_eq_of_lt (by omega)]
 rw[←h1,BitVec.xor_allOnes,BitVec.toNat_not,BitVec.toNat_ofNat,Nat.mod_eq_of_lt (by omega)]

theorem VN (a:Int)(h0:0≤a)(h1:a<18446744073709551616):bits .xor .u64 a 0=a:=by
 obtain⟨n,rfl⟩:=Qof h0;have:=MQ n 0 (by omega) (by omega);rw[Nat.xor_zero]at this;exact this
theorem VP (a:Int)(h0:0≤a)(h1:a<18446744073709551616):bits .xor .u64 a 18446744073709551615=18446744073709551615-a:=by
 obtain⟨n,rfl⟩:=Qof h0;have:=MQ n 18446744073709551615 (by omega) (by omega);rw[HS n (by omega)]at this;rw[show((18446744073709551615:Nat):Int)=18446744073709551615 from rfl]at this;rw[this];omega
theorem Mm (a:Int)(h0:0≤a)(h1:a<18446744073709551616):bits .and .u64 a 1=a % 2:=by
 obtain⟨n,rfl⟩:=Qof h0;have:=Uy n 1 (by omega) (by omega);rw[Nat.and_one_is_mod]at this;rw[show((1:Nat):Int)=1 from rfl]at this;rw[this];omega
theorem VQ (a:Int)(h0 : -9223372036854775808≤a)(h1:a<9223372036854775808):bits .xor .i64 a 0=a:=by
 show IntKind.i64.wrap ((BitVec.ofInt 64 a ^^^ BitVec.ofInt 64 0).toNat:Int)=_;rw[BitVec.toNat_xor,show(BitVec.ofInt 64 0).toNat=0 from rfl,Nat.xor_zero,BitVec.toNat_ofInt,QC];omega
theorem VR (a:Int)(h0 : -9223372036854775808≤a)(h1:a<9223372036854775808):bits .xor .i64 a (-1) = -1-a:=by
 show IntKind.i64.wrap ((BitVec.ofInt 64 a ^^^ BitVec.ofInt 64 (-1)).toNat:Int)=_;rw[BitVec.toNat_xor,show(BitVec.ofInt 64 (-1)).toNat=18446744073709551615 from rfl,BitVec.toNat_ofInt,HS _ (by omega),QC];omega

end Go.Proofs.YtkhpgmeokilhaaaGreatDoor.Bt

set_option linter.unusedSimpArgs false
namespace Go.Proofs.YtkhpgmeokilhaaaGreatDoor.Va
open Go Am Rc Bt

def RB (v:AV):Prop:=∃b,v=.bool b
theorem RB.rf {v:AV}{l:List AV}(h:RB v):v.rf=true∧(AV.rfL l=true∨v.nl=true):=by
 obtain⟨b,rfl⟩:=h;exact⟨rfl,.inr rfl⟩

def isk (k:Int):Bool:=decide (k≥1)&&decide (k≤9)
def Zh (k:Int):Bool:=k==7||k==8
def wk (k:Int):Int:=if k=1∨k=4∨k=5∨k=9 then 0 else if k=2∨k=3 then 1 else if k=6 then 2 else if k=7∨k=8 then 3 else if k=10 then 4 else -1

theorem Qic (k:Int):Qi Tryz.prog 276 [.int .i64 k] (.bool (isk k)):=by
 refine wF Tryz.func276 ?_;simp only[eK,Tryz.f276,seval];simp only[isk,Qa,seval];cases h:decide (k≥1)<;>simp only[Qoc,Qn1,Qa,seval]

theorem BH (k:Int):Qi Tryz.prog 203 [.int .i64 k] (.bool (isk k)):=by
 refine wF Tryz.func203 ?_;simp only[eK,Tryz.f203,seval];simp only[isk,Qa,seval];cases h:decide (k≥1)<;>simp only[Qoc,Qn1,Qa,seval]

theorem Qid (k:Int):Qi Tryz.prog 278 [.int .i64 k] (.bool (Zh k)):=by
 refine wF Tryz.func278 ?_;simp only[eK,Tryz.f278,seval];simp only[Zh,Qa,seval];cases h:(k==7)<;>simp only[Qog,Qoh,Qa,seval]

theorem QdD (k:Int):Qi Tryz.prog 274 [.int .i64 k] (.bool (Zh k)):=by
 refine wF Tryz.func274 ?_;simp only[eK,Tryz.f274,seval];simp only[Zh,Qa,seval];cases h:(k==7)<;>simp only[Qog,Qoh,Qa,seval]

def oc (n:Int)(s a:List UInt8)(c k kd t u:Int):AV:=.agg [.int .i64 n,.str s,.str a,.int .i64 c,.int .i64 k,.int .i64 kd,.int .i64 t,.int .i64 u]

def pk (c kd:Int):Bool:=c==4&&((decide (kd≥1)&&decide (kd≤6))||kd==9)
def VS (c kd:Int):Int:=if c=5 then 6 else if pk c kd=true then 5 else wk kd

section
variable (n:Int)(s a:List UInt8)(c k kd t u:Int)

theorem AN:Qi Tryz.prog 171 [oc n s a c k kd t u] (.bool (pk c kd)):=by
 refine wF Tryz.func171 ?_;simp only[eK,Tryz.f171,seval];simp only[oc,pk,eE,seval];cases h0:(c==4)<;>cases h1:decide (kd≥1)<;>cases h2:decide (kd≤6)<;>simp only[h1,h2,Qoc,Qn1,Qog,Qoh,eE,seval]

theorem QdE:Qi Tryz.prog 233 [oc n s a c k kd t u] (.int .i64 (VS c kd)):=by
 have hP:=AN n s a c k kd t u;simp only[oc]at hP;refine wF Tryz.func233 ?_;simp only[eK,Tryz.f233,seval];simp only[oc,eE,seval];by_cases hc:c=5
 ·have b0:(c==5)=true:=by simp[hc]
  simp only[b0,VS,QmD hc,Qa,seval]
 ·have b0:(c==5)=false:=by simp[hc]
  simp only[b0,VS,QmC hc,eE,seval];refine aC hP ?_;cases pk c kd
  ·simp only[QmO,eE,seval]
   repeat' (first|(refine QW (fun h=>?_) (fun h=>?_)<;>simp only[h,Qa,seval])|(refine XM (fun h=>?_) (fun h=>?_)<;>simp only[h,Qj,eE,seval])|(refine XN (fun h=>?_) (fun h=>?_)<;>simp only[h,Qj,eE,seval]))
   all_goals((try simp only[QmA,Qoi,ne_eq]at *)<;>unfold wk<;>(repeat' split)<;>first|rfl|(exfalso;omega))
  ·simp only[Qa,seval]

end

theorem Qw (i:Nat)(n:Nat)(h:i<n)(hn:n≤maxLen):IntKind.i64.wrap ((i:Int)+1)=((i+1:Nat):Int):=by
 simp only[maxLen]at hn;rw[QC];omega

theorem QD {i n:Nat}(h:i<n):decide ((i:Int)<(n:Int))=true:=by simp;omega
theorem QI {i n:Nat}(h:¬i<n):decide ((i:Int)<(n:Int))=false:=by simp;omega
theorem Qv (i:Nat):(0≤(i:Int))=True:=by simp

end Go.Proofs.YtkhpgmeokilhaaaGreatDoor.Va

namespace Go.Proofs.YtkhpgmeokilhaaaGreatDoor.Br
open Go Am Go.RowKit Go.WideShapes Go.ChangeShapes Go.ChangeAt Go.Joins Go.Deep Go.WideElems Go.Maps

section
variable {H:Type}{enc:TypeId×Value→H}{P:Program}{W:World}{base:Nat}{sp:Nat→Bool}{held:Bool}

end

theorem Dc {X α:Type}{f:X→List α}{sz:Nat}(hsz:0<sz)(hf:∀x,(f x).length=sz):∀(xs:List X) (j:Nat),(xs.flatMap f)[j]? = (xs[j / sz]?).bind fun x=>(f x)[j % sz]?
 | [],j=>by simp
 |x :: xs,j=>by
  rw[Qn0];by_cases hj:j<sz
  ·rw[QnW (by rw[hf];exact hj),Nat.div_eq_of_lt hj,Nat.mod_eq_of_lt hj];rfl
  ·obtain⟨i,rfl⟩:∃i,j=sz+i:=⟨j-sz,by omega⟩;rw[QnX (by rw[hf];omega),hf,Dc hsz hf xs,show sz+i-sz=i by omega,show(sz+i) / sz=i / sz+1 by rw[Nat.add_div_left _ hsz],Nat.add_mod_left];rfl

section
variable {H:Type}{enc:TypeId×Value→H}{P:Program}{W:World}

structure El (enc:TypeId×Value→H)(P:Program)(e:TypeId)(sz:Nat)(X:Type) where
 av:X→AV
 vals:X→List Value
 Wx:X→DataW H
 ok:X→Prop
 pos:0<sz
 len:∀x,(vals x).length=sz
 cells:∀x,(av x).cells.length=sz
 rfl':∀x,AV.rfL (av x).cells=true
 leaf:∀x,(av x).cells.all AV.leaf=true
 rep:∀(G:Gh) x,RepL G (av x).cells (vals x)
 opened:∀ {W:World} {n:Nat} {cs:List Value} {d:DataW H} {pl:List MemPlace},cs.length=sz→DataW.trod enc P W 0 (fun _=>true) true n e cs=some (d,pl)→∃x,ok x∧cs=vals x∧d=Wx x∧pl=[]
 shut:∀(W:World) (sp:Nat→Bool) x,ok x→∃n,DataW.trod enc P W 0 sp true n e (vals x)=some (Wx x,[])

end
end Go.Proofs.YtkhpgmeokilhaaaGreatDoor.Br

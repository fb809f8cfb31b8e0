/- Code of the abstract machine is sound for the model; a function's contract out of its code. -/
import Derived.Test.YtcmdlmcmefbkeaaAmq
import Derived.Defers
namespace Go.Proofs.Ytcmdlmcmefbkeaa.Am
open Go

/-- Which code of the model each stands for. -/
def chkC (P : Program) (N : Nat) : RC → Code → Bool
  | .gho _ r, c => chkC P N r c
  | .no, _ => true
  | .skip, c => match c with
    | .skip => true
    | _ => false
  | .reg its, c => match c with
    | .region _ ops false => chkIs P N ops ops.toList its
    | _ => false
  | .draw its, c => match c with
    | .region _ ops true => P.follows .mixedOrders && chkIs P N ops ops.toList its && chkDraw ops its
    | _ => false
  | .seq a b, c => match c with
    | .seq x y => chkC P N a x && chkC P N b y
    | _ => false
  | .cond r a b, c => match c with
    | .cond o x y => chkA o r && chkC P N a x && chkC P N b y
    | _ => false
  | .block i a, c => match c with
    | .block j x => i == j && chkC P N a x
    | _ => false
  | .loop a, c => match c with
    | .loop x => chkC P N a x
    | _ => false
  | .exit i, c => match c with
    | .exit j => i == j
    | _ => false
  | .scope a, c => match c with
    | .scope x => chkC P N a x
    | _ => false
  | .lab, c => match c with
    | .label _ => true
    | _ => false
  | .ret, c => match c with
    | .ret => true
    | _ => false

section
variable {P : Program} {N B : Nat}

theorem awp_ok : ∀ {rc : RC} {c : Code} {st : St} {Q : Exit → St → Prop}, awp P rc st Q → chkC P N rc c = true → ∀ {G : Gh} {a : Act} {w : World}, Rel G B N st a w → ∀ {QQ : Exit → Act → World → Prop},
    (∀ e G' st' a' w', Q e st' → Rel G' B N st' a' w' → Ext 1 G w G' w' → QQ e a' w') → c.wp P QQ a w := by
  intro rc
  induction rc with
  | skip =>
    intro c st Q h hc G a w hr QQ hq
    cases c <;> simp only [chkC, Bool.false_eq_true] at hc
    exact wp_skip (hq _ _ _ _ _ h hr (Ext.refl 1 G w))
  | reg its =>
    intro c st Q h hc G a w hr QQ hq
    cases c <;> simp only [chkC, Bool.false_eq_true] at hc
    rename_i id ops d
    cases d <;> simp only [Bool.false_eq_true] at hc
    refine wp_region_list ?_
    exact aops_ok (N := N) h ops ops.toList hc G B a w hr QQ fun G' st' a' w' h1 h2 h3 => hq _ _ _ _ _ h1 h2 h3
  | draw its =>
    intro c st Q h hc G a w hr QQ hq
    cases c <;> simp only [chkC, Bool.false_eq_true] at hc
    rename_i id ops d
    cases d <;> simp only [Bool.false_eq_true, Bool.and_eq_true] at hc
    exact draw_ok hc.1.1 hc.1.2 hc.2 h hr fun G' st' a' w' h1 h2 h3 => hq _ _ _ _ _ h1 h2 h3
  | seq x y ihx ihy =>
    intro c st Q h hc G a w hr QQ hq
    cases c <;> simp only [chkC, Bool.false_eq_true, Bool.and_eq_true] at hc
    refine wp_seq (ihx h hc.1 hr fun e G' st' a' w' h1 h2 h3 => ?_)
    cases e with
    | normal => exact ihy h1 hc.2 h2 fun e G2 st2 a2 w2 k1 k2 k3 => hq _ _ _ _ _ k1 k2 (h3.trans k3)
    | _ => exact hq _ _ _ _ _ h1 h2 h3
  | cond r x y ihx ihy =>
    intro c st Q h hc G a w hr QQ hq
    cases c <;> simp only [chkC, Bool.false_eq_true, Bool.and_eq_true] at hc
    rename_i o cx cy
    obtain ⟨t, ht, h1, h2⟩ := h
    have hv := chkA_ok hr hc.1.1
    rw [ht] at hv
    have hv' : a.eval o = .bool t := by
      generalize a.eval o = v at hv
      cases hv; rfl
    refine wp_cond_split hv' (fun e => ?_) (fun e => ?_)
    · exact ihx (h1 e) hc.1.2 hr hq
    · exact ihy (h2 e) hc.2 hr hq
  | block i x ih =>
    intro c st Q h hc G a w hr QQ hq
    cases c <;> simp only [chkC, Bool.false_eq_true, Bool.and_eq_true, beq_iff_eq] at hc
    obtain ⟨rfl, hc⟩ := hc
    refine wp_block (ih h hc hr fun e G' st' a' w' h1 h2 h3 => ?_)
    cases e with
    | exit j =>
      simp only [Exit.inBlock]
      simp only [Kb] at h1
      split
      · rename_i hh; rw [if_pos hh] at h1; exact hq _ _ _ _ _ h1 h2 h3
      · rename_i hh; rw [if_neg hh] at h1; exact hq _ _ _ _ _ h1 h2 h3
    | _ => exact hq _ _ _ _ _ h1 h2 h3
  | loop x ih =>
    intro c st Q h hc G a w hr QQ hq
    cases c <;> simp only [chkC, Bool.false_eq_true] at hc
    obtain ⟨I, n, h0, hI⟩ := h
    refine wp_loop_ghost (fun k a' w' => ∃ G' st', I k st' ∧ Rel G' B N st' a' w' ∧ Ext 1 G w G' w') n ⟨G, st, h0, hr, Ext.refl 1 G w⟩ ?_
    rintro k a' w' ⟨G', st', i1, i2, i3⟩
    refine ih (hI k st' i1) hc i2 fun e G2 st2 a2 w2 h1 h2 h3 => ?_
    cases e with
    | normal =>
      obtain ⟨k', hk, hi⟩ := h1
      exact ⟨k', hk, G2, st2, hi, h2, i3.trans h3⟩
    | _ => exact hq _ _ _ _ _ h1 h2 (i3.trans h3)
  | exit i =>
    intro c st Q h hc G a w hr QQ hq
    cases c <;> simp only [chkC, Bool.false_eq_true, beq_iff_eq] at hc
    subst hc
    exact wp_exit (hq _ _ _ _ _ h hr (Ext.refl 1 G w))
  | scope x ih =>
    intro c st Q h hc G a w hr QQ hq
    cases c <;> simp only [chkC, Bool.false_eq_true] at hc
    refine wp_scope_straight (ih h hc hr fun e G' st' a' w' h1 h2 h3 => ?_)
    cases e with
    | goto l => exact h1.elim
    | _ => exact hq _ _ _ _ _ h1 h2 h3
  | lab =>
    intro c st Q h hc G a w hr QQ hq
    cases c <;> simp only [chkC, Bool.false_eq_true] at hc
    exact wp_label (hq _ _ _ _ _ h hr (Ext.refl 1 G w))
  | ret =>
    intro c st Q h hc G a w hr QQ hq
    cases c <;> simp only [chkC, Bool.false_eq_true] at hc
    exact wp_ret (hq _ _ _ _ _ h hr (Ext.refl 1 G w))
  | gho g x ih =>
    intro c st Q h hc G a w hr QQ hq
    obtain ⟨st', hg, h⟩ := h
    obtain ⟨G', h1, h2⟩ := gstep_ok hr hg
    exact ih h hc h1 fun e G2 st2 a2 w2 k1 k2 k3 => hq _ _ _ _ _ k1 k2 (h2.trans k3)
  | no =>
    intro c st Q h
    exact h.elim

theorem MR.out {G : Gh} {fr : Nat → Ob} {m : Mem} {w : World} (h : MR G (fr :: m) w) {S : Nat → Prop} (hS : ∀ b, S b → ∃ s, G.vm 0 s = some b) : MR ((G.pub w S).dn 1) m w := by
  have hnS : ∀ l s b, G.nm l s = some b → ¬ S b := fun l s b e hs => by
    obtain ⟨s', e'⟩ := hS b hs
    exact h.inj3 _ _ _ _ _ e e'
  have hvS : ∀ l s b, G.vm (l + 1) s = some b → ¬ S b := fun l s b e hs => by
    obtain ⟨s', e'⟩ := hS b hs
    have := (h.inj2 _ _ _ _ _ e e').1
    omega
  have hgle : Gle G (G.pub w S) := Gh.pub_gle h.stab
  refine ⟨fun b o v e => ?_, fun l s xs e => ?_, fun l s b e => ?_, fun l s g sz xs e => ?_, fun l s b e => ?_, fun l s e => ?_, fun l s l' s' b e e' => ?_, fun l s l' s' b e e' => ?_, fun l s l' s' b e e' => ?_⟩
  · have e : (G.pub w S).stab b o = some v := e
    by_cases hs : S b
    · rw [Gh.pub_in hs] at e; exact e
    · rw [Gh.pub_out hs] at e; exact h.stab b o v e
  · obtain ⟨b, cs, e', hc, hr⟩ := h.cells (l + 1) s xs e
    refine ⟨b, cs, e', hc, ?_⟩
    rw [Gh.dn_dn]
    exact hr.mono (hgle.dn (l + 1))
  · obtain ⟨h1, h2⟩ := h.nm (l + 1) s b e
    refine ⟨h1, fun o => ?_⟩
    show (G.pub w S).stab b o = none
    rw [Gh.pub_out (hnS _ _ _ e)]; exact h2 o
  · obtain ⟨a1, a2, a3, a4⟩ := h.vec (l + 1) s g sz xs e
    exact ⟨a1, a2, a3, a4.imp id fun ⟨b, e', r⟩ => ⟨b, e', r.of rfl fun vs hv => RepL.rfd (G := G) (G' := (G.pub w S).dn 1) hgle.stab a3.rf hv⟩⟩
  · obtain ⟨h1, h2⟩ := h.vm (l + 1) s b e
    refine ⟨h1, fun o => ?_⟩
    show (G.pub w S).stab b o = none
    rw [Gh.pub_out (hvS _ _ _ e)]; exact h2 o
  · exact h.gone (l + 1) s e
  · obtain ⟨h1, h2⟩ := h.inj1 _ _ _ _ _ e e'; exact ⟨by omega, h2⟩
  · obtain ⟨h1, h2⟩ := h.inj2 _ _ _ _ _ e e'; exact ⟨by omega, h2⟩
  · exact h.inj3 _ _ _ _ _ e e'

/-- How a body may end: these values, these objects of ours. -/
def AEnds (rs : List RR) (n : Nat) (R : AV → Mem → Prop) : Exit → St → Prop := fun e st =>
  (e = .normal ∨ e = .ret) ∧ st.ds = [] ∧ ∃ x y fr m, resV st rs = some x ∧ leave st.m x = some y ∧ st.m = fr :: m ∧ m.length = n ∧ R y m

theorem slots_enter {G : Gh} {args : List AV} {vs : List Value} (h : RepL G args vs) {N : Nat} (i : Nat) : Rep G.up (argF (AV.shL args) i) (((vs.toArray ++ Array.replicate (N - vs.toArray.size) undef) : Array Value).getD i undef) := by
  have h' : RepL G.up (AV.shL args) vs := RepL.sh (G := G.up) (by rw [Gh.up_dn]; exact h)
  have hl := h'.length
  unfold argF
  by_cases hi : i < vs.length
  · obtain ⟨x, e, hx⟩ := h'.back (List.getElem?_eq_getElem hi)
    rw [e]
    simp only [Option.getD_some, Array.getD_eq_getD_getElem?]
    rw [Array.getElem?_append_left (by simpa using hi)]
    simpa [hi] using hx
  · rw [List.getElem?_eq_none (by omega)]
    simp only [Option.getD_none, Array.getD_eq_getD_getElem?]
    rw [Array.getElem?_append_right (by simpa using hi)]
    cases hx : (Array.replicate (N - vs.toArray.size) undef)[i - vs.toArray.size]? with
    | none => exact .tup .nil
    | some v =>
      have := Array.getElem?_eq_some_iff.1 hx
      obtain ⟨_, h2⟩ := this
      simp at h2
      subst h2
      exact .tup .nil

theorem rel_enter {fn : Func} {args : List AV} {m : Mem} {G : Gh} {w : World} {vs : List Value} (hvs : RepL G args vs) (hm : MR G m w) (hN : fn.ntmps = N) (ha : args.length ≤ N) :
    Rel G.up w.heap.size N (St.enter args m) { tmps := vs.toArray ++ Array.replicate (fn.ntmps - vs.toArray.size) undef, defers := [] } w := by
  have hlen := hvs.length
  refine ⟨hm.up, ?_, fun i => slots_enter hvs i, .nil, fun s b e => ?_, Nat.le_refl _, by simp [St.enter]⟩
  · simp; omega
  · rcases e with e | e <;> cases e

/-- The end of a call: its results are read, its frame is left. -/
theorem ends_ok {fn : Func} {rs : List RR} {G G' : Gh} {m m' : Mem} {w w' : World} {st' : St} {a' : Act} {fr : Nat → Ob} {x y : AV} {R : AV → Mem → Prop} (hr : chkR P fn.results.toList rs = true) (hr' : Rel G' w.heap.size N st' a' w') (he : Ext 1 G.up w G' w')
    (hx : resV st' rs = some x) (hy : leave st'.m x = some y) (hst : st'.m = fr :: m') (hml : m'.length = m.length) (hR : R y m') :
    ∃ v, (results fn a'.tmps).run P w' = .ok v w' ∧ (∃ G'' x v' m'', (Ending.returned v) = .returned v' ∧ R x m'' ∧ Rep G'' x v' ∧ MR G'' m'' w' ∧ Ext 0 G w G'' w' ∧ m''.length = m.length) := by
  obtain ⟨v, hrun, hv⟩ := resV_ok (P := P) hr' hr hx
  let S : Nat → Prop := fun b => ∃ s, G'.vm 0 s = some b
  have hmr := hr'.mr
  have hSt : ∀ l s b, (true && l != 0) = false → G'.vm l s = some b → S b := by
    intro l s b hl e
    have : l = 0 := by simpa using hl
    subst this
    exact ⟨s, e⟩
  unfold leave at hy
  rw [Option.bind_eq_some_iff] at hy
  obtain ⟨z, hz, hy⟩ := hy
  have hv2 := Rep.un (still_ok hmr (own := true) (S := S) hSt hv z hz) y hy
  rw [hst] at hmr
  have hout := hmr.out (S := S) (fun b hs => hs)
  have hmine : ∀ b, ((G'.pub w' S).dn 1).mine b → G'.mine b := by
    rintro b (⟨l, s, e⟩ | ⟨l, s, e⟩)
    · exact .inl ⟨l + 1, s, e⟩
    · exact .inr ⟨l + 1, s, e⟩
  have hext : Ext 0 G w ((G'.pub w' S).dn 1) w' := by
    refine ⟨he.os, he.tape, he.output, he.size, fun b o v e => ?_, fun l s _ => he.nm (l + 1) s (by omega), fun l s => he.vg (l + 1) s, fun l s e => he.vs (l + 1) s e, fun b hb hnm => ?_, fun b hb => ?_, fun l s b e => he.mv (l + 1) s b e⟩
    · exact (Gh.pub_gle (S := S) hr'.mr.stab).stab b o v (he.stab b o v e)
    · obtain ⟨h1, h2⟩ := he.old b hb (fun hx => hnm (Gh.up_mine.1 hx))
      refine ⟨h1, fun o => ?_⟩
      have hnS : ¬ S b := by
        rintro ⟨s, e⟩
        have := hr'.base s b (.inr e)
        omega
      show (G'.pub w' S).stab b o = G.stab b o
      rw [Gh.pub_out hnS]; exact h2 o
    · rcases he.mine b (hmine b hb) with h1 | h1
      · exact .inl (Gh.up_mine.1 h1)
      · exact .inr h1
  exact ⟨v, hrun, _, y, v, m', rfl, hR, hv2, hout, hext, hml⟩

theorem acalls_of_awp {k : FuncId} {fn : Func} {c : Code} {rc : RC} {rs : List RR} {args : List AV} {m : Mem} {R : AV → Mem → Prop} (hf : P.funcs[k]? = some fn) (hb : fn.body = some c) (hn : (fn.name == "runtime.NumGoroutine") = false) (hN : fn.ntmps = N) (hc : chkC P N rc c = true) (hr : chkR P fn.results.toList rs = true)
    (ha : args.length ≤ N) (h : awp P rc (St.enter args m) (AEnds rs m.length R)) : ACalls P k args m R := by
  refine ⟨⟨fn, hf, hn, by rw [hb]; rfl⟩, fun G w vs hvs hm => ?_⟩
  refine calls_of_wp hf hb ?_
  refine awp_ok h hc (rel_enter hvs hm hN ha) fun e G' st' a' w' hq hr' he => ?_
  obtain ⟨hex, hds, x, y, fr, m', hx, hy, hst, hml, hR⟩ := hq
  have hdef : a'.defers = [] := by
    have := hr'.ds
    rw [hds] at this
    cases hd : a'.defers with
    | nil => rfl
    | cons d l => rw [hd] at this; cases this
  have hfin := ends_ok (R := R) hr hr' he hx hy hst hml hR
  rcases hex with rfl | rfl
  · exact ⟨hdef, hfin⟩
  · exact ⟨hdef, hfin⟩

/-- A contract of a function that is called as a deferred one. -/
def ACallsD (P : Program) (k : FuncId) (args : List AV) (m : Mem) (R : AV → Mem → Prop) : Prop :=
  Callable P k ∧ ∀ (G : Gh) (w : World) (vs : List Value), RepL G args vs → MR G m w → ∀ u, CallsD P k ⟨vs⟩ u w fun e u' w' => u' = u ∧ ∃ G' x v m', e = .returned v ∧ R x m' ∧ Rep G' x v ∧ MR G' m' w' ∧ Ext 0 G w G' w' ∧ m'.length = m.length

theorem acallsD_of_awp {k : FuncId} {fn : Func} {c : Code} {rc : RC} {rs : List RR} {args : List AV} {m : Mem} {R : AV → Mem → Prop} (hf : P.funcs[k]? = some fn) (hb : fn.body = some c) (hn : (fn.name == "runtime.NumGoroutine") = false) (hN : fn.ntmps = N) (hc : chkC P N rc c = true) (hr : chkR P fn.results.toList rs = true)
    (ha : args.length ≤ N) (h : awp P rc (St.enter args m) (AEnds rs m.length R)) : ACallsD P k args m R := by
  refine ⟨⟨fn, hf, hn, by rw [hb]; rfl⟩, fun G w vs hvs hm u => ?_⟩
  refine callsD_of_wp (R := fun e w' => ∃ G' x v m', e = .returned v ∧ R x m' ∧ Rep G' x v ∧ MR G' m' w' ∧ Ext 0 G w G' w' ∧ m'.length = m.length) hf hb ?_
  refine awp_ok h hc (rel_enter hvs hm hN ha) fun e G' st' a' w' hq hr' he => ?_
  obtain ⟨hex, hds, x, y, fr, m', hx, hy, hst, hml, hR⟩ := hq
  have hdef : a'.defers = [] := by
    have := hr'.ds
    rw [hds] at this
    cases hd : a'.defers with
    | nil => rfl
    | cons d l => rw [hd] at this; cases this
  have hfin := ends_ok (R := R) hr hr' he hx hy hst hml hR
  rcases hex with rfl | rfl
  · exact ⟨hdef, hfin⟩
  · exact ⟨hdef, hfin⟩

/-- How a frame with deferred calls is left. -/
def ALeaves (P : Program) (rs : List RR) (n : Nat) (R : AV → Mem → Prop) (f : Fr) : List DF → Mem → Prop
  | [], m => ∃ x y fr m', resV ⟨f, m, []⟩ rs = some x ∧ leave m x = some y ∧ m = fr :: m' ∧ m'.length = n ∧ R y m'
  | d :: ds, m => ∃ k, d.fn = .func k ∧ ACallsD P k (d.args ++ d.cap) m fun _ m1 => ALeaves P rs n R f ds m1

theorem leaves_ok {fn : Func} {rs : List RR} {G : Gh} {m : Mem} {w : World} {R : AV → Mem → Prop} (hr : chkR P fn.results.toList rs = true) (hm : MR G m w) (f : Fr) : ∀ (ds : List DF) (m1 : Mem) (G1 : Gh) (a : Act) (w1 : World), ALeaves P rs m.length R f ds m1 → Rel G1 w.heap.size N ⟨f, m1, ds⟩ a w1 → Ext 1 G.up w G1 w1 →
    Leaves P fn a.tmps (fun e w' => ∃ G' x v m', e = .returned v ∧ R x m' ∧ Rep G' x v ∧ MR G' m' w' ∧ Ext 0 G w G' w' ∧ m'.length = m.length) a.defers .returning w1
  | [], m1, G1, a, w1, h, hrel, he => by
    obtain ⟨x, y, fr, m', hx, hy, hst, hml, hR⟩ := h
    have hdef : a.defers = [] := by
      have := hrel.ds
      cases hd : a.defers with
      | nil => rfl
      | cons d l => rw [hd] at this; cases this
    rw [hdef]
    exact ends_ok (R := R) hr hrel he hx hy hst hml hR
  | d :: ds, m1, G1, a, w1, h, hrel, he => by
    obtain ⟨k, hk, ⟨fn', hf', hn', hb'⟩, hcall⟩ := h
    cases hd : a.defers with
    | nil => have := hrel.ds; rw [hd] at this; cases this
    | cons dv dvs =>
      have hds := hrel.ds
      rw [hd] at hds
      cases hds with
      | cons hd1 hds' =>
        cases hd1 with
        | mk hcap hargs =>
          rename_i fnn cap args vc va
          have hk : fnn = .func k := hk
          subst hk
          have hc2 := hcall G1 w1 (va ++ vc) (hargs.append hcap) hrel.mr .returning
          refine ⟨by simp, .func k, ⟨vc⟩, k, ⟨va ++ vc⟩, rfl, ?_, ?_⟩
          · simp only [invoke, callFunc, Sem.run_bind, run_program, Result.andThen_ok, hf', hn', Bool.false_eq_true, if_false, hb']
            simp
          · intro c cs hu
            obtain ⟨e, u', w', fr', ⟨hu', G2, x, v, m2, rfl, hR2, hv2, hm2, he2, hl2⟩, h1, h2, h3⟩ := hc2 c cs hu
            subst hu'
            refine ⟨_, _, w', fr', ?_, h1, h2, h3⟩
            show Leaves P fn a.tmps _ dvs (settle .returning) w'
            have hrel2 := hrel.after hm2 he2 hl2
            have hrel3 : Rel G2 w.heap.size N ⟨f, m2, ds⟩ { a with defers := dvs } w' :=
              ⟨hrel2.mr, hrel2.size, hrel2.slots, hds'.mono he2.gle, hrel2.base, hrel2.top, hrel2.ne⟩
            exact leaves_ok hr hm f ds m2 G2 { a with defers := dvs } w' hR2 hrel3 (he.trans (he2.mono (Nat.zero_le _)))

theorem acalls_of_awpD {k : FuncId} {fn : Func} {c : Code} {rc : RC} {rs : List RR} {args : List AV} {m : Mem} {R : AV → Mem → Prop} (hf : P.funcs[k]? = some fn) (hb : fn.body = some c) (hn : (fn.name == "runtime.NumGoroutine") = false) (hN : fn.ntmps = N) (hc : chkC P N rc c = true) (hr : chkR P fn.results.toList rs = true)
    (ha : args.length ≤ N) (h : awp P rc (St.enter args m) (fun e st => (e = .normal ∨ e = .ret) ∧ ALeaves P rs m.length R st.f st.ds st.m)) : ACalls P k args m R := by
  refine ⟨⟨fn, hf, hn, by rw [hb]; rfl⟩, fun G w vs hvs hm => ?_⟩
  refine calls_of_wp_defers hf hb ?_
  refine awp_ok h hc (rel_enter hvs hm hN ha) fun e G' st' a' w' hq hr' he => ?_
  obtain ⟨hex, hlv⟩ := hq
  have := leaves_ok (N := N) hr hm st'.f st'.ds st'.m G' a' w' hlv hr' he
  rcases hex with rfl | rfl
  · exact this
  · exact this

/-- A function that is handed no object of ours: its value. -/
theorem fn1_of_awp {k : FuncId} {fn : Func} {c : Code} {rc : RC} {rs : List RR} {args : List AV} {v : AV} (hf : P.funcs[k]? = some fn) (hb : fn.body = some c) (hn : (fn.name == "runtime.NumGoroutine") = false) (hN : fn.ntmps = N) (hc : chkC P N rc c = true) (hr : chkR P fn.results.toList rs = true)
    (ha : args.length ≤ N) (h : awp P rc (St.enter args []) (AEnds rs 0 fun x _ => x = v)) : Fn1 P k args v :=
  acalls_of_awp hf hb hn hN hc hr ha h

end

end Go.Proofs.Ytcmdlmcmefbkeaa.Am

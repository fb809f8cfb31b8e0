/- Calls: what a contract says; a frame's rows read out where a value leaves it. -/
import Derived.Test.YtcmdlmcmefbkeaaAmj
namespace Go.Proofs.Ytcmdlmcmefbkeaa.Am
open Go

/-- The rows of certain blocks are written no more: their cells stay. -/
noncomputable def Gh.pub (G : Gh) (w : World) (S : Nat → Prop) : Gh :=
  { G with stab := fun b o => @ite _ (S b) (Classical.propDecidable _) (w.cell? ⟨b, o, none⟩) (G.stab b o) }

theorem Gh.pub_in {G : Gh} {w : World} {S : Nat → Prop} {b o : Nat} (h : S b) : (G.pub w S).stab b o = w.cell? ⟨b, o, none⟩ := if_pos h
theorem Gh.pub_out {G : Gh} {w : World} {S : Nat → Prop} {b o : Nat} (h : ¬ S b) : (G.pub w S).stab b o = G.stab b o := if_neg h

theorem Gh.pub_gle {G : Gh} {w : World} {S : Nat → Prop} (h : ∀ b o v, G.stab b o = some v → w.cell? ⟨b, o, none⟩ = some v) : Gle G (G.pub w S) where
  stab b o v e := by
    by_cases hS : S b
    · rw [Gh.pub_in hS]; exact h b o v e
    · rw [Gh.pub_out hS]; exact e
  nm _ _ _ h := h
  vg _ _ := Nat.le_refl _
  vs _ _ _ := ⟨rfl, rfl, rfl⟩

mutual
theorem still_ok {G : Gh} {m : Mem} {w : World} (h : MR G m w) {own : Bool} {S : Nat → Prop} (hS : ∀ l s b, (own && l != 0) = false → G.vm l s = some b → S b) : ∀ {x : AV} {v : Value}, Rep G x v → ∀ y, x.still own m = some y → Rep (G.pub w S) y v
  | .top, v, hr, y, e => by cases e; exact .top v
  | .int _ _, _, hr, y, e => by cases e; exact hr.mono (Gh.pub_gle h.stab)
  | .bool _, _, hr, y, e => by cases e; exact hr.mono (Gh.pub_gle h.stab)
  | .str _, _, hr, y, e => by cases e; exact hr.mono (Gh.pub_gle h.stab)
  | .nilp, _, hr, y, e => by cases e; exact hr.mono (Gh.pub_gle h.stab)
  | .nilf, _, hr, y, e => by cases e; exact hr.mono (Gh.pub_gle h.stab)
  | .nili, _, hr, y, e => by cases e; exact hr.mono (Gh.pub_gle h.stab)
  | .nilm, _, hr, y, e => by cases e; exact hr.mono (Gh.pub_gle h.stab)
  | .anyp, _, hr, y, e => by cases e; exact hr.mono (Gh.pub_gle h.stab)
  | .list _, _, hr, y, e => by cases e; exact hr.mono (Gh.pub_gle h.stab)
  | .fn _ _ _, _, hr, y, e => by cases e; exact hr.mono (Gh.pub_gle h.stab)
  | .ptr _ _ _, _, hr, y, e => by cases e; exact hr.mono (Gh.pub_gle h.stab)
  | .vptr _ _ _ _ _, _, hr, y, e => by cases e; exact hr.mono (Gh.pub_gle h.stab)
  | .rptr _, _, hr, y, e => by cases e; exact hr.mono (Gh.pub_gle h.stab)
  | .nils, _, hr, y, e => by
      cases e; cases hr
      exact .list (sz := 0) (cs := []) .nil (by simp) rfl rfl (by simp) rfl (Nat.le_refl _) (Nat.zero_le _)
  | .agg l, _, hr, y, e => by
      simp only [AV.still, Option.map_eq_some_iff] at e
      obtain ⟨l', e, rfl⟩ := e
      cases hr with
      | agg hr => exact .agg (stillL_ok h hS hr l' e)
  | .tup l, _, hr, y, e => by
      simp only [AV.still, Option.map_eq_some_iff] at e
      obtain ⟨l', e, rfl⟩ := e
      cases hr with
      | tup hr => exact .tup (stillL_ok h hS hr l' e)
  | .iface t x, _, hr, y, e => by
      simp only [AV.still, Option.map_eq_some_iff] at e
      obtain ⟨l', e, rfl⟩ := e
      cases hr with
      | iface hr => exact .iface (still_ok h hS hr l' e)
  | .vec l s g o n q, v, hr, y, e => by
      simp only [AV.still] at e
      split at e
      · cases e; exact hr.mono (Gh.pub_gle h.stab)
      · rename_i hown
        split at e
        · rename_i g' sz xs hlk
          split at e
          · rename_i hh
            cases e
            obtain ⟨e1, e2, e3, e4⟩ := h.vec l s g' sz xs hlk
            have hmem : ∀ x ∈ (xs.drop o).take n, x ∈ xs := fun x hx => List.mem_of_mem_drop (List.mem_of_mem_take hx)
            cases hr with
            | vec hone hg hh' =>
              rcases hh' (by rw [e1]; exact hh.1) with ⟨hvm, rfl, rfl, rfl⟩ | ⟨b, A, c, hvm, hok, rfl, hkc, hcm, hq, hA⟩
              · simp only [List.take_zero]
                exact .list (sz := 0) (cs := []) .nil (by simp) rfl rfl (by simp) rfl (Nat.le_refl _) (Nat.zero_le _)
              · rcases e4 with ⟨e, _⟩ | ⟨b', e, hrow⟩
                · rw [hvm] at e; cases e
                · rw [hvm] at e; cases e
                  obtain ⟨cur, hsoft, hcs, hrep⟩ := hrow.cur
                  have hr := (hrep.mono (Gh.pub_gle (S := S) h.stab)).takeDrop (o * sz) (n * sz)
                  rw [flat_drop e3.size, flat_take (fun x hx => e3.size x (List.mem_of_mem_drop hx))] at hr
                  refine .list (sz := sz) hr (fun x hx => e3.size x (hmem x hx)) (rfL_sub e3.rf (flat_mem hmem)) (leaf_sub e3.leaf (flat_mem hmem)) (fun j u hu => ?_) (by simp; omega) hkc (by omega)
                  rw [List.getElem?_take] at hu
                  split at hu
                  · rename_i hj
                    rw [List.getElem?_drop, List.getElem?_take] at hu
                    split at hu
                    · have hk : 0 < n := by
                        rcases Nat.eq_zero_or_pos n with h0 | h0
                        · subst h0; simp at hj
                        · exact h0
                      have hovc : o < G.vc l s := Nat.lt_of_lt_of_le (Nat.lt_add_of_pos_right hk) hok
                      have hA' := hA ⟨.inl hovc, .inr hk⟩
                      rw [e2] at hA'
                      refine ⟨b, o * sz, by rw [hA'], ?_⟩
                      rw [Gh.pub_in (hS l s b (by simpa using hown) hvm), hsoft.cell]
                      simpa using hu
                    · cases hu
                  · cases hu
          · cases e
        · cases e
theorem stillL_ok {G : Gh} {m : Mem} {w : World} (h : MR G m w) {own : Bool} {S : Nat → Prop} (hS : ∀ l s b, (own && l != 0) = false → G.vm l s = some b → S b) : ∀ {x : List AV} {v : List Value}, RepL G x v → ∀ y, AV.stillL own m x = some y → RepL (G.pub w S) y v
  | [], _, hr, y, e => by cases e; cases hr; exact .nil
  | x :: l, _, hr, y, e => by
      simp only [AV.stillL] at e
      split at e
      · rename_i a b ea eb
        cases e
        cases hr with
        | cons hr ht => exact .cons (still_ok h hS hr a ea) (stillL_ok h hS ht b eb)
      · cases e
end

/-- A function with a body that the model enters. -/
def Callable (P : Program) (k : FuncId) : Prop := ∃ fn, P.funcs[k]? = some fn ∧ (fn.name == "runtime.NumGoroutine") = false ∧ fn.body.isNone = false

/-- A contract: called with these arguments, our frames' objects being m, the function returns a value x and leaves the objects m' such that R x m'. -/
def ACalls (P : Program) (k : FuncId) (args : List AV) (m : Mem) (R : AV → Mem → Prop) : Prop :=
  Callable P k ∧ ∀ (G : Gh) (w : World) (vs : List Value), RepL G args vs → MR G m w → Calls P k ⟨vs⟩ w fun e w' => ∃ G' x v m', e = .returned v ∧ R x m' ∧ Rep G' x v ∧ MR G' m' w' ∧ Ext 0 G w G' w' ∧ m'.length = m.length

theorem ACalls.mono {P : Program} {k : FuncId} {args : List AV} {m : Mem} {R R' : AV → Mem → Prop} (h : ACalls P k args m R) (hr : ∀ x m', R x m' → R' x m') : ACalls P k args m R' :=
  ⟨h.1, fun G w vs h1 h2 => (h.2 G w vs h1 h2).mono fun _ _ ⟨G', x, v, m', e, r, rest⟩ => ⟨G', x, v, m', e, hr _ _ r, rest⟩⟩

/-- The ghost as a callee sees it. -/
def Gh.up (G : Gh) : Gh where
  stab := G.stab
  nm := fun l s => match l with | 0 => none | l + 1 => G.nm l s
  vm := fun l s => match l with | 0 => none | l + 1 => G.vm l s
  vc := fun l s => match l with | 0 => 0 | l + 1 => G.vc l s
  vg := fun l s => match l with | 0 => 0 | l + 1 => G.vg l s
  vz := fun l s => match l with | 0 => 0 | l + 1 => G.vz l s

theorem Gh.up_dn (G : Gh) (l : Nat) : G.up.dn (l + 1) = G.dn l := rfl

theorem Gh.up_mine {G : Gh} {b : Nat} : G.up.mine b ↔ G.mine b := by
  constructor
  · rintro (⟨l, s, e⟩ | ⟨l, s, e⟩)
    · cases l with
      | zero => cases e
      | succ l => exact .inl ⟨l, s, e⟩
    · cases l with
      | zero => cases e
      | succ l => exact .inr ⟨l, s, e⟩
  · rintro (⟨l, s, e⟩ | ⟨l, s, e⟩)
    · exact .inl ⟨l + 1, s, e⟩
    · exact .inr ⟨l + 1, s, e⟩

def noObs : Nat → Ob := fun _ => .none

theorem MR.up {G : Gh} {m : Mem} {w : World} (h : MR G m w) : MR G.up (noObs :: m) w where
  stab := h.stab
  cells l s xs e := by
    cases l with
    | zero => cases e
    | succ l => exact h.cells l s xs e
  nm l s b e := by
    cases l with
    | zero => cases e
    | succ l => exact h.nm l s b e
  vec l s g sz xs e := by
    cases l with
    | zero => cases e
    | succ l =>
      obtain ⟨a1, a2, a3, a4⟩ := h.vec l s g sz xs e
      exact ⟨a1, a2, a3, a4.imp id fun ⟨b, e', r⟩ => ⟨b, e', r.of rfl fun vs hv => RepL.rfd (G := G) (G' := G.up) (fun _ _ _ h => h) a3.rf hv⟩⟩
  vm l s b e := by
    cases l with
    | zero => cases e
    | succ l => exact h.vm l s b e
  gone l s e := by
    cases l with
    | zero => rfl
    | succ l => exact h.gone l s e
  inj1 l s l' s' b e e' := by
    cases l with
    | zero => cases e
    | succ l =>
      cases l' with
      | zero => cases e'
      | succ l' => obtain ⟨h1, h2⟩ := h.inj1 l s l' s' b e e'; exact ⟨by rw [h1], h2⟩
  inj2 l s l' s' b e e' := by
    cases l with
    | zero => cases e
    | succ l =>
      cases l' with
      | zero => cases e'
      | succ l' => obtain ⟨h1, h2⟩ := h.inj2 l s l' s' b e e'; exact ⟨by rw [h1], h2⟩
  inj3 l s l' s' b e e' := by
    cases l with
    | zero => cases e
    | succ l =>
      cases l' with
      | zero => cases e'
      | succ l' => exact h.inj3 l s l' s' b e e'

/-- The slots of a frame as it is entered. -/
def argF (l : List AV) : Fr := fun i => (l[i]?).getD (.tup [])

def St.enter (args : List AV) (m : Mem) : St := { f := argF (AV.shL args), m := noObs :: m, ds := [] }

inductive RR where
  | tmp (t : Nat)
  | cell (t : Nat) (k : Option Nat)

def RR.ev (st : St) : RR → Option AV
  | .tmp t => some (st.f t)
  | .cell t k => aload st.m k (st.f t)

def RR.evL (st : St) : List RR → Option (List AV)
  | [] => some []
  | r :: rs => match r.ev st, RR.evL st rs with
    | some x, some xs => some (x :: xs)
    | _, _ => none

def resV (st : St) (rs : List RR) : Option AV :=
  match rs with
  | [r] => r.ev st
  | rs => (RR.evL st rs).map .tup

def chkR (P : Program) : List ResultVar → List RR → Bool
  | [], [] => true
  | .tmp t :: rs, .tmp t' :: ss => t == t' && chkR P rs ss
  | .cell t ty :: rs, .cell t' k :: ss => t == t' && shapeOf P ty == some k && chkR P rs ss
  | _, _ => false

/-- A value on its way out of the frame. -/
def leave (m : Mem) (x : AV) : Option AV := (x.still true m).bind AV.un

section
variable {P : Program} {G : Gh} {B N : Nat} {st : St} {a : Act} {w : World}

theorem run_asAddr_load (h : Rel G B N st a w) {t : Nat} {k : Option Nat} {x : AV} (hx : aload st.m k (st.f t) = some x) {ty : TypeId} (ht : shapeOf P ty = some k) :
    ∃ v, (do loadVar ty (← asAddr (a.tmps.getD t undef)) : Sem Value).run P w = .ok v w ∧ Rep G x v := by
  have hs := h.slots t
  obtain ⟨v, h1, h2⟩ := aload_ok (P := P) h hx hs ht
  refine ⟨v, ?_, h2⟩
  generalize a.tmps.getD t undef = u at h1 hs ⊢
  simp only [Instr.loadAt, Sem.run_bind] at h1
  cases u with
  | pointer p =>
    cases p with
    | none => simp [Instr.sureAddr] at h1
    | some p =>
      simp only [Instr.sureAddr, Sem.run_pure, Result.andThen_ok] at h1
      simp only [asAddr, Sem.run_bind, Sem.run_pure, Result.andThen_ok]
      exact h1
  | _ => simp [Instr.sureAddr] at h1

/-- How a result is read. -/
def resM (tmps : Array Value) : ResultVar → Sem Value
  | .tmp t => pure (tmps.getD t undef)
  | .cell b t => do loadVar t (← asAddr (tmps.getD b undef))

theorem results_eq (fn : Func) (tmps : Array Value) : results fn tmps = (do let vs ← fn.results.mapM (resM tmps); pure (if h : vs.size = 1 then vs[0] else .tuple vs)) := by
  have : (fun r => match r with
    | ResultVar.tmp t => (pure (tmps.getD t undef) : Sem Value)
    | ResultVar.cell b t => do loadVar t (← asAddr (tmps.getD b undef))) = resM tmps := by
    funext r; cases r <;> rfl
  rw [← this]
  rfl

theorem results_ok (h : Rel G B N st a w) {rs : List RR} : ∀ {vs : List ResultVar} {xs : List AV}, chkR P vs rs = true → RR.evL st rs = some xs →
    ∃ us, (vs.mapM (resM a.tmps)).run P w = .ok us w ∧ RepL G xs us := by
  induction rs with
  | nil =>
    intro vs xs hc he
    cases vs with
    | nil => cases he; exact ⟨[], rfl, .nil⟩
    | cons v vs => cases v <;> simp [chkR] at hc
  | cons r rs ih =>
    intro vs xs hc he
    simp only [RR.evL] at he
    split at he
    · rename_i x xs' e1 e2
      cases he
      cases vs with
      | nil => cases r <;> simp [chkR] at hc
      | cons v vs =>
        cases v with
        | tmp t =>
          cases r with
          | tmp t' =>
            simp only [chkR, Bool.and_eq_true, beq_iff_eq] at hc
            obtain ⟨rfl, hc⟩ := hc
            obtain ⟨us, h1, h2⟩ := ih hc e2
            cases e1
            exact ⟨_ :: us, by simp only [List.mapM_cons, resM, Sem.run_bind, Sem.run_pure, Result.andThen_ok, h1], .cons (h.slots t) h2⟩
          | cell t' k => simp [chkR] at hc
        | cell t ty =>
          cases r with
          | tmp t' => simp [chkR] at hc
          | cell t' k =>
            simp only [chkR, Bool.and_eq_true, beq_iff_eq] at hc
            obtain ⟨⟨rfl, hk⟩, hc⟩ := hc
            obtain ⟨us, h1, h2⟩ := ih hc e2
            obtain ⟨v, h3, h4⟩ := run_asAddr_load (P := P) h (t := t) e1 hk
            refine ⟨v :: us, ?_, .cons h4 h2⟩
            simp only [List.mapM_cons, Sem.run_bind, Sem.run_pure]
            have h3' : (resM a.tmps (.cell t ty)).run P w = .ok v w := h3
            rw [h3']
            simp only [Result.andThen_ok, h1]
    · cases he

theorem resV_ok (h : Rel G B N st a w) {rs : List RR} {fn : Func} {x : AV} (hc : chkR P fn.results.toList rs = true) (hx : resV st rs = some x) : ∃ v, (results fn a.tmps).run P w = .ok v w ∧ Rep G x v := by
  have key : ∀ xs, RR.evL st rs = some xs → ∃ us, (fn.results.mapM (resM a.tmps)).run P w = .ok ⟨us⟩ w ∧ RepL G xs us := by
    intro xs he
    obtain ⟨us, h1, h2⟩ := results_ok (P := P) h hc he
    refine ⟨us, ?_, h2⟩
    rw [Array.mapM_eq_mapM_toList]
    simp only [Sem.run_map, h1, Result.andThen_ok]
  have hl : ∀ xs (us : List Value), RR.evL st rs = some xs → RepL G xs us → us.length = rs.length := by
    intro xs us he hr
    have : ∀ (rs : List RR) xs, RR.evL st rs = some xs → xs.length = rs.length := by
      intro rs
      induction rs with
      | nil => intro xs e; cases e; rfl
      | cons r rs ih =>
        intro xs e
        simp only [RR.evL] at e
        split at e
        · rename_i x xs' _ e2; cases e; simp [ih _ e2]
        · cases e
    rw [hr.length, this rs xs he]
  unfold resV at hx
  split at hx
  · rename_i r
    have he : RR.evL st [r] = some [x] := by simp [RR.evL, hx]
    obtain ⟨us, h1, h2⟩ := key [x] he
    cases h2 with
    | cons h2 h3 =>
      cases h3
      refine ⟨_, ?_, h2⟩
      rw [results_eq, Sem.run_bind, h1]
      rfl
  · rename_i rs' hne
    simp only [Option.map_eq_some_iff] at hx
    obtain ⟨xs, he, rfl⟩ := hx
    obtain ⟨us, h1, h2⟩ := key xs he
    have hlen := hl xs us he h2
    refine ⟨.tuple ⟨us⟩, ?_, .tup h2⟩
    rw [results_eq, Sem.run_bind, h1]
    simp only [Result.andThen_ok]
    have : ¬ (⟨us⟩ : Array Value).size = 1 := by
      simp only [List.size_toArray, hlen]
      intro h1
      match rs, h1 with
      | [r], _ => exact hne r rfl
    rw [dif_neg this]
    rfl

end

end Go.Proofs.Ytcmdlmcmefbkeaa.Am

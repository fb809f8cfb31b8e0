/- The operations that only reckon: slices, addresses, and all of them together. -/
import Derived.Test.YtcmdlmcmefbkeaaAmg
namespace Go.Proofs.Ytcmdlmcmefbkeaa.Am
open Go

section
variable {P : Program} {G : Gh} {B N : Nat} {st : St} {a : Act} {w : World}

/-- A bound of a slice expression, as a value. -/
def BV (v : Option Value) (d n : Nat) : Prop := (v = none ∧ n = d) ∨ ∃ k i, v = some (.int k i) ∧ 0 ≤ i ∧ n = i.toNat

theorem bnd_ok (h : Rel G B N st a w) {x : Option Operand} {r : Option RA} (hc : chkO x r = true) {d n : Nat} (hb : bnd st.f d r = some n) : BV (x.map a.eval) d n := by
  cases x with
  | none =>
    cases r with
    | none => simp only [bnd, Option.some.injEq] at hb; exact .inl ⟨rfl, hb.symm⟩
    | some r => simp [chkO] at hc
  | some x =>
    cases r with
    | none => simp [chkO] at hc
    | some r =>
      have hr := chkA_ok h (x := x) (r := r) hc
      simp only [bnd] at hb
      split at hb
      · rename_i k i e
        split at hb
        · rename_i h0
          cases hb
          rw [e] at hr
          have hv : a.eval x = .int k i := by
            revert hr
            generalize a.eval x = v
            intro hr
            cases hr
            rfl
          exact .inr ⟨k, i, by simp [hv], h0, rfl⟩
        · cases hb
      · cases hb


theorem run_sliceBound {k : IntKind} {i : Int} {y : Nat} (h0 : 0 ≤ i) (hy : i.toNat ≤ y) (c : BoundsCode) : (Instr.sliceBound (.int k i) y c).run P w = .ok i.toNat w := by
  simp only [Instr.sliceBound, asIntOf, Sem.run_bind, Sem.run_pure, Result.andThen_ok]
  rw [if_pos (by omega)]
  rfl

theorem run_bounds (isSlice : Bool) (len cap : Nat) {lo hi mx : Option Value} {l h m : Nat} (hl : BV lo 0 l) (hh : BV hi len h) (hm : BV mx cap m) (hs : mx.isSome = true → hi.isSome = true) (h1 : l ≤ h) (h2 : h ≤ m) (h3 : m ≤ cap) :
    (Instr.sliceBounds isSlice len cap lo hi mx).run P w = .ok (l, h, m) w := by
  rcases hm with ⟨rfl, rfl⟩ | ⟨km, im, rfl, hm0, rfl⟩
  · rcases hh with ⟨rfl, rfl⟩ | ⟨kh, ih, rfl, hh0, rfl⟩
    · rcases hl with ⟨rfl, rfl⟩ | ⟨kl, il, rfl, hl0, rfl⟩
      · rfl
      · simp only [Instr.sliceBounds, Sem.run_bind, Sem.run_pure, Result.andThen_ok, run_sliceBound (P := P) (w := w) hl0 h1]
    · have e := fun c => run_sliceBound (P := P) (w := w) (k := kh) hh0 h2 c
      rcases hl with ⟨rfl, rfl⟩ | ⟨kl, il, rfl, hl0, rfl⟩
      · simp only [Instr.sliceBounds, Sem.run_bind, Sem.run_pure, Result.andThen_ok, e]
      · simp only [Instr.sliceBounds, Sem.run_bind, Sem.run_pure, Result.andThen_ok, e, run_sliceBound (P := P) (w := w) hl0 h1]
  · have em := fun c => run_sliceBound (P := P) (w := w) (k := km) hm0 h3 c
    rcases hh with ⟨rfl, rfl⟩ | ⟨kh, ih, rfl, hh0, rfl⟩
    · simp at hs
    · have e := fun c => run_sliceBound (P := P) (w := w) (k := kh) hh0 h2 c
      rcases hl with ⟨rfl, rfl⟩ | ⟨kl, il, rfl, hl0, rfl⟩
      · simp only [Instr.sliceBounds, Sem.run_bind, Sem.run_pure, Result.andThen_ok, e, em]
      · simp only [Instr.sliceBounds, Sem.run_bind, Sem.run_pure, Result.andThen_ok, e, em, run_sliceBound (P := P) (w := w) hl0 h1]

theorem rfL_append (l r : List AV) : AV.rfL (l ++ r) = (AV.rfL l && AV.rfL r) := by
  induction l with
  | nil => rfl
  | cons x l ih => simp [AV.rfL, ih, Bool.and_assoc]
theorem rfL_all (l : List AV) : AV.rfL l = l.all AV.rf := by
  induction l with
  | nil => rfl
  | cons x l ih => simp [AV.rfL, ih]
theorem rfL_sub {l r : List AV} (h : AV.rfL r = true) (hs : ∀ x ∈ l, x ∈ r) : AV.rfL l = true := by
  rw [rfL_all, List.all_eq_true] at *
  exact fun x hx => h x (hs x hx)
theorem leaf_sub {l r : List AV} (h : r.all AV.leaf = true) (hs : ∀ x ∈ l, x ∈ r) : l.all AV.leaf = true := by
  rw [List.all_eq_true] at *
  exact fun x hx => h x (hs x hx)
theorem flat_mem {l r : List AV} (hs : ∀ x ∈ l, x ∈ r) : ∀ x ∈ flat l, x ∈ flat r := by
  intro x hx
  simp only [flat, List.mem_flatMap] at *
  obtain ⟨y, hy, hx⟩ := hx
  exact ⟨y, hs y hy, hx⟩

/-- A part of a list that is never written again. -/
theorem Rep.sub {l : List AV} {cs : List Value} {A : Option Addr} {sz : Nat} (hc : RepL G (flat l) cs) (hz : ∀ x ∈ l, x.cells.length = sz) (hf : AV.rfL (flat l) = true) (hl : (flat l).all AV.leaf = true)
    (hs : ∀ j u, cs[j]? = some u → ∃ b o, A = some ⟨b, o, none⟩ ∧ G.stab b (o + j) = some u) (i k c : Nat) (hik : i + k ≤ l.length) (hkc : k ≤ c) (hm : k ≤ maxLen) {A' : Option Addr} (hA : ∀ b o, 0 < k → A = some ⟨b, o, none⟩ → A' = some ⟨b, o + i * sz, none⟩) :
    Rep G (.list ((l.drop i).take k)) (.slice A' k c) := by
  have hmem : ∀ x ∈ (l.drop i).take k, x ∈ l := fun x hx => List.mem_of_mem_drop (List.mem_of_mem_take hx)
  have hz' : ∀ x ∈ l.drop i, x.cells.length = sz := fun x hx => hz x (List.mem_of_mem_drop hx)
  have e : flat ((l.drop i).take k) = ((flat l).drop (i * sz)).take (k * sz) := by
    rw [flat_drop hz, flat_take hz']
  refine .list (cs := (cs.drop (i * sz)).take (k * sz)) (sz := sz) ?_ (fun x hx => hz x (hmem x hx)) (rfL_sub hf (flat_mem hmem)) (leaf_sub hl (flat_mem hmem)) ?_ (by simp; omega) hkc hm
  · rw [e]
    exact hc.takeDrop _ _
  · intro j u hu
    rw [List.getElem?_take] at hu
    split at hu
    · rename_i hj
      rw [List.getElem?_drop] at hu
      obtain ⟨b, o, hAA, hst⟩ := hs _ u hu
      have hk : 0 < k := by
        rcases Nat.eq_zero_or_pos k with h0 | h0
        · subst h0; simp at hj
        · exact h0
      exact ⟨b, o + i * sz, hA b o hk hAA, by rw [Nat.add_assoc]; exact hst⟩
    · cases hu

theorem lenA_ok {x : AV} {n : Nat} (hx : lenA x = some n) {v : Value} (hv : Rep G x v) : (∃ s : List UInt8, x = .str s ∧ v = .string ⟨⟨s⟩⟩ ∧ n = s.length) ∨ (∃ A c, v = .slice A n c) ∨ v = .map none ∧ n = 0 ∨ ∃ l s g o k q, x = .vec l s g o k q := by
  cases x with
  | str s => simp only [lenA, Option.some.injEq] at hx; cases hv; exact .inl ⟨s, rfl, rfl, hx.symm⟩
  | nils => simp only [lenA, Option.some.injEq] at hx; subst hx; cases hv; exact .inr (.inl ⟨_, _, rfl⟩)
  | nilm => simp only [lenA, Option.some.injEq] at hx; subst hx; cases hv; exact .inr (.inr (.inl ⟨rfl, rfl⟩))
  | list l =>
    simp only [lenA, Option.some.injEq] at hx; subst hx
    cases hv with
    | list hc hz hf hl hs hn hcap hm => subst hn; exact .inr (.inl ⟨_, _, rfl⟩)
  | vec l s g o k q => exact .inr (.inr (.inr ⟨_, _, _, _, _, _, rfl⟩))
  | _ => simp [lenA] at hx

theorem isStr_ok {t : TypeId} (h : isStr P t = true) : P.underlying t = some .string := by
  unfold isStr at h
  split at h
  · assumption
  · cases h

/-- What is sliced: a text, or a slice of elements of so many cells. -/
def SlcTy (P : Program) (t : TypeId) : Option Nat → Prop
  | none => P.underlying t = some .string
  | some z => ∃ e i, P.underlying t = some (.slice e) ∧ P.info? e = some i ∧ i.size = z

def MxV (m : Option Value) : Option Nat → Prop
  | none => m = none
  | some k => m.isSome = true ∧ BV m 0 k

theorem aslice_ok (h : Rel G B N st a w) {x : AV} {n l hh : Nat} {sz mx : Option Nat} (hn : lenA x = some n) {y : AV} (hx : aslice st.m sz x l hh mx = some y) {v : Value} (hv : Rep G x v) {t : TypeId}
    (ht : SlcTy P t sz) {lo hi m : Option Value} (hlo : BV lo 0 l) (hhi : BV hi n hh) (hm : MxV m mx) (hs : m.isSome = true → hi.isSome = true) :
    ∃ r, (Instr.sliceAt t v lo hi m).run P w = .ok r w ∧ Rep G y r := by
  cases sz with
  | none =>
    simp only [aslice] at hx
    cases x with
    | str s =>
      simp only at hx
      cases mx with
      | some k => simp at hx
      | none =>
        simp only at hx
        have hm' : m = none := hm
        subst hm'
        split at hx
        · rename_i hh2
          cases hx
          cases hv
          simp only [lenA, Option.some.injEq] at hn
          have hb := run_bounds (P := P) (w := w) false s.length s.length hlo (by rw [hn]; exact hhi) (mx := none) (.inl ⟨rfl, rfl⟩) (fun e => by cases e) hh2.1 hh2.2 (Nat.le_refl _)
          refine ⟨.string ⟨⟨(s.drop l).take (hh - l)⟩⟩, ?_, .str _⟩
          simp only [Instr.sliceAt, Sem.run_bind, run_underlying (show P.underlying t = some .string from ht), Result.andThen_ok, Instr.slice, Option.isSome_none, Bool.false_eq_true, if_false]
          have e : (ByteArray.size ⟨⟨s⟩⟩) = s.length := rfl
          rw [e, hb]
          simp only [Result.andThen_ok, Sem.run_pure, ByteArray.extract_mk]
        · cases hx
    | _ => simp at hx
  | some z =>
    obtain ⟨e, i, hte, hie, hiz⟩ := ht
    simp only [aslice] at hx
    -- the run at a slice
    have run : ∀ (A : Option Addr) (k cap m' : Nat), v = .slice A k cap → BV hi k hh → BV m cap m' → l ≤ hh → hh ≤ m' → m' ≤ cap →
        (Instr.sliceAt t v lo hi m).run P w = .ok (.slice (if m' = l then A else A.map (·.add (l * i.size))) (hh - l) (m' - l)) w := by
      intro A k cap m' hvv hhi' hm' h1 h2 h3
      subst hvv
      have hb := run_bounds (P := P) (w := w) true k cap hlo hhi' hm' hs h1 h2 h3
      simp only [Instr.sliceAt, Sem.run_bind, run_underlying hte, Result.andThen_ok, Instr.slice, hb, run_sizeOf hie, Sem.run_pure]
    cases x with
    | nils =>
      simp only at hx
      split at hx
      · rename_i hh2
        cases hx
        cases hv
        obtain ⟨rfl, rfl, hm0⟩ := hh2
        simp only [lenA, Option.some.injEq] at hn
        have hmb : BV m 0 0 := by
          cases mx with
          | none => exact .inl ⟨hm, rfl⟩
          | some k => simp at hm0; subst hm0; exact hm.2
        exact ⟨.slice none 0 0, run none 0 0 0 rfl (by subst hn; exact hhi) hmb (Nat.le_refl _) (Nat.le_refl _) (Nat.le_refl _), .nils⟩
      · cases hx
    | list xs =>
      simp only at hx
      split at hx
      · rename_i hh2
        cases hx
        obtain ⟨h1, h2, h3, h4⟩ := hh2
        simp only [lenA, Option.some.injEq] at hn
        cases hv with
        | list hc hz hf hl hst hn' hcap hmax =>
          rename_i cs A k cap sz'
          subst hn'
          have hmb : ∃ m', BV m cap m' ∧ hh ≤ m' ∧ m' ≤ cap := by
            cases mx with
            | none => exact ⟨cap, .inl ⟨hm, rfl⟩, by simp at h2; omega, Nat.le_refl _⟩
            | some k =>
              obtain ⟨hm1, hm2⟩ := hm
              rcases hm2 with ⟨e0, _⟩ | hm2
              · rw [e0] at hm1; cases hm1
              · exact ⟨k, .inr hm2, by simpa using h2, by simp at h3; omega⟩
          obtain ⟨m', hm', h5, h6⟩ := hmb
          refine ⟨_, run A xs.length cap m' rfl (by rw [hn]; exact hhi) hm' h1 h5 h6, ?_⟩
          refine Rep.sub hc hz hf hl hst l (hh - l) (m' - l) (by omega) (by omega) (by omega) (fun b o hpos hA => ?_)
          rw [if_neg (by omega), hA]
          simp only [Option.map_some, add_plain, Option.some.injEq, Addr.mk.injEq, and_true, true_and]
          rcases Nat.eq_zero_or_pos l with h0 | h0
          · subst h0; simp
          · have hall := h4.resolve_left (by omega)
            have hpos' : 0 < xs.length := by omega
            have e1 := hz (xs[0]'hpos') (List.getElem_mem _)
            have e2 := List.all_eq_true.1 hall (xs[0]'hpos') (List.getElem_mem _)
            simp only [beq_iff_eq] at e2
            rw [hiz, ← e2, e1]
      · cases hx
    | vec lv s g o k q =>
      simp only at hx
      split at hx
      · rename_i g' z' xs hlk
        split at hx
        · rename_i hh2
          cases hx
          obtain ⟨rfl, rfl, h1, h2, h3⟩ := hh2
          simp only [lenA, Option.some.injEq] at hn
          subst hn
          obtain ⟨e1, e2, e3, e4⟩ := h.mr.vec lv s g z xs hlk
          cases hv with
          | vec hone hg hh' =>
            rcases hh' e1.symm with ⟨hvm, rfl, rfl, rfl⟩ | ⟨b, A, c, hvm, hok, rfl, hkc, hcm, hq, hA⟩
            · have hl0 : l = 0 ∧ hh = 0 := by
                cases mx with
                | none => simp at h2; omega
                | some k' => simp at h2 h3; omega
              obtain ⟨rfl, rfl⟩ := hl0
              have hmb : BV m 0 0 := by
                cases mx with
                | none => exact .inl ⟨hm, rfl⟩
                | some k' => simp at h3; subst h3; exact hm.2
              refine ⟨.slice none 0 0, run none 0 0 0 rfl hhi hmb (Nat.le_refl _) (Nat.le_refl _) (Nat.le_refl _), .vec rfl (Nat.le_of_eq e1.symm) fun _ => .inl ⟨hvm, rfl, rfl, rfl⟩⟩
            · have hmb : ∃ m', BV m c m' ∧ hh ≤ m' ∧ m' ≤ c ∧ (mx = none → m' = c) := by
                cases mx with
                | none => exact ⟨c, .inl ⟨hm, rfl⟩, by simp at h2; omega, Nat.le_refl _, fun _ => rfl⟩
                | some k' =>
                  obtain ⟨hm1, hm2⟩ := hm
                  rcases hm2 with ⟨e0, _⟩ | hm2
                  · rw [e0] at hm1; cases hm1
                  · exact ⟨k', .inr hm2, by simpa using h2, by simp at h3; omega, fun e => by cases e⟩
              obtain ⟨m', hm', h5, h6, h7⟩ := hmb
              have hhk : hh ≤ k := by
                cases mx with
                | none => simpa using h2
                | some k' => simp at h2 h3; omega
              refine ⟨_, run (some A) k c m' rfl hhi hm' h1 h5 h6, ?_⟩
              refine .vec rfl (Nat.le_of_eq e1.symm) fun _ => .inr ⟨b, if m' = l then A else A.add (l * i.size), m' - l, hvm, by omega, by split <;> rfl, by omega, by omega, ?_, ?_⟩
              · intro hqq
                simp only [Bool.or_eq_false_iff] at hqq
                have hmn : mx = none := by cases mx <;> simp at hqq ⊢
                rw [h7 hmn, hq hqq.1]
                omega
              · rintro ⟨hlt, hqn⟩
                by_cases hml : m' = l
                · rw [if_pos hml]
                  have hqf : q = false ∧ mx = none := by
                    rcases hqn with hqn | hqn
                    · simp only [Bool.or_eq_false_iff] at hqn
                      exact ⟨hqn.1, by cases mx <;> simp at hqn ⊢⟩
                    · omega
                  have hc' := hq hqf.1
                  have hm'' := h7 hqf.2
                  have : l = 0 := by omega
                  subst this
                  have hA' := hA ⟨by omega, .inl hqf.1⟩
                  rw [hA']
                  simp
                · rw [if_neg hml, hA ⟨by omega, ?_⟩, add_plain, hiz, e2, Nat.add_mul]
                  rcases hqn with hqn | hqn
                  · simp only [Bool.or_eq_false_iff] at hqn
                    exact .inl hqn.1
                  · exact .inr (by omega)
        · cases hx
      · cases hx
    | _ => simp at hx


end

end Go.Proofs.Ytcmdlmcmefbkeaa.Am

/- Raw fields as bytes: what is read from bytes, and what is written (plain laws). -/
import Derived.Test.YtcmdlmcmefbkeaaUj
set_option linter.unusedSimpArgs false
namespace Go.Proofs.Ytcmdlmcmefbkeaa.Va
open Go Am Rc Bt Vp Cp Up

theorem vtk_short (i acc : Nat) (s : List UInt8) (k : Nat) (hk : k + i = 9) (h : (vtk i acc s).2.2 = 0) :
    ∃ v, (vtk i acc s).1 = acc + v * 128 ^ i ∧ i + (vput k v).length ≤ (vtk i acc s).2.1 := by
  induction s generalizing i acc k with
  | nil => simp [vtk] at h
  | cons c t ih =>
    unfold vtk at h ⊢
    split
    · rename_i h1; rw [if_pos h1] at h; cases h
    · rename_i h1
      rw [if_neg h1] at h
      split
      · rename_i h2
        exact ⟨c.toNat, rfl, by rw [vput_small _ _ h2]; exact Nat.le_refl _⟩
      · rename_i h2
        rw [if_neg h2] at h
        have h9 : i < 9 := by
          rcases Nat.lt_or_ge i 9 with h9 | h9
          · exact h9
          · exact absurd ⟨by omega, by omega⟩ h1
        obtain ⟨k, rfl⟩ : ∃ j, k = j + 1 := ⟨k - 1, by omega⟩
        obtain ⟨v, e, hv⟩ := ih (i + 1) _ k (by omega) h
        have hcl := c.toNat_lt
        refine ⟨(c.toNat - 128) + v * 128, ?_, ?_⟩
        · rw [e, Nat.pow_succ, Nat.add_mul, Nat.mul_comm (128 ^ i) 128, ← Nat.mul_assoc, Nat.add_assoc]
        · have h1v := (vput_len k v).1
          by_cases hs : c.toNat - 128 + v * 128 < 128
          · rw [vput_small _ _ hs]; simp; omega
          · rw [vput_big _ _ hs, show (c.toNat - 128 + v * 128) / 128 = v by omega, List.length_cons]; omega

theorem take_short (s : List UInt8) (h : (Vp.take s).2.2 = 0) : (Vp.put (Vp.take s).1).length ≤ (Vp.take s).2.1 := by
  obtain ⟨v, e, hv⟩ := vtk_short 0 0 s 9 rfl h
  have e : (Vp.take s).1 = v := by simpa [Vp.take] using e
  rw [e]; simpa [Vp.take, Vp.put] using hv

theorem take_append (s t : List UInt8) (h : (Vp.take s).2.2 = 0) : Vp.take (s ++ t) = Vp.take s :=
  vtk_append 0 0 s t (by rw [show (vtk 0 0 s).2.2 = 0 from h]; decide)

/-- A field that is read from bytes, and how many it took. -/
def rd (s : List UInt8) (tx : Int) : Option (R × Nat) :=
  let t := Vp.take s
  if t.2.2 ≠ 0 ∨ t.1 % 8 = 7 ∨ t.1 / 8 < 1 ∨ 65535 < t.1 / 8 then none
  else
    let s1 := s.drop t.2.1
    if t.1 % 8 = 2 then if s1.length < 8 then none else some (⟨(t.1 / 8 : Nat), (t.1 % 8 : Nat), fix8 s1, []⟩, t.2.1 + 8)
    else
      let b := Vp.take s1
      if b.2.2 ≠ 0 then none
      else if t.1 % 8 = 0 ∨ t.1 % 8 = 1 then some (⟨(t.1 / 8 : Nat), (t.1 % 8 : Nat), b.1, []⟩, t.2.1 + b.2.1)
      else if (s1.drop b.2.1).length < b.1 ∨ (if t.1 % 8 = 3 then tx else 65536) < (b.1 : Int) then none
      else some (⟨(t.1 / 8 : Nat), (t.1 % 8 : Nat), 0, (s1.drop b.2.1).take b.1⟩, t.2.1 + b.2.1 + b.1)

/-- What the limits ask of a field's text. -/
def fits (f : R) (tx : Int) : Prop := number f.wire = false → (f.data.length : Int) ≤ if f.wire = 3 then tx else 65536

theorem fix8_lt (s : List UInt8) : fix8 s < 2 ^ 64 := by
  have h1 := foldr_lt (s.take 8)
  have h2 : (256 : Nat) ^ (s.take 8).length ≤ 256 ^ 8 := Nat.pow_le_pow_right (by decide) (by simp; omega)
  have : (256 : Nat) ^ 8 = 2 ^ 64 := by decide
  unfold fix8
  omega

theorem tag_valid {n w : Nat} (h1 : ¬ n < 1) (h2 : ¬ 65535 < n) (h3 : w ≤ 6) : tag (n : Int) (w : Int) = (Vp.put (n * 8 + w), 0) := by
  unfold tag
  rw [if_neg (by omega)]
  congr 2

theorem rd_valid {s : List UInt8} {tx : Int} {f : R} {k : Nat} (h : rd s tx = some (f, k)) :
    valid f = true ∧ f.bits < 2 ^ 64 ∧ 0 < k ∧ k ≤ s.length ∧ (ptf f).length ≤ k ∧ fits f tx ∧ f.data.length ≤ k := by
  unfold rd at h
  simp only at h
  split at h
  · cases h
  · rename_i h0
    simp only [ne_eq, not_or, Decidable.not_not] at h0
    obtain ⟨ht, h7, hn1, hn2⟩ := h0
    obtain ⟨b1, b2, b3, b4⟩ := take_bounds s ht
    have hsh := take_short s ht
    generalize hT : Vp.take s = T at *
    obtain ⟨u, n, e⟩ := T
    simp only at *
    have hw : u % 8 ≤ 6 := by omega
    have htag := tag_valid hn1 hn2 hw
    rw [show u / 8 * 8 + u % 8 = u by omega] at htag
    split at h
    · rename_i h2
      split at h
      · cases h
      · rename_i h8
        simp only [Option.some.injEq, Prod.mk.injEq] at h
        obtain ⟨rfl, rfl⟩ := h
        have hnum : number ((u % 8 : Nat) : Int) = true := by rw [h2]; rfl
        have hv : valid ⟨(u / 8 : Nat), (u % 8 : Nat), fix8 (s.drop n), []⟩ = true := by
          simp only [valid, htag, hnum]; rfl
        rw [List.length_drop] at h8
        refine ⟨hv, fix8_lt _, by omega, by omega, ?_, ?_, by simp⟩
        · rw [ptf, if_pos hv]
          simp only [htag, body, List.length_append]
          rw [if_pos (by omega), fx_len]
          omega
        · intro hnn; simp only [hnum] at hnn; cases hnn
    · rename_i h2
      split at h
      · cases h
      · rename_i hb
        simp only [ne_eq, Decidable.not_not] at hb
        obtain ⟨c1, c2, c3, c4⟩ := take_bounds _ hb
        have hsb := take_short _ hb
        generalize hB : Vp.take (s.drop n) = B at *
        obtain ⟨v, m, e'⟩ := B
        simp only at *
        rw [List.length_drop] at c2
        split at h
        · rename_i h01
          simp only [Option.some.injEq, Prod.mk.injEq] at h
          obtain ⟨rfl, rfl⟩ := h
          have hnum : number ((u % 8 : Nat) : Int) = true := by rcases h01 with h | h <;> rw [h] <;> rfl
          have hv : valid ⟨(u / 8 : Nat), (u % 8 : Nat), v, []⟩ = true := by
            simp only [valid, htag, hnum]; rfl
          refine ⟨hv, c4, by omega, by omega, ?_, ?_, by simp⟩
          · rw [ptf, if_pos hv]
            simp only [htag, body, hnum, List.length_append]
            rw [if_neg (by omega)]
            simp only [if_true]
            omega
          · intro hnn; simp only [hnum] at hnn; cases hnn
        · rename_i h01
          rw [Option.ite_none_left_eq_some] at h
          obtain ⟨hl, h⟩ := h
          · simp only [not_or] at hl
            simp only [Option.some.injEq, Prod.mk.injEq] at h
            obtain ⟨rfl, rfl⟩ := h
            have hnum : number ((u % 8 : Nat) : Int) = false := by
              have : u % 8 = 3 ∨ u % 8 = 4 ∨ u % 8 = 5 ∨ u % 8 = 6 := by omega
              rcases this with h | h | h | h <;> rw [h] <;> rfl
            have hdl : (((s.drop n).drop m).take v).length = v := by rw [List.length_take]; omega
            have hll := hl.1
            rw [List.length_drop, List.length_drop] at hll
            have hv : valid ⟨(u / 8 : Nat), (u % 8 : Nat), 0, ((s.drop n).drop m).take v⟩ = true := by
              simp only [valid, htag, hnum]; rfl
            refine ⟨hv, Nat.two_pow_pos 64, by omega, by omega, ?_, ?_, by rw [hdl]; omega⟩
            · rw [ptf, if_pos hv]
              simp only [htag, body, hnum, List.length_append]
              rw [if_neg (by omega), if_neg (by simp), List.length_append, hdl]
              omega
            · intro _
              rw [hdl]
              have := hl.2
              simp only
              split
              · rename_i h3
                rw [if_pos (by omega)] at this; omega
              · rename_i h3
                rw [if_neg (by omega)] at this; omega

theorem rd_append {s : List UInt8} {tx : Int} {f : R} {k : Nat} (h : rd s tx = some (f, k)) (t : List UInt8) : rd (s ++ t) tx = some (f, k) := by
  unfold rd at h ⊢
  simp only at h ⊢
  rw [Option.ite_none_left_eq_some] at h
  obtain ⟨h0, h⟩ := h
  have ht : (Vp.take s).2.2 = 0 := by
    simp only [ne_eq, not_or, Decidable.not_not] at h0
    exact h0.1
  rw [take_append s t ht, if_neg h0]
  have hb := take_bounds s ht
  rw [List.drop_append_of_le_length (by omega)]
  split at h
  · rename_i h2
    rw [if_pos h2]
    rw [Option.ite_none_left_eq_some] at h
    obtain ⟨h8, h⟩ := h
    rw [if_neg (by simp only [List.length_append]; omega), ← h]
    unfold fix8
    rw [List.take_append_of_le_length (by omega)]
  · rename_i h2
    rw [if_neg h2]
    rw [Option.ite_none_left_eq_some] at h
    obtain ⟨hb0, h⟩ := h
    have hb0' : (Vp.take (s.drop (Vp.take s).2.1)).2.2 = 0 := by simpa using hb0
    have hb2 := take_bounds _ hb0'
    rw [take_append _ t hb0', if_neg hb0]
    split at h
    · rename_i h01
      rw [if_pos h01]; exact h
    · rename_i h01
      rw [if_neg h01]
      rw [Option.ite_none_left_eq_some] at h
      obtain ⟨hl, h⟩ := h
      rw [List.drop_append_of_le_length (by omega)]
      rw [if_neg (fun h => hl (h.imp (fun h => by simp only [List.length_append] at h; omega) id)), ← h]
      simp only [not_or] at hl
      rw [List.take_append_of_le_length (by omega)]

theorem rd_ptf {f : R} {tx : Int} (hv : valid f = true) (hb : f.bits < 2 ^ 64) (hd : f.data.length < 2 ^ 64) (hf : fits f tx) (t : List UInt8) : rd (ptf f ++ t) tx = some (f, (ptf f).length) := by
  obtain ⟨num, wire, bits, data⟩ := f
  have hv' := hv
  unfold valid at hv'
  simp only [Bool.and_eq_true, beq_iff_eq] at hv' hb hd
  obtain ⟨h1, h2⟩ := hv'
  have hr : ¬ (num < 1 ∨ 65535 < num ∨ wire < 0 ∨ 6 < wire) := fun h => by
    unfold tag at h1; rw [if_pos h] at h1; cases h1
  have htag : tag num wire = (Vp.put (num * 8 + wire).toNat, 0) := by unfold tag; rw [if_neg hr]
  simp only [not_or, Int.not_lt] at hr
  obtain ⟨n, rfl⟩ := Int.eq_ofNat_of_zero_le (show 0 ≤ num by omega)
  obtain ⟨w, rfl⟩ := Int.eq_ofNat_of_zero_le (show 0 ≤ wire by omega)
  rw [show ((n : Int) * 8 + (w : Int)).toNat = n * 8 + w by omega] at htag
  have hp : ptf ⟨n, w, bits, data⟩ = Vp.put (n * 8 + w) ++ body ⟨n, w, bits, data⟩ := by rw [ptf, if_pos hv]; simp only [htag]
  have htk : ∀ z, Vp.take (Vp.put (n * 8 + w) ++ z) = (n * 8 + w, (Vp.put (n * 8 + w)).length, 0) := fun z => take_put _ z (by omega)
  rw [hp, List.append_assoc]
  unfold rd
  simp only [htk, List.drop_left']
  rw [if_neg (by omega), show (n * 8 + w) % 8 = w by omega, show (n * 8 + w) / 8 = n by omega]
  by_cases w2 : w = 2
  · subst w2
    have hbo : body ⟨n, (2 : Nat), bits, data⟩ = fx 8 bits := by rw [body]; exact if_pos rfl
    have hda : data = [] := by simpa [number] using h2
    subst hda
    rw [if_pos rfl, hbo, if_neg (by simp only [List.length_append, fx_len]; omega), fix8_fx bits t hb, List.length_append, fx_len]
  · rw [if_neg w2]
    by_cases w01 : w = 0 ∨ w = 1
    · have hnum : number (w : Int) = true := by rcases w01 with h | h <;> rw [h] <;> rfl
      have hbo : body ⟨n, w, bits, data⟩ = Vp.put bits := by
        rw [body]; simp only [hnum]; rw [if_neg (by omega)]; simp
      have hda : data = [] := by simpa [hnum] using h2
      subst hda
      rw [hbo, take_put bits t hb]
      simp only [ne_eq, not_true_eq_false, if_false, w01, if_true, List.length_append]
    · have hnum : number (w : Int) = false := by
        have : w = 3 ∨ w = 4 ∨ w = 5 ∨ w = 6 := by omega
        rcases this with h | h | h | h <;> rw [h] <;> rfl
      have hbo : body ⟨n, w, bits, data⟩ = Vp.put data.length ++ data := by
        rw [body]; simp only [hnum]; rw [if_neg (by omega)]; simp
      have hbi : bits = 0 := by simpa [hnum] using h2
      subst hbi
      rw [hbo, List.append_assoc, take_put data.length _ hd]
      have hf' := hf hnum
      simp only at hf'
      simp only [ne_eq, not_true_eq_false, if_false, w01, List.drop_left', List.length_append]
      rw [if_neg, List.take_left', Nat.add_assoc]
      · rfl
      · simp only [not_or]
        refine ⟨by omega, ?_⟩
        split at hf'
        · rename_i h3
          rw [if_pos (by omega)]; omega
        · rename_i h3
          rw [if_neg (by omega)]; omega

end Go.Proofs.Ytcmdlmcmefbkeaa.Va

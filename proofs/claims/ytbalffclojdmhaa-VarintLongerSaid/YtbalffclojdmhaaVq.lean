/- A varint with zero groups at its end: plain laws. -/
import Derived.Test.YtbalffclojdmhaaVp
namespace Go.Proofs.Ytbalffclojdmhaa.Vp

/-- The end of the longer form. -/
def zend (m : Nat) : List UInt8 := List.replicate m 128 ++ [0]

theorem zend_len (m : Nat) : (zend m).length = m + 1 := by simp [zend]

/-- The longer form. -/
def vlong : Nat → Nat → Nat → List UInt8
  | 0, u, m => UInt8.ofNat (u + 128) :: zend m
  | k + 1, u, m => if u < 128 then UInt8.ofNat (u + 128) :: zend m else UInt8.ofNat (u % 128 + 128) :: vlong k (u / 128) m

theorem vlong_small (k u m : Nat) (h : u < 128) : vlong k u m = UInt8.ofNat (u + 128) :: zend m := by
  cases k <;> simp [vlong, h]

theorem vlong_big (k u m : Nat) (h : ¬ u < 128) : vlong (k + 1) u m = UInt8.ofNat (u % 128 + 128) :: vlong k (u / 128) m := by
  simp [vlong, h]

theorem vtk_zend (m : Nat) : ∀ (i acc : Nat), i ≤ 9 → vtk i acc (zend m) = if i + m ≤ 9 then (acc, i + m + 1, 0) else (0, 0, 6) := by
  induction m with
  | zero =>
    intro i acc hi
    rw [show zend 0 = [0] from rfl, vtk, if_neg (by simp), if_pos (by decide), if_pos (by omega)]
    simp
  | succ m ih =>
    intro i acc hi
    rw [show zend (m + 1) = 128 :: zend m by simp [zend, List.replicate_succ], vtk]
    have h8 : (128 : UInt8).toNat = 128 := rfl
    by_cases h9 : i = 9
    · rw [if_pos ⟨h9, by rw [h8]; omega⟩, if_neg (by omega)]
    · rw [if_neg (by omega), if_neg (by rw [h8]; omega), ih (i + 1) _ (by omega), h8]
      simp only [Nat.sub_self, Nat.zero_mul, Nat.add_zero]
      by_cases h : i + (m + 1) ≤ 9
      · rw [if_pos h, if_pos (by omega)]
        simp only [Prod.mk.injEq, true_and, and_true]
        omega
      · rw [if_neg h, if_neg (by omega)]

theorem vtk_vlong (k i acc u m : Nat) (hk : k + i = 9) (hu : u < room i) :
    vtk i acc (vlong k u m) = if i + (vput k u).length + m ≤ 9 then (acc + u * 128 ^ i, i + (vput k u).length + m + 1, 0) else (0, 0, 6) := by
  induction k generalizing i acc u with
  | zero =>
    obtain rfl : i = 9 := by omega
    have hu2 : u < 2 := by simpa [room] using hu
    have hc := toNat_ofNat (u + 128) (by omega)
    rw [vlong, vtk, hc, if_pos ⟨rfl, by omega⟩, if_neg (by simp [vput]; omega)]
  | succ k ih =>
    by_cases h : u < 128
    · have hc := toNat_ofNat (u + 128) (by omega)
      rw [vlong_small _ _ _ h, vput_small _ _ h]
      simp only [vtk, hc]
      rw [if_neg (by omega), if_neg (by omega), vtk_zend m _ _ (by omega), Nat.add_sub_cancel]
      rfl
    · have hc := toNat_ofNat (u % 128 + 128) (by omega)
      rw [vlong_big _ _ _ h, vput_big _ _ h]
      simp only [vtk, hc]
      rw [if_neg (by omega), if_neg (by omega), ih (i + 1) _ (u / 128) (by omega) (room_succ i u (by omega) hu)]
      have e : acc + (u % 128 + 128 - 128) * 128 ^ i + u / 128 * 128 ^ (i + 1) = acc + u * 128 ^ i := by
        rw [Nat.pow_succ, Nat.add_sub_cancel, Nat.add_assoc, Nat.mul_comm (128 ^ i) 128, ← Nat.mul_assoc, ← Nat.add_mul]
        congr 2; omega
      rw [e, List.length_cons]
      have e2 : i + 1 + (vput k (u / 128)).length = i + ((vput k (u / 128)).length + 1) := by omega
      rw [e2]

/-- The longer form is the varint with its last byte marked, and the end. -/
theorem vlong_set (k i u m : Nat) (hk : k + i = 9) (hu : u < room i) :
    ∃ c, (vput k u)[(vput k u).length - 1]? = some c ∧ c.toNat < 128 ∧ (vput k u).set ((vput k u).length - 1) (UInt8.ofNat (c.toNat + 128)) ++ zend m = vlong k u m := by
  induction k generalizing i u with
  | zero =>
    obtain rfl : i = 9 := by omega
    have hu2 : u < 2 := by simpa [room] using hu
    exact ⟨UInt8.ofNat u, rfl, by rw [toNat_ofNat _ (by omega)]; omega, by rw [toNat_ofNat _ (by omega)]; rfl⟩
  | succ k ih =>
    by_cases h : u < 128
    · rw [vlong_small _ _ _ h, vput_small _ _ h]
      exact ⟨UInt8.ofNat u, rfl, by rw [toNat_ofNat _ (by omega)]; omega, by rw [toNat_ofNat _ (by omega)]; rfl⟩
    · rw [vlong_big _ _ _ h, vput_big _ _ h]
      obtain ⟨c, h1, h2, h3⟩ := ih (i + 1) (u / 128) (by omega) (room_succ i u (by omega) hu)
      have hl := (vput_len k (u / 128)).1
      obtain ⟨n, hn⟩ : ∃ n, (vput k (u / 128)).length = n + 1 := ⟨(vput k (u / 128)).length - 1, by omega⟩
      rw [hn] at h1 h3
      refine ⟨c, ?_, h2, ?_⟩
      · rw [List.length_cons, hn]; simpa using h1
      · rw [List.length_cons, hn]
        simp only [Nat.add_sub_cancel, List.set_cons_succ, List.cons_append] at h3 ⊢
        rw [h3]

/-- Without its last byte it is cut off. -/
theorem vtk_cut (k i acc u : Nat) (hk : k + i = 9) (hu : u < room i) : vtk i acc ((vput k u).take ((vput k u).length - 1)) = (0, 0, 4) := by
  induction k generalizing i acc u with
  | zero => rfl
  | succ k ih =>
    by_cases h : u < 128
    · rw [vput_small _ _ h]; rfl
    · have hc := toNat_ofNat (u % 128 + 128) (by omega)
      rw [vput_big _ _ h]
      have hl := (vput_len k (u / 128)).1
      obtain ⟨n, hn⟩ : ∃ n, (vput k (u / 128)).length = n + 1 := ⟨(vput k (u / 128)).length - 1, by omega⟩
      have := ih (i + 1) (acc + (u % 128 + 128 - 128) * 128 ^ i) (u / 128) (by omega) (room_succ i u (by omega) hu)
      rw [hn] at this
      rw [List.length_cons, hn, Nat.add_sub_cancel, List.take_succ_cons, vtk, hc, if_neg (by omega), if_neg (by omega)]
      exact this

theorem take_cut (u : Nat) (h : u < 2 ^ 64) : take ((put u).take ((put u).length - 1)) = (0, 0, 4) :=
  vtk_cut 9 0 0 u rfl (by simpa [room] using h)

theorem long_set (u m : Nat) (h : u < 2 ^ 64) : ∃ c, (put u)[(put u).length - 1]? = some c ∧ c.toNat < 128 ∧ (put u).set ((put u).length - 1) (UInt8.ofNat (c.toNat + 128)) ++ zend m = vlong 9 u m :=
  vlong_set 9 0 u m rfl (by simpa [room] using h)

theorem take_long (u m : Nat) (h : u < 2 ^ 64) : take (vlong 9 u m) = if (put u).length + m ≤ 9 then (u, (put u).length + m + 1, 0) else (0, 0, 6) := by
  have := vtk_vlong 9 0 0 u m rfl (by simpa [room] using h)
  simp only [Nat.zero_add, Nat.pow_zero, Nat.mul_one] at this
  exact this

theorem long_len (u m : Nat) (h : u < 2 ^ 64) : (vlong 9 u m).length = (put u).length + m + 1 := by
  obtain ⟨c, _, _, h3⟩ := long_set u m h
  rw [← h3, List.length_append, List.length_set, zend_len]; rfl

theorem short_long (u m : Nat) (h : u < 2 ^ 64) : short (vlong 9 u m) = false := by
  have ht := take_long u m h
  have hl := long_len u m h
  unfold short
  rw [ht]
  split
  · have : put u ≠ vlong 9 u m := fun he => by
      have := congrArg List.length he
      rw [hl] at this; omega
    simp [this]
  · rfl

end Go.Proofs.Ytbalffclojdmhaa.Vp

/- Plain laws of varints: lists of bytes and numbers, no program in sight. -/
namespace Go.Proofs.Ytcmdlmcmefbkeaa.Vp

/-- The varint of u, of at most k + 1 groups. -/
def vput : Nat → Nat → List UInt8
  | 0, u => [UInt8.ofNat u]
  | k + 1, u => if u < 128 then [UInt8.ofNat u] else UInt8.ofNat (u % 128 + 128) :: vput k (u / 128)

def put (u : Nat) : List UInt8 := vput 9 u

/-- Reading a varint: the i-th byte is next, acc has been read. The number, the length, the error. -/
def vtk : Nat → Nat → List UInt8 → Nat × Nat × Nat
  | _, _, [] => (0, 0, 4)
  | i, acc, c :: t =>
    if i = 9 ∧ 1 < c.toNat then (0, 0, 6)
    else if c.toNat < 128 then (acc + c.toNat * 128 ^ i, i + 1, 0)
    else vtk (i + 1) (acc + (c.toNat - 128) * 128 ^ i) t

def take (s : List UInt8) : Nat × Nat × Nat := vtk 0 0 s

theorem toNat_ofNat (n : Nat) (h : n < 256) : (UInt8.ofNat n).toNat = n := by
  simp [UInt8.toNat_ofNat']; omega

theorem vput_ne (k u : Nat) : vput k u ≠ [] := by
  cases k with
  | zero => simp [vput]
  | succ k => unfold vput; split <;> simp

theorem vput_len (k u : Nat) : 1 ≤ (vput k u).length ∧ (vput k u).length ≤ k + 1 := by
  induction k generalizing u with
  | zero => simp [vput]
  | succ k ih =>
    unfold vput
    split
    · simp
    · have := ih (u / 128); simp; omega

theorem put_len (u : Nat) : 1 ≤ (put u).length ∧ (put u).length ≤ 10 := vput_len 9 u

theorem vput_small (k u : Nat) (h : u < 128) : vput k u = [UInt8.ofNat u] := by
  cases k <;> simp [vput, h]

theorem vput_big (k u : Nat) (h : ¬ u < 128) : vput (k + 1) u = UInt8.ofNat (u % 128 + 128) :: vput k (u / 128) := by
  simp [vput, h]

theorem vput_mono (k u v : Nat) (h : u ≤ v) : (vput k u).length ≤ (vput k v).length := by
  induction k generalizing u v with
  | zero => simp [vput]
  | succ k ih =>
    by_cases hu : u < 128
    · rw [vput_small _ _ hu]; exact (vput_len (k + 1) v).1
    · have hv : ¬ v < 128 := by omega
      rw [vput_big _ _ hu, vput_big _ _ hv]
      have := ih (u / 128) (v / 128) (by omega)
      simp; omega

/-- More groups allowed than needed: the same varint. -/
theorem vput_more (k j u : Nat) (h : u < 128 ^ (k + 1)) (hj : k ≤ j) : vput j u = vput k u := by
  induction k generalizing j u with
  | zero =>
    have hu : u < 128 := by simpa using h
    rw [vput_small _ _ hu, vput_small _ _ hu]
  | succ k ih =>
    obtain ⟨j, rfl⟩ : ∃ i, j = i + 1 := ⟨j - 1, by omega⟩
    by_cases hu : u < 128
    · rw [vput_small _ _ hu, vput_small _ _ hu]
    · rw [vput_big _ _ hu, vput_big _ _ hu, ih j (u / 128) _ (by omega)]
      rw [Nat.pow_succ] at h
      omega

/-- The bound of what the groups from the i-th on can hold. -/
def room (i : Nat) : Nat := 2 ^ (64 - 7 * i)

theorem room_succ (i u : Nat) (hi : i < 9) (h : u < room i) : u / 128 < room (i + 1) := by
  unfold room at *
  have e : 64 - 7 * i = (64 - 7 * (i + 1)) + 7 := by omega
  rw [e, Nat.pow_add] at h
  omega

theorem vtk_put (k i acc u : Nat) (t : List UInt8) (hk : k + i = 9) (hu : u < room i) :
    vtk i acc (vput k u ++ t) = (acc + u * 128 ^ i, i + (vput k u).length, 0) := by
  induction k generalizing i acc u with
  | zero =>
    obtain rfl : i = 9 := by omega
    have hu2 : u < 2 := by simpa [room] using hu
    have hc := toNat_ofNat u (by omega)
    simp only [vput, List.cons_append, List.nil_append, vtk, hc]
    rw [if_neg (by omega), if_pos (by omega)]
    rfl
  | succ k ih =>
    by_cases h : u < 128
    · have hc := toNat_ofNat u (by omega)
      rw [vput_small _ _ h]
      simp only [List.cons_append, List.nil_append, vtk, hc]
      rw [if_neg (by omega), if_pos h]
      rfl
    · have hc := toNat_ofNat (u % 128 + 128) (by omega)
      rw [vput_big _ _ h]
      simp only [List.cons_append, vtk, hc]
      rw [if_neg (by omega), if_neg (by omega), ih (i + 1) _ (u / 128) (by omega) (room_succ i u (by omega) hu)]
      have e : acc + (u % 128 + 128 - 128) * 128 ^ i + u / 128 * 128 ^ (i + 1) = acc + u * 128 ^ i := by
        rw [Nat.pow_succ, Nat.add_sub_cancel, Nat.add_assoc, Nat.mul_comm (128 ^ i) 128, ← Nat.mul_assoc, ← Nat.add_mul]
        congr 2; omega
      rw [e]
      simp only [List.length_cons, Prod.mk.injEq, true_and, and_true]
      omega

theorem take_put (u : Nat) (t : List UInt8) (h : u < 2 ^ 64) : take (put u ++ t) = (u, (put u).length, 0) := by
  have := vtk_put 9 0 0 u t rfl (by simpa [room] using h)
  simpa [take, put] using this

theorem vtk_err (i acc : Nat) (s : List UInt8) : (vtk i acc s).2.2 = 0 ∨ (vtk i acc s).2.2 = 4 ∨ (vtk i acc s).2.2 = 6 := by
  induction s generalizing i acc with
  | nil => simp [vtk]
  | cons c t ih =>
    unfold vtk
    split
    · simp
    · split
      · simp
      · exact ih _ _

theorem vtk_zero (i acc : Nat) (s : List UInt8) (h : (vtk i acc s).2.2 ≠ 0) : (vtk i acc s).1 = 0 ∧ (vtk i acc s).2.1 = 0 := by
  induction s generalizing i acc with
  | nil => simp [vtk]
  | cons c t ih =>
    unfold vtk at h ⊢
    split
    · simp
    · rename_i h1
      rw [if_neg h1] at h
      split
      · rename_i h2; simp [h2] at h
      · rename_i h2
        rw [if_neg h2] at h
        exact ih _ _ h

/-- How far a number reads, and its bounds. -/
theorem vtk_bounds (i acc : Nat) (s : List UInt8) (hi : i ≤ 9) (ha : acc < 128 ^ i) (h : (vtk i acc s).2.2 = 0) :
    i < (vtk i acc s).2.1 ∧ (vtk i acc s).2.1 ≤ i + s.length ∧ (vtk i acc s).2.1 ≤ 10 ∧ (vtk i acc s).1 < 2 ^ 64 := by
  induction s generalizing i acc with
  | nil => simp [vtk] at h
  | cons c t ih =>
    unfold vtk at h ⊢
    split
    · rename_i h1; rw [if_pos h1] at h; simp at h
    · rename_i h1
      rw [if_neg h1] at h
      have hp : 128 ^ i = 2 ^ (7 * i) := by rw [show (128 : Nat) = 2 ^ 7 from rfl, ← Nat.pow_mul]
      split
      · rename_i h2
        refine ⟨Nat.lt_succ_self i, by simp, by show i + 1 ≤ 10; omega, ?_⟩
        show acc + c.toNat * 128 ^ i < 2 ^ 64
        rcases Nat.lt_or_ge i 9 with h9 | h9
        · have : c.toNat * 128 ^ i ≤ 127 * 128 ^ i := Nat.mul_le_mul_right _ (by omega)
          have h3 : acc + c.toNat * 128 ^ i < 128 ^ (i + 1) := by rw [Nat.pow_succ]; omega
          have h4 : 128 ^ (i + 1) ≤ 128 ^ 9 := Nat.pow_le_pow_right (by omega) (by omega)
          omega
        · obtain rfl : i = 9 := by omega
          have : c.toNat ≤ 1 := by omega
          omega
      · rename_i h2
        rw [if_neg h2] at h
        have h9 : i < 9 := by
          rcases Nat.lt_or_ge i 9 with h9 | h9
          · exact h9
          · exact absurd ⟨by omega, by omega⟩ h1
        have hc := c.toNat_lt
        have h3 : acc + (c.toNat - 128) * 128 ^ i < 128 ^ (i + 1) := by
          have : (c.toNat - 128) * 128 ^ i ≤ 127 * 128 ^ i := Nat.mul_le_mul_right _ (by omega)
          rw [Nat.pow_succ]; omega
        obtain ⟨a, b, d, e⟩ := ih (i + 1) _ (by omega) h3 h
        exact ⟨by omega, by simp; omega, d, e⟩

theorem take_bounds (s : List UInt8) (h : (take s).2.2 = 0) : 0 < (take s).2.1 ∧ (take s).2.1 ≤ s.length ∧ (take s).2.1 ≤ 10 ∧ (take s).1 < 2 ^ 64 := by
  have := vtk_bounds 0 0 s (by omega) (by omega) h
  simpa [take] using this

/-- What is read does not depend on what follows the bytes that were read. -/
theorem vtk_append (i acc : Nat) (s t : List UInt8) (h : (vtk i acc s).2.2 ≠ 4) : vtk i acc (s ++ t) = vtk i acc s := by
  induction s generalizing i acc with
  | nil => simp [vtk] at h
  | cons c r ih =>
    simp only [List.cons_append]
    unfold vtk at h ⊢
    split
    · rfl
    · rename_i h1
      rw [if_neg h1] at h
      split
      · rfl
      · rename_i h2
        rw [if_neg h2] at h
        exact ih _ _ h

/-- Ten bytes are enough. -/
theorem vtk_ten (i acc : Nat) (s : List UInt8) (hi : i ≤ 9) (hl : 10 ≤ i + s.length) : (vtk i acc s).2.2 ≠ 4 := by
  induction s generalizing i acc with
  | nil => simp at hl; omega
  | cons c r ih =>
    unfold vtk
    split
    · simp
    · rename_i h1
      split
      · simp
      · rename_i h2
        exact ih _ _ (by omega) (by simp at hl; omega)

theorem take_take (s : List UInt8) : take (s.take 10) = take s := by
  rcases Nat.lt_or_ge s.length 10 with h | h
  · rw [List.take_of_length_le (by omega)]
  · have := vtk_append 0 0 (s.take 10) (s.drop 10) (vtk_ten 0 0 _ (by omega) (by simp; omega))
    rw [List.take_append_drop] at this
    exact this.symm

/-- All bytes read: the number's groups; zero only if the last byte is; the shortest form only if the last byte is not zero (or the only one). -/
theorem vtk_all (i acc : Nat) (s : List UInt8) (k : Nat) (hk : k + i = 9) (h : (vtk i acc s).2.2 = 0) (hn : (vtk i acc s).2.1 = i + s.length) :
    ∃ v, (vtk i acc s).1 = acc + v * 128 ^ i ∧ (v = 0 → s.getLast? = some 0) ∧ (s.length = 1 → s.getLast? = some (UInt8.ofNat v) ∧ v < 128) ∧
      (vput k v = s ↔ (s.length = 1 ∨ s.getLast? ≠ some 0)) := by
  induction s generalizing i acc k with
  | nil => simp [vtk] at h
  | cons c t ih =>
    unfold vtk at h hn ⊢
    split
    · rename_i h1; rw [if_pos h1] at h; simp at h
    · rename_i h1
      rw [if_neg h1] at h hn
      split
      · rename_i h2
        rw [if_pos h2] at hn
        have ht : t = [] := by
          have : t.length = 0 := by
            have hn' : i + 1 = i + (t.length + 1) := hn
            omega
          exact List.eq_nil_of_length_eq_zero this
        subst ht
        have hc : UInt8.ofNat c.toNat = c := by simp
        refine ⟨c.toNat, rfl, fun h0 => by simp; exact UInt8.toNat.inj (by simpa using h0), fun _ => ⟨by simp, h2⟩, ?_⟩
        rw [vput_small _ _ h2, hc]
        simp
      · rename_i h2
        rw [if_neg h2] at h hn
        have h9 : i < 9 := by
          rcases Nat.lt_or_ge i 9 with h9 | h9
          · exact h9
          · exact absurd ⟨by omega, by omega⟩ h1
        obtain ⟨k, rfl⟩ : ∃ j, k = j + 1 := ⟨k - 1, by omega⟩
        obtain ⟨v, e, z, one, sh⟩ := ih (i + 1) _ k (by omega) h (by rw [hn, List.length_cons]; omega)
        have hcl := c.toNat_lt
        have htn : t ≠ [] := by rintro rfl; simp [vtk] at h
        have hlast : (c :: t).getLast? = t.getLast? := by
          cases t with
          | nil => exact absurd rfl htn
          | cons d t => simp
        have hlen : (c :: t).length ≠ 1 := by
          cases t with
          | nil => exact absurd rfl htn
          | cons d t => simp
        refine ⟨(c.toNat - 128) + v * 128, ?_, ?_, fun hl => absurd hl hlen, ?_⟩
        · rw [e, Nat.pow_succ, Nat.add_mul, Nat.mul_comm (128 ^ i) 128, ← Nat.mul_assoc, Nat.add_assoc]
        · intro h0; rw [hlast]; exact z (by omega)
        · rw [hlast]
          simp only [hlen, false_or]
          by_cases hv : v = 0
          · have := z hv
            rw [vput_small _ _ (by omega), this]
            simp
            intro _
            exact htn
          · rw [vput_big _ _ (by omega)]
            have e1 : (c.toNat - 128 + v * 128) % 128 + 128 = c.toNat := by omega
            have e2 : (c.toNat - 128 + v * 128) / 128 = v := by omega
            rw [e1, e2]
            have hc : UInt8.ofNat c.toNat = c := by simp
            rw [hc]
            simp only [List.cons.injEq, true_and]
            rw [sh]
            constructor
            · rintro (h1 | h1)
              · obtain ⟨hl, hv'⟩ := one h1
                rw [hl]
                intro h0
                simp at h0
                have := congrArg UInt8.toNat h0
                rw [toNat_ofNat _ (by omega)] at this
                exact hv this
              · exact h1
            · exact fun h1 => .inr h1

theorem put_take (s : List UInt8) (h : (take s).2.2 = 0) (hn : (take s).2.1 = s.length) : put (take s).1 = s ↔ (s.length = 1 ∨ s.getLast? ≠ some 0) := by
  obtain ⟨v, e, _, _, sh⟩ := vtk_all 0 0 s 9 rfl h (by simpa [take] using hn)
  have : (take s).1 = v := by simpa [take] using e
  rw [this]; exact sh

/-- The shortest form. -/
def short (s : List UInt8) : Bool := (take s).2.2 == 0 && (take s).2.1 == s.length && decide (put (take s).1 = s)

theorem short_put (u : Nat) (h : u < 2 ^ 64) : short (put u) = true := by
  have := take_put u [] h
  rw [List.append_nil] at this
  simp [short, this]

/-- What the law says of any bytes. -/
theorem round_trip (u : Nat) (s : List UInt8) (h : u < 2 ^ 64) (hp : put (take s).1 = put u) : short s = decide (s = put u) := by
  by_cases hs : s = put u
  · subst hs; rw [short_put u h]; simp
  · have : short s = false := by
      cases hsh : short s with
      | false => rfl
      | true =>
        simp [short] at hsh
        exact absurd (hsh.2.symm.trans hp) hs
    rw [this]; simp [hs]

end Go.Proofs.Ytcmdlmcmefbkeaa.Vp

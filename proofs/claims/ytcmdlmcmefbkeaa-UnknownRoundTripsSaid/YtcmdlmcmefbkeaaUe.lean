/- Raw fields: all of some bytes. -/
import Derived.Test.YtcmdlmcmefbkeaaUd
set_option linter.unusedSimpArgs false
namespace Go.Proofs.Ytcmdlmcmefbkeaa.Va
open Go Am Rc Bt Vp Cp Up

/-- The fields from a cursor on (at most so many), or the first error. -/
def sg : Nat → C → List R × Nat
  | 0, _ => ([], 0)
  | k + 1, c =>
    if 0 < c.left then
      let r := nxt c
      if r.2.2 = 0 then
        let t := sg k r.2.1
        if t.2 = 0 then (r.1 :: t.1, 0) else ([], t.2)
      else ([], r.2.2)
    else ([], 0)

def scan (s : List UInt8) (l : L) : List R × Nat :=
  let o := opn s l
  if o.2 = 0 then sg s.length o.1 else ([], o.2)

def rsv (l : List R) : List AV := l.map R.av
def scv (r : List R × Nat) : AV := .tup [.list (rsv r.1), .int .i64 (r.2 : Nat)]

theorem rsv_append (a b : List R) : rsv (a ++ b) = rsv a ++ rsv b := by simp [rsv]
theorem rsv_len (a : List R) : (rsv a).length = a.length := by simp [rsv]

/-- What a step of reading does to a cursor: it moves on; the limits of depth and text stand. -/
theorem fixed_next {c : C} (hl : c.d.length ≤ 9223372036854775807) (h : c.fixed.2.2 = 0) : c.sound = true ∧ 8 ≤ c.left ∧ c.fixed.2.1 = { c with a := c.a + 8 } ∧ c.fixed.1 < 2 ^ 64 := by
  unfold C.fixed at h ⊢
  split at h
  · cases h
  · rename_i hr
    have hne : c.rest ≠ [] := by intro e; rw [e] at hr; simp at hr
    have hs := rest_snd hne
    have hs' := (C.sound_iff c).1 hs
    have hle := c.rest_len
    rw [if_pos hs] at hle
    have h8 : 8 ≤ c.left := by unfold C.left; omega
    have hw : IntKind.i64.wrap (c.a + 8) = c.a + 8 := by rw [wi64]; omega
    refine ⟨hs, h8, ?_, ?_⟩
    · rw [if_neg hr]; simp only [C.ahead, hw]
    · rw [if_neg hr]
      have h1 := foldr_lt (c.rest.take 8)
      rw [List.length_take, Nat.min_eq_left (by omega)] at h1
      have : (256 : Nat) ^ 8 = 2 ^ 64 := by decide
      show fix8 c.rest < 2 ^ 64
      unfold fix8
      omega

/-- A step of reading moves on within the data. -/
structure Step (c d : C) : Prop where
  n : ∃ k : Nat, d = { c with a := c.a + k, nd := d.nd } ∧ 0 < k ∧ (k : Int) ≤ c.left
  sound : c.sound = true

theorem Step.left {c d : C} (h : Step c d) : d.sound = true ∧ d.left < c.left ∧ 0 ≤ d.left ∧ d.d = c.d ∧ d.left = c.left - (d.a - c.a) := by
  obtain ⟨⟨k, h1, h2, h3⟩, h4⟩ := h
  have hs := (C.sound_iff c).1 h4
  have hc := c.rest_len
  rw [if_pos h4] at hc
  have e1 : d.a = c.a + k := by rw [h1]
  have e2 : d.e = c.e := by rw [h1]
  have e3 : d.d = c.d := by rw [h1]
  have hd : d.sound = true := by
    rw [C.sound_iff, e1, e2, e3]
    omega
  have hdl := d.rest_len
  rw [if_pos hd] at hdl
  exact ⟨hd, by omega, by omega, e3, by omega⟩

theorem nxt_step {c : C} (hl : c.d.length ≤ 9223372036854770000) (h : (nxt c).2.2 = 0) : Step c (nxt c).2.1 := by
  unfold nxt at h ⊢
  simp only at h ⊢
  split at h
  · rename_i ht
    split at h
    · rename_i hs
      split at h
      · rename_i hk
        rw [if_pos ht, if_pos hs, if_pos hk]
        -- the tag
        unfold takeTag at ht hs hk ⊢
        simp only at ht hs hk ⊢
        split at ht
        · rename_i hv
          rw [if_pos hv] at hs hk ⊢
          split at ht
          · cases ht
          · rename_i h7
            rw [if_neg h7] at hs hk ⊢
            split at ht
            · cases ht
            · rename_i h8
              rw [if_neg h8] at hs hk ⊢
              simp only at hs hk ⊢
              obtain ⟨n, g1, g2, g3, g4, g5, g6, g7⟩ := varint_next (c := c) (by omega) hv
              rw [g4] at hs hk ⊢
              have hsc := (C.sound_iff c).1 g5
              have hcl := c.rest_len
              rw [if_pos g5] at hcl
              -- the value spent
              unfold C.spend at hs hk ⊢
              split at hs
              · cases hs
              · rename_i s1
                rw [if_neg s1] at hk ⊢
                split at hs
                · cases hs
                · rename_i s2
                  rw [if_neg s2] at hk ⊢
                  simp only at hk ⊢
                  generalize hd : ({ d := c.d, a := c.a + n, e := c.e, dp := c.dp, nd := IntKind.i64.wrap (c.nd - 1), tx := c.tx } : C) = d at hk ⊢
                  have q1 : d.d = c.d := by rw [← hd]
                  have q2 : d.a = c.a + n := by rw [← hd]
                  have q3 : d.e = c.e := by rw [← hd]
                  have q4 : d.dp = c.dp := by rw [← hd]
                  have q5 : d.tx = c.tx := by rw [← hd]
                  have hdl : d.left ≤ c.left - n := by
                    have := d.rest_len
                    split at this
                    · omega
                    · omega
                  have mk : ∀ (d' : C) (j : Nat), d' = { d with a := d.a + j } → (j : Int) ≤ d.left → Step c d' := by
                    intro d' j e hj
                    refine ⟨⟨n + j, ?_, by omega, by omega⟩, g5⟩
                    rw [e]
                    obtain ⟨_, _, _, _, _, _⟩ := d
                    simp only at q1 q2 q3 q4 q5
                    subst q1 q2 q3 q4 q5
                    simp only [C.mk.injEq, true_and, and_true]
                    omega
                  -- the contents
                  unfold cont at hk ⊢
                  split at hk
                  · rename_i w2
                    rw [if_pos w2]
                    obtain ⟨f1, f2, f3, f4⟩ := fixed_next (c := d) (by rw [q1]; omega) hk
                    exact mk _ 8 f3 f2
                  · rename_i w2
                    rw [if_neg w2]
                    split at hk
                    · rename_i w1
                      rw [if_pos w1]
                      obtain ⟨j, f1, f2, f3, f4, f5, f6, f7⟩ := varint_next (c := d) (by rw [q1]; omega) hk
                      exact mk _ j f4 f3
                    · rename_i w1
                      rw [if_neg w1]
                      simp only at hk ⊢
                      unfold dat at hk ⊢
                      simp only at hk ⊢
                      split at hk
                      · rename_i hv2
                        rw [if_pos hv2]
                        by_cases hu : d.varint.2.1.left < (d.varint.1 : Int)
                        · rw [if_pos hu] at hk; cases hk
                        · rw [if_neg hu] at hk ⊢
                          by_cases hm : (if ((c.varint.1 % 8 : Nat) : Int) = 3 then d.tx else 65536) < (d.varint.1 : Int)
                          · rw [if_pos hm] at hk; cases hk
                          · rw [if_neg hm]
                            obtain ⟨j, f1, f2, f3, f4, f5, f6, f7⟩ := varint_next (c := d) (by rw [q1]; omega) hv2
                            have hs2 := (C.sound_iff d).1 f5
                            have hl2 := d.rest_len
                            rw [if_pos f5] at hl2
                            have hl3 := d.varint.2.1.rest_len
                            rw [if_pos f6, f4] at hl3
                            rw [f4] at hu
                            simp only at hl3
                            have hdl' : (d.d.length : Int) = c.d.length := by rw [q1]
                            have hw : IntKind.i64.wrap (d.a + (j : Int) + (d.varint.1 : Int)) = d.a + j + d.varint.1 := by
                              rw [wi64]
                              omega
                            refine mk _ (j + d.varint.1) ?_ (by omega)
                            rw [f4]
                            simp only [C.ahead, hw, C.mk.injEq, true_and, and_true]
                            omega
                      · rename_i hv2; exact absurd hk hv2
        · rename_i hv; exact absurd ht hv
      · rename_i hk; exact absurd h hk
    · rename_i hs; exact absurd h hs
  · rename_i ht; exact absurd h ht

end Go.Proofs.Ytcmdlmcmefbkeaa.Va

/- Raw fields: reading at a cursor is reading from the bytes that are left. -/
import Derived.Test.YtcmdlmcmefbkeaaUq
set_option linter.unusedSimpArgs false
namespace Go.Proofs.Ytcmdlmcmefbkeaa.Va
open Go Am Rc Bt Vp Cp Up

theorem ahead_at {c : C} (hl : c.d.length ≤ 9223372036854770000) (hs : c.sound = true) (n : Nat) (hn : (n : Int) ≤ c.left) :
    c.ahead n = { c with a := c.a + n } ∧ (c.ahead n).sound = true ∧ (c.ahead n).rest = c.rest.drop n := by
  have h := (C.sound_iff c).1 hs
  have hr := c.rest_len
  rw [if_pos hs] at hr
  have hw : IntKind.i64.wrap (c.a + (n : Int)) = c.a + n := by rw [wi64]; omega
  have e : c.ahead n = { c with a := c.a + n } := by simp only [C.ahead, hw]
  have hs' : (c.ahead n).sound = true := by
    rw [e, C.sound_iff]
    exact ⟨by show 0 ≤ c.a + n; omega, by show c.a + n ≤ c.e; omega, h.2.2⟩
  refine ⟨e, hs', ?_⟩
  rw [C.rest_of hs', C.rest_of hs, e]
  simp only
  rw [List.drop_take, List.drop_drop, show (c.a + (n : Int)).toNat = c.a.toNat + n by omega]
  congr 1
  omega

theorem spend_one {c : C} (hn : 1 ≤ c.nd) (hm : c.nd < 9223372036854775808) : c.spend 1 = ({ c with nd := c.nd - 1 }, 0) := by
  unfold C.spend
  rw [if_neg (by omega), if_neg (by omega), show IntKind.i64.wrap (c.nd - 1) = c.nd - 1 by rw [wi64]; omega]

theorem nxt_nd {c : C} (h : c.nd < 1) : (nxt c).2.2 ≠ 0 := by
  unfold nxt
  simp only
  split
  · rename_i ht
    have e : (takeTag c).2.2.1.nd = c.nd := by
      unfold takeTag C.varint
      simp only
      repeat' split
      all_goals rfl
    have : ((takeTag c).2.2.1.spend 1).2 = 3 := by
      unfold C.spend
      rw [if_neg (by omega), if_pos (by rw [e]; omega)]
    rw [this, if_neg (by decide)]
    exact (by decide : (3 : Nat) ≠ 0)
  · rename_i ht; exact ht

theorem nxt_rd {c : C} (hl : c.d.length ≤ 9223372036854770000) (hs : c.sound = true) (hn : 1 ≤ c.nd) (hm : c.nd < 9223372036854775808) :
    (∀ f k, rd c.rest c.tx = some (f, k) → nxt c = (f, { c with a := c.a + k, nd := c.nd - 1 }, 0)) ∧ (rd c.rest c.tx = none → (nxt c).2.2 ≠ 0) := by
  have hvar : c.varint = if (Vp.take c.rest).2.2 = 0 then ((Vp.take c.rest).1, c.ahead (Vp.take c.rest).2.1, 0) else (0, c, (Vp.take c.rest).2.2) := rfl
  have hb := take_bounds c.rest
  unfold rd
  simp only
  generalize Vp.take c.rest = T at hvar hb ⊢
  obtain ⟨u, n, e⟩ := T
  simp only at hvar hb ⊢
  by_cases he : e = 0
  · subst he
    rw [if_pos rfl] at hvar
    obtain ⟨b1, b2, b3, b4⟩ := hb rfl
    obtain ⟨a1, a2, a3⟩ := ahead_at hl hs n (by unfold C.left; omega)
    have hal : (c.ahead n).d.length ≤ 9223372036854770000 := hl
    by_cases hbad : u % 8 = 7 ∨ u / 8 < 1 ∨ 65535 < u / 8
    · rw [if_pos (by omega)]
      refine ⟨fun f k h => (by cases h), fun _ => ?_⟩
      have ht : (takeTag c).2.2.2 ≠ 0 := by
        unfold takeTag
        simp only [hvar, if_true]
        by_cases h7 : u % 8 = 7
        · rw [if_pos h7]; exact (by decide : (5 : Nat) ≠ 0)
        · rw [if_neg h7, if_pos (by omega)]; exact (by decide : (6 : Nat) ≠ 0)
      unfold nxt
      simp only [ht, if_false]
      exact ht
    · rw [if_neg (by omega)]
      have ht : takeTag c = (((u / 8 : Nat) : Int), ((u % 8 : Nat) : Int), c.ahead n, 0) := by
        unfold takeTag
        simp only [hvar, if_true]
        rw [if_neg (by omega), if_neg (by omega)]
      have hsp : (c.ahead n).spend 1 = ({ c.ahead n with nd := c.nd - 1 }, 0) := spend_one (c := c.ahead n) hn hm
      generalize hD : ({ c.ahead n with nd := c.nd - 1 } : C) = D at hsp
      have hDs : D.sound = true := by rw [← hD]; exact a2
      have hDl : D.d.length ≤ 9223372036854770000 := by rw [← hD]; exact hl
      have hDr : D.rest = c.rest.drop n := by rw [← hD, ← a3]; rfl
      have hDe : ∀ k : Nat, ({ D with a := D.a + k } : C) = { c with a := c.a + (n + k : Nat), nd := c.nd - 1, tx := D.tx } := by
        intro k
        rw [← hD, a1]
        simp only [C.mk.injEq, true_and, and_true]
        omega
      have hnx : nxt c = if (cont D ⟨(u / 8 : Nat), (u % 8 : Nat), 0, []⟩).2.2 = 0 then cont D ⟨(u / 8 : Nat), (u % 8 : Nat), 0, []⟩ else (zr, c, (cont D ⟨(u / 8 : Nat), (u % 8 : Nat), 0, []⟩).2.2) := by
        unfold nxt
        simp only [ht, hsp, if_true]
      have htx : D.tx = c.tx := by rw [← hD]; rfl
      rw [hnx, ← hDr, ← htx]
      by_cases h2 : u % 8 = 2
      · rw [if_pos h2]
        have hc : cont D ⟨(u / 8 : Nat), (u % 8 : Nat), 0, []⟩ = (⟨(u / 8 : Nat), (u % 8 : Nat), D.fixed.1, []⟩, D.fixed.2.1, D.fixed.2.2) := by
          unfold cont; rw [if_pos (by simp only; omega)]
        rw [hc]
        unfold C.fixed
        by_cases h8 : D.rest.length < 8
        · simp only [h8, if_true]
          exact ⟨fun f k h => (by cases h), fun _ => by simp⟩
        · simp only [h8, if_false, if_true]
          refine ⟨fun f k h => ?_, fun h => (by cases h)⟩
          simp only [Option.some.injEq, Prod.mk.injEq] at h
          obtain ⟨rfl, rfl⟩ := h
          have e8 : D.ahead 8 = { D with a := D.a + ((8 : Nat) : Int) } := (ahead_at hDl hDs 8 (by unfold C.left; omega)).1
          rw [e8, hDe 8]
      · rw [if_neg h2]
        have hbv := take_bounds D.rest
        have hDv : D.varint = if (Vp.take D.rest).2.2 = 0 then ((Vp.take D.rest).1, D.ahead (Vp.take D.rest).2.1, 0) else (0, D, (Vp.take D.rest).2.2) := rfl
        generalize Vp.take D.rest = B at hDv hbv ⊢
        obtain ⟨v, m, e⟩ := B
        simp only at hDv hbv ⊢
        have hcd : ¬ (u % 8 = 0 ∨ u % 8 = 1) → cont D ⟨(u / 8 : Nat), (u % 8 : Nat), 0, []⟩ = (⟨(u / 8 : Nat), (u % 8 : Nat), 0, (dat D (u % 8 : Nat)).1⟩, (dat D (u % 8 : Nat)).2.1, (dat D (u % 8 : Nat)).2.2) := by
          intro h
          unfold cont; rw [if_neg (by simp only; omega), if_neg (by simp only; omega)]
        have hcn : (u % 8 = 0 ∨ u % 8 = 1) → cont D ⟨(u / 8 : Nat), (u % 8 : Nat), 0, []⟩ = (⟨(u / 8 : Nat), (u % 8 : Nat), D.varint.1, []⟩, D.varint.2.1, D.varint.2.2) := by
          intro h
          unfold cont; rw [if_neg (by simp only; omega), if_pos (by simp only; omega)]
        by_cases he : e = 0
        · subst he
          rw [if_pos rfl] at hDv
          obtain ⟨c1, c2, c3, c4⟩ := hbv rfl
          obtain ⟨d1, d2, d3⟩ := ahead_at hDl hDs m (by unfold C.left; omega)
          rw [if_neg (by simp)]
          by_cases h01 : u % 8 = 0 ∨ u % 8 = 1
          · rw [if_pos h01, hcn h01, hDv]
            simp only [if_true]
            refine ⟨fun f k h => ?_, fun h => (by cases h)⟩
            simp only [Option.some.injEq, Prod.mk.injEq] at h
            obtain ⟨rfl, rfl⟩ := h
            rw [d1, hDe m]
          · rw [if_neg h01, hcd h01]
            have hdt : dat D ((u % 8 : Nat) : Int) = if (D.ahead m).left < (v : Int) then ([], D, 4) else if (if u % 8 = 3 then D.tx else 65536) < (v : Int) then ([], D, 3) else (((D.ahead m).d.drop (D.ahead m).a.toNat).take v, (D.ahead m).ahead v, 0) := by
              unfold dat
              simp only [hDv, if_true]
              have : (if ((u % 8 : Nat) : Int) = 3 then D.tx else 65536) = if u % 8 = 3 then D.tx else 65536 := by
                by_cases h : u % 8 = 3
                · rw [if_pos h, if_pos (by omega)]
                · rw [if_neg h, if_neg (by omega)]
              rw [this]
            have hlf : (D.ahead m).left = ((D.rest.drop m).length : Int) := by unfold C.left; rw [d3]
            rw [hdt, hlf]
            by_cases hq : (D.rest.drop m).length < v
            · rw [if_pos (.inl hq), if_pos (show ((D.rest.drop m).length : Int) < (v : Int) by omega)]
              exact ⟨fun f k h => (by cases h), fun _ => by simp⟩
            · rw [if_neg (show ¬ ((D.rest.drop m).length : Int) < (v : Int) by omega)]
              by_cases hr : (if u % 8 = 3 then D.tx else 65536) < (v : Int)
              · rw [if_pos (.inr hr), if_pos hr]
                exact ⟨fun f k h => (by cases h), fun _ => by simp⟩
              · rw [if_neg (by simp only [not_or]; exact ⟨hq, hr⟩), if_neg hr]
                simp only [if_true]
                refine ⟨fun f k h => ?_, fun h => (by cases h)⟩
                simp only [Option.some.injEq, Prod.mk.injEq] at h
                obtain ⟨rfl, rfl⟩ := h
                have hal2 := ahead_at (c := D.ahead m) hDl d2 v (by rw [hlf]; omega)
                have hrd : ((D.ahead m).d.drop (D.ahead m).a.toNat).take v = (D.rest.drop m).take v := by
                  rw [← d3, C.rest_of d2, List.take_take, Nat.min_eq_left]
                  have h1 := (C.sound_iff _).1 d2
                  have h2 := (D.ahead m).rest_len
                  rw [if_pos d2, hlf] at h2
                  omega
                rw [hrd, hal2.1]
                have : ({ D.ahead m with a := (D.ahead m).a + v } : C) = { D with a := D.a + (m + v : Nat) } := by
                  rw [d1]
                  simp only [C.mk.injEq, true_and, and_true]
                  omega
                rw [this, hDe (m + v), Nat.add_assoc]
        · rw [if_neg he] at hDv
          rw [if_pos (by simpa using he)]
          refine ⟨fun f k h => (by cases h), fun _ => ?_⟩
          by_cases h01 : u % 8 = 0 ∨ u % 8 = 1
          · rw [hcn h01, hDv]; simp only [he, if_false]; exact he
          · rw [hcd h01]
            have hdt : dat D ((u % 8 : Nat) : Int) = ([], D, e) := by
              unfold dat
              simp only [hDv, he, if_false]
            rw [hdt]; simp only [he, if_false]; exact he
  · rw [if_neg he] at hvar
    rw [if_pos (.inl he)]
    refine ⟨fun f k h => (by cases h), fun _ => ?_⟩
    have ht : takeTag c = (0, 0, c, e) := by
      unfold takeTag
      simp only [hvar, he, if_false]
    unfold nxt
    simp only [ht, he, if_false]
    exact he

end Go.Proofs.Ytcmdlmcmefbkeaa.Va

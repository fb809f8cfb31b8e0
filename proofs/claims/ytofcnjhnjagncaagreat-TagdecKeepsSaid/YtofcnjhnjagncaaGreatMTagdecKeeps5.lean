/- Parts of the proof, in order. -/
import Derived.Lib.SmallJoins
import Derived.Test.YtofcnjhnjagncaaGreatMTagdecKeeps4

/- tagdec: the fields of a message, all unknown. -/
set_option linter.unusedSimpArgs false
namespace Go.Proofs.YtofcnjhnjagncaaGreat.Va
open Go Am Rc Bt Vp Cp Up So

/-- The fields from a cursor on: those read, where it stopped, and the error. -/
def fl : Nat → C → List R → List R × C × Nat
  | 0, c, a => (a, c, 0)
  | k + 1, c, a => if 0 < c.left then (if (nxt c).2.2 = 0 then fl k (nxt c).2.1 (a ++ [(nxt c).1]) else (a, c, (nxt c).2.2)) else (a, c, 0)

theorem fl_sg : ∀ (k : Nat) (c : C) (a : List R), (fl k c a).2.2 = (sg k c).2 ∧ ((sg k c).2 = 0 → (fl k c a).1 = a ++ (sg k c).1)
  | 0, c, a => by simp [fl, sg]
  | k + 1, c, a => by
    rw [fl, sg]
    by_cases h0 : 0 < c.left
    · rw [if_pos h0, if_pos h0]
      by_cases h1 : (nxt c).2.2 = 0
      · obtain ⟨i1, i2⟩ := fl_sg k (nxt c).2.1 (a ++ [(nxt c).1])
        simp only [h1, if_true]
        refine ⟨?_, ?_⟩
        · rw [i1]
          split
          · assumption
          · rfl
        · by_cases h2 : (sg k (nxt c).2.1).2 = 0
          · intro _
            simp only [h2, if_true]
            rw [i2 h2, List.append_assoc] <;> rfl
          · simp only [h2, if_false]
            exact fun h => h.elim
      · simp only [h1, if_false]
        exact ⟨trivial, fun h => h.elim⟩
    · rw [if_neg h0, if_neg h0]
      simp

theorem fl_more : ∀ (k : Nat) (c : C) (a : List R), c.d.length ≤ 9223372036854770000 → c.left ≤ k → fl k c a = fl c.left.toNat c a
  | 0, c, a, hl, h => by
    have := (left_bound c).1
    rw [show c.left.toNat = 0 by omega]
  | k + 1, c, a, hl, h => by
    have hlb := left_bound c
    by_cases h0 : 0 < c.left
    · obtain ⟨j, hj⟩ : ∃ j, c.left.toNat = j + 1 := ⟨c.left.toNat - 1, by omega⟩
      rw [hj, fl, fl, if_pos h0, if_pos h0]
      by_cases hn : (nxt c).2.2 = 0
      · obtain ⟨_, s2, s3, s4, _⟩ := (nxt_step hl hn).left
        simp only [hn, if_true]
        have hl' : (nxt c).2.1.d.length ≤ 9223372036854770000 := by rw [s4]; exact hl
        rw [fl_more k _ _ hl' (by omega), fl_more j _ _ hl' (by omega)]
      · simp only [hn, if_false]
    · have e : c.left.toNat = 0 := by omega
      rw [e]
      simp only [fl, h0, if_false]

theorem upd_self (fr : Nat → Ob) (s : Nat) {o : Ob} (h : fr s = o) : upd fr s o = fr := by
  funext i
  by_cases e : i = s
  · subst e; rw [upd_same, h]
  · cases hb : Nat.beq i s with
    | true => exact absurd (Nat.eq_of_beq_eq_true hb) e
    | false => simp [upd, hb]

/-- A reader's cells. -/
def rdr (c : C) : List AV := [.list [.agg [.str [77], .list [], .int .i64 0]], .list [], .str c.d, .int .i64 c.a, .int .i64 c.e, .int .i64 c.dp, .int .i64 c.nd, .int .i64 c.tx]
def mvc (r : List R) : List AV := [.int .i64 10, .int .u64 0, .str [], .list [], .list [], .list [], .list (rsv r)]
def z7 : List AV := [.int .i64 0, .int .u64 0, .str [], .nils, .nils, .nils, .nils]

def FldI (c0 : C) (s : Nat) (fr : Nat → Ob) (m : Mem) (k : Nat) (st : St) : Prop :=
  ∃ f fr0 fr1 c acc, st = ⟨f, fr0 :: fr1 :: m, []⟩ ∧ k = c.left.toNat ∧ fr1 = upd fr s (.cells (rdr c)) ∧ fl c0.left.toNat c0 [] = fl c.left.toNat c acc ∧ c.d.length ≤ 3000 ∧ (acc.length : Int) + c.left ≤ 3000 ∧ f 0 = .ptr 1 s 0 ∧ f 5 = .ptr 0 5 0 ∧ f 6 = .ptr 0 6 0 ∧ f 8 = .ptr 0 8 0 ∧ fr0 5 = .cells (mvc acc) ∧ fr0 6 = .cells z7 ∧ fr0 8 = .cells [.str [77], .list [], .int .i64 0] ∧ ∀ s ∈ [16, 15, 12, 9], (fr0 s).isRow = false

def OpsI (c : C) (t : Int × Int × C × Nat) (acc : List R) (s : Nat) (fr1 : Nat → Ob) (m : Mem) (_ : Nat) (st : St) : Prop :=
  ∃ f fr0, st = ⟨f, fr0 :: fr1 :: m, []⟩ ∧ f 0 = .ptr 1 s 0 ∧ f 5 = .ptr 0 5 0 ∧ f 6 = .ptr 0 6 0 ∧ f 8 = .ptr 0 8 0 ∧ f 9 = .ptr 0 9 0 ∧ f 12 = .ptr 0 12 0 ∧ f 48 = .int .i64 0 ∧ f 49 = .int .i64 0 ∧ fr0 5 = .cells (mvc acc) ∧ fr0 6 = .cells z7 ∧ fr0 8 = .cells [.str [77], .list [], .int .i64 0] ∧ fr0 9 = .cells [.str c.d, .int .i64 c.a, .int .i64 c.e, .int .i64 c.dp, .int .i64 c.nd, .int .i64 c.tx] ∧ fr0 12 = .cells t.2.2.1.av.cells ∧ fr0 16 = .none ∧ ∀ s ∈ [15], (fr0 s).isRow = false

theorem c24 (c0 : C) (hl0 : c0.d.length ≤ 3000) (hl1 : c0.left ≤ 3000) (s : Nat) (fr : Nat → Ob) (m : Mem) (hs : fr s = .cells (rdr c0)) :
    ACalls Tryz.prog 24 [.ptr 0 s 0, .int .i64 0, mv []] (fr :: m) fun x m1 => x = .tup [mv (fl c0.left.toNat c0 []).1, .int .i64 ((fl c0.left.toNat c0 []).2.2 : Nat)] ∧ m1 = upd fr s (.cells (rdr (fl c0.left.toNat c0 []).2.1)) :: m := by
  have n0 : (0 ≤ (0 : Int)) = True := by simp
  have z0 : Int.toNat 0 = 0 := rfl
  refine acalls_of_awp (rc := r24) (rs := o24) Tryz.func24 rfl rfl Tryz.ntmps24 k24 q24 (by simp) ?_
  have hs' := hs
  simp only [rdr] at hs
  simp only [g24_0, g24_1, g24_2, g24_3, g24_4, g24_5, g24_6, g24_7, g24_8, g24_9, g24_10, g24_11, g24_12, g24_13, g24_14, g24_15, g24_16, g24_17, g24_18, g24_19, g24_20, g24_21, r24, o24, mv, hs, n0, z0, aiaddr, eES, eEX, Nat.reduceBEq, Int.reduceLE, Int.reduceLT, Int.reduceToNat, Int.reduceEq, ↓reduceIte, reduceCtorEq, Nat.reducePow, Nat.reduceAdd, Nat.reduceLeDiff, Nat.reduceLT, Nat.reduceSub, Nat.reduceEqDiff]
  refine awp_loop (FldI c0 s fr m) _ ⟨_, _, fr, c0, [], rfl, rfl, (upd_self fr s hs').symm, rfl, hl0, by simpa using hl1, rfl, rfl, rfl, rfl, rfl, rfl, rfl, by simp; exact ⟨rfl, rfl, rfl, rfl⟩⟩ ?_
  rintro n st ⟨f0, fr0, fr1, c, acc, rfl, rfl, hfr1, hfl, hcl, hal, h0, h5, h6, h8, m5, m6, m8, hrow⟩
  refine awp_drops (a := _) [16, 15, 12, 9] hrow ?_
  intro f fr2 hf hm hn
  replace h0 : f 0 = .ptr 1 s 0 := by rw [hf, h0] <;> rfl
  replace h5 : f 5 = .ptr 0 5 0 := by rw [hf, h5] <;> rfl
  replace h6 : f 6 = .ptr 0 6 0 := by rw [hf, h6] <;> rfl
  replace h8 : f 8 = .ptr 0 8 0 := by rw [hf, h8] <;> rfl
  replace m5 : fr2 5 = .cells (mvc acc) := by rw [hm 5 (by decide), m5] <;> rfl
  replace m6 : fr2 6 = .cells z7 := by rw [hm 6 (by decide), m6] <;> rfl
  replace m8 : fr2 8 = .cells [.str [77], .list [], .int .i64 0] := by rw [hm 8 (by decide), m8] <;> rfl
  have m9 : fr2 9 = .none := hn 9 (by decide)
  have m12 : fr2 12 = .none := hn 12 (by decide)
  have m15 : fr2 15 = .none := hn 15 (by decide)
  have m16 : fr2 16 = .none := hn 16 (by decide)
  have ms : fr1 s = .cells (rdr c) := by rw [hfr1, upd_same]
  have hcl' : c.d.length ≤ 9223372036854770000 := by omega
  simp only [rdr] at ms
  simp only [mvc] at m5
  simp only [z7] at m6
  simp only [g24_0, g24_1, g24_2, g24_3, g24_4, g24_5, g24_6, g24_7, g24_8, g24_9, g24_10, g24_11, g24_12, g24_13, g24_14, g24_15, g24_16, g24_17, g24_18, g24_19, g24_20, g24_21, r24, o24, h0, h5, h6, h8, m5, m6, m8, m9, m12, m15, m16, ms, eES, eEX, Nat.reduceBEq, Int.reduceLE, Int.reduceLT, Int.reduceToNat, Int.reduceEq, ↓reduceIte, reduceCtorEq, Nat.reducePow, Nat.reduceAdd, Nat.reduceLeDiff, Nat.reduceLT, Nat.reduceSub, Nat.reduceEqDiff]
  refine aops_call (c36 c (by omega)) rfl rfl rfl (.inl rfl) ?_
  simp only [h0, h5, h6, h8, m5, m6, m8, m9, m12, m15, m16, ms, eES, eEX, Nat.reduceBEq, Int.reduceLE, Int.reduceLT, Int.reduceToNat, Int.reduceEq, ↓reduceIte, reduceCtorEq, Nat.reducePow, Nat.reduceAdd, Nat.reduceLeDiff, Nat.reduceLT, Nat.reduceSub, Nat.reduceEqDiff]
  by_cases hlt : 0 < c.left
  · have d0 : decide (c.left > 0) = true := by simpa using hlt
    obtain ⟨j, hj⟩ : ∃ j, c.left.toNat = j + 1 := ⟨c.left.toNat - 1, by omega⟩
    simp only [d0, h0, h5, h6, h8, m5, m6, m8, m9, m12, m15, m16, ms, eES, eEX, Nat.reduceBEq, Int.reduceLE, Int.reduceLT, Int.reduceToNat, Int.reduceEq, ↓reduceIte, reduceCtorEq, Nat.reducePow, Nat.reduceAdd, Nat.reduceLeDiff, Nat.reduceLT, Nat.reduceSub, Nat.reduceEqDiff]
    refine aops_call (c33 c hcl') rfl rfl rfl (.inl rfl) ?_
    have hnt : (takeTag c).2.2.2 ≠ 0 → nxt c = (zr, c, (takeTag c).2.2.2) := fun h => by simp [nxt, h]
    generalize htt : takeTag c = t at hnt
    obtain ⟨tn, tw, tc, e⟩ := t
    simp only at hnt
    simp only [ttv, C.av, h0, h5, h6, h8, m5, m6, m8, m9, m12, m15, m16, ms, eES, eEX, Nat.reduceBEq, Int.reduceLE, Int.reduceLT, Int.reduceToNat, Int.reduceEq, ↓reduceIte, reduceCtorEq, Nat.reducePow, Nat.reduceAdd, Nat.reduceLeDiff, Nat.reduceLT, Nat.reduceSub, Nat.reduceEqDiff]
    by_cases he : e = 0
    · subst he
      simp only [bne00, h0, h5, h6, h8, m5, m6, m8, m9, m12, m15, m16, ms, eES, eEX, Nat.reduceBEq, Int.reduceLE, Int.reduceLT, Int.reduceToNat, Int.reduceEq, ↓reduceIte, reduceCtorEq, Nat.reducePow, Nat.reduceAdd, Nat.reduceLeDiff, Nat.reduceLT, Nat.reduceSub, Nat.reduceEqDiff]
      refine awp_loop (OpsI c (tn, tw, tc, 0) acc s fr1 m) 0 ⟨_, _, rfl, by simp only [h0, eES, eEX, Nat.reduceBEq, Int.reduceLE, Int.reduceLT, Int.reduceToNat, Int.reduceEq, ↓reduceIte, reduceCtorEq, Nat.reducePow, Nat.reduceAdd, Nat.reduceLeDiff, Nat.reduceLT, Nat.reduceSub, Nat.reduceEqDiff], by simp only [h5, eES, eEX, Nat.reduceBEq, Int.reduceLE, Int.reduceLT, Int.reduceToNat, Int.reduceEq, ↓reduceIte, reduceCtorEq, Nat.reducePow, Nat.reduceAdd, Nat.reduceLeDiff, Nat.reduceLT, Nat.reduceSub, Nat.reduceEqDiff], by simp only [h6, eES, eEX, Nat.reduceBEq, Int.reduceLE, Int.reduceLT, Int.reduceToNat, Int.reduceEq, ↓reduceIte, reduceCtorEq, Nat.reducePow, Nat.reduceAdd, Nat.reduceLeDiff, Nat.reduceLT, Nat.reduceSub, Nat.reduceEqDiff], by simp only [h8, eES, eEX, Nat.reduceBEq, Int.reduceLE, Int.reduceLT, Int.reduceToNat, Int.reduceEq, ↓reduceIte, reduceCtorEq, Nat.reducePow, Nat.reduceAdd, Nat.reduceLeDiff, Nat.reduceLT, Nat.reduceSub, Nat.reduceEqDiff], rfl, rfl, rfl, rfl, by simp only [m5, mvc, eES, eEX, Nat.reduceBEq, Int.reduceLE, Int.reduceLT, Int.reduceToNat, Int.reduceEq, ↓reduceIte, reduceCtorEq, Nat.reducePow, Nat.reduceAdd, Nat.reduceLeDiff, Nat.reduceLT, Nat.reduceSub, Nat.reduceEqDiff], by simp only [m6, z7, eES, eEX, Nat.reduceBEq, Int.reduceLE, Int.reduceLT, Int.reduceToNat, Int.reduceEq, ↓reduceIte, reduceCtorEq, Nat.reducePow, Nat.reduceAdd, Nat.reduceLeDiff, Nat.reduceLT, Nat.reduceSub, Nat.reduceEqDiff], by simp only [m8, eES, eEX, Nat.reduceBEq, Int.reduceLE, Int.reduceLT, Int.reduceToNat, Int.reduceEq, ↓reduceIte, reduceCtorEq, Nat.reducePow, Nat.reduceAdd, Nat.reduceLeDiff, Nat.reduceLT, Nat.reduceSub, Nat.reduceEqDiff], rfl, rfl, by simp only [m16, eES, eEX, Nat.reduceBEq, Int.reduceLE, Int.reduceLT, Int.reduceToNat, Int.reduceEq, ↓reduceIte, reduceCtorEq, Nat.reducePow, Nat.reduceAdd, Nat.reduceLeDiff, Nat.reduceLT, Nat.reduceSub, Nat.reduceEqDiff], by simp; show (fr2 15).isRow = false; rw [m15] <;> rfl⟩ ?_
      rintro n' st' ⟨f3, fr3, rfl, k0, k5, k6, k8, k9, k12, k48, k49, q5, q6, q8, q9, q12, q16, hrow3⟩
      refine awp_drops (a := _) [15] hrow3 ?_
      intro f4 fr4 hf4 hm4 hn4
      replace k0 : f4 0 = .ptr 1 s 0 := by rw [hf4, k0] <;> rfl
      replace k5 : f4 5 = .ptr 0 5 0 := by rw [hf4, k5] <;> rfl
      replace k6 : f4 6 = .ptr 0 6 0 := by rw [hf4, k6] <;> rfl
      replace k8 : f4 8 = .ptr 0 8 0 := by rw [hf4, k8] <;> rfl
      replace k9 : f4 9 = .ptr 0 9 0 := by rw [hf4, k9] <;> rfl
      replace k12 : f4 12 = .ptr 0 12 0 := by rw [hf4, k12] <;> rfl
      replace k48 : f4 48 = .int .i64 0 := by rw [hf4, k48] <;> rfl
      replace k49 : f4 49 = .int .i64 0 := by rw [hf4, k49] <;> rfl
      replace q5 : fr4 5 = .cells (mvc acc) := by rw [hm4 5 (by decide), q5] <;> rfl
      replace q6 : fr4 6 = .cells z7 := by rw [hm4 6 (by decide), q6] <;> rfl
      replace q8 : fr4 8 = .cells [.str [77], .list [], .int .i64 0] := by rw [hm4 8 (by decide), q8] <;> rfl
      replace q9 : fr4 9 = .cells [.str c.d, .int .i64 c.a, .int .i64 c.e, .int .i64 c.dp, .int .i64 c.nd, .int .i64 c.tx] := by rw [hm4 9 (by decide), q9] <;> rfl
      replace q12 : fr4 12 = .cells [.str tc.d, .int .i64 tc.a, .int .i64 tc.e, .int .i64 tc.dp, .int .i64 tc.nd, .int .i64 tc.tx] := by rw [hm4 12 (by decide), q12] <;> rfl
      replace q16 : fr4 16 = .none := by rw [hm4 16 (by decide), q16] <;> rfl
      simp only [mvc] at q5
      simp only [z7] at q6
      have d1 : decide ((0 : Int) < 0) = false := rfl
      simp only [g24_0, g24_1, g24_2, g24_3, g24_4, g24_5, g24_6, g24_7, g24_8, g24_9, g24_10, g24_11, g24_12, g24_13, g24_14, g24_15, g24_16, g24_17, g24_18, g24_19, g24_20, g24_21, r24, o24, k0, k5, k6, k8, k9, k12, k48, k49, q5, q6, q8, q9, q12, q16, d1, ms, eES, eEX, Nat.reduceBEq, Int.reduceLE, Int.reduceLT, Int.reduceToNat, Int.reduceEq, ↓reduceIte, reduceCtorEq, Nat.reducePow, Nat.reduceAdd, Nat.reduceLeDiff, Nat.reduceLT, Nat.reduceSub, Nat.reduceEqDiff]
      refine aops_call (c22 c hcl') rfl rfl rfl (.inl rfl) ?_
      have hns := fun h => (nxt_step (c := c) hcl' h)
      generalize hnx : nxt c = r at hns
      obtain ⟨fd, c', e⟩ := r
      simp only at hns
      simp only [nxtv, R.av, C.av, k0, k5, k6, k8, k9, k12, k48, k49, q5, q6, q8, q9, q12, q16, ms, eES, eEX, Nat.reduceBEq, Int.reduceLE, Int.reduceLT, Int.reduceToNat, Int.reduceEq, ↓reduceIte, reduceCtorEq, Nat.reducePow, Nat.reduceAdd, Nat.reduceLeDiff, Nat.reduceLT, Nat.reduceSub, Nat.reduceEqDiff]
      by_cases he : e = 0
      · subst he
        obtain ⟨x1, x2, x3, x4, x5⟩ := (hns rfl).left
        simp only [bne00, k0, k5, k6, k8, k9, k12, k48, k49, q5, q6, q8, q9, q12, q16, ms, eES, eEX, Nat.reduceBEq, Int.reduceLE, Int.reduceLT, Int.reduceToNat, Int.reduceEq, ↓reduceIte, reduceCtorEq, Nat.reducePow, Nat.reduceAdd, Nat.reduceLeDiff, Nat.reduceLT, Nat.reduceSub, Nat.reduceEqDiff]
        refine aops_call (c38 acc fd (by omega)) rfl rfl rfl (.inl rfl) ?_
        simp only [mv, k0, k5, k6, k8, k9, k12, k48, k49, q5, q6, q8, q9, q12, q16, ms, eES, eEX, Nat.reduceBEq, Int.reduceLE, Int.reduceLT, Int.reduceToNat, Int.reduceEq, ↓reduceIte, reduceCtorEq, Nat.reducePow, Nat.reduceAdd, Nat.reduceLeDiff, Nat.reduceLT, Nat.reduceSub, Nat.reduceEqDiff]
        refine ⟨c'.left.toNat, by omega, _, _, _, c', acc ++ [fd], rfl, rfl, ?_, ?_, ?_, ?_, ?_, ?_, ?_, ?_, ?_, ?_, ?_, ?_⟩
        · rw [hfr1, upd_upd] <;> rfl
        · rw [hfl, hj, fl, if_pos hlt, hnx]
          simp only [if_true]
          exact fl_more j c' _ (by rw [x4]; omega) (by omega)
        · rw [x4]; exact hcl
        · simp; omega
        · simp only [k0, eES, eEX, Nat.reduceBEq, Int.reduceLE, Int.reduceLT, Int.reduceToNat, Int.reduceEq, ↓reduceIte, reduceCtorEq, Nat.reducePow, Nat.reduceAdd, Nat.reduceLeDiff, Nat.reduceLT, Nat.reduceSub, Nat.reduceEqDiff]
        · simp only [k5, eES, eEX, Nat.reduceBEq, Int.reduceLE, Int.reduceLT, Int.reduceToNat, Int.reduceEq, ↓reduceIte, reduceCtorEq, Nat.reducePow, Nat.reduceAdd, Nat.reduceLeDiff, Nat.reduceLT, Nat.reduceSub, Nat.reduceEqDiff]
        · simp only [k6, eES, eEX, Nat.reduceBEq, Int.reduceLE, Int.reduceLT, Int.reduceToNat, Int.reduceEq, ↓reduceIte, reduceCtorEq, Nat.reducePow, Nat.reduceAdd, Nat.reduceLeDiff, Nat.reduceLT, Nat.reduceSub, Nat.reduceEqDiff]
        · simp only [k8, eES, eEX, Nat.reduceBEq, Int.reduceLE, Int.reduceLT, Int.reduceToNat, Int.reduceEq, ↓reduceIte, reduceCtorEq, Nat.reducePow, Nat.reduceAdd, Nat.reduceLeDiff, Nat.reduceLT, Nat.reduceSub, Nat.reduceEqDiff]
        · simp only [mvc, eES, eEX, Nat.reduceBEq, Int.reduceLE, Int.reduceLT, Int.reduceToNat, Int.reduceEq, ↓reduceIte, reduceCtorEq, Nat.reducePow, Nat.reduceAdd, Nat.reduceLeDiff, Nat.reduceLT, Nat.reduceSub, Nat.reduceEqDiff]
        · simp only [q6, z7, eES, eEX, Nat.reduceBEq, Int.reduceLE, Int.reduceLT, Int.reduceToNat, Int.reduceEq, ↓reduceIte, reduceCtorEq, Nat.reducePow, Nat.reduceAdd, Nat.reduceLeDiff, Nat.reduceLT, Nat.reduceSub, Nat.reduceEqDiff]
        · simp only [q8, eES, eEX, Nat.reduceBEq, Int.reduceLE, Int.reduceLT, Int.reduceToNat, Int.reduceEq, ↓reduceIte, reduceCtorEq, Nat.reducePow, Nat.reduceAdd, Nat.reduceLeDiff, Nat.reduceLT, Nat.reduceSub, Nat.reduceEqDiff]
        · have q15 : fr4 15 = .none := hn4 15 (by decide)
          intro i hi
          simp only [List.mem_cons, List.not_mem_nil, or_false] at hi
          rcases hi with rfl | rfl | rfl | rfl <;> simp only [q9, q15, eES, eEX, Nat.reduceBEq, Int.reduceLE, Int.reduceLT, Int.reduceToNat, Int.reduceEq, ↓reduceIte, reduceCtorEq, Nat.reducePow, Nat.reduceAdd, Nat.reduceLeDiff, Nat.reduceLT, Nat.reduceSub, Nat.reduceEqDiff] <;> rfl
      · have hfl' : fl c.left.toNat c acc = (acc, c, e) := by
          rw [hj, fl, if_pos hlt, hnx]
          simp only [he, if_false]
        rw [hfl, hfl']
        simp only [bne0_t he, k0, k5, k6, k8, k9, k12, k48, k49, q5, q6, q8, q9, q12, q16, ms, eES, eEX, Nat.reduceBEq, Int.reduceLE, Int.reduceLT, Int.reduceToNat, Int.reduceEq, ↓reduceIte, reduceCtorEq, Nat.reducePow, Nat.reduceAdd, Nat.reduceLeDiff, Nat.reduceLT, Nat.reduceSub, Nat.reduceEqDiff]
        first | exact ⟨rfl, by rw [hfr1]⟩ | rw [hfr1]
    · have hfl' : fl c.left.toNat c acc = (acc, c, e) := by
        rw [hj, fl, if_pos hlt, hnt he]
        simp only [he, if_false]
      rw [hfl, hfl']
      simp only [bne0_t he, h0, h5, h6, h8, m5, m6, m8, m9, m12, m15, m16, ms, eES, eEX, Nat.reduceBEq, Int.reduceLE, Int.reduceLT, Int.reduceToNat, Int.reduceEq, ↓reduceIte, reduceCtorEq, Nat.reducePow, Nat.reduceAdd, Nat.reduceLeDiff, Nat.reduceLT, Nat.reduceSub, Nat.reduceEqDiff]
      first | exact ⟨rfl, by rw [hfr1]⟩ | rw [hfr1]
  · have d0 : decide (c.left > 0) = false := by simpa using hlt
    have hfl' : fl c.left.toNat c acc = (acc, c, 0) := by
      have : c.left.toNat = 0 := by have := left_bound c; omega
      rw [this, fl]
    rw [hfl, hfl']
    simp only [d0, h0, h5, h6, h8, m5, m6, m8, m9, m12, m15, m16, ms, eES, eEX, Nat.reduceBEq, Int.reduceLE, Int.reduceLT, Int.reduceToNat, Int.reduceEq, ↓reduceIte, reduceCtorEq, Nat.reducePow, Nat.reduceAdd, Nat.reduceLeDiff, Nat.reduceLT, Nat.reduceSub, Nat.reduceEqDiff]
    first | exact ⟨rfl, by rw [hfr1]⟩ | rw [hfr1]

end Go.Proofs.YtofcnjhnjagncaaGreat.Va

/- awake: by running it. -/
namespace Go.Proofs.YtofcnjhnjagncaaGreat.Ev
open Go Am Rc Cl

theorem awake_run : evT nat tab 2000 6 [] = true := by decide +kernel

theorem awake_ok : Fn1 Tryz.prog 6 [] (.bool true) := fn1_of_evT nat_ok tab_ok awake_run

end Go.Proofs.YtofcnjhnjagncaaGreat.Ev

/- tagdec: a message of unknown fields decoded. -/
set_option linter.unusedSimpArgs false
namespace Go.Proofs.YtofcnjhnjagncaaGreat.Va
open Go Am Rc Bt Vp Cp Up So

def lower (c : C) (d : Int) : C := { c with dp := d }

theorem var_lower (c : C) (d : Int) : (lower c d).varint = (c.varint.1, lower c.varint.2.1 d, c.varint.2.2) := by
  have hr : (lower c d).rest = c.rest := rfl
  unfold C.varint
  rw [hr]
  by_cases h : (Vp.take c.rest).2.2 = 0
  · simp only [h, if_true]
    rfl
  · simp only [h, if_false]

theorem take_lower (c : C) (d : Int) : takeTag (lower c d) = ((takeTag c).1, (takeTag c).2.1, lower (takeTag c).2.2.1 d, (takeTag c).2.2.2) := by
  unfold takeTag
  rw [var_lower]
  by_cases h : c.varint.2.2 = 0
  · simp only [h, if_true]
    by_cases h1 : c.varint.1 % 8 = 7
    · simp only [h1, if_true]
    · simp only [h1, if_false]
      by_cases h2 : c.varint.1 / 8 < 1 ∨ 65535 < c.varint.1 / 8
      · simp only [h2, if_true]
      · simp only [h2, if_false]
  · simp only [h, if_false]

theorem fix_lower (c : C) (d : Int) : (lower c d).fixed = (c.fixed.1, lower c.fixed.2.1 d, c.fixed.2.2) := by
  have hr : (lower c d).rest = c.rest := rfl
  unfold C.fixed
  rw [hr]
  by_cases h : c.rest.length < 8
  · simp only [h, if_true]
  · simp only [h, if_false]
    rfl

theorem dat_lower (c : C) (w d : Int) : dat (lower c d) w = ((dat c w).1, lower (dat c w).2.1 d, (dat c w).2.2) := by
  have e2 : (lower c d).tx = c.tx := rfl
  have e1 : (lower c.varint.2.1 d).left = c.varint.2.1.left := rfl
  unfold dat
  rw [var_lower]
  by_cases h : c.varint.2.2 = 0
  · simp only [h, if_true, e1, e2]
    by_cases h1 : c.varint.2.1.left < (c.varint.1 : Int)
    · simp only [h1, if_true]
    · simp only [h1, if_false]
      by_cases h2 : (if w = 3 then c.tx else 65536) < (c.varint.1 : Int)
      · simp only [h2, if_true]
      · simp only [h2, if_false]
        rfl
  · simp only [h, if_false]

theorem cont_lower (c : C) (f : R) (d : Int) : cont (lower c d) f = ((cont c f).1, lower (cont c f).2.1 d, (cont c f).2.2) := by
  unfold cont
  rw [var_lower, fix_lower, dat_lower]
  by_cases h : f.wire = 2
  · simp only [h, if_true]
  · simp only [h, if_false]
    by_cases h1 : f.wire = 0 ∨ f.wire = 1
    · simp only [h1, if_true]
    · simp only [h1, if_false]

theorem spend_lower (c : C) (n d : Int) : (lower c d).spend n = (lower (c.spend n).1 d, (c.spend n).2) := by
  have e1 : (lower c d).nd = c.nd := rfl
  unfold C.spend
  rw [e1]
  by_cases h : n < 0
  · simp only [h, if_true]
  · simp only [h, if_false]
    by_cases h1 : c.nd < n
    · simp only [h1, if_true]
    · simp only [h1, if_false]
      rfl

theorem nxt_lower (c : C) (d : Int) : nxt (lower c d) = ((nxt c).1, lower (nxt c).2.1 d, (nxt c).2.2) := by
  unfold nxt
  rw [take_lower]
  by_cases h : (takeTag c).2.2.2 = 0
  · simp only [h, if_true, spend_lower]
    by_cases h1 : ((takeTag c).2.2.1.spend 1).2 = 0
    · simp only [h1, if_true, cont_lower]
      by_cases h2 : (cont ((takeTag c).2.2.1.spend 1).1 { num := (takeTag c).1, wire := (takeTag c).2.1, bits := 0, data := [] }).2.2 = 0
      · simp only [h2, if_true]
      · simp only [h2, if_false]
    · simp only [h1, if_false]
  · simp only [h, if_false]

theorem sg_lower (d : Int) : ∀ (k : Nat) (c : C), sg k (lower c d) = sg k c
  | 0, _ => rfl
  | k + 1, c => by
    have e : (lower c d).left = c.left := rfl
    rw [sg, sg, nxt_lower, e]
    simp only [sg_lower d k]

theorem sg_len : ∀ (k : Nat) (c : C), (sg k c).1.length ≤ k
  | 0, c => by simp [sg]
  | k + 1, c => by
    have := sg_len k (nxt c).2.1
    rw [sg]
    split
    · simp only
      split
      · split
        · simp; omega
        · simp
      · simp
    · simp

theorem opn_more (s : List UInt8) (l : L) (hd : 1 ≤ l.dp) (hn : 0 ≤ l.nd) : opn s (L.mk l.b l.dp (l.nd + 1) l.tx) = if (opn s l).2 = 0 then (⟨s, 0, s.length, l.dp, l.nd + 1, l.tx⟩, 0) else opn s l := by
  unfold opn
  by_cases h : l.b < 0 ∨ l.tx < 0
  · have h1 : l.b < 0 ∨ l.dp < 0 ∨ l.nd + 1 < 0 ∨ l.tx < 0 := by omega
    have h2 : l.b < 0 ∨ l.dp < 0 ∨ l.nd < 0 ∨ l.tx < 0 := by omega
    rw [if_pos h1, if_pos h2] <;> rfl
  · have h1 : ¬ (l.b < 0 ∨ l.dp < 0 ∨ l.nd + 1 < 0 ∨ l.tx < 0) := by omega
    have h2 : ¬ (l.b < 0 ∨ l.dp < 0 ∨ l.nd < 0 ∨ l.tx < 0) := by omega
    rw [if_neg h1, if_neg h2]
    by_cases h3 : l.b < (s.length : Int)
    · simp [h3]
    · simp [h3]

/-- The cursor on all of the data, a level down. -/
def cur (s : List UInt8) (l : L) : C := ⟨s, 0, s.length, l.dp - 1, l.nd, l.tx⟩

theorem cur_left (s : List UInt8) (l : L) : (cur s l).left = s.length := by
  have hsnd : (cur s l).sound = true := by rw [C.sound_iff]; simp [cur]
  have := (cur s l).rest_len
  rw [if_pos hsnd] at this
  rw [this]
  simp [cur]

theorem cur_scan (s : List UInt8) (l : L) (h : (opn s l).2 = 0) : scan s l = sg s.length (cur s l) := by
  have e : cur s l = lower (opn s l).1 (l.dp - 1) := by rw [opn_ok h] <;> rfl
  rw [e, sg_lower]
  simp [scan, h]

def zv : AV := .agg [.int .i64 0, .int .u64 0, .str [], .list [], .list [], .list [], .list []]
def ov (r : List R × Nat) : AV := .tup [if r.2 = 0 then mv (srt r.1) else zv, .int .i64 (r.2 : Nat)]

theorem c11 (s : List UInt8) (l : L) (hl : s.length ≤ 3000) (hd : 1 ≤ l.dp) (hd1 : l.dp < 9223372036854775808) (hn : 0 ≤ l.nd) (hn1 : l.nd ≤ 9999) :
    Fn1 Tryz.prog 11 [pl, .str [77], mv [], .str s, (L.mk l.b l.dp (l.nd + 1) l.tx).av] (ov (scan s l)) := by
  refine fn1_of_awp (rc := r11) (rs := o11) Tryz.func11 rfl rfl Tryz.ntmps11 k11 q11 (by simp) ?_
  have b1 : ((10 : Int) != 10) = false := rfl
  simp only [g11_0, g11_1, g11_2, g11_3, g11_4, g11_5, g11_6, g11_7, g11_8, g11_9, g11_10, g11_11, g11_12, g11_13, g11_14, g11_15, g11_16, g11_17, g11_18, g11_19, r11, o11, pl, mv, L.av, b1, eES, eEX, Nat.reduceBEq, Int.reduceLE, Int.reduceLT, Int.reduceToNat, Int.reduceEq, ↓reduceIte, reduceCtorEq, Nat.reducePow, Nat.reduceAdd, Nat.reduceLeDiff, Nat.reduceLT, Nat.reduceSub, Nat.reduceEqDiff]
  refine aops_call c12 rfl rfl rfl (.inl rfl) ?_
  simp only [b1, eES, eEX, Nat.reduceBEq, Int.reduceLE, Int.reduceLT, Int.reduceToNat, Int.reduceEq, ↓reduceIte, reduceCtorEq, Nat.reducePow, Nat.reduceAdd, Nat.reduceLeDiff, Nat.reduceLT, Nat.reduceSub, Nat.reduceEqDiff]
  refine aops_call (c9 s (L.mk l.b l.dp (l.nd + 1) l.tx)) rfl rfl rfl (.inl rfl) ?_
  rw [opn_more s l hd hn]
  by_cases he : (opn s l).2 = 0
  · rw [if_pos he]
    have d1 : decide (l.dp < 1) = false := by simp; omega
    have w1 : IntKind.i64.wrap (l.dp - 1) = l.dp - 1 := by rw [wi64]; omega
    have hsp : C.spend ⟨s, 0, s.length, l.dp - 1, l.nd + 1, l.tx⟩ 1 = (cur s l, 0) := by
      have w2 : IntKind.i64.wrap (l.nd + 1 - 1) = l.nd := by rw [wi64]; omega
      unfold C.spend
      rw [if_neg (by omega), if_neg (by simp; omega)]
      simp only [w2, cur]
    simp only [cav, C.av, bne00, d1, w1, eES, eEX, Nat.reduceBEq, Int.reduceLE, Int.reduceLT, Int.reduceToNat, Int.reduceEq, ↓reduceIte, reduceCtorEq, Nat.reducePow, Nat.reduceAdd, Nat.reduceLeDiff, Nat.reduceLT, Nat.reduceSub, Nat.reduceEqDiff]
    refine aops_callF (c23 _ _ ⟨s, 0, s.length, l.dp - 1, l.nd + 1, l.tx⟩ 1 52 _ [] (by rfl)) (by simp only [List.map_cons, List.map_nil, eES, eEX, Nat.reduceBEq, Int.reduceLE, Int.reduceLT, Int.reduceToNat, Int.reduceEq, ↓reduceIte, reduceCtorEq, Nat.reducePow, Nat.reduceAdd, Nat.reduceLeDiff, Nat.reduceLT, Nat.reduceSub, Nat.reduceEqDiff]) ?_
    rw [hsp]
    simp only [cur, C.av, bne00, eES, eEX, Nat.reduceBEq, Int.reduceLE, Int.reduceLT, Int.reduceToNat, Int.reduceEq, ↓reduceIte, reduceCtorEq, Nat.reducePow, Nat.reduceAdd, Nat.reduceLeDiff, Nat.reduceLT, Nat.reduceSub, Nat.reduceEqDiff]
    refine aops_callF (c24 (cur s l) hl (by rw [cur_left]; omega) 52 _ [] (by rfl)) (by simp only [List.map_cons, List.map_nil, eES, eEX, Nat.reduceBEq, Int.reduceLE, Int.reduceLT, Int.reduceToNat, Int.reduceEq, ↓reduceIte, reduceCtorEq, Nat.reducePow, Nat.reduceAdd, Nat.reduceLeDiff, Nat.reduceLT, Nat.reduceSub, Nat.reduceEqDiff] <;> rfl) ?_
    have hfs := fl_sg (cur s l).left.toNat (cur s l) []
    have hsl := sg_len s.length (cur s l)
    rw [cur_left, Int.toNat_natCast, ← cur_scan s l he] at hfs
    rw [← cur_scan s l he] at hsl
    rw [cur_left, Int.toNat_natCast]
    generalize fl s.length (cur s l) [] = r at hfs
    obtain ⟨acc, c1, e1⟩ := r
    generalize scan s l = q at hfs hsl
    obtain ⟨fs, e2⟩ := q
    simp only at hfs hsl
    obtain ⟨rfl, hfs⟩ := hfs
    simp only [mv, eES, eEX, Nat.reduceBEq, Int.reduceLE, Int.reduceLT, Int.reduceToNat, Int.reduceEq, ↓reduceIte, reduceCtorEq, Nat.reducePow, Nat.reduceAdd, Nat.reduceLeDiff, Nat.reduceLT, Nat.reduceSub, Nat.reduceEqDiff]
    by_cases h1 : e1 = 0
    · subst h1
      obtain rfl : acc = fs := hfs rfl
      simp only [bne00, eES, eEX, Nat.reduceBEq, Int.reduceLE, Int.reduceLT, Int.reduceToNat, Int.reduceEq, ↓reduceIte, reduceCtorEq, Nat.reducePow, Nat.reduceAdd, Nat.reduceLeDiff, Nat.reduceLT, Nat.reduceSub, Nat.reduceEqDiff]
      refine aops_call (c25 acc (by omega)) rfl rfl rfl (.inl rfl) ?_
      simp only [mv, ov, eES, eEX, Nat.reduceBEq, Int.reduceLE, Int.reduceLT, Int.reduceToNat, Int.reduceEq, ↓reduceIte, reduceCtorEq, Nat.reducePow, Nat.reduceAdd, Nat.reduceLeDiff, Nat.reduceLT, Nat.reduceSub, Nat.reduceEqDiff]
      rfl
    · simp only [bne0_t h1, ov, zv, h1, eES, eEX, Nat.reduceBEq, Int.reduceLE, Int.reduceLT, Int.reduceToNat, Int.reduceEq, ↓reduceIte, reduceCtorEq, Nat.reducePow, Nat.reduceAdd, Nat.reduceLeDiff, Nat.reduceLT, Nat.reduceSub, Nat.reduceEqDiff]
  · rw [if_neg he]
    have hsc : scan s l = ([], (opn s l).2) := by simp [scan, he]
    rw [hsc]
    generalize (opn s l) = o at he
    obtain ⟨c0, e⟩ := o
    simp only at he
    simp only [cav, C.av, bne0_t he, ov, zv, he, eES, eEX, Nat.reduceBEq, Int.reduceLE, Int.reduceLT, Int.reduceToNat, Int.reduceEq, ↓reduceIte, reduceCtorEq, Nat.reducePow, Nat.reduceAdd, Nat.reduceLeDiff, Nat.reduceLT, Nat.reduceSub, Nat.reduceEqDiff]

end Go.Proofs.YtofcnjhnjagncaaGreat.Va

/- tagdec: the law that what a plan does not know is kept. -/
set_option linter.unusedSimpArgs false
namespace Go.Proofs.YtofcnjhnjagncaaGreat.Va
open Go Am Rc Bt Vp Cp Up So

theorem c5 (s : List UInt8) (l : L) (hl : s.length ≤ 3000) (hd : 1 ≤ l.dp) (hd1 : l.dp < 9223372036854775808) (hn : 0 ≤ l.nd) (hn1 : l.nd ≤ 9999) :
    Fn1 Tryz.prog 5 [pl, .str [77], .str s, (L.mk l.b l.dp (l.nd + 1) l.tx).av] (ov (scan s l)) := by
  have hO := c11 s l hl hd hd1 hn hn1
  generalize scan s l = q at hO ⊢
  obtain ⟨fs, e⟩ := q
  refine fn1_of_awp (rc := r5) (rs := o5) Tryz.func5 rfl rfl Tryz.ntmps5 k5 q5 (by simp) ?_
  simp only [g5_0, g5_1, g5_2, g5_3, g5_4, g5_5, g5_6, g5_7, r5, o5, pl, L.av, eES, eEX, Nat.reduceBEq, Int.reduceLE, Int.reduceLT, Int.reduceToNat, Int.reduceEq, ↓reduceIte, reduceCtorEq, Nat.reducePow, Nat.reduceAdd, Nat.reduceLeDiff, Nat.reduceLT, Nat.reduceSub, Nat.reduceEqDiff]
  by_cases he : e = 0
  · subst he
    have hO' : Fn1 Tryz.prog 11 [pl, .str [77], mv [], .str s, (L.mk l.b l.dp (l.nd + 1) l.tx).av] (.tup [mv (srt fs), .int .i64 ((0 : Nat) : Int)]) := hO
    refine aops_call hO' rfl rfl rfl (.inl rfl) ?_
    simp only [mv, bne00, eES, eEX, Nat.reduceBEq, Int.reduceLE, Int.reduceLT, Int.reduceToNat, Int.reduceEq, ↓reduceIte, reduceCtorEq, Nat.reducePow, Nat.reduceAdd, Nat.reduceLeDiff, Nat.reduceLT, Nat.reduceSub, Nat.reduceEqDiff]
    refine aops_call c12 rfl rfl rfl (.inl rfl) ?_
    simp only [eES, eEX, Nat.reduceBEq, Int.reduceLE, Int.reduceLT, Int.reduceToNat, Int.reduceEq, ↓reduceIte, reduceCtorEq, Nat.reducePow, Nat.reduceAdd, Nat.reduceLeDiff, Nat.reduceLT, Nat.reduceSub, Nat.reduceEqDiff]
    refine aops_call (c13 (srt fs)) rfl rfl rfl (.inl rfl) ?_
    simp only [ov, mv, Bool.not_true, eES, eEX, Nat.reduceBEq, Int.reduceLE, Int.reduceLT, Int.reduceToNat, Int.reduceEq, ↓reduceIte, reduceCtorEq, Nat.reducePow, Nat.reduceAdd, Nat.reduceLeDiff, Nat.reduceLT, Nat.reduceSub, Nat.reduceEqDiff]
    rfl
  · have hO' : Fn1 Tryz.prog 11 [pl, .str [77], mv [], .str s, (L.mk l.b l.dp (l.nd + 1) l.tx).av] (.tup [zv, .int .i64 (e : Int)]) := by simpa [ov, he] using hO
    refine aops_call hO' rfl rfl rfl (.inl rfl) ?_
    simp only [zv, bne0_t he, ov, he, eES, eEX, Nat.reduceBEq, Int.reduceLE, Int.reduceLT, Int.reduceToNat, Int.reduceEq, ↓reduceIte, reduceCtorEq, Nat.reducePow, Nat.reduceAdd, Nat.reduceLeDiff, Nat.reduceLT, Nat.reduceSub, Nat.reduceEqDiff]

theorem len_srt (l : List R) : (srt l).length = l.length := len_isort l

theorem c3 (s : List UInt8) (l : L) (hd1 : l.dp < 9223372036854775808) : Fn1 Tryz.prog 3 [.str s, l.av] (.bool true) := by
  refine fn1_of_awp (rc := r3) (rs := o3) Tryz.func3 rfl rfl Tryz.ntmps3 k3 q3 (by simp) ?_
  simp only [g3_0, g3_1, g3_2, g3_3, g3_4, g3_5, g3_6, g3_7, g3_8, g3_9, r3, o3, L.av, eES, eEX, Nat.reduceBEq, Int.reduceLE, Int.reduceLT, Int.reduceToNat, Int.reduceEq, ↓reduceIte, reduceCtorEq, Nat.reducePow, Nat.reduceAdd, Nat.reduceLeDiff, Nat.reduceLT, Nat.reduceSub, Nat.reduceEqDiff]
  by_cases g1 : (s.length : Int) > 3000
  · simp only [decide_eq_true g1, eES, eEX, Nat.reduceBEq, Int.reduceLE, Int.reduceLT, Int.reduceToNat, Int.reduceEq, ↓reduceIte, reduceCtorEq, Nat.reducePow, Nat.reduceAdd, Nat.reduceLeDiff, Nat.reduceLT, Nat.reduceSub, Nat.reduceEqDiff]
  by_cases g2 : l.nd < 0
  · simp only [decide_eq_false g1, decide_eq_true g2, eES, eEX, Nat.reduceBEq, Int.reduceLE, Int.reduceLT, Int.reduceToNat, Int.reduceEq, ↓reduceIte, reduceCtorEq, Nat.reducePow, Nat.reduceAdd, Nat.reduceLeDiff, Nat.reduceLT, Nat.reduceSub, Nat.reduceEqDiff]
  by_cases g3 : l.nd > 9999
  · simp only [decide_eq_false g1, decide_eq_false g2, decide_eq_true g3, eES, eEX, Nat.reduceBEq, Int.reduceLE, Int.reduceLT, Int.reduceToNat, Int.reduceEq, ↓reduceIte, reduceCtorEq, Nat.reducePow, Nat.reduceAdd, Nat.reduceLeDiff, Nat.reduceLT, Nat.reduceSub, Nat.reduceEqDiff]
  by_cases g4 : l.dp < 1
  · simp only [decide_eq_false g1, decide_eq_false g2, decide_eq_false g3, decide_eq_true g4, eES, eEX, Nat.reduceBEq, Int.reduceLE, Int.reduceLT, Int.reduceToNat, Int.reduceEq, ↓reduceIte, reduceCtorEq, Nat.reducePow, Nat.reduceAdd, Nat.reduceLeDiff, Nat.reduceLT, Nat.reduceSub, Nat.reduceEqDiff]
  have hl : s.length ≤ 3000 := by omega
  have w1 : IntKind.i64.wrap (l.nd + 1) = l.nd + 1 := by rw [wi64]; omega
  simp only [decide_eq_false g1, decide_eq_false g2, decide_eq_false g3, decide_eq_false g4, eES, eEX, Nat.reduceBEq, Int.reduceLE, Int.reduceLT, Int.reduceToNat, Int.reduceEq, ↓reduceIte, reduceCtorEq, Nat.reducePow, Nat.reduceAdd, Nat.reduceLeDiff, Nat.reduceLT, Nat.reduceSub, Nat.reduceEqDiff]
  have hS := c4 s l (by omega)
  have hD := c5 s l hl (by omega) hd1 (by omega) (by omega)
  have hsl : (scan s l).1.length ≤ s.length := by
    unfold scan
    simp only
    split
    · exact sg_len _ _
    · simp
  generalize scan s l = q at hS hD hsl
  obtain ⟨fs, e⟩ := q
  simp only at hsl
  refine aops_call hS rfl rfl rfl (.inl rfl) ?_
  simp only [scv, w1, eES, eEX, Nat.reduceBEq, Int.reduceLE, Int.reduceLT, Int.reduceToNat, Int.reduceEq, ↓reduceIte, reduceCtorEq, Nat.reducePow, Nat.reduceAdd, Nat.reduceLeDiff, Nat.reduceLT, Nat.reduceSub, Nat.reduceEqDiff]
  refine aops_bslA rfl rfl (by decide) rfl rfl ?_
  simp only [w1, List.map_cons, List.map_nil, nn0, eES, eEX, Nat.reduceBEq, Int.reduceLE, Int.reduceLT, Int.reduceToNat, Int.reduceEq, ↓reduceIte, reduceCtorEq, Nat.reducePow, Nat.reduceAdd, Nat.reduceLeDiff, Nat.reduceLT, Nat.reduceSub, Nat.reduceEqDiff]
  by_cases he : e = 0
  · subst he
    have hD' : Fn1 Tryz.prog 5 [pl, .str [77], .str s, (L.mk l.b l.dp (l.nd + 1) l.tx).av] (.tup [mv (srt fs), .int .i64 ((0 : Nat) : Int)]) := hD
    have b0 : (((0 : Nat) : Int) == 0) = true := rfl
    refine aops_call hD' rfl rfl rfl (.inl rfl) ?_
    simp only [mv, bne00, b0, eES, eEX, Nat.reduceBEq, Int.reduceLE, Int.reduceLT, Int.reduceToNat, Int.reduceEq, ↓reduceIte, reduceCtorEq, Nat.reducePow, Nat.reduceAdd, Nat.reduceLeDiff, Nat.reduceLT, Nat.reduceSub, Nat.reduceEqDiff]
    refine aops_call (c8 fs (by omega)) rfl rfl rfl (.inl rfl) ?_
    simp only [eES, eEX, Nat.reduceBEq, Int.reduceLE, Int.reduceLT, Int.reduceToNat, Int.reduceEq, ↓reduceIte, reduceCtorEq, Nat.reducePow, Nat.reduceAdd, Nat.reduceLeDiff, Nat.reduceLT, Nat.reduceSub, Nat.reduceEqDiff]
    refine aops_call (c7 (srt fs) (by rw [len_srt]; omega)) rfl rfl rfl (.inl rfl) ?_
    simp only [eES, eEX, Nat.reduceBEq, Int.reduceLE, Int.reduceLT, Int.reduceToNat, Int.reduceEq, ↓reduceIte, reduceCtorEq, Nat.reducePow, Nat.reduceAdd, Nat.reduceLeDiff, Nat.reduceLT, Nat.reduceSub, Nat.reduceEqDiff]
    refine aops_call Ev.awake_ok rfl rfl rfl (.inl rfl) ?_
    simp only [eES, eEX, Nat.reduceBEq, Int.reduceLE, Int.reduceLT, Int.reduceToNat, Int.reduceEq, ↓reduceIte, reduceCtorEq, Nat.reducePow, Nat.reduceAdd, Nat.reduceLeDiff, Nat.reduceLT, Nat.reduceSub, Nat.reduceEqDiff]
  · have hD' : Fn1 Tryz.prog 5 [pl, .str [77], .str s, (L.mk l.b l.dp (l.nd + 1) l.tx).av] (.tup [zv, .int .i64 (e : Int)]) := by simpa [ov, he] using hD
    refine aops_call hD' rfl rfl rfl (.inl rfl) ?_
    simp only [zv, bne0_t he, beq_self_eq_true, eES, eEX, Nat.reduceBEq, Int.reduceLE, Int.reduceLT, Int.reduceToNat, Int.reduceEq, ↓reduceIte, reduceCtorEq, Nat.reducePow, Nat.reduceAdd, Nat.reduceLeDiff, Nat.reduceLT, Nat.reduceSub, Nat.reduceEqDiff]
    refine aops_call Ev.awake_ok rfl rfl rfl (.inl rfl) ?_
    simp only [eES, eEX, Nat.reduceBEq, Int.reduceLE, Int.reduceLT, Int.reduceToNat, Int.reduceEq, ↓reduceIte, reduceCtorEq, Nat.reducePow, Nat.reduceAdd, Nat.reduceLeDiff, Nat.reduceLT, Nat.reduceSub, Nat.reduceEqDiff]

end Go.Proofs.YtofcnjhnjagncaaGreat.Va

/- Arguments that are structs of texts and numbers: opened and shut. -/
namespace Go.Proofs.YtofcnjhnjagncaaGreat.Br
open Go Am Go.RowKit Go.WideShapes Go.ChangeShapes Go.ChangeAt Go.Joins Go.Deep Go.WideElems Go.Maps

section
variable {H : Type} {enc : TypeId × Value → H} {P : Program} {W : World} {base : Nat} {sp : Nat → Bool} {held : Bool}

theorem array6 {α : Type} {cs : Array α} (h : cs.size = 6) : ∃ c0 c1 c2 c3 c4 c5, cs = #[c0, c1, c2, c3, c4, c5] := by
  obtain ⟨l⟩ := cs
  match l, h with
  | [c0, c1, c2, c3, c4, c5], _ => exact ⟨c0, c1, c2, c3, c4, c5, rfl⟩

/-- What the fields of a struct of one-cell fields read. -/
theorem open_six {r : Reach} {b0 : Nat} {t : TypeId} {f0 f1 f2 f3 f4 f5 : Field} {v : Value} {d : DataW H} {p : List MemPlace} (hs : P.underlying t = some (.struct #[f0, f1, f2, f3, f4, f5])) (hone : oneCellFields P #[f0, f1, f2, f3, f4, f5] = true) (hC : P.cellsOf t = 6)
    (hv : Value.okWide P W r b0 t v) (h : DataW.Trod enc P W base sp held t v d p) :
    ∃ (v0 v1 v2 v3 v4 v5 : Value) (y0 y1 y2 y3 y4 y5 : DataW H × List MemPlace) (n : Nat), v = .agg #[v0, v1, v2, v3, v4, v5] ∧ d = .agg [y0.1, y1.1, y2.1, y3.1, y4.1, y5.1] ∧ p = y0.2 ++ (y1.2 ++ (y2.2 ++ (y3.2 ++ (y4.2 ++ y5.2)))) ∧
      DataW.trod enc P W base sp held n f0.type [v0] = some y0 ∧ DataW.trod enc P W base sp held n f1.type [v1] = some y1 ∧ DataW.trod enc P W base sp held n f2.type [v2] = some y2 ∧ DataW.trod enc P W base sp held n f3.type [v3] = some y3 ∧
      DataW.trod enc P W base sp held n f4.type [v4] = some y4 ∧ DataW.trod enc P W base sp held n f5.type [v5] = some y5 := by
  obtain ⟨cs, rfl, hsz⟩ := okWide_struct hs hv
  obtain ⟨c0, c1, c2, c3, c4, c5, rfl⟩ := array6 (hsz.trans hC)
  obtain ⟨fuel, hf⟩ := h
  obtain ⟨xs, n, _, hx, _, hlen, hg⟩ := DataW.trod_struct hs hf
  have ho := fun i f => hone_of hone i f
  match xs, hlen with
  | [y0, y1, y2, y3, y4, y5], _ =>
    obtain ⟨o0, k0⟩ := ho 0 f0 rfl
    obtain ⟨o1, k1⟩ := ho 1 f1 rfl
    obtain ⟨o2, k2⟩ := ho 2 f2 rfl
    obtain ⟨o3, k3⟩ := ho 3 f3 rfl
    obtain ⟨o4, k4⟩ := ho 4 f4 rfl
    obtain ⟨o5, k5⟩ := ho 5 f5 rfl
    simp only [Prod.mk.injEq] at hx
    refine ⟨c0, c1, c2, c3, c4, c5, y0, y1, y2, y3, y4, y5, n, rfl, by rw [hx.1]; rfl, by rw [hx.2]; simp, ?_, ?_, ?_, ?_, ?_, ?_⟩
    · simpa [Value.cells, o0, k0] using hg 0 f0 rfl
    · simpa [Value.cells, o1, k1] using hg 1 f1 rfl
    · simpa [Value.cells, o2, k2] using hg 2 f2 rfl
    · simpa [Value.cells, o3, k3] using hg 3 f3 rfl
    · simpa [Value.cells, o4, k4] using hg 4 f4 rfl
    · simpa [Value.cells, o5, k5] using hg 5 f5 rfl

/-- A text and five numbers. -/
theorem open_cur {r : Reach} {b0 : Nat} {t ts ti : TypeId} {f0 f1 f2 f3 f4 f5 : Field} {v : Value} {d : DataW H} {p : List MemPlace} (hs : P.underlying t = some (.struct #[f0, f1, f2, f3, f4, f5])) (hone : oneCellFields P #[f0, f1, f2, f3, f4, f5] = true) (hC : P.cellsOf t = 6)
    (hts : P.underlying ts = some .string) (hti : P.underlying ti = some (.int .i64)) (hf : f0.type = ts ∧ f1.type = ti ∧ f2.type = ti ∧ f3.type = ti ∧ f4.type = ti ∧ f5.type = ti)
    (hv : Value.okWide P W r b0 t v) (h : DataW.Trod enc P W base sp held t v d p) :
    ∃ (s : ByteArray) (a b c e g : Int), v = .agg #[.string s, .int .i64 a, .int .i64 b, .int .i64 c, .int .i64 e, .int .i64 g] ∧ d = .agg [.lit (.string s.data.toList), .lit (.int .i64 a), .lit (.int .i64 b), .lit (.int .i64 c), .lit (.int .i64 e), .lit (.int .i64 g)] ∧ p = [] ∧
      s.size ≤ maxLen ∧ (Lit.int .i64 a).wf = true ∧ (Lit.int .i64 b).wf = true ∧ (Lit.int .i64 c).wf = true ∧ (Lit.int .i64 e).wf = true ∧ (Lit.int .i64 g).wf = true := by
  obtain ⟨v0, v1, v2, v3, v4, v5, y0, y1, y2, y3, y4, y5, n, rfl, rfl, rfl, h0, h1, h2, h3, h4, h5⟩ := open_six hs hone hC hv h
  obtain ⟨t0, t1, t2, t3, t4, t5⟩ := hf
  rw [t0] at h0
  rw [t1] at h1
  rw [t2] at h2
  rw [t3] at h3
  rw [t4] at h4
  rw [t5] at h5
  obtain ⟨s, e0, rfl, w0⟩ := DataW.trod_string hts h0
  obtain ⟨a, e1, rfl, w1⟩ := DataW.trod_int hti h1
  obtain ⟨b, e2, rfl, w2⟩ := DataW.trod_int hti h2
  obtain ⟨c, e3, rfl, w3⟩ := DataW.trod_int hti h3
  obtain ⟨e, e4, rfl, w4⟩ := DataW.trod_int hti h4
  obtain ⟨g, e5, rfl, w5⟩ := DataW.trod_int hti h5
  simp at e0 e1 e2 e3 e4 e5
  subst e0 e1 e2 e3 e4 e5
  exact ⟨s, a, b, c, e, g, rfl, rfl, rfl, w0, w1, w2, w3, w4, w5⟩

theorem shut_cur {t ts ti : TypeId} {f0 f1 f2 f3 f4 f5 : Field} (hs : P.underlying t = some (.struct #[f0, f1, f2, f3, f4, f5])) (hone : oneCellFields P #[f0, f1, f2, f3, f4, f5] = true) (hC : P.cellsOf t = 6)
    (hts : P.underlying ts = some .string) (hti : P.underlying ti = some (.int .i64)) (hf : f0.type = ts ∧ f1.type = ti ∧ f2.type = ti ∧ f3.type = ti ∧ f4.type = ti ∧ f5.type = ti)
    {s : ByteArray} {a b c e g : Int} (w0 : s.size ≤ maxLen) (w1 : (Lit.int .i64 a).wf = true) (w2 : (Lit.int .i64 b).wf = true) (w3 : (Lit.int .i64 c).wf = true) (w4 : (Lit.int .i64 e).wf = true) (w5 : (Lit.int .i64 g).wf = true) :
    DataW.Trod enc P W base sp held t (.agg #[.string s, .int .i64 a, .int .i64 b, .int .i64 c, .int .i64 e, .int .i64 g]) (.agg [.lit (.string s.data.toList), .lit (.int .i64 a), .lit (.int .i64 b), .lit (.int .i64 c), .lit (.int .i64 e), .lit (.int .i64 g)]) [] := by
  have hint : ∀ n : Int, (Lit.int .i64 n).wf = true → DataW.trod enc P W base sp held 1 ti [.int .i64 n] = some (.lit (.int .i64 n), []) := fun n hn => by simp [DataW.trod, hti, hn]
  have hstr : DataW.trod enc P W base sp held 1 ts [.string s] = some (.lit (.string s.data.toList), []) := by simp [DataW.trod, hts, w0]
  obtain ⟨t0, t1, t2, t3, t4, t5⟩ := hf
  have ho := fun i f => hone_of hone i f
  obtain ⟨o0, k0⟩ := ho 0 f0 rfl
  obtain ⟨o1, k1⟩ := ho 1 f1 rfl
  obtain ⟨o2, k2⟩ := ho 2 f2 rfl
  obtain ⟨o3, k3⟩ := ho 3 f3 rfl
  obtain ⟨o4, k4⟩ := ho 4 f4 rfl
  obtain ⟨o5, k5⟩ := ho 5 f5 rfl
  have := trod_struct_mk (enc := enc) (w := W) (base := base) (spare := sp) (held := held) (n := 1) (cs := [.string s, .int .i64 a, .int .i64 b, .int .i64 c, .int .i64 e, .int .i64 g])
    (xs := [(.lit (.string s.data.toList), []), (.lit (.int .i64 a), []), (.lit (.int .i64 b), []), (.lit (.int .i64 c), []), (.lit (.int .i64 e), []), (.lit (.int .i64 g), [])]) hs (by rw [hC]; rfl)
    (by rw [t0] at k0; rw [t1] at k1; rw [t2] at k2; rw [t3] at k3; rw [t4] at k4; rw [t5] at k5
        simp [o0, o1, o2, o3, o4, o5, k0, k1, t0, t1, t2, t3, t4, t5, hstr, hint _ w1, hint _ w2, hint _ w3, hint _ w4, hint _ w5])
  exact ⟨_, by simpa [Value.cells] using this⟩

theorem rep_cur {G : Gh} (s : ByteArray) (a b c e g : Int) : Rep G (.agg [.str s.data.toList, .int .i64 a, .int .i64 b, .int .i64 c, .int .i64 e, .int .i64 g]) (.agg #[.string s, .int .i64 a, .int .i64 b, .int .i64 c, .int .i64 e, .int .i64 g]) :=
  .agg (.cons (rep_str _) (.cons (.int _ _) (.cons (.int _ _) (.cons (.int _ _) (.cons (.int _ _) (.cons (.int _ _) .nil))))))

/-- Four numbers. -/
theorem open_lim {r : Reach} {b0 : Nat} {t ti : TypeId} {f0 f1 f2 f3 : Field} {v : Value} {d : DataW H} {p : List MemPlace} (hs : P.underlying t = some (.struct #[f0, f1, f2, f3])) (hone : oneCellFields P #[f0, f1, f2, f3] = true) (hC : P.cellsOf t = 4)
    (hti : P.underlying ti = some (.int .i64)) (hf : f0.type = ti ∧ f1.type = ti ∧ f2.type = ti ∧ f3.type = ti)
    (hv : Value.okWide P W r b0 t v) (h : DataW.Trod enc P W base sp held t v d p) :
    ∃ (a b c e : Int), v = .agg #[.int .i64 a, .int .i64 b, .int .i64 c, .int .i64 e] ∧ d = .agg [.lit (.int .i64 a), .lit (.int .i64 b), .lit (.int .i64 c), .lit (.int .i64 e)] ∧ p = [] ∧
      (Lit.int .i64 a).wf = true ∧ (Lit.int .i64 b).wf = true ∧ (Lit.int .i64 c).wf = true ∧ (Lit.int .i64 e).wf = true := by
  obtain ⟨v0, v1, v2, v3, y0, y1, y2, y3, n, rfl, rfl, rfl, h0, h1, h2, h3⟩ := open_agg4 hs hone hC hv h
  obtain ⟨t0, t1, t2, t3⟩ := hf
  rw [t0] at h0
  rw [t1] at h1
  rw [t2] at h2
  rw [t3] at h3
  obtain ⟨a, e0, rfl, w0⟩ := DataW.trod_int hti h0
  obtain ⟨b, e1, rfl, w1⟩ := DataW.trod_int hti h1
  obtain ⟨c, e2, rfl, w2⟩ := DataW.trod_int hti h2
  obtain ⟨e, e3, rfl, w3⟩ := DataW.trod_int hti h3
  simp at e0 e1 e2 e3
  subst e0 e1 e2 e3
  exact ⟨a, b, c, e, rfl, rfl, rfl, w0, w1, w2, w3⟩

theorem shut_lim {t ti : TypeId} {f0 f1 f2 f3 : Field} (hs : P.underlying t = some (.struct #[f0, f1, f2, f3])) (hone : oneCellFields P #[f0, f1, f2, f3] = true) (hC : P.cellsOf t = 4)
    (hti : P.underlying ti = some (.int .i64)) (hf : f0.type = ti ∧ f1.type = ti ∧ f2.type = ti ∧ f3.type = ti) {a b c e : Int} (w1 : (Lit.int .i64 a).wf = true) (w2 : (Lit.int .i64 b).wf = true) (w3 : (Lit.int .i64 c).wf = true) (w4 : (Lit.int .i64 e).wf = true) :
    DataW.Trod enc P W base sp held t (.agg #[.int .i64 a, .int .i64 b, .int .i64 c, .int .i64 e]) (.agg [.lit (.int .i64 a), .lit (.int .i64 b), .lit (.int .i64 c), .lit (.int .i64 e)]) [] := by
  have hint : ∀ n : Int, (Lit.int .i64 n).wf = true → ∃ m, DataW.trod enc P W base sp held m ti [.int .i64 n] = some (.lit (.int .i64 n), []) := fun n hn => ⟨1, by simp [DataW.trod, hti, hn]⟩
  obtain ⟨t0, t1, t2, t3⟩ := hf
  have := shut_agg4 (enc := enc) (w := W) (base := base) (spare := sp) (held := held) (y0 := (.lit (.int .i64 a), [])) (y1 := (.lit (.int .i64 b), [])) (y2 := (.lit (.int .i64 c), [])) (y3 := (.lit (.int .i64 e), [])) hs hone hC
    (by rw [t0]; exact hint _ w1) (by rw [t1]; exact hint _ w2) (by rw [t2]; exact hint _ w3) (by rw [t3]; exact hint _ w4)
  simpa using this

theorem rep_lim {G : Gh} (a b c e : Int) : Rep G (.agg [.int .i64 a, .int .i64 b, .int .i64 c, .int .i64 e]) (.agg #[.int .i64 a, .int .i64 b, .int .i64 c, .int .i64 e]) :=
  .agg (.cons (.int _ _) (.cons (.int _ _) (.cons (.int _ _) (.cons (.int _ _) .nil))))

end

end Go.Proofs.YtofcnjhnjagncaaGreat.Br

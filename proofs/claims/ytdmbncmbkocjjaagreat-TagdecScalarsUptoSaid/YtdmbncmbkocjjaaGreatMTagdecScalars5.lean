/- Parts of the proof, in order. -/
import Derived.WideKeyArr2
import Derived.Test.YtdmbncmbkocjjaaGreatMTagdecScalars4

/- Scalars: what fits; comparing; texts. -/
set_option linter.unusedSimpArgs false
namespace Go.Proofs.YtdmbncmbkocjjaaGreat.Va
open Go Am Rc Bt Br Vp

theorem aops_callE {P : Program} {f : Fr} {m : Mem} {ds : List DF} {K : St → Prop} {its : List Am.Item} {d k : Nat} {args : List RA} {ys : List AV} {v : AV} (hk : Fn1 P k ys v) (hy : AV.stillL false m (args.map (RA.ev f)) = some ys) (h1 : AV.rfL ys = true) (h2 : v.rf = true) (h3 : AV.rfL (args.map (RA.ev f)) = true ∨ v.nl = true) (h : aops P its ⟨upd f d v, m, ds⟩ K) :
    aops P (⟨some d, .callR (.f k) args, none⟩ :: its) ⟨f, m, ds⟩ K :=
  aops_callR (R := (· = v)) hk hy h1 (fun _ e => by subst e; exact ⟨h2, h3⟩) (fun _ e => by subst e; exact h)

theorem x14 (k : Int) (b : Nat) (hk : isk k = true) (ht : txk k = false) : Fn1 Tryz.prog 14 [.int .i64 k, sv k b []] (.bool (fitn k b)) := by
  have k7 : (k != 7) = true := by
    simp only [txk, Bool.or_eq_false_iff, beq_eq_false_iff_ne] at ht
    simp [ht.1]
  have hl := x37 k b
  rw [ht] at hl
  simp only [sv, Bool.not_false, Bool.true_or] at hl
  have d0 : decide (((0 : Nat) : Int) > 4096) = false := rfl
  refine fn1_of_awp (rc := r14) (rs := o14) Tryz.func14 rfl rfl Tryz.ntmps14 k14 q14 (by simp) ?_
  simp only [g14_0, g14_1, g14_2, g14_3, r14, o14, sv, eES, eEX, Nat.reduceBEq, Int.reduceLE, Int.reduceLT, Int.reduceToNat, Int.reduceEq, ↓reduceIte, reduceCtorEq, Nat.reducePow, Nat.reduceAdd, Nat.reduceLeDiff, Nat.reduceLT, Nat.reduceSub, Nat.reduceEqDiff]
  refine aops_call (x10 k) rfl rfl rfl (.inl rfl) ?_
  simp only [hk, bne_self_eq_false, eES, eEX, Nat.reduceBEq, Int.reduceLE, Int.reduceLT, Int.reduceToNat, Int.reduceEq, ↓reduceIte, reduceCtorEq, Nat.reducePow, Nat.reduceAdd, Nat.reduceLeDiff, Nat.reduceLT, Nat.reduceSub, Nat.reduceEqDiff]
  refine aops_call hl rfl rfl rfl (.inl rfl) ?_
  simp only [eES, eEX, Nat.reduceBEq, Int.reduceLE, Int.reduceLT, Int.reduceToNat, Int.reduceEq, ↓reduceIte, reduceCtorEq, Nat.reducePow, Nat.reduceAdd, Nat.reduceLeDiff, Nat.reduceLT, Nat.reduceSub, Nat.reduceEqDiff]
  refine aops_call (x38 k b) rfl rfl rfl (.inl rfl) ?_
  cases hf : fitn k b <;> simp only [k7, d0, List.length_nil, eES, eEX, Nat.reduceBEq, Int.reduceLE, Int.reduceLT, Int.reduceToNat, Int.reduceEq, ↓reduceIte, reduceCtorEq, Nat.reducePow, Nat.reduceAdd, Nat.reduceLeDiff, Nat.reduceLT, Nat.reduceSub, Nat.reduceEqDiff]

theorem x21 (k : Int) (b : Nat) (hk : isk k = true) (ht : txk k = false) : Fn1 Tryz.prog 21 [.int .i64 k, sv k b []] (.bool (fitn k b)) := by
  have hl := x45 k b []
  simp only [sv] at hl
  have a0 : astr .neq [] [] = some (.bool false) := rfl
  refine fn1_of_awp (rc := r21) (rs := o21) Tryz.func21 rfl rfl Tryz.ntmps21 k21 q21 (by simp) ?_
  simp only [g21_0, g21_1, g21_2, g21_3, g21_4, g21_5, g21_6, g21_7, g21_8, g21_9, g21_10, g21_11, g21_12, g21_13, g21_14, g21_15, g21_16, g21_17, r21, o21, sv, eES, eEX, Nat.reduceBEq, Int.reduceLE, Int.reduceLT, Int.reduceToNat, Int.reduceEq, ↓reduceIte, reduceCtorEq, Nat.reducePow, Nat.reduceAdd, Nat.reduceLeDiff, Nat.reduceLT, Nat.reduceSub, Nat.reduceEqDiff]
  refine aops_callE (x17 k) rfl rfl rfl (.inl rfl) ?_
  simp only [hk, bne_self_eq_false, eES, eEX, Nat.reduceBEq, Int.reduceLE, Int.reduceLT, Int.reduceToNat, Int.reduceEq, ↓reduceIte, reduceCtorEq, Nat.reducePow, Nat.reduceAdd, Nat.reduceLeDiff, Nat.reduceLT, Nat.reduceSub, Nat.reduceEqDiff]
  refine aops_callE hl rfl rfl rfl (.inl rfl) ?_
  simp only [eES, eEX, Nat.reduceBEq, Int.reduceLE, Int.reduceLT, Int.reduceToNat, Int.reduceEq, ↓reduceIte, reduceCtorEq, Nat.reducePow, Nat.reduceAdd, Nat.reduceLeDiff, Nat.reduceLT, Nat.reduceSub, Nat.reduceEqDiff]
  refine aops_callE (x46 k) rfl rfl rfl (.inl rfl) ?_
  simp only [ht, a0, eES, eEX, Nat.reduceBEq, Int.reduceLE, Int.reduceLT, Int.reduceToNat, Int.reduceEq, ↓reduceIte, reduceCtorEq, Nat.reducePow, Nat.reduceAdd, Nat.reduceLeDiff, Nat.reduceLT, Nat.reduceSub, Nat.reduceEqDiff]
  unfold fitn
  by_cases h1 : k = 1
  · subst h1
    have b1 : ((1 : Int) == 1) = true := rfl
    simp only [b1, if_true, eES, eEX, Nat.reduceBEq, Int.reduceLE, Int.reduceLT, Int.reduceToNat, Int.reduceEq, ↓reduceIte, reduceCtorEq, Nat.reducePow, Nat.reduceAdd, Nat.reduceLeDiff, Nat.reduceLT, Nat.reduceSub, Nat.reduceEqDiff]
  · have b1 : (k == 1) = false := by simp [h1]
    by_cases h2 : k = 2
    · subst h2
      have b2 : ((2 : Int) == 2) = true := rfl
      simp only [b1, b2, h1, if_false, eES, eEX, Nat.reduceBEq, Int.reduceLE, Int.reduceLT, Int.reduceToNat, Int.reduceEq, ↓reduceIte, reduceCtorEq, Nat.reducePow, Nat.reduceAdd, Nat.reduceLeDiff, Nat.reduceLT, Nat.reduceSub, Nat.reduceEqDiff]
      cases hd : decide (IntKind.i64.wrap (b : Int) ≥ -2147483648) <;> simp only [hd, Bool.true_and, Bool.false_and, eES, eEX, Nat.reduceBEq, Int.reduceLE, Int.reduceLT, Int.reduceToNat, Int.reduceEq, ↓reduceIte, reduceCtorEq, Nat.reducePow, Nat.reduceAdd, Nat.reduceLeDiff, Nat.reduceLT, Nat.reduceSub, Nat.reduceEqDiff]
    · have b2 : (k == 2) = false := by simp [h2]
      by_cases h4 : k = 4
      · subst h4
        have b4 : ((4 : Int) == 4) = true := rfl
        simp only [b1, b2, b4, h1, h2, if_false, eES, eEX, Nat.reduceBEq, Int.reduceLE, Int.reduceLT, Int.reduceToNat, Int.reduceEq, ↓reduceIte, reduceCtorEq, Nat.reducePow, Nat.reduceAdd, Nat.reduceLeDiff, Nat.reduceLT, Nat.reduceSub, Nat.reduceEqDiff]
      · have b4 : (k == 4) = false := by simp [h4]
        by_cases h9 : k = 9
        · subst h9
          have b9 : ((9 : Int) == 9) = true := rfl
          simp only [b1, b2, b9, b4, h1, h2, h4, if_false, eES, eEX, Nat.reduceBEq, Int.reduceLE, Int.reduceLT, Int.reduceToNat, Int.reduceEq, ↓reduceIte, reduceCtorEq, Nat.reducePow, Nat.reduceAdd, Nat.reduceLeDiff, Nat.reduceLT, Nat.reduceSub, Nat.reduceEqDiff]
        · have b9 : (k == 9) = false := by simp [h9]
          simp only [b1, b2, b9, b4, h1, h2, h4, h9, if_false, eES, eEX, Nat.reduceBEq, Int.reduceLE, Int.reduceLT, Int.reduceToNat, Int.reduceEq, ↓reduceIte, reduceCtorEq, Nat.reducePow, Nat.reduceAdd, Nat.reduceLeDiff, Nat.reduceLT, Nat.reduceSub, Nat.reduceEqDiff]

theorem x108 (k : Int) : Fn1 Tryz.prog 108 [.int .i64 k] (.bool (k == 2 || k == 3)) := by
  refine fn1_of_awp (rc := r108) (rs := o108) Tryz.func108 rfl rfl Tryz.ntmps108 k108 q108 (by simp) ?_
  simp only [g108_0, g108_1, r108, o108, eES, eEX, Nat.reduceBEq, Int.reduceLE, Int.reduceLT, Int.reduceToNat, Int.reduceEq, ↓reduceIte, reduceCtorEq, Nat.reducePow, Nat.reduceAdd, Nat.reduceLeDiff, Nat.reduceLT, Nat.reduceSub, Nat.reduceEqDiff]
  cases h : (k == 2) <;> simp only [h, Bool.true_or, Bool.false_or, eES, eEX, Nat.reduceBEq, Int.reduceLE, Int.reduceLT, Int.reduceToNat, Int.reduceEq, ↓reduceIte, reduceCtorEq, Nat.reducePow, Nat.reduceAdd, Nat.reduceLeDiff, Nat.reduceLT, Nat.reduceSub, Nat.reduceEqDiff]

/-- A number's place. -/
def rnk (k : Int) (b : Nat) : Int :=
  if (k == 2 || k == 3) = true then IntKind.u64.wrap ((b : Int) + 9223372036854775808) else if (k != 6) = true then (b : Int) else if cls b = 0 then 18446744073709551615
  else if decide ((b : Int) ≥ 9223372036854775808) = true then IntKind.u64.wrap (18446744073709551615 - (b : Int)) else IntKind.u64.wrap ((b : Int) + 9223372036854775808)

theorem x90 (k : Int) (b : Nat) (t : List UInt8) : Fn1 Tryz.prog 90 [sv k b t] (.int .u64 (rnk k b)) := by
  refine fn1_of_awp (rc := r90) (rs := o90) Tryz.func90 rfl rfl Tryz.ntmps90 k90 q90 (by simp) ?_
  simp only [g90_0, g90_1, g90_2, g90_3, g90_4, g90_5, g90_6, g90_7, g90_8, g90_9, r90, o90, sv, eES, eEX, Nat.reduceBEq, Int.reduceLE, Int.reduceLT, Int.reduceToNat, Int.reduceEq, ↓reduceIte, reduceCtorEq, Nat.reducePow, Nat.reduceAdd, Nat.reduceLeDiff, Nat.reduceLT, Nat.reduceSub, Nat.reduceEqDiff]
  refine aops_call (x108 k) rfl rfl rfl (.inl rfl) ?_
  unfold rnk
  cases h1 : (k == 2 || k == 3)
  · cases h2 : (k != 6)
    · simp only [h2, eES, eEX, Nat.reduceBEq, Int.reduceLE, Int.reduceLT, Int.reduceToNat, Int.reduceEq, ↓reduceIte, reduceCtorEq, Nat.reducePow, Nat.reduceAdd, Nat.reduceLeDiff, Nat.reduceLT, Nat.reduceSub, Nat.reduceEqDiff]
      refine aops_call (x47 b) rfl rfl rfl (.inl rfl) ?_
      by_cases h3 : cls b = 0
      · simp only [h3, zero_eq, if_true, if_false, Bool.false_eq_true, eES, eEX, Nat.reduceBEq, Int.reduceLE, Int.reduceLT, Int.reduceToNat, Int.reduceEq, ↓reduceIte, reduceCtorEq, Nat.reducePow, Nat.reduceAdd, Nat.reduceLeDiff, Nat.reduceLT, Nat.reduceSub, Nat.reduceEqDiff]
      · cases h4 : decide ((b : Int) ≥ 9223372036854775808) <;> simp only [cls0, h3, h4, decide_false, if_true, if_false, Bool.false_eq_true, eES, eEX, Nat.reduceBEq, Int.reduceLE, Int.reduceLT, Int.reduceToNat, Int.reduceEq, ↓reduceIte, reduceCtorEq, Nat.reducePow, Nat.reduceAdd, Nat.reduceLeDiff, Nat.reduceLT, Nat.reduceSub, Nat.reduceEqDiff]
    · simp only [h2, if_true, if_false, Bool.false_eq_true, eES, eEX, Nat.reduceBEq, Int.reduceLE, Int.reduceLT, Int.reduceToNat, Int.reduceEq, ↓reduceIte, reduceCtorEq, Nat.reducePow, Nat.reduceAdd, Nat.reduceLeDiff, Nat.reduceLT, Nat.reduceSub, Nat.reduceEqDiff]
  · simp only [if_true, eES, eEX, Nat.reduceBEq, Int.reduceLE, Int.reduceLT, Int.reduceToNat, Int.reduceEq, ↓reduceIte, reduceCtorEq, Nat.reducePow, Nat.reduceAdd, Nat.reduceLeDiff, Nat.reduceLT, Nat.reduceSub, Nat.reduceEqDiff]

theorem bl_self : ∀ s : List UInt8, Op.bytesLess s s = false
  | [] => rfl
  | a :: l => by simp [Op.bytesLess, bl_self l]

theorem x69 (k : Int) (b : Nat) (t : List UInt8) : Fn1 Tryz.prog 69 [sv k b t, sv k b t] (.int .i64 0) := by
  have d1 : decide (k < k) = false := by simp
  have d2 : decide (k > k) = false := by simp
  have s1 : astr .lss t t = some (.bool false) := by simp [astr, bl_self]
  have s2 : astr .gtr t t = some (.bool false) := by simp [astr, bl_self]
  have r1 : decide (rnk k b < rnk k b) = false := by simp
  have r2 : decide (rnk k b > rnk k b) = false := by simp
  have hr := x90 k b t
  simp only [sv] at hr
  refine fn1_of_awp (rc := r69) (rs := o69) Tryz.func69 rfl rfl Tryz.ntmps69 k69 q69 (by simp) ?_
  simp only [g69_0, g69_1, g69_2, g69_3, g69_4, g69_5, g69_6, g69_7, g69_8, g69_9, g69_10, g69_11, g69_12, g69_13, g69_14, g69_15, g69_16, g69_17, r69, o69, sv, d1, d2, eES, eEX, Nat.reduceBEq, Int.reduceLE, Int.reduceLT, Int.reduceToNat, Int.reduceEq, ↓reduceIte, reduceCtorEq, Nat.reducePow, Nat.reduceAdd, Nat.reduceLeDiff, Nat.reduceLT, Nat.reduceSub, Nat.reduceEqDiff]
  refine aops_callE (x17 k) rfl rfl rfl (.inl rfl) ?_
  cases h1 : isk k
  · simp only [eES, eEX, Nat.reduceBEq, Int.reduceLE, Int.reduceLT, Int.reduceToNat, Int.reduceEq, ↓reduceIte, reduceCtorEq, Nat.reducePow, Nat.reduceAdd, Nat.reduceLeDiff, Nat.reduceLT, Nat.reduceSub, Nat.reduceEqDiff]
  simp only [eES, eEX, Nat.reduceBEq, Int.reduceLE, Int.reduceLT, Int.reduceToNat, Int.reduceEq, ↓reduceIte, reduceCtorEq, Nat.reducePow, Nat.reduceAdd, Nat.reduceLeDiff, Nat.reduceLT, Nat.reduceSub, Nat.reduceEqDiff]
  refine aops_callE (x46 k) rfl rfl rfl (.inl rfl) ?_
  cases h2 : txk k
  · simp only [eES, eEX, Nat.reduceBEq, Int.reduceLE, Int.reduceLT, Int.reduceToNat, Int.reduceEq, ↓reduceIte, reduceCtorEq, Nat.reducePow, Nat.reduceAdd, Nat.reduceLeDiff, Nat.reduceLT, Nat.reduceSub, Nat.reduceEqDiff]
    refine aops_callE (x46 k) rfl rfl rfl (.inl rfl) ?_
    simp only [h2, eES, eEX, Nat.reduceBEq, Int.reduceLE, Int.reduceLT, Int.reduceToNat, Int.reduceEq, ↓reduceIte, reduceCtorEq, Nat.reducePow, Nat.reduceAdd, Nat.reduceLeDiff, Nat.reduceLT, Nat.reduceSub, Nat.reduceEqDiff]
    refine aops_callE (x46 k) rfl rfl rfl (.inl rfl) ?_
    simp only [h2, eES, eEX, Nat.reduceBEq, Int.reduceLE, Int.reduceLT, Int.reduceToNat, Int.reduceEq, ↓reduceIte, reduceCtorEq, Nat.reducePow, Nat.reduceAdd, Nat.reduceLeDiff, Nat.reduceLT, Nat.reduceSub, Nat.reduceEqDiff]
    refine aops_call hr rfl rfl rfl (.inl rfl) ?_
    simp only [eES, eEX, Nat.reduceBEq, Int.reduceLE, Int.reduceLT, Int.reduceToNat, Int.reduceEq, ↓reduceIte, reduceCtorEq, Nat.reducePow, Nat.reduceAdd, Nat.reduceLeDiff, Nat.reduceLT, Nat.reduceSub, Nat.reduceEqDiff]
    refine aops_call hr rfl rfl rfl (.inl rfl) ?_
    simp only [r1, eES, eEX, Nat.reduceBEq, Int.reduceLE, Int.reduceLT, Int.reduceToNat, Int.reduceEq, ↓reduceIte, reduceCtorEq, Nat.reducePow, Nat.reduceAdd, Nat.reduceLeDiff, Nat.reduceLT, Nat.reduceSub, Nat.reduceEqDiff]
    refine aops_call hr rfl rfl rfl (.inl rfl) ?_
    simp only [eES, eEX, Nat.reduceBEq, Int.reduceLE, Int.reduceLT, Int.reduceToNat, Int.reduceEq, ↓reduceIte, reduceCtorEq, Nat.reducePow, Nat.reduceAdd, Nat.reduceLeDiff, Nat.reduceLT, Nat.reduceSub, Nat.reduceEqDiff]
    refine aops_call hr rfl rfl rfl (.inl rfl) ?_
    simp only [r2, eES, eEX, Nat.reduceBEq, Int.reduceLE, Int.reduceLT, Int.reduceToNat, Int.reduceEq, ↓reduceIte, reduceCtorEq, Nat.reducePow, Nat.reduceAdd, Nat.reduceLeDiff, Nat.reduceLT, Nat.reduceSub, Nat.reduceEqDiff]
  · simp only [s1, eES, eEX, Nat.reduceBEq, Int.reduceLE, Int.reduceLT, Int.reduceToNat, Int.reduceEq, ↓reduceIte, reduceCtorEq, Nat.reducePow, Nat.reduceAdd, Nat.reduceLeDiff, Nat.reduceLT, Nat.reduceSub, Nat.reduceEqDiff]
    refine aops_callE (x46 k) rfl rfl rfl (.inl rfl) ?_
    simp only [h2, s2, eES, eEX, Nat.reduceBEq, Int.reduceLE, Int.reduceLT, Int.reduceToNat, Int.reduceEq, ↓reduceIte, reduceCtorEq, Nat.reducePow, Nat.reduceAdd, Nat.reduceLeDiff, Nat.reduceLT, Nat.reduceSub, Nat.reduceEqDiff]
    refine aops_callE (x46 k) rfl rfl rfl (.inl rfl) ?_
    simp only [h2, eES, eEX, Nat.reduceBEq, Int.reduceLE, Int.reduceLT, Int.reduceToNat, Int.reduceEq, ↓reduceIte, reduceCtorEq, Nat.reducePow, Nat.reduceAdd, Nat.reduceLeDiff, Nat.reduceLT, Nat.reduceSub, Nat.reduceEqDiff]

theorem x48 (k : Int) (b : Nat) (t : List UInt8) (hk : k < 10) : Fn1 Tryz.prog 48 [sv k b t, sv k b t] (.int .i64 0) := by
  have b1 : (k == 11) = false := by simp; omega
  have b2 : (k == 12) = false := by simp; omega
  have b3 : (k == 10) = false := by simp; omega
  have hr := x69 k b t
  simp only [sv] at hr
  refine fn1_of_awp (rc := r48) (rs := o48) Tryz.func48 rfl rfl Tryz.ntmps48 k48 q48 (by simp) ?_
  simp only [g48_0, g48_1, g48_2, g48_3, g48_4, g48_5, g48_6, g48_7, g48_8, g48_9, g48_10, g48_11, g48_12, g48_13, r48, o48, sv, bne_self_eq_false, b1, b2, b3, eES, eEX, Nat.reduceBEq, Int.reduceLE, Int.reduceLT, Int.reduceToNat, Int.reduceEq, ↓reduceIte, reduceCtorEq, Nat.reducePow, Nat.reduceAdd, Nat.reduceLeDiff, Nat.reduceLT, Nat.reduceSub, Nat.reduceEqDiff]
  refine aops_call hr rfl rfl rfl (.inl rfl) ?_
  simp only [eES, eEX, Nat.reduceBEq, Int.reduceLE, Int.reduceLT, Int.reduceToNat, Int.reduceEq, ↓reduceIte, reduceCtorEq, Nat.reducePow, Nat.reduceAdd, Nat.reduceLeDiff, Nat.reduceLT, Nat.reduceSub, Nat.reduceEqDiff]

theorem x24 (k : Int) (b : Nat) (t : List UInt8) (hk : k < 10) : Fn1 Tryz.prog 24 [sv k b t, sv k b t] (.bool true) := by
  have b1 : ((0 : Int) == 0) = true := rfl
  have hr := x48 k b t hk
  simp only [sv] at hr
  refine fn1_of_awp (rc := r24) (rs := o24) Tryz.func24 rfl rfl Tryz.ntmps24 k24 q24 (by simp) ?_
  simp only [g24_0, g24_1, r24, o24, sv, eES, eEX, Nat.reduceBEq, Int.reduceLE, Int.reduceLT, Int.reduceToNat, Int.reduceEq, ↓reduceIte, reduceCtorEq, Nat.reducePow, Nat.reduceAdd, Nat.reduceLeDiff, Nat.reduceLT, Nat.reduceSub, Nat.reduceEqDiff]
  refine aops_call hr rfl rfl rfl (.inl rfl) ?_
  simp only [b1, eES, eEX, Nat.reduceBEq, Int.reduceLE, Int.reduceLT, Int.reduceToNat, Int.reduceEq, ↓reduceIte, reduceCtorEq, Nat.reducePow, Nat.reduceAdd, Nat.reduceLeDiff, Nat.reduceLT, Nat.reduceSub, Nat.reduceEqDiff]

theorem x7 (k : Int) (b : Nat) (t : List UInt8) (hk : k < 10) : Fn1 Tryz.prog 7 [sv k b t, sv k b t] (.bool true) := by
  have hr := x24 k b t hk
  simp only [sv] at hr
  refine fn1_of_awp (rc := r7) (rs := o7) Tryz.func7 rfl rfl Tryz.ntmps7 k7 q7 (by simp) ?_
  simp only [g7_0, g7_1, r7, o7, sv, eES, eEX, Nat.reduceBEq, Int.reduceLE, Int.reduceLT, Int.reduceToNat, Int.reduceEq, ↓reduceIte, reduceCtorEq, Nat.reducePow, Nat.reduceAdd, Nat.reduceLeDiff, Nat.reduceLT, Nat.reduceSub, Nat.reduceEqDiff]
  refine aops_call hr rfl rfl rfl (.inl rfl) ?_
  simp only [eES, eEX, Nat.reduceBEq, Int.reduceLE, Int.reduceLT, Int.reduceToNat, Int.reduceEq, ↓reduceIte, reduceCtorEq, Nat.reducePow, Nat.reduceAdd, Nat.reduceLeDiff, Nat.reduceLT, Nat.reduceSub, Nat.reduceEqDiff]

end Go.Proofs.YtdmbncmbkocjjaaGreat.Va

/- Plans, as the specification examines them: operations and annotations. -/
set_option linter.unusedSimpArgs false
namespace Go.Proofs.YtdmbncmbkocjjaaGreat.Va
open Go Am Rc Bt Br

theorem c84 (x : AV) (hx : IsN x) : Fn? Tryz.prog 84 [x] RB := by
  obtain ⟨s, cs, rfl, hs, k, b, t, l, p, q, r, rfl, ht⟩ := hx
  refine fnR_of_awp (rc := r84) (rs := o84) Tryz.func84 rfl rfl Tryz.ntmps84 k84 q84 (by simp) ?_
  simp only [g84_0, g84_1, g84_2, r84, o84, eES, eEX, Nat.reduceBEq, Int.reduceLE, Int.reduceLT, Int.reduceToNat, Int.reduceEq, ↓reduceIte, reduceCtorEq, Nat.reducePow, Nat.reduceAdd, Nat.reduceLeDiff, Nat.reduceLT, Nat.reduceSub, Nat.reduceEqDiff]
  repeat' (first | (refine csel_of (fun h => ?_) (fun h => ?_) <;> simp only [h, rb, eES, eEX, Nat.reduceBEq, Int.reduceLE, Int.reduceLT, Int.reduceToNat, Int.reduceEq, ↓reduceIte, reduceCtorEq, Nat.reducePow, Nat.reduceAdd, Nat.reduceLeDiff, Nat.reduceLT, Nat.reduceSub, Nat.reduceEqDiff]) | (refine gsel_t (fun h => ?_) (fun h => ?_) <;> simp only [h, updO, rb, eES, eEX, Nat.reduceBEq, Int.reduceLE, Int.reduceLT, Int.reduceToNat, Int.reduceEq, ↓reduceIte, reduceCtorEq, Nat.reducePow, Nat.reduceAdd, Nat.reduceLeDiff, Nat.reduceLT, Nat.reduceSub, Nat.reduceEqDiff]) | (refine gsel_f (fun h => ?_) (fun h => ?_) <;> simp only [h, updO, rb, eES, eEX, Nat.reduceBEq, Int.reduceLE, Int.reduceLT, Int.reduceToNat, Int.reduceEq, ↓reduceIte, reduceCtorEq, Nat.reducePow, Nat.reduceAdd, Nat.reduceLeDiff, Nat.reduceLT, Nat.reduceSub, Nat.reduceEqDiff]) | ((with_reducible apply aops_callR (k := 82) (R := RI)); (case h2 => exact fun _ h => h.rf); (case hy => rfl); (case h1 => rfl); (case hk => exact c82 _); rintro _ ⟨n, rfl⟩; simp only [rb, eES, eEX, Nat.reduceBEq, Int.reduceLE, Int.reduceLT, Int.reduceToNat, Int.reduceEq, ↓reduceIte, reduceCtorEq, Nat.reducePow, Nat.reduceAdd, Nat.reduceLeDiff, Nat.reduceLT, Nat.reduceSub, Nat.reduceEqDiff]) | ((with_reducible apply aops_callR (k := 21) (R := RB)); (case h2 => exact fun _ h => h.rf); (case hy => rfl); (case h1 => rfl); (case hk => exact c21 _ _ _ _ _ _ _ _ (bm8 ht)); rintro _ ⟨b, rfl⟩; cases b <;> simp only [rb, eES, eEX, Nat.reduceBEq, Int.reduceLE, Int.reduceLT, Int.reduceToNat, Int.reduceEq, ↓reduceIte, reduceCtorEq, Nat.reducePow, Nat.reduceAdd, Nat.reduceLeDiff, Nat.reduceLT, Nat.reduceSub, Nat.reduceEqDiff]))

def NoteI (L : List AV) (t : Int) (k : Nat) (st : St) : Prop :=
  ∃ f i, st = ⟨f, [noObs], []⟩ ∧ k = L.length - i ∧ f 0 = .list L ∧ f 1 = .int .i64 t ∧ f 5 = .int .i64 (i : Nat)

theorem c55 (L : List AV) (t : Int) (hl : L.length ≤ maxLen) (hL : ∀ x ∈ L, IsN x) : Fn? Tryz.prog 55 [.list L, .int .i64 t] RI := by
  refine fnR_of_awp (rc := r55) (rs := o55) Tryz.func55 rfl rfl Tryz.ntmps55 k55 q55 (by simp) ?_
  simp only [g55_0, g55_1, g55_2, g55_3, g55_4, g55_6, g55_7, g55_8, g55_9, g55_10, g55_11, g55_13, g55_15, g55_5, g55_16, r55, o55, eES, eEX, Nat.reduceBEq, Int.reduceLE, Int.reduceLT, Int.reduceToNat, Int.reduceEq, ↓reduceIte, reduceCtorEq, Nat.reducePow, Nat.reduceAdd, Nat.reduceLeDiff, Nat.reduceLT, Nat.reduceSub, Nat.reduceEqDiff]
  refine csel_of (fun h => ?_) (fun h => ?_)
  · simp only [ri, eES, eEX, Nat.reduceBEq, Int.reduceLE, Int.reduceLT, Int.reduceToNat, Int.reduceEq, ↓reduceIte, reduceCtorEq, Nat.reducePow, Nat.reduceAdd, Nat.reduceLeDiff, Nat.reduceLT, Nat.reduceSub, Nat.reduceEqDiff]
  simp only [eES, eEX, Nat.reduceBEq, Int.reduceLE, Int.reduceLT, Int.reduceToNat, Int.reduceEq, ↓reduceIte, reduceCtorEq, Nat.reducePow, Nat.reduceAdd, Nat.reduceLeDiff, Nat.reduceLT, Nat.reduceSub, Nat.reduceEqDiff]
  refine awp_loop (NoteI L t) _ ⟨_, 0, rfl, rfl, rfl, rfl, rfl⟩ ?_
  rintro _ st ⟨f, i, rfl, rfl, h0, h1, h5⟩
  simp only [l55_0, g55_0, g55_1, g55_2, g55_3, g55_4, g55_6, g55_7, g55_8, g55_9, g55_10, g55_11, g55_13, g55_15, g55_5, g55_16, r55, o55, h0, h1, h5, eES, eEX, Nat.reduceBEq, Int.reduceLE, Int.reduceLT, Int.reduceToNat, Int.reduceEq, ↓reduceIte, reduceCtorEq, Nat.reducePow, Nat.reduceAdd, Nat.reduceLeDiff, Nat.reduceLT, Nat.reduceSub, Nat.reduceEqDiff]
  by_cases hlt : i < L.length
  · obtain ⟨_, hc, hx⟩ := getE hL hlt
    obtain ⟨s, cs, rfl, hs, k, b, tx, l, p, q, r, rfl, htx⟩ := id hx
    have e1 := wi64_s i _ hlt hl
    have key : ∀ Q : St → Prop, (∀ f' b', f' 0 = .list L → f' 1 = .int .i64 t → f' 5 = .int .i64 (i : Nat) → f' 51 = .bool b' → Q ⟨f', [noObs], []⟩) → ∀ f', f' 0 = .list L → f' 1 = .int .i64 t → f' 5 = .int .i64 (i : Nat) → aops Tryz.prog g55_12 ⟨f', [noObs], []⟩ Q := by
      intro Q hQ f' h0 h1 h5
      cases i with
      | zero =>
        have d0 : decide (((0 : Nat) : Int) > 0) = false := rfl
        simp only [g55_0, g55_1, g55_2, g55_3, g55_4, g55_6, g55_7, g55_8, g55_9, g55_10, g55_11, g55_12, g55_13, g55_14, g55_15, g55_5, g55_16, r55, o55, d0, h0, h1, h5, eES, eEX, Nat.reduceBEq, Int.reduceLE, Int.reduceLT, Int.reduceToNat, Int.reduceEq, ↓reduceIte, reduceCtorEq, Nat.reducePow, Nat.reduceAdd, Nat.reduceLeDiff, Nat.reduceLT, Nat.reduceSub, Nat.reduceEqDiff]
        exact hQ _ _ (by first | rfl | exact h0 | simp only [h0, eES, eEX, Nat.reduceBEq, Int.reduceLE, Int.reduceLT, Int.reduceToNat, Int.reduceEq, ↓reduceIte, reduceCtorEq, Nat.reducePow, Nat.reduceAdd, Nat.reduceLeDiff, Nat.reduceLT, Nat.reduceSub, Nat.reduceEqDiff]) (by first | rfl | exact h1 | simp only [h1, eES, eEX, Nat.reduceBEq, Int.reduceLE, Int.reduceLT, Int.reduceToNat, Int.reduceEq, ↓reduceIte, reduceCtorEq, Nat.reducePow, Nat.reduceAdd, Nat.reduceLeDiff, Nat.reduceLT, Nat.reduceSub, Nat.reduceEqDiff]) (by first | rfl | exact h5 | simp only [h5, eES, eEX, Nat.reduceBEq, Int.reduceLE, Int.reduceLT, Int.reduceToNat, Int.reduceEq, ↓reduceIte, reduceCtorEq, Nat.reducePow, Nat.reduceAdd, Nat.reduceLeDiff, Nat.reduceLT, Nat.reduceSub, Nat.reduceEqDiff]) (by first | rfl | simp only [eES, eEX, Nat.reduceBEq, Int.reduceLE, Int.reduceLT, Int.reduceToNat, Int.reduceEq, ↓reduceIte, reduceCtorEq, Nat.reducePow, Nat.reduceAdd, Nat.reduceLeDiff, Nat.reduceLT, Nat.reduceSub, Nat.reduceEqDiff])
      | succ k =>
        have d0 : decide (((k + 1 : Nat) : Int) > 0) = true := decide_eq_true (by omega)
        obtain ⟨_, hc', s', cs', rfl, hs', _, _, _, _, _, _, _, rfl, _⟩ := getE hL (show k < L.length by omega)
        have e0 := wi64_p k _ hlt hl
        simp only [g55_0, g55_1, g55_2, g55_3, g55_4, g55_6, g55_7, g55_8, g55_9, g55_10, g55_11, g55_12, g55_13, g55_14, g55_15, g55_5, g55_16, r55, o55, d0, e0, astr, nneg, Int.toNat_natCast, aiaddr, hc, hc', h0, h1, h5, eES, eEX, Nat.reduceBEq, Int.reduceLE, Int.reduceLT, Int.reduceToNat, Int.reduceEq, ↓reduceIte, reduceCtorEq, Nat.reducePow, Nat.reduceAdd, Nat.reduceLeDiff, Nat.reduceLT, Nat.reduceSub, Nat.reduceEqDiff]
        exact hQ _ _ (by first | rfl | exact h0 | simp only [h0, eES, eEX, Nat.reduceBEq, Int.reduceLE, Int.reduceLT, Int.reduceToNat, Int.reduceEq, ↓reduceIte, reduceCtorEq, Nat.reducePow, Nat.reduceAdd, Nat.reduceLeDiff, Nat.reduceLT, Nat.reduceSub, Nat.reduceEqDiff]) (by first | rfl | exact h1 | simp only [h1, eES, eEX, Nat.reduceBEq, Int.reduceLE, Int.reduceLT, Int.reduceToNat, Int.reduceEq, ↓reduceIte, reduceCtorEq, Nat.reducePow, Nat.reduceAdd, Nat.reduceLeDiff, Nat.reduceLT, Nat.reduceSub, Nat.reduceEqDiff]) (by first | rfl | exact h5 | simp only [h5, eES, eEX, Nat.reduceBEq, Int.reduceLE, Int.reduceLT, Int.reduceToNat, Int.reduceEq, ↓reduceIte, reduceCtorEq, Nat.reducePow, Nat.reduceAdd, Nat.reduceLeDiff, Nat.reduceLT, Nat.reduceSub, Nat.reduceEqDiff]) (by first | rfl | simp only [eES, eEX, Nat.reduceBEq, Int.reduceLE, Int.reduceLT, Int.reduceToNat, Int.reduceEq, ↓reduceIte, reduceCtorEq, Nat.reducePow, Nat.reduceAdd, Nat.reduceLeDiff, Nat.reduceLT, Nat.reduceSub, Nat.reduceEqDiff])
    have key2 : ∀ Q : St → Prop, (∀ f' b', f' 0 = .list L → f' 1 = .int .i64 t → f' 5 = .int .i64 (i : Nat) → f' 67 = .bool b' → Q ⟨f', [noObs], []⟩) → ∀ f', f' 0 = .list L → f' 1 = .int .i64 t → f' 5 = .int .i64 (i : Nat) → aops Tryz.prog g55_14 ⟨f', [noObs], []⟩ Q := by
      intro Q hQ f' h0 h1 h5
      cases i with
      | zero =>
        have d0 : decide (((0 : Nat) : Int) > 0) = false := rfl
        simp only [g55_0, g55_1, g55_2, g55_3, g55_4, g55_6, g55_7, g55_8, g55_9, g55_10, g55_11, g55_12, g55_13, g55_14, g55_15, g55_5, g55_16, r55, o55, d0, h0, h1, h5, eES, eEX, Nat.reduceBEq, Int.reduceLE, Int.reduceLT, Int.reduceToNat, Int.reduceEq, ↓reduceIte, reduceCtorEq, Nat.reducePow, Nat.reduceAdd, Nat.reduceLeDiff, Nat.reduceLT, Nat.reduceSub, Nat.reduceEqDiff]
        exact hQ _ _ (by first | rfl | exact h0 | simp only [h0, eES, eEX, Nat.reduceBEq, Int.reduceLE, Int.reduceLT, Int.reduceToNat, Int.reduceEq, ↓reduceIte, reduceCtorEq, Nat.reducePow, Nat.reduceAdd, Nat.reduceLeDiff, Nat.reduceLT, Nat.reduceSub, Nat.reduceEqDiff]) (by first | rfl | exact h1 | simp only [h1, eES, eEX, Nat.reduceBEq, Int.reduceLE, Int.reduceLT, Int.reduceToNat, Int.reduceEq, ↓reduceIte, reduceCtorEq, Nat.reducePow, Nat.reduceAdd, Nat.reduceLeDiff, Nat.reduceLT, Nat.reduceSub, Nat.reduceEqDiff]) (by first | rfl | exact h5 | simp only [h5, eES, eEX, Nat.reduceBEq, Int.reduceLE, Int.reduceLT, Int.reduceToNat, Int.reduceEq, ↓reduceIte, reduceCtorEq, Nat.reducePow, Nat.reduceAdd, Nat.reduceLeDiff, Nat.reduceLT, Nat.reduceSub, Nat.reduceEqDiff]) (by first | rfl | simp only [eES, eEX, Nat.reduceBEq, Int.reduceLE, Int.reduceLT, Int.reduceToNat, Int.reduceEq, ↓reduceIte, reduceCtorEq, Nat.reducePow, Nat.reduceAdd, Nat.reduceLeDiff, Nat.reduceLT, Nat.reduceSub, Nat.reduceEqDiff])
      | succ k =>
        have d0 : decide (((k + 1 : Nat) : Int) > 0) = true := decide_eq_true (by omega)
        obtain ⟨_, hc', s', cs', rfl, hs', _, _, _, _, _, _, _, rfl, _⟩ := getE hL (show k < L.length by omega)
        have e0 := wi64_p k _ hlt hl
        simp only [g55_0, g55_1, g55_2, g55_3, g55_4, g55_6, g55_7, g55_8, g55_9, g55_10, g55_11, g55_12, g55_13, g55_14, g55_15, g55_5, g55_16, r55, o55, d0, e0, astr, nneg, Int.toNat_natCast, aiaddr, hc, hc', h0, h1, h5, eES, eEX, Nat.reduceBEq, Int.reduceLE, Int.reduceLT, Int.reduceToNat, Int.reduceEq, ↓reduceIte, reduceCtorEq, Nat.reducePow, Nat.reduceAdd, Nat.reduceLeDiff, Nat.reduceLT, Nat.reduceSub, Nat.reduceEqDiff]
        exact hQ _ _ (by first | rfl | exact h0 | simp only [h0, eES, eEX, Nat.reduceBEq, Int.reduceLE, Int.reduceLT, Int.reduceToNat, Int.reduceEq, ↓reduceIte, reduceCtorEq, Nat.reducePow, Nat.reduceAdd, Nat.reduceLeDiff, Nat.reduceLT, Nat.reduceSub, Nat.reduceEqDiff]) (by first | rfl | exact h1 | simp only [h1, eES, eEX, Nat.reduceBEq, Int.reduceLE, Int.reduceLT, Int.reduceToNat, Int.reduceEq, ↓reduceIte, reduceCtorEq, Nat.reducePow, Nat.reduceAdd, Nat.reduceLeDiff, Nat.reduceLT, Nat.reduceSub, Nat.reduceEqDiff]) (by first | rfl | exact h5 | simp only [h5, eES, eEX, Nat.reduceBEq, Int.reduceLE, Int.reduceLT, Int.reduceToNat, Int.reduceEq, ↓reduceIte, reduceCtorEq, Nat.reducePow, Nat.reduceAdd, Nat.reduceLeDiff, Nat.reduceLT, Nat.reduceSub, Nat.reduceEqDiff]) (by first | rfl | simp only [eES, eEX, Nat.reduceBEq, Int.reduceLE, Int.reduceLT, Int.reduceToNat, Int.reduceEq, ↓reduceIte, reduceCtorEq, Nat.reducePow, Nat.reduceAdd, Nat.reduceLeDiff, Nat.reduceLT, Nat.reduceSub, Nat.reduceEqDiff])
    simp only [lt_t hlt, nneg, Int.toNat_natCast, aiaddr, hc, h0, h1, h5, eES, eEX, Nat.reduceBEq, Int.reduceLE, Int.reduceLT, Int.reduceToNat, Int.reduceEq, ↓reduceIte, reduceCtorEq, Nat.reducePow, Nat.reduceAdd, Nat.reduceLeDiff, Nat.reduceLT, Nat.reduceSub, Nat.reduceEqDiff]
    repeat' (first | (refine csel_of (fun h => ?_) (fun h => ?_) <;> simp only [h, nneg, Int.toNat_natCast, aiaddr, hc, h0, h1, h5, ri, eES, eEX, Nat.reduceBEq, Int.reduceLE, Int.reduceLT, Int.reduceToNat, Int.reduceEq, ↓reduceIte, reduceCtorEq, Nat.reducePow, Nat.reduceAdd, Nat.reduceLeDiff, Nat.reduceLT, Nat.reduceSub, Nat.reduceEqDiff]) | (refine gsel_t (fun h => ?_) (fun h => ?_) <;> simp only [h, updO, nneg, Int.toNat_natCast, aiaddr, hc, h0, h1, h5, ri, eES, eEX, Nat.reduceBEq, Int.reduceLE, Int.reduceLT, Int.reduceToNat, Int.reduceEq, ↓reduceIte, reduceCtorEq, Nat.reducePow, Nat.reduceAdd, Nat.reduceLeDiff, Nat.reduceLT, Nat.reduceSub, Nat.reduceEqDiff]) | (refine gsel_f (fun h => ?_) (fun h => ?_) <;> simp only [h, updO, nneg, Int.toNat_natCast, aiaddr, hc, h0, h1, h5, ri, eES, eEX, Nat.reduceBEq, Int.reduceLE, Int.reduceLT, Int.reduceToNat, Int.reduceEq, ↓reduceIte, reduceCtorEq, Nat.reducePow, Nat.reduceAdd, Nat.reduceLeDiff, Nat.reduceLT, Nat.reduceSub, Nat.reduceEqDiff]) | ((with_reducible apply aops_callR (k := 82) (R := RI)); (case h2 => exact fun _ h => h.rf); (case hy => rfl); (case h1 => rfl); (case hk => exact c82 _); rintro _ ⟨n, rfl⟩; simp only [nneg, Int.toNat_natCast, aiaddr, hc, h0, h1, h5, ri, eES, eEX, Nat.reduceBEq, Int.reduceLE, Int.reduceLT, Int.reduceToNat, Int.reduceEq, ↓reduceIte, reduceCtorEq, Nat.reducePow, Nat.reduceAdd, Nat.reduceLeDiff, Nat.reduceLT, Nat.reduceSub, Nat.reduceEqDiff]) | ((with_reducible apply aops_callR (k := 83) (R := RB)); (case h2 => exact fun _ h => h.rf); (case hy => rfl); (case h1 => rfl); (case hk => exact c83 _ _); rintro _ ⟨b, rfl⟩; cases b <;> simp only [nneg, Int.toNat_natCast, aiaddr, hc, h0, h1, h5, ri, eES, eEX, Nat.reduceBEq, Int.reduceLE, Int.reduceLT, Int.reduceToNat, Int.reduceEq, ↓reduceIte, reduceCtorEq, Nat.reducePow, Nat.reduceAdd, Nat.reduceLeDiff, Nat.reduceLT, Nat.reduceSub, Nat.reduceEqDiff]) | ((with_reducible apply aops_callR (k := 84) (R := RB)); (case h2 => exact fun _ h => h.rf); (case hy => rfl); (case h1 => rfl); (case hk => exact c84 _ hx); rintro _ ⟨b, rfl⟩; cases b <;> simp only [nneg, Int.toNat_natCast, aiaddr, hc, h0, h1, h5, ri, eES, eEX, Nat.reduceBEq, Int.reduceLE, Int.reduceLT, Int.reduceToNat, Int.reduceEq, ↓reduceIte, reduceCtorEq, Nat.reducePow, Nat.reduceAdd, Nat.reduceLeDiff, Nat.reduceLT, Nat.reduceSub, Nat.reduceEqDiff]))
    refine key _ (fun f' b h0 h1 h5 hb => ?_) _ (by first | rfl | exact h0 | simp only [h0, eES, eEX, Nat.reduceBEq, Int.reduceLE, Int.reduceLT, Int.reduceToNat, Int.reduceEq, ↓reduceIte, reduceCtorEq, Nat.reducePow, Nat.reduceAdd, Nat.reduceLeDiff, Nat.reduceLT, Nat.reduceSub, Nat.reduceEqDiff]) (by first | rfl | exact h1 | simp only [h1, eES, eEX, Nat.reduceBEq, Int.reduceLE, Int.reduceLT, Int.reduceToNat, Int.reduceEq, ↓reduceIte, reduceCtorEq, Nat.reducePow, Nat.reduceAdd, Nat.reduceLeDiff, Nat.reduceLT, Nat.reduceSub, Nat.reduceEqDiff]) (by first | rfl | exact h5 | simp only [h5, eES, eEX, Nat.reduceBEq, Int.reduceLE, Int.reduceLT, Int.reduceToNat, Int.reduceEq, ↓reduceIte, reduceCtorEq, Nat.reducePow, Nat.reduceAdd, Nat.reduceLeDiff, Nat.reduceLT, Nat.reduceSub, Nat.reduceEqDiff])
    cases b <;> simp only [hb, h0, h1, h5, ri, eES, eEX, Nat.reduceBEq, Int.reduceLE, Int.reduceLT, Int.reduceToNat, Int.reduceEq, ↓reduceIte, reduceCtorEq, Nat.reducePow, Nat.reduceAdd, Nat.reduceLeDiff, Nat.reduceLT, Nat.reduceSub, Nat.reduceEqDiff]
    refine key2 _ (fun f' b h0 h1 h5 hb => ?_) _ (by first | rfl | exact h0 | simp only [h0, eES, eEX, Nat.reduceBEq, Int.reduceLE, Int.reduceLT, Int.reduceToNat, Int.reduceEq, ↓reduceIte, reduceCtorEq, Nat.reducePow, Nat.reduceAdd, Nat.reduceLeDiff, Nat.reduceLT, Nat.reduceSub, Nat.reduceEqDiff]) (by first | rfl | exact h1 | simp only [h1, eES, eEX, Nat.reduceBEq, Int.reduceLE, Int.reduceLT, Int.reduceToNat, Int.reduceEq, ↓reduceIte, reduceCtorEq, Nat.reducePow, Nat.reduceAdd, Nat.reduceLeDiff, Nat.reduceLT, Nat.reduceSub, Nat.reduceEqDiff]) (by first | rfl | exact h5 | simp only [h5, eES, eEX, Nat.reduceBEq, Int.reduceLE, Int.reduceLT, Int.reduceToNat, Int.reduceEq, ↓reduceIte, reduceCtorEq, Nat.reducePow, Nat.reduceAdd, Nat.reduceLeDiff, Nat.reduceLT, Nat.reduceSub, Nat.reduceEqDiff])
    cases b <;> simp only [hb, h0, h1, h5, e1, ri, eES, eEX, Nat.reduceBEq, Int.reduceLE, Int.reduceLT, Int.reduceToNat, Int.reduceEq, ↓reduceIte, reduceCtorEq, Nat.reducePow, Nat.reduceAdd, Nat.reduceLeDiff, Nat.reduceLT, Nat.reduceSub, Nat.reduceEqDiff]
    exact ⟨L.length - (i + 1), by omega, _, i + 1, rfl, rfl, (by first | rfl | exact h0 | simp only [h0, eES, eEX, Nat.reduceBEq, Int.reduceLE, Int.reduceLT, Int.reduceToNat, Int.reduceEq, ↓reduceIte, reduceCtorEq, Nat.reducePow, Nat.reduceAdd, Nat.reduceLeDiff, Nat.reduceLT, Nat.reduceSub, Nat.reduceEqDiff]), (by first | rfl | exact h1 | simp only [h1, eES, eEX, Nat.reduceBEq, Int.reduceLE, Int.reduceLT, Int.reduceToNat, Int.reduceEq, ↓reduceIte, reduceCtorEq, Nat.reducePow, Nat.reduceAdd, Nat.reduceLeDiff, Nat.reduceLT, Nat.reduceSub, Nat.reduceEqDiff]), (by first | rfl | simp only [eES, eEX, Nat.reduceBEq, Int.reduceLE, Int.reduceLT, Int.reduceToNat, Int.reduceEq, ↓reduceIte, reduceCtorEq, Nat.reducePow, Nat.reduceAdd, Nat.reduceLeDiff, Nat.reduceLT, Nat.reduceSub, Nat.reduceEqDiff])⟩
  · simp only [lt_f hlt, h0, h1, h5, ri, eES, eEX, Nat.reduceBEq, Int.reduceLE, Int.reduceLT, Int.reduceToNat, Int.reduceEq, ↓reduceIte, reduceCtorEq, Nat.reducePow, Nat.reduceAdd, Nat.reduceLeDiff, Nat.reduceLT, Nat.reduceSub, Nat.reduceEqDiff]

/-- A boolean that is true only if p. -/
def RBP (p : Prop) (v : AV) : Prop := ∃ b, v = .bool b ∧ (b = true → p)
theorem rbp (p : Prop) (b : Bool) : RBP p (.bool b) = (b = true → p) := by
  apply propext
  constructor
  · rintro ⟨b', e, h⟩
    cases e
    exact h
  · exact fun h => ⟨b, rfl, h⟩
theorem RBP.rf {p : Prop} {v : AV} {l : List AV} (h : RBP p v) : v.rf = true ∧ (AV.rfL l = true ∨ v.nl = true) := by
  obtain ⟨b, rfl, _⟩ := h
  exact ⟨rfl, .inr rfl⟩

/-- The target of a message is a program. -/
def TG (G : List AV) (o : PO) : Prop := o.kind = 10 → 0 ≤ o.target ∧ o.target < G.length

theorem c85 (G E : List AV) (o : PO) : Fn? Tryz.prog 85 [pv G E, .agg o.cells] (RBP (TG G o)) := by
  refine fnR_of_awp (rc := r85) (rs := o85) Tryz.func85 rfl rfl Tryz.ntmps85 k85 q85 (by simp) ?_
  simp only [g85_0, g85_1, g85_2, g85_3, g85_4, g85_5, g85_6, r85, o85, pv, PO.cells, eES, eEX, Nat.reduceBEq, Int.reduceLE, Int.reduceLT, Int.reduceToNat, Int.reduceEq, ↓reduceIte, reduceCtorEq, Nat.reducePow, Nat.reduceAdd, Nat.reduceLeDiff, Nat.reduceLT, Nat.reduceSub, Nat.reduceEqDiff]
  repeat' (first | (refine csel_of (fun h => ?_) (fun h => ?_) <;> simp only [h, rbp, eES, eEX, Nat.reduceBEq, Int.reduceLE, Int.reduceLT, Int.reduceToNat, Int.reduceEq, ↓reduceIte, reduceCtorEq, Nat.reducePow, Nat.reduceAdd, Nat.reduceLeDiff, Nat.reduceLT, Nat.reduceSub, Nat.reduceEqDiff]) | (refine gsel_t (fun h => ?_) (fun h => ?_) <;> simp only [h, updO, rbp, eES, eEX, Nat.reduceBEq, Int.reduceLE, Int.reduceLT, Int.reduceToNat, Int.reduceEq, ↓reduceIte, reduceCtorEq, Nat.reducePow, Nat.reduceAdd, Nat.reduceLeDiff, Nat.reduceLT, Nat.reduceSub, Nat.reduceEqDiff]) | (refine gsel_f (fun h => ?_) (fun h => ?_) <;> simp only [h, updO, rbp, eES, eEX, Nat.reduceBEq, Int.reduceLE, Int.reduceLT, Int.reduceToNat, Int.reduceEq, ↓reduceIte, reduceCtorEq, Nat.reducePow, Nat.reduceAdd, Nat.reduceLeDiff, Nat.reduceLT, Nat.reduceSub, Nat.reduceEqDiff]))
  all_goals
    intro hb hk
    first
      | (exact absurd hb (by decide))
      | (simp only [decide_eq_true_eq, decide_eq_false_iff_not, beq_iff_eq, bne_iff_ne, beq_eq_false_iff_ne, ne_eq] at *; omega)

theorem c57 (G E : List AV) (o : PO) (ho : o.ok BM) : Fn? Tryz.prog 57 [pv G E, .agg o.cells] (RBP (TG G o)) := by
  refine fnR_of_awp (rc := r57) (rs := o57) Tryz.func57 rfl rfl Tryz.ntmps57 k57 q57 (by simp) ?_
  simp only [g57_0, g57_1, g57_2, g57_3, g57_4, g57_5, g57_6, r57, o57, pv, PO.cells, eES, eEX, Nat.reduceBEq, Int.reduceLE, Int.reduceLT, Int.reduceToNat, Int.reduceEq, ↓reduceIte, reduceCtorEq, Nat.reducePow, Nat.reduceAdd, Nat.reduceLeDiff, Nat.reduceLT, Nat.reduceSub, Nat.reduceEqDiff]
  refine aops_call (c19 _ (bm8 ho.alias)) rfl rfl rfl (.inl rfl) ?_
  have hT := c85 G E o
  simp only [pv, PO.cells] at hT
  simp only [eES, eEX, Nat.reduceBEq, Int.reduceLE, Int.reduceLT, Int.reduceToNat, Int.reduceEq, ↓reduceIte, reduceCtorEq, Nat.reducePow, Nat.reduceAdd, Nat.reduceLeDiff, Nat.reduceLT, Nat.reduceSub, Nat.reduceEqDiff]
  repeat' (first | (refine csel_of (fun h => ?_) (fun h => ?_) <;> simp only [h, rbp, eES, eEX, Nat.reduceBEq, Int.reduceLE, Int.reduceLT, Int.reduceToNat, Int.reduceEq, ↓reduceIte, reduceCtorEq, Nat.reducePow, Nat.reduceAdd, Nat.reduceLeDiff, Nat.reduceLT, Nat.reduceSub, Nat.reduceEqDiff]) | (refine gsel_t (fun h => ?_) (fun h => ?_) <;> simp only [h, updO, rbp, eES, eEX, Nat.reduceBEq, Int.reduceLE, Int.reduceLT, Int.reduceToNat, Int.reduceEq, ↓reduceIte, reduceCtorEq, Nat.reducePow, Nat.reduceAdd, Nat.reduceLeDiff, Nat.reduceLT, Nat.reduceSub, Nat.reduceEqDiff]) | (refine gsel_f (fun h => ?_) (fun h => ?_) <;> simp only [h, updO, rbp, eES, eEX, Nat.reduceBEq, Int.reduceLE, Int.reduceLT, Int.reduceToNat, Int.reduceEq, ↓reduceIte, reduceCtorEq, Nat.reducePow, Nat.reduceAdd, Nat.reduceLeDiff, Nat.reduceLT, Nat.reduceSub, Nat.reduceEqDiff]) | ((with_reducible apply aops_callR (k := 85) (R := RBP (TG G o))); (case h2 => exact fun _ h => h.rf); (case hy => rfl); (case h1 => rfl); (case hk => exact hT); rintro _ ⟨b, rfl, hbp⟩; cases b <;> simp only [rbp, eES, eEX, Nat.reduceBEq, Int.reduceLE, Int.reduceLT, Int.reduceToNat, Int.reduceEq, ↓reduceIte, reduceCtorEq, Nat.reducePow, Nat.reduceAdd, Nat.reduceLeDiff, Nat.reduceLT, Nat.reduceSub, Nat.reduceEqDiff]))
  all_goals first
    | exact fun hb => absurd hb (by decide)
    | exact fun _ => hbp rfl

/-- All targets of a program are right. -/
def TGx (G : List AV) (x : AV) : Prop := ∀ a b c d e k t u, x = .agg [a, b, c, d, e, .int .i64 k, .int .i64 t, u] → k = 10 → 0 ≤ t ∧ t < G.length
def TGs (G L : List AV) : Prop := ∀ x ∈ L, TGx G x
def TGg (G : List AV) (x : AV) : Prop := ∀ s L u, x = .agg [s, .list L, u] → TGs G L

theorem tgx {G : List AV} {o : PO} (h : TG G o) : TGx G (.agg o.cells) := by
  intro a b c d e k t u he hk
  simp only [PO.cells, AV.agg.injEq, List.cons.injEq, AV.int.injEq, true_and, and_true] at he
  obtain ⟨_, _, _, _, _, rfl, rfl, _⟩ := he
  exact h hk

theorem take_in {α : Type} {l : List α} {i : Nat} {x y : α} (hx : l[i]? = some x) (h : y ∈ l.take (i + 1)) : y ∈ l.take i ∨ y = x := by
  rw [List.take_add_one, hx] at h
  simpa using h

def LoP (G E : List AV) (k : Nat) (st : St) : Prop :=
  ∃ f fr i b, st = ⟨f, [fr], []⟩ ∧ k = G.length - i ∧ f 1 = .ptr 0 1 0 ∧ fr 1 = .cells [.list G, .list E] ∧ f 3 = .bool b ∧ f 7 = .int .i64 (i : Nat) ∧ (b = true → ∀ x ∈ G.take i, TGg G x)
def LoQ (G E L : List AV) (j : Nat) (k : Nat) (st : St) : Prop :=
  ∃ f fr i b, st = ⟨f, [fr], []⟩ ∧ k = L.length - i ∧ f 1 = .ptr 0 1 0 ∧ fr 1 = .cells [.list G, .list E] ∧ f 3 = .bool b ∧ f 7 = .int .i64 (j : Nat) ∧ f 8 = .int .i64 (i : Nat) ∧ (b = true → (∀ x ∈ G.take j, TGg G x) ∧ TGs G (L.take i))

theorem c33 (G E : List AV) (hP : IsP G E) : Fn? Tryz.prog 33 [pv G E] (RBP (∀ x ∈ G, TGg G x)) := by
  refine fnR_of_awp (rc := r33) (rs := o33) Tryz.func33 rfl rfl Tryz.ntmps33 k33 q33 (by simp) ?_
  simp only [g33_0, g33_1, g33_2, g33_3, g33_5, g33_6, g33_7, g33_9, g33_8, g33_4, g33_11, g33_12, g33_14, g33_15, g33_16, g33_18, g33_17, g33_13, g33_19, r33, o33, pv, eES, eEX, Nat.reduceBEq, Int.reduceLE, Int.reduceLT, Int.reduceToNat, Int.reduceEq, ↓reduceIte, reduceCtorEq, Nat.reducePow, Nat.reduceAdd, Nat.reduceLeDiff, Nat.reduceLT, Nat.reduceSub, Nat.reduceEqDiff]
  refine awp_loop (LoI G E E 3 4) _ ⟨_, _, 0, _, rfl, rfl, rfl, rfl, rfl, rfl⟩ ?_
  rintro _ st ⟨f, fr, i, b, rfl, rfl, h1, m1, h3, h4⟩
  simp only [l33_0, l33_1, l33_2, l33_3, g33_0, g33_1, g33_2, g33_3, g33_5, g33_6, g33_7, g33_9, g33_8, g33_4, g33_11, g33_12, g33_14, g33_15, g33_16, g33_18, g33_17, g33_13, g33_19, r33, o33, h1, m1, h3, h4, eES, eEX, Nat.reduceBEq, Int.reduceLE, Int.reduceLT, Int.reduceToNat, Int.reduceEq, ↓reduceIte, reduceCtorEq, Nat.reducePow, Nat.reduceAdd, Nat.reduceLeDiff, Nat.reduceLT, Nat.reduceSub, Nat.reduceEqDiff]
  by_cases hlt : i < E.length
  · obtain ⟨_, hc, s, eo, L, M, K, rfl, hs, hL, hI, hM, hS, hK, hN⟩ := getE hP.e hlt
    have e1 := wi64_s i _ hlt hP.le
    cases b <;> simp only [lt_t hlt, nneg, Int.toNat_natCast, aiaddr, hc, h1, m1, h3, h4, e1, rb, eES, eEX, Nat.reduceBEq, Int.reduceLE, Int.reduceLT, Int.reduceToNat, Int.reduceEq, ↓reduceIte, reduceCtorEq, Nat.reducePow, Nat.reduceAdd, Nat.reduceLeDiff, Nat.reduceLT, Nat.reduceSub, Nat.reduceEqDiff]
    all_goals
      refine awp_loop (LoJ G E L 3 4 5 i) _ ⟨_, _, 0, _, rfl, rfl, (by first | rfl | exact h1 | simp only [h1, eES, eEX, Nat.reduceBEq, Int.reduceLE, Int.reduceLT, Int.reduceToNat, Int.reduceEq, ↓reduceIte, reduceCtorEq, Nat.reducePow, Nat.reduceAdd, Nat.reduceLeDiff, Nat.reduceLT, Nat.reduceSub, Nat.reduceEqDiff]), (by first | rfl | exact m1 | simp only [m1, eES, eEX, Nat.reduceBEq, Int.reduceLE, Int.reduceLT, Int.reduceToNat, Int.reduceEq, ↓reduceIte, reduceCtorEq, Nat.reducePow, Nat.reduceAdd, Nat.reduceLeDiff, Nat.reduceLT, Nat.reduceSub, Nat.reduceEqDiff]), (by first | rfl | simp only [eES, eEX, Nat.reduceBEq, Int.reduceLE, Int.reduceLT, Int.reduceToNat, Int.reduceEq, ↓reduceIte, reduceCtorEq, Nat.reducePow, Nat.reduceAdd, Nat.reduceLeDiff, Nat.reduceLT, Nat.reduceSub, Nat.reduceEqDiff]), (by first | rfl | exact h4 | simp only [h4, eES, eEX, Nat.reduceBEq, Int.reduceLE, Int.reduceLT, Int.reduceToNat, Int.reduceEq, ↓reduceIte, reduceCtorEq, Nat.reducePow, Nat.reduceAdd, Nat.reduceLeDiff, Nat.reduceLT, Nat.reduceSub, Nat.reduceEqDiff]), (by first | rfl | simp only [eES, eEX, Nat.reduceBEq, Int.reduceLE, Int.reduceLT, Int.reduceToNat, Int.reduceEq, ↓reduceIte, reduceCtorEq, Nat.reducePow, Nat.reduceAdd, Nat.reduceLeDiff, Nat.reduceLT, Nat.reduceSub, Nat.reduceEqDiff])⟩ ?_
      rintro _ st ⟨f, fr, j, b, rfl, rfl, h1, m1, h3, h4, h5⟩
      simp only [nneg, Int.toNat_natCast, aiaddr, hc, h1, m1, h3, h4, h5, eES, eEX, Nat.reduceBEq, Int.reduceLE, Int.reduceLT, Int.reduceToNat, Int.reduceEq, ↓reduceIte, reduceCtorEq, Nat.reducePow, Nat.reduceAdd, Nat.reduceLeDiff, Nat.reduceLT, Nat.reduceSub, Nat.reduceEqDiff]
      by_cases hlj : j < L.length
      · obtain ⟨_, hd, s2, n2, N, rfl, hs2, hL2, hN2⟩ := getE hI hlj
        have e2 := wi64_s j _ hlj hL
        have key : ∀ Q : St → Prop, (∀ f' b', f' 1 = .ptr 0 1 0 → f' 3 = .bool b' → f' 4 = .int .i64 (i : Nat) → f' 5 = .int .i64 (j : Nat) → Q ⟨f', [fr], []⟩) → ∀ f', f' 1 = .ptr 0 1 0 → f' 3 = .bool b → f' 4 = .int .i64 (i : Nat) → f' 5 = .int .i64 (j : Nat) → f' 6 = .list N → aops Tryz.prog g33_10 ⟨f', [fr], []⟩ Q := by
          intro Q hQ f' h1 h3 h4 h5 h6
          rcases N with _ | ⟨x, _ | ⟨y, t⟩⟩
          · cases b <;> simp only [g33_0, g33_1, g33_2, g33_3, g33_5, g33_6, g33_7, g33_9, g33_10, g33_8, g33_4, g33_11, g33_12, g33_14, g33_15, g33_16, g33_18, g33_17, g33_13, g33_19, r33, o33, List.length_nil, zero_eq, h1, m1, h3, h4, h5, h6, eES, eEX, Nat.reduceBEq, Int.reduceLE, Int.reduceLT, Int.reduceToNat, Int.reduceEq, ↓reduceIte, reduceCtorEq, Nat.reducePow, Nat.reduceAdd, Nat.reduceLeDiff, Nat.reduceLT, Nat.reduceSub, Nat.reduceEqDiff]
            all_goals exact hQ _ _ (by first | rfl | exact h1 | simp only [h1, eES, eEX, Nat.reduceBEq, Int.reduceLE, Int.reduceLT, Int.reduceToNat, Int.reduceEq, ↓reduceIte, reduceCtorEq, Nat.reducePow, Nat.reduceAdd, Nat.reduceLeDiff, Nat.reduceLT, Nat.reduceSub, Nat.reduceEqDiff]) (by first | rfl | simp only [eES, eEX, Nat.reduceBEq, Int.reduceLE, Int.reduceLT, Int.reduceToNat, Int.reduceEq, ↓reduceIte, reduceCtorEq, Nat.reducePow, Nat.reduceAdd, Nat.reduceLeDiff, Nat.reduceLT, Nat.reduceSub, Nat.reduceEqDiff]) (by first | rfl | exact h4 | simp only [h4, eES, eEX, Nat.reduceBEq, Int.reduceLE, Int.reduceLT, Int.reduceToNat, Int.reduceEq, ↓reduceIte, reduceCtorEq, Nat.reducePow, Nat.reduceAdd, Nat.reduceLeDiff, Nat.reduceLT, Nat.reduceSub, Nat.reduceEqDiff]) (by first | rfl | exact h5 | simp only [h5, eES, eEX, Nat.reduceBEq, Int.reduceLE, Int.reduceLT, Int.reduceToNat, Int.reduceEq, ↓reduceIte, reduceCtorEq, Nat.reducePow, Nat.reduceAdd, Nat.reduceLeDiff, Nat.reduceLT, Nat.reduceSub, Nat.reduceEqDiff])
          · obtain ⟨s3, cs3, rfl, hs3, _, _, _, _, _, _, _, rfl, _⟩ := id (hN2 x (by simp))
            have b0 : (((1 : Nat) : Int) == 0) = false := rfl
            have b1 : (((1 : Nat) : Int) == 1) = true := rfl
            have z0 : (0 ≤ (0 : Int)) = True := by simp
            have z1 : Int.toNat 0 = 0 := rfl
            cases b <;> simp only [g33_0, g33_1, g33_2, g33_3, g33_5, g33_6, g33_7, g33_9, g33_10, g33_8, g33_4, g33_11, g33_12, g33_14, g33_15, g33_16, g33_18, g33_17, g33_13, g33_19, r33, o33, List.length_cons, List.length_nil, Nat.zero_add, b0, b1, z0, z1, aiaddr, List.getElem?_cons_zero, astr, h1, m1, h3, h4, h5, h6, eES, eEX, Nat.reduceBEq, Int.reduceLE, Int.reduceLT, Int.reduceToNat, Int.reduceEq, ↓reduceIte, reduceCtorEq, Nat.reducePow, Nat.reduceAdd, Nat.reduceLeDiff, Nat.reduceLT, Nat.reduceSub, Nat.reduceEqDiff]
            all_goals
              repeat' (first | (refine csel_of (fun h => ?_) (fun h => ?_) <;> simp only [h, b0, b1, h1, m1, h3, h4, h5, h6, eES, eEX, Nat.reduceBEq, Int.reduceLE, Int.reduceLT, Int.reduceToNat, Int.reduceEq, ↓reduceIte, reduceCtorEq, Nat.reducePow, Nat.reduceAdd, Nat.reduceLeDiff, Nat.reduceLT, Nat.reduceSub, Nat.reduceEqDiff]) | (refine gsel_t (fun h => ?_) (fun h => ?_) <;> simp only [h, updO, b0, b1, h1, m1, h3, h4, h5, h6, eES, eEX, Nat.reduceBEq, Int.reduceLE, Int.reduceLT, Int.reduceToNat, Int.reduceEq, ↓reduceIte, reduceCtorEq, Nat.reducePow, Nat.reduceAdd, Nat.reduceLeDiff, Nat.reduceLT, Nat.reduceSub, Nat.reduceEqDiff]) | (refine gsel_f (fun h => ?_) (fun h => ?_) <;> simp only [h, updO, b0, b1, h1, m1, h3, h4, h5, h6, eES, eEX, Nat.reduceBEq, Int.reduceLE, Int.reduceLT, Int.reduceToNat, Int.reduceEq, ↓reduceIte, reduceCtorEq, Nat.reducePow, Nat.reduceAdd, Nat.reduceLeDiff, Nat.reduceLT, Nat.reduceSub, Nat.reduceEqDiff]) | ((with_reducible apply aops_callR (k := 55) (R := RI)); (case h2 => exact fun _ h => h.rf); (case hy => rfl); (case h1 => rfl); (case hk => exact c55 _ _ hL2 hN2); rintro _ ⟨n, rfl⟩; simp only [b0, b1, h1, m1, h3, h4, h5, h6, eES, eEX, Nat.reduceBEq, Int.reduceLE, Int.reduceLT, Int.reduceToNat, Int.reduceEq, ↓reduceIte, reduceCtorEq, Nat.reducePow, Nat.reduceAdd, Nat.reduceLeDiff, Nat.reduceLT, Nat.reduceSub, Nat.reduceEqDiff]))
            all_goals exact hQ _ _ (by first | rfl | exact h1 | simp only [h1, eES, eEX, Nat.reduceBEq, Int.reduceLE, Int.reduceLT, Int.reduceToNat, Int.reduceEq, ↓reduceIte, reduceCtorEq, Nat.reducePow, Nat.reduceAdd, Nat.reduceLeDiff, Nat.reduceLT, Nat.reduceSub, Nat.reduceEqDiff]) (by first | rfl | simp only [eES, eEX, Nat.reduceBEq, Int.reduceLE, Int.reduceLT, Int.reduceToNat, Int.reduceEq, ↓reduceIte, reduceCtorEq, Nat.reducePow, Nat.reduceAdd, Nat.reduceLeDiff, Nat.reduceLT, Nat.reduceSub, Nat.reduceEqDiff]) (by first | rfl | exact h4 | simp only [h4, eES, eEX, Nat.reduceBEq, Int.reduceLE, Int.reduceLT, Int.reduceToNat, Int.reduceEq, ↓reduceIte, reduceCtorEq, Nat.reducePow, Nat.reduceAdd, Nat.reduceLeDiff, Nat.reduceLT, Nat.reduceSub, Nat.reduceEqDiff]) (by first | rfl | exact h5 | simp only [h5, eES, eEX, Nat.reduceBEq, Int.reduceLE, Int.reduceLT, Int.reduceToNat, Int.reduceEq, ↓reduceIte, reduceCtorEq, Nat.reducePow, Nat.reduceAdd, Nat.reduceLeDiff, Nat.reduceLT, Nat.reduceSub, Nat.reduceEqDiff])
          · have b0 : (((t.length + 1 + 1 : Nat) : Int) == 0) = false := by simp; omega
            have b1 : (((t.length + 1 + 1 : Nat) : Int) == 1) = false := by simp; omega
            cases b <;> simp only [g33_0, g33_1, g33_2, g33_3, g33_5, g33_6, g33_7, g33_9, g33_10, g33_8, g33_4, g33_11, g33_12, g33_14, g33_15, g33_16, g33_18, g33_17, g33_13, g33_19, r33, o33, List.length_cons, b0, b1, h1, m1, h3, h4, h5, h6, eES, eEX, Nat.reduceBEq, Int.reduceLE, Int.reduceLT, Int.reduceToNat, Int.reduceEq, ↓reduceIte, reduceCtorEq, Nat.reducePow, Nat.reduceAdd, Nat.reduceLeDiff, Nat.reduceLT, Nat.reduceSub, Nat.reduceEqDiff]
            all_goals exact hQ _ _ (by first | rfl | exact h1 | simp only [h1, eES, eEX, Nat.reduceBEq, Int.reduceLE, Int.reduceLT, Int.reduceToNat, Int.reduceEq, ↓reduceIte, reduceCtorEq, Nat.reducePow, Nat.reduceAdd, Nat.reduceLeDiff, Nat.reduceLT, Nat.reduceSub, Nat.reduceEqDiff]) (by first | rfl | simp only [eES, eEX, Nat.reduceBEq, Int.reduceLE, Int.reduceLT, Int.reduceToNat, Int.reduceEq, ↓reduceIte, reduceCtorEq, Nat.reducePow, Nat.reduceAdd, Nat.reduceLeDiff, Nat.reduceLT, Nat.reduceSub, Nat.reduceEqDiff]) (by first | rfl | exact h4 | simp only [h4, eES, eEX, Nat.reduceBEq, Int.reduceLE, Int.reduceLT, Int.reduceToNat, Int.reduceEq, ↓reduceIte, reduceCtorEq, Nat.reducePow, Nat.reduceAdd, Nat.reduceLeDiff, Nat.reduceLT, Nat.reduceSub, Nat.reduceEqDiff]) (by first | rfl | exact h5 | simp only [h5, eES, eEX, Nat.reduceBEq, Int.reduceLE, Int.reduceLT, Int.reduceToNat, Int.reduceEq, ↓reduceIte, reduceCtorEq, Nat.reducePow, Nat.reduceAdd, Nat.reduceLeDiff, Nat.reduceLT, Nat.reduceSub, Nat.reduceEqDiff])
        simp only [lt_t hlj, nneg, Int.toNat_natCast, aiaddr, hc, hd, h1, m1, h3, h4, h5, e2, rb, eES, eEX, Nat.reduceBEq, Int.reduceLE, Int.reduceLT, Int.reduceToNat, Int.reduceEq, ↓reduceIte, reduceCtorEq, Nat.reducePow, Nat.reduceAdd, Nat.reduceLeDiff, Nat.reduceLT, Nat.reduceSub, Nat.reduceEqDiff]
        refine key _ (fun f' b h1 h3 h4 h5 => ?_) _ (by first | rfl | exact h1 | simp only [h1, eES, eEX, Nat.reduceBEq, Int.reduceLE, Int.reduceLT, Int.reduceToNat, Int.reduceEq, ↓reduceIte, reduceCtorEq, Nat.reducePow, Nat.reduceAdd, Nat.reduceLeDiff, Nat.reduceLT, Nat.reduceSub, Nat.reduceEqDiff]) (by first | rfl | exact h3 | simp only [h3, eES, eEX, Nat.reduceBEq, Int.reduceLE, Int.reduceLT, Int.reduceToNat, Int.reduceEq, ↓reduceIte, reduceCtorEq, Nat.reducePow, Nat.reduceAdd, Nat.reduceLeDiff, Nat.reduceLT, Nat.reduceSub, Nat.reduceEqDiff]) (by first | rfl | exact h4 | simp only [h4, eES, eEX, Nat.reduceBEq, Int.reduceLE, Int.reduceLT, Int.reduceToNat, Int.reduceEq, ↓reduceIte, reduceCtorEq, Nat.reducePow, Nat.reduceAdd, Nat.reduceLeDiff, Nat.reduceLT, Nat.reduceSub, Nat.reduceEqDiff]) (by first | rfl | exact h5 | simp only [h5, eES, eEX, Nat.reduceBEq, Int.reduceLE, Int.reduceLT, Int.reduceToNat, Int.reduceEq, ↓reduceIte, reduceCtorEq, Nat.reducePow, Nat.reduceAdd, Nat.reduceLeDiff, Nat.reduceLT, Nat.reduceSub, Nat.reduceEqDiff]) (by first | rfl | simp only [eES, eEX, Nat.reduceBEq, Int.reduceLE, Int.reduceLT, Int.reduceToNat, Int.reduceEq, ↓reduceIte, reduceCtorEq, Nat.reducePow, Nat.reduceAdd, Nat.reduceLeDiff, Nat.reduceLT, Nat.reduceSub, Nat.reduceEqDiff])
        simp only [h1, m1, h3, h4, h5, e2, eES, eEX, Nat.reduceBEq, Int.reduceLE, Int.reduceLT, Int.reduceToNat, Int.reduceEq, ↓reduceIte, reduceCtorEq, Nat.reducePow, Nat.reduceAdd, Nat.reduceLeDiff, Nat.reduceLT, Nat.reduceSub, Nat.reduceEqDiff]
        exact ⟨L.length - (j + 1), by omega, _, _, j + 1, _, rfl, rfl, (by first | rfl | exact h1 | simp only [h1, eES, eEX, Nat.reduceBEq, Int.reduceLE, Int.reduceLT, Int.reduceToNat, Int.reduceEq, ↓reduceIte, reduceCtorEq, Nat.reducePow, Nat.reduceAdd, Nat.reduceLeDiff, Nat.reduceLT, Nat.reduceSub, Nat.reduceEqDiff]), (by first | rfl | exact m1 | simp only [m1, eES, eEX, Nat.reduceBEq, Int.reduceLE, Int.reduceLT, Int.reduceToNat, Int.reduceEq, ↓reduceIte, reduceCtorEq, Nat.reducePow, Nat.reduceAdd, Nat.reduceLeDiff, Nat.reduceLT, Nat.reduceSub, Nat.reduceEqDiff]), (by first | rfl | exact h3 | simp only [h3, eES, eEX, Nat.reduceBEq, Int.reduceLE, Int.reduceLT, Int.reduceToNat, Int.reduceEq, ↓reduceIte, reduceCtorEq, Nat.reducePow, Nat.reduceAdd, Nat.reduceLeDiff, Nat.reduceLT, Nat.reduceSub, Nat.reduceEqDiff]), (by first | rfl | exact h4 | simp only [h4, eES, eEX, Nat.reduceBEq, Int.reduceLE, Int.reduceLT, Int.reduceToNat, Int.reduceEq, ↓reduceIte, reduceCtorEq, Nat.reducePow, Nat.reduceAdd, Nat.reduceLeDiff, Nat.reduceLT, Nat.reduceSub, Nat.reduceEqDiff]), (by first | rfl | simp only [eES, eEX, Nat.reduceBEq, Int.reduceLE, Int.reduceLT, Int.reduceToNat, Int.reduceEq, ↓reduceIte, reduceCtorEq, Nat.reducePow, Nat.reduceAdd, Nat.reduceLeDiff, Nat.reduceLT, Nat.reduceSub, Nat.reduceEqDiff])⟩
      · simp only [lt_f hlj, h1, m1, h3, h4, h5, e1, rb, eES, eEX, Nat.reduceBEq, Int.reduceLE, Int.reduceLT, Int.reduceToNat, Int.reduceEq, ↓reduceIte, reduceCtorEq, Nat.reducePow, Nat.reduceAdd, Nat.reduceLeDiff, Nat.reduceLT, Nat.reduceSub, Nat.reduceEqDiff]
        exact ⟨E.length - (i + 1), by omega, _, _, i + 1, _, rfl, rfl, (by first | rfl | exact h1 | simp only [h1, eES, eEX, Nat.reduceBEq, Int.reduceLE, Int.reduceLT, Int.reduceToNat, Int.reduceEq, ↓reduceIte, reduceCtorEq, Nat.reducePow, Nat.reduceAdd, Nat.reduceLeDiff, Nat.reduceLT, Nat.reduceSub, Nat.reduceEqDiff]), (by first | rfl | exact m1 | simp only [m1, eES, eEX, Nat.reduceBEq, Int.reduceLE, Int.reduceLT, Int.reduceToNat, Int.reduceEq, ↓reduceIte, reduceCtorEq, Nat.reducePow, Nat.reduceAdd, Nat.reduceLeDiff, Nat.reduceLT, Nat.reduceSub, Nat.reduceEqDiff]), (by first | rfl | exact h3 | simp only [h3, eES, eEX, Nat.reduceBEq, Int.reduceLE, Int.reduceLT, Int.reduceToNat, Int.reduceEq, ↓reduceIte, reduceCtorEq, Nat.reducePow, Nat.reduceAdd, Nat.reduceLeDiff, Nat.reduceLT, Nat.reduceSub, Nat.reduceEqDiff]), (by first | rfl | simp only [eES, eEX, Nat.reduceBEq, Int.reduceLE, Int.reduceLT, Int.reduceToNat, Int.reduceEq, ↓reduceIte, reduceCtorEq, Nat.reducePow, Nat.reduceAdd, Nat.reduceLeDiff, Nat.reduceLT, Nat.reduceSub, Nat.reduceEqDiff])⟩
  · simp only [lt_f hlt, h1, m1, h3, h4, rb, eES, eEX, Nat.reduceBEq, Int.reduceLE, Int.reduceLT, Int.reduceToNat, Int.reduceEq, ↓reduceIte, reduceCtorEq, Nat.reducePow, Nat.reduceAdd, Nat.reduceLeDiff, Nat.reduceLT, Nat.reduceSub, Nat.reduceEqDiff]
    refine awp_loop (LoP G E) _ ⟨_, _, 0, b, rfl, rfl, (by first | rfl | exact h1 | simp only [h1, eES, eEX, Nat.reduceBEq, Int.reduceLE, Int.reduceLT, Int.reduceToNat, Int.reduceEq, ↓reduceIte, reduceCtorEq, Nat.reducePow, Nat.reduceAdd, Nat.reduceLeDiff, Nat.reduceLT, Nat.reduceSub, Nat.reduceEqDiff]), (by first | rfl | exact m1 | simp only [m1, eES, eEX, Nat.reduceBEq, Int.reduceLE, Int.reduceLT, Int.reduceToNat, Int.reduceEq, ↓reduceIte, reduceCtorEq, Nat.reducePow, Nat.reduceAdd, Nat.reduceLeDiff, Nat.reduceLT, Nat.reduceSub, Nat.reduceEqDiff]), (by first | rfl | exact h3 | simp only [h3, eES, eEX, Nat.reduceBEq, Int.reduceLE, Int.reduceLT, Int.reduceToNat, Int.reduceEq, ↓reduceIte, reduceCtorEq, Nat.reducePow, Nat.reduceAdd, Nat.reduceLeDiff, Nat.reduceLT, Nat.reduceSub, Nat.reduceEqDiff]), (by first | rfl | simp only [eES, eEX, Nat.reduceBEq, Int.reduceLE, Int.reduceLT, Int.reduceToNat, Int.reduceEq, ↓reduceIte, reduceCtorEq, Nat.reducePow, Nat.reduceAdd, Nat.reduceLeDiff, Nat.reduceLT, Nat.reduceSub, Nat.reduceEqDiff]), fun _ x hx => by simp at hx⟩ ?_
    rintro _ st ⟨f, fr, i, b, rfl, rfl, h1, m1, h3, h7, hT⟩
    simp only [h1, m1, h3, h7, eES, eEX, Nat.reduceBEq, Int.reduceLE, Int.reduceLT, Int.reduceToNat, Int.reduceEq, ↓reduceIte, reduceCtorEq, Nat.reducePow, Nat.reduceAdd, Nat.reduceLeDiff, Nat.reduceLT, Nat.reduceSub, Nat.reduceEqDiff]
    by_cases hlt : i < G.length
    · obtain ⟨_, hc, hg⟩ := getE hP.g hlt
      obtain ⟨s, L, u, rfl, hs, hL, hO⟩ := id hg
      have e1 := wi64_s i _ hlt hP.lg
      cases b <;> simp only [lt_t hlt, nneg, Int.toNat_natCast, aiaddr, hc, h1, m1, h3, h7, e1, rb, eES, eEX, Nat.reduceBEq, Int.reduceLE, Int.reduceLT, Int.reduceToNat, Int.reduceEq, ↓reduceIte, reduceCtorEq, Nat.reducePow, Nat.reduceAdd, Nat.reduceLeDiff, Nat.reduceLT, Nat.reduceSub, Nat.reduceEqDiff]
      all_goals
        repeat' (first | (refine csel_of (fun h => ?_) (fun h => ?_) <;> simp only [h, nneg, Int.toNat_natCast, aiaddr, hc, h1, m1, h3, h7, e1, rb, eES, eEX, Nat.reduceBEq, Int.reduceLE, Int.reduceLT, Int.reduceToNat, Int.reduceEq, ↓reduceIte, reduceCtorEq, Nat.reducePow, Nat.reduceAdd, Nat.reduceLeDiff, Nat.reduceLT, Nat.reduceSub, Nat.reduceEqDiff]) | (refine gsel_t (fun h => ?_) (fun h => ?_) <;> simp only [h, updO, nneg, Int.toNat_natCast, aiaddr, hc, h1, m1, h3, h7, e1, rb, eES, eEX, Nat.reduceBEq, Int.reduceLE, Int.reduceLT, Int.reduceToNat, Int.reduceEq, ↓reduceIte, reduceCtorEq, Nat.reducePow, Nat.reduceAdd, Nat.reduceLeDiff, Nat.reduceLT, Nat.reduceSub, Nat.reduceEqDiff]) | (refine gsel_f (fun h => ?_) (fun h => ?_) <;> simp only [h, updO, nneg, Int.toNat_natCast, aiaddr, hc, h1, m1, h3, h7, e1, rb, eES, eEX, Nat.reduceBEq, Int.reduceLE, Int.reduceLT, Int.reduceToNat, Int.reduceEq, ↓reduceIte, reduceCtorEq, Nat.reducePow, Nat.reduceAdd, Nat.reduceLeDiff, Nat.reduceLT, Nat.reduceSub, Nat.reduceEqDiff]) | ((with_reducible apply aops_callR (k := 56) (R := RB)); (case h2 => exact fun _ h => h.rf); (case hy => rfl); (case h1 => rfl); (case hk => exact c56 _ hg); rintro _ ⟨b, rfl⟩; cases b <;> simp only [nneg, Int.toNat_natCast, aiaddr, hc, h1, m1, h3, h7, e1, rb, eES, eEX, Nat.reduceBEq, Int.reduceLE, Int.reduceLT, Int.reduceToNat, Int.reduceEq, ↓reduceIte, reduceCtorEq, Nat.reducePow, Nat.reduceAdd, Nat.reduceLeDiff, Nat.reduceLT, Nat.reduceSub, Nat.reduceEqDiff]))
      all_goals
        refine awp_loop (LoQ G E L i) _ ⟨_, _, 0, _, rfl, rfl, (by first | rfl | exact h1 | simp only [h1, eES, eEX, Nat.reduceBEq, Int.reduceLE, Int.reduceLT, Int.reduceToNat, Int.reduceEq, ↓reduceIte, reduceCtorEq, Nat.reducePow, Nat.reduceAdd, Nat.reduceLeDiff, Nat.reduceLT, Nat.reduceSub, Nat.reduceEqDiff]), (by first | rfl | exact m1 | simp only [m1, eES, eEX, Nat.reduceBEq, Int.reduceLE, Int.reduceLT, Int.reduceToNat, Int.reduceEq, ↓reduceIte, reduceCtorEq, Nat.reducePow, Nat.reduceAdd, Nat.reduceLeDiff, Nat.reduceLT, Nat.reduceSub, Nat.reduceEqDiff]), (by first | rfl | simp only [eES, eEX, Nat.reduceBEq, Int.reduceLE, Int.reduceLT, Int.reduceToNat, Int.reduceEq, ↓reduceIte, reduceCtorEq, Nat.reducePow, Nat.reduceAdd, Nat.reduceLeDiff, Nat.reduceLT, Nat.reduceSub, Nat.reduceEqDiff]), (by first | rfl | exact h7 | simp only [h7, eES, eEX, Nat.reduceBEq, Int.reduceLE, Int.reduceLT, Int.reduceToNat, Int.reduceEq, ↓reduceIte, reduceCtorEq, Nat.reducePow, Nat.reduceAdd, Nat.reduceLeDiff, Nat.reduceLT, Nat.reduceSub, Nat.reduceEqDiff]), (by first | rfl | simp only [eES, eEX, Nat.reduceBEq, Int.reduceLE, Int.reduceLT, Int.reduceToNat, Int.reduceEq, ↓reduceIte, reduceCtorEq, Nat.reducePow, Nat.reduceAdd, Nat.reduceLeDiff, Nat.reduceLT, Nat.reduceSub, Nat.reduceEqDiff]), fun hb => ⟨by first | exact hT hb | exact absurd hb (by decide), fun x hx => by simp at hx⟩⟩ ?_
        rintro _ st ⟨f, fr, j, b, rfl, rfl, h1, m1, h3, h7, h8, hQ⟩
        simp only [nneg, Int.toNat_natCast, aiaddr, hc, h1, m1, h3, h7, h8, eES, eEX, Nat.reduceBEq, Int.reduceLE, Int.reduceLT, Int.reduceToNat, Int.reduceEq, ↓reduceIte, reduceCtorEq, Nat.reducePow, Nat.reduceAdd, Nat.reduceLeDiff, Nat.reduceLT, Nat.reduceSub, Nat.reduceEqDiff]
        by_cases hlj : j < L.length
        · obtain ⟨_, hd, o, ho, rfl⟩ := getE hO hlj
          have e2 := wi64_s j _ hlj hL
          have hO' := c57 G E o ho
          simp only [pv, PO.cells] at hO'
          have fin : ∀ b', (b' = true → b = true ∧ TG G o) → (b' = true → (∀ x ∈ G.take i, TGg G x) ∧ TGs G (L.take (j + 1))) := by
            intro b' hb hb'
            obtain ⟨g1, g2⟩ := hb hb'
            refine ⟨(hQ g1).1, fun x hx => ?_⟩
            rcases take_in hd hx with h | rfl
            · exact (hQ g1).2 x h
            · exact tgx g2
          cases b <;> simp only [lt_t hlj, PO.cells, nneg, Int.toNat_natCast, aiaddr, hc, hd, h1, m1, h3, h7, h8, e2, rb, eES, eEX, Nat.reduceBEq, Int.reduceLE, Int.reduceLT, Int.reduceToNat, Int.reduceEq, ↓reduceIte, reduceCtorEq, Nat.reducePow, Nat.reduceAdd, Nat.reduceLeDiff, Nat.reduceLT, Nat.reduceSub, Nat.reduceEqDiff]
          all_goals
            repeat' (first | (refine csel_of (fun h => ?_) (fun h => ?_) <;> simp only [h, PO.cells, nneg, Int.toNat_natCast, aiaddr, hc, hd, h1, m1, h3, h7, h8, e2, rb, eES, eEX, Nat.reduceBEq, Int.reduceLE, Int.reduceLT, Int.reduceToNat, Int.reduceEq, ↓reduceIte, reduceCtorEq, Nat.reducePow, Nat.reduceAdd, Nat.reduceLeDiff, Nat.reduceLT, Nat.reduceSub, Nat.reduceEqDiff]) | (refine gsel_t (fun h => ?_) (fun h => ?_) <;> simp only [h, updO, PO.cells, nneg, Int.toNat_natCast, aiaddr, hc, hd, h1, m1, h3, h7, h8, e2, rb, eES, eEX, Nat.reduceBEq, Int.reduceLE, Int.reduceLT, Int.reduceToNat, Int.reduceEq, ↓reduceIte, reduceCtorEq, Nat.reducePow, Nat.reduceAdd, Nat.reduceLeDiff, Nat.reduceLT, Nat.reduceSub, Nat.reduceEqDiff]) | (refine gsel_f (fun h => ?_) (fun h => ?_) <;> simp only [h, updO, PO.cells, nneg, Int.toNat_natCast, aiaddr, hc, hd, h1, m1, h3, h7, h8, e2, rb, eES, eEX, Nat.reduceBEq, Int.reduceLE, Int.reduceLT, Int.reduceToNat, Int.reduceEq, ↓reduceIte, reduceCtorEq, Nat.reducePow, Nat.reduceAdd, Nat.reduceLeDiff, Nat.reduceLT, Nat.reduceSub, Nat.reduceEqDiff]) | ((with_reducible apply aops_callR (k := 57) (R := RBP (TG G o))); (case h2 => exact fun _ h => h.rf); (case hy => rfl); (case h1 => rfl); (case hk => exact hO'); rintro _ ⟨b, rfl, hbp⟩; cases b <;> simp only [PO.cells, nneg, Int.toNat_natCast, aiaddr, hc, hd, h1, m1, h3, h7, h8, e2, rb, eES, eEX, Nat.reduceBEq, Int.reduceLE, Int.reduceLT, Int.reduceToNat, Int.reduceEq, ↓reduceIte, reduceCtorEq, Nat.reducePow, Nat.reduceAdd, Nat.reduceLeDiff, Nat.reduceLT, Nat.reduceSub, Nat.reduceEqDiff]))
          all_goals exact ⟨L.length - (j + 1), by omega, _, _, j + 1, _, rfl, rfl, (by first | rfl | exact h1 | simp only [h1, eES, eEX, Nat.reduceBEq, Int.reduceLE, Int.reduceLT, Int.reduceToNat, Int.reduceEq, ↓reduceIte, reduceCtorEq, Nat.reducePow, Nat.reduceAdd, Nat.reduceLeDiff, Nat.reduceLT, Nat.reduceSub, Nat.reduceEqDiff]), (by first | rfl | exact m1 | simp only [m1, eES, eEX, Nat.reduceBEq, Int.reduceLE, Int.reduceLT, Int.reduceToNat, Int.reduceEq, ↓reduceIte, reduceCtorEq, Nat.reducePow, Nat.reduceAdd, Nat.reduceLeDiff, Nat.reduceLT, Nat.reduceSub, Nat.reduceEqDiff]), (by first | rfl | simp only [eES, eEX, Nat.reduceBEq, Int.reduceLE, Int.reduceLT, Int.reduceToNat, Int.reduceEq, ↓reduceIte, reduceCtorEq, Nat.reducePow, Nat.reduceAdd, Nat.reduceLeDiff, Nat.reduceLT, Nat.reduceSub, Nat.reduceEqDiff]), (by first | rfl | exact h7 | simp only [h7, eES, eEX, Nat.reduceBEq, Int.reduceLE, Int.reduceLT, Int.reduceToNat, Int.reduceEq, ↓reduceIte, reduceCtorEq, Nat.reducePow, Nat.reduceAdd, Nat.reduceLeDiff, Nat.reduceLT, Nat.reduceSub, Nat.reduceEqDiff]), (by first | rfl | simp only [eES, eEX, Nat.reduceBEq, Int.reduceLE, Int.reduceLT, Int.reduceToNat, Int.reduceEq, ↓reduceIte, reduceCtorEq, Nat.reducePow, Nat.reduceAdd, Nat.reduceLeDiff, Nat.reduceLT, Nat.reduceSub, Nat.reduceEqDiff]), fin _ (fun hb => by first | exact absurd hb (by decide) | exact ⟨rfl, hbp rfl⟩)⟩
        · simp only [lt_f hlj, h1, m1, h3, h7, h8, e1, rb, eES, eEX, Nat.reduceBEq, Int.reduceLE, Int.reduceLT, Int.reduceToNat, Int.reduceEq, ↓reduceIte, reduceCtorEq, Nat.reducePow, Nat.reduceAdd, Nat.reduceLeDiff, Nat.reduceLT, Nat.reduceSub, Nat.reduceEqDiff]
          refine ⟨G.length - (i + 1), by omega, _, _, i + 1, _, rfl, rfl, (by first | rfl | exact h1 | simp only [h1, eES, eEX, Nat.reduceBEq, Int.reduceLE, Int.reduceLT, Int.reduceToNat, Int.reduceEq, ↓reduceIte, reduceCtorEq, Nat.reducePow, Nat.reduceAdd, Nat.reduceLeDiff, Nat.reduceLT, Nat.reduceSub, Nat.reduceEqDiff]), (by first | rfl | exact m1 | simp only [m1, eES, eEX, Nat.reduceBEq, Int.reduceLE, Int.reduceLT, Int.reduceToNat, Int.reduceEq, ↓reduceIte, reduceCtorEq, Nat.reducePow, Nat.reduceAdd, Nat.reduceLeDiff, Nat.reduceLT, Nat.reduceSub, Nat.reduceEqDiff]), (by first | rfl | exact h3 | simp only [h3, eES, eEX, Nat.reduceBEq, Int.reduceLE, Int.reduceLT, Int.reduceToNat, Int.reduceEq, ↓reduceIte, reduceCtorEq, Nat.reducePow, Nat.reduceAdd, Nat.reduceLeDiff, Nat.reduceLT, Nat.reduceSub, Nat.reduceEqDiff]), (by first | rfl | simp only [eES, eEX, Nat.reduceBEq, Int.reduceLE, Int.reduceLT, Int.reduceToNat, Int.reduceEq, ↓reduceIte, reduceCtorEq, Nat.reducePow, Nat.reduceAdd, Nat.reduceLeDiff, Nat.reduceLT, Nat.reduceSub, Nat.reduceEqDiff]), fun hb x hx => ?_⟩
          rcases take_in hc hx with h | rfl
          · exact (hQ hb).1 x h
          · intro s' L' u' he
            cases he
            have := (hQ hb).2
            rwa [List.take_of_length_le (by omega)] at this
    · simp only [lt_f hlt, h1, m1, h3, h7, rbp, eES, eEX, Nat.reduceBEq, Int.reduceLE, Int.reduceLT, Int.reduceToNat, Int.reduceEq, ↓reduceIte, reduceCtorEq, Nat.reducePow, Nat.reduceAdd, Nat.reduceLeDiff, Nat.reduceLT, Nat.reduceSub, Nat.reduceEqDiff]
      intro hb
      have := hT hb
      rwa [List.take_of_length_le (by omega)] at this

end Go.Proofs.YtdmbncmbkocjjaaGreat.Va

/- Plans, as the specification examines them: finite values; all of it. -/
set_option linter.unusedSimpArgs false
namespace Go.Proofs.YtdmbncmbkocjjaaGreat.Va
open Go Am Rc Bt Br

def AllB (l : List AV) : Prop := ∀ x ∈ l, ∃ b, x = .bool b

/-- What stands in all three loops. -/
structure Fn0 (G E : List AV) (n c : Nat) (f : Fr) (fr : Nat → Ob) : Prop where
  h1 : f 1 = .ptr 0 1 0
  m1 : fr 1 = .cells [.list G, .list E]
  h3 : f 3 = .vec 0 12 1 0 n false
  m12 : ∃ xs, fr 12 = .vec 1 1 xs ∧ xs.length = n ∧ AllB xs
  h4 : ∃ b, f 4 = .bool b
  h19 : f 19 = .int .i64 (n : Nat)
  h20 : f 20 = .int .i64 (c : Nat)
  r8 : noRows [8] fr

theorem Fn0.drop {G E : List AV} {n c : Nat} {f f' : Fr} {fr fr' : Nat → Ob} (h : Fn0 G E n c f fr) (hf : ∀ i, f' i = scrs [8] (f i)) (hm : ∀ i, i ∉ [8] → fr' i = oscrs [8] (fr i)) (hn : ∀ i ∈ [8], fr' i = .none) : Fn0 G E n c f' fr' where
  h1 := by rw [hf, h.h1] <;> rfl
  m1 := by rw [hm 1 (by decide), h.m1] <;> rfl
  h3 := by rw [hf, h.h3] <;> rfl
  m12 := by
    obtain ⟨xs, h1, h2⟩ := h.m12
    exact ⟨xs, by rw [hm 12 (by decide), h1] <;> rfl, h2⟩
  h4 := by
    obtain ⟨b, hb⟩ := h.h4
    exact ⟨b, by rw [hf, hb] <;> rfl⟩
  h19 := by rw [hf, h.h19] <;> rfl
  h20 := by rw [hf, h.h20] <;> rfl
  r8 := noRows_drop h.r8 hm hn (by simp)

def FnA (G E : List AV) (n : Nat) (k : Nat) (st : St) : Prop := ∃ f fr c, st = ⟨f, [fr], []⟩ ∧ k = n - c ∧ Fn0 G E n c f fr
def FnB (G E : List AV) (n c : Nat) (k : Nat) (st : St) : Prop := ∃ f fr i, st = ⟨f, [fr], []⟩ ∧ k = n - i ∧ Fn0 G E n c f fr ∧ f 5 = .int .i64 (i : Nat)
def FnC (G E L : List AV) (n c i : Nat) (k : Nat) (st : St) : Prop := ∃ f fr j b, st = ⟨f, [fr], []⟩ ∧ k = L.length - j ∧ Fn0 G E n c f fr ∧ f 5 = .int .i64 (i : Nat) ∧ f 6 = .bool b ∧ f 7 = .int .i64 (j : Nat)

theorem c34 (G E : List AV) (hP : IsP G E) (hG : G.length ≤ 8) (hT : ∀ x ∈ G, TGg G x) : Fn? Tryz.prog 34 [pv G E] RB := by
  refine fnR_of_awp (rc := r34) (rs := o34) Tryz.func34 rfl rfl Tryz.ntmps34 k34 q34 (by simp) ?_
  simp only [g34_0, g34_1, g34_2, g34_3, g34_4, g34_5, g34_6, g34_7, g34_9, g34_10, g34_11, g34_13, g34_12, g34_15, g34_16, g34_8, g34_17, g34_18, r34, o34, pv, eES, eEX, Nat.reduceBEq, Int.reduceLE, Int.reduceLT, Int.reduceToNat, Int.reduceEq, ↓reduceIte, reduceCtorEq, Nat.reducePow, Nat.reduceAdd, Nat.reduceLeDiff, Nat.reduceLT, Nat.reduceSub, Nat.reduceEqDiff]
  refine aops_mk (n := G.length) (k := G.length) rfl rfl (Nat.le_refl _) (by omega) (by omega) rfl ?_
  simp only [eES, eEX, Nat.reduceBEq, Int.reduceLE, Int.reduceLT, Int.reduceToNat, Int.reduceEq, ↓reduceIte, reduceCtorEq, Nat.reducePow, Nat.reduceAdd, Nat.reduceLeDiff, Nat.reduceLT, Nat.reduceSub, Nat.reduceEqDiff]
  have hz : zeroE 1 [AV.bool false] = .bool false := rfl
  refine awp_loop (FnA G E G.length) _ ⟨_, _, 0, rfl, rfl, ⟨(by first | rfl | simp only [eES, eEX, Nat.reduceBEq, Int.reduceLE, Int.reduceLT, Int.reduceToNat, Int.reduceEq, ↓reduceIte, reduceCtorEq, Nat.reducePow, Nat.reduceAdd, Nat.reduceLeDiff, Nat.reduceLT, Nat.reduceSub, Nat.reduceEqDiff]), (by first | rfl | simp only [eES, eEX, Nat.reduceBEq, Int.reduceLE, Int.reduceLT, Int.reduceToNat, Int.reduceEq, ↓reduceIte, reduceCtorEq, Nat.reducePow, Nat.reduceAdd, Nat.reduceLeDiff, Nat.reduceLT, Nat.reduceSub, Nat.reduceEqDiff]), (by first | rfl | simp only [eES, eEX, Nat.reduceBEq, Int.reduceLE, Int.reduceLT, Int.reduceToNat, Int.reduceEq, ↓reduceIte, reduceCtorEq, Nat.reducePow, Nat.reduceAdd, Nat.reduceLeDiff, Nat.reduceLT, Nat.reduceSub, Nat.reduceEqDiff]), ⟨_, (by first | rfl | simp only [eES, eEX, Nat.reduceBEq, Int.reduceLE, Int.reduceLT, Int.reduceToNat, Int.reduceEq, ↓reduceIte, reduceCtorEq, Nat.reducePow, Nat.reduceAdd, Nat.reduceLeDiff, Nat.reduceLT, Nat.reduceSub, Nat.reduceEqDiff]), by simp, fun x hx => ⟨false, by rw [← hz]; exact (List.mem_replicate.1 hx).2⟩⟩, ⟨_, (by first | rfl | simp only [eES, eEX, Nat.reduceBEq, Int.reduceLE, Int.reduceLT, Int.reduceToNat, Int.reduceEq, ↓reduceIte, reduceCtorEq, Nat.reducePow, Nat.reduceAdd, Nat.reduceLeDiff, Nat.reduceLT, Nat.reduceSub, Nat.reduceEqDiff])⟩, (by first | rfl | simp only [eES, eEX, Nat.reduceBEq, Int.reduceLE, Int.reduceLT, Int.reduceToNat, Int.reduceEq, ↓reduceIte, reduceCtorEq, Nat.reducePow, Nat.reduceAdd, Nat.reduceLeDiff, Nat.reduceLT, Nat.reduceSub, Nat.reduceEqDiff]), (by first | rfl | simp only [eES, eEX, Nat.reduceBEq, Int.reduceLE, Int.reduceLT, Int.reduceToNat, Int.reduceEq, ↓reduceIte, reduceCtorEq, Nat.reducePow, Nat.reduceAdd, Nat.reduceLeDiff, Nat.reduceLT, Nat.reduceSub, Nat.reduceEqDiff]), by simp [noRows] <;> rfl⟩⟩ ?_
  rintro _ st ⟨f0, fr0, c, rfl, rfl, H0⟩
  refine awp_drops (a := _) [8] H0.r8 ?_
  intro f fr hf hm hn
  have H := H0.drop hf hm hn
  clear hf hm hn
  obtain ⟨h1, m1, h3, ⟨xs, m12, hx1, hx2⟩, ⟨b, h4⟩, h19, h20, r8⟩ := id H
  simp only [g34_0, g34_1, g34_2, g34_3, g34_4, g34_5, g34_6, g34_7, g34_9, g34_10, g34_11, g34_13, g34_12, g34_15, g34_16, g34_8, g34_17, g34_18, r34, o34, h1, m1, h3, h4, h19, h20, eES, eEX, Nat.reduceBEq, Int.reduceLE, Int.reduceLT, Int.reduceToNat, Int.reduceEq, ↓reduceIte, reduceCtorEq, Nat.reducePow, Nat.reduceAdd, Nat.reduceLeDiff, Nat.reduceLT, Nat.reduceSub, Nat.reduceEqDiff]
  by_cases hlt : c < G.length
  · have e1 := wi64_s c _ hlt (by simp only [maxLen]; omega)
    simp only [lt_t hlt, h1, m1, h3, h4, h19, h20, eES, eEX, Nat.reduceBEq, Int.reduceLE, Int.reduceLT, Int.reduceToNat, Int.reduceEq, ↓reduceIte, reduceCtorEq, Nat.reducePow, Nat.reduceAdd, Nat.reduceLeDiff, Nat.reduceLT, Nat.reduceSub, Nat.reduceEqDiff]
    refine awp_loop (FnB G E G.length c) _ ⟨_, _, 0, rfl, rfl, ⟨(by first | rfl | exact h1 | simp only [h1, eES, eEX, Nat.reduceBEq, Int.reduceLE, Int.reduceLT, Int.reduceToNat, Int.reduceEq, ↓reduceIte, reduceCtorEq, Nat.reducePow, Nat.reduceAdd, Nat.reduceLeDiff, Nat.reduceLT, Nat.reduceSub, Nat.reduceEqDiff]), (by first | rfl | exact m1 | simp only [m1, eES, eEX, Nat.reduceBEq, Int.reduceLE, Int.reduceLT, Int.reduceToNat, Int.reduceEq, ↓reduceIte, reduceCtorEq, Nat.reducePow, Nat.reduceAdd, Nat.reduceLeDiff, Nat.reduceLT, Nat.reduceSub, Nat.reduceEqDiff]), (by first | rfl | exact h3 | simp only [h3, eES, eEX, Nat.reduceBEq, Int.reduceLE, Int.reduceLT, Int.reduceToNat, Int.reduceEq, ↓reduceIte, reduceCtorEq, Nat.reducePow, Nat.reduceAdd, Nat.reduceLeDiff, Nat.reduceLT, Nat.reduceSub, Nat.reduceEqDiff]), ⟨xs, (by first | rfl | exact m12 | simp only [m12, eES, eEX, Nat.reduceBEq, Int.reduceLE, Int.reduceLT, Int.reduceToNat, Int.reduceEq, ↓reduceIte, reduceCtorEq, Nat.reducePow, Nat.reduceAdd, Nat.reduceLeDiff, Nat.reduceLT, Nat.reduceSub, Nat.reduceEqDiff]), hx1, hx2⟩, ⟨_, (by first | rfl | simp only [eES, eEX, Nat.reduceBEq, Int.reduceLE, Int.reduceLT, Int.reduceToNat, Int.reduceEq, ↓reduceIte, reduceCtorEq, Nat.reducePow, Nat.reduceAdd, Nat.reduceLeDiff, Nat.reduceLT, Nat.reduceSub, Nat.reduceEqDiff])⟩, (by first | rfl | exact h19 | simp only [h19, eES, eEX, Nat.reduceBEq, Int.reduceLE, Int.reduceLT, Int.reduceToNat, Int.reduceEq, ↓reduceIte, reduceCtorEq, Nat.reducePow, Nat.reduceAdd, Nat.reduceLeDiff, Nat.reduceLT, Nat.reduceSub, Nat.reduceEqDiff]), (by first | rfl | exact h20 | simp only [h20, eES, eEX, Nat.reduceBEq, Int.reduceLE, Int.reduceLT, Int.reduceToNat, Int.reduceEq, ↓reduceIte, reduceCtorEq, Nat.reducePow, Nat.reduceAdd, Nat.reduceLeDiff, Nat.reduceLT, Nat.reduceSub, Nat.reduceEqDiff]), r8⟩, (by first | rfl | simp only [eES, eEX, Nat.reduceBEq, Int.reduceLE, Int.reduceLT, Int.reduceToNat, Int.reduceEq, ↓reduceIte, reduceCtorEq, Nat.reducePow, Nat.reduceAdd, Nat.reduceLeDiff, Nat.reduceLT, Nat.reduceSub, Nat.reduceEqDiff])⟩ ?_
    rintro _ st ⟨f0, fr0, i, rfl, rfl, H0, h50⟩
    refine awp_drops (a := _) [8] H0.r8 ?_
    intro f fr hf hm hn
    have H := H0.drop hf hm hn
    have h5 : f 5 = .int .i64 (i : Nat) := by rw [hf, h50] <;> rfl
    have n8 := hn 8 (by decide)
    clear hf hm hn
    obtain ⟨h1, m1, h3, ⟨xs, m12, hx1, hx2⟩, ⟨b, h4⟩, h19, h20, r8⟩ := id H
    simp only [g34_0, g34_1, g34_2, g34_3, g34_4, g34_5, g34_6, g34_7, g34_9, g34_10, g34_11, g34_13, g34_12, g34_15, g34_16, g34_8, g34_17, g34_18, r34, o34, h1, m1, h3, h4, h5, h19, h20, eES, eEX, Nat.reduceBEq, Int.reduceLE, Int.reduceLT, Int.reduceToNat, Int.reduceEq, ↓reduceIte, reduceCtorEq, Nat.reducePow, Nat.reduceAdd, Nat.reduceLeDiff, Nat.reduceLT, Nat.reduceSub, Nat.reduceEqDiff]
    by_cases hli : i < G.length
    · obtain ⟨_, hc, hg⟩ := getE hP.g hli
      obtain ⟨s, L, u, rfl, hs, hL, hO⟩ := id hg
      have hTL : TGs G L := hT _ (List.mem_of_getElem? hc) _ _ _ rfl
      have e2 := wi64_s i _ hli (by simp only [maxLen]; omega)
      simp only [lt_t hli, h1, m1, h3, h4, h5, h19, h20, eES, eEX, Nat.reduceBEq, Int.reduceLE, Int.reduceLT, Int.reduceToNat, Int.reduceEq, ↓reduceIte, reduceCtorEq, Nat.reducePow, Nat.reduceAdd, Nat.reduceLeDiff, Nat.reduceLT, Nat.reduceSub, Nat.reduceEqDiff]
      refine awp_loop (FnC G E L G.length c i) _ ⟨_, _, 0, _, rfl, rfl, ⟨(by first | rfl | exact h1 | simp only [h1, eES, eEX, Nat.reduceBEq, Int.reduceLE, Int.reduceLT, Int.reduceToNat, Int.reduceEq, ↓reduceIte, reduceCtorEq, Nat.reducePow, Nat.reduceAdd, Nat.reduceLeDiff, Nat.reduceLT, Nat.reduceSub, Nat.reduceEqDiff]), (by first | rfl | exact m1 | simp only [m1, eES, eEX, Nat.reduceBEq, Int.reduceLE, Int.reduceLT, Int.reduceToNat, Int.reduceEq, ↓reduceIte, reduceCtorEq, Nat.reducePow, Nat.reduceAdd, Nat.reduceLeDiff, Nat.reduceLT, Nat.reduceSub, Nat.reduceEqDiff]), (by first | rfl | exact h3 | simp only [h3, eES, eEX, Nat.reduceBEq, Int.reduceLE, Int.reduceLT, Int.reduceToNat, Int.reduceEq, ↓reduceIte, reduceCtorEq, Nat.reducePow, Nat.reduceAdd, Nat.reduceLeDiff, Nat.reduceLT, Nat.reduceSub, Nat.reduceEqDiff]), ⟨xs, (by first | rfl | exact m12 | simp only [m12, eES, eEX, Nat.reduceBEq, Int.reduceLE, Int.reduceLT, Int.reduceToNat, Int.reduceEq, ↓reduceIte, reduceCtorEq, Nat.reducePow, Nat.reduceAdd, Nat.reduceLeDiff, Nat.reduceLT, Nat.reduceSub, Nat.reduceEqDiff]), hx1, hx2⟩, ⟨_, (by first | rfl | exact h4 | simp only [h4, eES, eEX, Nat.reduceBEq, Int.reduceLE, Int.reduceLT, Int.reduceToNat, Int.reduceEq, ↓reduceIte, reduceCtorEq, Nat.reducePow, Nat.reduceAdd, Nat.reduceLeDiff, Nat.reduceLT, Nat.reduceSub, Nat.reduceEqDiff])⟩, (by first | rfl | exact h19 | simp only [h19, eES, eEX, Nat.reduceBEq, Int.reduceLE, Int.reduceLT, Int.reduceToNat, Int.reduceEq, ↓reduceIte, reduceCtorEq, Nat.reducePow, Nat.reduceAdd, Nat.reduceLeDiff, Nat.reduceLT, Nat.reduceSub, Nat.reduceEqDiff]), (by first | rfl | exact h20 | simp only [h20, eES, eEX, Nat.reduceBEq, Int.reduceLE, Int.reduceLT, Int.reduceToNat, Int.reduceEq, ↓reduceIte, reduceCtorEq, Nat.reducePow, Nat.reduceAdd, Nat.reduceLeDiff, Nat.reduceLT, Nat.reduceSub, Nat.reduceEqDiff]), r8⟩, (by first | rfl | exact h5 | simp only [h5, eES, eEX, Nat.reduceBEq, Int.reduceLE, Int.reduceLT, Int.reduceToNat, Int.reduceEq, ↓reduceIte, reduceCtorEq, Nat.reducePow, Nat.reduceAdd, Nat.reduceLeDiff, Nat.reduceLT, Nat.reduceSub, Nat.reduceEqDiff]), (by first | rfl | simp only [eES, eEX, Nat.reduceBEq, Int.reduceLE, Int.reduceLT, Int.reduceToNat, Int.reduceEq, ↓reduceIte, reduceCtorEq, Nat.reducePow, Nat.reduceAdd, Nat.reduceLeDiff, Nat.reduceLT, Nat.reduceSub, Nat.reduceEqDiff]), (by first | rfl | simp only [eES, eEX, Nat.reduceBEq, Int.reduceLE, Int.reduceLT, Int.reduceToNat, Int.reduceEq, ↓reduceIte, reduceCtorEq, Nat.reducePow, Nat.reduceAdd, Nat.reduceLeDiff, Nat.reduceLT, Nat.reduceSub, Nat.reduceEqDiff])⟩ ?_
      rintro _ st ⟨f0, fr0, j, b, rfl, rfl, H0, h50, h60, h70⟩
      refine awp_drops (a := _) [8] H0.r8 ?_
      intro f fr hf hm hn
      have H := H0.drop hf hm hn
      have h5 : f 5 = .int .i64 (i : Nat) := by rw [hf, h50] <;> rfl
      have h6 : f 6 = .bool b := by rw [hf, h60] <;> rfl
      have h7 : f 7 = .int .i64 (j : Nat) := by rw [hf, h70] <;> rfl
      have n8 := hn 8 (by decide)
      clear hf hm hn
      obtain ⟨h1, m1, h3, ⟨xs, m12, hx1, hx2⟩, ⟨b4, h4⟩, h19, h20, r8⟩ := id H
      simp only [g34_0, g34_1, g34_2, g34_3, g34_4, g34_5, g34_6, g34_7, g34_9, g34_10, g34_11, g34_13, g34_12, g34_15, g34_16, g34_8, g34_17, g34_18, r34, o34, nneg, Int.toNat_natCast, aiaddr, hc, h1, m1, h3, h4, h5, h6, h7, h19, h20, eES, eEX, Nat.reduceBEq, Int.reduceLE, Int.reduceLT, Int.reduceToNat, Int.reduceEq, ↓reduceIte, reduceCtorEq, Nat.reducePow, Nat.reduceAdd, Nat.reduceLeDiff, Nat.reduceLT, Nat.reduceSub, Nat.reduceEqDiff]
      by_cases hlj : j < L.length
      · obtain ⟨_, hd, o, ho, rfl⟩ := getE hO hlj
        have e3 := wi64_s j _ hlj hL
        have htg := hTL _ (List.mem_of_getElem? hd) _ _ _ _ _ _ _ _ rfl
        have key : ∀ (fr : Nat → Ob), fr 8 = .cells o.cells → fr 12 = .vec 1 1 xs → ∀ Q : St → Prop, (∀ f' b', f' 1 = .ptr 0 1 0 → f' 3 = .vec 0 12 1 0 G.length false → f' 4 = .bool b4 → f' 5 = .int .i64 (i : Nat) → f' 6 = .bool b' → f' 7 = .int .i64 (j : Nat) → f' 19 = .int .i64 (G.length : Nat) → f' 20 = .int .i64 (c : Nat) → Q ⟨f', [fr], []⟩) →
            ∀ f', f' 1 = .ptr 0 1 0 → f' 3 = .vec 0 12 1 0 G.length false → f' 4 = .bool b4 → f' 5 = .int .i64 (i : Nat) → f' 6 = .bool b → f' 7 = .int .i64 (j : Nat) → f' 8 = .ptr 0 8 0 → f' 19 = .int .i64 (G.length : Nat) → f' 20 = .int .i64 (c : Nat) → aops Tryz.prog g34_14 ⟨f', [fr], []⟩ Q := by
          intro fr m8 m12 Q hQ f' h1 h3 h4 h5 h6 h7 h8 h19 h20
          by_cases hk : o.kind = 10
          · obtain ⟨t1, t2⟩ := htg hk
            obtain ⟨t, ht⟩ := Int.eq_ofNat_of_zero_le t1
            obtain ⟨y, hy, bt, rfl⟩ := getE (p := fun x => ∃ b, x = AV.bool b) hx2 (show t < xs.length by omega)
            have b2 : (o.kind != 10) = false := by simp [hk]
            have hty : t < G.length := by omega
            have s1 : (t < G.length) = True := eq_true hty
            simp only [PO.cells] at m8
            cases b <;> simp only [g34_0, g34_1, g34_2, g34_3, g34_4, g34_5, g34_6, g34_7, g34_9, g34_10, g34_11, g34_13, g34_14, g34_12, g34_15, g34_16, g34_8, g34_17, g34_18, r34, o34, b2, h1, h3, h4, h5, h6, h7, h8, m8, h19, h20, eES, eEX, Nat.reduceBEq, Int.reduceLE, Int.reduceLT, Int.reduceToNat, Int.reduceEq, ↓reduceIte, reduceCtorEq, Nat.reducePow, Nat.reduceAdd, Nat.reduceLeDiff, Nat.reduceLT, Nat.reduceSub, Nat.reduceEqDiff]
            all_goals
              repeat' (first | (refine csel_of (fun h => ?_) (fun h => ?_) <;> simp only [h, b2, ht, hy, s1, nneg, Int.toNat_natCast, aiaddr, Nat.zero_add, m12, h1, h3, h4, h5, h6, h7, h8, m8, h19, h20, eES, eEX, Nat.reduceBEq, Int.reduceLE, Int.reduceLT, Int.reduceToNat, Int.reduceEq, ↓reduceIte, reduceCtorEq, Nat.reducePow, Nat.reduceAdd, Nat.reduceLeDiff, Nat.reduceLT, Nat.reduceSub, Nat.reduceEqDiff]) | (refine gsel_t (fun h => ?_) (fun h => ?_) <;> simp only [h, updO, b2, ht, hy, s1, nneg, Int.toNat_natCast, aiaddr, Nat.zero_add, m12, h1, h3, h4, h5, h6, h7, h8, m8, h19, h20, eES, eEX, Nat.reduceBEq, Int.reduceLE, Int.reduceLT, Int.reduceToNat, Int.reduceEq, ↓reduceIte, reduceCtorEq, Nat.reducePow, Nat.reduceAdd, Nat.reduceLeDiff, Nat.reduceLT, Nat.reduceSub, Nat.reduceEqDiff]) | (refine gsel_f (fun h => ?_) (fun h => ?_) <;> simp only [h, updO, b2, ht, hy, s1, nneg, Int.toNat_natCast, aiaddr, Nat.zero_add, m12, h1, h3, h4, h5, h6, h7, h8, m8, h19, h20, eES, eEX, Nat.reduceBEq, Int.reduceLE, Int.reduceLT, Int.reduceToNat, Int.reduceEq, ↓reduceIte, reduceCtorEq, Nat.reducePow, Nat.reduceAdd, Nat.reduceLeDiff, Nat.reduceLT, Nat.reduceSub, Nat.reduceEqDiff]))
            all_goals exact hQ _ _ (by first | rfl | exact h1 | simp only [h1, eES, eEX, Nat.reduceBEq, Int.reduceLE, Int.reduceLT, Int.reduceToNat, Int.reduceEq, ↓reduceIte, reduceCtorEq, Nat.reducePow, Nat.reduceAdd, Nat.reduceLeDiff, Nat.reduceLT, Nat.reduceSub, Nat.reduceEqDiff]) (by first | rfl | exact h3 | simp only [h3, eES, eEX, Nat.reduceBEq, Int.reduceLE, Int.reduceLT, Int.reduceToNat, Int.reduceEq, ↓reduceIte, reduceCtorEq, Nat.reducePow, Nat.reduceAdd, Nat.reduceLeDiff, Nat.reduceLT, Nat.reduceSub, Nat.reduceEqDiff]) (by first | rfl | exact h4 | simp only [h4, eES, eEX, Nat.reduceBEq, Int.reduceLE, Int.reduceLT, Int.reduceToNat, Int.reduceEq, ↓reduceIte, reduceCtorEq, Nat.reducePow, Nat.reduceAdd, Nat.reduceLeDiff, Nat.reduceLT, Nat.reduceSub, Nat.reduceEqDiff]) (by first | rfl | exact h5 | simp only [h5, eES, eEX, Nat.reduceBEq, Int.reduceLE, Int.reduceLT, Int.reduceToNat, Int.reduceEq, ↓reduceIte, reduceCtorEq, Nat.reducePow, Nat.reduceAdd, Nat.reduceLeDiff, Nat.reduceLT, Nat.reduceSub, Nat.reduceEqDiff]) (by first | rfl | simp only [eES, eEX, Nat.reduceBEq, Int.reduceLE, Int.reduceLT, Int.reduceToNat, Int.reduceEq, ↓reduceIte, reduceCtorEq, Nat.reducePow, Nat.reduceAdd, Nat.reduceLeDiff, Nat.reduceLT, Nat.reduceSub, Nat.reduceEqDiff]) (by first | rfl | exact h7 | simp only [h7, eES, eEX, Nat.reduceBEq, Int.reduceLE, Int.reduceLT, Int.reduceToNat, Int.reduceEq, ↓reduceIte, reduceCtorEq, Nat.reducePow, Nat.reduceAdd, Nat.reduceLeDiff, Nat.reduceLT, Nat.reduceSub, Nat.reduceEqDiff]) (by first | rfl | exact h19 | simp only [h19, eES, eEX, Nat.reduceBEq, Int.reduceLE, Int.reduceLT, Int.reduceToNat, Int.reduceEq, ↓reduceIte, reduceCtorEq, Nat.reducePow, Nat.reduceAdd, Nat.reduceLeDiff, Nat.reduceLT, Nat.reduceSub, Nat.reduceEqDiff]) (by first | rfl | exact h20 | simp only [h20, eES, eEX, Nat.reduceBEq, Int.reduceLE, Int.reduceLT, Int.reduceToNat, Int.reduceEq, ↓reduceIte, reduceCtorEq, Nat.reducePow, Nat.reduceAdd, Nat.reduceLeDiff, Nat.reduceLT, Nat.reduceSub, Nat.reduceEqDiff])
          · have b2 : (o.kind != 10) = true := by simp [hk]
            simp only [PO.cells] at m8
            cases b <;> simp only [g34_0, g34_1, g34_2, g34_3, g34_4, g34_5, g34_6, g34_7, g34_9, g34_10, g34_11, g34_13, g34_14, g34_12, g34_15, g34_16, g34_8, g34_17, g34_18, r34, o34, b2, h1, h3, h4, h5, h6, h7, h8, m8, h19, h20, eES, eEX, Nat.reduceBEq, Int.reduceLE, Int.reduceLT, Int.reduceToNat, Int.reduceEq, ↓reduceIte, reduceCtorEq, Nat.reducePow, Nat.reduceAdd, Nat.reduceLeDiff, Nat.reduceLT, Nat.reduceSub, Nat.reduceEqDiff]
            all_goals
              repeat' (first | (refine csel_of (fun h => ?_) (fun h => ?_) <;> simp only [h, b2, h1, h3, h4, h5, h6, h7, h8, m8, h19, h20, eES, eEX, Nat.reduceBEq, Int.reduceLE, Int.reduceLT, Int.reduceToNat, Int.reduceEq, ↓reduceIte, reduceCtorEq, Nat.reducePow, Nat.reduceAdd, Nat.reduceLeDiff, Nat.reduceLT, Nat.reduceSub, Nat.reduceEqDiff]) | (refine gsel_t (fun h => ?_) (fun h => ?_) <;> simp only [h, updO, b2, h1, h3, h4, h5, h6, h7, h8, m8, h19, h20, eES, eEX, Nat.reduceBEq, Int.reduceLE, Int.reduceLT, Int.reduceToNat, Int.reduceEq, ↓reduceIte, reduceCtorEq, Nat.reducePow, Nat.reduceAdd, Nat.reduceLeDiff, Nat.reduceLT, Nat.reduceSub, Nat.reduceEqDiff]) | (refine gsel_f (fun h => ?_) (fun h => ?_) <;> simp only [h, updO, b2, h1, h3, h4, h5, h6, h7, h8, m8, h19, h20, eES, eEX, Nat.reduceBEq, Int.reduceLE, Int.reduceLT, Int.reduceToNat, Int.reduceEq, ↓reduceIte, reduceCtorEq, Nat.reducePow, Nat.reduceAdd, Nat.reduceLeDiff, Nat.reduceLT, Nat.reduceSub, Nat.reduceEqDiff]))
            all_goals exact hQ _ _ (by first | rfl | exact h1 | simp only [h1, eES, eEX, Nat.reduceBEq, Int.reduceLE, Int.reduceLT, Int.reduceToNat, Int.reduceEq, ↓reduceIte, reduceCtorEq, Nat.reducePow, Nat.reduceAdd, Nat.reduceLeDiff, Nat.reduceLT, Nat.reduceSub, Nat.reduceEqDiff]) (by first | rfl | exact h3 | simp only [h3, eES, eEX, Nat.reduceBEq, Int.reduceLE, Int.reduceLT, Int.reduceToNat, Int.reduceEq, ↓reduceIte, reduceCtorEq, Nat.reducePow, Nat.reduceAdd, Nat.reduceLeDiff, Nat.reduceLT, Nat.reduceSub, Nat.reduceEqDiff]) (by first | rfl | exact h4 | simp only [h4, eES, eEX, Nat.reduceBEq, Int.reduceLE, Int.reduceLT, Int.reduceToNat, Int.reduceEq, ↓reduceIte, reduceCtorEq, Nat.reducePow, Nat.reduceAdd, Nat.reduceLeDiff, Nat.reduceLT, Nat.reduceSub, Nat.reduceEqDiff]) (by first | rfl | exact h5 | simp only [h5, eES, eEX, Nat.reduceBEq, Int.reduceLE, Int.reduceLT, Int.reduceToNat, Int.reduceEq, ↓reduceIte, reduceCtorEq, Nat.reducePow, Nat.reduceAdd, Nat.reduceLeDiff, Nat.reduceLT, Nat.reduceSub, Nat.reduceEqDiff]) (by first | rfl | simp only [eES, eEX, Nat.reduceBEq, Int.reduceLE, Int.reduceLT, Int.reduceToNat, Int.reduceEq, ↓reduceIte, reduceCtorEq, Nat.reducePow, Nat.reduceAdd, Nat.reduceLeDiff, Nat.reduceLT, Nat.reduceSub, Nat.reduceEqDiff]) (by first | rfl | exact h7 | simp only [h7, eES, eEX, Nat.reduceBEq, Int.reduceLE, Int.reduceLT, Int.reduceToNat, Int.reduceEq, ↓reduceIte, reduceCtorEq, Nat.reducePow, Nat.reduceAdd, Nat.reduceLeDiff, Nat.reduceLT, Nat.reduceSub, Nat.reduceEqDiff]) (by first | rfl | exact h19 | simp only [h19, eES, eEX, Nat.reduceBEq, Int.reduceLE, Int.reduceLT, Int.reduceToNat, Int.reduceEq, ↓reduceIte, reduceCtorEq, Nat.reducePow, Nat.reduceAdd, Nat.reduceLeDiff, Nat.reduceLT, Nat.reduceSub, Nat.reduceEqDiff]) (by first | rfl | exact h20 | simp only [h20, eES, eEX, Nat.reduceBEq, Int.reduceLE, Int.reduceLT, Int.reduceToNat, Int.reduceEq, ↓reduceIte, reduceCtorEq, Nat.reducePow, Nat.reduceAdd, Nat.reduceLeDiff, Nat.reduceLT, Nat.reduceSub, Nat.reduceEqDiff])
        simp only [lt_t hlj, PO.cells, nneg, Int.toNat_natCast, aiaddr, hc, hd, n8, h1, m1, h3, h4, h5, h6, h7, h19, h20, e3, eES, eEX, Nat.reduceBEq, Int.reduceLE, Int.reduceLT, Int.reduceToNat, Int.reduceEq, ↓reduceIte, reduceCtorEq, Nat.reducePow, Nat.reduceAdd, Nat.reduceLeDiff, Nat.reduceLT, Nat.reduceSub, Nat.reduceEqDiff]
        refine key _ (by first | rfl | simp only [eES, eEX, Nat.reduceBEq, Int.reduceLE, Int.reduceLT, Int.reduceToNat, Int.reduceEq, ↓reduceIte, reduceCtorEq, Nat.reducePow, Nat.reduceAdd, Nat.reduceLeDiff, Nat.reduceLT, Nat.reduceSub, Nat.reduceEqDiff]) (by first | rfl | exact m12 | simp only [m12, eES, eEX, Nat.reduceBEq, Int.reduceLE, Int.reduceLT, Int.reduceToNat, Int.reduceEq, ↓reduceIte, reduceCtorEq, Nat.reducePow, Nat.reduceAdd, Nat.reduceLeDiff, Nat.reduceLT, Nat.reduceSub, Nat.reduceEqDiff]) _ (fun f' b h1 h3 h4 h5 h6 h7 h19 h20 => ?_) _ (by first | rfl | exact h1 | simp only [h1, eES, eEX, Nat.reduceBEq, Int.reduceLE, Int.reduceLT, Int.reduceToNat, Int.reduceEq, ↓reduceIte, reduceCtorEq, Nat.reducePow, Nat.reduceAdd, Nat.reduceLeDiff, Nat.reduceLT, Nat.reduceSub, Nat.reduceEqDiff]) (by first | rfl | exact h3 | simp only [h3, eES, eEX, Nat.reduceBEq, Int.reduceLE, Int.reduceLT, Int.reduceToNat, Int.reduceEq, ↓reduceIte, reduceCtorEq, Nat.reducePow, Nat.reduceAdd, Nat.reduceLeDiff, Nat.reduceLT, Nat.reduceSub, Nat.reduceEqDiff]) (by first | rfl | exact h4 | simp only [h4, eES, eEX, Nat.reduceBEq, Int.reduceLE, Int.reduceLT, Int.reduceToNat, Int.reduceEq, ↓reduceIte, reduceCtorEq, Nat.reducePow, Nat.reduceAdd, Nat.reduceLeDiff, Nat.reduceLT, Nat.reduceSub, Nat.reduceEqDiff]) (by first | rfl | exact h5 | simp only [h5, eES, eEX, Nat.reduceBEq, Int.reduceLE, Int.reduceLT, Int.reduceToNat, Int.reduceEq, ↓reduceIte, reduceCtorEq, Nat.reducePow, Nat.reduceAdd, Nat.reduceLeDiff, Nat.reduceLT, Nat.reduceSub, Nat.reduceEqDiff]) (by first | rfl | exact h6 | simp only [h6, eES, eEX, Nat.reduceBEq, Int.reduceLE, Int.reduceLT, Int.reduceToNat, Int.reduceEq, ↓reduceIte, reduceCtorEq, Nat.reducePow, Nat.reduceAdd, Nat.reduceLeDiff, Nat.reduceLT, Nat.reduceSub, Nat.reduceEqDiff]) (by first | rfl | exact h7 | simp only [h7, eES, eEX, Nat.reduceBEq, Int.reduceLE, Int.reduceLT, Int.reduceToNat, Int.reduceEq, ↓reduceIte, reduceCtorEq, Nat.reducePow, Nat.reduceAdd, Nat.reduceLeDiff, Nat.reduceLT, Nat.reduceSub, Nat.reduceEqDiff]) (by first | rfl | simp only [eES, eEX, Nat.reduceBEq, Int.reduceLE, Int.reduceLT, Int.reduceToNat, Int.reduceEq, ↓reduceIte, reduceCtorEq, Nat.reducePow, Nat.reduceAdd, Nat.reduceLeDiff, Nat.reduceLT, Nat.reduceSub, Nat.reduceEqDiff]) (by first | rfl | exact h19 | simp only [h19, eES, eEX, Nat.reduceBEq, Int.reduceLE, Int.reduceLT, Int.reduceToNat, Int.reduceEq, ↓reduceIte, reduceCtorEq, Nat.reducePow, Nat.reduceAdd, Nat.reduceLeDiff, Nat.reduceLT, Nat.reduceSub, Nat.reduceEqDiff]) (by first | rfl | exact h20 | simp only [h20, eES, eEX, Nat.reduceBEq, Int.reduceLE, Int.reduceLT, Int.reduceToNat, Int.reduceEq, ↓reduceIte, reduceCtorEq, Nat.reducePow, Nat.reduceAdd, Nat.reduceLeDiff, Nat.reduceLT, Nat.reduceSub, Nat.reduceEqDiff])
        simp only [h1, h3, h4, h5, h6, h7, h19, h20, e3, eES, eEX, Nat.reduceBEq, Int.reduceLE, Int.reduceLT, Int.reduceToNat, Int.reduceEq, ↓reduceIte, reduceCtorEq, Nat.reducePow, Nat.reduceAdd, Nat.reduceLeDiff, Nat.reduceLT, Nat.reduceSub, Nat.reduceEqDiff]
        exact ⟨L.length - (j + 1), by omega, _, _, j + 1, _, rfl, rfl, ⟨(by first | rfl | exact h1 | simp only [h1, eES, eEX, Nat.reduceBEq, Int.reduceLE, Int.reduceLT, Int.reduceToNat, Int.reduceEq, ↓reduceIte, reduceCtorEq, Nat.reducePow, Nat.reduceAdd, Nat.reduceLeDiff, Nat.reduceLT, Nat.reduceSub, Nat.reduceEqDiff]), (by first | rfl | exact m1 | simp only [m1, eES, eEX, Nat.reduceBEq, Int.reduceLE, Int.reduceLT, Int.reduceToNat, Int.reduceEq, ↓reduceIte, reduceCtorEq, Nat.reducePow, Nat.reduceAdd, Nat.reduceLeDiff, Nat.reduceLT, Nat.reduceSub, Nat.reduceEqDiff]), (by first | rfl | exact h3 | simp only [h3, eES, eEX, Nat.reduceBEq, Int.reduceLE, Int.reduceLT, Int.reduceToNat, Int.reduceEq, ↓reduceIte, reduceCtorEq, Nat.reducePow, Nat.reduceAdd, Nat.reduceLeDiff, Nat.reduceLT, Nat.reduceSub, Nat.reduceEqDiff]), ⟨xs, (by first | rfl | exact m12 | simp only [m12, eES, eEX, Nat.reduceBEq, Int.reduceLE, Int.reduceLT, Int.reduceToNat, Int.reduceEq, ↓reduceIte, reduceCtorEq, Nat.reducePow, Nat.reduceAdd, Nat.reduceLeDiff, Nat.reduceLT, Nat.reduceSub, Nat.reduceEqDiff]), hx1, hx2⟩, ⟨_, (by first | rfl | exact h4 | simp only [h4, eES, eEX, Nat.reduceBEq, Int.reduceLE, Int.reduceLT, Int.reduceToNat, Int.reduceEq, ↓reduceIte, reduceCtorEq, Nat.reducePow, Nat.reduceAdd, Nat.reduceLeDiff, Nat.reduceLT, Nat.reduceSub, Nat.reduceEqDiff])⟩, (by first | rfl | exact h19 | simp only [h19, eES, eEX, Nat.reduceBEq, Int.reduceLE, Int.reduceLT, Int.reduceToNat, Int.reduceEq, ↓reduceIte, reduceCtorEq, Nat.reducePow, Nat.reduceAdd, Nat.reduceLeDiff, Nat.reduceLT, Nat.reduceSub, Nat.reduceEqDiff]), (by first | rfl | exact h20 | simp only [h20, eES, eEX, Nat.reduceBEq, Int.reduceLE, Int.reduceLT, Int.reduceToNat, Int.reduceEq, ↓reduceIte, reduceCtorEq, Nat.reducePow, Nat.reduceAdd, Nat.reduceLeDiff, Nat.reduceLT, Nat.reduceSub, Nat.reduceEqDiff]), by simp [noRows] <;> rfl⟩, (by first | rfl | exact h5 | simp only [h5, eES, eEX, Nat.reduceBEq, Int.reduceLE, Int.reduceLT, Int.reduceToNat, Int.reduceEq, ↓reduceIte, reduceCtorEq, Nat.reducePow, Nat.reduceAdd, Nat.reduceLeDiff, Nat.reduceLT, Nat.reduceSub, Nat.reduceEqDiff]), (by first | rfl | exact h6 | simp only [h6, eES, eEX, Nat.reduceBEq, Int.reduceLE, Int.reduceLT, Int.reduceToNat, Int.reduceEq, ↓reduceIte, reduceCtorEq, Nat.reducePow, Nat.reduceAdd, Nat.reduceLeDiff, Nat.reduceLT, Nat.reduceSub, Nat.reduceEqDiff]), (by first | rfl | simp only [eES, eEX, Nat.reduceBEq, Int.reduceLE, Int.reduceLT, Int.reduceToNat, Int.reduceEq, ↓reduceIte, reduceCtorEq, Nat.reducePow, Nat.reduceAdd, Nat.reduceLeDiff, Nat.reduceLT, Nat.reduceSub, Nat.reduceEqDiff])⟩
      · obtain ⟨y, hy, bt, rfl⟩ := getE (p := fun x => ∃ b, x = AV.bool b) hx2 (show i < xs.length by omega)
        have s1 : (i < G.length) = True := eq_true hli
        have ia : aiaddr [fr] 1 none (.vec 0 12 1 0 G.length false) (i : Int) = some (.vptr 0 12 1 i 0) := by
          have e : Am.look [fr] 0 12 = .vec 1 1 xs := m12
          simp only [aiaddr, e, nneg, if_true, Int.toNat_natCast]
          simp [hli]
        have ist : astore [fr] (.vptr 0 12 1 i 0) [.bool b] = some [upd fr 12 (.vec 1 1 (xs.set i (.bool b)))] := by
          have e : Am.look [fr] 0 12 = .vec 1 1 xs := m12
          simp only [astore, e, hy]
          simp [AV.cells, AV.rfL, AV.rf, Am.put, newElem]
        have hall : AllB (xs.set i (.bool b)) := by
          intro x hx
          rcases List.mem_or_eq_of_mem_set hx with h | rfl
          · exact hx2 x h
          · exact ⟨b, rfl⟩
        cases b4 <;> simp only [lt_f hlj, ia, ist, h1, m1, h3, m12, h4, h5, h6, h7, h19, h20, e2, eES, eEX, Nat.reduceBEq, Int.reduceLE, Int.reduceLT, Int.reduceToNat, Int.reduceEq, ↓reduceIte, reduceCtorEq, Nat.reducePow, Nat.reduceAdd, Nat.reduceLeDiff, Nat.reduceLT, Nat.reduceSub, Nat.reduceEqDiff]
        all_goals exact ⟨G.length - (i + 1), by omega, _, _, i + 1, rfl, rfl, ⟨(by first | rfl | exact h1 | simp only [h1, eES, eEX, Nat.reduceBEq, Int.reduceLE, Int.reduceLT, Int.reduceToNat, Int.reduceEq, ↓reduceIte, reduceCtorEq, Nat.reducePow, Nat.reduceAdd, Nat.reduceLeDiff, Nat.reduceLT, Nat.reduceSub, Nat.reduceEqDiff]), (by first | rfl | exact m1 | simp only [m1, eES, eEX, Nat.reduceBEq, Int.reduceLE, Int.reduceLT, Int.reduceToNat, Int.reduceEq, ↓reduceIte, reduceCtorEq, Nat.reducePow, Nat.reduceAdd, Nat.reduceLeDiff, Nat.reduceLT, Nat.reduceSub, Nat.reduceEqDiff]), (by first | rfl | exact h3 | simp only [h3, eES, eEX, Nat.reduceBEq, Int.reduceLE, Int.reduceLT, Int.reduceToNat, Int.reduceEq, ↓reduceIte, reduceCtorEq, Nat.reducePow, Nat.reduceAdd, Nat.reduceLeDiff, Nat.reduceLT, Nat.reduceSub, Nat.reduceEqDiff]), ⟨xs.set i (.bool b), (by first | rfl | simp only [eES, eEX, Nat.reduceBEq, Int.reduceLE, Int.reduceLT, Int.reduceToNat, Int.reduceEq, ↓reduceIte, reduceCtorEq, Nat.reducePow, Nat.reduceAdd, Nat.reduceLeDiff, Nat.reduceLT, Nat.reduceSub, Nat.reduceEqDiff]), by simp [hx1], hall⟩, ⟨_, (by first | rfl | simp only [eES, eEX, Nat.reduceBEq, Int.reduceLE, Int.reduceLT, Int.reduceToNat, Int.reduceEq, ↓reduceIte, reduceCtorEq, Nat.reducePow, Nat.reduceAdd, Nat.reduceLeDiff, Nat.reduceLT, Nat.reduceSub, Nat.reduceEqDiff])⟩, (by first | rfl | exact h19 | simp only [h19, eES, eEX, Nat.reduceBEq, Int.reduceLE, Int.reduceLT, Int.reduceToNat, Int.reduceEq, ↓reduceIte, reduceCtorEq, Nat.reducePow, Nat.reduceAdd, Nat.reduceLeDiff, Nat.reduceLT, Nat.reduceSub, Nat.reduceEqDiff]), (by first | rfl | exact h20 | simp only [h20, eES, eEX, Nat.reduceBEq, Int.reduceLE, Int.reduceLT, Int.reduceToNat, Int.reduceEq, ↓reduceIte, reduceCtorEq, Nat.reducePow, Nat.reduceAdd, Nat.reduceLeDiff, Nat.reduceLT, Nat.reduceSub, Nat.reduceEqDiff]), fun s hs => by simp at hs; subst hs; rw [upd_ne _ _ (by decide), n8]; rfl⟩, (by first | rfl | simp only [eES, eEX, Nat.reduceBEq, Int.reduceLE, Int.reduceLT, Int.reduceToNat, Int.reduceEq, ↓reduceIte, reduceCtorEq, Nat.reducePow, Nat.reduceAdd, Nat.reduceLeDiff, Nat.reduceLT, Nat.reduceSub, Nat.reduceEqDiff])⟩
    · simp only [lt_f hli, h1, m1, h3, m12, h4, h5, h19, h20, e1, eES, eEX, Nat.reduceBEq, Int.reduceLE, Int.reduceLT, Int.reduceToNat, Int.reduceEq, ↓reduceIte, reduceCtorEq, Nat.reducePow, Nat.reduceAdd, Nat.reduceLeDiff, Nat.reduceLT, Nat.reduceSub, Nat.reduceEqDiff]
      exact ⟨G.length - (c + 1), by omega, _, _, c + 1, rfl, rfl, ⟨(by first | rfl | exact h1 | simp only [h1, eES, eEX, Nat.reduceBEq, Int.reduceLE, Int.reduceLT, Int.reduceToNat, Int.reduceEq, ↓reduceIte, reduceCtorEq, Nat.reducePow, Nat.reduceAdd, Nat.reduceLeDiff, Nat.reduceLT, Nat.reduceSub, Nat.reduceEqDiff]), (by first | rfl | exact m1 | simp only [m1, eES, eEX, Nat.reduceBEq, Int.reduceLE, Int.reduceLT, Int.reduceToNat, Int.reduceEq, ↓reduceIte, reduceCtorEq, Nat.reducePow, Nat.reduceAdd, Nat.reduceLeDiff, Nat.reduceLT, Nat.reduceSub, Nat.reduceEqDiff]), (by first | rfl | exact h3 | simp only [h3, eES, eEX, Nat.reduceBEq, Int.reduceLE, Int.reduceLT, Int.reduceToNat, Int.reduceEq, ↓reduceIte, reduceCtorEq, Nat.reducePow, Nat.reduceAdd, Nat.reduceLeDiff, Nat.reduceLT, Nat.reduceSub, Nat.reduceEqDiff]), ⟨xs, (by first | rfl | exact m12 | simp only [m12, eES, eEX, Nat.reduceBEq, Int.reduceLE, Int.reduceLT, Int.reduceToNat, Int.reduceEq, ↓reduceIte, reduceCtorEq, Nat.reducePow, Nat.reduceAdd, Nat.reduceLeDiff, Nat.reduceLT, Nat.reduceSub, Nat.reduceEqDiff]), hx1, hx2⟩, ⟨_, (by first | rfl | exact h4 | simp only [h4, eES, eEX, Nat.reduceBEq, Int.reduceLE, Int.reduceLT, Int.reduceToNat, Int.reduceEq, ↓reduceIte, reduceCtorEq, Nat.reducePow, Nat.reduceAdd, Nat.reduceLeDiff, Nat.reduceLT, Nat.reduceSub, Nat.reduceEqDiff])⟩, (by first | rfl | exact h19 | simp only [h19, eES, eEX, Nat.reduceBEq, Int.reduceLE, Int.reduceLT, Int.reduceToNat, Int.reduceEq, ↓reduceIte, reduceCtorEq, Nat.reducePow, Nat.reduceAdd, Nat.reduceLeDiff, Nat.reduceLT, Nat.reduceSub, Nat.reduceEqDiff]), (by first | rfl | simp only [eES, eEX, Nat.reduceBEq, Int.reduceLE, Int.reduceLT, Int.reduceToNat, Int.reduceEq, ↓reduceIte, reduceCtorEq, Nat.reducePow, Nat.reduceAdd, Nat.reduceLeDiff, Nat.reduceLT, Nat.reduceSub, Nat.reduceEqDiff]), r8⟩⟩
  · simp only [lt_f hlt, h1, m1, h3, h4, h19, h20, rb, eES, eEX, Nat.reduceBEq, Int.reduceLE, Int.reduceLT, Int.reduceToNat, Int.reduceEq, ↓reduceIte, reduceCtorEq, Nat.reducePow, Nat.reduceAdd, Nat.reduceLeDiff, Nat.reduceLT, Nat.reduceSub, Nat.reduceEqDiff]

theorem c9 (G E : List AV) (hP : IsP G E) (hG : G.length ≤ 8) : Fn? Tryz.prog 9 [pv G E] RI := by
  have k1 := c28 G E hP
  have k2 := c29 G E hP
  have k3 := c30 G E hP
  have k4 := c31 G E hP
  have k5 := c32 G E hP
  have k6 := c33 G E hP
  have k7 := c34 G E hP hG
  simp only [pv] at k1 k2 k3 k4 k5 k6 k7
  refine fnR_of_awp (rc := r9) (rs := o9) Tryz.func9 rfl rfl Tryz.ntmps9 k9 q9 (by simp) ?_
  simp only [g9_0, g9_1, g9_2, g9_3, g9_4, g9_5, g9_6, g9_7, g9_8, g9_9, g9_10, g9_11, g9_12, g9_13, g9_14, g9_15, r9, o9, pv, eES, eEX, Nat.reduceBEq, Int.reduceLE, Int.reduceLT, Int.reduceToNat, Int.reduceEq, ↓reduceIte, reduceCtorEq, Nat.reducePow, Nat.reduceAdd, Nat.reduceLeDiff, Nat.reduceLT, Nat.reduceSub, Nat.reduceEqDiff]
  repeat' (first | (refine csel_of (fun h => ?_) (fun h => ?_) <;> simp only [h, ri, eES, eEX, Nat.reduceBEq, Int.reduceLE, Int.reduceLT, Int.reduceToNat, Int.reduceEq, ↓reduceIte, reduceCtorEq, Nat.reducePow, Nat.reduceAdd, Nat.reduceLeDiff, Nat.reduceLT, Nat.reduceSub, Nat.reduceEqDiff]) | (refine gsel_t (fun h => ?_) (fun h => ?_) <;> simp only [h, updO, ri, eES, eEX, Nat.reduceBEq, Int.reduceLE, Int.reduceLT, Int.reduceToNat, Int.reduceEq, ↓reduceIte, reduceCtorEq, Nat.reducePow, Nat.reduceAdd, Nat.reduceLeDiff, Nat.reduceLT, Nat.reduceSub, Nat.reduceEqDiff]) | (refine gsel_f (fun h => ?_) (fun h => ?_) <;> simp only [h, updO, ri, eES, eEX, Nat.reduceBEq, Int.reduceLE, Int.reduceLT, Int.reduceToNat, Int.reduceEq, ↓reduceIte, reduceCtorEq, Nat.reducePow, Nat.reduceAdd, Nat.reduceLeDiff, Nat.reduceLT, Nat.reduceSub, Nat.reduceEqDiff]) | ((with_reducible apply aops_callR (k := 28) (R := RB)); (case h2 => exact fun _ h => h.rf); (case hy => rfl); (case h1 => rfl); (case hk => exact k1); rintro _ ⟨b, rfl⟩; cases b <;> simp only [ri, eES, eEX, Nat.reduceBEq, Int.reduceLE, Int.reduceLT, Int.reduceToNat, Int.reduceEq, ↓reduceIte, reduceCtorEq, Nat.reducePow, Nat.reduceAdd, Nat.reduceLeDiff, Nat.reduceLT, Nat.reduceSub, Nat.reduceEqDiff]) | ((with_reducible apply aops_callR (k := 29) (R := RB)); (case h2 => exact fun _ h => h.rf); (case hy => rfl); (case h1 => rfl); (case hk => exact k2); rintro _ ⟨b, rfl⟩; cases b <;> simp only [ri, eES, eEX, Nat.reduceBEq, Int.reduceLE, Int.reduceLT, Int.reduceToNat, Int.reduceEq, ↓reduceIte, reduceCtorEq, Nat.reducePow, Nat.reduceAdd, Nat.reduceLeDiff, Nat.reduceLT, Nat.reduceSub, Nat.reduceEqDiff]) | ((with_reducible apply aops_callR (k := 30) (R := RB)); (case h2 => exact fun _ h => h.rf); (case hy => rfl); (case h1 => rfl); (case hk => exact k3); rintro _ ⟨b, rfl⟩; cases b <;> simp only [ri, eES, eEX, Nat.reduceBEq, Int.reduceLE, Int.reduceLT, Int.reduceToNat, Int.reduceEq, ↓reduceIte, reduceCtorEq, Nat.reducePow, Nat.reduceAdd, Nat.reduceLeDiff, Nat.reduceLT, Nat.reduceSub, Nat.reduceEqDiff]) | ((with_reducible apply aops_callR (k := 31) (R := RB)); (case h2 => exact fun _ h => h.rf); (case hy => rfl); (case h1 => rfl); (case hk => exact k4); rintro _ ⟨b, rfl⟩; cases b <;> simp only [ri, eES, eEX, Nat.reduceBEq, Int.reduceLE, Int.reduceLT, Int.reduceToNat, Int.reduceEq, ↓reduceIte, reduceCtorEq, Nat.reducePow, Nat.reduceAdd, Nat.reduceLeDiff, Nat.reduceLT, Nat.reduceSub, Nat.reduceEqDiff]) | ((with_reducible apply aops_callR (k := 32) (R := RB)); (case h2 => exact fun _ h => h.rf); (case hy => rfl); (case h1 => rfl); (case hk => exact k5); rintro _ ⟨b, rfl⟩; cases b <;> simp only [ri, eES, eEX, Nat.reduceBEq, Int.reduceLE, Int.reduceLT, Int.reduceToNat, Int.reduceEq, ↓reduceIte, reduceCtorEq, Nat.reducePow, Nat.reduceAdd, Nat.reduceLeDiff, Nat.reduceLT, Nat.reduceSub, Nat.reduceEqDiff]) | ((with_reducible apply aops_callR (k := 33) (R := RBP (∀ x ∈ G, TGg G x))); (case h2 => exact fun _ h => h.rf); (case hy => rfl); (case h1 => rfl); (case hk => exact k6); rintro _ ⟨b, rfl, hbp⟩; cases b <;> simp only [ri, eES, eEX, Nat.reduceBEq, Int.reduceLE, Int.reduceLT, Int.reduceToNat, Int.reduceEq, ↓reduceIte, reduceCtorEq, Nat.reducePow, Nat.reduceAdd, Nat.reduceLeDiff, Nat.reduceLT, Nat.reduceSub, Nat.reduceEqDiff]) | ((with_reducible apply aops_callR (k := 34) (R := RB)); (case h2 => exact fun _ h => h.rf); (case hy => rfl); (case h1 => rfl); (case hk => exact (k7 (hbp rfl))); rintro _ ⟨b, rfl⟩; cases b <;> simp only [ri, eES, eEX, Nat.reduceBEq, Int.reduceLE, Int.reduceLT, Int.reduceToNat, Int.reduceEq, ↓reduceIte, reduceCtorEq, Nat.reducePow, Nat.reduceAdd, Nat.reduceLeDiff, Nat.reduceLT, Nat.reduceSub, Nat.reduceEqDiff]))

theorem c4 (G E : List AV) (hP : IsP G E) : Fn? Tryz.prog 4 [pv G E] RB := by
  refine fnR_of_awp (rc := r4) (rs := o4) Tryz.func4 rfl rfl Tryz.ntmps4 k4 q4 (by simp) ?_
  simp only [g4_0, g4_1, r4, o4, pv, eES, eEX, Nat.reduceBEq, Int.reduceLE, Int.reduceLT, Int.reduceToNat, Int.reduceEq, ↓reduceIte, reduceCtorEq, Nat.reducePow, Nat.reduceAdd, Nat.reduceLeDiff, Nat.reduceLT, Nat.reduceSub, Nat.reduceEqDiff]
  by_cases hG : G.length ≤ 8
  · have d0 : decide ((G.length : Int) ≤ 8) = true := decide_eq_true (by omega)
    have k := c9 G E hP hG
    simp only [pv] at k
    simp only [d0, eES, eEX, Nat.reduceBEq, Int.reduceLE, Int.reduceLT, Int.reduceToNat, Int.reduceEq, ↓reduceIte, reduceCtorEq, Nat.reducePow, Nat.reduceAdd, Nat.reduceLeDiff, Nat.reduceLT, Nat.reduceSub, Nat.reduceEqDiff]
    repeat' (first | (refine csel_of (fun h => ?_) (fun h => ?_) <;> simp only [h, rb, eES, eEX, Nat.reduceBEq, Int.reduceLE, Int.reduceLT, Int.reduceToNat, Int.reduceEq, ↓reduceIte, reduceCtorEq, Nat.reducePow, Nat.reduceAdd, Nat.reduceLeDiff, Nat.reduceLT, Nat.reduceSub, Nat.reduceEqDiff]) | (refine gsel_t (fun h => ?_) (fun h => ?_) <;> simp only [h, updO, rb, eES, eEX, Nat.reduceBEq, Int.reduceLE, Int.reduceLT, Int.reduceToNat, Int.reduceEq, ↓reduceIte, reduceCtorEq, Nat.reducePow, Nat.reduceAdd, Nat.reduceLeDiff, Nat.reduceLT, Nat.reduceSub, Nat.reduceEqDiff]) | (refine gsel_f (fun h => ?_) (fun h => ?_) <;> simp only [h, updO, rb, eES, eEX, Nat.reduceBEq, Int.reduceLE, Int.reduceLT, Int.reduceToNat, Int.reduceEq, ↓reduceIte, reduceCtorEq, Nat.reducePow, Nat.reduceAdd, Nat.reduceLeDiff, Nat.reduceLT, Nat.reduceSub, Nat.reduceEqDiff]) | ((with_reducible apply aops_callR (k := 9) (R := RI)); (case h2 => exact fun _ h => h.rf); (case hy => rfl); (case h1 => rfl); (case hk => exact k); rintro _ ⟨n, rfl⟩; simp only [rb, eES, eEX, Nat.reduceBEq, Int.reduceLE, Int.reduceLT, Int.reduceToNat, Int.reduceEq, ↓reduceIte, reduceCtorEq, Nat.reducePow, Nat.reduceAdd, Nat.reduceLeDiff, Nat.reduceLT, Nat.reduceSub, Nat.reduceEqDiff]))
  · have d0 : decide ((G.length : Int) ≤ 8) = false := decide_eq_false (by omega)
    simp only [d0, rb, eES, eEX, Nat.reduceBEq, Int.reduceLE, Int.reduceLT, Int.reduceToNat, Int.reduceEq, ↓reduceIte, reduceCtorEq, Nat.reducePow, Nat.reduceAdd, Nat.reduceLeDiff, Nat.reduceLT, Nat.reduceSub, Nat.reduceEqDiff]

end Go.Proofs.YtdmbncmbkocjjaaGreat.Va

/- What an enum accepts. -/
set_option linter.unusedSimpArgs false
namespace Go.Proofs.YtdmbncmbkocjjaaGreat.Va
open Go Am Rc Bt Br Vp

/-- An item's number. -/
def itn : AV → Int
  | .agg [_, .int _ n, _] => n
  | _ => 0

/-- The first place where p holds. -/
def fidx (p : AV → Bool) : List AV → Nat → Int
  | [], _ => -1
  | x :: l, i => if p x = true then (i : Int) else fidx p l (i + 1)

theorem fidx_any (p : AV → Bool) : ∀ (l : List AV) (i : Nat), decide (fidx p l i ≥ 0) = l.any p
  | [], _ => rfl
  | x :: l, i => by
    unfold fidx
    rw [List.any_cons]
    cases h : p x
    · simp only [Bool.false_eq_true, if_false, Bool.false_or]
      exact fidx_any p l (i + 1)
    · simp only [if_true, Bool.true_or]
      exact decide_eq_true (by omega)

def pm (b : Nat) (x : AV) : Bool := IntKind.u64.wrap (itn x) == (b : Int)
def pr (b : Nat) (x : AV) : Bool := itn x == IntKind.i64.wrap (b : Int)

theorem x40 (x : AV) (hx : IsI x) (b : Nat) (fr : Nat → Ob) (hf : fr 5 = .cells [.int .u64 (b : Nat)]) :
    ACalls Tryz.prog 40 [x, .ptr 2 5 0] [noObs, noObs, fr] fun y m1 => y = .bool (pm b x) ∧ m1 = [noObs, noObs, fr] := by
  obtain ⟨s, n, L, rfl, hs, hL, hN⟩ := hx
  refine acalls_of_awp (rc := r40) (rs := o40) Tryz.func40 rfl rfl Tryz.ntmps40 k40 q40 (by simp) ?_
  simp only [g40_0, g40_1, r40, o40, hf, pm, itn, eES, eEX, Nat.reduceBEq, Int.reduceLE, Int.reduceLT, Int.reduceToNat, Int.reduceEq, ↓reduceIte, reduceCtorEq, Nat.reducePow, Nat.reduceAdd, Nat.reduceLeDiff, Nat.reduceLT, Nat.reduceSub, Nat.reduceEqDiff]

def IdxI (b : Nat) (fr : Nat → Ob) (L : List AV) (k : Nat) (st : St) : Prop :=
  ∃ f i, st = ⟨f, [noObs, noObs, fr], []⟩ ∧ k = L.length - i ∧ fidx (pm b) L 0 = fidx (pm b) (L.drop i) i ∧ f 0 = .list L ∧ f 1 = .fn (.func 40) [] [.ptr 2 5 0] ∧ f 7 = .int .i64 (L.length : Nat) ∧ f 8 = .int .i64 (i : Nat)

theorem x61 (L : List AV) (hl : L.length ≤ maxLen) (hL : ∀ x ∈ L, IsI x) (b : Nat) (fr : Nat → Ob) (hf : fr 5 = .cells [.int .u64 (b : Nat)]) :
    ACalls Tryz.prog 61 [.list L, .fn (.func 40) [] [.ptr 1 5 0]] [noObs, fr] fun y m1 => y = .int .i64 (fidx (pm b) L 0) ∧ m1 = [noObs, fr] := by
  refine acalls_of_awp (rc := r61) (rs := o61) Tryz.func61 rfl rfl Tryz.ntmps61 k61 q61 (by simp) ?_
  simp only [g61_0, g61_1, g61_2, g61_3, g61_4, g61_5, g61_6, g61_7, r61, o61, eES, eEX, Nat.reduceBEq, Int.reduceLE, Int.reduceLT, Int.reduceToNat, Int.reduceEq, ↓reduceIte, reduceCtorEq, Nat.reducePow, Nat.reduceAdd, Nat.reduceLeDiff, Nat.reduceLT, Nat.reduceSub, Nat.reduceEqDiff]
  refine awp_loop (IdxI b fr L) _ ⟨_, 0, rfl, rfl, rfl, (by first | rfl | simp only [eES, eEX, Nat.reduceBEq, Int.reduceLE, Int.reduceLT, Int.reduceToNat, Int.reduceEq, ↓reduceIte, reduceCtorEq, Nat.reducePow, Nat.reduceAdd, Nat.reduceLeDiff, Nat.reduceLT, Nat.reduceSub, Nat.reduceEqDiff]), (by first | rfl | simp only [eES, eEX, Nat.reduceBEq, Int.reduceLE, Int.reduceLT, Int.reduceToNat, Int.reduceEq, ↓reduceIte, reduceCtorEq, Nat.reducePow, Nat.reduceAdd, Nat.reduceLeDiff, Nat.reduceLT, Nat.reduceSub, Nat.reduceEqDiff]), (by first | rfl | simp only [eES, eEX, Nat.reduceBEq, Int.reduceLE, Int.reduceLT, Int.reduceToNat, Int.reduceEq, ↓reduceIte, reduceCtorEq, Nat.reducePow, Nat.reduceAdd, Nat.reduceLeDiff, Nat.reduceLT, Nat.reduceSub, Nat.reduceEqDiff]), (by first | rfl | simp only [eES, eEX, Nat.reduceBEq, Int.reduceLE, Int.reduceLT, Int.reduceToNat, Int.reduceEq, ↓reduceIte, reduceCtorEq, Nat.reducePow, Nat.reduceAdd, Nat.reduceLeDiff, Nat.reduceLT, Nat.reduceSub, Nat.reduceEqDiff])⟩ ?_
  rintro _ st ⟨f, i, rfl, rfl, hx, h0, h1, h7, h8⟩
  simp only [l61_0, g61_0, g61_1, g61_2, g61_3, g61_4, g61_5, g61_6, g61_7, r61, o61, h0, h1, h7, h8, eES, eEX, Nat.reduceBEq, Int.reduceLE, Int.reduceLT, Int.reduceToNat, Int.reduceEq, ↓reduceIte, reduceCtorEq, Nat.reducePow, Nat.reduceAdd, Nat.reduceLeDiff, Nat.reduceLT, Nat.reduceSub, Nat.reduceEqDiff]
  by_cases hlt : i < L.length
  · obtain ⟨x, hc, hi⟩ := getE hL hlt
    have hd : L.drop i = x :: L.drop (i + 1) := by
      rw [List.drop_eq_getElem_cons hlt]
      congr 1
      rw [List.getElem?_eq_getElem hlt] at hc
      exact Option.some.inj hc
    have e1 := wi64_s i _ hlt hl
    have hcl := x40 x hi b fr hf
    obtain ⟨s, n, N, rfl, hs, hN, hNN⟩ := id hi
    simp only [lt_t hlt, nneg, Int.toNat_natCast, aiaddr, hc, h0, h1, h7, h8, eES, eEX, Nat.reduceBEq, Int.reduceLE, Int.reduceLT, Int.reduceToNat, Int.reduceEq, ↓reduceIte, reduceCtorEq, Nat.reducePow, Nat.reduceAdd, Nat.reduceLeDiff, Nat.reduceLT, Nat.reduceSub, Nat.reduceEqDiff]
    refine aops_callV (fa := []) (fb := [.ptr 2 5 0]) (by first | rfl | exact h1 | simp only [h1, eES, eEX, Nat.reduceBEq, Int.reduceLE, Int.reduceLT, Int.reduceToNat, Int.reduceEq, ↓reduceIte, reduceCtorEq, Nat.reducePow, Nat.reduceAdd, Nat.reduceLeDiff, Nat.reduceLT, Nat.reduceSub, Nat.reduceEqDiff]) hcl (by simp only [List.map_cons, List.map_nil, List.nil_append, List.cons_append, h0, h1, h7, h8, eES, eEX, Nat.reduceBEq, Int.reduceLE, Int.reduceLT, Int.reduceToNat, Int.reduceEq, ↓reduceIte, reduceCtorEq, Nat.reducePow, Nat.reduceAdd, Nat.reduceLeDiff, Nat.reduceLT, Nat.reduceSub, Nat.reduceEqDiff]) ?_
    rw [hd, show fidx (pm b) (.agg [.str s, .int .i64 n, .list N] :: L.drop (i + 1)) i = (if pm b (.agg [.str s, .int .i64 n, .list N]) = true then (i : Int) else fidx (pm b) (L.drop (i + 1)) (i + 1)) from rfl] at hx
    cases hp : pm b (.agg [.str s, .int .i64 n, .list N])
    · rw [hp] at hx
      simp only [Bool.false_eq_true, if_false] at hx
      simp only [h0, h1, h7, h8, e1, eES, eEX, Nat.reduceBEq, Int.reduceLE, Int.reduceLT, Int.reduceToNat, Int.reduceEq, ↓reduceIte, reduceCtorEq, Nat.reducePow, Nat.reduceAdd, Nat.reduceLeDiff, Nat.reduceLT, Nat.reduceSub, Nat.reduceEqDiff]
      exact ⟨L.length - (i + 1), by omega, _, i + 1, rfl, rfl, hx, (by first | rfl | exact h0 | simp only [h0, eES, eEX, Nat.reduceBEq, Int.reduceLE, Int.reduceLT, Int.reduceToNat, Int.reduceEq, ↓reduceIte, reduceCtorEq, Nat.reducePow, Nat.reduceAdd, Nat.reduceLeDiff, Nat.reduceLT, Nat.reduceSub, Nat.reduceEqDiff]), (by first | rfl | exact h1 | simp only [h1, eES, eEX, Nat.reduceBEq, Int.reduceLE, Int.reduceLT, Int.reduceToNat, Int.reduceEq, ↓reduceIte, reduceCtorEq, Nat.reducePow, Nat.reduceAdd, Nat.reduceLeDiff, Nat.reduceLT, Nat.reduceSub, Nat.reduceEqDiff]), (by first | rfl | exact h7 | simp only [h7, eES, eEX, Nat.reduceBEq, Int.reduceLE, Int.reduceLT, Int.reduceToNat, Int.reduceEq, ↓reduceIte, reduceCtorEq, Nat.reducePow, Nat.reduceAdd, Nat.reduceLeDiff, Nat.reduceLT, Nat.reduceSub, Nat.reduceEqDiff]), (by first | rfl | simp only [eES, eEX, Nat.reduceBEq, Int.reduceLE, Int.reduceLT, Int.reduceToNat, Int.reduceEq, ↓reduceIte, reduceCtorEq, Nat.reducePow, Nat.reduceAdd, Nat.reduceLeDiff, Nat.reduceLT, Nat.reduceSub, Nat.reduceEqDiff])⟩
    · rw [hp] at hx
      simp only [if_true] at hx
      simp only [h0, h1, h7, h8, hx, eES, eEX, Nat.reduceBEq, Int.reduceLE, Int.reduceLT, Int.reduceToNat, Int.reduceEq, ↓reduceIte, reduceCtorEq, Nat.reducePow, Nat.reduceAdd, Nat.reduceLeDiff, Nat.reduceLT, Nat.reduceSub, Nat.reduceEqDiff]
  · have hx' : fidx (pm b) L 0 = -1 := by rw [hx, List.drop_of_length_le (by omega)]; rfl
    simp only [lt_f hlt, h0, h1, h7, h8, hx', eES, eEX, Nat.reduceBEq, Int.reduceLE, Int.reduceLT, Int.reduceToNat, Int.reduceEq, ↓reduceIte, reduceCtorEq, Nat.reducePow, Nat.reduceAdd, Nat.reduceLeDiff, Nat.reduceLT, Nat.reduceSub, Nat.reduceEqDiff]

theorem x39 (L : List AV) (hl : L.length ≤ maxLen) (hL : ∀ x ∈ L, IsI x) (b : Nat) (fr : Nat → Ob) (hf : fr 5 = .cells [.int .u64 (b : Nat)]) :
    ACalls Tryz.prog 39 [.list L, .fn (.func 40) [] [.ptr 0 5 0]] [fr] fun y m1 => y = .bool (L.any (pm b)) ∧ m1 = [fr] := by
  refine acalls_of_awp (rc := r39) (rs := o39) Tryz.func39 rfl rfl Tryz.ntmps39 k39 q39 (by simp) ?_
  simp only [g39_0, g39_1, r39, o39, eES, eEX, Nat.reduceBEq, Int.reduceLE, Int.reduceLT, Int.reduceToNat, Int.reduceEq, ↓reduceIte, reduceCtorEq, Nat.reducePow, Nat.reduceAdd, Nat.reduceLeDiff, Nat.reduceLT, Nat.reduceSub, Nat.reduceEqDiff]
  refine aops_callF (x61 L hl hL b fr hf) (by simp only [List.map_cons, List.map_nil, eES, eEX, Nat.reduceBEq, Int.reduceLE, Int.reduceLT, Int.reduceToNat, Int.reduceEq, ↓reduceIte, reduceCtorEq, Nat.reducePow, Nat.reduceAdd, Nat.reduceLeDiff, Nat.reduceLT, Nat.reduceSub, Nat.reduceEqDiff]) ?_
  simp only [fidx_any, eES, eEX, Nat.reduceBEq, Int.reduceLE, Int.reduceLT, Int.reduceToNat, Int.reduceEq, ↓reduceIte, reduceCtorEq, Nat.reducePow, Nat.reduceAdd, Nat.reduceLeDiff, Nat.reduceLT, Nat.reduceSub, Nat.reduceEqDiff]

def eop : AV → Bool
  | .agg [_, .bool b, _, _, _] => b
  | _ => false
def eit : AV → List AV
  | .agg [_, _, .list l, _, _] => l
  | _ => []

/-- An enum accepts a number. -/
def acc (E : List AV) (t : Int) (b : Nat) : Bool :=
  if 0 ≤ t ∧ t < E.length ∧ b ≤ 2147483647 then
    match E[t.toNat]? with
    | some x => eop x || (eit x).any (pm b)
    | none => false
  else false

theorem x15 (G E : List AV) (hP : IsP G E) (t : Int) (b : Nat) : Fn1 Tryz.prog 15 [pv G E, .int .i64 t, .int .u64 (b : Nat)] (.bool (acc E t b)) := by
  refine fn1_of_awp (rc := r15) (rs := o15) Tryz.func15 rfl rfl Tryz.ntmps15 k15 q15 (by simp) ?_
  simp only [g15_0, g15_1, g15_2, g15_3, g15_4, r15, o15, pv, eES, eEX, Nat.reduceBEq, Int.reduceLE, Int.reduceLT, Int.reduceToNat, Int.reduceEq, ↓reduceIte, reduceCtorEq, Nat.reducePow, Nat.reduceAdd, Nat.reduceLeDiff, Nat.reduceLT, Nat.reduceSub, Nat.reduceEqDiff]
  by_cases h1 : 0 ≤ t
  · have d1 : decide (t < 0) = false := decide_eq_false (by omega)
    by_cases h2 : t < E.length
    · have d2 : decide (t ≥ (E.length : Int)) = false := decide_eq_false (by omega)
      by_cases h3 : b ≤ 2147483647
      · have d3 : decide ((b : Int) > 2147483647) = false := decide_eq_false (by omega)
        obtain ⟨n, rfl⟩ := Int.eq_ofNat_of_zero_le h1
        obtain ⟨_, hc, s, eo, L, M, K, rfl, hs, hL, hI, _⟩ := getE hP.e (show n < E.length by omega)
        have ha : acc E (n : Int) b = (eo || L.any (pm b)) := by
          unfold acc
          rw [if_pos ⟨h1, h2, h3⟩, Int.toNat_natCast, hc]
          rfl
        simp only [d1, d2, d3, nneg, Int.toNat_natCast, aiaddr, hc, ha, eES, eEX, Nat.reduceBEq, Int.reduceLE, Int.reduceLT, Int.reduceToNat, Int.reduceEq, ↓reduceIte, reduceCtorEq, Nat.reducePow, Nat.reduceAdd, Nat.reduceLeDiff, Nat.reduceLT, Nat.reduceSub, Nat.reduceEqDiff]
        cases eo
        · simp only [Bool.false_or, eES, eEX, Nat.reduceBEq, Int.reduceLE, Int.reduceLT, Int.reduceToNat, Int.reduceEq, ↓reduceIte, reduceCtorEq, Nat.reducePow, Nat.reduceAdd, Nat.reduceLeDiff, Nat.reduceLT, Nat.reduceSub, Nat.reduceEqDiff]
          refine aops_callF (x39 L hL hI b _ (by first | rfl | simp only [eES, eEX, Nat.reduceBEq, Int.reduceLE, Int.reduceLT, Int.reduceToNat, Int.reduceEq, ↓reduceIte, reduceCtorEq, Nat.reducePow, Nat.reduceAdd, Nat.reduceLeDiff, Nat.reduceLT, Nat.reduceSub, Nat.reduceEqDiff])) (by simp only [List.map_cons, List.map_nil, List.nil_append, List.append_nil, List.cons_append, eES, eEX, Nat.reduceBEq, Int.reduceLE, Int.reduceLT, Int.reduceToNat, Int.reduceEq, ↓reduceIte, reduceCtorEq, Nat.reducePow, Nat.reduceAdd, Nat.reduceLeDiff, Nat.reduceLT, Nat.reduceSub, Nat.reduceEqDiff]) ?_
          simp only [eES, eEX, Nat.reduceBEq, Int.reduceLE, Int.reduceLT, Int.reduceToNat, Int.reduceEq, ↓reduceIte, reduceCtorEq, Nat.reducePow, Nat.reduceAdd, Nat.reduceLeDiff, Nat.reduceLT, Nat.reduceSub, Nat.reduceEqDiff]
        · simp only [Bool.true_or, eES, eEX, Nat.reduceBEq, Int.reduceLE, Int.reduceLT, Int.reduceToNat, Int.reduceEq, ↓reduceIte, reduceCtorEq, Nat.reducePow, Nat.reduceAdd, Nat.reduceLeDiff, Nat.reduceLT, Nat.reduceSub, Nat.reduceEqDiff]
      · have d3 : decide ((b : Int) > 2147483647) = true := decide_eq_true (by omega)
        have ha : acc E t b = false := by
          unfold acc
          rw [if_neg (by omega)]
        simp only [d1, d2, d3, ha, eES, eEX, Nat.reduceBEq, Int.reduceLE, Int.reduceLT, Int.reduceToNat, Int.reduceEq, ↓reduceIte, reduceCtorEq, Nat.reducePow, Nat.reduceAdd, Nat.reduceLeDiff, Nat.reduceLT, Nat.reduceSub, Nat.reduceEqDiff]
    · have d2 : decide (t ≥ (E.length : Int)) = true := decide_eq_true (by omega)
      have ha : acc E t b = false := by
        unfold acc
        rw [if_neg (by omega)]
      simp only [d1, d2, ha, eES, eEX, Nat.reduceBEq, Int.reduceLE, Int.reduceLT, Int.reduceToNat, Int.reduceEq, ↓reduceIte, reduceCtorEq, Nat.reducePow, Nat.reduceAdd, Nat.reduceLeDiff, Nat.reduceLT, Nat.reduceSub, Nat.reduceEqDiff]
  · have d1 : decide (t < 0) = true := decide_eq_true (by omega)
    have ha : acc E t b = false := by
      unfold acc
      rw [if_neg (by omega)]
    simp only [d1, ha, eES, eEX, Nat.reduceBEq, Int.reduceLE, Int.reduceLT, Int.reduceToNat, Int.reduceEq, ↓reduceIte, reduceCtorEq, Nat.reducePow, Nat.reduceAdd, Nat.reduceLeDiff, Nat.reduceLT, Nat.reduceSub, Nat.reduceEqDiff]

/-- All items have numbers of 64 bits. -/
def WfE (E : List AV) : Prop := ∀ x ∈ E, ∀ y ∈ eit x, -9223372036854775808 ≤ itn y ∧ itn y < 9223372036854775808

theorem pm_pr {b : Nat} {x : AV} (hb : b ≤ 2147483647) (hx : -9223372036854775808 ≤ itn x ∧ itn x < 9223372036854775808) : pr b x = pm b x := by
  unfold pr pm
  rw [Bool.eq_iff_iff, beq_iff_eq, beq_iff_eq, wi64, wu64]
  omega

def AccI (G E L : List AV) (eo : Bool) (n b : Nat) (k : Nat) (st : St) : Prop :=
  ∃ f fr i, st = ⟨f, [fr], []⟩ ∧ k = L.length - i ∧ f 1 = .int .i64 (n : Nat) ∧ f 2 = .int .u64 (b : Nat) ∧ f 3 = .ptr 0 3 0 ∧ fr 3 = .cells [.list G, .list E] ∧ f 7 = .bool (eo || (L.take i).any (pr b)) ∧ f 8 = .int .i64 (i : Nat)

theorem x22 (G E : List AV) (hP : IsP G E) (hW : WfE E) (t : Int) (b : Nat) : Fn1 Tryz.prog 22 [pv G E, .int .i64 t, .int .u64 (b : Nat)] (.bool (acc E t b)) := by
  refine fn1_of_awp (rc := r22) (rs := o22) Tryz.func22 rfl rfl Tryz.ntmps22 k22 q22 (by simp) ?_
  simp only [g22_0, g22_1, g22_2, g22_3, g22_4, g22_5, g22_7, g22_6, g22_8, r22, o22, pv, eES, eEX, Nat.reduceBEq, Int.reduceLE, Int.reduceLT, Int.reduceToNat, Int.reduceEq, ↓reduceIte, reduceCtorEq, Nat.reducePow, Nat.reduceAdd, Nat.reduceLeDiff, Nat.reduceLT, Nat.reduceSub, Nat.reduceEqDiff]
  by_cases h1 : 0 ≤ t
  · have d1 : decide (t < 0) = false := decide_eq_false (by omega)
    by_cases h2 : t < E.length
    · have d2 : decide (t ≥ (E.length : Int)) = false := decide_eq_false (by omega)
      by_cases h3 : b ≤ 2147483647
      · have d3 : decide ((b : Int) > 2147483647) = false := decide_eq_false (by omega)
        obtain ⟨n, rfl⟩ := Int.eq_ofNat_of_zero_le h1
        obtain ⟨_, hc, s, eo, L, M, K, rfl, hs, hL, hI, _⟩ := getE hP.e (show n < E.length by omega)
        have hw := hW _ (List.mem_of_getElem? hc)
        have ha : acc E (n : Int) b = (eo || L.any (pr b)) := by
          unfold acc
          rw [if_pos ⟨h1, h2, h3⟩, Int.toNat_natCast, hc]
          show (eo || L.any (pm b)) = _
          congr 1
          rw [Bool.eq_iff_iff, List.any_eq_true, List.any_eq_true]
          constructor
          · rintro ⟨x, hx, hp⟩
            exact ⟨x, hx, by rw [pm_pr h3 (hw x hx)]; exact hp⟩
          · rintro ⟨x, hx, hp⟩
            exact ⟨x, hx, by rw [← pm_pr h3 (hw x hx)]; exact hp⟩
        simp only [d1, d2, d3, nneg, Int.toNat_natCast, aiaddr, hc, eES, eEX, Nat.reduceBEq, Int.reduceLE, Int.reduceLT, Int.reduceToNat, Int.reduceEq, ↓reduceIte, reduceCtorEq, Nat.reducePow, Nat.reduceAdd, Nat.reduceLeDiff, Nat.reduceLT, Nat.reduceSub, Nat.reduceEqDiff]
        refine awp_loop (AccI G E L eo n b) _ ⟨_, _, 0, rfl, rfl, (by first | rfl | simp only [eES, eEX, Nat.reduceBEq, Int.reduceLE, Int.reduceLT, Int.reduceToNat, Int.reduceEq, ↓reduceIte, reduceCtorEq, Nat.reducePow, Nat.reduceAdd, Nat.reduceLeDiff, Nat.reduceLT, Nat.reduceSub, Nat.reduceEqDiff]), (by first | rfl | simp only [eES, eEX, Nat.reduceBEq, Int.reduceLE, Int.reduceLT, Int.reduceToNat, Int.reduceEq, ↓reduceIte, reduceCtorEq, Nat.reducePow, Nat.reduceAdd, Nat.reduceLeDiff, Nat.reduceLT, Nat.reduceSub, Nat.reduceEqDiff]), (by first | rfl | simp only [eES, eEX, Nat.reduceBEq, Int.reduceLE, Int.reduceLT, Int.reduceToNat, Int.reduceEq, ↓reduceIte, reduceCtorEq, Nat.reducePow, Nat.reduceAdd, Nat.reduceLeDiff, Nat.reduceLT, Nat.reduceSub, Nat.reduceEqDiff]), (by first | rfl | simp only [eES, eEX, Nat.reduceBEq, Int.reduceLE, Int.reduceLT, Int.reduceToNat, Int.reduceEq, ↓reduceIte, reduceCtorEq, Nat.reducePow, Nat.reduceAdd, Nat.reduceLeDiff, Nat.reduceLT, Nat.reduceSub, Nat.reduceEqDiff]), by simp only [List.take_zero, List.any_nil, Bool.or_false] <;> first | rfl | simp only [eES, eEX, Nat.reduceBEq, Int.reduceLE, Int.reduceLT, Int.reduceToNat, Int.reduceEq, ↓reduceIte, reduceCtorEq, Nat.reducePow, Nat.reduceAdd, Nat.reduceLeDiff, Nat.reduceLT, Nat.reduceSub, Nat.reduceEqDiff], (by first | rfl | simp only [eES, eEX, Nat.reduceBEq, Int.reduceLE, Int.reduceLT, Int.reduceToNat, Int.reduceEq, ↓reduceIte, reduceCtorEq, Nat.reducePow, Nat.reduceAdd, Nat.reduceLeDiff, Nat.reduceLT, Nat.reduceSub, Nat.reduceEqDiff])⟩ ?_
        rintro _ st ⟨f, fr, i, rfl, rfl, g1, g2, g3, m3, g7, g8⟩
        simp only [l22_0, g22_0, g22_1, g22_2, g22_3, g22_4, g22_5, g22_7, g22_6, g22_8, r22, o22, nneg, Int.toNat_natCast, aiaddr, hc, g1, g2, g3, m3, g7, g8, eES, eEX, Nat.reduceBEq, Int.reduceLE, Int.reduceLT, Int.reduceToNat, Int.reduceEq, ↓reduceIte, reduceCtorEq, Nat.reducePow, Nat.reduceAdd, Nat.reduceLeDiff, Nat.reduceLT, Nat.reduceSub, Nat.reduceEqDiff]
        by_cases hlt : i < L.length
        · obtain ⟨x, hd, hi⟩ := getE hI hlt
          have e1 := wi64_s i _ hlt hL
          have ht : (eo || (L.take (i + 1)).any (pr b)) = ((eo || (L.take i).any (pr b)) || pr b x) := by
            rw [List.take_add_one, hd]
            simp [Bool.or_assoc]
          obtain ⟨s2, n2, N2, rfl, _⟩ := id hi
          have hp : pr b (.agg [.str s2, .int .i64 n2, .list N2]) = (n2 == IntKind.i64.wrap (b : Int)) := rfl
          rw [hp] at ht
          cases hq : (eo || (L.take i).any (pr b))
          · rw [hq, Bool.false_or] at ht
            simp only [lt_t hlt, nneg, Int.toNat_natCast, aiaddr, hc, hd, hq, g1, g2, g3, m3, g7, g8, e1, eES, eEX, Nat.reduceBEq, Int.reduceLE, Int.reduceLT, Int.reduceToNat, Int.reduceEq, ↓reduceIte, reduceCtorEq, Nat.reducePow, Nat.reduceAdd, Nat.reduceLeDiff, Nat.reduceLT, Nat.reduceSub, Nat.reduceEqDiff]
            exact ⟨L.length - (i + 1), by omega, _, _, i + 1, rfl, rfl, (by first | rfl | exact g1 | simp only [g1, eES, eEX, Nat.reduceBEq, Int.reduceLE, Int.reduceLT, Int.reduceToNat, Int.reduceEq, ↓reduceIte, reduceCtorEq, Nat.reducePow, Nat.reduceAdd, Nat.reduceLeDiff, Nat.reduceLT, Nat.reduceSub, Nat.reduceEqDiff]), (by first | rfl | exact g2 | simp only [g2, eES, eEX, Nat.reduceBEq, Int.reduceLE, Int.reduceLT, Int.reduceToNat, Int.reduceEq, ↓reduceIte, reduceCtorEq, Nat.reducePow, Nat.reduceAdd, Nat.reduceLeDiff, Nat.reduceLT, Nat.reduceSub, Nat.reduceEqDiff]), (by first | rfl | exact g3 | simp only [g3, eES, eEX, Nat.reduceBEq, Int.reduceLE, Int.reduceLT, Int.reduceToNat, Int.reduceEq, ↓reduceIte, reduceCtorEq, Nat.reducePow, Nat.reduceAdd, Nat.reduceLeDiff, Nat.reduceLT, Nat.reduceSub, Nat.reduceEqDiff]), (by first | rfl | exact m3 | simp only [m3, eES, eEX, Nat.reduceBEq, Int.reduceLE, Int.reduceLT, Int.reduceToNat, Int.reduceEq, ↓reduceIte, reduceCtorEq, Nat.reducePow, Nat.reduceAdd, Nat.reduceLeDiff, Nat.reduceLT, Nat.reduceSub, Nat.reduceEqDiff]), by rw [ht] <;> first | rfl | simp only [eES, eEX, Nat.reduceBEq, Int.reduceLE, Int.reduceLT, Int.reduceToNat, Int.reduceEq, ↓reduceIte, reduceCtorEq, Nat.reducePow, Nat.reduceAdd, Nat.reduceLeDiff, Nat.reduceLT, Nat.reduceSub, Nat.reduceEqDiff], (by first | rfl | simp only [eES, eEX, Nat.reduceBEq, Int.reduceLE, Int.reduceLT, Int.reduceToNat, Int.reduceEq, ↓reduceIte, reduceCtorEq, Nat.reducePow, Nat.reduceAdd, Nat.reduceLeDiff, Nat.reduceLT, Nat.reduceSub, Nat.reduceEqDiff])⟩
          · rw [hq, Bool.true_or] at ht
            simp only [lt_t hlt, nneg, Int.toNat_natCast, aiaddr, hc, hd, hq, g1, g2, g3, m3, g7, g8, e1, eES, eEX, Nat.reduceBEq, Int.reduceLE, Int.reduceLT, Int.reduceToNat, Int.reduceEq, ↓reduceIte, reduceCtorEq, Nat.reducePow, Nat.reduceAdd, Nat.reduceLeDiff, Nat.reduceLT, Nat.reduceSub, Nat.reduceEqDiff]
            exact ⟨L.length - (i + 1), by omega, _, _, i + 1, rfl, rfl, (by first | rfl | exact g1 | simp only [g1, eES, eEX, Nat.reduceBEq, Int.reduceLE, Int.reduceLT, Int.reduceToNat, Int.reduceEq, ↓reduceIte, reduceCtorEq, Nat.reducePow, Nat.reduceAdd, Nat.reduceLeDiff, Nat.reduceLT, Nat.reduceSub, Nat.reduceEqDiff]), (by first | rfl | exact g2 | simp only [g2, eES, eEX, Nat.reduceBEq, Int.reduceLE, Int.reduceLT, Int.reduceToNat, Int.reduceEq, ↓reduceIte, reduceCtorEq, Nat.reducePow, Nat.reduceAdd, Nat.reduceLeDiff, Nat.reduceLT, Nat.reduceSub, Nat.reduceEqDiff]), (by first | rfl | exact g3 | simp only [g3, eES, eEX, Nat.reduceBEq, Int.reduceLE, Int.reduceLT, Int.reduceToNat, Int.reduceEq, ↓reduceIte, reduceCtorEq, Nat.reducePow, Nat.reduceAdd, Nat.reduceLeDiff, Nat.reduceLT, Nat.reduceSub, Nat.reduceEqDiff]), (by first | rfl | exact m3 | simp only [m3, eES, eEX, Nat.reduceBEq, Int.reduceLE, Int.reduceLT, Int.reduceToNat, Int.reduceEq, ↓reduceIte, reduceCtorEq, Nat.reducePow, Nat.reduceAdd, Nat.reduceLeDiff, Nat.reduceLT, Nat.reduceSub, Nat.reduceEqDiff]), by rw [ht] <;> first | rfl | simp only [eES, eEX, Nat.reduceBEq, Int.reduceLE, Int.reduceLT, Int.reduceToNat, Int.reduceEq, ↓reduceIte, reduceCtorEq, Nat.reducePow, Nat.reduceAdd, Nat.reduceLeDiff, Nat.reduceLT, Nat.reduceSub, Nat.reduceEqDiff], (by first | rfl | simp only [eES, eEX, Nat.reduceBEq, Int.reduceLE, Int.reduceLT, Int.reduceToNat, Int.reduceEq, ↓reduceIte, reduceCtorEq, Nat.reducePow, Nat.reduceAdd, Nat.reduceLeDiff, Nat.reduceLT, Nat.reduceSub, Nat.reduceEqDiff])⟩
        · rw [List.take_of_length_le (by omega)] at g7
          simp only [lt_f hlt, g1, g2, g3, m3, g7, g8, ha, eES, eEX, Nat.reduceBEq, Int.reduceLE, Int.reduceLT, Int.reduceToNat, Int.reduceEq, ↓reduceIte, reduceCtorEq, Nat.reducePow, Nat.reduceAdd, Nat.reduceLeDiff, Nat.reduceLT, Nat.reduceSub, Nat.reduceEqDiff]
      · have d3 : decide ((b : Int) > 2147483647) = true := decide_eq_true (by omega)
        have ha : acc E t b = false := by
          unfold acc
          rw [if_neg (by omega)]
        simp only [d1, d2, d3, ha, eES, eEX, Nat.reduceBEq, Int.reduceLE, Int.reduceLT, Int.reduceToNat, Int.reduceEq, ↓reduceIte, reduceCtorEq, Nat.reducePow, Nat.reduceAdd, Nat.reduceLeDiff, Nat.reduceLT, Nat.reduceSub, Nat.reduceEqDiff]
    · have d2 : decide (t ≥ (E.length : Int)) = true := decide_eq_true (by omega)
      have ha : acc E t b = false := by
        unfold acc
        rw [if_neg (by omega)]
      simp only [d1, d2, ha, eES, eEX, Nat.reduceBEq, Int.reduceLE, Int.reduceLT, Int.reduceToNat, Int.reduceEq, ↓reduceIte, reduceCtorEq, Nat.reducePow, Nat.reduceAdd, Nat.reduceLeDiff, Nat.reduceLT, Nat.reduceSub, Nat.reduceEqDiff]
  · have d1 : decide (t < 0) = true := decide_eq_true (by omega)
    have ha : acc E t b = false := by
      unfold acc
      rw [if_neg (by omega)]
    simp only [d1, ha, eES, eEX, Nat.reduceBEq, Int.reduceLE, Int.reduceLT, Int.reduceToNat, Int.reduceEq, ↓reduceIte, reduceCtorEq, Nat.reducePow, Nat.reduceAdd, Nat.reduceLeDiff, Nat.reduceLT, Nat.reduceSub, Nat.reduceEqDiff]

end Go.Proofs.YtdmbncmbkocjjaaGreat.Va

/- Texts in UTF-8, as the program reads them; scalars of raw fields. -/
set_option linter.unusedSimpArgs false
namespace Go.Proofs.YtdmbncmbkocjjaaGreat.Va
open Go Am Rc Bt Br Vp

def BadP (s : List UInt8) (k : Nat) (st : St) : Prop :=
  ∃ f fr i, st = ⟨f, [fr], []⟩ ∧ i ≤ s.length ∧ s.length - i ≤ k ∧ bad s s.length 0 = bad s k i ∧ f 0 = .str s ∧ f 6 = .ptr 0 6 0 ∧ fr 6 = .iter s i

theorem x36 (s : List UInt8) : Fn1 Tryz.prog 36 [.str s] (.int .i64 (bad s s.length 0)) := by
  refine fn1_of_awp (rc := r36) (rs := o36) Tryz.func36 rfl rfl Tryz.ntmps36 k36 q36 (by simp) ?_
  simp only [g36_0, g36_1, g36_2, g36_3, g36_4, g36_5, g36_6, r36, o36, eES, eEX, Nat.reduceBEq, Int.reduceLE, Int.reduceLT, Int.reduceToNat, Int.reduceEq, ↓reduceIte, reduceCtorEq, Nat.reducePow, Nat.reduceAdd, Nat.reduceLeDiff, Nat.reduceLT, Nat.reduceSub, Nat.reduceEqDiff]
  refine aops_rngs rfl rfl ?_
  simp only [eES, eEX, Nat.reduceBEq, Int.reduceLE, Int.reduceLT, Int.reduceToNat, Int.reduceEq, ↓reduceIte, reduceCtorEq, Nat.reducePow, Nat.reduceAdd, Nat.reduceLeDiff, Nat.reduceLT, Nat.reduceSub, Nat.reduceEqDiff]
  refine awp_loop (BadP s) s.length ⟨_, _, 0, rfl, Nat.zero_le _, Nat.le_refl _, rfl, (by first | rfl | simp only [eES, eEX, Nat.reduceBEq, Int.reduceLE, Int.reduceLT, Int.reduceToNat, Int.reduceEq, ↓reduceIte, reduceCtorEq, Nat.reducePow, Nat.reduceAdd, Nat.reduceLeDiff, Nat.reduceLT, Nat.reduceSub, Nat.reduceEqDiff]), (by first | rfl | simp only [eES, eEX, Nat.reduceBEq, Int.reduceLE, Int.reduceLT, Int.reduceToNat, Int.reduceEq, ↓reduceIte, reduceCtorEq, Nat.reducePow, Nat.reduceAdd, Nat.reduceLeDiff, Nat.reduceLT, Nat.reduceSub, Nat.reduceEqDiff]), (by first | rfl | simp only [eES, eEX, Nat.reduceBEq, Int.reduceLE, Int.reduceLT, Int.reduceToNat, Int.reduceEq, ↓reduceIte, reduceCtorEq, Nat.reducePow, Nat.reduceAdd, Nat.reduceLeDiff, Nat.reduceLT, Nat.reduceSub, Nat.reduceEqDiff])⟩ ?_
  rintro k st ⟨f, fr, i, rfl, hi, hk, hb, h0, h6, m6⟩
  simp only [l36_0, g36_0, g36_1, g36_2, g36_3, g36_4, g36_5, g36_6, r36, o36, h0, h6, eES, eEX, Nat.reduceBEq, Int.reduceLE, Int.reduceLT, Int.reduceToNat, Int.reduceEq, ↓reduceIte, reduceCtorEq, Nat.reducePow, Nat.reduceAdd, Nat.reduceLeDiff, Nat.reduceLT, Nat.reduceSub, Nat.reduceEqDiff]
  refine aops_nxts (by first | rfl | exact h6 | simp only [h6, eES, eEX, Nat.reduceBEq, Int.reduceLE, Int.reduceLT, Int.reduceToNat, Int.reduceEq, ↓reduceIte, reduceCtorEq, Nat.reducePow, Nat.reduceAdd, Nat.reduceLeDiff, Nat.reduceLT, Nat.reduceSub, Nat.reduceEqDiff]) m6 (fun hlt => ?_) (fun hge => ?_)
  · obtain ⟨hd, hw⟩ := dec_case s i hlt
    obtain ⟨k, rfl⟩ : ∃ n, k = n + 1 := ⟨k - 1, by omega⟩
    have hbk : bad s (k + 1) i = if sz s i = 0 then (i : Int) else bad s k (i + sz s i) := by
      show (if i < s.length then _ else _) = _
      rw [if_pos hlt]
    have hwr := c59 s i hi (udec s i).1
    rw [hd] at hwr
    generalize udec s i = cw at hw hwr
    obtain ⟨c, w⟩ := cw
    simp only [h0, h6, eES, eEX, Nat.reduceBEq, Int.reduceLE, Int.reduceLT, Int.reduceToNat, Int.reduceEq, ↓reduceIte, reduceCtorEq, Nat.reducePow, Nat.reduceAdd, Nat.reduceLeDiff, Nat.reduceLT, Nat.reduceSub, Nat.reduceEqDiff]
    refine aops_call hwr rfl rfl rfl (.inl rfl) ?_
    by_cases hz : sz s i = 0
    · simp only [hz, decide_true, h0, h6, hb, hbk, eES, eEX, Nat.reduceBEq, Int.reduceLE, Int.reduceLT, Int.reduceToNat, Int.reduceEq, ↓reduceIte, reduceCtorEq, Nat.reducePow, Nat.reduceAdd, Nat.reduceLeDiff, Nat.reduceLT, Nat.reduceSub, Nat.reduceEqDiff]
    · have hw := hw hz
      simp only at hw
      have hle := sz_le s i hlt hz
      simp only [hz, decide_false, h0, h6, eES, eEX, Nat.reduceBEq, Int.reduceLE, Int.reduceLT, Int.reduceToNat, Int.reduceEq, ↓reduceIte, reduceCtorEq, Nat.reducePow, Nat.reduceAdd, Nat.reduceLeDiff, Nat.reduceLT, Nat.reduceSub, Nat.reduceEqDiff]
      exact ⟨k, by omega, _, _, i + sz s i, rfl, hle, by omega, by rw [hb, hbk, if_neg hz], (by first | rfl | exact h0 | simp only [h0, eES, eEX, Nat.reduceBEq, Int.reduceLE, Int.reduceLT, Int.reduceToNat, Int.reduceEq, ↓reduceIte, reduceCtorEq, Nat.reducePow, Nat.reduceAdd, Nat.reduceLeDiff, Nat.reduceLT, Nat.reduceSub, Nat.reduceEqDiff]), (by first | rfl | exact h6 | simp only [h6, eES, eEX, Nat.reduceBEq, Int.reduceLE, Int.reduceLT, Int.reduceToNat, Int.reduceEq, ↓reduceIte, reduceCtorEq, Nat.reducePow, Nat.reduceAdd, Nat.reduceLeDiff, Nat.reduceLT, Nat.reduceSub, Nat.reduceEqDiff]), by rw [← hw] <;> first | rfl | simp only [eES, eEX, Nat.reduceBEq, Int.reduceLE, Int.reduceLT, Int.reduceToNat, Int.reduceEq, ↓reduceIte, reduceCtorEq, Nat.reducePow, Nat.reduceAdd, Nat.reduceLeDiff, Nat.reduceLT, Nat.reduceSub, Nat.reduceEqDiff]⟩
  · have hbk : bad s k i = -1 := by
      cases k with
      | zero => rfl
      | succ k =>
        show (if i < s.length then _ else _) = _
        rw [if_neg (by omega)]
    simp only [h0, h6, hb, hbk, eES, eEX, Nat.reduceBEq, Int.reduceLE, Int.reduceLT, Int.reduceToNat, Int.reduceEq, ↓reduceIte, reduceCtorEq, Nat.reducePow, Nat.reduceAdd, Nat.reduceLeDiff, Nat.reduceLT, Nat.reduceSub, Nat.reduceEqDiff]

theorem x12 (s : List UInt8) : Fn1 Tryz.prog 12 [.str s] (.bool (vld s)) := by
  refine fn1_of_awp (rc := r12) (rs := o12) Tryz.func12 rfl rfl Tryz.ntmps12 k12 q12 (by simp) ?_
  simp only [g12_0, g12_1, r12, o12, eES, eEX, Nat.reduceBEq, Int.reduceLE, Int.reduceLT, Int.reduceToNat, Int.reduceEq, ↓reduceIte, reduceCtorEq, Nat.reducePow, Nat.reduceAdd, Nat.reduceLeDiff, Nat.reduceLT, Nat.reduceSub, Nat.reduceEqDiff]
  refine aops_call (x36 s) rfl rfl rfl (.inl rfl) ?_
  simp only [eES, eEX, Nat.reduceBEq, Int.reduceLE, Int.reduceLT, Int.reduceToNat, Int.reduceEq, ↓reduceIte, reduceCtorEq, Nat.reducePow, Nat.reduceAdd, Nat.reduceLeDiff, Nat.reduceLT, Nat.reduceSub, Nat.reduceEqDiff]
  rfl

end Go.Proofs.YtdmbncmbkocjjaaGreat.Va

/- Varint functions: what each computes. -/
set_option linter.unusedSimpArgs false
namespace Go.Proofs.YtdmbncmbkocjjaaGreat.Va
open Go Am Rc Bt

def zig (u : Int) : Int := if 0 ≤ u then 2 * u else -2 * u - 1
def zag (u : Int) : Int := if u % 2 = 0 then u / 2 else -(u / 2) - 1

theorem c13 (u : Int) (h0 : 0 ≤ u) (h1 : u < 18446744073709551616) : Fn1 Tryz.prog 13 [.int .u64 u] (.int .i64 (zag u)) := by
  refine fn1_of_awp (rc := r13) (rs := o13) Tryz.func13 rfl rfl Tryz.ntmps13 k13 q13 (by simp) ?_
  simp only [g13_0, g13_1, r13, o13, eEV, Nat.reduceBEq, Int.reduceLE, Int.reduceLT, Int.reduceToNat, Int.reduceEq, ↓reduceIte, reduceCtorEq, Nat.reducePow]
  congr 1
  simp only [show min 1 64 = 1 from rfl, and_u64_one u h0 h1, wi64, zag, Int.fdiv_eq_ediv_of_nonneg _ (show (0 : Int) ≤ 2 ^ 1 by decide)]
  by_cases h : u % 2 = 0
  · rw [h, if_pos rfl]
    rw [show (0 - ((0 + 9223372036854775808) % 18446744073709551616 - 9223372036854775808) + 9223372036854775808) % 18446744073709551616 - 9223372036854775808 = (0 : Int) by decide]
    rw [xor_i64_zero _ (by omega) (by omega)]
    omega
  · have h' : u % 2 = 1 := by omega
    rw [h', if_neg (by decide)]
    rw [show (0 - ((1 + 9223372036854775808) % 18446744073709551616 - 9223372036854775808) + 9223372036854775808) % 18446744073709551616 - 9223372036854775808 = (-1 : Int) by decide]
    rw [xor_i64_ones _ (by omega) (by omega)]
    omega

theorem c20 (u : Int) (h0 : 0 ≤ u) (h1 : u < 18446744073709551616) : Fn1 Tryz.prog 20 [.int .u64 u] (.int .i64 (zag u)) := by
  refine fn1_of_awp (rc := r20) (rs := o20) Tryz.func20 rfl rfl Tryz.ntmps20 k20 q20 (by simp) ?_
  simp only [g20_0, g20_1, g20_2, g20_3, r20, o20, eEV, Nat.reduceBEq, Int.reduceLE, Int.reduceLT, Int.reduceToNat, Int.reduceEq, ↓reduceIte, reduceCtorEq, Nat.reducePow]
  rw [Int.tmod_eq_emod_of_nonneg h0]
  refine csel_of (fun h => ?_) (fun h => ?_) <;> simp only [eEV, Nat.reduceBEq, Int.reduceLE, Int.reduceLT, Int.reduceToNat, Int.reduceEq, ↓reduceIte, reduceCtorEq, Nat.reducePow] <;> rw [Int.tdiv_eq_ediv_of_nonneg h0]
  · have h : u % 2 = 0 := by simpa using h
    congr 1
    simp only [wu64, wi64, zag, if_pos h]
    omega
  · have h : ¬ u % 2 = 0 := by simpa using h
    congr 1
    simp only [wu64, wi64, zag, if_neg h]
    omega

theorem zig_nonneg (u : Int) : 0 ≤ zig u := by unfold zig; split <;> omega
theorem zig_lt (u : Int) (h0 : -9223372036854775808 ≤ u) (h1 : u < 9223372036854775808) : zig u < 18446744073709551616 := by unfold zig; split <;> omega
theorem zag_lo (u : Int) (h0 : 0 ≤ u) (h1 : u < 18446744073709551616) : -9223372036854775808 ≤ zag u := by unfold zag; split <;> omega
theorem zag_hi (u : Int) (h0 : 0 ≤ u) (h1 : u < 18446744073709551616) : zag u < 9223372036854775808 := by unfold zag; split <;> omega
theorem zag_zig (u : Int) : zag (zig u) = u := by unfold zag zig; split <;> split <;> omega
theorem zig_zag (u : Int) (h0 : 0 ≤ u) : zig (zag u) = u := by unfold zag zig; split <;> split <;> omega

end Go.Proofs.YtdmbncmbkocjjaaGreat.Va

/- Cursors, as plain data: what each function of the package computes. -/
namespace Go.Proofs.YtdmbncmbkocjjaaGreat.Cp
open Go Am Bt Vp

/-- A cursor. -/
structure C where
  d : List UInt8
  a : Int
  e : Int
  dp : Int
  nd : Int
  tx : Int

def C.av (c : C) : AV := .agg [.str c.d, .int .i64 c.a, .int .i64 c.e, .int .i64 c.dp, .int .i64 c.nd, .int .i64 c.tx]
def zc : C := ⟨[], 0, 0, 0, 0, 0⟩

/-- Limits. -/
structure L where
  b : Int
  dp : Int
  nd : Int
  tx : Int
def L.av (l : L) : AV := .agg [.int .i64 l.b, .int .i64 l.dp, .int .i64 l.nd, .int .i64 l.tx]

def C.sound (c : C) : Bool := decide (0 ≤ c.a) && decide (c.a ≤ c.e) && decide (c.e ≤ (c.d.length : Int))
def C.rest (c : C) : List UInt8 := bif c.sound then (c.d.drop c.a.toNat).take (c.e.toNat - c.a.toNat) else []
def C.left (c : C) : Int := (c.rest.length : Int)
def C.ahead (c : C) (n : Int) : C := { c with a := IntKind.i64.wrap (c.a + n) }

def opn (s : List UInt8) (l : L) : C × Nat :=
  if l.b < 0 ∨ l.dp < 0 ∨ l.nd < 0 ∨ l.tx < 0 then (zc, 1) else if l.b < (s.length : Int) then (zc, 3) else (⟨s, 0, s.length, l.dp, l.nd, l.tx⟩, 0)

/-- A number read at a cursor. -/
def C.varint (c : C) : Nat × C × Nat :=
  let r := Vp.take c.rest
  if r.2.2 = 0 then (r.1, c.ahead r.2.1, 0) else (0, c, r.2.2)

def fix8 (s : List UInt8) : Nat := (s.take 8).foldr (fun b u => 256 * u + b.toNat) 0

def C.fixed (c : C) : Nat × C × Nat :=
  if c.rest.length < 8 then (0, c, 4) else (fix8 c.rest, c.ahead 8, 0)

def C.spend (c : C) (n : Int) : C × Nat :=
  if n < 0 then (c, 1) else if c.nd < n then (c, 3) else ({ c with nd := IntKind.i64.wrap (c.nd - n) }, 0)

def ncav (r : Nat × C × Nat) : AV := .tup [.int .u64 (r.1 : Nat), r.2.1.av, .int .i64 (r.2.2 : Nat)]
def cav (r : C × Nat) : AV := .tup [r.1.av, .int .i64 (r.2 : Nat)]

theorem C.sound_iff (c : C) : c.sound = true ↔ 0 ≤ c.a ∧ c.a ≤ c.e ∧ c.e ≤ (c.d.length : Int) := by
  simp [C.sound, and_assoc]

theorem C.rest_len (c : C) : c.left = if c.sound = true then c.e - c.a else 0 := by
  unfold C.left C.rest
  split
  · rename_i h
    rw [h]
    have := (C.sound_iff c).1 h
    simp
    omega
  · rename_i h
    have h : c.sound = false := by simpa using h
    rw [h]; rfl

theorem C.rest_of {c : C} (h : c.sound = true) : c.rest = (c.d.drop c.a.toNat).take (c.e.toNat - c.a.toNat) := by
  unfold C.rest; rw [h]; rfl

theorem C.rest_no {c : C} (h : c.sound = false) : c.rest = [] := by
  unfold C.rest; rw [h]; rfl

/-- The first bytes that are left. -/
theorem C.head_of {c : C} (h : c.sound = true) (n : Nat) (k : Int) (hk : k = if c.a + n < c.e then c.a + n else c.e) : c.rest.take n = (c.d.drop c.a.toNat).take (k.toNat - c.a.toNat) := by
  have hs := (C.sound_iff c).1 h
  rw [C.rest_of h, List.take_take]
  congr 1
  split at hk <;> omega

end Go.Proofs.YtdmbncmbkocjjaaGreat.Cp

/- Raw fields, as plain data: what each function of the package computes. -/
namespace Go.Proofs.YtdmbncmbkocjjaaGreat.Up
open Go Am Bt Vp Cp

/-- A raw field. -/
structure R where
  num : Int
  wire : Int
  bits : Nat
  data : List UInt8
  deriving DecidableEq

def R.av (f : R) : AV := .agg [.int .i64 f.num, .int .i64 f.wire, .int .u64 (f.bits : Nat), .str f.data]
def zr : R := ⟨0, 0, 0, []⟩

def tag (num wire : Int) : List UInt8 × Nat :=
  if num < 1 ∨ 65535 < num ∨ wire < 0 ∨ 6 < wire then ([], 6) else (Vp.put (num * 8 + wire).toNat, 0)
def tagv (r : List UInt8 × Nat) : AV := .tup [.str r.1, .int .i64 (r.2 : Nat)]

def takeTag (c : C) : Int × Int × C × Nat :=
  let r := c.varint
  if r.2.2 = 0 then
    if r.1 % 8 = 7 then (0, 0, c, 5) else if r.1 / 8 < 1 ∨ 65535 < r.1 / 8 then (0, 0, c, 6) else ((r.1 / 8 : Nat), (r.1 % 8 : Nat), r.2.1, 0)
  else (0, 0, c, r.2.2)
def ttv (r : Int × Int × C × Nat) : AV := .tup [.int .i64 r.1, .int .i64 r.2.1, r.2.2.1.av, .int .i64 (r.2.2.2 : Nat)]

def number (wire : Int) : Bool := wire == 0 || wire == 1 || wire == 2

/-- A length and as many bytes. -/
def dat (c : C) (wire : Int) : List UInt8 × C × Nat :=
  let r := c.varint
  if r.2.2 = 0 then
    if r.2.1.left < (r.1 : Int) then ([], c, 4)
    else if (if wire = 3 then c.tx else 65536) < (r.1 : Int) then ([], c, 3)
    else ((r.2.1.d.drop r.2.1.a.toNat).take r.1, r.2.1.ahead r.1, 0)
  else ([], c, r.2.2)
def datv (r : List UInt8 × C × Nat) : AV := .tup [.str r.1, r.2.1.av, .int .i64 (r.2.2 : Nat)]

/-- The contents of a field. -/
def cont (c : C) (f : R) : R × C × Nat :=
  if f.wire = 2 then ({ f with bits := c.fixed.1 }, c.fixed.2.1, c.fixed.2.2)
  else if f.wire = 0 ∨ f.wire = 1 then ({ f with bits := c.varint.1 }, c.varint.2.1, c.varint.2.2)
  else ({ f with data := (dat c f.wire).1 }, (dat c f.wire).2.1, (dat c f.wire).2.2)

/-- A raw field read at a cursor. -/
def nxt (c : C) : R × C × Nat :=
  let t := takeTag c
  if t.2.2.2 = 0 then
    let s := t.2.2.1.spend 1
    if s.2 = 0 then
      let k := cont s.1 { num := t.1, wire := t.2.1, bits := 0, data := [] }
      if k.2.2 = 0 then k else (zr, c, k.2.2)
    else (zr, c, s.2)
  else (zr, c, t.2.2.2)
def nxtv (r : R × C × Nat) : AV := .tup [r.1.av, r.2.1.av, .int .i64 (r.2.2 : Nat)]

theorem rest_snd {c : C} (h : c.rest ≠ []) : c.sound = true := by
  cases hs : c.sound with
  | true => rfl
  | false => exact absurd (C.rest_no hs) h

/-- Behind a number that was read the cursor is sound. -/
theorem varint_next {c : C} (hl : c.d.length ≤ 9223372036854775807) (h : c.varint.2.2 = 0) : ∃ n : Nat, 0 < n ∧ n ≤ 10 ∧ (n : Int) ≤ c.left ∧ c.varint.2.1 = { c with a := c.a + n } ∧ c.sound = true ∧ c.varint.2.1.sound = true ∧ c.varint.1 < 2 ^ 64 := by
  unfold C.varint at h ⊢
  have hb := take_bounds c.rest
  generalize Vp.take c.rest = r at h hb ⊢
  obtain ⟨u, n, e⟩ := r
  simp only at h hb ⊢
  split at h
  · rename_i he
    subst he
    obtain ⟨h1, h2, h3, h4⟩ := hb rfl
    have hne : c.rest ≠ [] := by intro e; rw [e] at h2; simp at h2; omega
    have hs := rest_snd hne
    have hs' := (C.sound_iff c).1 hs
    have hle := c.rest_len
    rw [if_pos hs] at hle
    have hw : IntKind.i64.wrap (c.a + (n : Int)) = c.a + n := by
      have : (n : Int) ≤ c.left := by unfold C.left; omega
      rw [wi64]; omega
    have hnl : (n : Int) ≤ c.left := by unfold C.left; omega
    refine ⟨n, h1, h3, hnl, ?_, hs, ?_, ?_⟩
    · rw [if_pos rfl]; simp only [C.ahead, hw]
    · rw [if_pos rfl]
      rw [C.sound_iff]
      simp only [C.ahead, hw]
      omega
    · rw [if_pos rfl]; exact h4
  · rename_i he; exact absurd h he

end Go.Proofs.YtdmbncmbkocjjaaGreat.Up

/- Raw fields as arguments. -/
namespace Go.Proofs.YtdmbncmbkocjjaaGreat.Br
open Go Am Up

theorem has_raw {M k : Nat} {cs : List AV} (h : Has Tryz.prog M k 29 cs) : ∃ f : R, ((Lit.int .i64 f.num).wf = true ∧ (Lit.int .i64 f.wire).wf = true ∧ (Lit.int .u64 (f.bits : Int)).wf = true ∧ f.data.length ≤ M) ∧ .agg cs = f.av := by
  obtain ⟨k, h⟩ := has_struct Tryz.underlying29 h
  simp only [Has.HasL] at h
  obtain ⟨_, _, rfl, h0, _, _, rfl, h1, _, _, rfl, h2, _, _, rfl, h3, rfl⟩ := h
  obtain ⟨a0, rfl, w0⟩ := has_int Tryz.underlying3 h0
  obtain ⟨a1, rfl, w1⟩ := has_int Tryz.underlying3 h1
  obtain ⟨a2, rfl, w2⟩ := has_int Tryz.underlying27 h2
  obtain ⟨a3, rfl, w3⟩ := has_str Tryz.underlying9 h3
  have hn : 0 ≤ a2 := u64_lo w2
  obtain ⟨n, rfl⟩ := Int.eq_ofNat_of_zero_le hn
  exact ⟨⟨a0, a1, n, a3⟩, ⟨w0, w1, w2, w3⟩, rfl⟩

end Go.Proofs.YtdmbncmbkocjjaaGreat.Br

/- The value of a raw field: what both compute. -/
set_option linter.unusedSimpArgs false
namespace Go.Proofs.YtdmbncmbkocjjaaGreat.Va
open Go Am Rc Bt Br Vp Up

/-- A value as it is left: bits as a number of any size below 2^64. -/
def zv : AV := sv 0 0 []

/-- The bits of a number on the wire. -/
def wbits (w : Int) (b : Nat) : Nat := if w = 1 then (IntKind.u64.wrap (zag b)).toNat else b

/-- The value of a raw field by an operation of kind k and target t. -/
def scl (E : List AV) (k t : Int) (f : R) : AV × Int :=
  if isk k = true then
    if f.wire = wk k then
      if f.wire = 3 then
        if k = 7 ∧ vld f.data = false then (zv, 7) else (sv k 0 f.data, 0)
      else if fitn k (wbits f.wire f.bits) = true then
        if k = 9 ∧ acc E t (wbits f.wire f.bits) = false then (zv, 16) else (sv k (nbits k (wbits f.wire f.bits)) [], 0)
      else (zv, 6)
    else (zv, 13)
  else (zv, 12)

def sclv (r : AV × Int) : AV := .tup [r.1, .int .i64 r.2]

theorem zag_wrap (b : Nat) (_hb : b < 18446744073709551616) : IntKind.u64.wrap (zag b) = (wbits 1 b : Int) ∧ wbits 1 b < 18446744073709551616 := by
  unfold wbits
  rw [if_pos rfl, wu64]
  omega

theorem wk_txk {k : Int} (hk : isk k = true) (h : wk k ≠ 3) : txk k = false := by
  unfold wk at h
  unfold txk
  rw [Bool.or_eq_false_iff, beq_eq_false_iff_ne, beq_eq_false_iff_ne]
  refine ⟨fun e => ?_, fun e => ?_⟩ <;> (subst e; exact h (by decide))

theorem x5 (G E : List AV) (hP : IsP G E) (n : Int) (s a : List UInt8) (c y k t u : Int) (f : R) (hb : f.bits < 18446744073709551616) :
    Fn1 Tryz.prog 5 [pv G E, oc n s a c y k t u, f.av] (sclv (scl E k t f)) := by
  have hw := x11 n s a c y k t u
  have hacc : ∀ b, _ := fun b => x15 G E hP t b
  simp only [oc] at hw
  simp only [pv] at hacc
  refine fn1_of_awp (rc := r5) (rs := o5) Tryz.func5 rfl rfl Tryz.ntmps5 k5 q5 (by simp) ?_
  simp only [g5_0, g5_1, g5_2, g5_3, g5_4, g5_5, g5_6, g5_7, g5_8, g5_9, g5_10, g5_11, g5_12, g5_13, g5_14, g5_15, g5_16, r5, o5, pv, oc, R.av, eES, eEX, Nat.reduceBEq, Int.reduceLE, Int.reduceLT, Int.reduceToNat, Int.reduceEq, ↓reduceIte, reduceCtorEq, Nat.reducePow, Nat.reduceAdd, Nat.reduceLeDiff, Nat.reduceLT, Nat.reduceSub, Nat.reduceEqDiff]
  refine aops_call (x10 k) rfl rfl rfl (.inl rfl) ?_
  cases hk : isk k
  · have hs : scl E k t f = (zv, 12) := by unfold scl; rw [if_neg (by rw [hk]; decide)]
    simp only [hs, sclv, zv, sv, splice, List.take_succ_cons, List.take_zero, List.drop_succ_cons, List.drop_zero, List.cons_append, List.nil_append, List.length_cons, List.length_nil, eES, eEX, Nat.reduceBEq, Int.reduceLE, Int.reduceLT, Int.reduceToNat, Int.reduceEq, ↓reduceIte, reduceCtorEq, Nat.reducePow, Nat.reduceAdd, Nat.reduceLeDiff, Nat.reduceLT, Nat.reduceSub, Nat.reduceEqDiff]
    rfl
  simp only [eES, eEX, Nat.reduceBEq, Int.reduceLE, Int.reduceLT, Int.reduceToNat, Int.reduceEq, ↓reduceIte, reduceCtorEq, Nat.reducePow, Nat.reduceAdd, Nat.reduceLeDiff, Nat.reduceLT, Nat.reduceSub, Nat.reduceEqDiff]
  refine aops_call hw rfl rfl rfl (.inl rfl) ?_
  by_cases h1 : f.wire = wk k
  case neg =>
    have hs : scl E k t f = (zv, 13) := by unfold scl; rw [if_pos hk, if_neg h1]
    have b1 : (f.wire != wk k) = true := by simp [h1]
    simp only [b1, hs, sclv, zv, sv, splice, List.take_succ_cons, List.take_zero, List.drop_succ_cons, List.drop_zero, List.cons_append, List.nil_append, List.length_cons, List.length_nil, eES, eEX, Nat.reduceBEq, Int.reduceLE, Int.reduceLT, Int.reduceToNat, Int.reduceEq, ↓reduceIte, reduceCtorEq, Nat.reducePow, Nat.reduceAdd, Nat.reduceLeDiff, Nat.reduceLT, Nat.reduceSub, Nat.reduceEqDiff]
    rfl
  have b1 : (f.wire != wk k) = false := by simp [h1]
  simp only [b1, eES, eEX, Nat.reduceBEq, Int.reduceLE, Int.reduceLT, Int.reduceToNat, Int.reduceEq, ↓reduceIte, reduceCtorEq, Nat.reducePow, Nat.reduceAdd, Nat.reduceLeDiff, Nat.reduceLT, Nat.reduceSub, Nat.reduceEqDiff]
  by_cases h3 : f.wire = 3
  · have b3 : (f.wire == 3) = true := by simp [h3]
    simp only [b3, splice, List.take_succ_cons, List.take_zero, List.drop_succ_cons, List.drop_zero, List.cons_append, List.nil_append, List.length_cons, List.length_nil, eES, eEX, Nat.reduceBEq, Int.reduceLE, Int.reduceLT, Int.reduceToNat, Int.reduceEq, ↓reduceIte, reduceCtorEq, Nat.reducePow, Nat.reduceAdd, Nat.reduceLeDiff, Nat.reduceLT, Nat.reduceSub, Nat.reduceEqDiff]
    by_cases h7 : k = 7
    · have b7 : (k == 7) = true := by simp [h7]
      simp only [b7, eES, eEX, Nat.reduceBEq, Int.reduceLE, Int.reduceLT, Int.reduceToNat, Int.reduceEq, ↓reduceIte, reduceCtorEq, Nat.reducePow, Nat.reduceAdd, Nat.reduceLeDiff, Nat.reduceLT, Nat.reduceSub, Nat.reduceEqDiff]
      refine aops_call (x12 f.data) rfl rfl rfl (.inl rfl) ?_
      cases hv : vld f.data
      · have hs : scl E k t f = (zv, 7) := by unfold scl; rw [if_pos hk, if_pos h1, if_pos h3, if_pos ⟨h7, hv⟩]
        simp only [hs, sclv, zv, sv, splice, List.take_succ_cons, List.take_zero, List.drop_succ_cons, List.drop_zero, List.cons_append, List.nil_append, List.length_cons, List.length_nil, eES, eEX, Nat.reduceBEq, Int.reduceLE, Int.reduceLT, Int.reduceToNat, Int.reduceEq, ↓reduceIte, reduceCtorEq, Nat.reducePow, Nat.reduceAdd, Nat.reduceLeDiff, Nat.reduceLT, Nat.reduceSub, Nat.reduceEqDiff]
        rfl
      · have hs : scl E k t f = (sv k 0 f.data, 0) := by unfold scl; rw [if_pos hk, if_pos h1, if_pos h3, if_neg (by rw [hv]; simp)]
        simp only [hs, sclv, sv, splice, List.take_succ_cons, List.take_zero, List.drop_succ_cons, List.drop_zero, List.cons_append, List.nil_append, List.length_cons, List.length_nil, eES, eEX, Nat.reduceBEq, Int.reduceLE, Int.reduceLT, Int.reduceToNat, Int.reduceEq, ↓reduceIte, reduceCtorEq, Nat.reducePow, Nat.reduceAdd, Nat.reduceLeDiff, Nat.reduceLT, Nat.reduceSub, Nat.reduceEqDiff]
        rfl
    · have b7 : (k == 7) = false := by simp [h7]
      have hs : scl E k t f = (sv k 0 f.data, 0) := by unfold scl; rw [if_pos hk, if_pos h1, if_pos h3, if_neg (by simp [h7])]
      simp only [b7, hs, sclv, sv, splice, List.take_succ_cons, List.take_zero, List.drop_succ_cons, List.drop_zero, List.cons_append, List.nil_append, List.length_cons, List.length_nil, eES, eEX, Nat.reduceBEq, Int.reduceLE, Int.reduceLT, Int.reduceToNat, Int.reduceEq, ↓reduceIte, reduceCtorEq, Nat.reducePow, Nat.reduceAdd, Nat.reduceLeDiff, Nat.reduceLT, Nat.reduceSub, Nat.reduceEqDiff]
      rfl
  have b3 : (f.wire == 3) = false := by simp [h3]
  have htx := wk_txk hk (h1 ▸ h3)
  simp only [b3, splice, List.take_succ_cons, List.take_zero, List.drop_succ_cons, List.drop_zero, List.cons_append, List.nil_append, List.length_cons, List.length_nil, eES, eEX, Nat.reduceBEq, Int.reduceLE, Int.reduceLT, Int.reduceToNat, Int.reduceEq, ↓reduceIte, reduceCtorEq, Nat.reducePow, Nat.reduceAdd, Nat.reduceLeDiff, Nat.reduceLT, Nat.reduceSub, Nat.reduceEqDiff]
  have hfit : ∀ B : Nat, B = wbits f.wire f.bits → fitn k B = false → scl E k t f = (zv, 6) := by
    intro B e hh
    unfold scl
    rw [if_pos hk, if_pos h1, if_neg h3, ← e, if_neg (by rw [hh]; decide)]
  have hen : ∀ B : Nat, B = wbits f.wire f.bits → fitn k B = true → k = 9 → acc E t B = false → scl E k t f = (zv, 16) := by
    intro B e hh h9 ha
    unfold scl
    rw [if_pos hk, if_pos h1, if_neg h3, ← e, if_pos hh, if_pos ⟨h9, ha⟩]
  have hno : ∀ B : Nat, B = wbits f.wire f.bits → fitn k B = true → (k = 9 → acc E t B = true) → scl E k t f = (sv k (nbits k B) [], 0) := by
    intro B e hh ha
    unfold scl
    rw [if_pos hk, if_pos h1, if_neg h3, ← e, if_pos hh, if_neg (by rintro ⟨h9, hf⟩; rw [ha h9] at hf; cases hf)]
  have hz := c13 (f.bits : Int) (by omega) (by omega)
  obtain ⟨hzw, hzl⟩ := zag_wrap f.bits hb
  by_cases hw1 : f.wire = 1
  all_goals
    first
      | (have bw : (f.wire == 1) = true := by simp [hw1]
         simp only [bw, eES, eEX, Nat.reduceBEq, Int.reduceLE, Int.reduceLT, Int.reduceToNat, Int.reduceEq, ↓reduceIte, reduceCtorEq, Nat.reducePow, Nat.reduceAdd, Nat.reduceLeDiff, Nat.reduceLT, Nat.reduceSub, Nat.reduceEqDiff]
         refine aops_call hz rfl rfl rfl (.inl rfl) ?_
         simp only [hzw, splice, List.take_succ_cons, List.take_zero, List.drop_succ_cons, List.drop_zero, List.cons_append, List.nil_append, List.length_cons, List.length_nil, eES, eEX, Nat.reduceBEq, Int.reduceLE, Int.reduceLT, Int.reduceToNat, Int.reduceEq, ↓reduceIte, reduceCtorEq, Nat.reducePow, Nat.reduceAdd, Nat.reduceLeDiff, Nat.reduceLT, Nat.reduceSub, Nat.reduceEqDiff]
         have eB : wbits 1 f.bits = wbits f.wire f.bits := by rw [hw1]
         have hB := hzl
         generalize wbits 1 f.bits = B at eB hB)
      | (have bw : (f.wire == 1) = false := by simp [hw1]
         simp only [bw, splice, List.take_succ_cons, List.take_zero, List.drop_succ_cons, List.drop_zero, List.cons_append, List.nil_append, List.length_cons, List.length_nil, eES, eEX, Nat.reduceBEq, Int.reduceLE, Int.reduceLT, Int.reduceToNat, Int.reduceEq, ↓reduceIte, reduceCtorEq, Nat.reducePow, Nat.reduceAdd, Nat.reduceLeDiff, Nat.reduceLT, Nat.reduceSub, Nat.reduceEqDiff]
         obtain ⟨B, hBe⟩ : ∃ B, f.bits = B := ⟨_, rfl⟩
         rw [hBe]
         have eB : B = wbits f.wire f.bits := by unfold wbits; rw [if_neg hw1]; exact hBe.symm
         have hB := hb
         rw [hBe] at hB)
    refine aops_call (x14 k _ hk htx) rfl rfl rfl (.inl rfl) ?_
    cases hft : fitn k B
    · simp only [hfit B eB hft, sclv, zv, sv, splice, List.take_succ_cons, List.take_zero, List.drop_succ_cons, List.drop_zero, List.cons_append, List.nil_append, List.length_cons, List.length_nil, eES, eEX, Nat.reduceBEq, Int.reduceLE, Int.reduceLT, Int.reduceToNat, Int.reduceEq, ↓reduceIte, reduceCtorEq, Nat.reducePow, Nat.reduceAdd, Nat.reduceLeDiff, Nat.reduceLT, Nat.reduceSub, Nat.reduceEqDiff]
      rfl
    simp only [eES, eEX, Nat.reduceBEq, Int.reduceLE, Int.reduceLT, Int.reduceToNat, Int.reduceEq, ↓reduceIte, reduceCtorEq, Nat.reducePow, Nat.reduceAdd, Nat.reduceLeDiff, Nat.reduceLT, Nat.reduceSub, Nat.reduceEqDiff]
    by_cases h9 : k = 9
    · have b9 : (k == 9) = true := by simp [h9]
      simp only [b9, eES, eEX, Nat.reduceBEq, Int.reduceLE, Int.reduceLT, Int.reduceToNat, Int.reduceEq, ↓reduceIte, reduceCtorEq, Nat.reducePow, Nat.reduceAdd, Nat.reduceLeDiff, Nat.reduceLT, Nat.reduceSub, Nat.reduceEqDiff]
      refine aops_call (hacc B) rfl rfl rfl (.inl rfl) ?_
      cases ha : acc E t B
      · simp only [hen B eB hft h9 ha, sclv, zv, sv, splice, List.take_succ_cons, List.take_zero, List.drop_succ_cons, List.drop_zero, List.cons_append, List.nil_append, List.length_cons, List.length_nil, eES, eEX, Nat.reduceBEq, Int.reduceLE, Int.reduceLT, Int.reduceToNat, Int.reduceEq, ↓reduceIte, reduceCtorEq, Nat.reducePow, Nat.reduceAdd, Nat.reduceLeDiff, Nat.reduceLT, Nat.reduceSub, Nat.reduceEqDiff]
        rfl
      · simp only [eES, eEX, Nat.reduceBEq, Int.reduceLE, Int.reduceLT, Int.reduceToNat, Int.reduceEq, ↓reduceIte, reduceCtorEq, Nat.reducePow, Nat.reduceAdd, Nat.reduceLeDiff, Nat.reduceLT, Nat.reduceSub, Nat.reduceEqDiff]
        refine aops_call (x16 k _ hB []) rfl rfl rfl (.inl rfl) ?_
        simp only [hno B eB hft (fun _ => ha), sclv, sv, splice, List.take_succ_cons, List.take_zero, List.drop_succ_cons, List.drop_zero, List.cons_append, List.nil_append, List.length_cons, List.length_nil, eES, eEX, Nat.reduceBEq, Int.reduceLE, Int.reduceLT, Int.reduceToNat, Int.reduceEq, ↓reduceIte, reduceCtorEq, Nat.reducePow, Nat.reduceAdd, Nat.reduceLeDiff, Nat.reduceLT, Nat.reduceSub, Nat.reduceEqDiff]
    · have b9 : (k == 9) = false := by simp [h9]
      simp only [b9, eES, eEX, Nat.reduceBEq, Int.reduceLE, Int.reduceLT, Int.reduceToNat, Int.reduceEq, ↓reduceIte, reduceCtorEq, Nat.reducePow, Nat.reduceAdd, Nat.reduceLeDiff, Nat.reduceLT, Nat.reduceSub, Nat.reduceEqDiff]
      refine aops_call (x16 k _ hB []) rfl rfl rfl (.inl rfl) ?_
      simp only [hno B eB hft (fun h => absurd h h9), sclv, sv, splice, List.take_succ_cons, List.take_zero, List.drop_succ_cons, List.drop_zero, List.cons_append, List.nil_append, List.length_cons, List.length_nil, eES, eEX, Nat.reduceBEq, Int.reduceLE, Int.reduceLT, Int.reduceToNat, Int.reduceEq, ↓reduceIte, reduceCtorEq, Nat.reducePow, Nat.reduceAdd, Nat.reduceLeDiff, Nat.reduceLT, Nat.reduceSub, Nat.reduceEqDiff]

theorem x6 (G E : List AV) (hP : IsP G E) (n : Int) (s a : List UInt8) (c y k t u : Int) (f : R) (hb : f.bits < 18446744073709551616) (hW : WfE E) (hd : f.data.length + 8 ≤ maxLen) :
    Fn1 Tryz.prog 6 [pv G E, oc n s a c y k t u, f.av] (sclv (scl E k t f)) := by
  have hw := x18 n s a c y k t u
  have hacc : ∀ b, _ := fun b => x22 G E hP hW t b
  simp only [oc] at hw
  simp only [pv] at hacc
  refine fn1_of_awp (rc := r6) (rs := o6) Tryz.func6 rfl rfl Tryz.ntmps6 k6 q6 (by simp) ?_
  simp only [g6_0, g6_1, g6_2, g6_3, g6_4, g6_5, g6_6, g6_8, g6_9, g6_10, g6_11, g6_12, g6_13, g6_14, g6_7, g6_15, g6_16, g6_17, g6_18, g6_19, r6, o6, pv, oc, R.av, eES, eEX, Nat.reduceBEq, Int.reduceLE, Int.reduceLT, Int.reduceToNat, Int.reduceEq, ↓reduceIte, reduceCtorEq, Nat.reducePow, Nat.reduceAdd, Nat.reduceLeDiff, Nat.reduceLT, Nat.reduceSub, Nat.reduceEqDiff]
  refine aops_callE (x17 k) rfl rfl rfl (.inl rfl) ?_
  cases hk : isk k
  · have hs : scl E k t f = (zv, 12) := by unfold scl; rw [if_neg (by rw [hk]; decide)]
    simp only [hs, sclv, zv, sv, splice, List.take_succ_cons, List.take_zero, List.drop_succ_cons, List.drop_zero, List.cons_append, List.nil_append, List.length_cons, List.length_nil, eES, eEX, Nat.reduceBEq, Int.reduceLE, Int.reduceLT, Int.reduceToNat, Int.reduceEq, ↓reduceIte, reduceCtorEq, Nat.reducePow, Nat.reduceAdd, Nat.reduceLeDiff, Nat.reduceLT, Nat.reduceSub, Nat.reduceEqDiff]
    rfl
  simp only [eES, eEX, Nat.reduceBEq, Int.reduceLE, Int.reduceLT, Int.reduceToNat, Int.reduceEq, ↓reduceIte, reduceCtorEq, Nat.reducePow, Nat.reduceAdd, Nat.reduceLeDiff, Nat.reduceLT, Nat.reduceSub, Nat.reduceEqDiff]
  refine aops_call hw rfl rfl rfl (.inl rfl) ?_
  by_cases h1 : f.wire = wk k
  case neg =>
    have hs : scl E k t f = (zv, 13) := by unfold scl; rw [if_pos hk, if_neg h1]
    have b1 : (f.wire != wk k) = true := by simp [h1]
    simp only [b1, hs, sclv, zv, sv, splice, List.take_succ_cons, List.take_zero, List.drop_succ_cons, List.drop_zero, List.cons_append, List.nil_append, List.length_cons, List.length_nil, eES, eEX, Nat.reduceBEq, Int.reduceLE, Int.reduceLT, Int.reduceToNat, Int.reduceEq, ↓reduceIte, reduceCtorEq, Nat.reducePow, Nat.reduceAdd, Nat.reduceLeDiff, Nat.reduceLT, Nat.reduceSub, Nat.reduceEqDiff]
    rfl
  have b1 : (f.wire != wk k) = false := by simp [h1]
  simp only [b1, eES, eEX, Nat.reduceBEq, Int.reduceLE, Int.reduceLT, Int.reduceToNat, Int.reduceEq, ↓reduceIte, reduceCtorEq, Nat.reducePow, Nat.reduceAdd, Nat.reduceLeDiff, Nat.reduceLT, Nat.reduceSub, Nat.reduceEqDiff]
  by_cases h3 : f.wire = 3
  · have b3 : (f.wire == 3) = true := by simp [h3]
    simp only [b3, splice, List.take_succ_cons, List.take_zero, List.drop_succ_cons, List.drop_zero, List.cons_append, List.nil_append, List.length_cons, List.length_nil, eES, eEX, Nat.reduceBEq, Int.reduceLE, Int.reduceLT, Int.reduceToNat, Int.reduceEq, ↓reduceIte, reduceCtorEq, Nat.reducePow, Nat.reduceAdd, Nat.reduceLeDiff, Nat.reduceLT, Nat.reduceSub, Nat.reduceEqDiff]
    by_cases h7 : k = 7
    · have b7 : (k == 7) = true := by simp [h7]
      simp only [b7, eES, eEX, Nat.reduceBEq, Int.reduceLE, Int.reduceLT, Int.reduceToNat, Int.reduceEq, ↓reduceIte, reduceCtorEq, Nat.reducePow, Nat.reduceAdd, Nat.reduceLeDiff, Nat.reduceLT, Nat.reduceSub, Nat.reduceEqDiff]
      refine aops_call (c19 f.data hd) rfl rfl rfl (.inl rfl) ?_
      cases hv : vld f.data
      · have hs : scl E k t f = (zv, 7) := by unfold scl; rw [if_pos hk, if_pos h1, if_pos h3, if_pos ⟨h7, hv⟩]
        simp only [hs, sclv, zv, sv, splice, List.take_succ_cons, List.take_zero, List.drop_succ_cons, List.drop_zero, List.cons_append, List.nil_append, List.length_cons, List.length_nil, eES, eEX, Nat.reduceBEq, Int.reduceLE, Int.reduceLT, Int.reduceToNat, Int.reduceEq, ↓reduceIte, reduceCtorEq, Nat.reducePow, Nat.reduceAdd, Nat.reduceLeDiff, Nat.reduceLT, Nat.reduceSub, Nat.reduceEqDiff]
        rfl
      · have hs : scl E k t f = (sv k 0 f.data, 0) := by unfold scl; rw [if_pos hk, if_pos h1, if_pos h3, if_neg (by rw [hv]; simp)]
        simp only [hs, sclv, sv, splice, List.take_succ_cons, List.take_zero, List.drop_succ_cons, List.drop_zero, List.cons_append, List.nil_append, List.length_cons, List.length_nil, eES, eEX, Nat.reduceBEq, Int.reduceLE, Int.reduceLT, Int.reduceToNat, Int.reduceEq, ↓reduceIte, reduceCtorEq, Nat.reducePow, Nat.reduceAdd, Nat.reduceLeDiff, Nat.reduceLT, Nat.reduceSub, Nat.reduceEqDiff]
        rfl
    · have b7 : (k == 7) = false := by simp [h7]
      have hs : scl E k t f = (sv k 0 f.data, 0) := by unfold scl; rw [if_pos hk, if_pos h1, if_pos h3, if_neg (by simp [h7])]
      simp only [b7, hs, sclv, sv, splice, List.take_succ_cons, List.take_zero, List.drop_succ_cons, List.drop_zero, List.cons_append, List.nil_append, List.length_cons, List.length_nil, eES, eEX, Nat.reduceBEq, Int.reduceLE, Int.reduceLT, Int.reduceToNat, Int.reduceEq, ↓reduceIte, reduceCtorEq, Nat.reducePow, Nat.reduceAdd, Nat.reduceLeDiff, Nat.reduceLT, Nat.reduceSub, Nat.reduceEqDiff]
      rfl
  have b3 : (f.wire == 3) = false := by simp [h3]
  have htx := wk_txk hk (h1 ▸ h3)
  simp only [b3, splice, List.take_succ_cons, List.take_zero, List.drop_succ_cons, List.drop_zero, List.cons_append, List.nil_append, List.length_cons, List.length_nil, eES, eEX, Nat.reduceBEq, Int.reduceLE, Int.reduceLT, Int.reduceToNat, Int.reduceEq, ↓reduceIte, reduceCtorEq, Nat.reducePow, Nat.reduceAdd, Nat.reduceLeDiff, Nat.reduceLT, Nat.reduceSub, Nat.reduceEqDiff]
  have hfit : ∀ B : Nat, B = wbits f.wire f.bits → fitn k B = false → scl E k t f = (zv, 6) := by
    intro B e hh
    unfold scl
    rw [if_pos hk, if_pos h1, if_neg h3, ← e, if_neg (by rw [hh]; decide)]
  have hen : ∀ B : Nat, B = wbits f.wire f.bits → fitn k B = true → k = 9 → acc E t B = false → scl E k t f = (zv, 16) := by
    intro B e hh h9 ha
    unfold scl
    rw [if_pos hk, if_pos h1, if_neg h3, ← e, if_pos hh, if_pos ⟨h9, ha⟩]
  have hno : ∀ B : Nat, B = wbits f.wire f.bits → fitn k B = true → (k = 9 → acc E t B = true) → scl E k t f = (sv k (nbits k B) [], 0) := by
    intro B e hh ha
    unfold scl
    rw [if_pos hk, if_pos h1, if_neg h3, ← e, if_pos hh, if_neg (by rintro ⟨h9, hf⟩; rw [ha h9] at hf; cases hf)]
  have hz := c20 (f.bits : Int) (by omega) (by omega)
  obtain ⟨hzw, hzl⟩ := zag_wrap f.bits hb
  by_cases hw1 : f.wire = 1
  all_goals
    first
      | (have bw : (f.wire == 1) = true := by simp [hw1]
         simp only [bw, eES, eEX, Nat.reduceBEq, Int.reduceLE, Int.reduceLT, Int.reduceToNat, Int.reduceEq, ↓reduceIte, reduceCtorEq, Nat.reducePow, Nat.reduceAdd, Nat.reduceLeDiff, Nat.reduceLT, Nat.reduceSub, Nat.reduceEqDiff]
         refine aops_call hz rfl rfl rfl (.inl rfl) ?_
         simp only [hzw, splice, List.take_succ_cons, List.take_zero, List.drop_succ_cons, List.drop_zero, List.cons_append, List.nil_append, List.length_cons, List.length_nil, eES, eEX, Nat.reduceBEq, Int.reduceLE, Int.reduceLT, Int.reduceToNat, Int.reduceEq, ↓reduceIte, reduceCtorEq, Nat.reducePow, Nat.reduceAdd, Nat.reduceLeDiff, Nat.reduceLT, Nat.reduceSub, Nat.reduceEqDiff]
         have eB : wbits 1 f.bits = wbits f.wire f.bits := by rw [hw1]
         have hB := hzl
         generalize wbits 1 f.bits = B at eB hB)
      | (have bw : (f.wire == 1) = false := by simp [hw1]
         simp only [bw, splice, List.take_succ_cons, List.take_zero, List.drop_succ_cons, List.drop_zero, List.cons_append, List.nil_append, List.length_cons, List.length_nil, eES, eEX, Nat.reduceBEq, Int.reduceLE, Int.reduceLT, Int.reduceToNat, Int.reduceEq, ↓reduceIte, reduceCtorEq, Nat.reducePow, Nat.reduceAdd, Nat.reduceLeDiff, Nat.reduceLT, Nat.reduceSub, Nat.reduceEqDiff]
         obtain ⟨B, hBe⟩ : ∃ B, f.bits = B := ⟨_, rfl⟩
         rw [hBe]
         have eB : B = wbits f.wire f.bits := by unfold wbits; rw [if_neg hw1]; exact hBe.symm
         have hB := hb
         rw [hBe] at hB)
    refine aops_callE (x21 k _ hk htx) rfl rfl rfl (.inl rfl) ?_
    cases hft : fitn k B
    · simp only [hfit B eB hft, sclv, zv, sv, splice, List.take_succ_cons, List.take_zero, List.drop_succ_cons, List.drop_zero, List.cons_append, List.nil_append, List.length_cons, List.length_nil, eES, eEX, Nat.reduceBEq, Int.reduceLE, Int.reduceLT, Int.reduceToNat, Int.reduceEq, ↓reduceIte, reduceCtorEq, Nat.reducePow, Nat.reduceAdd, Nat.reduceLeDiff, Nat.reduceLT, Nat.reduceSub, Nat.reduceEqDiff]
      rfl
    simp only [eES, eEX, Nat.reduceBEq, Int.reduceLE, Int.reduceLT, Int.reduceToNat, Int.reduceEq, ↓reduceIte, reduceCtorEq, Nat.reducePow, Nat.reduceAdd, Nat.reduceLeDiff, Nat.reduceLT, Nat.reduceSub, Nat.reduceEqDiff]
    by_cases h9 : k = 9
    · have b9 : (k == 9) = true := by simp [h9]
      simp only [b9, eES, eEX, Nat.reduceBEq, Int.reduceLE, Int.reduceLT, Int.reduceToNat, Int.reduceEq, ↓reduceIte, reduceCtorEq, Nat.reducePow, Nat.reduceAdd, Nat.reduceLeDiff, Nat.reduceLT, Nat.reduceSub, Nat.reduceEqDiff]
      refine aops_call (hacc B) rfl rfl rfl (.inl rfl) ?_
      cases ha : acc E t B
      · simp only [hen B eB hft h9 ha, sclv, zv, sv, splice, List.take_succ_cons, List.take_zero, List.drop_succ_cons, List.drop_zero, List.cons_append, List.nil_append, List.length_cons, List.length_nil, eES, eEX, Nat.reduceBEq, Int.reduceLE, Int.reduceLT, Int.reduceToNat, Int.reduceEq, ↓reduceIte, reduceCtorEq, Nat.reducePow, Nat.reduceAdd, Nat.reduceLeDiff, Nat.reduceLT, Nat.reduceSub, Nat.reduceEqDiff]
        rfl
      · simp only [eES, eEX, Nat.reduceBEq, Int.reduceLE, Int.reduceLT, Int.reduceToNat, Int.reduceEq, ↓reduceIte, reduceCtorEq, Nat.reducePow, Nat.reduceAdd, Nat.reduceLeDiff, Nat.reduceLT, Nat.reduceSub, Nat.reduceEqDiff]
        refine aops_call (x23 k _ []) rfl rfl rfl (.inl rfl) ?_
        simp only [hno B eB hft (fun _ => ha), sclv, sv, splice, List.take_succ_cons, List.take_zero, List.drop_succ_cons, List.drop_zero, List.cons_append, List.nil_append, List.length_cons, List.length_nil, eES, eEX, Nat.reduceBEq, Int.reduceLE, Int.reduceLT, Int.reduceToNat, Int.reduceEq, ↓reduceIte, reduceCtorEq, Nat.reducePow, Nat.reduceAdd, Nat.reduceLeDiff, Nat.reduceLT, Nat.reduceSub, Nat.reduceEqDiff]
    · have b9 : (k == 9) = false := by simp [h9]
      simp only [b9, eES, eEX, Nat.reduceBEq, Int.reduceLE, Int.reduceLT, Int.reduceToNat, Int.reduceEq, ↓reduceIte, reduceCtorEq, Nat.reducePow, Nat.reduceAdd, Nat.reduceLeDiff, Nat.reduceLT, Nat.reduceSub, Nat.reduceEqDiff]
      refine aops_call (x23 k _ []) rfl rfl rfl (.inl rfl) ?_
      simp only [hno B eB hft (fun h => absurd h h9), sclv, sv, splice, List.take_succ_cons, List.take_zero, List.drop_succ_cons, List.drop_zero, List.cons_append, List.nil_append, List.length_cons, List.length_nil, eES, eEX, Nat.reduceBEq, Int.reduceLE, Int.reduceLT, Int.reduceToNat, Int.reduceEq, ↓reduceIte, reduceCtorEq, Nat.reducePow, Nat.reduceAdd, Nat.reduceLeDiff, Nat.reduceLT, Nat.reduceSub, Nat.reduceEqDiff]

end Go.Proofs.YtdmbncmbkocjjaaGreat.Va

/- The table of the functions that are run. -/
namespace Go.Proofs.YtdmbncmbkocjjaaGreat.Ev
open Go Am Rc

def tab : Tab := fun k => match k with
  | 25 => some (r25, o25, 40)
  | 8 => some (r8, o8, 48)
  | 70 => some (r70, o70, 43)
  | 49 => some (r49, o49, 74)
  | 50 => some (r50, o50, 15)
  | 51 => some (r51, o51, 54)
  | 26 => some (r26, o26, 2)
  | 27 => some (r27, o27, 2)
  | 102 => some (r102, o102, 9)
  | 104 => some (r104, o104, 20)
  | 71 => some (r71, o71, 21)
  | 72 => some (r72, o72, 93)
  | 73 => some (r73, o73, 86)
  | 74 => some (r74, o74, 19)
  | 75 => some (r75, o75, 8)
  | 76 => some (r76, o76, 23)
  | 124 => some (r124, o124, 63)
  | 125 => some (r125, o125, 6)
  | 93 => some (r93, o93, 42)
  | 91 => some (r91, o91, 22)
  | 92 => some (r92, o92, 11)
  | 94 => some (r94, o94, 64)
  | 98 => some (r98, o98, 40)
  | 99 => some (r99, o99, 12)
  | 100 => some (r100, o100, 67)
  | 101 => some (r101, o101, 27)
  | 147 => some (r147, o147, 53)
  | 110 => some (r110, o110, 23)
  | 109 => some (r109, o109, 21)
  | 58 => some (r58, o58, 21)
  | 112 => some (r112, o112, 95)
  | 11 => some (r11, o11, 6)
  | 114 => some (r114, o114, 87)
  | 117 => some (r117, o117, 9)
  | 118 => some (r118, o118, 10)
  | 119 => some (r119, o119, 8)
  | 120 => some (r120, o120, 20)
  | 121 => some (r121, o121, 17)
  | 16 => some (r16, o16, 14)
  | 123 => some (r123, o123, 20)
  | 126 => some (r126, o126, 36)
  | 127 => some (r127, o127, 20)
  | 128 => some (r128, o128, 11)
  | 129 => some (r129, o129, 30)
  | 130 => some (r130, o130, 22)
  | 132 => some (r132, o132, 20)
  | 133 => some (r133, o133, 66)
  | 134 => some (r134, o134, 16)
  | 35 => some (r35, o35, 27)
  | 136 => some (r136, o136, 18)
  | 137 => some (r137, o137, 68)
  | 5 => some (r5, o5, 72)
  | 140 => some (r140, o140, 63)
  | 141 => some (r141, o141, 19)
  | 10 => some (r10, o10, 9)
  | 37 => some (r37, o37, 28)
  | 13 => some (r13, o13, 11)
  | 14 => some (r14, o14, 39)
  | 153 => some (r153, o153, 53)
  | 60 => some (r60, o60, 9)
  | 38 => some (r38, o38, 28)
  | _ => none

theorem tab_ok : TabOk Tryz.prog tab := by
  intro k c rs N h
  unfold tab at h
  split at h
  · cases h; exact ⟨Tryz.f25, _, Tryz.func25, rfl, rfl, Tryz.ntmps25, k25, q25⟩
  · cases h; exact ⟨Tryz.f8, _, Tryz.func8, rfl, rfl, Tryz.ntmps8, k8, q8⟩
  · cases h; exact ⟨Tryz.f70, _, Tryz.func70, rfl, rfl, Tryz.ntmps70, k70, q70⟩
  · cases h; exact ⟨Tryz.f49, _, Tryz.func49, rfl, rfl, Tryz.ntmps49, k49, q49⟩
  · cases h; exact ⟨Tryz.f50, _, Tryz.func50, rfl, rfl, Tryz.ntmps50, k50, q50⟩
  · cases h; exact ⟨Tryz.f51, _, Tryz.func51, rfl, rfl, Tryz.ntmps51, k51, q51⟩
  · cases h; exact ⟨Tryz.f26, _, Tryz.func26, rfl, rfl, Tryz.ntmps26, k26, q26⟩
  · cases h; exact ⟨Tryz.f27, _, Tryz.func27, rfl, rfl, Tryz.ntmps27, k27, q27⟩
  · cases h; exact ⟨Tryz.f102, _, Tryz.func102, rfl, rfl, Tryz.ntmps102, k102, q102⟩
  · cases h; exact ⟨Tryz.f104, _, Tryz.func104, rfl, rfl, Tryz.ntmps104, k104, q104⟩
  · cases h; exact ⟨Tryz.f71, _, Tryz.func71, rfl, rfl, Tryz.ntmps71, k71, q71⟩
  · cases h; exact ⟨Tryz.f72, _, Tryz.func72, rfl, rfl, Tryz.ntmps72, k72, q72⟩
  · cases h; exact ⟨Tryz.f73, _, Tryz.func73, rfl, rfl, Tryz.ntmps73, k73, q73⟩
  · cases h; exact ⟨Tryz.f74, _, Tryz.func74, rfl, rfl, Tryz.ntmps74, k74, q74⟩
  · cases h; exact ⟨Tryz.f75, _, Tryz.func75, rfl, rfl, Tryz.ntmps75, k75, q75⟩
  · cases h; exact ⟨Tryz.f76, _, Tryz.func76, rfl, rfl, Tryz.ntmps76, k76, q76⟩
  · cases h; exact ⟨Tryz.f124, _, Tryz.func124, rfl, rfl, Tryz.ntmps124, k124, q124⟩
  · cases h; exact ⟨Tryz.f125, _, Tryz.func125, rfl, rfl, Tryz.ntmps125, k125, q125⟩
  · cases h; exact ⟨Tryz.f93, _, Tryz.func93, rfl, rfl, Tryz.ntmps93, k93, q93⟩
  · cases h; exact ⟨Tryz.f91, _, Tryz.func91, rfl, rfl, Tryz.ntmps91, k91, q91⟩
  · cases h; exact ⟨Tryz.f92, _, Tryz.func92, rfl, rfl, Tryz.ntmps92, k92, q92⟩
  · cases h; exact ⟨Tryz.f94, _, Tryz.func94, rfl, rfl, Tryz.ntmps94, k94, q94⟩
  · cases h; exact ⟨Tryz.f98, _, Tryz.func98, rfl, rfl, Tryz.ntmps98, k98, q98⟩
  · cases h; exact ⟨Tryz.f99, _, Tryz.func99, rfl, rfl, Tryz.ntmps99, k99, q99⟩
  · cases h; exact ⟨Tryz.f100, _, Tryz.func100, rfl, rfl, Tryz.ntmps100, k100, q100⟩
  · cases h; exact ⟨Tryz.f101, _, Tryz.func101, rfl, rfl, Tryz.ntmps101, k101, q101⟩
  · cases h; exact ⟨Tryz.f147, _, Tryz.func147, rfl, rfl, Tryz.ntmps147, k147, q147⟩
  · cases h; exact ⟨Tryz.f110, _, Tryz.func110, rfl, rfl, Tryz.ntmps110, k110, q110⟩
  · cases h; exact ⟨Tryz.f109, _, Tryz.func109, rfl, rfl, Tryz.ntmps109, k109, q109⟩
  · cases h; exact ⟨Tryz.f58, _, Tryz.func58, rfl, rfl, Tryz.ntmps58, k58, q58⟩
  · cases h; exact ⟨Tryz.f112, _, Tryz.func112, rfl, rfl, Tryz.ntmps112, k112, q112⟩
  · cases h; exact ⟨Tryz.f11, _, Tryz.func11, rfl, rfl, Tryz.ntmps11, k11, q11⟩
  · cases h; exact ⟨Tryz.f114, _, Tryz.func114, rfl, rfl, Tryz.ntmps114, k114, q114⟩
  · cases h; exact ⟨Tryz.f117, _, Tryz.func117, rfl, rfl, Tryz.ntmps117, k117, q117⟩
  · cases h; exact ⟨Tryz.f118, _, Tryz.func118, rfl, rfl, Tryz.ntmps118, k118, q118⟩
  · cases h; exact ⟨Tryz.f119, _, Tryz.func119, rfl, rfl, Tryz.ntmps119, k119, q119⟩
  · cases h; exact ⟨Tryz.f120, _, Tryz.func120, rfl, rfl, Tryz.ntmps120, k120, q120⟩
  · cases h; exact ⟨Tryz.f121, _, Tryz.func121, rfl, rfl, Tryz.ntmps121, k121, q121⟩
  · cases h; exact ⟨Tryz.f16, _, Tryz.func16, rfl, rfl, Tryz.ntmps16, k16, q16⟩
  · cases h; exact ⟨Tryz.f123, _, Tryz.func123, rfl, rfl, Tryz.ntmps123, k123, q123⟩
  · cases h; exact ⟨Tryz.f126, _, Tryz.func126, rfl, rfl, Tryz.ntmps126, k126, q126⟩
  · cases h; exact ⟨Tryz.f127, _, Tryz.func127, rfl, rfl, Tryz.ntmps127, k127, q127⟩
  · cases h; exact ⟨Tryz.f128, _, Tryz.func128, rfl, rfl, Tryz.ntmps128, k128, q128⟩
  · cases h; exact ⟨Tryz.f129, _, Tryz.func129, rfl, rfl, Tryz.ntmps129, k129, q129⟩
  · cases h; exact ⟨Tryz.f130, _, Tryz.func130, rfl, rfl, Tryz.ntmps130, k130, q130⟩
  · cases h; exact ⟨Tryz.f132, _, Tryz.func132, rfl, rfl, Tryz.ntmps132, k132, q132⟩
  · cases h; exact ⟨Tryz.f133, _, Tryz.func133, rfl, rfl, Tryz.ntmps133, k133, q133⟩
  · cases h; exact ⟨Tryz.f134, _, Tryz.func134, rfl, rfl, Tryz.ntmps134, k134, q134⟩
  · cases h; exact ⟨Tryz.f35, _, Tryz.func35, rfl, rfl, Tryz.ntmps35, k35, q35⟩
  · cases h; exact ⟨Tryz.f136, _, Tryz.func136, rfl, rfl, Tryz.ntmps136, k136, q136⟩
  · cases h; exact ⟨Tryz.f137, _, Tryz.func137, rfl, rfl, Tryz.ntmps137, k137, q137⟩
  · cases h; exact ⟨Tryz.f5, _, Tryz.func5, rfl, rfl, Tryz.ntmps5, k5, q5⟩
  · cases h; exact ⟨Tryz.f140, _, Tryz.func140, rfl, rfl, Tryz.ntmps140, k140, q140⟩
  · cases h; exact ⟨Tryz.f141, _, Tryz.func141, rfl, rfl, Tryz.ntmps141, k141, q141⟩
  · cases h; exact ⟨Tryz.f10, _, Tryz.func10, rfl, rfl, Tryz.ntmps10, k10, q10⟩
  · cases h; exact ⟨Tryz.f37, _, Tryz.func37, rfl, rfl, Tryz.ntmps37, k37, q37⟩
  · cases h; exact ⟨Tryz.f13, _, Tryz.func13, rfl, rfl, Tryz.ntmps13, k13, q13⟩
  · cases h; exact ⟨Tryz.f14, _, Tryz.func14, rfl, rfl, Tryz.ntmps14, k14, q14⟩
  · cases h; exact ⟨Tryz.f153, _, Tryz.func153, rfl, rfl, Tryz.ntmps153, k153, q153⟩
  · cases h; exact ⟨Tryz.f60, _, Tryz.func60, rfl, rfl, Tryz.ntmps60, k60, q60⟩
  · cases h; exact ⟨Tryz.f38, _, Tryz.func38, rfl, rfl, Tryz.ntmps38, k38, q38⟩
  · cases h

end Go.Proofs.YtdmbncmbkocjjaaGreat.Ev

/- slices.Clone: a row of the caller's own. -/
set_option linter.unusedSimpArgs false
namespace Go.Proofs.YtdmbncmbkocjjaaGreat.Cl
open Go Am Rc Bt

theorem flat_nil0 {sz : Nat} (h0 : sz ≠ 0) {xs : List AV} (h : xs.all (fun e => e.cells.length == sz) = true) (hf : flat xs = []) : xs = [] := by
  cases xs with
  | nil => rfl
  | cons x xs =>
    have hl : x.cells.length = sz := by simpa using List.all_eq_true.1 h x (by simp)
    have : x.cells = [] := (List.append_eq_nil_iff.1 hf).1
    rw [this] at hl
    exact absurd hl.symm h0

/-- What a cloning is, as the run takes it. -/
def cloned (sz : Nat) (args : List AV) (m : Mem) : Option (AV × Mem) :=
  match args, m with
  | [.list xs], fr :: m => bif xs.all (fun e => e.cells.length == sz) && Nat.ble xs.length 1000000 && rowOrNone (fr 1000) then some (.vec 0 1000 (ngen (fr 1000)) 0 xs.length false, upd fr 1000 (.vec (ngen (fr 1000)) sz xs) :: m) else none
  | _, _ => none

theorem cloned_ok {P : Program} {k sz : Nat} (hk : ∀ (xs : List AV) (fr : Nat → Ob) (m : Mem), xs.all (fun e => e.cells.length == sz) = true → xs.length ≤ 1000000 → rowOrNone (fr 1000) = true →
    ACalls P k [.list xs] (fr :: m) (fun x m1 => x = .vec 0 1000 (ngen (fr 1000)) 0 xs.length false ∧ m1 = upd fr 1000 (.vec (ngen (fr 1000)) sz xs) :: m)) {args : List AV} {m m' : Mem} {v : AV} (h : cloned sz args m = some (v, m')) : ACalls P k args m fun x m1 => x = v ∧ m1 = m' := by
  unfold cloned at h
  split at h
  · rename_i xs fr m0
    cases hb : (xs.all (fun e => e.cells.length == sz) && Nat.ble xs.length 1000000 && rowOrNone (fr 1000)) with
    | false => rw [hb] at h; cases h
    | true =>
      rw [hb] at h
      simp only [cond_true, Option.some.injEq, Prod.mk.injEq] at h
      simp only [Bool.and_eq_true] at hb
      obtain ⟨rfl, rfl⟩ := h
      exact hk xs fr m0 hb.1.1 (Nat.le_of_ble_eq_true hb.1.2) hb.2
  · cases h

theorem c97 (xs : List AV) (fr : Nat → Ob) (m : Mem) (h : xs.all (fun e => e.cells.length == 4) = true) (hn : xs.length ≤ 1000000) (hr : rowOrNone (fr 1000) = true) :
    ACalls Tryz.prog 97 [.list xs] (fr :: m) (fun x m1 => x = .vec 0 1000 (ngen (fr 1000)) 0 xs.length false ∧ m1 = upd fr 1000 (.vec (ngen (fr 1000)) 4 xs) :: m) := by
  have hng : newGen (fr :: m) 0 1000 = ngen (fr 1000) := newGen_fr
  refine acalls_of_awp (rc := r97) (rs := o97) Tryz.func97 rfl rfl Tryz.ntmps97 k97 q97 (by simp) ?_
  simp only [r97, g97_0, g97_1, eES, eEX, Nat.reduceBEq, Int.reduceLE, Int.reduceLT, Int.reduceToNat, Int.reduceEq, ↓reduceIte, reduceCtorEq, Nat.reducePow, Nat.reduceAdd, Nat.reduceLeDiff, Nat.reduceLT, Nat.reduceSub, Nat.reduceEqDiff]
  refine aops_isnil (ys := xs) (by simp only [eES, eEX, Nat.reduceBEq, Int.reduceLE, Int.reduceLT, Int.reduceToNat, Int.reduceEq, ↓reduceIte, reduceCtorEq, Nat.reducePow, Nat.reduceAdd, Nat.reduceLeDiff, Nat.reduceLT, Nat.reduceSub, Nat.reduceEqDiff]) ?_ ?_
  · simp only [g97_3, eES, eEX, Nat.reduceBEq, Int.reduceLE, Int.reduceLT, Int.reduceToNat, Int.reduceEq, ↓reduceIte, reduceCtorEq, Nat.reducePow, Nat.reduceAdd, Nat.reduceLeDiff, Nat.reduceLT, Nat.reduceSub, Nat.reduceEqDiff]
    refine aops_bsl0 rfl ?_
    simp only [eES, eEX, Nat.reduceBEq, Int.reduceLE, Int.reduceLT, Int.reduceToNat, Int.reduceEq, ↓reduceIte, reduceCtorEq, Nat.reducePow, Nat.reduceAdd, Nat.reduceLeDiff, Nat.reduceLT, Nat.reduceSub, Nat.reduceEqDiff]
    refine aops_app (site := 5) (g := 1) (xs := []) (ys := xs) rfl rfl rfl rfl rfl h (by simp [maxLen]; omega) (by simp; omega) ?_
    simp only [eES, eEX, Nat.reduceBEq, Int.reduceLE, Int.reduceLT, Int.reduceToNat, Int.reduceEq, ↓reduceIte, reduceCtorEq, Nat.reducePow, Nat.reduceAdd, Nat.reduceLeDiff, Nat.reduceLT, Nat.reduceSub, Nat.reduceEqDiff]
    refine awp_give (l := 0) (site := 5) (g := 2) (o := 0) (n := xs.length) (q := false) (sz := 4) (xs := xs) (by simp only [Nat.zero_add, eES, eEX, Nat.reduceBEq, Int.reduceLE, Int.reduceLT, Int.reduceToNat, Int.reduceEq, ↓reduceIte, reduceCtorEq, Nat.reducePow, Nat.reduceAdd, Nat.reduceLeDiff, Nat.reduceLT, Nat.reduceSub, Nat.reduceEqDiff]) (by simp only [eES, eEX, Nat.reduceBEq, Int.reduceLE, Int.reduceLT, Int.reduceToNat, Int.reduceEq, ↓reduceIte, reduceCtorEq, Nat.reducePow, Nat.reduceAdd, Nat.reduceLeDiff, Nat.reduceLT, Nat.reduceSub, Nat.reduceEqDiff]) (by simp) (by decide) hr ?_
    simp only [hng, o97, eES, eEX, Nat.reduceBEq, Int.reduceLE, Int.reduceLT, Int.reduceToNat, Int.reduceEq, ↓reduceIte, reduceCtorEq, Nat.reducePow, Nat.reduceAdd, Nat.reduceLeDiff, Nat.reduceLT, Nat.reduceSub, Nat.reduceEqDiff]
    simp [AV.still, AV.un, isV, vget]
  · intro he
    have hx : xs = [] := by
      rcases he with he | he
      · exact he
      · exact flat_nil0 (by decide) h he
    subst hx
    simp only [g97_2, eES, eEX, Nat.reduceBEq, Int.reduceLE, Int.reduceLT, Int.reduceToNat, Int.reduceEq, ↓reduceIte, reduceCtorEq, Nat.reducePow, Nat.reduceAdd, Nat.reduceLeDiff, Nat.reduceLT, Nat.reduceSub, Nat.reduceEqDiff]
    refine awp_vec (by simp only [eES, eEX, Nat.reduceBEq, Int.reduceLE, Int.reduceLT, Int.reduceToNat, Int.reduceEq, ↓reduceIte, reduceCtorEq, Nat.reducePow, Nat.reduceAdd, Nat.reduceLeDiff, Nat.reduceLT, Nat.reduceSub, Nat.reduceEqDiff]) rfl ?_
    simp only [eES, eEX, Nat.reduceBEq, Int.reduceLE, Int.reduceLT, Int.reduceToNat, Int.reduceEq, ↓reduceIte, reduceCtorEq, Nat.reducePow, Nat.reduceAdd, Nat.reduceLeDiff, Nat.reduceLT, Nat.reduceSub, Nat.reduceEqDiff]
    refine awp_give (l := 0) (site := 2) (g := 1) (o := 0) (n := 0) (q := false) (sz := 4) (xs := []) (by simp only [eES, eEX, Nat.reduceBEq, Int.reduceLE, Int.reduceLT, Int.reduceToNat, Int.reduceEq, ↓reduceIte, reduceCtorEq, Nat.reducePow, Nat.reduceAdd, Nat.reduceLeDiff, Nat.reduceLT, Nat.reduceSub, Nat.reduceEqDiff]) (by simp only [eES, eEX, Nat.reduceBEq, Int.reduceLE, Int.reduceLT, Int.reduceToNat, Int.reduceEq, ↓reduceIte, reduceCtorEq, Nat.reducePow, Nat.reduceAdd, Nat.reduceLeDiff, Nat.reduceLT, Nat.reduceSub, Nat.reduceEqDiff]) (by simp) (by decide) hr ?_
    simp only [hng, o97, eES, eEX, Nat.reduceBEq, Int.reduceLE, Int.reduceLT, Int.reduceToNat, Int.reduceEq, ↓reduceIte, reduceCtorEq, Nat.reducePow, Nat.reduceAdd, Nat.reduceLeDiff, Nat.reduceLT, Nat.reduceSub, Nat.reduceEqDiff]
    simp [AV.still, AV.un, isV, vget]

theorem c116 (xs : List AV) (fr : Nat → Ob) (m : Mem) (h : xs.all (fun e => e.cells.length == 8) = true) (hn : xs.length ≤ 1000000) (hr : rowOrNone (fr 1000) = true) :
    ACalls Tryz.prog 116 [.list xs] (fr :: m) (fun x m1 => x = .vec 0 1000 (ngen (fr 1000)) 0 xs.length false ∧ m1 = upd fr 1000 (.vec (ngen (fr 1000)) 8 xs) :: m) := by
  have hng : newGen (fr :: m) 0 1000 = ngen (fr 1000) := newGen_fr
  refine acalls_of_awp (rc := r116) (rs := o116) Tryz.func116 rfl rfl Tryz.ntmps116 k116 q116 (by simp) ?_
  simp only [r116, g116_0, g116_1, eES, eEX, Nat.reduceBEq, Int.reduceLE, Int.reduceLT, Int.reduceToNat, Int.reduceEq, ↓reduceIte, reduceCtorEq, Nat.reducePow, Nat.reduceAdd, Nat.reduceLeDiff, Nat.reduceLT, Nat.reduceSub, Nat.reduceEqDiff]
  refine aops_isnil (ys := xs) (by simp only [eES, eEX, Nat.reduceBEq, Int.reduceLE, Int.reduceLT, Int.reduceToNat, Int.reduceEq, ↓reduceIte, reduceCtorEq, Nat.reducePow, Nat.reduceAdd, Nat.reduceLeDiff, Nat.reduceLT, Nat.reduceSub, Nat.reduceEqDiff]) ?_ ?_
  · simp only [g116_3, eES, eEX, Nat.reduceBEq, Int.reduceLE, Int.reduceLT, Int.reduceToNat, Int.reduceEq, ↓reduceIte, reduceCtorEq, Nat.reducePow, Nat.reduceAdd, Nat.reduceLeDiff, Nat.reduceLT, Nat.reduceSub, Nat.reduceEqDiff]
    refine aops_bsl0 rfl ?_
    simp only [eES, eEX, Nat.reduceBEq, Int.reduceLE, Int.reduceLT, Int.reduceToNat, Int.reduceEq, ↓reduceIte, reduceCtorEq, Nat.reducePow, Nat.reduceAdd, Nat.reduceLeDiff, Nat.reduceLT, Nat.reduceSub, Nat.reduceEqDiff]
    refine aops_app (site := 5) (g := 1) (xs := []) (ys := xs) rfl rfl rfl rfl rfl h (by simp [maxLen]; omega) (by simp; omega) ?_
    simp only [eES, eEX, Nat.reduceBEq, Int.reduceLE, Int.reduceLT, Int.reduceToNat, Int.reduceEq, ↓reduceIte, reduceCtorEq, Nat.reducePow, Nat.reduceAdd, Nat.reduceLeDiff, Nat.reduceLT, Nat.reduceSub, Nat.reduceEqDiff]
    refine awp_give (l := 0) (site := 5) (g := 2) (o := 0) (n := xs.length) (q := false) (sz := 8) (xs := xs) (by simp only [Nat.zero_add, eES, eEX, Nat.reduceBEq, Int.reduceLE, Int.reduceLT, Int.reduceToNat, Int.reduceEq, ↓reduceIte, reduceCtorEq, Nat.reducePow, Nat.reduceAdd, Nat.reduceLeDiff, Nat.reduceLT, Nat.reduceSub, Nat.reduceEqDiff]) (by simp only [eES, eEX, Nat.reduceBEq, Int.reduceLE, Int.reduceLT, Int.reduceToNat, Int.reduceEq, ↓reduceIte, reduceCtorEq, Nat.reducePow, Nat.reduceAdd, Nat.reduceLeDiff, Nat.reduceLT, Nat.reduceSub, Nat.reduceEqDiff]) (by simp) (by decide) hr ?_
    simp only [hng, o116, eES, eEX, Nat.reduceBEq, Int.reduceLE, Int.reduceLT, Int.reduceToNat, Int.reduceEq, ↓reduceIte, reduceCtorEq, Nat.reducePow, Nat.reduceAdd, Nat.reduceLeDiff, Nat.reduceLT, Nat.reduceSub, Nat.reduceEqDiff]
    simp [AV.still, AV.un, isV, vget]
  · intro he
    have hx : xs = [] := by
      rcases he with he | he
      · exact he
      · exact flat_nil0 (by decide) h he
    subst hx
    simp only [g116_2, eES, eEX, Nat.reduceBEq, Int.reduceLE, Int.reduceLT, Int.reduceToNat, Int.reduceEq, ↓reduceIte, reduceCtorEq, Nat.reducePow, Nat.reduceAdd, Nat.reduceLeDiff, Nat.reduceLT, Nat.reduceSub, Nat.reduceEqDiff]
    refine awp_vec (by simp only [eES, eEX, Nat.reduceBEq, Int.reduceLE, Int.reduceLT, Int.reduceToNat, Int.reduceEq, ↓reduceIte, reduceCtorEq, Nat.reducePow, Nat.reduceAdd, Nat.reduceLeDiff, Nat.reduceLT, Nat.reduceSub, Nat.reduceEqDiff]) rfl ?_
    simp only [eES, eEX, Nat.reduceBEq, Int.reduceLE, Int.reduceLT, Int.reduceToNat, Int.reduceEq, ↓reduceIte, reduceCtorEq, Nat.reducePow, Nat.reduceAdd, Nat.reduceLeDiff, Nat.reduceLT, Nat.reduceSub, Nat.reduceEqDiff]
    refine awp_give (l := 0) (site := 2) (g := 1) (o := 0) (n := 0) (q := false) (sz := 8) (xs := []) (by simp only [eES, eEX, Nat.reduceBEq, Int.reduceLE, Int.reduceLT, Int.reduceToNat, Int.reduceEq, ↓reduceIte, reduceCtorEq, Nat.reducePow, Nat.reduceAdd, Nat.reduceLeDiff, Nat.reduceLT, Nat.reduceSub, Nat.reduceEqDiff]) (by simp only [eES, eEX, Nat.reduceBEq, Int.reduceLE, Int.reduceLT, Int.reduceToNat, Int.reduceEq, ↓reduceIte, reduceCtorEq, Nat.reducePow, Nat.reduceAdd, Nat.reduceLeDiff, Nat.reduceLT, Nat.reduceSub, Nat.reduceEqDiff]) (by simp) (by decide) hr ?_
    simp only [hng, o116, eES, eEX, Nat.reduceBEq, Int.reduceLE, Int.reduceLT, Int.reduceToNat, Int.reduceEq, ↓reduceIte, reduceCtorEq, Nat.reducePow, Nat.reduceAdd, Nat.reduceLeDiff, Nat.reduceLT, Nat.reduceSub, Nat.reduceEqDiff]
    simp [AV.still, AV.un, isV, vget]

theorem c142 (xs : List AV) (fr : Nat → Ob) (m : Mem) (h : xs.all (fun e => e.cells.length == 14) = true) (hn : xs.length ≤ 1000000) (hr : rowOrNone (fr 1000) = true) :
    ACalls Tryz.prog 142 [.list xs] (fr :: m) (fun x m1 => x = .vec 0 1000 (ngen (fr 1000)) 0 xs.length false ∧ m1 = upd fr 1000 (.vec (ngen (fr 1000)) 14 xs) :: m) := by
  have hng : newGen (fr :: m) 0 1000 = ngen (fr 1000) := newGen_fr
  refine acalls_of_awp (rc := r142) (rs := o142) Tryz.func142 rfl rfl Tryz.ntmps142 k142 q142 (by simp) ?_
  simp only [r142, g142_0, g142_1, eES, eEX, Nat.reduceBEq, Int.reduceLE, Int.reduceLT, Int.reduceToNat, Int.reduceEq, ↓reduceIte, reduceCtorEq, Nat.reducePow, Nat.reduceAdd, Nat.reduceLeDiff, Nat.reduceLT, Nat.reduceSub, Nat.reduceEqDiff]
  refine aops_isnil (ys := xs) (by simp only [eES, eEX, Nat.reduceBEq, Int.reduceLE, Int.reduceLT, Int.reduceToNat, Int.reduceEq, ↓reduceIte, reduceCtorEq, Nat.reducePow, Nat.reduceAdd, Nat.reduceLeDiff, Nat.reduceLT, Nat.reduceSub, Nat.reduceEqDiff]) ?_ ?_
  · simp only [g142_3, eES, eEX, Nat.reduceBEq, Int.reduceLE, Int.reduceLT, Int.reduceToNat, Int.reduceEq, ↓reduceIte, reduceCtorEq, Nat.reducePow, Nat.reduceAdd, Nat.reduceLeDiff, Nat.reduceLT, Nat.reduceSub, Nat.reduceEqDiff]
    refine aops_bsl0 rfl ?_
    simp only [eES, eEX, Nat.reduceBEq, Int.reduceLE, Int.reduceLT, Int.reduceToNat, Int.reduceEq, ↓reduceIte, reduceCtorEq, Nat.reducePow, Nat.reduceAdd, Nat.reduceLeDiff, Nat.reduceLT, Nat.reduceSub, Nat.reduceEqDiff]
    refine aops_app (site := 5) (g := 1) (xs := []) (ys := xs) rfl rfl rfl rfl rfl h (by simp [maxLen]; omega) (by simp; omega) ?_
    simp only [eES, eEX, Nat.reduceBEq, Int.reduceLE, Int.reduceLT, Int.reduceToNat, Int.reduceEq, ↓reduceIte, reduceCtorEq, Nat.reducePow, Nat.reduceAdd, Nat.reduceLeDiff, Nat.reduceLT, Nat.reduceSub, Nat.reduceEqDiff]
    refine awp_give (l := 0) (site := 5) (g := 2) (o := 0) (n := xs.length) (q := false) (sz := 14) (xs := xs) (by simp only [Nat.zero_add, eES, eEX, Nat.reduceBEq, Int.reduceLE, Int.reduceLT, Int.reduceToNat, Int.reduceEq, ↓reduceIte, reduceCtorEq, Nat.reducePow, Nat.reduceAdd, Nat.reduceLeDiff, Nat.reduceLT, Nat.reduceSub, Nat.reduceEqDiff]) (by simp only [eES, eEX, Nat.reduceBEq, Int.reduceLE, Int.reduceLT, Int.reduceToNat, Int.reduceEq, ↓reduceIte, reduceCtorEq, Nat.reducePow, Nat.reduceAdd, Nat.reduceLeDiff, Nat.reduceLT, Nat.reduceSub, Nat.reduceEqDiff]) (by simp) (by decide) hr ?_
    simp only [hng, o142, eES, eEX, Nat.reduceBEq, Int.reduceLE, Int.reduceLT, Int.reduceToNat, Int.reduceEq, ↓reduceIte, reduceCtorEq, Nat.reducePow, Nat.reduceAdd, Nat.reduceLeDiff, Nat.reduceLT, Nat.reduceSub, Nat.reduceEqDiff]
    simp [AV.still, AV.un, isV, vget]
  · intro he
    have hx : xs = [] := by
      rcases he with he | he
      · exact he
      · exact flat_nil0 (by decide) h he
    subst hx
    simp only [g142_2, eES, eEX, Nat.reduceBEq, Int.reduceLE, Int.reduceLT, Int.reduceToNat, Int.reduceEq, ↓reduceIte, reduceCtorEq, Nat.reducePow, Nat.reduceAdd, Nat.reduceLeDiff, Nat.reduceLT, Nat.reduceSub, Nat.reduceEqDiff]
    refine awp_vec (by simp only [eES, eEX, Nat.reduceBEq, Int.reduceLE, Int.reduceLT, Int.reduceToNat, Int.reduceEq, ↓reduceIte, reduceCtorEq, Nat.reducePow, Nat.reduceAdd, Nat.reduceLeDiff, Nat.reduceLT, Nat.reduceSub, Nat.reduceEqDiff]) rfl ?_
    simp only [eES, eEX, Nat.reduceBEq, Int.reduceLE, Int.reduceLT, Int.reduceToNat, Int.reduceEq, ↓reduceIte, reduceCtorEq, Nat.reducePow, Nat.reduceAdd, Nat.reduceLeDiff, Nat.reduceLT, Nat.reduceSub, Nat.reduceEqDiff]
    refine awp_give (l := 0) (site := 2) (g := 1) (o := 0) (n := 0) (q := false) (sz := 14) (xs := []) (by simp only [eES, eEX, Nat.reduceBEq, Int.reduceLE, Int.reduceLT, Int.reduceToNat, Int.reduceEq, ↓reduceIte, reduceCtorEq, Nat.reducePow, Nat.reduceAdd, Nat.reduceLeDiff, Nat.reduceLT, Nat.reduceSub, Nat.reduceEqDiff]) (by simp only [eES, eEX, Nat.reduceBEq, Int.reduceLE, Int.reduceLT, Int.reduceToNat, Int.reduceEq, ↓reduceIte, reduceCtorEq, Nat.reducePow, Nat.reduceAdd, Nat.reduceLeDiff, Nat.reduceLT, Nat.reduceSub, Nat.reduceEqDiff]) (by simp) (by decide) hr ?_
    simp only [hng, o142, eES, eEX, Nat.reduceBEq, Int.reduceLE, Int.reduceLT, Int.reduceToNat, Int.reduceEq, ↓reduceIte, reduceCtorEq, Nat.reducePow, Nat.reduceAdd, Nat.reduceLeDiff, Nat.reduceLT, Nat.reduceSub, Nat.reduceEqDiff]
    simp [AV.still, AV.un, isV, vget]

end Go.Proofs.YtdmbncmbkocjjaaGreat.Cl

/- What the run takes as done: clonings. -/
namespace Go.Proofs.YtdmbncmbkocjjaaGreat.Ev
open Go Am Rc Cl

def nat : Cal := fun k args m =>
  if k = 97 then cloned 4 args m
  else if k = 116 then cloned 8 args m
  else if k = 142 then cloned 14 args m
  else none

theorem nat_ok : CalOk Tryz.prog nat := by
  intro k args m v m' h
  unfold nat at h
  split at h
  · rename_i e; subst e; exact cloned_ok c97 h
  split at h
  · rename_i e; subst e; exact cloned_ok c116 h
  split at h
  · rename_i e; subst e; exact cloned_ok c142 h
  · cases h

end Go.Proofs.YtdmbncmbkocjjaaGreat.Ev

/- awake: by running it. -/
namespace Go.Proofs.YtdmbncmbkocjjaaGreat.Ev
open Go Am Rc Cl

theorem awake_run : evT nat tab 2000 8 [] = true := by decide +kernel

theorem awake_ok : Fn1 Tryz.prog 8 [] (.bool true) := fn1_of_evT nat_ok tab_ok awake_run

end Go.Proofs.YtdmbncmbkocjjaaGreat.Ev

/- The law of scalars. -/
set_option linter.unusedSimpArgs false
namespace Go.Proofs.YtdmbncmbkocjjaaGreat.Va
open Go Am Rc Bt Br Vp Up

theorem scl_form (E : List AV) (k t : Int) (f : R) : ∃ k2 b2 t2 e, scl E k t f = (sv k2 b2 t2, e) ∧ k2 < 10 := by
  unfold scl zv
  cases hk : isk k
  · exact ⟨0, 0, [], 12, by rw [if_neg (by decide)], by decide⟩
  · have hk' : k < 10 := by
      unfold isk at hk
      rw [Bool.and_eq_true, decide_eq_true_eq, decide_eq_true_eq] at hk
      omega
    (repeat' split) <;> first | exact ⟨_, _, _, _, rfl, hk'⟩ | exact ⟨_, _, _, _, rfl, by decide⟩

theorem scal_tail (G E : List AV) (hP : IsP G E) (hW : WfE E) (n : Int) (s a : List UInt8) (c y k t u : Int) (r : R) (hb : r.bits < 18446744073709551616) (hd : r.data.length + 8 ≤ maxLen) (f : Fr) (fr : Nat → Ob)
    (h3 : f 3 = .ptr 0 3 0) (m3 : fr 3 = .cells [.list G, .list E]) (h5 : f 5 = .ptr 0 5 0) (m5 : fr 5 = .cells [.int .i64 r.num, .int .i64 r.wire, .int .u64 (r.bits : Nat), .str r.data]) (h7 : f 7 = .ptr 0 7 0)
    (m7 : fr 7 = .cells [.int .i64 n, .str s, .str a, .int .i64 c, .int .i64 y, .int .i64 k, .int .i64 t, .int .i64 u]) (m8 : fr 8 = .none) (m10 : fr 10 = .none) :
    aops Tryz.prog g3_6 ⟨f, [fr], []⟩ (Kc Tryz.prog (.seq (.reg g3_7) (.seq (.reg g3_8) .ret)) (AEnds [.tmp 6] 0 fun x _ => x = .bool true) .normal) := by
  have k1 := x5 G E hP n s a c y k t u r hb
  have k2 := x6 G E hP n s a c y k t u r hb hW hd
  obtain ⟨k', b', t', e, hs, hk'⟩ := scl_form E k t r
  rw [hs] at k1 k2
  have hsame := x7 k' b' t' hk'
  simp only [pv, oc, R.av, sclv, sv] at k1 k2 hsame
  simp only [g3_0, g3_1, g3_2, g3_3, g3_4, g3_5, g3_6, g3_7, g3_8, r3, o3, h3, m3, h5, m5, h7, m7, m8, m10, eES, eEX, Nat.reduceBEq, Int.reduceLE, Int.reduceLT, Int.reduceToNat, Int.reduceEq, ↓reduceIte, reduceCtorEq, Nat.reducePow, Nat.reduceAdd, Nat.reduceLeDiff, Nat.reduceLT, Nat.reduceSub, Nat.reduceEqDiff]
  refine aops_call k1 rfl rfl rfl (.inl rfl) ?_
  simp only [h3, m3, h5, m5, h7, m7, m8, m10, splice, List.take_succ_cons, List.take_zero, List.drop_succ_cons, List.drop_zero, List.cons_append, List.nil_append, List.length_cons, List.length_nil, eES, eEX, Nat.reduceBEq, Int.reduceLE, Int.reduceLT, Int.reduceToNat, Int.reduceEq, ↓reduceIte, reduceCtorEq, Nat.reducePow, Nat.reduceAdd, Nat.reduceLeDiff, Nat.reduceLT, Nat.reduceSub, Nat.reduceEqDiff]
  refine aops_call k2 rfl rfl rfl (.inl rfl) ?_
  simp only [h3, m3, h5, m5, h7, m7, m8, m10, beq_self_eq_true, splice, List.take_succ_cons, List.take_zero, List.drop_succ_cons, List.drop_zero, List.cons_append, List.nil_append, List.length_cons, List.length_nil, eES, eEX, Nat.reduceBEq, Int.reduceLE, Int.reduceLT, Int.reduceToNat, Int.reduceEq, ↓reduceIte, reduceCtorEq, Nat.reducePow, Nat.reduceAdd, Nat.reduceLeDiff, Nat.reduceLT, Nat.reduceSub, Nat.reduceEqDiff]
  refine aops_call hsame rfl rfl rfl (.inl rfl) ?_
  simp only [eES, eEX, Nat.reduceBEq, Int.reduceLE, Int.reduceLT, Int.reduceToNat, Int.reduceEq, ↓reduceIte, reduceCtorEq, Nat.reducePow, Nat.reduceAdd, Nat.reduceLeDiff, Nat.reduceLT, Nat.reduceSub, Nat.reduceEqDiff]
  refine aops_call Ev.awake_ok rfl rfl rfl (.inl rfl) ?_
  simp only [eES, eEX, Nat.reduceBEq, Int.reduceLE, Int.reduceLT, Int.reduceToNat, Int.reduceEq, ↓reduceIte, reduceCtorEq, Nat.reducePow, Nat.reduceAdd, Nat.reduceLeDiff, Nat.reduceLT, Nat.reduceSub, Nat.reduceEqDiff]

theorem c3 (G E : List AV) (hP : IsP G E) (hW : WfE E) (q0 q1 : Int) (r : R) (hb : r.bits < 18446744073709551616) (hd : r.data.length + 8 ≤ maxLen) :
    Fn1 Tryz.prog 3 [pv G E, .agg [.int .i64 q0, .int .i64 q1], r.av] (.bool true) := by
  have ku := c4 G E hP
  simp only [pv] at ku
  refine fn1_of_awp (rc := r3) (rs := o3) Tryz.func3 rfl rfl Tryz.ntmps3 k3 q3 (by simp) ?_
  simp only [g3_0, g3_1, g3_2, g3_3, g3_4, g3_5, r3, o3, pv, R.av, eES, eEX, Nat.reduceBEq, Int.reduceLE, Int.reduceLT, Int.reduceToNat, Int.reduceEq, ↓reduceIte, reduceCtorEq, Nat.reducePow, Nat.reduceAdd, Nat.reduceLeDiff, Nat.reduceLT, Nat.reduceSub, Nat.reduceEqDiff]
  repeat' (first | (refine csel_of (fun h => ?_) (fun h => ?_) <;> simp only [h, eES, eEX, Nat.reduceBEq, Int.reduceLE, Int.reduceLT, Int.reduceToNat, Int.reduceEq, ↓reduceIte, reduceCtorEq, Nat.reducePow, Nat.reduceAdd, Nat.reduceLeDiff, Nat.reduceLT, Nat.reduceSub, Nat.reduceEqDiff]) | (refine gsel_t (fun h => ?_) (fun h => ?_) <;> simp only [h, updO, eES, eEX, Nat.reduceBEq, Int.reduceLE, Int.reduceLT, Int.reduceToNat, Int.reduceEq, ↓reduceIte, reduceCtorEq, Nat.reducePow, Nat.reduceAdd, Nat.reduceLeDiff, Nat.reduceLT, Nat.reduceSub, Nat.reduceEqDiff]) | (refine gsel_f (fun h => ?_) (fun h => ?_) <;> simp only [h, updO, eES, eEX, Nat.reduceBEq, Int.reduceLE, Int.reduceLT, Int.reduceToNat, Int.reduceEq, ↓reduceIte, reduceCtorEq, Nat.reducePow, Nat.reduceAdd, Nat.reduceLeDiff, Nat.reduceLT, Nat.reduceSub, Nat.reduceEqDiff]) | ((with_reducible apply aops_callR (k := 4) (R := RB)); (case h2 => exact fun _ h => h.rf); (case hy => rfl); (case h1 => rfl); (case hk => exact ku); rintro _ ⟨b, rfl⟩; cases b <;> simp only [eES, eEX, Nat.reduceBEq, Int.reduceLE, Int.reduceLT, Int.reduceToNat, Int.reduceEq, ↓reduceIte, reduceCtorEq, Nat.reducePow, Nat.reduceAdd, Nat.reduceLeDiff, Nat.reduceLT, Nat.reduceSub, Nat.reduceEqDiff]))
  have z0 : (0 ≤ (0 : Int)) = True := by simp
  have z1 : Int.toNat 0 = 0 := rfl
  have o0 : (0 ≤ (1 : Int)) = True := by simp
  have o1 : Int.toNat 1 = 1 := rfl
  by_cases a0 : 0 ≤ q0
  case neg =>
    have d0 : decide (q0 ≥ 0) = false := decide_eq_false (by omega)
    simp only [d0, z0, z1, o0, o1, aiaddr, Nat.zero_mul, Nat.one_mul, Nat.zero_add, Nat.add_zero, List.getElem?_cons_zero, List.getElem?_cons_succ, nneg, Int.toNat_natCast, eES, eEX, Nat.reduceBEq, Int.reduceLE, Int.reduceLT, Int.reduceToNat, Int.reduceEq, ↓reduceIte, reduceCtorEq, Nat.reducePow, Nat.reduceAdd, Nat.reduceLeDiff, Nat.reduceLT, Nat.reduceSub, Nat.reduceEqDiff]
    exact scal_tail G E hP hW 0 [] [] 0 0 0 0 0 r hb hd _ _ (by first | rfl | simp only [eES, eEX, Nat.reduceBEq, Int.reduceLE, Int.reduceLT, Int.reduceToNat, Int.reduceEq, ↓reduceIte, reduceCtorEq, Nat.reducePow, Nat.reduceAdd, Nat.reduceLeDiff, Nat.reduceLT, Nat.reduceSub, Nat.reduceEqDiff]) (by first | rfl | simp only [eES, eEX, Nat.reduceBEq, Int.reduceLE, Int.reduceLT, Int.reduceToNat, Int.reduceEq, ↓reduceIte, reduceCtorEq, Nat.reducePow, Nat.reduceAdd, Nat.reduceLeDiff, Nat.reduceLT, Nat.reduceSub, Nat.reduceEqDiff]) (by first | rfl | simp only [eES, eEX, Nat.reduceBEq, Int.reduceLE, Int.reduceLT, Int.reduceToNat, Int.reduceEq, ↓reduceIte, reduceCtorEq, Nat.reducePow, Nat.reduceAdd, Nat.reduceLeDiff, Nat.reduceLT, Nat.reduceSub, Nat.reduceEqDiff]) (by first | rfl | simp only [eES, eEX, Nat.reduceBEq, Int.reduceLE, Int.reduceLT, Int.reduceToNat, Int.reduceEq, ↓reduceIte, reduceCtorEq, Nat.reducePow, Nat.reduceAdd, Nat.reduceLeDiff, Nat.reduceLT, Nat.reduceSub, Nat.reduceEqDiff]) (by first | rfl | simp only [eES, eEX, Nat.reduceBEq, Int.reduceLE, Int.reduceLT, Int.reduceToNat, Int.reduceEq, ↓reduceIte, reduceCtorEq, Nat.reducePow, Nat.reduceAdd, Nat.reduceLeDiff, Nat.reduceLT, Nat.reduceSub, Nat.reduceEqDiff]) (by first | rfl | simp only [eES, eEX, Nat.reduceBEq, Int.reduceLE, Int.reduceLT, Int.reduceToNat, Int.reduceEq, ↓reduceIte, reduceCtorEq, Nat.reducePow, Nat.reduceAdd, Nat.reduceLeDiff, Nat.reduceLT, Nat.reduceSub, Nat.reduceEqDiff]) (by first | rfl | simp only [eES, eEX, Nat.reduceBEq, Int.reduceLE, Int.reduceLT, Int.reduceToNat, Int.reduceEq, ↓reduceIte, reduceCtorEq, Nat.reducePow, Nat.reduceAdd, Nat.reduceLeDiff, Nat.reduceLT, Nat.reduceSub, Nat.reduceEqDiff]) (by first | rfl | simp only [eES, eEX, Nat.reduceBEq, Int.reduceLE, Int.reduceLT, Int.reduceToNat, Int.reduceEq, ↓reduceIte, reduceCtorEq, Nat.reducePow, Nat.reduceAdd, Nat.reduceLeDiff, Nat.reduceLT, Nat.reduceSub, Nat.reduceEqDiff])
  obtain ⟨i0, rfl⟩ := Int.eq_ofNat_of_zero_le a0
  have d0 : decide ((i0 : Int) ≥ 0) = true := decide_eq_true (by omega)
  by_cases a1 : i0 < G.length
  case neg =>
    simp only [d0, lt_f a1, z0, z1, o0, o1, aiaddr, Nat.zero_mul, Nat.one_mul, Nat.zero_add, Nat.add_zero, List.getElem?_cons_zero, List.getElem?_cons_succ, nneg, Int.toNat_natCast, eES, eEX, Nat.reduceBEq, Int.reduceLE, Int.reduceLT, Int.reduceToNat, Int.reduceEq, ↓reduceIte, reduceCtorEq, Nat.reducePow, Nat.reduceAdd, Nat.reduceLeDiff, Nat.reduceLT, Nat.reduceSub, Nat.reduceEqDiff]
    exact scal_tail G E hP hW 0 [] [] 0 0 0 0 0 r hb hd _ _ (by first | rfl | simp only [eES, eEX, Nat.reduceBEq, Int.reduceLE, Int.reduceLT, Int.reduceToNat, Int.reduceEq, ↓reduceIte, reduceCtorEq, Nat.reducePow, Nat.reduceAdd, Nat.reduceLeDiff, Nat.reduceLT, Nat.reduceSub, Nat.reduceEqDiff]) (by first | rfl | simp only [eES, eEX, Nat.reduceBEq, Int.reduceLE, Int.reduceLT, Int.reduceToNat, Int.reduceEq, ↓reduceIte, reduceCtorEq, Nat.reducePow, Nat.reduceAdd, Nat.reduceLeDiff, Nat.reduceLT, Nat.reduceSub, Nat.reduceEqDiff]) (by first | rfl | simp only [eES, eEX, Nat.reduceBEq, Int.reduceLE, Int.reduceLT, Int.reduceToNat, Int.reduceEq, ↓reduceIte, reduceCtorEq, Nat.reducePow, Nat.reduceAdd, Nat.reduceLeDiff, Nat.reduceLT, Nat.reduceSub, Nat.reduceEqDiff]) (by first | rfl | simp only [eES, eEX, Nat.reduceBEq, Int.reduceLE, Int.reduceLT, Int.reduceToNat, Int.reduceEq, ↓reduceIte, reduceCtorEq, Nat.reducePow, Nat.reduceAdd, Nat.reduceLeDiff, Nat.reduceLT, Nat.reduceSub, Nat.reduceEqDiff]) (by first | rfl | simp only [eES, eEX, Nat.reduceBEq, Int.reduceLE, Int.reduceLT, Int.reduceToNat, Int.reduceEq, ↓reduceIte, reduceCtorEq, Nat.reducePow, Nat.reduceAdd, Nat.reduceLeDiff, Nat.reduceLT, Nat.reduceSub, Nat.reduceEqDiff]) (by first | rfl | simp only [eES, eEX, Nat.reduceBEq, Int.reduceLE, Int.reduceLT, Int.reduceToNat, Int.reduceEq, ↓reduceIte, reduceCtorEq, Nat.reducePow, Nat.reduceAdd, Nat.reduceLeDiff, Nat.reduceLT, Nat.reduceSub, Nat.reduceEqDiff]) (by first | rfl | simp only [eES, eEX, Nat.reduceBEq, Int.reduceLE, Int.reduceLT, Int.reduceToNat, Int.reduceEq, ↓reduceIte, reduceCtorEq, Nat.reducePow, Nat.reduceAdd, Nat.reduceLeDiff, Nat.reduceLT, Nat.reduceSub, Nat.reduceEqDiff]) (by first | rfl | simp only [eES, eEX, Nat.reduceBEq, Int.reduceLE, Int.reduceLT, Int.reduceToNat, Int.reduceEq, ↓reduceIte, reduceCtorEq, Nat.reducePow, Nat.reduceAdd, Nat.reduceLeDiff, Nat.reduceLT, Nat.reduceSub, Nat.reduceEqDiff])
  obtain ⟨_, hc, s, L, u, rfl, hs, hL, hO⟩ := getE hP.g a1
  by_cases b0 : 0 ≤ q1
  case neg =>
    have d1 : decide (q1 ≥ 0) = false := decide_eq_false (by omega)
    simp only [d0, d1, lt_t a1, z0, z1, o0, o1, aiaddr, Nat.zero_mul, Nat.one_mul, Nat.zero_add, Nat.add_zero, List.getElem?_cons_zero, List.getElem?_cons_succ, nneg, Int.toNat_natCast, eES, eEX, Nat.reduceBEq, Int.reduceLE, Int.reduceLT, Int.reduceToNat, Int.reduceEq, ↓reduceIte, reduceCtorEq, Nat.reducePow, Nat.reduceAdd, Nat.reduceLeDiff, Nat.reduceLT, Nat.reduceSub, Nat.reduceEqDiff]
    exact scal_tail G E hP hW 0 [] [] 0 0 0 0 0 r hb hd _ _ (by first | rfl | simp only [eES, eEX, Nat.reduceBEq, Int.reduceLE, Int.reduceLT, Int.reduceToNat, Int.reduceEq, ↓reduceIte, reduceCtorEq, Nat.reducePow, Nat.reduceAdd, Nat.reduceLeDiff, Nat.reduceLT, Nat.reduceSub, Nat.reduceEqDiff]) (by first | rfl | simp only [eES, eEX, Nat.reduceBEq, Int.reduceLE, Int.reduceLT, Int.reduceToNat, Int.reduceEq, ↓reduceIte, reduceCtorEq, Nat.reducePow, Nat.reduceAdd, Nat.reduceLeDiff, Nat.reduceLT, Nat.reduceSub, Nat.reduceEqDiff]) (by first | rfl | simp only [eES, eEX, Nat.reduceBEq, Int.reduceLE, Int.reduceLT, Int.reduceToNat, Int.reduceEq, ↓reduceIte, reduceCtorEq, Nat.reducePow, Nat.reduceAdd, Nat.reduceLeDiff, Nat.reduceLT, Nat.reduceSub, Nat.reduceEqDiff]) (by first | rfl | simp only [eES, eEX, Nat.reduceBEq, Int.reduceLE, Int.reduceLT, Int.reduceToNat, Int.reduceEq, ↓reduceIte, reduceCtorEq, Nat.reducePow, Nat.reduceAdd, Nat.reduceLeDiff, Nat.reduceLT, Nat.reduceSub, Nat.reduceEqDiff]) (by first | rfl | simp only [eES, eEX, Nat.reduceBEq, Int.reduceLE, Int.reduceLT, Int.reduceToNat, Int.reduceEq, ↓reduceIte, reduceCtorEq, Nat.reducePow, Nat.reduceAdd, Nat.reduceLeDiff, Nat.reduceLT, Nat.reduceSub, Nat.reduceEqDiff]) (by first | rfl | simp only [eES, eEX, Nat.reduceBEq, Int.reduceLE, Int.reduceLT, Int.reduceToNat, Int.reduceEq, ↓reduceIte, reduceCtorEq, Nat.reducePow, Nat.reduceAdd, Nat.reduceLeDiff, Nat.reduceLT, Nat.reduceSub, Nat.reduceEqDiff]) (by first | rfl | simp only [eES, eEX, Nat.reduceBEq, Int.reduceLE, Int.reduceLT, Int.reduceToNat, Int.reduceEq, ↓reduceIte, reduceCtorEq, Nat.reducePow, Nat.reduceAdd, Nat.reduceLeDiff, Nat.reduceLT, Nat.reduceSub, Nat.reduceEqDiff]) (by first | rfl | simp only [eES, eEX, Nat.reduceBEq, Int.reduceLE, Int.reduceLT, Int.reduceToNat, Int.reduceEq, ↓reduceIte, reduceCtorEq, Nat.reducePow, Nat.reduceAdd, Nat.reduceLeDiff, Nat.reduceLT, Nat.reduceSub, Nat.reduceEqDiff])
  obtain ⟨i1, rfl⟩ := Int.eq_ofNat_of_zero_le b0
  have d1 : decide ((i1 : Int) ≥ 0) = true := decide_eq_true (by omega)
  by_cases b1 : i1 < L.length
  case neg =>
    simp only [d0, d1, lt_t a1, lt_f b1, hc, z0, z1, o0, o1, aiaddr, Nat.zero_mul, Nat.one_mul, Nat.zero_add, Nat.add_zero, List.getElem?_cons_zero, List.getElem?_cons_succ, nneg, Int.toNat_natCast, eES, eEX, Nat.reduceBEq, Int.reduceLE, Int.reduceLT, Int.reduceToNat, Int.reduceEq, ↓reduceIte, reduceCtorEq, Nat.reducePow, Nat.reduceAdd, Nat.reduceLeDiff, Nat.reduceLT, Nat.reduceSub, Nat.reduceEqDiff]
    exact scal_tail G E hP hW 0 [] [] 0 0 0 0 0 r hb hd _ _ (by first | rfl | simp only [eES, eEX, Nat.reduceBEq, Int.reduceLE, Int.reduceLT, Int.reduceToNat, Int.reduceEq, ↓reduceIte, reduceCtorEq, Nat.reducePow, Nat.reduceAdd, Nat.reduceLeDiff, Nat.reduceLT, Nat.reduceSub, Nat.reduceEqDiff]) (by first | rfl | simp only [eES, eEX, Nat.reduceBEq, Int.reduceLE, Int.reduceLT, Int.reduceToNat, Int.reduceEq, ↓reduceIte, reduceCtorEq, Nat.reducePow, Nat.reduceAdd, Nat.reduceLeDiff, Nat.reduceLT, Nat.reduceSub, Nat.reduceEqDiff]) (by first | rfl | simp only [eES, eEX, Nat.reduceBEq, Int.reduceLE, Int.reduceLT, Int.reduceToNat, Int.reduceEq, ↓reduceIte, reduceCtorEq, Nat.reducePow, Nat.reduceAdd, Nat.reduceLeDiff, Nat.reduceLT, Nat.reduceSub, Nat.reduceEqDiff]) (by first | rfl | simp only [eES, eEX, Nat.reduceBEq, Int.reduceLE, Int.reduceLT, Int.reduceToNat, Int.reduceEq, ↓reduceIte, reduceCtorEq, Nat.reducePow, Nat.reduceAdd, Nat.reduceLeDiff, Nat.reduceLT, Nat.reduceSub, Nat.reduceEqDiff]) (by first | rfl | simp only [eES, eEX, Nat.reduceBEq, Int.reduceLE, Int.reduceLT, Int.reduceToNat, Int.reduceEq, ↓reduceIte, reduceCtorEq, Nat.reducePow, Nat.reduceAdd, Nat.reduceLeDiff, Nat.reduceLT, Nat.reduceSub, Nat.reduceEqDiff]) (by first | rfl | simp only [eES, eEX, Nat.reduceBEq, Int.reduceLE, Int.reduceLT, Int.reduceToNat, Int.reduceEq, ↓reduceIte, reduceCtorEq, Nat.reducePow, Nat.reduceAdd, Nat.reduceLeDiff, Nat.reduceLT, Nat.reduceSub, Nat.reduceEqDiff]) (by first | rfl | simp only [eES, eEX, Nat.reduceBEq, Int.reduceLE, Int.reduceLT, Int.reduceToNat, Int.reduceEq, ↓reduceIte, reduceCtorEq, Nat.reducePow, Nat.reduceAdd, Nat.reduceLeDiff, Nat.reduceLT, Nat.reduceSub, Nat.reduceEqDiff]) (by first | rfl | simp only [eES, eEX, Nat.reduceBEq, Int.reduceLE, Int.reduceLT, Int.reduceToNat, Int.reduceEq, ↓reduceIte, reduceCtorEq, Nat.reducePow, Nat.reduceAdd, Nat.reduceLeDiff, Nat.reduceLT, Nat.reduceSub, Nat.reduceEqDiff])
  obtain ⟨_, hc2, o, ho, rfl⟩ := getE hO b1
  simp only [d0, d1, lt_t a1, lt_t b1, hc, hc2, PO.cells, z0, z1, o0, o1, aiaddr, Nat.zero_mul, Nat.one_mul, Nat.zero_add, Nat.add_zero, List.getElem?_cons_zero, List.getElem?_cons_succ, nneg, Int.toNat_natCast, splice, List.take_succ_cons, List.take_zero, List.drop_succ_cons, List.drop_zero, List.cons_append, List.nil_append, List.length_cons, List.length_nil, eES, eEX, Nat.reduceBEq, Int.reduceLE, Int.reduceLT, Int.reduceToNat, Int.reduceEq, ↓reduceIte, reduceCtorEq, Nat.reducePow, Nat.reduceAdd, Nat.reduceLeDiff, Nat.reduceLT, Nat.reduceSub, Nat.reduceEqDiff]
  exact scal_tail G E hP hW o.num o.name o.alias o.card o.key o.kind o.target o.union r hb hd _ _ (by first | rfl | simp only [eES, eEX, Nat.reduceBEq, Int.reduceLE, Int.reduceLT, Int.reduceToNat, Int.reduceEq, ↓reduceIte, reduceCtorEq, Nat.reducePow, Nat.reduceAdd, Nat.reduceLeDiff, Nat.reduceLT, Nat.reduceSub, Nat.reduceEqDiff]) (by first | rfl | simp only [eES, eEX, Nat.reduceBEq, Int.reduceLE, Int.reduceLT, Int.reduceToNat, Int.reduceEq, ↓reduceIte, reduceCtorEq, Nat.reducePow, Nat.reduceAdd, Nat.reduceLeDiff, Nat.reduceLT, Nat.reduceSub, Nat.reduceEqDiff]) (by first | rfl | simp only [eES, eEX, Nat.reduceBEq, Int.reduceLE, Int.reduceLT, Int.reduceToNat, Int.reduceEq, ↓reduceIte, reduceCtorEq, Nat.reducePow, Nat.reduceAdd, Nat.reduceLeDiff, Nat.reduceLT, Nat.reduceSub, Nat.reduceEqDiff]) (by first | rfl | simp only [eES, eEX, Nat.reduceBEq, Int.reduceLE, Int.reduceLT, Int.reduceToNat, Int.reduceEq, ↓reduceIte, reduceCtorEq, Nat.reducePow, Nat.reduceAdd, Nat.reduceLeDiff, Nat.reduceLT, Nat.reduceSub, Nat.reduceEqDiff]) (by first | rfl | simp only [eES, eEX, Nat.reduceBEq, Int.reduceLE, Int.reduceLT, Int.reduceToNat, Int.reduceEq, ↓reduceIte, reduceCtorEq, Nat.reducePow, Nat.reduceAdd, Nat.reduceLeDiff, Nat.reduceLT, Nat.reduceSub, Nat.reduceEqDiff]) (by first | rfl | simp only [eES, eEX, Nat.reduceBEq, Int.reduceLE, Int.reduceLT, Int.reduceToNat, Int.reduceEq, ↓reduceIte, reduceCtorEq, Nat.reducePow, Nat.reduceAdd, Nat.reduceLeDiff, Nat.reduceLT, Nat.reduceSub, Nat.reduceEqDiff]) (by first | rfl | simp only [eES, eEX, Nat.reduceBEq, Int.reduceLE, Int.reduceLT, Int.reduceToNat, Int.reduceEq, ↓reduceIte, reduceCtorEq, Nat.reducePow, Nat.reduceAdd, Nat.reduceLeDiff, Nat.reduceLT, Nat.reduceSub, Nat.reduceEqDiff]) (by first | rfl | simp only [eES, eEX, Nat.reduceBEq, Int.reduceLE, Int.reduceLT, Int.reduceToNat, Int.reduceEq, ↓reduceIte, reduceCtorEq, Nat.reducePow, Nat.reduceAdd, Nat.reduceLeDiff, Nat.reduceLT, Nat.reduceSub, Nat.reduceEqDiff])

end Go.Proofs.YtdmbncmbkocjjaaGreat.Va

/- An argument that is an array of two numbers: opened and shut. -/
namespace Go.Proofs.YtdmbncmbkocjjaaGreat.Br
open Go Am Go.RowKit Go.WideShapes Go.ChangeShapes Go.ChangeAt

section
variable {H : Type} {enc : TypeId × Value → H} {P : Program} {W : World} {base : Nat} {sp : Nat → Bool} {held : Bool}

theorem open_pair {t e : TypeId} {k : IntKind} {r : Reach} {b0 : Nat} {v : Value} {d : DataW H} {ps : List MemPlace} (ht : P.underlying t = some (.array 2 e)) (he : P.underlying e = some (.int k)) (hc : P.cellsOf e = 1) (hct : P.cellsOf t = 2)
    (hval : Value.okWide P W r b0 t v) (hd : DataW.Trod enc P W base sp held t v d ps) :
    ∃ a b : Int, v = .agg #[.int k a, .int k b] ∧ d = .agg [.lit (.int k a), .lit (.int k b)] ∧ ps = [] ∧ (Lit.int k a).wf = true ∧ (Lit.int k b).wf = true := by
  simp only [Value.okWide, ht] at hval
  obtain ⟨cs, rfl, h2, _⟩ := hval
  obtain ⟨fuel, hf⟩ := hd
  cases fuel with
  | zero => simp [DataW.trod] at hf
  | succ m =>
    rw [DataW.trod_step] at hf
    unfold DataW.trodStep at hf
    simp only [ht, Value.cells, hc] at hf
    rw [hct] at h2
    obtain ⟨l⟩ := cs
    obtain ⟨x, y, rfl⟩ : ∃ x y, l = [x, y] := by
      match l, h2 with
      | [x, y], _ => exact ⟨x, y, rfl⟩
    rw [if_pos (by rw [hct]; rfl)] at hf
    simp only [Option.map_eq_some_iff] at hf
    obtain ⟨ys, hy, e1⟩ := hf
    rw [show List.range 2 = [0, 1] from rfl] at hy
    simp only [List.mapM_cons, List.mapM_nil, bind, pure, Option.bind_eq_some_iff, Option.some.injEq] at hy
    obtain ⟨z0, hz0, z1, ⟨z2, hz2, z3, h3, rfl⟩, rfl⟩ := hy
    subst h3
    obtain ⟨a, ea, rfl, wa⟩ := DataW.trod_int he hz0
    obtain ⟨b, eb, rfl, wb⟩ := DataW.trod_int he hz2
    simp only [Prod.mk.injEq] at e1
    simp at ea eb
    subst ea eb
    exact ⟨a, b, rfl, by rw [← e1.1]; rfl, by rw [← e1.2]; rfl, wa, wb⟩

theorem shut_pair {t e : TypeId} {k : IntKind} {a b : Int} (ht : P.underlying t = some (.array 2 e)) (he : P.underlying e = some (.int k)) (hc : P.cellsOf e = 1) (hct : P.cellsOf t = 2)
    (wa : (Lit.int k a).wf = true) (wb : (Lit.int k b).wf = true) : DataW.Trod enc P W base sp held t (.agg #[.int k a, .int k b]) (.agg [.lit (.int k a), .lit (.int k b)]) [] := by
  have h : ∀ n : Int, (Lit.int k n).wf = true → DataW.trod enc P W base sp held 1 e [.int k n] = some (.lit (.int k n), []) := fun n hn => by simp [DataW.trod, he, hn]
  refine ⟨2, ?_⟩
  rw [DataW.trod_step]
  unfold DataW.trodStep
  simp only [ht, Value.cells, hc]
  rw [if_pos (by rw [hct]; rfl), show List.range 2 = [0, 1] from rfl]
  simp [h a wa, h b wb]

theorem okWide_pair_rep {G : Gh} {k : IntKind} {a b : Int} : Rep G (.agg [.int k a, .int k b]) (.agg #[.int k a, .int k b]) := .agg (.cons (.int _ _) (.cons (.int _ _) .nil))

end

end Go.Proofs.YtdmbncmbkocjjaaGreat.Br

/- A plan as the law's argument. -/
namespace Go.Proofs.YtdmbncmbkocjjaaGreat.Va
open Go Am Rc Bt Br Vp Up

theorem isPW {p : PL} (h : p.ok BM) : ∃ G E, IsP G E ∧ WfE E ∧ p.av = pv G E := by
  obtain ⟨G, E, hP, e⟩ := PL.isP h
  refine ⟨G, E, hP, ?_, e⟩
  have hE : E = p.enums.map fun n => .agg n.cells := by
    simp only [PL.av, pv, AV.agg.injEq, List.cons.injEq, AV.list.injEq, and_true] at e
    exact e.2.symm
  subst hE
  intro x hx y hy
  obtain ⟨g, hg, rfl⟩ := List.mem_map.1 hx
  have hy : y ∈ g.items.map fun n => AV.agg n.cells := hy
  obtain ⟨o, ho, rfl⟩ := List.mem_map.1 hy
  have := ((h.enums g hg).items o ho).num
  exact ⟨i64_lo this, i64_hi this⟩

end Go.Proofs.YtdmbncmbkocjjaaGreat.Va

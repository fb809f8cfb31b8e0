/- Parts of the proof, in order. -/
import Derived.Test.YtdmbncmbkocjjaaGreatMTagdecScalars3

/- Full names, as the specification examines them. -/
set_option linter.unusedSimpArgs false
namespace Go.Proofs.YtdmbncmbkocjjaaGreat.Va
open Go Am Rc Bt Br

theorem c53 (s : List UInt8) (hs : s.length ≤ maxLen) : Fn? Tryz.prog 53 [.str s] RB := by
  refine fnR_of_awp (rc := r53) (rs := o53) Tryz.func53 rfl rfl Tryz.ntmps53 k53 q53 (by simp) ?_
  simp only [g53_0, g53_1, r53, o53, eES, eEX, Nat.reduceBEq, Int.reduceLE, Int.reduceLT, Int.reduceToNat, Int.reduceEq, ↓reduceIte, reduceCtorEq, Nat.reducePow, Nat.reduceAdd, Nat.reduceLeDiff, Nat.reduceLT, Nat.reduceSub, Nat.reduceEqDiff]
  repeat' (first | (refine csel_of (fun h => ?_) (fun h => ?_) <;> simp only [h, rb, eES, eEX, Nat.reduceBEq, Int.reduceLE, Int.reduceLT, Int.reduceToNat, Int.reduceEq, ↓reduceIte, reduceCtorEq, Nat.reducePow, Nat.reduceAdd, Nat.reduceLeDiff, Nat.reduceLT, Nat.reduceSub, Nat.reduceEqDiff]) | (refine gsel_t (fun h => ?_) (fun h => ?_) <;> simp only [h, updO, rb, eES, eEX, Nat.reduceBEq, Int.reduceLE, Int.reduceLT, Int.reduceToNat, Int.reduceEq, ↓reduceIte, reduceCtorEq, Nat.reducePow, Nat.reduceAdd, Nat.reduceLeDiff, Nat.reduceLT, Nat.reduceSub, Nat.reduceEqDiff]) | (refine gsel_f (fun h => ?_) (fun h => ?_) <;> simp only [h, updO, rb, eES, eEX, Nat.reduceBEq, Int.reduceLE, Int.reduceLT, Int.reduceToNat, Int.reduceEq, ↓reduceIte, reduceCtorEq, Nat.reducePow, Nat.reduceAdd, Nat.reduceLeDiff, Nat.reduceLT, Nat.reduceSub, Nat.reduceEqDiff]) | ((with_reducible apply aops_callR (k := 81) (R := RB)); (case h2 => exact fun _ h => h.rf); (case hy => rfl); (case h1 => rfl); (case hk => exact c81 _ hs); rintro _ ⟨b, rfl⟩; cases b <;> simp only [rb, eES, eEX, Nat.reduceBEq, Int.reduceLE, Int.reduceLT, Int.reduceToNat, Int.reduceEq, ↓reduceIte, reduceCtorEq, Nat.reducePow, Nat.reduceAdd, Nat.reduceLeDiff, Nat.reduceLT, Nat.reduceSub, Nat.reduceEqDiff]) | ((with_reducible apply aops_callR (k := 80) (R := RB)); (case h2 => exact fun _ h => h.rf); (case hy => rfl); (case h1 => rfl); (case hk => exact c80 _); rintro _ ⟨b, rfl⟩; cases b <;> simp only [rb, eES, eEX, Nat.reduceBEq, Int.reduceLE, Int.reduceLT, Int.reduceToNat, Int.reduceEq, ↓reduceIte, reduceCtorEq, Nat.reducePow, Nat.reduceAdd, Nat.reduceLeDiff, Nat.reduceLT, Nat.reduceSub, Nat.reduceEqDiff]))

def FullI (s : List UInt8) (k : Nat) (st : St) : Prop :=
  ∃ f i p, st = ⟨f, [noObs], []⟩ ∧ k = s.length - i ∧ p.length ≤ i ∧ i ≤ s.length ∧ f 0 = .str s ∧ f 3 = .str p ∧ f 4 = .int .i64 (i : Nat)

theorem c78 (s : List UInt8) (hs : s.length ≤ maxLen) : Fn? Tryz.prog 78 [.str s] RB := by
  refine fnR_of_awp (rc := r78) (rs := o78) Tryz.func78 rfl rfl Tryz.ntmps78 k78 q78 (by simp) ?_
  simp only [g78_0, g78_1, g78_2, g78_3, g78_4, g78_5, g78_7, g78_8, g78_9, g78_10, g78_11, g78_6, g78_12, r78, o78, eES, eEX, Nat.reduceBEq, Int.reduceLE, Int.reduceLT, Int.reduceToNat, Int.reduceEq, ↓reduceIte, reduceCtorEq, Nat.reducePow, Nat.reduceAdd, Nat.reduceLeDiff, Nat.reduceLT, Nat.reduceSub, Nat.reduceEqDiff]
  refine csel_of (fun h => ?_) (fun h => ?_)
  · simp only [rb, eES, eEX, Nat.reduceBEq, Int.reduceLE, Int.reduceLT, Int.reduceToNat, Int.reduceEq, ↓reduceIte, reduceCtorEq, Nat.reducePow, Nat.reduceAdd, Nat.reduceLeDiff, Nat.reduceLT, Nat.reduceSub, Nat.reduceEqDiff]
  have hs2 : s.length ≤ 120 := by simp at h; omega
  simp only [eES, eEX, Nat.reduceBEq, Int.reduceLE, Int.reduceLT, Int.reduceToNat, Int.reduceEq, ↓reduceIte, reduceCtorEq, Nat.reducePow, Nat.reduceAdd, Nat.reduceLeDiff, Nat.reduceLT, Nat.reduceSub, Nat.reduceEqDiff]
  refine awp_loop (FullI s) _ ⟨_, 0, [], rfl, rfl, Nat.le_refl _, Nat.zero_le _, rfl, rfl, rfl⟩ ?_
  rintro n st ⟨f, i, p, rfl, rfl, hp, hi, h0, h3, h4⟩
  simp only [l78_0, g78_0, g78_1, g78_2, g78_3, g78_4, g78_5, g78_7, g78_8, g78_9, g78_10, g78_11, g78_6, g78_12, r78, o78, h0, h3, h4, eES, eEX, Nat.reduceBEq, Int.reduceLE, Int.reduceLT, Int.reduceToNat, Int.reduceEq, ↓reduceIte, reduceCtorEq, Nat.reducePow, Nat.reduceAdd, Nat.reduceLeDiff, Nat.reduceLT, Nat.reduceSub, Nat.reduceEqDiff]
  by_cases hlt : i < s.length
  · obtain ⟨c, hc⟩ : ∃ c, s[i]? = some c := ⟨s[i], List.getElem?_eq_getElem hlt⟩
    have e1 := wi64_s i _ hlt hs
    simp only [lt_t hlt, nneg, Int.toNat_natCast, hc, h0, h3, h4, eES, eEX, Nat.reduceBEq, Int.reduceLE, Int.reduceLT, Int.reduceToNat, Int.reduceEq, ↓reduceIte, reduceCtorEq, Nat.reducePow, Nat.reduceAdd, Nat.reduceLeDiff, Nat.reduceLT, Nat.reduceSub, Nat.reduceEqDiff]
    have fin : ∀ (f' : Fr) q, q.length ≤ i + 1 → f' 0 = .str s → f' 3 = .str q → f' 4 = .int .i64 ((i + 1 : Nat) : Int) → ∃ k, k < s.length - i ∧ FullI s k ⟨f', [noObs], []⟩ := by
      intro f' q hq g0 g3 g4
      exact ⟨s.length - (i + 1), by omega, _, i + 1, q, rfl, rfl, hq, by omega, g0, g3, g4⟩
    refine csel_of (fun h => ?_) (fun h => ?_) <;> simp only [h0, h3, h4, eES, eEX, Nat.reduceBEq, Int.reduceLE, Int.reduceLT, Int.reduceToNat, Int.reduceEq, ↓reduceIte, reduceCtorEq, Nat.reducePow, Nat.reduceAdd, Nat.reduceLeDiff, Nat.reduceLT, Nat.reduceSub, Nat.reduceEqDiff]
    · have s1 : (i ≤ i + 1 ∧ i + 1 ≤ s.length) = True := by simp; omega
      have hq : (p ++ List.take (i + 1 - i) (List.drop i s)).length ≤ i + 1 := by simp; omega
      have ad : astr .add p (List.take (i + 1 - i) (List.drop i s)) = some (.str (p ++ List.take (i + 1 - i) (List.drop i s))) := by
        simp only [astr]
        rw [if_pos (by simp; omega)]
      simp only [nneg, e1, s1, Int.toNat_natCast, ad, eES, eEX, Nat.reduceBEq, Int.reduceLE, Int.reduceLT, Int.reduceToNat, Int.reduceEq, ↓reduceIte, reduceCtorEq, Nat.reducePow, Nat.reduceAdd, Nat.reduceLeDiff, Nat.reduceLT, Nat.reduceSub, Nat.reduceEqDiff]
      exact fin _ _ hq (by first | exact h0 | simp only [h0, eES, eEX, Nat.reduceBEq, Int.reduceLE, Int.reduceLT, Int.reduceToNat, Int.reduceEq, ↓reduceIte, reduceCtorEq, Nat.reducePow, Nat.reduceAdd, Nat.reduceLeDiff, Nat.reduceLT, Nat.reduceSub, Nat.reduceEqDiff]) (by first | rfl | simp only [eES, eEX, Nat.reduceBEq, Int.reduceLE, Int.reduceLT, Int.reduceToNat, Int.reduceEq, ↓reduceIte, reduceCtorEq, Nat.reducePow, Nat.reduceAdd, Nat.reduceLeDiff, Nat.reduceLT, Nat.reduceSub, Nat.reduceEqDiff]) (by first | rfl | simp only [eES, eEX, Nat.reduceBEq, Int.reduceLE, Int.reduceLT, Int.reduceToNat, Int.reduceEq, ↓reduceIte, reduceCtorEq, Nat.reducePow, Nat.reduceAdd, Nat.reduceLeDiff, Nat.reduceLT, Nat.reduceSub, Nat.reduceEqDiff])
    · repeat' (first | (refine csel_of (fun h => ?_) (fun h => ?_) <;> simp only [h, nneg, Int.toNat_natCast, hc, h0, h3, h4, e1, rb, eES, eEX, Nat.reduceBEq, Int.reduceLE, Int.reduceLT, Int.reduceToNat, Int.reduceEq, ↓reduceIte, reduceCtorEq, Nat.reducePow, Nat.reduceAdd, Nat.reduceLeDiff, Nat.reduceLT, Nat.reduceSub, Nat.reduceEqDiff]) | (refine gsel_t (fun h => ?_) (fun h => ?_) <;> simp only [h, updO, nneg, Int.toNat_natCast, hc, h0, h3, h4, e1, rb, eES, eEX, Nat.reduceBEq, Int.reduceLE, Int.reduceLT, Int.reduceToNat, Int.reduceEq, ↓reduceIte, reduceCtorEq, Nat.reducePow, Nat.reduceAdd, Nat.reduceLeDiff, Nat.reduceLT, Nat.reduceSub, Nat.reduceEqDiff]) | (refine gsel_f (fun h => ?_) (fun h => ?_) <;> simp only [h, updO, nneg, Int.toNat_natCast, hc, h0, h3, h4, e1, rb, eES, eEX, Nat.reduceBEq, Int.reduceLE, Int.reduceLT, Int.reduceToNat, Int.reduceEq, ↓reduceIte, reduceCtorEq, Nat.reducePow, Nat.reduceAdd, Nat.reduceLeDiff, Nat.reduceLT, Nat.reduceSub, Nat.reduceEqDiff]) | ((with_reducible apply aops_callR (k := 81) (R := RB)); (case h2 => exact fun _ h => h.rf); (case hy => rfl); (case h1 => rfl); (case hk => exact c81 _ (by simp only [maxLen]; omega)); rintro _ ⟨b, rfl⟩; cases b <;> simp only [nneg, Int.toNat_natCast, hc, h0, h3, h4, e1, rb, eES, eEX, Nat.reduceBEq, Int.reduceLE, Int.reduceLT, Int.reduceToNat, Int.reduceEq, ↓reduceIte, reduceCtorEq, Nat.reducePow, Nat.reduceAdd, Nat.reduceLeDiff, Nat.reduceLT, Nat.reduceSub, Nat.reduceEqDiff]))
      exact fin _ [] (by simp) (by first | exact h0 | simp only [h0, eES, eEX, Nat.reduceBEq, Int.reduceLE, Int.reduceLT, Int.reduceToNat, Int.reduceEq, ↓reduceIte, reduceCtorEq, Nat.reducePow, Nat.reduceAdd, Nat.reduceLeDiff, Nat.reduceLT, Nat.reduceSub, Nat.reduceEqDiff]) (by first | rfl | simp only [eES, eEX, Nat.reduceBEq, Int.reduceLE, Int.reduceLT, Int.reduceToNat, Int.reduceEq, ↓reduceIte, reduceCtorEq, Nat.reducePow, Nat.reduceAdd, Nat.reduceLeDiff, Nat.reduceLT, Nat.reduceSub, Nat.reduceEqDiff]) (by first | rfl | simp only [eES, eEX, Nat.reduceBEq, Int.reduceLE, Int.reduceLT, Int.reduceToNat, Int.reduceEq, ↓reduceIte, reduceCtorEq, Nat.reducePow, Nat.reduceAdd, Nat.reduceLeDiff, Nat.reduceLT, Nat.reduceSub, Nat.reduceEqDiff])
  · simp only [lt_f hlt, h0, h3, h4, eES, eEX, Nat.reduceBEq, Int.reduceLE, Int.reduceLT, Int.reduceToNat, Int.reduceEq, ↓reduceIte, reduceCtorEq, Nat.reducePow, Nat.reduceAdd, Nat.reduceLeDiff, Nat.reduceLT, Nat.reduceSub, Nat.reduceEqDiff]
    repeat' (first | (refine csel_of (fun h => ?_) (fun h => ?_) <;> simp only [h, h0, h3, h4, rb, eES, eEX, Nat.reduceBEq, Int.reduceLE, Int.reduceLT, Int.reduceToNat, Int.reduceEq, ↓reduceIte, reduceCtorEq, Nat.reducePow, Nat.reduceAdd, Nat.reduceLeDiff, Nat.reduceLT, Nat.reduceSub, Nat.reduceEqDiff]) | (refine gsel_t (fun h => ?_) (fun h => ?_) <;> simp only [h, updO, h0, h3, h4, rb, eES, eEX, Nat.reduceBEq, Int.reduceLE, Int.reduceLT, Int.reduceToNat, Int.reduceEq, ↓reduceIte, reduceCtorEq, Nat.reducePow, Nat.reduceAdd, Nat.reduceLeDiff, Nat.reduceLT, Nat.reduceSub, Nat.reduceEqDiff]) | (refine gsel_f (fun h => ?_) (fun h => ?_) <;> simp only [h, updO, h0, h3, h4, rb, eES, eEX, Nat.reduceBEq, Int.reduceLE, Int.reduceLT, Int.reduceToNat, Int.reduceEq, ↓reduceIte, reduceCtorEq, Nat.reducePow, Nat.reduceAdd, Nat.reduceLeDiff, Nat.reduceLT, Nat.reduceSub, Nat.reduceEqDiff]) | ((with_reducible apply aops_callR (k := 81) (R := RB)); (case h2 => exact fun _ h => h.rf); (case hy => rfl); (case h1 => rfl); (case hk => exact c81 _ (by simp only [maxLen]; omega)); rintro _ ⟨b, rfl⟩; cases b <;> simp only [h0, h3, h4, rb, eES, eEX, Nat.reduceBEq, Int.reduceLE, Int.reduceLT, Int.reduceToNat, Int.reduceEq, ↓reduceIte, reduceCtorEq, Nat.reducePow, Nat.reduceAdd, Nat.reduceLeDiff, Nat.reduceLT, Nat.reduceSub, Nat.reduceEqDiff]))

/-- Two texts, the first one shorter. -/
def RS (s : List UInt8) (v : AV) : Prop := ∃ a b, v = .tup [.str a, .str b] ∧ a.length ≤ s.length ∧ b.length ≤ s.length ∧ (s ≠ [] → a.length < s.length)
theorem RS.rf {s : List UInt8} {v : AV} {l : List AV} (h : RS s v) : v.rf = true ∧ (AV.rfL l = true ∨ v.nl = true) := by
  obtain ⟨a, b, rfl, _⟩ := h
  exact ⟨rfl, .inr rfl⟩

def SplitI (s : List UInt8) (k : Nat) (st : St) : Prop :=
  ∃ f, st = ⟨f, [noObs], []⟩ ∧ k ≤ s.length ∧ f 0 = .str s ∧ f 4 = .int .i64 ((k : Int) - 1)

theorem c79 (s : List UInt8) (hs : s.length ≤ maxLen) : Fn? Tryz.prog 79 [.str s] (RS s) := by
  refine fnR_of_awp (rc := r79) (rs := o79) Tryz.func79 rfl rfl Tryz.ntmps79 k79 q79 (by simp) ?_
  have e0 : IntKind.i64.wrap ((s.length : Int) - 1) = (s.length : Int) - 1 := by simp only [maxLen] at hs; rw [wi64]; omega
  simp only [g79_0, g79_1, g79_2, g79_4, g79_5, g79_3, g79_6, r79, o79, e0, eES, eEX, Nat.reduceBEq, Int.reduceLE, Int.reduceLT, Int.reduceToNat, Int.reduceEq, ↓reduceIte, reduceCtorEq, Nat.reducePow, Nat.reduceAdd, Nat.reduceLeDiff, Nat.reduceLT, Nat.reduceSub, Nat.reduceEqDiff]
  refine awp_loop (SplitI s) _ ⟨_, rfl, Nat.le_refl _, rfl, rfl⟩ ?_
  rintro n st ⟨f, rfl, hn, h0, h4⟩
  simp only [l79_0, g79_0, g79_1, g79_2, g79_4, g79_5, g79_3, g79_6, r79, o79, h0, h4, eES, eEX, Nat.reduceBEq, Int.reduceLE, Int.reduceLT, Int.reduceToNat, Int.reduceEq, ↓reduceIte, reduceCtorEq, Nat.reducePow, Nat.reduceAdd, Nat.reduceLeDiff, Nat.reduceLT, Nat.reduceSub, Nat.reduceEqDiff]
  cases n with
  | zero =>
    have d0 : decide (((0 : Nat) : Int) - 1 ≥ 0) = false := rfl
    simp only [d0, h0, h4, eES, eEX, Nat.reduceBEq, Int.reduceLE, Int.reduceLT, Int.reduceToNat, Int.reduceEq, ↓reduceIte, reduceCtorEq, Nat.reducePow, Nat.reduceAdd, Nat.reduceLeDiff, Nat.reduceLT, Nat.reduceSub, Nat.reduceEqDiff]
    exact ⟨[], s, rfl, Nat.zero_le _, Nat.le_refl _, fun h => by cases s <;> simp at h ⊢⟩
  | succ k =>
    have e1 : ((k + 1 : Nat) : Int) - 1 = (k : Int) := by omega
    obtain ⟨c, hc⟩ : ∃ c, s[k]? = some c := ⟨s[k], List.getElem?_eq_getElem (by omega)⟩
    have d0 : decide ((k : Int) ≥ 0) = true := by simp
    have e2 := wi64_s k _ hn hs
    have e3 : IntKind.i64.wrap ((k : Int) - 1) = (k : Int) - 1 := by simp only [maxLen] at hs; rw [wi64]; omega
    have s1 : (0 ≤ k ∧ k ≤ s.length) = True := by simp; omega
    have s2 : (k + 1 ≤ s.length ∧ s.length ≤ s.length) = True := by simp; omega
    simp only [e1] at h4
    simp only [e1, d0, nneg, Int.toNat_natCast, hc, h0, h4, eES, eEX, Nat.reduceBEq, Int.reduceLE, Int.reduceLT, Int.reduceToNat, Int.reduceEq, ↓reduceIte, reduceCtorEq, Nat.reducePow, Nat.reduceAdd, Nat.reduceLeDiff, Nat.reduceLT, Nat.reduceSub, Nat.reduceEqDiff]
    refine csel_of (fun h => ?_) (fun h => ?_) <;> simp only [nneg, Int.toNat_natCast, hc, h0, h4, e2, e3, s1, s2, eES, eEX, Nat.reduceBEq, Int.reduceLE, Int.reduceLT, Int.reduceToNat, Int.reduceEq, ↓reduceIte, reduceCtorEq, Nat.reducePow, Nat.reduceAdd, Nat.reduceLeDiff, Nat.reduceLT, Nat.reduceSub, Nat.reduceEqDiff]
    · exact ⟨_, _, rfl, by simp; omega, by simp, fun _ => by simp; omega⟩
    · exact ⟨k, by omega, _, rfl, by omega, by first | exact h0 | simp only [h0, eES, eEX, Nat.reduceBEq, Int.reduceLE, Int.reduceLT, Int.reduceToNat, Int.reduceEq, ↓reduceIte, reduceCtorEq, Nat.reducePow, Nat.reduceAdd, Nat.reduceLeDiff, Nat.reduceLT, Nat.reduceSub, Nat.reduceEqDiff], by first | rfl | simp only [eES, eEX, Nat.reduceBEq, Int.reduceLE, Int.reduceLT, Int.reduceToNat, Int.reduceEq, ↓reduceIte, reduceCtorEq, Nat.reducePow, Nat.reduceAdd, Nat.reduceLeDiff, Nat.reduceLT, Nat.reduceSub, Nat.reduceEqDiff]⟩

def DefI (s : List UInt8) (k : Nat) (st : St) : Prop :=
  ∃ f t, st = ⟨f, [noObs], []⟩ ∧ k = t.length ∧ t.length ≤ s.length ∧ f 0 = .str t

theorem c52 (s : List UInt8) (hs : s.length ≤ maxLen) : Fn? Tryz.prog 52 [.str s] RB := by
  refine fnR_of_awp (rc := r52) (rs := o52) Tryz.func52 rfl rfl Tryz.ntmps52 k52 q52 (by simp) ?_
  simp only [g52_0, g52_1, g52_2, g52_3, g52_4, g52_5, g52_6, g52_7, g52_8, r52, o52, eES, eEX, Nat.reduceBEq, Int.reduceLE, Int.reduceLT, Int.reduceToNat, Int.reduceEq, ↓reduceIte, reduceCtorEq, Nat.reducePow, Nat.reduceAdd, Nat.reduceLeDiff, Nat.reduceLT, Nat.reduceSub, Nat.reduceEqDiff]
  repeat' (first | (refine csel_of (fun h => ?_) (fun h => ?_) <;> simp only [h, rb, eES, eEX, Nat.reduceBEq, Int.reduceLE, Int.reduceLT, Int.reduceToNat, Int.reduceEq, ↓reduceIte, reduceCtorEq, Nat.reducePow, Nat.reduceAdd, Nat.reduceLeDiff, Nat.reduceLT, Nat.reduceSub, Nat.reduceEqDiff]) | (refine gsel_t (fun h => ?_) (fun h => ?_) <;> simp only [h, updO, rb, eES, eEX, Nat.reduceBEq, Int.reduceLE, Int.reduceLT, Int.reduceToNat, Int.reduceEq, ↓reduceIte, reduceCtorEq, Nat.reducePow, Nat.reduceAdd, Nat.reduceLeDiff, Nat.reduceLT, Nat.reduceSub, Nat.reduceEqDiff]) | (refine gsel_f (fun h => ?_) (fun h => ?_) <;> simp only [h, updO, rb, eES, eEX, Nat.reduceBEq, Int.reduceLE, Int.reduceLT, Int.reduceToNat, Int.reduceEq, ↓reduceIte, reduceCtorEq, Nat.reducePow, Nat.reduceAdd, Nat.reduceLeDiff, Nat.reduceLT, Nat.reduceSub, Nat.reduceEqDiff]) | ((with_reducible apply aops_callR (k := 78) (R := RB)); (case h2 => exact fun _ h => h.rf); (case hy => rfl); (case h1 => rfl); (case hk => exact c78 _ hs); rintro _ ⟨b, rfl⟩; cases b <;> simp only [rb, eES, eEX, Nat.reduceBEq, Int.reduceLE, Int.reduceLT, Int.reduceToNat, Int.reduceEq, ↓reduceIte, reduceCtorEq, Nat.reducePow, Nat.reduceAdd, Nat.reduceLeDiff, Nat.reduceLT, Nat.reduceSub, Nat.reduceEqDiff]))
  all_goals try simp only [rb, eES, eEX, Nat.reduceBEq, Int.reduceLE, Int.reduceLT, Int.reduceToNat, Int.reduceEq, ↓reduceIte, reduceCtorEq, Nat.reducePow, Nat.reduceAdd, Nat.reduceLeDiff, Nat.reduceLT, Nat.reduceSub, Nat.reduceEqDiff]
  refine awp_loop (DefI s) _ ⟨_, s, rfl, rfl, Nat.le_refl _, rfl⟩ ?_
  rintro n st ⟨f, t, rfl, rfl, ht, h0⟩
  simp only [l52_0, g52_0, g52_1, g52_2, g52_3, g52_4, g52_5, g52_6, g52_7, g52_8, r52, o52, h0, eES, eEX, Nat.reduceBEq, Int.reduceLE, Int.reduceLT, Int.reduceToNat, Int.reduceEq, ↓reduceIte, reduceCtorEq, Nat.reducePow, Nat.reduceAdd, Nat.reduceLeDiff, Nat.reduceLT, Nat.reduceSub, Nat.reduceEqDiff]
  by_cases hn : t = []
  · subst hn
    have a0 : astr .neq [] [] = some (.bool false) := rfl
    simp only [a0, h0, rb, eES, eEX, Nat.reduceBEq, Int.reduceLE, Int.reduceLT, Int.reduceToNat, Int.reduceEq, ↓reduceIte, reduceCtorEq, Nat.reducePow, Nat.reduceAdd, Nat.reduceLeDiff, Nat.reduceLT, Nat.reduceSub, Nat.reduceEqDiff]
  · have a0 : astr .neq t [] = some (.bool true) := by simp [astr, hn]
    simp only [a0, h0, rb, eES, eEX, Nat.reduceBEq, Int.reduceLE, Int.reduceLT, Int.reduceToNat, Int.reduceEq, ↓reduceIte, reduceCtorEq, Nat.reducePow, Nat.reduceAdd, Nat.reduceLeDiff, Nat.reduceLT, Nat.reduceSub, Nat.reduceEqDiff]
    (with_reducible apply aops_callR (k := 79) (R := RS t))
    (case h2 => exact fun _ h => h.rf)
    (case hy => rfl)
    (case h1 => rfl)
    (case hk => exact c79 _ (by omega))
    rintro _ ⟨a, b, rfl, ha, hb, hab⟩
    have := hab hn
    simp only [h0, rb, eES, eEX, Nat.reduceBEq, Int.reduceLE, Int.reduceLT, Int.reduceToNat, Int.reduceEq, ↓reduceIte, reduceCtorEq, Nat.reducePow, Nat.reduceAdd, Nat.reduceLeDiff, Nat.reduceLT, Nat.reduceSub, Nat.reduceEqDiff]
    repeat' (first | (refine csel_of (fun h => ?_) (fun h => ?_) <;> simp only [h, h0, rb, eES, eEX, Nat.reduceBEq, Int.reduceLE, Int.reduceLT, Int.reduceToNat, Int.reduceEq, ↓reduceIte, reduceCtorEq, Nat.reducePow, Nat.reduceAdd, Nat.reduceLeDiff, Nat.reduceLT, Nat.reduceSub, Nat.reduceEqDiff]) | (refine gsel_t (fun h => ?_) (fun h => ?_) <;> simp only [h, updO, h0, rb, eES, eEX, Nat.reduceBEq, Int.reduceLE, Int.reduceLT, Int.reduceToNat, Int.reduceEq, ↓reduceIte, reduceCtorEq, Nat.reducePow, Nat.reduceAdd, Nat.reduceLeDiff, Nat.reduceLT, Nat.reduceSub, Nat.reduceEqDiff]) | (refine gsel_f (fun h => ?_) (fun h => ?_) <;> simp only [h, updO, h0, rb, eES, eEX, Nat.reduceBEq, Int.reduceLE, Int.reduceLT, Int.reduceToNat, Int.reduceEq, ↓reduceIte, reduceCtorEq, Nat.reducePow, Nat.reduceAdd, Nat.reduceLeDiff, Nat.reduceLT, Nat.reduceSub, Nat.reduceEqDiff]) | ((with_reducible apply aops_callR (k := 80) (R := RB)); (case h2 => exact fun _ h => h.rf); (case hy => rfl); (case h1 => rfl); (case hk => exact c80 _); rintro _ ⟨b, rfl⟩; cases b <;> simp only [h0, rb, eES, eEX, Nat.reduceBEq, Int.reduceLE, Int.reduceLT, Int.reduceToNat, Int.reduceEq, ↓reduceIte, reduceCtorEq, Nat.reducePow, Nat.reduceAdd, Nat.reduceLeDiff, Nat.reduceLT, Nat.reduceSub, Nat.reduceEqDiff]))
    exact ⟨a.length, by omega, _, a, rfl, rfl, by omega, by first | rfl | simp only [eES, eEX, Nat.reduceBEq, Int.reduceLE, Int.reduceLT, Int.reduceToNat, Int.reduceEq, ↓reduceIte, reduceCtorEq, Nat.reducePow, Nat.reduceAdd, Nat.reduceLeDiff, Nat.reduceLT, Nat.reduceSub, Nat.reduceEqDiff]⟩

/-- An element of a list, of which something is known. -/
theorem getE {p : AV → Prop} {L : List AV} (h : ∀ x ∈ L, p x) {i : Nat} (hi : i < L.length) : ∃ x, L[i]? = some x ∧ p x :=
  ⟨L[i], List.getElem?_eq_getElem hi, h _ (List.getElem_mem hi)⟩

def IsS (x : AV) : Prop := ∃ y : PS, y.ok ∧ x = .agg y.cells

def ResI (L : List AV) (k : Nat) (st : St) : Prop :=
  ∃ f i n, st = ⟨f, [noObs], []⟩ ∧ k = L.length - i ∧ f 0 = .list L ∧ f 1 = .int .i64 n ∧ f 5 = .int .i64 (i : Nat)

theorem c54 (L : List AV) (n : Int) (hl : L.length ≤ maxLen) (hL : ∀ x ∈ L, IsS x) : Fn? Tryz.prog 54 [.list L, .int .i64 n] RB := by
  refine fnR_of_awp (rc := r54) (rs := o54) Tryz.func54 rfl rfl Tryz.ntmps54 k54 q54 (by simp) ?_
  simp only [g54_0, g54_1, g54_2, g54_4, g54_5, g54_3, g54_6, r54, o54, eES, eEX, Nat.reduceBEq, Int.reduceLE, Int.reduceLT, Int.reduceToNat, Int.reduceEq, ↓reduceIte, reduceCtorEq, Nat.reducePow, Nat.reduceAdd, Nat.reduceLeDiff, Nat.reduceLT, Nat.reduceSub, Nat.reduceEqDiff]
  refine awp_loop (ResI L) _ ⟨_, 0, n, rfl, rfl, rfl, rfl, rfl⟩ ?_
  rintro _ st ⟨f, i, n, rfl, rfl, h0, h1, h5⟩
  simp only [l54_0, g54_0, g54_1, g54_2, g54_4, g54_5, g54_3, g54_6, r54, o54, h0, h1, h5, eES, eEX, Nat.reduceBEq, Int.reduceLE, Int.reduceLT, Int.reduceToNat, Int.reduceEq, ↓reduceIte, reduceCtorEq, Nat.reducePow, Nat.reduceAdd, Nat.reduceLeDiff, Nat.reduceLT, Nat.reduceSub, Nat.reduceEqDiff]
  by_cases hlt : i < L.length
  · obtain ⟨_, hc, y, _, rfl⟩ := getE hL hlt
    have e1 := wi64_s i _ hlt hl
    simp only [lt_t hlt, nneg, Int.toNat_natCast, aiaddr, hc, PS.cells, h0, h1, h5, e1, rb, eES, eEX, Nat.reduceBEq, Int.reduceLE, Int.reduceLT, Int.reduceToNat, Int.reduceEq, ↓reduceIte, reduceCtorEq, Nat.reducePow, Nat.reduceAdd, Nat.reduceLeDiff, Nat.reduceLT, Nat.reduceSub, Nat.reduceEqDiff]
    repeat' (first | (refine csel_of (fun h => ?_) (fun h => ?_) <;> simp only [h, nneg, Int.toNat_natCast, aiaddr, hc, PS.cells, h0, h1, h5, e1, rb, eES, eEX, Nat.reduceBEq, Int.reduceLE, Int.reduceLT, Int.reduceToNat, Int.reduceEq, ↓reduceIte, reduceCtorEq, Nat.reducePow, Nat.reduceAdd, Nat.reduceLeDiff, Nat.reduceLT, Nat.reduceSub, Nat.reduceEqDiff]) | (refine gsel_t (fun h => ?_) (fun h => ?_) <;> simp only [h, updO, nneg, Int.toNat_natCast, aiaddr, hc, PS.cells, h0, h1, h5, e1, rb, eES, eEX, Nat.reduceBEq, Int.reduceLE, Int.reduceLT, Int.reduceToNat, Int.reduceEq, ↓reduceIte, reduceCtorEq, Nat.reducePow, Nat.reduceAdd, Nat.reduceLeDiff, Nat.reduceLT, Nat.reduceSub, Nat.reduceEqDiff]) | (refine gsel_f (fun h => ?_) (fun h => ?_) <;> simp only [h, updO, nneg, Int.toNat_natCast, aiaddr, hc, PS.cells, h0, h1, h5, e1, rb, eES, eEX, Nat.reduceBEq, Int.reduceLE, Int.reduceLT, Int.reduceToNat, Int.reduceEq, ↓reduceIte, reduceCtorEq, Nat.reducePow, Nat.reduceAdd, Nat.reduceLeDiff, Nat.reduceLT, Nat.reduceSub, Nat.reduceEqDiff]))
    all_goals exact ⟨L.length - (i + 1), by omega, _, i + 1, n, rfl, rfl, by first | exact h0 | simp only [h0, eES, eEX, Nat.reduceBEq, Int.reduceLE, Int.reduceLT, Int.reduceToNat, Int.reduceEq, ↓reduceIte, reduceCtorEq, Nat.reducePow, Nat.reduceAdd, Nat.reduceLeDiff, Nat.reduceLT, Nat.reduceSub, Nat.reduceEqDiff], by first | exact h1 | simp only [h1, eES, eEX, Nat.reduceBEq, Int.reduceLE, Int.reduceLT, Int.reduceToNat, Int.reduceEq, ↓reduceIte, reduceCtorEq, Nat.reducePow, Nat.reduceAdd, Nat.reduceLeDiff, Nat.reduceLT, Nat.reduceSub, Nat.reduceEqDiff], by first | rfl | simp only [eES, eEX, Nat.reduceBEq, Int.reduceLE, Int.reduceLT, Int.reduceToNat, Int.reduceEq, ↓reduceIte, reduceCtorEq, Nat.reducePow, Nat.reduceAdd, Nat.reduceLeDiff, Nat.reduceLT, Nat.reduceSub, Nat.reduceEqDiff]⟩
  · simp only [lt_f hlt, h0, h1, h5, rb, eES, eEX, Nat.reduceBEq, Int.reduceLE, Int.reduceLT, Int.reduceToNat, Int.reduceEq, ↓reduceIte, reduceCtorEq, Nat.reducePow, Nat.reduceAdd, Nat.reduceLeDiff, Nat.reduceLT, Nat.reduceSub, Nat.reduceEqDiff]

end Go.Proofs.YtdmbncmbkocjjaaGreat.Va

/- Plans, as the specification examines them: limits, names. -/
set_option linter.unusedSimpArgs false
namespace Go.Proofs.YtdmbncmbkocjjaaGreat.Va
open Go Am Rc Bt Br

/-- How long a text of an argument may be. -/
def BM : Nat := 1048576
theorem bm {n : Nat} (h : n ≤ BM) : n ≤ maxLen := Nat.le_trans h (by decide)
theorem bm8 {n : Nat} (h : n ≤ BM) : n + 8 ≤ maxLen := by simp only [BM, maxLen] at *; omega

/-- A value's cells, what is in its lists aside. -/
def V0 (cs : List AV) : Prop := ∃ k b t l p s r, cs = [.int .i64 k, .int .u64 b, .str t, .list l, .list p, .list s, .list r] ∧ t.length ≤ BM

theorem has_v0 {k : Nat} {cs : List AV} (h : Has Tryz.prog BM k 41 cs) : V0 cs := by
  obtain ⟨k, h⟩ := has_struct Tryz.underlying41 h
  simp only [Has.HasL] at h
  obtain ⟨_, _, rfl, h0, _, _, rfl, h1, _, _, rfl, h2, _, _, rfl, h3, _, _, rfl, h4, _, _, rfl, h5, _, _, rfl, h6, rfl⟩ := h
  obtain ⟨a0, rfl, w0⟩ := has_int Tryz.underlying3 h0
  obtain ⟨a1, rfl, w1⟩ := has_int Tryz.underlying27 h1
  obtain ⟨a2, rfl, w2⟩ := has_str Tryz.underlying9 h2
  obtain ⟨k3, l3, rfl, w3, hl3⟩ := has_slice Tryz.underlying36 h3
  obtain ⟨k4, l4, rfl, w4, hl4⟩ := has_slice Tryz.underlying37 h4
  obtain ⟨k5, l5, rfl, w5, hl5⟩ := has_slice Tryz.underlying38 h5
  obtain ⟨k6, l6, rfl, w6, hl6⟩ := has_slice Tryz.underlying39 h6
  exact ⟨_, _, _, _, _, _, _, rfl, w2⟩

def IsO (x : AV) : Prop := ∃ y : PO, y.ok BM ∧ x = .agg y.cells
def IsN (x : AV) : Prop := ∃ s cs, x = .agg (.str s :: cs) ∧ s.length ≤ maxLen ∧ V0 cs

theorem isN_of {n : PN} (h : n.ok Tryz.prog BM 41) : IsN (elemV n.cells) := by
  obtain ⟨k, hk⟩ := h.2
  have h0 := has_v0 hk
  refine ⟨n.name, n.val, ?_, bm h.1, h0⟩
  obtain ⟨_, _, _, _, _, _, _, e, _⟩ := h0
  rw [PN.cells, e]
  rfl

def IsI (x : AV) : Prop := ∃ s n L, x = .agg [.str s, .int .i64 n, .list L] ∧ s.length ≤ maxLen ∧ L.length ≤ maxLen ∧ ∀ y ∈ L, IsN y
def IsG (x : AV) : Prop := ∃ s L u, x = .agg [.str s, .list L, .int .i64 u] ∧ s.length ≤ maxLen ∧ L.length ≤ maxLen ∧ ∀ y ∈ L, IsO y
def IsE (x : AV) : Prop := ∃ s b L M K, x = .agg [.str s, .bool b, .list L, .list M, .list K] ∧ s.length ≤ maxLen ∧ L.length ≤ maxLen ∧ (∀ y ∈ L, IsI y) ∧ M.length ≤ maxLen ∧ (∀ y ∈ M, IsS y) ∧ K.length ≤ maxLen ∧ ∀ y ∈ K, IsN y

structure IsP (G E : List AV) : Prop where
  lg : G.length ≤ maxLen
  g : ∀ x ∈ G, IsG x
  le : E.length ≤ maxLen
  e : ∀ x ∈ E, IsE x

/-- A plan. -/
def pv (G E : List AV) : AV := .agg [.list G, .list E]

theorem PL.isP {p : PL} (h : p.ok BM) : ∃ G E, IsP G E ∧ p.av = pv G E := by
  refine ⟨p.progs.map fun n => .agg n.cells, p.enums.map fun n => .agg n.cells, ⟨by simpa using h.len1, ?_, by simpa using h.len2, ?_⟩, rfl⟩
  · intro x hx
    obtain ⟨g, hg, rfl⟩ := List.mem_map.1 hx
    have hk := h.progs g hg
    refine ⟨_, _, _, rfl, bm hk.name, by simpa using hk.len, ?_⟩
    intro y hy
    obtain ⟨o, ho, rfl⟩ := List.mem_map.1 hy
    exact ⟨o, hk.ops o ho, rfl⟩
  · intro x hx
    obtain ⟨g, hg, rfl⟩ := List.mem_map.1 hx
    have hk := h.enums g hg
    refine ⟨_, _, _, _, _, rfl, bm hk.name, by simpa using hk.len1, ?_, by simpa using hk.len2, ?_, by simpa using hk.len3, ?_⟩
    · intro y hy
      obtain ⟨o, ho, rfl⟩ := List.mem_map.1 hy
      have hi := hk.items o ho
      refine ⟨_, _, _, rfl, bm hi.name, by simpa using hi.len, ?_⟩
      intro z hz
      obtain ⟨n, hn, rfl⟩ := List.mem_map.1 hz
      exact isN_of (hi.notes n hn)
    · intro y hy
      obtain ⟨o, ho, rfl⟩ := List.mem_map.1 hy
      exact ⟨o, hk.free o ho, rfl⟩
    · intro y hy
      obtain ⟨o, ho, rfl⟩ := List.mem_map.1 hy
      exact isN_of (hk.notes o ho)

/-- A loop over a list of the plan that is box 1: i in slot c, the answer so far in slot a. -/
def LoI (G E L : List AV) (a c : Nat) (k : Nat) (st : St) : Prop :=
  ∃ f fr i b, st = ⟨f, [fr], []⟩ ∧ k = L.length - i ∧ f 1 = .ptr 0 1 0 ∧ fr 1 = .cells [.list G, .list E] ∧ f a = .bool b ∧ f c = .int .i64 (i : Nat)

theorem c28 (G E : List AV) (hP : IsP G E) : Fn? Tryz.prog 28 [pv G E] RB := by
  refine fnR_of_awp (rc := r28) (rs := o28) Tryz.func28 rfl rfl Tryz.ntmps28 k28 q28 (by simp) ?_
  simp only [g28_0, g28_1, g28_2, g28_3, g28_5, g28_4, g28_6, g28_7, g28_9, g28_10, g28_8, g28_11, r28, o28, pv, eES, eEX, Nat.reduceBEq, Int.reduceLE, Int.reduceLT, Int.reduceToNat, Int.reduceEq, ↓reduceIte, reduceCtorEq, Nat.reducePow, Nat.reduceAdd, Nat.reduceLeDiff, Nat.reduceLT, Nat.reduceSub, Nat.reduceEqDiff]
  repeat' (first | (refine csel_of (fun h => ?_) (fun h => ?_) <;> simp only [h, rb, eES, eEX, Nat.reduceBEq, Int.reduceLE, Int.reduceLT, Int.reduceToNat, Int.reduceEq, ↓reduceIte, reduceCtorEq, Nat.reducePow, Nat.reduceAdd, Nat.reduceLeDiff, Nat.reduceLT, Nat.reduceSub, Nat.reduceEqDiff]) | (refine gsel_t (fun h => ?_) (fun h => ?_) <;> simp only [h, updO, rb, eES, eEX, Nat.reduceBEq, Int.reduceLE, Int.reduceLT, Int.reduceToNat, Int.reduceEq, ↓reduceIte, reduceCtorEq, Nat.reducePow, Nat.reduceAdd, Nat.reduceLeDiff, Nat.reduceLT, Nat.reduceSub, Nat.reduceEqDiff]) | (refine gsel_f (fun h => ?_) (fun h => ?_) <;> simp only [h, updO, rb, eES, eEX, Nat.reduceBEq, Int.reduceLE, Int.reduceLT, Int.reduceToNat, Int.reduceEq, ↓reduceIte, reduceCtorEq, Nat.reducePow, Nat.reduceAdd, Nat.reduceLeDiff, Nat.reduceLT, Nat.reduceSub, Nat.reduceEqDiff]))
  all_goals
    refine awp_loop (LoI G E G 3 4) _ ⟨_, _, 0, _, rfl, rfl, rfl, rfl, rfl, rfl⟩ ?_
    rintro _ st ⟨f, fr, i, b, rfl, rfl, h1, m1, h3, h4⟩
    simp only [l28_0, l28_1, g28_0, g28_1, g28_2, g28_3, g28_5, g28_4, g28_6, g28_7, g28_9, g28_10, g28_8, g28_11, r28, o28, h1, m1, h3, h4, eES, eEX, Nat.reduceBEq, Int.reduceLE, Int.reduceLT, Int.reduceToNat, Int.reduceEq, ↓reduceIte, reduceCtorEq, Nat.reducePow, Nat.reduceAdd, Nat.reduceLeDiff, Nat.reduceLT, Nat.reduceSub, Nat.reduceEqDiff]
    by_cases hlt : i < G.length
    · obtain ⟨_, hc, s, L, u, rfl, hs, hL, hO⟩ := getE hP.g hlt
      have e1 := wi64_s i _ hlt hP.lg
      cases b <;> simp only [lt_t hlt, nneg, Int.toNat_natCast, aiaddr, hc, h1, m1, h3, h4, e1, rb, eES, eEX, Nat.reduceBEq, Int.reduceLE, Int.reduceLT, Int.reduceToNat, Int.reduceEq, ↓reduceIte, reduceCtorEq, Nat.reducePow, Nat.reduceAdd, Nat.reduceLeDiff, Nat.reduceLT, Nat.reduceSub, Nat.reduceEqDiff]
      all_goals exact ⟨G.length - (i + 1), by omega, _, _, i + 1, _, rfl, rfl, (by first | rfl | exact h1 | simp only [h1, eES, eEX, Nat.reduceBEq, Int.reduceLE, Int.reduceLT, Int.reduceToNat, Int.reduceEq, ↓reduceIte, reduceCtorEq, Nat.reducePow, Nat.reduceAdd, Nat.reduceLeDiff, Nat.reduceLT, Nat.reduceSub, Nat.reduceEqDiff]), (by first | rfl | exact m1 | simp only [m1, eES, eEX, Nat.reduceBEq, Int.reduceLE, Int.reduceLT, Int.reduceToNat, Int.reduceEq, ↓reduceIte, reduceCtorEq, Nat.reducePow, Nat.reduceAdd, Nat.reduceLeDiff, Nat.reduceLT, Nat.reduceSub, Nat.reduceEqDiff]), (by first | rfl | simp only [eES, eEX, Nat.reduceBEq, Int.reduceLE, Int.reduceLT, Int.reduceToNat, Int.reduceEq, ↓reduceIte, reduceCtorEq, Nat.reducePow, Nat.reduceAdd, Nat.reduceLeDiff, Nat.reduceLT, Nat.reduceSub, Nat.reduceEqDiff]), (by first | rfl | simp only [eES, eEX, Nat.reduceBEq, Int.reduceLE, Int.reduceLT, Int.reduceToNat, Int.reduceEq, ↓reduceIte, reduceCtorEq, Nat.reducePow, Nat.reduceAdd, Nat.reduceLeDiff, Nat.reduceLT, Nat.reduceSub, Nat.reduceEqDiff])⟩
    · simp only [lt_f hlt, h1, m1, h3, h4, rb, eES, eEX, Nat.reduceBEq, Int.reduceLE, Int.reduceLT, Int.reduceToNat, Int.reduceEq, ↓reduceIte, reduceCtorEq, Nat.reducePow, Nat.reduceAdd, Nat.reduceLeDiff, Nat.reduceLT, Nat.reduceSub, Nat.reduceEqDiff]
      refine awp_loop (LoI G E E 3 5) _ ⟨_, _, 0, b, rfl, rfl, (by first | rfl | exact h1 | simp only [h1, eES, eEX, Nat.reduceBEq, Int.reduceLE, Int.reduceLT, Int.reduceToNat, Int.reduceEq, ↓reduceIte, reduceCtorEq, Nat.reducePow, Nat.reduceAdd, Nat.reduceLeDiff, Nat.reduceLT, Nat.reduceSub, Nat.reduceEqDiff]), (by first | rfl | exact m1 | simp only [m1, eES, eEX, Nat.reduceBEq, Int.reduceLE, Int.reduceLT, Int.reduceToNat, Int.reduceEq, ↓reduceIte, reduceCtorEq, Nat.reducePow, Nat.reduceAdd, Nat.reduceLeDiff, Nat.reduceLT, Nat.reduceSub, Nat.reduceEqDiff]), (by first | rfl | exact h3 | simp only [h3, eES, eEX, Nat.reduceBEq, Int.reduceLE, Int.reduceLT, Int.reduceToNat, Int.reduceEq, ↓reduceIte, reduceCtorEq, Nat.reducePow, Nat.reduceAdd, Nat.reduceLeDiff, Nat.reduceLT, Nat.reduceSub, Nat.reduceEqDiff]), (by first | rfl | simp only [eES, eEX, Nat.reduceBEq, Int.reduceLE, Int.reduceLT, Int.reduceToNat, Int.reduceEq, ↓reduceIte, reduceCtorEq, Nat.reducePow, Nat.reduceAdd, Nat.reduceLeDiff, Nat.reduceLT, Nat.reduceSub, Nat.reduceEqDiff])⟩ ?_
      rintro _ st ⟨f, fr, i, b, rfl, rfl, h1, m1, h3, h5⟩
      simp only [l28_0, l28_1, g28_0, g28_1, g28_2, g28_3, g28_5, g28_4, g28_6, g28_7, g28_9, g28_10, g28_8, g28_11, r28, o28, h1, m1, h3, h5, eES, eEX, Nat.reduceBEq, Int.reduceLE, Int.reduceLT, Int.reduceToNat, Int.reduceEq, ↓reduceIte, reduceCtorEq, Nat.reducePow, Nat.reduceAdd, Nat.reduceLeDiff, Nat.reduceLT, Nat.reduceSub, Nat.reduceEqDiff]
      by_cases hlt : i < E.length
      · obtain ⟨_, hc, s, eo, L, M, K, rfl, hs, hL, hI, hM, hS, hK, hN⟩ := getE hP.e hlt
        have e1 := wi64_s i _ hlt hP.le
        cases b <;> simp only [lt_t hlt, nneg, Int.toNat_natCast, aiaddr, hc, h1, m1, h3, h5, e1, rb, eES, eEX, Nat.reduceBEq, Int.reduceLE, Int.reduceLT, Int.reduceToNat, Int.reduceEq, ↓reduceIte, reduceCtorEq, Nat.reducePow, Nat.reduceAdd, Nat.reduceLeDiff, Nat.reduceLT, Nat.reduceSub, Nat.reduceEqDiff]
        all_goals
          repeat' (first | (refine csel_of (fun h => ?_) (fun h => ?_) <;> simp only [h, nneg, Int.toNat_natCast, aiaddr, hc, h1, m1, h3, h5, e1, rb, eES, eEX, Nat.reduceBEq, Int.reduceLE, Int.reduceLT, Int.reduceToNat, Int.reduceEq, ↓reduceIte, reduceCtorEq, Nat.reducePow, Nat.reduceAdd, Nat.reduceLeDiff, Nat.reduceLT, Nat.reduceSub, Nat.reduceEqDiff]) | (refine gsel_t (fun h => ?_) (fun h => ?_) <;> simp only [h, updO, nneg, Int.toNat_natCast, aiaddr, hc, h1, m1, h3, h5, e1, rb, eES, eEX, Nat.reduceBEq, Int.reduceLE, Int.reduceLT, Int.reduceToNat, Int.reduceEq, ↓reduceIte, reduceCtorEq, Nat.reducePow, Nat.reduceAdd, Nat.reduceLeDiff, Nat.reduceLT, Nat.reduceSub, Nat.reduceEqDiff]) | (refine gsel_f (fun h => ?_) (fun h => ?_) <;> simp only [h, updO, nneg, Int.toNat_natCast, aiaddr, hc, h1, m1, h3, h5, e1, rb, eES, eEX, Nat.reduceBEq, Int.reduceLE, Int.reduceLT, Int.reduceToNat, Int.reduceEq, ↓reduceIte, reduceCtorEq, Nat.reducePow, Nat.reduceAdd, Nat.reduceLeDiff, Nat.reduceLT, Nat.reduceSub, Nat.reduceEqDiff]))
        all_goals exact ⟨E.length - (i + 1), by omega, _, _, i + 1, _, rfl, rfl, (by first | rfl | exact h1 | simp only [h1, eES, eEX, Nat.reduceBEq, Int.reduceLE, Int.reduceLT, Int.reduceToNat, Int.reduceEq, ↓reduceIte, reduceCtorEq, Nat.reducePow, Nat.reduceAdd, Nat.reduceLeDiff, Nat.reduceLT, Nat.reduceSub, Nat.reduceEqDiff]), (by first | rfl | exact m1 | simp only [m1, eES, eEX, Nat.reduceBEq, Int.reduceLE, Int.reduceLT, Int.reduceToNat, Int.reduceEq, ↓reduceIte, reduceCtorEq, Nat.reducePow, Nat.reduceAdd, Nat.reduceLeDiff, Nat.reduceLT, Nat.reduceSub, Nat.reduceEqDiff]), (by first | rfl | simp only [eES, eEX, Nat.reduceBEq, Int.reduceLE, Int.reduceLT, Int.reduceToNat, Int.reduceEq, ↓reduceIte, reduceCtorEq, Nat.reducePow, Nat.reduceAdd, Nat.reduceLeDiff, Nat.reduceLT, Nat.reduceSub, Nat.reduceEqDiff]), (by first | rfl | simp only [eES, eEX, Nat.reduceBEq, Int.reduceLE, Int.reduceLT, Int.reduceToNat, Int.reduceEq, ↓reduceIte, reduceCtorEq, Nat.reducePow, Nat.reduceAdd, Nat.reduceLeDiff, Nat.reduceLT, Nat.reduceSub, Nat.reduceEqDiff])⟩
      · simp only [lt_f hlt, h1, m1, h3, h5, rb, eES, eEX, Nat.reduceBEq, Int.reduceLE, Int.reduceLT, Int.reduceToNat, Int.reduceEq, ↓reduceIte, reduceCtorEq, Nat.reducePow, Nat.reduceAdd, Nat.reduceLeDiff, Nat.reduceLT, Nat.reduceSub, Nat.reduceEqDiff]

/-- A loop inside such a loop: over the list L of element i. -/
def LoJ (G E L : List AV) (a c d : Nat) (j : Nat) (k : Nat) (st : St) : Prop :=
  ∃ f fr i b, st = ⟨f, [fr], []⟩ ∧ k = L.length - i ∧ f 1 = .ptr 0 1 0 ∧ fr 1 = .cells [.list G, .list E] ∧ f a = .bool b ∧ f c = .int .i64 (j : Nat) ∧ f d = .int .i64 (i : Nat)

theorem c29 (G E : List AV) (hP : IsP G E) : Fn? Tryz.prog 29 [pv G E] RB := by
  refine fnR_of_awp (rc := r29) (rs := o29) Tryz.func29 rfl rfl Tryz.ntmps29 k29 q29 (by simp) ?_
  simp only [g29_0, g29_1, g29_2, g29_3, g29_5, g29_6, g29_7, g29_9, g29_8, g29_4, g29_10, g29_11, g29_13, g29_14, g29_15, g29_17, g29_16, g29_12, g29_18, r29, o29, pv, eES, eEX, Nat.reduceBEq, Int.reduceLE, Int.reduceLT, Int.reduceToNat, Int.reduceEq, ↓reduceIte, reduceCtorEq, Nat.reducePow, Nat.reduceAdd, Nat.reduceLeDiff, Nat.reduceLT, Nat.reduceSub, Nat.reduceEqDiff]
  refine awp_loop (LoI G E G 3 4) _ ⟨_, _, 0, _, rfl, rfl, rfl, rfl, rfl, rfl⟩ ?_
  rintro _ st ⟨f, fr, i, b, rfl, rfl, h1, m1, h3, h4⟩
  simp only [l29_0, l29_1, l29_2, l29_3, g29_0, g29_1, g29_2, g29_3, g29_5, g29_6, g29_7, g29_9, g29_8, g29_4, g29_10, g29_11, g29_13, g29_14, g29_15, g29_17, g29_16, g29_12, g29_18, r29, o29, h1, m1, h3, h4, eES, eEX, Nat.reduceBEq, Int.reduceLE, Int.reduceLT, Int.reduceToNat, Int.reduceEq, ↓reduceIte, reduceCtorEq, Nat.reducePow, Nat.reduceAdd, Nat.reduceLeDiff, Nat.reduceLT, Nat.reduceSub, Nat.reduceEqDiff]
  by_cases hlt : i < G.length
  · obtain ⟨_, hc, s, L, u, rfl, hs, hL, hO⟩ := getE hP.g hlt
    have e1 := wi64_s i _ hlt hP.lg
    cases b <;> simp only [lt_t hlt, nneg, Int.toNat_natCast, aiaddr, hc, h1, m1, h3, h4, e1, rb, eES, eEX, Nat.reduceBEq, Int.reduceLE, Int.reduceLT, Int.reduceToNat, Int.reduceEq, ↓reduceIte, reduceCtorEq, Nat.reducePow, Nat.reduceAdd, Nat.reduceLeDiff, Nat.reduceLT, Nat.reduceSub, Nat.reduceEqDiff]
    all_goals
      repeat' (first | (refine csel_of (fun h => ?_) (fun h => ?_) <;> simp only [h, nneg, Int.toNat_natCast, aiaddr, hc, h1, m1, h3, h4, e1, rb, eES, eEX, Nat.reduceBEq, Int.reduceLE, Int.reduceLT, Int.reduceToNat, Int.reduceEq, ↓reduceIte, reduceCtorEq, Nat.reducePow, Nat.reduceAdd, Nat.reduceLeDiff, Nat.reduceLT, Nat.reduceSub, Nat.reduceEqDiff]) | (refine gsel_t (fun h => ?_) (fun h => ?_) <;> simp only [h, updO, nneg, Int.toNat_natCast, aiaddr, hc, h1, m1, h3, h4, e1, rb, eES, eEX, Nat.reduceBEq, Int.reduceLE, Int.reduceLT, Int.reduceToNat, Int.reduceEq, ↓reduceIte, reduceCtorEq, Nat.reducePow, Nat.reduceAdd, Nat.reduceLeDiff, Nat.reduceLT, Nat.reduceSub, Nat.reduceEqDiff]) | (refine gsel_f (fun h => ?_) (fun h => ?_) <;> simp only [h, updO, nneg, Int.toNat_natCast, aiaddr, hc, h1, m1, h3, h4, e1, rb, eES, eEX, Nat.reduceBEq, Int.reduceLE, Int.reduceLT, Int.reduceToNat, Int.reduceEq, ↓reduceIte, reduceCtorEq, Nat.reducePow, Nat.reduceAdd, Nat.reduceLeDiff, Nat.reduceLT, Nat.reduceSub, Nat.reduceEqDiff]) | ((with_reducible apply aops_callR (k := 52) (R := RB)); (case h2 => exact fun _ h => h.rf); (case hy => rfl); (case h1 => rfl); (case hk => exact c52 _ hs); rintro _ ⟨b, rfl⟩; cases b <;> simp only [nneg, Int.toNat_natCast, aiaddr, hc, h1, m1, h3, h4, e1, rb, eES, eEX, Nat.reduceBEq, Int.reduceLE, Int.reduceLT, Int.reduceToNat, Int.reduceEq, ↓reduceIte, reduceCtorEq, Nat.reducePow, Nat.reduceAdd, Nat.reduceLeDiff, Nat.reduceLT, Nat.reduceSub, Nat.reduceEqDiff]))
    all_goals
      refine awp_loop (LoJ G E L 3 4 5 i) _ ⟨_, _, 0, _, rfl, rfl, (by first | rfl | exact h1 | simp only [h1, eES, eEX, Nat.reduceBEq, Int.reduceLE, Int.reduceLT, Int.reduceToNat, Int.reduceEq, ↓reduceIte, reduceCtorEq, Nat.reducePow, Nat.reduceAdd, Nat.reduceLeDiff, Nat.reduceLT, Nat.reduceSub, Nat.reduceEqDiff]), (by first | rfl | exact m1 | simp only [m1, eES, eEX, Nat.reduceBEq, Int.reduceLE, Int.reduceLT, Int.reduceToNat, Int.reduceEq, ↓reduceIte, reduceCtorEq, Nat.reducePow, Nat.reduceAdd, Nat.reduceLeDiff, Nat.reduceLT, Nat.reduceSub, Nat.reduceEqDiff]), (by first | rfl | simp only [eES, eEX, Nat.reduceBEq, Int.reduceLE, Int.reduceLT, Int.reduceToNat, Int.reduceEq, ↓reduceIte, reduceCtorEq, Nat.reducePow, Nat.reduceAdd, Nat.reduceLeDiff, Nat.reduceLT, Nat.reduceSub, Nat.reduceEqDiff]), (by first | rfl | exact h4 | simp only [h4, eES, eEX, Nat.reduceBEq, Int.reduceLE, Int.reduceLT, Int.reduceToNat, Int.reduceEq, ↓reduceIte, reduceCtorEq, Nat.reducePow, Nat.reduceAdd, Nat.reduceLeDiff, Nat.reduceLT, Nat.reduceSub, Nat.reduceEqDiff]), (by first | rfl | simp only [eES, eEX, Nat.reduceBEq, Int.reduceLE, Int.reduceLT, Int.reduceToNat, Int.reduceEq, ↓reduceIte, reduceCtorEq, Nat.reducePow, Nat.reduceAdd, Nat.reduceLeDiff, Nat.reduceLT, Nat.reduceSub, Nat.reduceEqDiff])⟩ ?_
      rintro _ st ⟨f, fr, j, b, rfl, rfl, h1, m1, h3, h4, h5⟩
      simp only [l29_0, l29_1, l29_2, l29_3, g29_0, g29_1, g29_2, g29_3, g29_5, g29_6, g29_7, g29_9, g29_8, g29_4, g29_10, g29_11, g29_13, g29_14, g29_15, g29_17, g29_16, g29_12, g29_18, r29, o29, nneg, Int.toNat_natCast, aiaddr, hc, h1, m1, h3, h4, h5, eES, eEX, Nat.reduceBEq, Int.reduceLE, Int.reduceLT, Int.reduceToNat, Int.reduceEq, ↓reduceIte, reduceCtorEq, Nat.reducePow, Nat.reduceAdd, Nat.reduceLeDiff, Nat.reduceLT, Nat.reduceSub, Nat.reduceEqDiff]
      by_cases hlj : j < L.length
      · obtain ⟨_, hd, o, ho, rfl⟩ := getE hO hlj
        have e2 := wi64_s j _ hlj hL
        cases b <;> simp only [lt_t hlj, PO.cells, nneg, Int.toNat_natCast, aiaddr, hc, hd, h1, m1, h3, h4, h5, e2, rb, eES, eEX, Nat.reduceBEq, Int.reduceLE, Int.reduceLT, Int.reduceToNat, Int.reduceEq, ↓reduceIte, reduceCtorEq, Nat.reducePow, Nat.reduceAdd, Nat.reduceLeDiff, Nat.reduceLT, Nat.reduceSub, Nat.reduceEqDiff]
        all_goals
          repeat' (first | (refine csel_of (fun h => ?_) (fun h => ?_) <;> simp only [h, PO.cells, nneg, Int.toNat_natCast, aiaddr, hc, hd, h1, m1, h3, h4, h5, e2, rb, eES, eEX, Nat.reduceBEq, Int.reduceLE, Int.reduceLT, Int.reduceToNat, Int.reduceEq, ↓reduceIte, reduceCtorEq, Nat.reducePow, Nat.reduceAdd, Nat.reduceLeDiff, Nat.reduceLT, Nat.reduceSub, Nat.reduceEqDiff]) | (refine gsel_t (fun h => ?_) (fun h => ?_) <;> simp only [h, updO, PO.cells, nneg, Int.toNat_natCast, aiaddr, hc, hd, h1, m1, h3, h4, h5, e2, rb, eES, eEX, Nat.reduceBEq, Int.reduceLE, Int.reduceLT, Int.reduceToNat, Int.reduceEq, ↓reduceIte, reduceCtorEq, Nat.reducePow, Nat.reduceAdd, Nat.reduceLeDiff, Nat.reduceLT, Nat.reduceSub, Nat.reduceEqDiff]) | (refine gsel_f (fun h => ?_) (fun h => ?_) <;> simp only [h, updO, PO.cells, nneg, Int.toNat_natCast, aiaddr, hc, hd, h1, m1, h3, h4, h5, e2, rb, eES, eEX, Nat.reduceBEq, Int.reduceLE, Int.reduceLT, Int.reduceToNat, Int.reduceEq, ↓reduceIte, reduceCtorEq, Nat.reducePow, Nat.reduceAdd, Nat.reduceLeDiff, Nat.reduceLT, Nat.reduceSub, Nat.reduceEqDiff]) | ((with_reducible apply aops_callR (k := 53) (R := RB)); (case h2 => exact fun _ h => h.rf); (case hy => rfl); (case h1 => rfl); (case hk => exact c53 _ (bm ho.name)); rintro _ ⟨b, rfl⟩; cases b <;> simp only [PO.cells, nneg, Int.toNat_natCast, aiaddr, hc, hd, h1, m1, h3, h4, h5, e2, rb, eES, eEX, Nat.reduceBEq, Int.reduceLE, Int.reduceLT, Int.reduceToNat, Int.reduceEq, ↓reduceIte, reduceCtorEq, Nat.reducePow, Nat.reduceAdd, Nat.reduceLeDiff, Nat.reduceLT, Nat.reduceSub, Nat.reduceEqDiff]))
        all_goals exact ⟨L.length - (j + 1), by omega, _, _, j + 1, _, rfl, rfl, (by first | rfl | exact h1 | simp only [h1, eES, eEX, Nat.reduceBEq, Int.reduceLE, Int.reduceLT, Int.reduceToNat, Int.reduceEq, ↓reduceIte, reduceCtorEq, Nat.reducePow, Nat.reduceAdd, Nat.reduceLeDiff, Nat.reduceLT, Nat.reduceSub, Nat.reduceEqDiff]), (by first | rfl | exact m1 | simp only [m1, eES, eEX, Nat.reduceBEq, Int.reduceLE, Int.reduceLT, Int.reduceToNat, Int.reduceEq, ↓reduceIte, reduceCtorEq, Nat.reducePow, Nat.reduceAdd, Nat.reduceLeDiff, Nat.reduceLT, Nat.reduceSub, Nat.reduceEqDiff]), (by first | rfl | simp only [eES, eEX, Nat.reduceBEq, Int.reduceLE, Int.reduceLT, Int.reduceToNat, Int.reduceEq, ↓reduceIte, reduceCtorEq, Nat.reducePow, Nat.reduceAdd, Nat.reduceLeDiff, Nat.reduceLT, Nat.reduceSub, Nat.reduceEqDiff]), (by first | rfl | exact h4 | simp only [h4, eES, eEX, Nat.reduceBEq, Int.reduceLE, Int.reduceLT, Int.reduceToNat, Int.reduceEq, ↓reduceIte, reduceCtorEq, Nat.reducePow, Nat.reduceAdd, Nat.reduceLeDiff, Nat.reduceLT, Nat.reduceSub, Nat.reduceEqDiff]), (by first | rfl | simp only [eES, eEX, Nat.reduceBEq, Int.reduceLE, Int.reduceLT, Int.reduceToNat, Int.reduceEq, ↓reduceIte, reduceCtorEq, Nat.reducePow, Nat.reduceAdd, Nat.reduceLeDiff, Nat.reduceLT, Nat.reduceSub, Nat.reduceEqDiff])⟩
      · simp only [lt_f hlj, h1, m1, h3, h4, h5, e1, rb, eES, eEX, Nat.reduceBEq, Int.reduceLE, Int.reduceLT, Int.reduceToNat, Int.reduceEq, ↓reduceIte, reduceCtorEq, Nat.reducePow, Nat.reduceAdd, Nat.reduceLeDiff, Nat.reduceLT, Nat.reduceSub, Nat.reduceEqDiff]
        exact ⟨G.length - (i + 1), by omega, _, _, i + 1, _, rfl, rfl, (by first | rfl | exact h1 | simp only [h1, eES, eEX, Nat.reduceBEq, Int.reduceLE, Int.reduceLT, Int.reduceToNat, Int.reduceEq, ↓reduceIte, reduceCtorEq, Nat.reducePow, Nat.reduceAdd, Nat.reduceLeDiff, Nat.reduceLT, Nat.reduceSub, Nat.reduceEqDiff]), (by first | rfl | exact m1 | simp only [m1, eES, eEX, Nat.reduceBEq, Int.reduceLE, Int.reduceLT, Int.reduceToNat, Int.reduceEq, ↓reduceIte, reduceCtorEq, Nat.reducePow, Nat.reduceAdd, Nat.reduceLeDiff, Nat.reduceLT, Nat.reduceSub, Nat.reduceEqDiff]), (by first | rfl | exact h3 | simp only [h3, eES, eEX, Nat.reduceBEq, Int.reduceLE, Int.reduceLT, Int.reduceToNat, Int.reduceEq, ↓reduceIte, reduceCtorEq, Nat.reducePow, Nat.reduceAdd, Nat.reduceLeDiff, Nat.reduceLT, Nat.reduceSub, Nat.reduceEqDiff]), (by first | rfl | simp only [eES, eEX, Nat.reduceBEq, Int.reduceLE, Int.reduceLT, Int.reduceToNat, Int.reduceEq, ↓reduceIte, reduceCtorEq, Nat.reducePow, Nat.reduceAdd, Nat.reduceLeDiff, Nat.reduceLT, Nat.reduceSub, Nat.reduceEqDiff])⟩
  · simp only [lt_f hlt, h1, m1, h3, h4, rb, eES, eEX, Nat.reduceBEq, Int.reduceLE, Int.reduceLT, Int.reduceToNat, Int.reduceEq, ↓reduceIte, reduceCtorEq, Nat.reducePow, Nat.reduceAdd, Nat.reduceLeDiff, Nat.reduceLT, Nat.reduceSub, Nat.reduceEqDiff]
    refine awp_loop (LoI G E E 3 6) _ ⟨_, _, 0, b, rfl, rfl, (by first | rfl | exact h1 | simp only [h1, eES, eEX, Nat.reduceBEq, Int.reduceLE, Int.reduceLT, Int.reduceToNat, Int.reduceEq, ↓reduceIte, reduceCtorEq, Nat.reducePow, Nat.reduceAdd, Nat.reduceLeDiff, Nat.reduceLT, Nat.reduceSub, Nat.reduceEqDiff]), (by first | rfl | exact m1 | simp only [m1, eES, eEX, Nat.reduceBEq, Int.reduceLE, Int.reduceLT, Int.reduceToNat, Int.reduceEq, ↓reduceIte, reduceCtorEq, Nat.reducePow, Nat.reduceAdd, Nat.reduceLeDiff, Nat.reduceLT, Nat.reduceSub, Nat.reduceEqDiff]), (by first | rfl | exact h3 | simp only [h3, eES, eEX, Nat.reduceBEq, Int.reduceLE, Int.reduceLT, Int.reduceToNat, Int.reduceEq, ↓reduceIte, reduceCtorEq, Nat.reducePow, Nat.reduceAdd, Nat.reduceLeDiff, Nat.reduceLT, Nat.reduceSub, Nat.reduceEqDiff]), (by first | rfl | simp only [eES, eEX, Nat.reduceBEq, Int.reduceLE, Int.reduceLT, Int.reduceToNat, Int.reduceEq, ↓reduceIte, reduceCtorEq, Nat.reducePow, Nat.reduceAdd, Nat.reduceLeDiff, Nat.reduceLT, Nat.reduceSub, Nat.reduceEqDiff])⟩ ?_
    rintro _ st ⟨f, fr, i, b, rfl, rfl, h1, m1, h3, h6⟩
    simp only [l29_0, l29_1, l29_2, l29_3, g29_0, g29_1, g29_2, g29_3, g29_5, g29_6, g29_7, g29_9, g29_8, g29_4, g29_10, g29_11, g29_13, g29_14, g29_15, g29_17, g29_16, g29_12, g29_18, r29, o29, h1, m1, h3, h6, eES, eEX, Nat.reduceBEq, Int.reduceLE, Int.reduceLT, Int.reduceToNat, Int.reduceEq, ↓reduceIte, reduceCtorEq, Nat.reducePow, Nat.reduceAdd, Nat.reduceLeDiff, Nat.reduceLT, Nat.reduceSub, Nat.reduceEqDiff]
    by_cases hlt : i < E.length
    · obtain ⟨_, hc, s, eo, L, M, K, rfl, hs, hL, hI, hM, hS, hK, hN⟩ := getE hP.e hlt
      have e1 := wi64_s i _ hlt hP.le
      cases b <;> simp only [lt_t hlt, nneg, Int.toNat_natCast, aiaddr, hc, h1, m1, h3, h6, e1, rb, eES, eEX, Nat.reduceBEq, Int.reduceLE, Int.reduceLT, Int.reduceToNat, Int.reduceEq, ↓reduceIte, reduceCtorEq, Nat.reducePow, Nat.reduceAdd, Nat.reduceLeDiff, Nat.reduceLT, Nat.reduceSub, Nat.reduceEqDiff]
      all_goals
        repeat' (first | (refine csel_of (fun h => ?_) (fun h => ?_) <;> simp only [h, nneg, Int.toNat_natCast, aiaddr, hc, h1, m1, h3, h6, e1, rb, eES, eEX, Nat.reduceBEq, Int.reduceLE, Int.reduceLT, Int.reduceToNat, Int.reduceEq, ↓reduceIte, reduceCtorEq, Nat.reducePow, Nat.reduceAdd, Nat.reduceLeDiff, Nat.reduceLT, Nat.reduceSub, Nat.reduceEqDiff]) | (refine gsel_t (fun h => ?_) (fun h => ?_) <;> simp only [h, updO, nneg, Int.toNat_natCast, aiaddr, hc, h1, m1, h3, h6, e1, rb, eES, eEX, Nat.reduceBEq, Int.reduceLE, Int.reduceLT, Int.reduceToNat, Int.reduceEq, ↓reduceIte, reduceCtorEq, Nat.reducePow, Nat.reduceAdd, Nat.reduceLeDiff, Nat.reduceLT, Nat.reduceSub, Nat.reduceEqDiff]) | (refine gsel_f (fun h => ?_) (fun h => ?_) <;> simp only [h, updO, nneg, Int.toNat_natCast, aiaddr, hc, h1, m1, h3, h6, e1, rb, eES, eEX, Nat.reduceBEq, Int.reduceLE, Int.reduceLT, Int.reduceToNat, Int.reduceEq, ↓reduceIte, reduceCtorEq, Nat.reducePow, Nat.reduceAdd, Nat.reduceLeDiff, Nat.reduceLT, Nat.reduceSub, Nat.reduceEqDiff]) | ((with_reducible apply aops_callR (k := 52) (R := RB)); (case h2 => exact fun _ h => h.rf); (case hy => rfl); (case h1 => rfl); (case hk => exact c52 _ hs); rintro _ ⟨b, rfl⟩; cases b <;> simp only [nneg, Int.toNat_natCast, aiaddr, hc, h1, m1, h3, h6, e1, rb, eES, eEX, Nat.reduceBEq, Int.reduceLE, Int.reduceLT, Int.reduceToNat, Int.reduceEq, ↓reduceIte, reduceCtorEq, Nat.reducePow, Nat.reduceAdd, Nat.reduceLeDiff, Nat.reduceLT, Nat.reduceSub, Nat.reduceEqDiff]))
      all_goals
        refine awp_loop (LoJ G E L 3 6 7 i) _ ⟨_, _, 0, _, rfl, rfl, (by first | rfl | exact h1 | simp only [h1, eES, eEX, Nat.reduceBEq, Int.reduceLE, Int.reduceLT, Int.reduceToNat, Int.reduceEq, ↓reduceIte, reduceCtorEq, Nat.reducePow, Nat.reduceAdd, Nat.reduceLeDiff, Nat.reduceLT, Nat.reduceSub, Nat.reduceEqDiff]), (by first | rfl | exact m1 | simp only [m1, eES, eEX, Nat.reduceBEq, Int.reduceLE, Int.reduceLT, Int.reduceToNat, Int.reduceEq, ↓reduceIte, reduceCtorEq, Nat.reducePow, Nat.reduceAdd, Nat.reduceLeDiff, Nat.reduceLT, Nat.reduceSub, Nat.reduceEqDiff]), (by first | rfl | simp only [eES, eEX, Nat.reduceBEq, Int.reduceLE, Int.reduceLT, Int.reduceToNat, Int.reduceEq, ↓reduceIte, reduceCtorEq, Nat.reducePow, Nat.reduceAdd, Nat.reduceLeDiff, Nat.reduceLT, Nat.reduceSub, Nat.reduceEqDiff]), (by first | rfl | exact h6 | simp only [h6, eES, eEX, Nat.reduceBEq, Int.reduceLE, Int.reduceLT, Int.reduceToNat, Int.reduceEq, ↓reduceIte, reduceCtorEq, Nat.reducePow, Nat.reduceAdd, Nat.reduceLeDiff, Nat.reduceLT, Nat.reduceSub, Nat.reduceEqDiff]), (by first | rfl | simp only [eES, eEX, Nat.reduceBEq, Int.reduceLE, Int.reduceLT, Int.reduceToNat, Int.reduceEq, ↓reduceIte, reduceCtorEq, Nat.reducePow, Nat.reduceAdd, Nat.reduceLeDiff, Nat.reduceLT, Nat.reduceSub, Nat.reduceEqDiff])⟩ ?_
        rintro _ st ⟨f, fr, j, b, rfl, rfl, h1, m1, h3, h6, h7⟩
        simp only [l29_0, l29_1, l29_2, l29_3, g29_0, g29_1, g29_2, g29_3, g29_5, g29_6, g29_7, g29_9, g29_8, g29_4, g29_10, g29_11, g29_13, g29_14, g29_15, g29_17, g29_16, g29_12, g29_18, r29, o29, nneg, Int.toNat_natCast, aiaddr, hc, h1, m1, h3, h6, h7, eES, eEX, Nat.reduceBEq, Int.reduceLE, Int.reduceLT, Int.reduceToNat, Int.reduceEq, ↓reduceIte, reduceCtorEq, Nat.reducePow, Nat.reduceAdd, Nat.reduceLeDiff, Nat.reduceLT, Nat.reduceSub, Nat.reduceEqDiff]
        by_cases hlj : j < L.length
        · obtain ⟨_, hd, s2, n2, L2, rfl, hs2, hL2, hN2⟩ := getE hI hlj
          have e2 := wi64_s j _ hlj hL
          cases b <;> simp only [lt_t hlj, nneg, Int.toNat_natCast, aiaddr, hc, hd, h1, m1, h3, h6, h7, e2, rb, eES, eEX, Nat.reduceBEq, Int.reduceLE, Int.reduceLT, Int.reduceToNat, Int.reduceEq, ↓reduceIte, reduceCtorEq, Nat.reducePow, Nat.reduceAdd, Nat.reduceLeDiff, Nat.reduceLT, Nat.reduceSub, Nat.reduceEqDiff]
          all_goals
            repeat' (first | (refine csel_of (fun h => ?_) (fun h => ?_) <;> simp only [h, nneg, Int.toNat_natCast, aiaddr, hc, hd, h1, m1, h3, h6, h7, e2, rb, eES, eEX, Nat.reduceBEq, Int.reduceLE, Int.reduceLT, Int.reduceToNat, Int.reduceEq, ↓reduceIte, reduceCtorEq, Nat.reducePow, Nat.reduceAdd, Nat.reduceLeDiff, Nat.reduceLT, Nat.reduceSub, Nat.reduceEqDiff]) | (refine gsel_t (fun h => ?_) (fun h => ?_) <;> simp only [h, updO, nneg, Int.toNat_natCast, aiaddr, hc, hd, h1, m1, h3, h6, h7, e2, rb, eES, eEX, Nat.reduceBEq, Int.reduceLE, Int.reduceLT, Int.reduceToNat, Int.reduceEq, ↓reduceIte, reduceCtorEq, Nat.reducePow, Nat.reduceAdd, Nat.reduceLeDiff, Nat.reduceLT, Nat.reduceSub, Nat.reduceEqDiff]) | (refine gsel_f (fun h => ?_) (fun h => ?_) <;> simp only [h, updO, nneg, Int.toNat_natCast, aiaddr, hc, hd, h1, m1, h3, h6, h7, e2, rb, eES, eEX, Nat.reduceBEq, Int.reduceLE, Int.reduceLT, Int.reduceToNat, Int.reduceEq, ↓reduceIte, reduceCtorEq, Nat.reducePow, Nat.reduceAdd, Nat.reduceLeDiff, Nat.reduceLT, Nat.reduceSub, Nat.reduceEqDiff]) | ((with_reducible apply aops_callR (k := 53) (R := RB)); (case h2 => exact fun _ h => h.rf); (case hy => rfl); (case h1 => rfl); (case hk => exact c53 _ hs2); rintro _ ⟨b, rfl⟩; cases b <;> simp only [nneg, Int.toNat_natCast, aiaddr, hc, hd, h1, m1, h3, h6, h7, e2, rb, eES, eEX, Nat.reduceBEq, Int.reduceLE, Int.reduceLT, Int.reduceToNat, Int.reduceEq, ↓reduceIte, reduceCtorEq, Nat.reducePow, Nat.reduceAdd, Nat.reduceLeDiff, Nat.reduceLT, Nat.reduceSub, Nat.reduceEqDiff]))
          all_goals exact ⟨L.length - (j + 1), by omega, _, _, j + 1, _, rfl, rfl, (by first | rfl | exact h1 | simp only [h1, eES, eEX, Nat.reduceBEq, Int.reduceLE, Int.reduceLT, Int.reduceToNat, Int.reduceEq, ↓reduceIte, reduceCtorEq, Nat.reducePow, Nat.reduceAdd, Nat.reduceLeDiff, Nat.reduceLT, Nat.reduceSub, Nat.reduceEqDiff]), (by first | rfl | exact m1 | simp only [m1, eES, eEX, Nat.reduceBEq, Int.reduceLE, Int.reduceLT, Int.reduceToNat, Int.reduceEq, ↓reduceIte, reduceCtorEq, Nat.reducePow, Nat.reduceAdd, Nat.reduceLeDiff, Nat.reduceLT, Nat.reduceSub, Nat.reduceEqDiff]), (by first | rfl | simp only [eES, eEX, Nat.reduceBEq, Int.reduceLE, Int.reduceLT, Int.reduceToNat, Int.reduceEq, ↓reduceIte, reduceCtorEq, Nat.reducePow, Nat.reduceAdd, Nat.reduceLeDiff, Nat.reduceLT, Nat.reduceSub, Nat.reduceEqDiff]), (by first | rfl | exact h6 | simp only [h6, eES, eEX, Nat.reduceBEq, Int.reduceLE, Int.reduceLT, Int.reduceToNat, Int.reduceEq, ↓reduceIte, reduceCtorEq, Nat.reducePow, Nat.reduceAdd, Nat.reduceLeDiff, Nat.reduceLT, Nat.reduceSub, Nat.reduceEqDiff]), (by first | rfl | simp only [eES, eEX, Nat.reduceBEq, Int.reduceLE, Int.reduceLT, Int.reduceToNat, Int.reduceEq, ↓reduceIte, reduceCtorEq, Nat.reducePow, Nat.reduceAdd, Nat.reduceLeDiff, Nat.reduceLT, Nat.reduceSub, Nat.reduceEqDiff])⟩
        · simp only [lt_f hlj, h1, m1, h3, h6, h7, e1, rb, eES, eEX, Nat.reduceBEq, Int.reduceLE, Int.reduceLT, Int.reduceToNat, Int.reduceEq, ↓reduceIte, reduceCtorEq, Nat.reducePow, Nat.reduceAdd, Nat.reduceLeDiff, Nat.reduceLT, Nat.reduceSub, Nat.reduceEqDiff]
          exact ⟨E.length - (i + 1), by omega, _, _, i + 1, _, rfl, rfl, (by first | rfl | exact h1 | simp only [h1, eES, eEX, Nat.reduceBEq, Int.reduceLE, Int.reduceLT, Int.reduceToNat, Int.reduceEq, ↓reduceIte, reduceCtorEq, Nat.reducePow, Nat.reduceAdd, Nat.reduceLeDiff, Nat.reduceLT, Nat.reduceSub, Nat.reduceEqDiff]), (by first | rfl | exact m1 | simp only [m1, eES, eEX, Nat.reduceBEq, Int.reduceLE, Int.reduceLT, Int.reduceToNat, Int.reduceEq, ↓reduceIte, reduceCtorEq, Nat.reducePow, Nat.reduceAdd, Nat.reduceLeDiff, Nat.reduceLT, Nat.reduceSub, Nat.reduceEqDiff]), (by first | rfl | exact h3 | simp only [h3, eES, eEX, Nat.reduceBEq, Int.reduceLE, Int.reduceLT, Int.reduceToNat, Int.reduceEq, ↓reduceIte, reduceCtorEq, Nat.reducePow, Nat.reduceAdd, Nat.reduceLeDiff, Nat.reduceLT, Nat.reduceSub, Nat.reduceEqDiff]), (by first | rfl | simp only [eES, eEX, Nat.reduceBEq, Int.reduceLE, Int.reduceLT, Int.reduceToNat, Int.reduceEq, ↓reduceIte, reduceCtorEq, Nat.reducePow, Nat.reduceAdd, Nat.reduceLeDiff, Nat.reduceLT, Nat.reduceSub, Nat.reduceEqDiff])⟩
    · simp only [lt_f hlt, h1, m1, h3, h6, rb, eES, eEX, Nat.reduceBEq, Int.reduceLE, Int.reduceLT, Int.reduceToNat, Int.reduceEq, ↓reduceIte, reduceCtorEq, Nat.reducePow, Nat.reduceAdd, Nat.reduceLeDiff, Nat.reduceLT, Nat.reduceSub, Nat.reduceEqDiff]

end Go.Proofs.YtdmbncmbkocjjaaGreat.Va

/- Plans, as the specification examines them: the order. -/
set_option linter.unusedSimpArgs false
namespace Go.Proofs.YtdmbncmbkocjjaaGreat.Va
open Go Am Rc Bt Br

theorem wi64_p (k n : Nat) (h : k + 1 < n) (hn : n ≤ maxLen) : IntKind.i64.wrap (((k + 1 : Nat) : Int) - 1) = (k : Int) := by
  simp only [maxLen] at hn
  rw [wi64]; omega
theorem succ_ne (k : Nat) : (((k + 1 : Nat) : Int) == 0) = false := by simp; omega
theorem zero_eq : (((0 : Nat) : Int) == 0) = true := rfl

/-- A loop that begins with 1. -/
def LoK (G E L : List AV) (a c d : Nat) (j : Nat) (k : Nat) (st : St) : Prop :=
  ∃ f fr i b, st = ⟨f, [fr], []⟩ ∧ k = L.length - (i + 1) ∧ f 1 = .ptr 0 1 0 ∧ fr 1 = .cells [.list G, .list E] ∧ f a = .bool b ∧ f c = .int .i64 (j : Nat) ∧ f d = .int .i64 ((i + 1 : Nat) : Int)

theorem c30 (G E : List AV) (hP : IsP G E) : Fn? Tryz.prog 30 [pv G E] RB := by
  refine fnR_of_awp (rc := r30) (rs := o30) Tryz.func30 rfl rfl Tryz.ntmps30 k30 q30 (by simp) ?_
  simp only [g30_0, g30_1, g30_2, g30_3, g30_6, g30_7, g30_9, g30_8, g30_4, g30_10, g30_11, g30_14, g30_15, g30_17, g30_16, g30_12, g30_18, r30, o30, pv, eES, eEX, Nat.reduceBEq, Int.reduceLE, Int.reduceLT, Int.reduceToNat, Int.reduceEq, ↓reduceIte, reduceCtorEq, Nat.reducePow, Nat.reduceAdd, Nat.reduceLeDiff, Nat.reduceLT, Nat.reduceSub, Nat.reduceEqDiff]
  refine awp_loop (LoI G E G 3 4) _ ⟨_, _, 0, _, rfl, rfl, rfl, rfl, rfl, rfl⟩ ?_
  rintro _ st ⟨f, fr, i, b, rfl, rfl, h1, m1, h3, h4⟩
  simp only [l30_0, l30_1, l30_2, l30_3, g30_0, g30_1, g30_2, g30_3, g30_6, g30_7, g30_9, g30_8, g30_4, g30_10, g30_11, g30_14, g30_15, g30_17, g30_16, g30_12, g30_18, r30, o30, h1, m1, h3, h4, eES, eEX, Nat.reduceBEq, Int.reduceLE, Int.reduceLT, Int.reduceToNat, Int.reduceEq, ↓reduceIte, reduceCtorEq, Nat.reducePow, Nat.reduceAdd, Nat.reduceLeDiff, Nat.reduceLT, Nat.reduceSub, Nat.reduceEqDiff]
  by_cases hlt : i < G.length
  · obtain ⟨_, hc, s, L, u, rfl, hs, hL, hO⟩ := getE hP.g hlt
    have e1 := wi64_s i _ hlt hP.lg
    have key : ∀ Q : St → Prop, (∀ f' b', f' 1 = .ptr 0 1 0 → f' 3 = .bool b' → f' 4 = .int .i64 (i : Nat) → Q ⟨f', [fr], []⟩) → ∀ f', f' 1 = .ptr 0 1 0 → f' 3 = .bool b → f' 4 = .int .i64 (i : Nat) → aops Tryz.prog g30_5 ⟨f', [fr], []⟩ Q := by
      intro Q hQ f' h1 h3 h4
      cases i with
      | zero =>
        cases b <;> simp only [g30_0, g30_1, g30_2, g30_3, g30_5, g30_6, g30_7, g30_9, g30_8, g30_4, g30_10, g30_11, g30_13, g30_14, g30_15, g30_17, g30_16, g30_12, g30_18, r30, o30, zero_eq, h1, m1, h3, h4, eES, eEX, Nat.reduceBEq, Int.reduceLE, Int.reduceLT, Int.reduceToNat, Int.reduceEq, ↓reduceIte, reduceCtorEq, Nat.reducePow, Nat.reduceAdd, Nat.reduceLeDiff, Nat.reduceLT, Nat.reduceSub, Nat.reduceEqDiff]
        all_goals exact hQ _ _ (by first | rfl | exact h1 | simp only [h1, eES, eEX, Nat.reduceBEq, Int.reduceLE, Int.reduceLT, Int.reduceToNat, Int.reduceEq, ↓reduceIte, reduceCtorEq, Nat.reducePow, Nat.reduceAdd, Nat.reduceLeDiff, Nat.reduceLT, Nat.reduceSub, Nat.reduceEqDiff]) (by first | rfl | simp only [eES, eEX, Nat.reduceBEq, Int.reduceLE, Int.reduceLT, Int.reduceToNat, Int.reduceEq, ↓reduceIte, reduceCtorEq, Nat.reducePow, Nat.reduceAdd, Nat.reduceLeDiff, Nat.reduceLT, Nat.reduceSub, Nat.reduceEqDiff]) (by first | rfl | exact h4 | simp only [h4, eES, eEX, Nat.reduceBEq, Int.reduceLE, Int.reduceLT, Int.reduceToNat, Int.reduceEq, ↓reduceIte, reduceCtorEq, Nat.reducePow, Nat.reduceAdd, Nat.reduceLeDiff, Nat.reduceLT, Nat.reduceSub, Nat.reduceEqDiff])
      | succ k =>
        obtain ⟨_, hc', s', L', u', rfl, hs', hL', hO'⟩ := getE hP.g (show k < G.length by omega)
        have e0 := wi64_p k _ hlt hP.lg
        cases b <;> simp only [g30_0, g30_1, g30_2, g30_3, g30_5, g30_6, g30_7, g30_9, g30_8, g30_4, g30_10, g30_11, g30_13, g30_14, g30_15, g30_17, g30_16, g30_12, g30_18, r30, o30, succ_ne, e0, astr, nneg, Int.toNat_natCast, aiaddr, hc, hc', h1, m1, h3, h4, eES, eEX, Nat.reduceBEq, Int.reduceLE, Int.reduceLT, Int.reduceToNat, Int.reduceEq, ↓reduceIte, reduceCtorEq, Nat.reducePow, Nat.reduceAdd, Nat.reduceLeDiff, Nat.reduceLT, Nat.reduceSub, Nat.reduceEqDiff]
        all_goals exact hQ _ _ (by first | rfl | exact h1 | simp only [h1, eES, eEX, Nat.reduceBEq, Int.reduceLE, Int.reduceLT, Int.reduceToNat, Int.reduceEq, ↓reduceIte, reduceCtorEq, Nat.reducePow, Nat.reduceAdd, Nat.reduceLeDiff, Nat.reduceLT, Nat.reduceSub, Nat.reduceEqDiff]) (by first | rfl | simp only [eES, eEX, Nat.reduceBEq, Int.reduceLE, Int.reduceLT, Int.reduceToNat, Int.reduceEq, ↓reduceIte, reduceCtorEq, Nat.reducePow, Nat.reduceAdd, Nat.reduceLeDiff, Nat.reduceLT, Nat.reduceSub, Nat.reduceEqDiff]) (by first | rfl | exact h4 | simp only [h4, eES, eEX, Nat.reduceBEq, Int.reduceLE, Int.reduceLT, Int.reduceToNat, Int.reduceEq, ↓reduceIte, reduceCtorEq, Nat.reducePow, Nat.reduceAdd, Nat.reduceLeDiff, Nat.reduceLT, Nat.reduceSub, Nat.reduceEqDiff])
    simp only [lt_t hlt, eES, eEX, Nat.reduceBEq, Int.reduceLE, Int.reduceLT, Int.reduceToNat, Int.reduceEq, ↓reduceIte, reduceCtorEq, Nat.reducePow, Nat.reduceAdd, Nat.reduceLeDiff, Nat.reduceLT, Nat.reduceSub, Nat.reduceEqDiff]
    refine key _ (fun f' b h1 h3 h4 => ?_) _ (by first | rfl | exact h1 | simp only [h1, eES, eEX, Nat.reduceBEq, Int.reduceLE, Int.reduceLT, Int.reduceToNat, Int.reduceEq, ↓reduceIte, reduceCtorEq, Nat.reducePow, Nat.reduceAdd, Nat.reduceLeDiff, Nat.reduceLT, Nat.reduceSub, Nat.reduceEqDiff]) (by first | rfl | exact h3 | simp only [h3, eES, eEX, Nat.reduceBEq, Int.reduceLE, Int.reduceLT, Int.reduceToNat, Int.reduceEq, ↓reduceIte, reduceCtorEq, Nat.reducePow, Nat.reduceAdd, Nat.reduceLeDiff, Nat.reduceLT, Nat.reduceSub, Nat.reduceEqDiff]) (by first | rfl | exact h4 | simp only [h4, eES, eEX, Nat.reduceBEq, Int.reduceLE, Int.reduceLT, Int.reduceToNat, Int.reduceEq, ↓reduceIte, reduceCtorEq, Nat.reducePow, Nat.reduceAdd, Nat.reduceLeDiff, Nat.reduceLT, Nat.reduceSub, Nat.reduceEqDiff])
    simp only [h1, m1, h3, h4, eES, eEX, Nat.reduceBEq, Int.reduceLE, Int.reduceLT, Int.reduceToNat, Int.reduceEq, ↓reduceIte, reduceCtorEq, Nat.reducePow, Nat.reduceAdd, Nat.reduceLeDiff, Nat.reduceLT, Nat.reduceSub, Nat.reduceEqDiff]
    refine awp_loop (LoK G E L 3 4 5 i) _ ⟨_, _, 0, _, rfl, rfl, (by first | rfl | exact h1 | simp only [h1, eES, eEX, Nat.reduceBEq, Int.reduceLE, Int.reduceLT, Int.reduceToNat, Int.reduceEq, ↓reduceIte, reduceCtorEq, Nat.reducePow, Nat.reduceAdd, Nat.reduceLeDiff, Nat.reduceLT, Nat.reduceSub, Nat.reduceEqDiff]), (by first | rfl | exact m1 | simp only [m1, eES, eEX, Nat.reduceBEq, Int.reduceLE, Int.reduceLT, Int.reduceToNat, Int.reduceEq, ↓reduceIte, reduceCtorEq, Nat.reducePow, Nat.reduceAdd, Nat.reduceLeDiff, Nat.reduceLT, Nat.reduceSub, Nat.reduceEqDiff]), (by first | rfl | exact h3 | simp only [h3, eES, eEX, Nat.reduceBEq, Int.reduceLE, Int.reduceLT, Int.reduceToNat, Int.reduceEq, ↓reduceIte, reduceCtorEq, Nat.reducePow, Nat.reduceAdd, Nat.reduceLeDiff, Nat.reduceLT, Nat.reduceSub, Nat.reduceEqDiff]), (by first | rfl | exact h4 | simp only [h4, eES, eEX, Nat.reduceBEq, Int.reduceLE, Int.reduceLT, Int.reduceToNat, Int.reduceEq, ↓reduceIte, reduceCtorEq, Nat.reducePow, Nat.reduceAdd, Nat.reduceLeDiff, Nat.reduceLT, Nat.reduceSub, Nat.reduceEqDiff]), (by first | rfl | simp only [eES, eEX, Nat.reduceBEq, Int.reduceLE, Int.reduceLT, Int.reduceToNat, Int.reduceEq, ↓reduceIte, reduceCtorEq, Nat.reducePow, Nat.reduceAdd, Nat.reduceLeDiff, Nat.reduceLT, Nat.reduceSub, Nat.reduceEqDiff])⟩ ?_
    rintro _ st ⟨f, fr, j, b, rfl, rfl, h1, m1, h3, h4, h5⟩
    simp only [nneg, Int.toNat_natCast, aiaddr, hc, h1, m1, h3, h4, h5, eES, eEX, Nat.reduceBEq, Int.reduceLE, Int.reduceLT, Int.reduceToNat, Int.reduceEq, ↓reduceIte, reduceCtorEq, Nat.reducePow, Nat.reduceAdd, Nat.reduceLeDiff, Nat.reduceLT, Nat.reduceSub, Nat.reduceEqDiff]
    by_cases hlj : j + 1 < L.length
    · obtain ⟨_, hd, o, ho, rfl⟩ := getE hO hlj
      obtain ⟨_, hd', o', ho', rfl⟩ := getE hO (show j < L.length by omega)
      have e2 := wi64_s (j + 1) _ hlj hL
      have e3 := wi64_p j _ hlj hL
      cases b <;> simp only [lt_t hlj, PO.cells, nneg, Int.toNat_natCast, aiaddr, hc, hd, hd', h1, m1, h3, h4, h5, e2, e3, rb, eES, eEX, Nat.reduceBEq, Int.reduceLE, Int.reduceLT, Int.reduceToNat, Int.reduceEq, ↓reduceIte, reduceCtorEq, Nat.reducePow, Nat.reduceAdd, Nat.reduceLeDiff, Nat.reduceLT, Nat.reduceSub, Nat.reduceEqDiff]
      all_goals exact ⟨L.length - (j + 1 + 1), by omega, _, _, j + 1, _, rfl, rfl, (by first | rfl | exact h1 | simp only [h1, eES, eEX, Nat.reduceBEq, Int.reduceLE, Int.reduceLT, Int.reduceToNat, Int.reduceEq, ↓reduceIte, reduceCtorEq, Nat.reducePow, Nat.reduceAdd, Nat.reduceLeDiff, Nat.reduceLT, Nat.reduceSub, Nat.reduceEqDiff]), (by first | rfl | exact m1 | simp only [m1, eES, eEX, Nat.reduceBEq, Int.reduceLE, Int.reduceLT, Int.reduceToNat, Int.reduceEq, ↓reduceIte, reduceCtorEq, Nat.reducePow, Nat.reduceAdd, Nat.reduceLeDiff, Nat.reduceLT, Nat.reduceSub, Nat.reduceEqDiff]), (by first | rfl | simp only [eES, eEX, Nat.reduceBEq, Int.reduceLE, Int.reduceLT, Int.reduceToNat, Int.reduceEq, ↓reduceIte, reduceCtorEq, Nat.reducePow, Nat.reduceAdd, Nat.reduceLeDiff, Nat.reduceLT, Nat.reduceSub, Nat.reduceEqDiff]), (by first | rfl | exact h4 | simp only [h4, eES, eEX, Nat.reduceBEq, Int.reduceLE, Int.reduceLT, Int.reduceToNat, Int.reduceEq, ↓reduceIte, reduceCtorEq, Nat.reducePow, Nat.reduceAdd, Nat.reduceLeDiff, Nat.reduceLT, Nat.reduceSub, Nat.reduceEqDiff]), (by first | rfl | simp only [eES, eEX, Nat.reduceBEq, Int.reduceLE, Int.reduceLT, Int.reduceToNat, Int.reduceEq, ↓reduceIte, reduceCtorEq, Nat.reducePow, Nat.reduceAdd, Nat.reduceLeDiff, Nat.reduceLT, Nat.reduceSub, Nat.reduceEqDiff])⟩
    · simp only [lt_f hlj, h1, m1, h3, h4, h5, e1, rb, eES, eEX, Nat.reduceBEq, Int.reduceLE, Int.reduceLT, Int.reduceToNat, Int.reduceEq, ↓reduceIte, reduceCtorEq, Nat.reducePow, Nat.reduceAdd, Nat.reduceLeDiff, Nat.reduceLT, Nat.reduceSub, Nat.reduceEqDiff]
      exact ⟨G.length - (i + 1), by omega, _, _, i + 1, _, rfl, rfl, (by first | rfl | exact h1 | simp only [h1, eES, eEX, Nat.reduceBEq, Int.reduceLE, Int.reduceLT, Int.reduceToNat, Int.reduceEq, ↓reduceIte, reduceCtorEq, Nat.reducePow, Nat.reduceAdd, Nat.reduceLeDiff, Nat.reduceLT, Nat.reduceSub, Nat.reduceEqDiff]), (by first | rfl | exact m1 | simp only [m1, eES, eEX, Nat.reduceBEq, Int.reduceLE, Int.reduceLT, Int.reduceToNat, Int.reduceEq, ↓reduceIte, reduceCtorEq, Nat.reducePow, Nat.reduceAdd, Nat.reduceLeDiff, Nat.reduceLT, Nat.reduceSub, Nat.reduceEqDiff]), (by first | rfl | exact h3 | simp only [h3, eES, eEX, Nat.reduceBEq, Int.reduceLE, Int.reduceLT, Int.reduceToNat, Int.reduceEq, ↓reduceIte, reduceCtorEq, Nat.reducePow, Nat.reduceAdd, Nat.reduceLeDiff, Nat.reduceLT, Nat.reduceSub, Nat.reduceEqDiff]), (by first | rfl | simp only [eES, eEX, Nat.reduceBEq, Int.reduceLE, Int.reduceLT, Int.reduceToNat, Int.reduceEq, ↓reduceIte, reduceCtorEq, Nat.reducePow, Nat.reduceAdd, Nat.reduceLeDiff, Nat.reduceLT, Nat.reduceSub, Nat.reduceEqDiff])⟩
  · simp only [lt_f hlt, h1, m1, h3, h4, rb, eES, eEX, Nat.reduceBEq, Int.reduceLE, Int.reduceLT, Int.reduceToNat, Int.reduceEq, ↓reduceIte, reduceCtorEq, Nat.reducePow, Nat.reduceAdd, Nat.reduceLeDiff, Nat.reduceLT, Nat.reduceSub, Nat.reduceEqDiff]
    refine awp_loop (LoI G E E 3 6) _ ⟨_, _, 0, b, rfl, rfl, (by first | rfl | exact h1 | simp only [h1, eES, eEX, Nat.reduceBEq, Int.reduceLE, Int.reduceLT, Int.reduceToNat, Int.reduceEq, ↓reduceIte, reduceCtorEq, Nat.reducePow, Nat.reduceAdd, Nat.reduceLeDiff, Nat.reduceLT, Nat.reduceSub, Nat.reduceEqDiff]), (by first | rfl | exact m1 | simp only [m1, eES, eEX, Nat.reduceBEq, Int.reduceLE, Int.reduceLT, Int.reduceToNat, Int.reduceEq, ↓reduceIte, reduceCtorEq, Nat.reducePow, Nat.reduceAdd, Nat.reduceLeDiff, Nat.reduceLT, Nat.reduceSub, Nat.reduceEqDiff]), (by first | rfl | exact h3 | simp only [h3, eES, eEX, Nat.reduceBEq, Int.reduceLE, Int.reduceLT, Int.reduceToNat, Int.reduceEq, ↓reduceIte, reduceCtorEq, Nat.reducePow, Nat.reduceAdd, Nat.reduceLeDiff, Nat.reduceLT, Nat.reduceSub, Nat.reduceEqDiff]), (by first | rfl | simp only [eES, eEX, Nat.reduceBEq, Int.reduceLE, Int.reduceLT, Int.reduceToNat, Int.reduceEq, ↓reduceIte, reduceCtorEq, Nat.reducePow, Nat.reduceAdd, Nat.reduceLeDiff, Nat.reduceLT, Nat.reduceSub, Nat.reduceEqDiff])⟩ ?_
    rintro _ st ⟨f, fr, i, b, rfl, rfl, h1, m1, h3, h6⟩
    simp only [l30_0, l30_1, l30_2, l30_3, g30_0, g30_1, g30_2, g30_3, g30_6, g30_7, g30_9, g30_8, g30_4, g30_10, g30_11, g30_14, g30_15, g30_17, g30_16, g30_12, g30_18, r30, o30, h1, m1, h3, h6, eES, eEX, Nat.reduceBEq, Int.reduceLE, Int.reduceLT, Int.reduceToNat, Int.reduceEq, ↓reduceIte, reduceCtorEq, Nat.reducePow, Nat.reduceAdd, Nat.reduceLeDiff, Nat.reduceLT, Nat.reduceSub, Nat.reduceEqDiff]
    by_cases hlt : i < E.length
    · obtain ⟨_, hc, s, eo, L, M, K, rfl, hs, hL, hI, hM, hS, hK, hN⟩ := getE hP.e hlt
      have e1 := wi64_s i _ hlt hP.le
      have key : ∀ Q : St → Prop, (∀ f' b', f' 1 = .ptr 0 1 0 → f' 3 = .bool b' → f' 6 = .int .i64 (i : Nat) → Q ⟨f', [fr], []⟩) → ∀ f', f' 1 = .ptr 0 1 0 → f' 3 = .bool b → f' 6 = .int .i64 (i : Nat) → aops Tryz.prog g30_13 ⟨f', [fr], []⟩ Q := by
        intro Q hQ f' h1 h3 h4
        cases i with
        | zero =>
          cases b <;> simp only [g30_0, g30_1, g30_2, g30_3, g30_5, g30_6, g30_7, g30_9, g30_8, g30_4, g30_10, g30_11, g30_13, g30_14, g30_15, g30_17, g30_16, g30_12, g30_18, r30, o30, zero_eq, h1, m1, h3, h4, eES, eEX, Nat.reduceBEq, Int.reduceLE, Int.reduceLT, Int.reduceToNat, Int.reduceEq, ↓reduceIte, reduceCtorEq, Nat.reducePow, Nat.reduceAdd, Nat.reduceLeDiff, Nat.reduceLT, Nat.reduceSub, Nat.reduceEqDiff]
          all_goals exact hQ _ _ (by first | rfl | exact h1 | simp only [h1, eES, eEX, Nat.reduceBEq, Int.reduceLE, Int.reduceLT, Int.reduceToNat, Int.reduceEq, ↓reduceIte, reduceCtorEq, Nat.reducePow, Nat.reduceAdd, Nat.reduceLeDiff, Nat.reduceLT, Nat.reduceSub, Nat.reduceEqDiff]) (by first | rfl | simp only [eES, eEX, Nat.reduceBEq, Int.reduceLE, Int.reduceLT, Int.reduceToNat, Int.reduceEq, ↓reduceIte, reduceCtorEq, Nat.reducePow, Nat.reduceAdd, Nat.reduceLeDiff, Nat.reduceLT, Nat.reduceSub, Nat.reduceEqDiff]) (by first | rfl | exact h4 | simp only [h4, eES, eEX, Nat.reduceBEq, Int.reduceLE, Int.reduceLT, Int.reduceToNat, Int.reduceEq, ↓reduceIte, reduceCtorEq, Nat.reducePow, Nat.reduceAdd, Nat.reduceLeDiff, Nat.reduceLT, Nat.reduceSub, Nat.reduceEqDiff])
        | succ k =>
          obtain ⟨_, hc', s', eo', L', M', K', rfl, _⟩ := getE hP.e (show k < E.length by omega)
          have e0 := wi64_p k _ hlt hP.le
          cases b <;> simp only [g30_0, g30_1, g30_2, g30_3, g30_5, g30_6, g30_7, g30_9, g30_8, g30_4, g30_10, g30_11, g30_13, g30_14, g30_15, g30_17, g30_16, g30_12, g30_18, r30, o30, succ_ne, e0, astr, nneg, Int.toNat_natCast, aiaddr, hc, hc', h1, m1, h3, h4, eES, eEX, Nat.reduceBEq, Int.reduceLE, Int.reduceLT, Int.reduceToNat, Int.reduceEq, ↓reduceIte, reduceCtorEq, Nat.reducePow, Nat.reduceAdd, Nat.reduceLeDiff, Nat.reduceLT, Nat.reduceSub, Nat.reduceEqDiff]
          all_goals exact hQ _ _ (by first | rfl | exact h1 | simp only [h1, eES, eEX, Nat.reduceBEq, Int.reduceLE, Int.reduceLT, Int.reduceToNat, Int.reduceEq, ↓reduceIte, reduceCtorEq, Nat.reducePow, Nat.reduceAdd, Nat.reduceLeDiff, Nat.reduceLT, Nat.reduceSub, Nat.reduceEqDiff]) (by first | rfl | simp only [eES, eEX, Nat.reduceBEq, Int.reduceLE, Int.reduceLT, Int.reduceToNat, Int.reduceEq, ↓reduceIte, reduceCtorEq, Nat.reducePow, Nat.reduceAdd, Nat.reduceLeDiff, Nat.reduceLT, Nat.reduceSub, Nat.reduceEqDiff]) (by first | rfl | exact h4 | simp only [h4, eES, eEX, Nat.reduceBEq, Int.reduceLE, Int.reduceLT, Int.reduceToNat, Int.reduceEq, ↓reduceIte, reduceCtorEq, Nat.reducePow, Nat.reduceAdd, Nat.reduceLeDiff, Nat.reduceLT, Nat.reduceSub, Nat.reduceEqDiff])
      simp only [lt_t hlt, h1, m1, h3, h6, eES, eEX, Nat.reduceBEq, Int.reduceLE, Int.reduceLT, Int.reduceToNat, Int.reduceEq, ↓reduceIte, reduceCtorEq, Nat.reducePow, Nat.reduceAdd, Nat.reduceLeDiff, Nat.reduceLT, Nat.reduceSub, Nat.reduceEqDiff]
      refine key _ (fun f' b h1 h3 h6 => ?_) _ (by first | rfl | exact h1 | simp only [h1, eES, eEX, Nat.reduceBEq, Int.reduceLE, Int.reduceLT, Int.reduceToNat, Int.reduceEq, ↓reduceIte, reduceCtorEq, Nat.reducePow, Nat.reduceAdd, Nat.reduceLeDiff, Nat.reduceLT, Nat.reduceSub, Nat.reduceEqDiff]) (by first | rfl | exact h3 | simp only [h3, eES, eEX, Nat.reduceBEq, Int.reduceLE, Int.reduceLT, Int.reduceToNat, Int.reduceEq, ↓reduceIte, reduceCtorEq, Nat.reducePow, Nat.reduceAdd, Nat.reduceLeDiff, Nat.reduceLT, Nat.reduceSub, Nat.reduceEqDiff]) (by first | rfl | exact h6 | simp only [h6, eES, eEX, Nat.reduceBEq, Int.reduceLE, Int.reduceLT, Int.reduceToNat, Int.reduceEq, ↓reduceIte, reduceCtorEq, Nat.reducePow, Nat.reduceAdd, Nat.reduceLeDiff, Nat.reduceLT, Nat.reduceSub, Nat.reduceEqDiff])
      simp only [h1, m1, h3, h6, eES, eEX, Nat.reduceBEq, Int.reduceLE, Int.reduceLT, Int.reduceToNat, Int.reduceEq, ↓reduceIte, reduceCtorEq, Nat.reducePow, Nat.reduceAdd, Nat.reduceLeDiff, Nat.reduceLT, Nat.reduceSub, Nat.reduceEqDiff]
      refine awp_loop (LoK G E L 3 6 7 i) _ ⟨_, _, 0, _, rfl, rfl, (by first | rfl | exact h1 | simp only [h1, eES, eEX, Nat.reduceBEq, Int.reduceLE, Int.reduceLT, Int.reduceToNat, Int.reduceEq, ↓reduceIte, reduceCtorEq, Nat.reducePow, Nat.reduceAdd, Nat.reduceLeDiff, Nat.reduceLT, Nat.reduceSub, Nat.reduceEqDiff]), (by first | rfl | exact m1 | simp only [m1, eES, eEX, Nat.reduceBEq, Int.reduceLE, Int.reduceLT, Int.reduceToNat, Int.reduceEq, ↓reduceIte, reduceCtorEq, Nat.reducePow, Nat.reduceAdd, Nat.reduceLeDiff, Nat.reduceLT, Nat.reduceSub, Nat.reduceEqDiff]), (by first | rfl | exact h3 | simp only [h3, eES, eEX, Nat.reduceBEq, Int.reduceLE, Int.reduceLT, Int.reduceToNat, Int.reduceEq, ↓reduceIte, reduceCtorEq, Nat.reducePow, Nat.reduceAdd, Nat.reduceLeDiff, Nat.reduceLT, Nat.reduceSub, Nat.reduceEqDiff]), (by first | rfl | exact h6 | simp only [h6, eES, eEX, Nat.reduceBEq, Int.reduceLE, Int.reduceLT, Int.reduceToNat, Int.reduceEq, ↓reduceIte, reduceCtorEq, Nat.reducePow, Nat.reduceAdd, Nat.reduceLeDiff, Nat.reduceLT, Nat.reduceSub, Nat.reduceEqDiff]), (by first | rfl | simp only [eES, eEX, Nat.reduceBEq, Int.reduceLE, Int.reduceLT, Int.reduceToNat, Int.reduceEq, ↓reduceIte, reduceCtorEq, Nat.reducePow, Nat.reduceAdd, Nat.reduceLeDiff, Nat.reduceLT, Nat.reduceSub, Nat.reduceEqDiff])⟩ ?_
      rintro _ st ⟨f, fr, j, b, rfl, rfl, h1, m1, h3, h6, h7⟩
      simp only [nneg, Int.toNat_natCast, aiaddr, hc, h1, m1, h3, h6, h7, eES, eEX, Nat.reduceBEq, Int.reduceLE, Int.reduceLT, Int.reduceToNat, Int.reduceEq, ↓reduceIte, reduceCtorEq, Nat.reducePow, Nat.reduceAdd, Nat.reduceLeDiff, Nat.reduceLT, Nat.reduceSub, Nat.reduceEqDiff]
      by_cases hlj : j + 1 < L.length
      · obtain ⟨_, hd, s2, n2, L2, rfl, hs2, hL2, hN2⟩ := getE hI hlj
        obtain ⟨_, hd', s3, n3, L3, rfl, hs3, hL3, hN3⟩ := getE hI (show j < L.length by omega)
        have e2 := wi64_s (j + 1) _ hlj hL
        have e3 := wi64_p j _ hlj hL
        cases b <;> simp only [lt_t hlj, nneg, Int.toNat_natCast, aiaddr, hc, hd, hd', h1, m1, h3, h6, h7, e2, e3, rb, eES, eEX, Nat.reduceBEq, Int.reduceLE, Int.reduceLT, Int.reduceToNat, Int.reduceEq, ↓reduceIte, reduceCtorEq, Nat.reducePow, Nat.reduceAdd, Nat.reduceLeDiff, Nat.reduceLT, Nat.reduceSub, Nat.reduceEqDiff]
        all_goals exact ⟨L.length - (j + 1 + 1), by omega, _, _, j + 1, _, rfl, rfl, (by first | rfl | exact h1 | simp only [h1, eES, eEX, Nat.reduceBEq, Int.reduceLE, Int.reduceLT, Int.reduceToNat, Int.reduceEq, ↓reduceIte, reduceCtorEq, Nat.reducePow, Nat.reduceAdd, Nat.reduceLeDiff, Nat.reduceLT, Nat.reduceSub, Nat.reduceEqDiff]), (by first | rfl | exact m1 | simp only [m1, eES, eEX, Nat.reduceBEq, Int.reduceLE, Int.reduceLT, Int.reduceToNat, Int.reduceEq, ↓reduceIte, reduceCtorEq, Nat.reducePow, Nat.reduceAdd, Nat.reduceLeDiff, Nat.reduceLT, Nat.reduceSub, Nat.reduceEqDiff]), (by first | rfl | simp only [eES, eEX, Nat.reduceBEq, Int.reduceLE, Int.reduceLT, Int.reduceToNat, Int.reduceEq, ↓reduceIte, reduceCtorEq, Nat.reducePow, Nat.reduceAdd, Nat.reduceLeDiff, Nat.reduceLT, Nat.reduceSub, Nat.reduceEqDiff]), (by first | rfl | exact h6 | simp only [h6, eES, eEX, Nat.reduceBEq, Int.reduceLE, Int.reduceLT, Int.reduceToNat, Int.reduceEq, ↓reduceIte, reduceCtorEq, Nat.reducePow, Nat.reduceAdd, Nat.reduceLeDiff, Nat.reduceLT, Nat.reduceSub, Nat.reduceEqDiff]), (by first | rfl | simp only [eES, eEX, Nat.reduceBEq, Int.reduceLE, Int.reduceLT, Int.reduceToNat, Int.reduceEq, ↓reduceIte, reduceCtorEq, Nat.reducePow, Nat.reduceAdd, Nat.reduceLeDiff, Nat.reduceLT, Nat.reduceSub, Nat.reduceEqDiff])⟩
      · simp only [lt_f hlj, h1, m1, h3, h6, h7, e1, rb, eES, eEX, Nat.reduceBEq, Int.reduceLE, Int.reduceLT, Int.reduceToNat, Int.reduceEq, ↓reduceIte, reduceCtorEq, Nat.reducePow, Nat.reduceAdd, Nat.reduceLeDiff, Nat.reduceLT, Nat.reduceSub, Nat.reduceEqDiff]
        exact ⟨E.length - (i + 1), by omega, _, _, i + 1, _, rfl, rfl, (by first | rfl | exact h1 | simp only [h1, eES, eEX, Nat.reduceBEq, Int.reduceLE, Int.reduceLT, Int.reduceToNat, Int.reduceEq, ↓reduceIte, reduceCtorEq, Nat.reducePow, Nat.reduceAdd, Nat.reduceLeDiff, Nat.reduceLT, Nat.reduceSub, Nat.reduceEqDiff]), (by first | rfl | exact m1 | simp only [m1, eES, eEX, Nat.reduceBEq, Int.reduceLE, Int.reduceLT, Int.reduceToNat, Int.reduceEq, ↓reduceIte, reduceCtorEq, Nat.reducePow, Nat.reduceAdd, Nat.reduceLeDiff, Nat.reduceLT, Nat.reduceSub, Nat.reduceEqDiff]), (by first | rfl | exact h3 | simp only [h3, eES, eEX, Nat.reduceBEq, Int.reduceLE, Int.reduceLT, Int.reduceToNat, Int.reduceEq, ↓reduceIte, reduceCtorEq, Nat.reducePow, Nat.reduceAdd, Nat.reduceLeDiff, Nat.reduceLT, Nat.reduceSub, Nat.reduceEqDiff]), (by first | rfl | simp only [eES, eEX, Nat.reduceBEq, Int.reduceLE, Int.reduceLT, Int.reduceToNat, Int.reduceEq, ↓reduceIte, reduceCtorEq, Nat.reducePow, Nat.reduceAdd, Nat.reduceLeDiff, Nat.reduceLT, Nat.reduceSub, Nat.reduceEqDiff])⟩
    · simp only [lt_f hlt, h1, m1, h3, h6, rb, eES, eEX, Nat.reduceBEq, Int.reduceLE, Int.reduceLT, Int.reduceToNat, Int.reduceEq, ↓reduceIte, reduceCtorEq, Nat.reducePow, Nat.reduceAdd, Nat.reduceLeDiff, Nat.reduceLT, Nat.reduceSub, Nat.reduceEqDiff]

end Go.Proofs.YtdmbncmbkocjjaaGreat.Va

/- Plans, as the specification examines them: names once, unions. -/
set_option linter.unusedSimpArgs false
namespace Go.Proofs.YtdmbncmbkocjjaaGreat.Va
open Go Am Rc Bt Br

/-- A loop over a list that lies in slot e. -/
def LoL (G E L : List AV) (a c e d : Nat) (j : Nat) (k : Nat) (st : St) : Prop :=
  ∃ f fr i b, st = ⟨f, [fr], []⟩ ∧ k = L.length - i ∧ f 1 = .ptr 0 1 0 ∧ fr 1 = .cells [.list G, .list E] ∧ f a = .bool b ∧ f c = .int .i64 (j : Nat) ∧ f e = .list L ∧ f d = .int .i64 (i : Nat)
/-- A loop up to the place d of such a loop. -/
def LoM (G E L : List AV) (a c e d g : Nat) (j i : Nat) (k : Nat) (st : St) : Prop :=
  ∃ f fr n b, st = ⟨f, [fr], []⟩ ∧ k = i - n ∧ f 1 = .ptr 0 1 0 ∧ fr 1 = .cells [.list G, .list E] ∧ f a = .bool b ∧ f c = .int .i64 (j : Nat) ∧ f e = .list L ∧ f d = .int .i64 (i : Nat) ∧ f g = .int .i64 (n : Nat)

theorem c31 (G E : List AV) (hP : IsP G E) : Fn? Tryz.prog 31 [pv G E] RB := by
  refine fnR_of_awp (rc := r31) (rs := o31) Tryz.func31 rfl rfl Tryz.ntmps31 k31 q31 (by simp) ?_
  simp only [g31_0, g31_1, g31_2, g31_3, g31_5, g31_6, g31_8, g31_7, g31_9, g31_10, g31_11, g31_13, g31_14, g31_16, g31_15, g31_12, g31_4, g31_17, g31_18, g31_20, g31_21, g31_22, g31_24, g31_25, g31_27, g31_26, g31_23, g31_19, g31_28, r31, o31, pv, eES, eEX, Nat.reduceBEq, Int.reduceLE, Int.reduceLT, Int.reduceToNat, Int.reduceEq, ↓reduceIte, reduceCtorEq, Nat.reducePow, Nat.reduceAdd, Nat.reduceLeDiff, Nat.reduceLT, Nat.reduceSub, Nat.reduceEqDiff]
  refine awp_loop (LoI G E G 3 4) _ ⟨_, _, 0, _, rfl, rfl, rfl, rfl, rfl, rfl⟩ ?_
  rintro _ st ⟨f, fr, i, b, rfl, rfl, h1, m1, h3, h4⟩
  simp only [l31_0, l31_1, l31_2, l31_3, l31_4, l31_5, l31_6, g31_0, g31_1, g31_2, g31_3, g31_5, g31_6, g31_8, g31_7, g31_9, g31_10, g31_11, g31_13, g31_14, g31_16, g31_15, g31_12, g31_4, g31_17, g31_18, g31_20, g31_21, g31_22, g31_24, g31_25, g31_27, g31_26, g31_23, g31_19, g31_28, r31, o31, h1, m1, h3, h4, eES, eEX, Nat.reduceBEq, Int.reduceLE, Int.reduceLT, Int.reduceToNat, Int.reduceEq, ↓reduceIte, reduceCtorEq, Nat.reducePow, Nat.reduceAdd, Nat.reduceLeDiff, Nat.reduceLT, Nat.reduceSub, Nat.reduceEqDiff]
  by_cases hlt : i < G.length
  · obtain ⟨_, hc, s, L, u, rfl, hs, hL, hO⟩ := getE hP.g hlt
    have e1 := wi64_s i _ hlt hP.lg
    simp only [lt_t hlt, h1, m1, h3, h4, eES, eEX, Nat.reduceBEq, Int.reduceLE, Int.reduceLT, Int.reduceToNat, Int.reduceEq, ↓reduceIte, reduceCtorEq, Nat.reducePow, Nat.reduceAdd, Nat.reduceLeDiff, Nat.reduceLT, Nat.reduceSub, Nat.reduceEqDiff]
    refine awp_loop (LoJ G E E 3 4 5 i) _ ⟨_, _, 0, _, rfl, rfl, (by first | rfl | exact h1 | simp only [h1, eES, eEX, Nat.reduceBEq, Int.reduceLE, Int.reduceLT, Int.reduceToNat, Int.reduceEq, ↓reduceIte, reduceCtorEq, Nat.reducePow, Nat.reduceAdd, Nat.reduceLeDiff, Nat.reduceLT, Nat.reduceSub, Nat.reduceEqDiff]), (by first | rfl | exact m1 | simp only [m1, eES, eEX, Nat.reduceBEq, Int.reduceLE, Int.reduceLT, Int.reduceToNat, Int.reduceEq, ↓reduceIte, reduceCtorEq, Nat.reducePow, Nat.reduceAdd, Nat.reduceLeDiff, Nat.reduceLT, Nat.reduceSub, Nat.reduceEqDiff]), (by first | rfl | exact h3 | simp only [h3, eES, eEX, Nat.reduceBEq, Int.reduceLE, Int.reduceLT, Int.reduceToNat, Int.reduceEq, ↓reduceIte, reduceCtorEq, Nat.reducePow, Nat.reduceAdd, Nat.reduceLeDiff, Nat.reduceLT, Nat.reduceSub, Nat.reduceEqDiff]), (by first | rfl | exact h4 | simp only [h4, eES, eEX, Nat.reduceBEq, Int.reduceLE, Int.reduceLT, Int.reduceToNat, Int.reduceEq, ↓reduceIte, reduceCtorEq, Nat.reducePow, Nat.reduceAdd, Nat.reduceLeDiff, Nat.reduceLT, Nat.reduceSub, Nat.reduceEqDiff]), (by first | rfl | simp only [eES, eEX, Nat.reduceBEq, Int.reduceLE, Int.reduceLT, Int.reduceToNat, Int.reduceEq, ↓reduceIte, reduceCtorEq, Nat.reducePow, Nat.reduceAdd, Nat.reduceLeDiff, Nat.reduceLT, Nat.reduceSub, Nat.reduceEqDiff])⟩ ?_
    rintro _ st ⟨f, fr, j, b, rfl, rfl, h1, m1, h3, h4, h5⟩
    simp only [h1, m1, h3, h4, h5, eES, eEX, Nat.reduceBEq, Int.reduceLE, Int.reduceLT, Int.reduceToNat, Int.reduceEq, ↓reduceIte, reduceCtorEq, Nat.reducePow, Nat.reduceAdd, Nat.reduceLeDiff, Nat.reduceLT, Nat.reduceSub, Nat.reduceEqDiff]
    by_cases hlj : j < E.length
    · obtain ⟨_, hd, s2, eo, L2, M2, K2, rfl, hs2, hL2, hI2, hM2, hS2, hK2, hN2⟩ := getE hP.e hlj
      have e2 := wi64_s j _ hlj hP.le
      cases b <;> simp only [lt_t hlj, astr, nneg, Int.toNat_natCast, aiaddr, hc, hd, h1, m1, h3, h4, h5, e2, rb, eES, eEX, Nat.reduceBEq, Int.reduceLE, Int.reduceLT, Int.reduceToNat, Int.reduceEq, ↓reduceIte, reduceCtorEq, Nat.reducePow, Nat.reduceAdd, Nat.reduceLeDiff, Nat.reduceLT, Nat.reduceSub, Nat.reduceEqDiff]
      all_goals exact ⟨E.length - (j + 1), by omega, _, _, j + 1, _, rfl, rfl, (by first | rfl | exact h1 | simp only [h1, eES, eEX, Nat.reduceBEq, Int.reduceLE, Int.reduceLT, Int.reduceToNat, Int.reduceEq, ↓reduceIte, reduceCtorEq, Nat.reducePow, Nat.reduceAdd, Nat.reduceLeDiff, Nat.reduceLT, Nat.reduceSub, Nat.reduceEqDiff]), (by first | rfl | exact m1 | simp only [m1, eES, eEX, Nat.reduceBEq, Int.reduceLE, Int.reduceLT, Int.reduceToNat, Int.reduceEq, ↓reduceIte, reduceCtorEq, Nat.reducePow, Nat.reduceAdd, Nat.reduceLeDiff, Nat.reduceLT, Nat.reduceSub, Nat.reduceEqDiff]), (by first | rfl | simp only [eES, eEX, Nat.reduceBEq, Int.reduceLE, Int.reduceLT, Int.reduceToNat, Int.reduceEq, ↓reduceIte, reduceCtorEq, Nat.reducePow, Nat.reduceAdd, Nat.reduceLeDiff, Nat.reduceLT, Nat.reduceSub, Nat.reduceEqDiff]), (by first | rfl | exact h4 | simp only [h4, eES, eEX, Nat.reduceBEq, Int.reduceLE, Int.reduceLT, Int.reduceToNat, Int.reduceEq, ↓reduceIte, reduceCtorEq, Nat.reducePow, Nat.reduceAdd, Nat.reduceLeDiff, Nat.reduceLT, Nat.reduceSub, Nat.reduceEqDiff]), (by first | rfl | simp only [eES, eEX, Nat.reduceBEq, Int.reduceLE, Int.reduceLT, Int.reduceToNat, Int.reduceEq, ↓reduceIte, reduceCtorEq, Nat.reducePow, Nat.reduceAdd, Nat.reduceLeDiff, Nat.reduceLT, Nat.reduceSub, Nat.reduceEqDiff])⟩
    · simp only [lt_f hlj, nneg, Int.toNat_natCast, aiaddr, hc, h1, m1, h3, h4, h5, e1, rb, eES, eEX, Nat.reduceBEq, Int.reduceLE, Int.reduceLT, Int.reduceToNat, Int.reduceEq, ↓reduceIte, reduceCtorEq, Nat.reducePow, Nat.reduceAdd, Nat.reduceLeDiff, Nat.reduceLT, Nat.reduceSub, Nat.reduceEqDiff]
      refine awp_loop (LoL G E L 3 4 6 7 i) _ ⟨_, _, 0, _, rfl, rfl, (by first | rfl | exact h1 | simp only [h1, eES, eEX, Nat.reduceBEq, Int.reduceLE, Int.reduceLT, Int.reduceToNat, Int.reduceEq, ↓reduceIte, reduceCtorEq, Nat.reducePow, Nat.reduceAdd, Nat.reduceLeDiff, Nat.reduceLT, Nat.reduceSub, Nat.reduceEqDiff]), (by first | rfl | exact m1 | simp only [m1, eES, eEX, Nat.reduceBEq, Int.reduceLE, Int.reduceLT, Int.reduceToNat, Int.reduceEq, ↓reduceIte, reduceCtorEq, Nat.reducePow, Nat.reduceAdd, Nat.reduceLeDiff, Nat.reduceLT, Nat.reduceSub, Nat.reduceEqDiff]), (by first | rfl | exact h3 | simp only [h3, eES, eEX, Nat.reduceBEq, Int.reduceLE, Int.reduceLT, Int.reduceToNat, Int.reduceEq, ↓reduceIte, reduceCtorEq, Nat.reducePow, Nat.reduceAdd, Nat.reduceLeDiff, Nat.reduceLT, Nat.reduceSub, Nat.reduceEqDiff]), (by first | rfl | exact h4 | simp only [h4, eES, eEX, Nat.reduceBEq, Int.reduceLE, Int.reduceLT, Int.reduceToNat, Int.reduceEq, ↓reduceIte, reduceCtorEq, Nat.reducePow, Nat.reduceAdd, Nat.reduceLeDiff, Nat.reduceLT, Nat.reduceSub, Nat.reduceEqDiff]), (by first | rfl | simp only [eES, eEX, Nat.reduceBEq, Int.reduceLE, Int.reduceLT, Int.reduceToNat, Int.reduceEq, ↓reduceIte, reduceCtorEq, Nat.reducePow, Nat.reduceAdd, Nat.reduceLeDiff, Nat.reduceLT, Nat.reduceSub, Nat.reduceEqDiff]), (by first | rfl | simp only [eES, eEX, Nat.reduceBEq, Int.reduceLE, Int.reduceLT, Int.reduceToNat, Int.reduceEq, ↓reduceIte, reduceCtorEq, Nat.reducePow, Nat.reduceAdd, Nat.reduceLeDiff, Nat.reduceLT, Nat.reduceSub, Nat.reduceEqDiff])⟩ ?_
      rintro _ st ⟨f, fr, j, b, rfl, rfl, h1, m1, h3, h4, h6, h7⟩
      simp only [h1, m1, h3, h4, h6, h7, eES, eEX, Nat.reduceBEq, Int.reduceLE, Int.reduceLT, Int.reduceToNat, Int.reduceEq, ↓reduceIte, reduceCtorEq, Nat.reducePow, Nat.reduceAdd, Nat.reduceLeDiff, Nat.reduceLT, Nat.reduceSub, Nat.reduceEqDiff]
      by_cases hlj : j < L.length
      · obtain ⟨_, hd, o, ho, rfl⟩ := getE hO hlj
        have e2 := wi64_s j _ hlj hL
        simp only [lt_t hlj, h1, m1, h3, h4, h6, h7, eES, eEX, Nat.reduceBEq, Int.reduceLE, Int.reduceLT, Int.reduceToNat, Int.reduceEq, ↓reduceIte, reduceCtorEq, Nat.reducePow, Nat.reduceAdd, Nat.reduceLeDiff, Nat.reduceLT, Nat.reduceSub, Nat.reduceEqDiff]
        refine awp_loop (LoM G E L 3 4 6 7 8 i j) _ ⟨_, _, 0, _, rfl, rfl, (by first | rfl | exact h1 | simp only [h1, eES, eEX, Nat.reduceBEq, Int.reduceLE, Int.reduceLT, Int.reduceToNat, Int.reduceEq, ↓reduceIte, reduceCtorEq, Nat.reducePow, Nat.reduceAdd, Nat.reduceLeDiff, Nat.reduceLT, Nat.reduceSub, Nat.reduceEqDiff]), (by first | rfl | exact m1 | simp only [m1, eES, eEX, Nat.reduceBEq, Int.reduceLE, Int.reduceLT, Int.reduceToNat, Int.reduceEq, ↓reduceIte, reduceCtorEq, Nat.reducePow, Nat.reduceAdd, Nat.reduceLeDiff, Nat.reduceLT, Nat.reduceSub, Nat.reduceEqDiff]), (by first | rfl | exact h3 | simp only [h3, eES, eEX, Nat.reduceBEq, Int.reduceLE, Int.reduceLT, Int.reduceToNat, Int.reduceEq, ↓reduceIte, reduceCtorEq, Nat.reducePow, Nat.reduceAdd, Nat.reduceLeDiff, Nat.reduceLT, Nat.reduceSub, Nat.reduceEqDiff]), (by first | rfl | exact h4 | simp only [h4, eES, eEX, Nat.reduceBEq, Int.reduceLE, Int.reduceLT, Int.reduceToNat, Int.reduceEq, ↓reduceIte, reduceCtorEq, Nat.reducePow, Nat.reduceAdd, Nat.reduceLeDiff, Nat.reduceLT, Nat.reduceSub, Nat.reduceEqDiff]), (by first | rfl | exact h6 | simp only [h6, eES, eEX, Nat.reduceBEq, Int.reduceLE, Int.reduceLT, Int.reduceToNat, Int.reduceEq, ↓reduceIte, reduceCtorEq, Nat.reducePow, Nat.reduceAdd, Nat.reduceLeDiff, Nat.reduceLT, Nat.reduceSub, Nat.reduceEqDiff]), (by first | rfl | exact h7 | simp only [h7, eES, eEX, Nat.reduceBEq, Int.reduceLE, Int.reduceLT, Int.reduceToNat, Int.reduceEq, ↓reduceIte, reduceCtorEq, Nat.reducePow, Nat.reduceAdd, Nat.reduceLeDiff, Nat.reduceLT, Nat.reduceSub, Nat.reduceEqDiff]), (by first | rfl | simp only [eES, eEX, Nat.reduceBEq, Int.reduceLE, Int.reduceLT, Int.reduceToNat, Int.reduceEq, ↓reduceIte, reduceCtorEq, Nat.reducePow, Nat.reduceAdd, Nat.reduceLeDiff, Nat.reduceLT, Nat.reduceSub, Nat.reduceEqDiff])⟩ ?_
        rintro _ st ⟨f, fr, n, b, rfl, rfl, h1, m1, h3, h4, h6, h7, h8⟩
        simp only [h1, m1, h3, h4, h6, h7, h8, eES, eEX, Nat.reduceBEq, Int.reduceLE, Int.reduceLT, Int.reduceToNat, Int.reduceEq, ↓reduceIte, reduceCtorEq, Nat.reducePow, Nat.reduceAdd, Nat.reduceLeDiff, Nat.reduceLT, Nat.reduceSub, Nat.reduceEqDiff]
        by_cases hln : n < j
        · obtain ⟨_, hd', o', ho', rfl⟩ := getE hO (show n < L.length by omega)
          have e3 := wi64_s n L.length (by omega) hL
          cases b <;> simp only [lt_t hln, PO.cells, astr, nneg, Int.toNat_natCast, aiaddr, hd, hd', h1, m1, h3, h4, h6, h7, h8, e3, rb, eES, eEX, Nat.reduceBEq, Int.reduceLE, Int.reduceLT, Int.reduceToNat, Int.reduceEq, ↓reduceIte, reduceCtorEq, Nat.reducePow, Nat.reduceAdd, Nat.reduceLeDiff, Nat.reduceLT, Nat.reduceSub, Nat.reduceEqDiff]
          all_goals exact ⟨j - (n + 1), by omega, _, _, n + 1, _, rfl, rfl, (by first | rfl | exact h1 | simp only [h1, eES, eEX, Nat.reduceBEq, Int.reduceLE, Int.reduceLT, Int.reduceToNat, Int.reduceEq, ↓reduceIte, reduceCtorEq, Nat.reducePow, Nat.reduceAdd, Nat.reduceLeDiff, Nat.reduceLT, Nat.reduceSub, Nat.reduceEqDiff]), (by first | rfl | exact m1 | simp only [m1, eES, eEX, Nat.reduceBEq, Int.reduceLE, Int.reduceLT, Int.reduceToNat, Int.reduceEq, ↓reduceIte, reduceCtorEq, Nat.reducePow, Nat.reduceAdd, Nat.reduceLeDiff, Nat.reduceLT, Nat.reduceSub, Nat.reduceEqDiff]), (by first | rfl | simp only [eES, eEX, Nat.reduceBEq, Int.reduceLE, Int.reduceLT, Int.reduceToNat, Int.reduceEq, ↓reduceIte, reduceCtorEq, Nat.reducePow, Nat.reduceAdd, Nat.reduceLeDiff, Nat.reduceLT, Nat.reduceSub, Nat.reduceEqDiff]), (by first | rfl | exact h4 | simp only [h4, eES, eEX, Nat.reduceBEq, Int.reduceLE, Int.reduceLT, Int.reduceToNat, Int.reduceEq, ↓reduceIte, reduceCtorEq, Nat.reducePow, Nat.reduceAdd, Nat.reduceLeDiff, Nat.reduceLT, Nat.reduceSub, Nat.reduceEqDiff]), (by first | rfl | exact h6 | simp only [h6, eES, eEX, Nat.reduceBEq, Int.reduceLE, Int.reduceLT, Int.reduceToNat, Int.reduceEq, ↓reduceIte, reduceCtorEq, Nat.reducePow, Nat.reduceAdd, Nat.reduceLeDiff, Nat.reduceLT, Nat.reduceSub, Nat.reduceEqDiff]), (by first | rfl | exact h7 | simp only [h7, eES, eEX, Nat.reduceBEq, Int.reduceLE, Int.reduceLT, Int.reduceToNat, Int.reduceEq, ↓reduceIte, reduceCtorEq, Nat.reducePow, Nat.reduceAdd, Nat.reduceLeDiff, Nat.reduceLT, Nat.reduceSub, Nat.reduceEqDiff]), (by first | rfl | simp only [eES, eEX, Nat.reduceBEq, Int.reduceLE, Int.reduceLT, Int.reduceToNat, Int.reduceEq, ↓reduceIte, reduceCtorEq, Nat.reducePow, Nat.reduceAdd, Nat.reduceLeDiff, Nat.reduceLT, Nat.reduceSub, Nat.reduceEqDiff])⟩
        · simp only [lt_f hln, h1, m1, h3, h4, h6, h7, h8, e2, rb, eES, eEX, Nat.reduceBEq, Int.reduceLE, Int.reduceLT, Int.reduceToNat, Int.reduceEq, ↓reduceIte, reduceCtorEq, Nat.reducePow, Nat.reduceAdd, Nat.reduceLeDiff, Nat.reduceLT, Nat.reduceSub, Nat.reduceEqDiff]
          exact ⟨L.length - (j + 1), by omega, _, _, j + 1, _, rfl, rfl, (by first | rfl | exact h1 | simp only [h1, eES, eEX, Nat.reduceBEq, Int.reduceLE, Int.reduceLT, Int.reduceToNat, Int.reduceEq, ↓reduceIte, reduceCtorEq, Nat.reducePow, Nat.reduceAdd, Nat.reduceLeDiff, Nat.reduceLT, Nat.reduceSub, Nat.reduceEqDiff]), (by first | rfl | exact m1 | simp only [m1, eES, eEX, Nat.reduceBEq, Int.reduceLE, Int.reduceLT, Int.reduceToNat, Int.reduceEq, ↓reduceIte, reduceCtorEq, Nat.reducePow, Nat.reduceAdd, Nat.reduceLeDiff, Nat.reduceLT, Nat.reduceSub, Nat.reduceEqDiff]), (by first | rfl | exact h3 | simp only [h3, eES, eEX, Nat.reduceBEq, Int.reduceLE, Int.reduceLT, Int.reduceToNat, Int.reduceEq, ↓reduceIte, reduceCtorEq, Nat.reducePow, Nat.reduceAdd, Nat.reduceLeDiff, Nat.reduceLT, Nat.reduceSub, Nat.reduceEqDiff]), (by first | rfl | exact h4 | simp only [h4, eES, eEX, Nat.reduceBEq, Int.reduceLE, Int.reduceLT, Int.reduceToNat, Int.reduceEq, ↓reduceIte, reduceCtorEq, Nat.reducePow, Nat.reduceAdd, Nat.reduceLeDiff, Nat.reduceLT, Nat.reduceSub, Nat.reduceEqDiff]), (by first | rfl | exact h6 | simp only [h6, eES, eEX, Nat.reduceBEq, Int.reduceLE, Int.reduceLT, Int.reduceToNat, Int.reduceEq, ↓reduceIte, reduceCtorEq, Nat.reducePow, Nat.reduceAdd, Nat.reduceLeDiff, Nat.reduceLT, Nat.reduceSub, Nat.reduceEqDiff]), (by first | rfl | simp only [eES, eEX, Nat.reduceBEq, Int.reduceLE, Int.reduceLT, Int.reduceToNat, Int.reduceEq, ↓reduceIte, reduceCtorEq, Nat.reducePow, Nat.reduceAdd, Nat.reduceLeDiff, Nat.reduceLT, Nat.reduceSub, Nat.reduceEqDiff])⟩
      · simp only [lt_f hlj, h1, m1, h3, h4, h6, h7, e1, rb, eES, eEX, Nat.reduceBEq, Int.reduceLE, Int.reduceLT, Int.reduceToNat, Int.reduceEq, ↓reduceIte, reduceCtorEq, Nat.reducePow, Nat.reduceAdd, Nat.reduceLeDiff, Nat.reduceLT, Nat.reduceSub, Nat.reduceEqDiff]
        exact ⟨G.length - (i + 1), by omega, _, _, i + 1, _, rfl, rfl, (by first | rfl | exact h1 | simp only [h1, eES, eEX, Nat.reduceBEq, Int.reduceLE, Int.reduceLT, Int.reduceToNat, Int.reduceEq, ↓reduceIte, reduceCtorEq, Nat.reducePow, Nat.reduceAdd, Nat.reduceLeDiff, Nat.reduceLT, Nat.reduceSub, Nat.reduceEqDiff]), (by first | rfl | exact m1 | simp only [m1, eES, eEX, Nat.reduceBEq, Int.reduceLE, Int.reduceLT, Int.reduceToNat, Int.reduceEq, ↓reduceIte, reduceCtorEq, Nat.reducePow, Nat.reduceAdd, Nat.reduceLeDiff, Nat.reduceLT, Nat.reduceSub, Nat.reduceEqDiff]), (by first | rfl | exact h3 | simp only [h3, eES, eEX, Nat.reduceBEq, Int.reduceLE, Int.reduceLT, Int.reduceToNat, Int.reduceEq, ↓reduceIte, reduceCtorEq, Nat.reducePow, Nat.reduceAdd, Nat.reduceLeDiff, Nat.reduceLT, Nat.reduceSub, Nat.reduceEqDiff]), (by first | rfl | simp only [eES, eEX, Nat.reduceBEq, Int.reduceLE, Int.reduceLT, Int.reduceToNat, Int.reduceEq, ↓reduceIte, reduceCtorEq, Nat.reducePow, Nat.reduceAdd, Nat.reduceLeDiff, Nat.reduceLT, Nat.reduceSub, Nat.reduceEqDiff])⟩
  · simp only [lt_f hlt, h1, m1, h3, h4, rb, eES, eEX, Nat.reduceBEq, Int.reduceLE, Int.reduceLT, Int.reduceToNat, Int.reduceEq, ↓reduceIte, reduceCtorEq, Nat.reducePow, Nat.reduceAdd, Nat.reduceLeDiff, Nat.reduceLT, Nat.reduceSub, Nat.reduceEqDiff]
    refine awp_loop (LoI G E E 3 9) _ ⟨_, _, 0, b, rfl, rfl, (by first | rfl | exact h1 | simp only [h1, eES, eEX, Nat.reduceBEq, Int.reduceLE, Int.reduceLT, Int.reduceToNat, Int.reduceEq, ↓reduceIte, reduceCtorEq, Nat.reducePow, Nat.reduceAdd, Nat.reduceLeDiff, Nat.reduceLT, Nat.reduceSub, Nat.reduceEqDiff]), (by first | rfl | exact m1 | simp only [m1, eES, eEX, Nat.reduceBEq, Int.reduceLE, Int.reduceLT, Int.reduceToNat, Int.reduceEq, ↓reduceIte, reduceCtorEq, Nat.reducePow, Nat.reduceAdd, Nat.reduceLeDiff, Nat.reduceLT, Nat.reduceSub, Nat.reduceEqDiff]), (by first | rfl | exact h3 | simp only [h3, eES, eEX, Nat.reduceBEq, Int.reduceLE, Int.reduceLT, Int.reduceToNat, Int.reduceEq, ↓reduceIte, reduceCtorEq, Nat.reducePow, Nat.reduceAdd, Nat.reduceLeDiff, Nat.reduceLT, Nat.reduceSub, Nat.reduceEqDiff]), (by first | rfl | simp only [eES, eEX, Nat.reduceBEq, Int.reduceLE, Int.reduceLT, Int.reduceToNat, Int.reduceEq, ↓reduceIte, reduceCtorEq, Nat.reducePow, Nat.reduceAdd, Nat.reduceLeDiff, Nat.reduceLT, Nat.reduceSub, Nat.reduceEqDiff])⟩ ?_
    rintro _ st ⟨f, fr, i, b, rfl, rfl, h1, m1, h3, h9⟩
    simp only [h1, m1, h3, h9, eES, eEX, Nat.reduceBEq, Int.reduceLE, Int.reduceLT, Int.reduceToNat, Int.reduceEq, ↓reduceIte, reduceCtorEq, Nat.reducePow, Nat.reduceAdd, Nat.reduceLeDiff, Nat.reduceLT, Nat.reduceSub, Nat.reduceEqDiff]
    by_cases hlt : i < E.length
    · obtain ⟨_, hc, s, eo, L, M, K, rfl, hs, hL, hI, hM, hS, hK, hN⟩ := getE hP.e hlt
      have e1 := wi64_s i _ hlt hP.le
      simp only [lt_t hlt, nneg, Int.toNat_natCast, aiaddr, hc, h1, m1, h3, h9, e1, rb, eES, eEX, Nat.reduceBEq, Int.reduceLE, Int.reduceLT, Int.reduceToNat, Int.reduceEq, ↓reduceIte, reduceCtorEq, Nat.reducePow, Nat.reduceAdd, Nat.reduceLeDiff, Nat.reduceLT, Nat.reduceSub, Nat.reduceEqDiff]
      refine awp_loop (LoL G E L 3 9 10 11 i) _ ⟨_, _, 0, _, rfl, rfl, (by first | rfl | exact h1 | simp only [h1, eES, eEX, Nat.reduceBEq, Int.reduceLE, Int.reduceLT, Int.reduceToNat, Int.reduceEq, ↓reduceIte, reduceCtorEq, Nat.reducePow, Nat.reduceAdd, Nat.reduceLeDiff, Nat.reduceLT, Nat.reduceSub, Nat.reduceEqDiff]), (by first | rfl | exact m1 | simp only [m1, eES, eEX, Nat.reduceBEq, Int.reduceLE, Int.reduceLT, Int.reduceToNat, Int.reduceEq, ↓reduceIte, reduceCtorEq, Nat.reducePow, Nat.reduceAdd, Nat.reduceLeDiff, Nat.reduceLT, Nat.reduceSub, Nat.reduceEqDiff]), (by first | rfl | exact h3 | simp only [h3, eES, eEX, Nat.reduceBEq, Int.reduceLE, Int.reduceLT, Int.reduceToNat, Int.reduceEq, ↓reduceIte, reduceCtorEq, Nat.reducePow, Nat.reduceAdd, Nat.reduceLeDiff, Nat.reduceLT, Nat.reduceSub, Nat.reduceEqDiff]), (by first | rfl | exact h9 | simp only [h9, eES, eEX, Nat.reduceBEq, Int.reduceLE, Int.reduceLT, Int.reduceToNat, Int.reduceEq, ↓reduceIte, reduceCtorEq, Nat.reducePow, Nat.reduceAdd, Nat.reduceLeDiff, Nat.reduceLT, Nat.reduceSub, Nat.reduceEqDiff]), (by first | rfl | simp only [eES, eEX, Nat.reduceBEq, Int.reduceLE, Int.reduceLT, Int.reduceToNat, Int.reduceEq, ↓reduceIte, reduceCtorEq, Nat.reducePow, Nat.reduceAdd, Nat.reduceLeDiff, Nat.reduceLT, Nat.reduceSub, Nat.reduceEqDiff]), (by first | rfl | simp only [eES, eEX, Nat.reduceBEq, Int.reduceLE, Int.reduceLT, Int.reduceToNat, Int.reduceEq, ↓reduceIte, reduceCtorEq, Nat.reducePow, Nat.reduceAdd, Nat.reduceLeDiff, Nat.reduceLT, Nat.reduceSub, Nat.reduceEqDiff])⟩ ?_
      rintro _ st ⟨f, fr, j, b, rfl, rfl, h1, m1, h3, h9, h10, h11⟩
      simp only [h1, m1, h3, h9, h10, h11, eES, eEX, Nat.reduceBEq, Int.reduceLE, Int.reduceLT, Int.reduceToNat, Int.reduceEq, ↓reduceIte, reduceCtorEq, Nat.reducePow, Nat.reduceAdd, Nat.reduceLeDiff, Nat.reduceLT, Nat.reduceSub, Nat.reduceEqDiff]
      by_cases hlj : j < L.length
      · obtain ⟨_, hd, s2, n2, L2, rfl, hs2, hL2, hN2⟩ := getE hI hlj
        have e2 := wi64_s j _ hlj hL
        simp only [lt_t hlj, h1, m1, h3, h9, h10, h11, eES, eEX, Nat.reduceBEq, Int.reduceLE, Int.reduceLT, Int.reduceToNat, Int.reduceEq, ↓reduceIte, reduceCtorEq, Nat.reducePow, Nat.reduceAdd, Nat.reduceLeDiff, Nat.reduceLT, Nat.reduceSub, Nat.reduceEqDiff]
        refine awp_loop (LoM G E L 3 9 10 11 12 i j) _ ⟨_, _, 0, _, rfl, rfl, (by first | rfl | exact h1 | simp only [h1, eES, eEX, Nat.reduceBEq, Int.reduceLE, Int.reduceLT, Int.reduceToNat, Int.reduceEq, ↓reduceIte, reduceCtorEq, Nat.reducePow, Nat.reduceAdd, Nat.reduceLeDiff, Nat.reduceLT, Nat.reduceSub, Nat.reduceEqDiff]), (by first | rfl | exact m1 | simp only [m1, eES, eEX, Nat.reduceBEq, Int.reduceLE, Int.reduceLT, Int.reduceToNat, Int.reduceEq, ↓reduceIte, reduceCtorEq, Nat.reducePow, Nat.reduceAdd, Nat.reduceLeDiff, Nat.reduceLT, Nat.reduceSub, Nat.reduceEqDiff]), (by first | rfl | exact h3 | simp only [h3, eES, eEX, Nat.reduceBEq, Int.reduceLE, Int.reduceLT, Int.reduceToNat, Int.reduceEq, ↓reduceIte, reduceCtorEq, Nat.reducePow, Nat.reduceAdd, Nat.reduceLeDiff, Nat.reduceLT, Nat.reduceSub, Nat.reduceEqDiff]), (by first | rfl | exact h9 | simp only [h9, eES, eEX, Nat.reduceBEq, Int.reduceLE, Int.reduceLT, Int.reduceToNat, Int.reduceEq, ↓reduceIte, reduceCtorEq, Nat.reducePow, Nat.reduceAdd, Nat.reduceLeDiff, Nat.reduceLT, Nat.reduceSub, Nat.reduceEqDiff]), (by first | rfl | exact h10 | simp only [h10, eES, eEX, Nat.reduceBEq, Int.reduceLE, Int.reduceLT, Int.reduceToNat, Int.reduceEq, ↓reduceIte, reduceCtorEq, Nat.reducePow, Nat.reduceAdd, Nat.reduceLeDiff, Nat.reduceLT, Nat.reduceSub, Nat.reduceEqDiff]), (by first | rfl | exact h11 | simp only [h11, eES, eEX, Nat.reduceBEq, Int.reduceLE, Int.reduceLT, Int.reduceToNat, Int.reduceEq, ↓reduceIte, reduceCtorEq, Nat.reducePow, Nat.reduceAdd, Nat.reduceLeDiff, Nat.reduceLT, Nat.reduceSub, Nat.reduceEqDiff]), (by first | rfl | simp only [eES, eEX, Nat.reduceBEq, Int.reduceLE, Int.reduceLT, Int.reduceToNat, Int.reduceEq, ↓reduceIte, reduceCtorEq, Nat.reducePow, Nat.reduceAdd, Nat.reduceLeDiff, Nat.reduceLT, Nat.reduceSub, Nat.reduceEqDiff])⟩ ?_
        rintro _ st ⟨f, fr, n, b, rfl, rfl, h1, m1, h3, h9, h10, h11, h12⟩
        simp only [h1, m1, h3, h9, h10, h11, h12, eES, eEX, Nat.reduceBEq, Int.reduceLE, Int.reduceLT, Int.reduceToNat, Int.reduceEq, ↓reduceIte, reduceCtorEq, Nat.reducePow, Nat.reduceAdd, Nat.reduceLeDiff, Nat.reduceLT, Nat.reduceSub, Nat.reduceEqDiff]
        by_cases hln : n < j
        · obtain ⟨_, hd', s3, n3, L3, rfl, hs3, hL3, hN3⟩ := getE hI (show n < L.length by omega)
          have e3 := wi64_s n L.length (by omega) hL
          cases b <;> simp only [lt_t hln, astr, nneg, Int.toNat_natCast, aiaddr, hd, hd', h1, m1, h3, h9, h10, h11, h12, e3, rb, eES, eEX, Nat.reduceBEq, Int.reduceLE, Int.reduceLT, Int.reduceToNat, Int.reduceEq, ↓reduceIte, reduceCtorEq, Nat.reducePow, Nat.reduceAdd, Nat.reduceLeDiff, Nat.reduceLT, Nat.reduceSub, Nat.reduceEqDiff]
          all_goals exact ⟨j - (n + 1), by omega, _, _, n + 1, _, rfl, rfl, (by first | rfl | exact h1 | simp only [h1, eES, eEX, Nat.reduceBEq, Int.reduceLE, Int.reduceLT, Int.reduceToNat, Int.reduceEq, ↓reduceIte, reduceCtorEq, Nat.reducePow, Nat.reduceAdd, Nat.reduceLeDiff, Nat.reduceLT, Nat.reduceSub, Nat.reduceEqDiff]), (by first | rfl | exact m1 | simp only [m1, eES, eEX, Nat.reduceBEq, Int.reduceLE, Int.reduceLT, Int.reduceToNat, Int.reduceEq, ↓reduceIte, reduceCtorEq, Nat.reducePow, Nat.reduceAdd, Nat.reduceLeDiff, Nat.reduceLT, Nat.reduceSub, Nat.reduceEqDiff]), (by first | rfl | simp only [eES, eEX, Nat.reduceBEq, Int.reduceLE, Int.reduceLT, Int.reduceToNat, Int.reduceEq, ↓reduceIte, reduceCtorEq, Nat.reducePow, Nat.reduceAdd, Nat.reduceLeDiff, Nat.reduceLT, Nat.reduceSub, Nat.reduceEqDiff]), (by first | rfl | exact h9 | simp only [h9, eES, eEX, Nat.reduceBEq, Int.reduceLE, Int.reduceLT, Int.reduceToNat, Int.reduceEq, ↓reduceIte, reduceCtorEq, Nat.reducePow, Nat.reduceAdd, Nat.reduceLeDiff, Nat.reduceLT, Nat.reduceSub, Nat.reduceEqDiff]), (by first | rfl | exact h10 | simp only [h10, eES, eEX, Nat.reduceBEq, Int.reduceLE, Int.reduceLT, Int.reduceToNat, Int.reduceEq, ↓reduceIte, reduceCtorEq, Nat.reducePow, Nat.reduceAdd, Nat.reduceLeDiff, Nat.reduceLT, Nat.reduceSub, Nat.reduceEqDiff]), (by first | rfl | exact h11 | simp only [h11, eES, eEX, Nat.reduceBEq, Int.reduceLE, Int.reduceLT, Int.reduceToNat, Int.reduceEq, ↓reduceIte, reduceCtorEq, Nat.reducePow, Nat.reduceAdd, Nat.reduceLeDiff, Nat.reduceLT, Nat.reduceSub, Nat.reduceEqDiff]), (by first | rfl | simp only [eES, eEX, Nat.reduceBEq, Int.reduceLE, Int.reduceLT, Int.reduceToNat, Int.reduceEq, ↓reduceIte, reduceCtorEq, Nat.reducePow, Nat.reduceAdd, Nat.reduceLeDiff, Nat.reduceLT, Nat.reduceSub, Nat.reduceEqDiff])⟩
        · simp only [lt_f hln, h1, m1, h3, h9, h10, h11, h12, e2, rb, eES, eEX, Nat.reduceBEq, Int.reduceLE, Int.reduceLT, Int.reduceToNat, Int.reduceEq, ↓reduceIte, reduceCtorEq, Nat.reducePow, Nat.reduceAdd, Nat.reduceLeDiff, Nat.reduceLT, Nat.reduceSub, Nat.reduceEqDiff]
          exact ⟨L.length - (j + 1), by omega, _, _, j + 1, _, rfl, rfl, (by first | rfl | exact h1 | simp only [h1, eES, eEX, Nat.reduceBEq, Int.reduceLE, Int.reduceLT, Int.reduceToNat, Int.reduceEq, ↓reduceIte, reduceCtorEq, Nat.reducePow, Nat.reduceAdd, Nat.reduceLeDiff, Nat.reduceLT, Nat.reduceSub, Nat.reduceEqDiff]), (by first | rfl | exact m1 | simp only [m1, eES, eEX, Nat.reduceBEq, Int.reduceLE, Int.reduceLT, Int.reduceToNat, Int.reduceEq, ↓reduceIte, reduceCtorEq, Nat.reducePow, Nat.reduceAdd, Nat.reduceLeDiff, Nat.reduceLT, Nat.reduceSub, Nat.reduceEqDiff]), (by first | rfl | exact h3 | simp only [h3, eES, eEX, Nat.reduceBEq, Int.reduceLE, Int.reduceLT, Int.reduceToNat, Int.reduceEq, ↓reduceIte, reduceCtorEq, Nat.reducePow, Nat.reduceAdd, Nat.reduceLeDiff, Nat.reduceLT, Nat.reduceSub, Nat.reduceEqDiff]), (by first | rfl | exact h9 | simp only [h9, eES, eEX, Nat.reduceBEq, Int.reduceLE, Int.reduceLT, Int.reduceToNat, Int.reduceEq, ↓reduceIte, reduceCtorEq, Nat.reducePow, Nat.reduceAdd, Nat.reduceLeDiff, Nat.reduceLT, Nat.reduceSub, Nat.reduceEqDiff]), (by first | rfl | exact h10 | simp only [h10, eES, eEX, Nat.reduceBEq, Int.reduceLE, Int.reduceLT, Int.reduceToNat, Int.reduceEq, ↓reduceIte, reduceCtorEq, Nat.reducePow, Nat.reduceAdd, Nat.reduceLeDiff, Nat.reduceLT, Nat.reduceSub, Nat.reduceEqDiff]), (by first | rfl | simp only [eES, eEX, Nat.reduceBEq, Int.reduceLE, Int.reduceLT, Int.reduceToNat, Int.reduceEq, ↓reduceIte, reduceCtorEq, Nat.reducePow, Nat.reduceAdd, Nat.reduceLeDiff, Nat.reduceLT, Nat.reduceSub, Nat.reduceEqDiff])⟩
      · simp only [lt_f hlj, h1, m1, h3, h9, h10, h11, e1, rb, eES, eEX, Nat.reduceBEq, Int.reduceLE, Int.reduceLT, Int.reduceToNat, Int.reduceEq, ↓reduceIte, reduceCtorEq, Nat.reducePow, Nat.reduceAdd, Nat.reduceLeDiff, Nat.reduceLT, Nat.reduceSub, Nat.reduceEqDiff]
        exact ⟨E.length - (i + 1), by omega, _, _, i + 1, _, rfl, rfl, (by first | rfl | exact h1 | simp only [h1, eES, eEX, Nat.reduceBEq, Int.reduceLE, Int.reduceLT, Int.reduceToNat, Int.reduceEq, ↓reduceIte, reduceCtorEq, Nat.reducePow, Nat.reduceAdd, Nat.reduceLeDiff, Nat.reduceLT, Nat.reduceSub, Nat.reduceEqDiff]), (by first | rfl | exact m1 | simp only [m1, eES, eEX, Nat.reduceBEq, Int.reduceLE, Int.reduceLT, Int.reduceToNat, Int.reduceEq, ↓reduceIte, reduceCtorEq, Nat.reducePow, Nat.reduceAdd, Nat.reduceLeDiff, Nat.reduceLT, Nat.reduceSub, Nat.reduceEqDiff]), (by first | rfl | exact h3 | simp only [h3, eES, eEX, Nat.reduceBEq, Int.reduceLE, Int.reduceLT, Int.reduceToNat, Int.reduceEq, ↓reduceIte, reduceCtorEq, Nat.reducePow, Nat.reduceAdd, Nat.reduceLeDiff, Nat.reduceLT, Nat.reduceSub, Nat.reduceEqDiff]), (by first | rfl | simp only [eES, eEX, Nat.reduceBEq, Int.reduceLE, Int.reduceLT, Int.reduceToNat, Int.reduceEq, ↓reduceIte, reduceCtorEq, Nat.reducePow, Nat.reduceAdd, Nat.reduceLeDiff, Nat.reduceLT, Nat.reduceSub, Nat.reduceEqDiff])⟩
    · simp only [lt_f hlt, h1, m1, h3, h9, rb, eES, eEX, Nat.reduceBEq, Int.reduceLE, Int.reduceLT, Int.reduceToNat, Int.reduceEq, ↓reduceIte, reduceCtorEq, Nat.reducePow, Nat.reduceAdd, Nat.reduceLeDiff, Nat.reduceLT, Nat.reduceSub, Nat.reduceEqDiff]

def JoinI (s : List UInt8) (L : List AV) (u : Int) (k : Nat) (st : St) : Prop :=
  ∃ f fr i n, st = ⟨f, [fr], []⟩ ∧ k = L.length - i ∧ f 1 = .ptr 0 1 0 ∧ fr 1 = .cells [.str s, .list L, .int .i64 u] ∧ f 3 = .int .i64 n ∧ f 4 = .int .i64 (i : Nat)

theorem c56 (g : AV) (hg : IsG g) : Fn? Tryz.prog 56 [g] RB := by
  obtain ⟨s, L, u, rfl, hs, hL, hO⟩ := hg
  refine fnR_of_awp (rc := r56) (rs := o56) Tryz.func56 rfl rfl Tryz.ntmps56 k56 q56 (by simp) ?_
  simp only [g56_0, g56_1, g56_2, g56_3, g56_5, g56_6, g56_7, g56_8, g56_9, g56_4, g56_10, r56, o56, eES, eEX, Nat.reduceBEq, Int.reduceLE, Int.reduceLT, Int.reduceToNat, Int.reduceEq, ↓reduceIte, reduceCtorEq, Nat.reducePow, Nat.reduceAdd, Nat.reduceLeDiff, Nat.reduceLT, Nat.reduceSub, Nat.reduceEqDiff]
  refine awp_loop (JoinI s L u) _ ⟨_, _, 0, 0, rfl, rfl, rfl, rfl, rfl, rfl⟩ ?_
  rintro _ st ⟨f, fr, i, n, rfl, rfl, h1, m1, h3, h4⟩
  simp only [l56_0, g56_0, g56_1, g56_2, g56_3, g56_5, g56_6, g56_7, g56_9, g56_4, g56_10, r56, o56, h1, m1, h3, h4, eES, eEX, Nat.reduceBEq, Int.reduceLE, Int.reduceLT, Int.reduceToNat, Int.reduceEq, ↓reduceIte, reduceCtorEq, Nat.reducePow, Nat.reduceAdd, Nat.reduceLeDiff, Nat.reduceLT, Nat.reduceSub, Nat.reduceEqDiff]
  by_cases hlt : i < L.length
  · obtain ⟨_, hc, o, ho, rfl⟩ := getE hO hlt
    have e1 := wi64_s i _ hlt hL
    have key : ∀ Q : St → Prop, (∀ f' b', f' 1 = .ptr 0 1 0 → f' 3 = .int .i64 n → f' 4 = .int .i64 (i : Nat) → f' 25 = .bool b' → Q ⟨f', [fr], []⟩) → ∀ f' x, f' 1 = .ptr 0 1 0 → f' 3 = .int .i64 n → f' 4 = .int .i64 (i : Nat) → f' 5 = .int .i64 x → aops Tryz.prog g56_8 ⟨f', [fr], []⟩ Q := by
      intro Q hQ f' x h1 h3 h4 h5
      cases i with
      | zero =>
        simp only [g56_0, g56_1, g56_2, g56_3, g56_5, g56_6, g56_7, g56_8, g56_9, g56_4, g56_10, r56, o56, zero_eq, h1, m1, h3, h4, h5, eES, eEX, Nat.reduceBEq, Int.reduceLE, Int.reduceLT, Int.reduceToNat, Int.reduceEq, ↓reduceIte, reduceCtorEq, Nat.reducePow, Nat.reduceAdd, Nat.reduceLeDiff, Nat.reduceLT, Nat.reduceSub, Nat.reduceEqDiff]
        repeat' (first | (refine csel_of (fun h => ?_) (fun h => ?_) <;> simp only [h, zero_eq, h1, m1, h3, h4, h5, eES, eEX, Nat.reduceBEq, Int.reduceLE, Int.reduceLT, Int.reduceToNat, Int.reduceEq, ↓reduceIte, reduceCtorEq, Nat.reducePow, Nat.reduceAdd, Nat.reduceLeDiff, Nat.reduceLT, Nat.reduceSub, Nat.reduceEqDiff]) | (refine gsel_t (fun h => ?_) (fun h => ?_) <;> simp only [h, updO, zero_eq, h1, m1, h3, h4, h5, eES, eEX, Nat.reduceBEq, Int.reduceLE, Int.reduceLT, Int.reduceToNat, Int.reduceEq, ↓reduceIte, reduceCtorEq, Nat.reducePow, Nat.reduceAdd, Nat.reduceLeDiff, Nat.reduceLT, Nat.reduceSub, Nat.reduceEqDiff]) | (refine gsel_f (fun h => ?_) (fun h => ?_) <;> simp only [h, updO, zero_eq, h1, m1, h3, h4, h5, eES, eEX, Nat.reduceBEq, Int.reduceLE, Int.reduceLT, Int.reduceToNat, Int.reduceEq, ↓reduceIte, reduceCtorEq, Nat.reducePow, Nat.reduceAdd, Nat.reduceLeDiff, Nat.reduceLT, Nat.reduceSub, Nat.reduceEqDiff]))
        all_goals exact hQ _ _ (by first | rfl | exact h1 | simp only [h1, eES, eEX, Nat.reduceBEq, Int.reduceLE, Int.reduceLT, Int.reduceToNat, Int.reduceEq, ↓reduceIte, reduceCtorEq, Nat.reducePow, Nat.reduceAdd, Nat.reduceLeDiff, Nat.reduceLT, Nat.reduceSub, Nat.reduceEqDiff]) (by first | rfl | exact h3 | simp only [h3, eES, eEX, Nat.reduceBEq, Int.reduceLE, Int.reduceLT, Int.reduceToNat, Int.reduceEq, ↓reduceIte, reduceCtorEq, Nat.reducePow, Nat.reduceAdd, Nat.reduceLeDiff, Nat.reduceLT, Nat.reduceSub, Nat.reduceEqDiff]) (by first | rfl | exact h4 | simp only [h4, eES, eEX, Nat.reduceBEq, Int.reduceLE, Int.reduceLT, Int.reduceToNat, Int.reduceEq, ↓reduceIte, reduceCtorEq, Nat.reducePow, Nat.reduceAdd, Nat.reduceLeDiff, Nat.reduceLT, Nat.reduceSub, Nat.reduceEqDiff]) (by first | rfl | simp only [eES, eEX, Nat.reduceBEq, Int.reduceLE, Int.reduceLT, Int.reduceToNat, Int.reduceEq, ↓reduceIte, reduceCtorEq, Nat.reducePow, Nat.reduceAdd, Nat.reduceLeDiff, Nat.reduceLT, Nat.reduceSub, Nat.reduceEqDiff])
      | succ k =>
        obtain ⟨_, hc', o', ho', rfl⟩ := getE hO (show k < L.length by omega)
        have e0 := wi64_p k _ hlt hL
        simp only [g56_0, g56_1, g56_2, g56_3, g56_5, g56_6, g56_7, g56_8, g56_9, g56_4, g56_10, r56, o56, h1, m1, h3, h4, h5, eES, eEX, Nat.reduceBEq, Int.reduceLE, Int.reduceLT, Int.reduceToNat, Int.reduceEq, ↓reduceIte, reduceCtorEq, Nat.reducePow, Nat.reduceAdd, Nat.reduceLeDiff, Nat.reduceLT, Nat.reduceSub, Nat.reduceEqDiff]
        repeat' (first | (refine csel_of (fun h => ?_) (fun h => ?_) <;> simp only [h, succ_ne, e0, PO.cells, nneg, Int.toNat_natCast, aiaddr, hc, hc', h1, m1, h3, h4, h5, eES, eEX, Nat.reduceBEq, Int.reduceLE, Int.reduceLT, Int.reduceToNat, Int.reduceEq, ↓reduceIte, reduceCtorEq, Nat.reducePow, Nat.reduceAdd, Nat.reduceLeDiff, Nat.reduceLT, Nat.reduceSub, Nat.reduceEqDiff]) | (refine gsel_t (fun h => ?_) (fun h => ?_) <;> simp only [h, updO, succ_ne, e0, PO.cells, nneg, Int.toNat_natCast, aiaddr, hc, hc', h1, m1, h3, h4, h5, eES, eEX, Nat.reduceBEq, Int.reduceLE, Int.reduceLT, Int.reduceToNat, Int.reduceEq, ↓reduceIte, reduceCtorEq, Nat.reducePow, Nat.reduceAdd, Nat.reduceLeDiff, Nat.reduceLT, Nat.reduceSub, Nat.reduceEqDiff]) | (refine gsel_f (fun h => ?_) (fun h => ?_) <;> simp only [h, updO, succ_ne, e0, PO.cells, nneg, Int.toNat_natCast, aiaddr, hc, hc', h1, m1, h3, h4, h5, eES, eEX, Nat.reduceBEq, Int.reduceLE, Int.reduceLT, Int.reduceToNat, Int.reduceEq, ↓reduceIte, reduceCtorEq, Nat.reducePow, Nat.reduceAdd, Nat.reduceLeDiff, Nat.reduceLT, Nat.reduceSub, Nat.reduceEqDiff]))
        all_goals exact hQ _ _ (by first | rfl | exact h1 | simp only [h1, eES, eEX, Nat.reduceBEq, Int.reduceLE, Int.reduceLT, Int.reduceToNat, Int.reduceEq, ↓reduceIte, reduceCtorEq, Nat.reducePow, Nat.reduceAdd, Nat.reduceLeDiff, Nat.reduceLT, Nat.reduceSub, Nat.reduceEqDiff]) (by first | rfl | exact h3 | simp only [h3, eES, eEX, Nat.reduceBEq, Int.reduceLE, Int.reduceLT, Int.reduceToNat, Int.reduceEq, ↓reduceIte, reduceCtorEq, Nat.reducePow, Nat.reduceAdd, Nat.reduceLeDiff, Nat.reduceLT, Nat.reduceSub, Nat.reduceEqDiff]) (by first | rfl | exact h4 | simp only [h4, eES, eEX, Nat.reduceBEq, Int.reduceLE, Int.reduceLT, Int.reduceToNat, Int.reduceEq, ↓reduceIte, reduceCtorEq, Nat.reducePow, Nat.reduceAdd, Nat.reduceLeDiff, Nat.reduceLT, Nat.reduceSub, Nat.reduceEqDiff]) (by first | rfl | simp only [eES, eEX, Nat.reduceBEq, Int.reduceLE, Int.reduceLT, Int.reduceToNat, Int.reduceEq, ↓reduceIte, reduceCtorEq, Nat.reducePow, Nat.reduceAdd, Nat.reduceLeDiff, Nat.reduceLT, Nat.reduceSub, Nat.reduceEqDiff])
    simp only [lt_t hlt, PO.cells, nneg, Int.toNat_natCast, aiaddr, hc, h1, m1, h3, h4, e1, rb, eES, eEX, Nat.reduceBEq, Int.reduceLE, Int.reduceLT, Int.reduceToNat, Int.reduceEq, ↓reduceIte, reduceCtorEq, Nat.reducePow, Nat.reduceAdd, Nat.reduceLeDiff, Nat.reduceLT, Nat.reduceSub, Nat.reduceEqDiff]
    refine csel_of (fun h => ?_) (fun h => ?_) <;> simp only [h, h1, m1, h3, h4, e1, eES, eEX, Nat.reduceBEq, Int.reduceLE, Int.reduceLT, Int.reduceToNat, Int.reduceEq, ↓reduceIte, reduceCtorEq, Nat.reducePow, Nat.reduceAdd, Nat.reduceLeDiff, Nat.reduceLT, Nat.reduceSub, Nat.reduceEqDiff]
    · exact ⟨L.length - (i + 1), by omega, _, _, i + 1, _, rfl, rfl, (by first | rfl | exact h1 | simp only [h1, eES, eEX, Nat.reduceBEq, Int.reduceLE, Int.reduceLT, Int.reduceToNat, Int.reduceEq, ↓reduceIte, reduceCtorEq, Nat.reducePow, Nat.reduceAdd, Nat.reduceLeDiff, Nat.reduceLT, Nat.reduceSub, Nat.reduceEqDiff]), (by first | rfl | exact m1 | simp only [m1, eES, eEX, Nat.reduceBEq, Int.reduceLE, Int.reduceLT, Int.reduceToNat, Int.reduceEq, ↓reduceIte, reduceCtorEq, Nat.reducePow, Nat.reduceAdd, Nat.reduceLeDiff, Nat.reduceLT, Nat.reduceSub, Nat.reduceEqDiff]), (by first | rfl | simp only [eES, eEX, Nat.reduceBEq, Int.reduceLE, Int.reduceLT, Int.reduceToNat, Int.reduceEq, ↓reduceIte, reduceCtorEq, Nat.reducePow, Nat.reduceAdd, Nat.reduceLeDiff, Nat.reduceLT, Nat.reduceSub, Nat.reduceEqDiff]), (by first | rfl | simp only [eES, eEX, Nat.reduceBEq, Int.reduceLE, Int.reduceLT, Int.reduceToNat, Int.reduceEq, ↓reduceIte, reduceCtorEq, Nat.reducePow, Nat.reduceAdd, Nat.reduceLeDiff, Nat.reduceLT, Nat.reduceSub, Nat.reduceEqDiff])⟩
    · refine key _ (fun f' b h1 h3 h4 h25 => ?_) _ o.union (by first | rfl | exact h1 | simp only [h1, eES, eEX, Nat.reduceBEq, Int.reduceLE, Int.reduceLT, Int.reduceToNat, Int.reduceEq, ↓reduceIte, reduceCtorEq, Nat.reducePow, Nat.reduceAdd, Nat.reduceLeDiff, Nat.reduceLT, Nat.reduceSub, Nat.reduceEqDiff]) (by first | rfl | exact h3 | simp only [h3, eES, eEX, Nat.reduceBEq, Int.reduceLE, Int.reduceLT, Int.reduceToNat, Int.reduceEq, ↓reduceIte, reduceCtorEq, Nat.reducePow, Nat.reduceAdd, Nat.reduceLeDiff, Nat.reduceLT, Nat.reduceSub, Nat.reduceEqDiff]) (by first | rfl | exact h4 | simp only [h4, eES, eEX, Nat.reduceBEq, Int.reduceLE, Int.reduceLT, Int.reduceToNat, Int.reduceEq, ↓reduceIte, reduceCtorEq, Nat.reducePow, Nat.reduceAdd, Nat.reduceLeDiff, Nat.reduceLT, Nat.reduceSub, Nat.reduceEqDiff]) (by first | rfl | simp only [eES, eEX, Nat.reduceBEq, Int.reduceLE, Int.reduceLT, Int.reduceToNat, Int.reduceEq, ↓reduceIte, reduceCtorEq, Nat.reducePow, Nat.reduceAdd, Nat.reduceLeDiff, Nat.reduceLT, Nat.reduceSub, Nat.reduceEqDiff])
      cases b <;> simp only [h25, h1, m1, h3, h4, e1, rb, eES, eEX, Nat.reduceBEq, Int.reduceLE, Int.reduceLT, Int.reduceToNat, Int.reduceEq, ↓reduceIte, reduceCtorEq, Nat.reducePow, Nat.reduceAdd, Nat.reduceLeDiff, Nat.reduceLT, Nat.reduceSub, Nat.reduceEqDiff]
      exact ⟨L.length - (i + 1), by omega, _, _, i + 1, _, rfl, rfl, (by first | rfl | exact h1 | simp only [h1, eES, eEX, Nat.reduceBEq, Int.reduceLE, Int.reduceLT, Int.reduceToNat, Int.reduceEq, ↓reduceIte, reduceCtorEq, Nat.reducePow, Nat.reduceAdd, Nat.reduceLeDiff, Nat.reduceLT, Nat.reduceSub, Nat.reduceEqDiff]), (by first | rfl | exact m1 | simp only [m1, eES, eEX, Nat.reduceBEq, Int.reduceLE, Int.reduceLT, Int.reduceToNat, Int.reduceEq, ↓reduceIte, reduceCtorEq, Nat.reducePow, Nat.reduceAdd, Nat.reduceLeDiff, Nat.reduceLT, Nat.reduceSub, Nat.reduceEqDiff]), (by first | rfl | exact h3 | simp only [h3, eES, eEX, Nat.reduceBEq, Int.reduceLE, Int.reduceLT, Int.reduceToNat, Int.reduceEq, ↓reduceIte, reduceCtorEq, Nat.reducePow, Nat.reduceAdd, Nat.reduceLeDiff, Nat.reduceLT, Nat.reduceSub, Nat.reduceEqDiff]), (by first | rfl | simp only [eES, eEX, Nat.reduceBEq, Int.reduceLE, Int.reduceLT, Int.reduceToNat, Int.reduceEq, ↓reduceIte, reduceCtorEq, Nat.reducePow, Nat.reduceAdd, Nat.reduceLeDiff, Nat.reduceLT, Nat.reduceSub, Nat.reduceEqDiff])⟩
  · simp only [lt_f hlt, h1, m1, h3, h4, rb, eES, eEX, Nat.reduceBEq, Int.reduceLE, Int.reduceLT, Int.reduceToNat, Int.reduceEq, ↓reduceIte, reduceCtorEq, Nat.reducePow, Nat.reduceAdd, Nat.reduceLeDiff, Nat.reduceLT, Nat.reduceSub, Nat.reduceEqDiff]

end Go.Proofs.YtdmbncmbkocjjaaGreat.Va

/- Plans, as the specification examines them: ranges. -/
set_option linter.unusedSimpArgs false
namespace Go.Proofs.YtdmbncmbkocjjaaGreat.Va
open Go Am Rc Bt Br

def noRows (S : List Nat) (fr : Nat → Ob) : Prop := ∀ s ∈ S, (fr s).isRow = false

theorem noRows_drop {S T l : List Nat} {fr fr' : Nat → Ob} (h : noRows S fr) (h1 : ∀ i, i ∉ l → fr' i = oscrs l (fr i)) (h2 : ∀ i ∈ l, fr' i = .none) (hT : ∀ s ∈ T, s ∈ S ∨ s ∈ l) : noRows T fr' := by
  intro s hs
  by_cases hl : s ∈ l
  · rw [h2 s hl]; rfl
  · rw [h1 s hl]
    have h3 := h s ((hT s hs).resolve_right hl)
    have : ∀ (l : List Nat) (o : Ob), (oscrs l o).isRow = o.isRow := by
      intro l
      induction l with
      | nil => intro o; rfl
      | cons t l ih =>
        intro o
        show (oscrs l (o.scrub t)).isRow = _
        rw [ih, e_scr_isRow]
    rw [this, h3]

def RgA (G E : List AV) (k : Nat) (st : St) : Prop :=
  ∃ f fr i b, st = ⟨f, [fr], []⟩ ∧ k = G.length - i ∧ f 1 = .ptr 0 1 0 ∧ fr 1 = .cells [.list G, .list E] ∧ f 3 = .bool b ∧ f 4 = .int .i64 (i : Nat) ∧ noRows [12, 8] fr
def RgB (G E L : List AV) (j : Nat) (k : Nat) (st : St) : Prop :=
  ∃ f fr i b, st = ⟨f, [fr], []⟩ ∧ k = L.length - i ∧ f 1 = .ptr 0 1 0 ∧ fr 1 = .cells [.list G, .list E] ∧ f 3 = .bool b ∧ f 4 = .int .i64 (j : Nat) ∧ f 5 = .int .i64 (i : Nat) ∧ noRows [12, 8] fr
def RgO (G E : List AV) (k : Nat) (st : St) : Prop :=
  ∃ f fr i b, st = ⟨f, [fr], []⟩ ∧ k = E.length - i ∧ f 1 = .ptr 0 1 0 ∧ fr 1 = .cells [.list G, .list E] ∧ f 3 = .bool b ∧ f 7 = .int .i64 (i : Nat) ∧ noRows [12, 8] fr
def RgI (G E : List AV) (s : List UInt8) (eo : Bool) (L M K : List AV) (n d : Nat) (j : Nat) (k : Nat) (st : St) : Prop :=
  ∃ f fr i b, st = ⟨f, [fr], []⟩ ∧ k = n - i ∧ f 1 = .ptr 0 1 0 ∧ fr 1 = .cells [.list G, .list E] ∧ f 3 = .bool b ∧ f 7 = .int .i64 (j : Nat) ∧ f 8 = .ptr 0 8 0 ∧ fr 8 = .cells [.str s, .bool eo, .list L, .list M, .list K] ∧ f d = .int .i64 (i : Nat) ∧ noRows [12] fr

theorem c32 (G E : List AV) (hP : IsP G E) : Fn? Tryz.prog 32 [pv G E] RB := by
  refine fnR_of_awp (rc := r32) (rs := o32) Tryz.func32 rfl rfl Tryz.ntmps32 k32 q32 (by simp) ?_
  simp only [g32_0, g32_1, g32_2, g32_3, g32_5, g32_6, g32_8, g32_9, g32_7, g32_4, g32_10, g32_11, g32_13, g32_14, g32_15, g32_17, g32_18, g32_16, g32_19, g32_20, g32_22, g32_21, g32_12, g32_24, r32, o32, pv, eES, eEX, Nat.reduceBEq, Int.reduceLE, Int.reduceLT, Int.reduceToNat, Int.reduceEq, ↓reduceIte, reduceCtorEq, Nat.reducePow, Nat.reduceAdd, Nat.reduceLeDiff, Nat.reduceLT, Nat.reduceSub, Nat.reduceEqDiff]
  refine awp_loop (RgA G E) _ ⟨_, _, 0, _, rfl, rfl, rfl, rfl, rfl, rfl, by simp [noRows] <;> exact ⟨rfl, rfl⟩⟩ ?_
  rintro _ st ⟨f, fr, i, b, rfl, rfl, h1, m1, h3, h4, hr⟩
  simp only [l32_0, l32_1, l32_2, l32_3, l32_4, g32_0, g32_1, g32_2, g32_3, g32_5, g32_6, g32_8, g32_9, g32_7, g32_4, g32_10, g32_11, g32_13, g32_14, g32_15, g32_17, g32_18, g32_16, g32_19, g32_20, g32_22, g32_21, g32_12, g32_24, r32, o32, h1, m1, h3, h4, eES, eEX, Nat.reduceBEq, Int.reduceLE, Int.reduceLT, Int.reduceToNat, Int.reduceEq, ↓reduceIte, reduceCtorEq, Nat.reducePow, Nat.reduceAdd, Nat.reduceLeDiff, Nat.reduceLT, Nat.reduceSub, Nat.reduceEqDiff]
  by_cases hlt : i < G.length
  · obtain ⟨_, hc, s, L, u, rfl, hs, hL, hO⟩ := getE hP.g hlt
    have e1 := wi64_s i _ hlt hP.lg
    simp only [lt_t hlt, h1, m1, h3, h4, eES, eEX, Nat.reduceBEq, Int.reduceLE, Int.reduceLT, Int.reduceToNat, Int.reduceEq, ↓reduceIte, reduceCtorEq, Nat.reducePow, Nat.reduceAdd, Nat.reduceLeDiff, Nat.reduceLT, Nat.reduceSub, Nat.reduceEqDiff]
    refine awp_loop (RgB G E L i) _ ⟨_, _, 0, _, rfl, rfl, (by first | rfl | exact h1 | simp only [h1, eES, eEX, Nat.reduceBEq, Int.reduceLE, Int.reduceLT, Int.reduceToNat, Int.reduceEq, ↓reduceIte, reduceCtorEq, Nat.reducePow, Nat.reduceAdd, Nat.reduceLeDiff, Nat.reduceLT, Nat.reduceSub, Nat.reduceEqDiff]), (by first | rfl | exact m1 | simp only [m1, eES, eEX, Nat.reduceBEq, Int.reduceLE, Int.reduceLT, Int.reduceToNat, Int.reduceEq, ↓reduceIte, reduceCtorEq, Nat.reducePow, Nat.reduceAdd, Nat.reduceLeDiff, Nat.reduceLT, Nat.reduceSub, Nat.reduceEqDiff]), (by first | rfl | exact h3 | simp only [h3, eES, eEX, Nat.reduceBEq, Int.reduceLE, Int.reduceLT, Int.reduceToNat, Int.reduceEq, ↓reduceIte, reduceCtorEq, Nat.reducePow, Nat.reduceAdd, Nat.reduceLeDiff, Nat.reduceLT, Nat.reduceSub, Nat.reduceEqDiff]), (by first | rfl | exact h4 | simp only [h4, eES, eEX, Nat.reduceBEq, Int.reduceLE, Int.reduceLT, Int.reduceToNat, Int.reduceEq, ↓reduceIte, reduceCtorEq, Nat.reducePow, Nat.reduceAdd, Nat.reduceLeDiff, Nat.reduceLT, Nat.reduceSub, Nat.reduceEqDiff]), (by first | rfl | simp only [eES, eEX, Nat.reduceBEq, Int.reduceLE, Int.reduceLT, Int.reduceToNat, Int.reduceEq, ↓reduceIte, reduceCtorEq, Nat.reducePow, Nat.reduceAdd, Nat.reduceLeDiff, Nat.reduceLT, Nat.reduceSub, Nat.reduceEqDiff]), hr⟩ ?_
    rintro _ st ⟨f, fr, j, b, rfl, rfl, h1, m1, h3, h4, h5, hr⟩
    simp only [nneg, Int.toNat_natCast, aiaddr, hc, h1, m1, h3, h4, h5, eES, eEX, Nat.reduceBEq, Int.reduceLE, Int.reduceLT, Int.reduceToNat, Int.reduceEq, ↓reduceIte, reduceCtorEq, Nat.reducePow, Nat.reduceAdd, Nat.reduceLeDiff, Nat.reduceLT, Nat.reduceSub, Nat.reduceEqDiff]
    by_cases hlj : j < L.length
    · obtain ⟨_, hd, o, ho, rfl⟩ := getE hO hlj
      have e2 := wi64_s j _ hlj hL
      cases b <;> simp only [lt_t hlj, PO.cells, nneg, Int.toNat_natCast, aiaddr, hc, hd, h1, m1, h3, h4, h5, e2, rb, eES, eEX, Nat.reduceBEq, Int.reduceLE, Int.reduceLT, Int.reduceToNat, Int.reduceEq, ↓reduceIte, reduceCtorEq, Nat.reducePow, Nat.reduceAdd, Nat.reduceLeDiff, Nat.reduceLT, Nat.reduceSub, Nat.reduceEqDiff]
      all_goals
        repeat' (first | (refine csel_of (fun h => ?_) (fun h => ?_) <;> simp only [h, PO.cells, nneg, Int.toNat_natCast, aiaddr, hc, hd, h1, m1, h3, h4, h5, e2, rb, eES, eEX, Nat.reduceBEq, Int.reduceLE, Int.reduceLT, Int.reduceToNat, Int.reduceEq, ↓reduceIte, reduceCtorEq, Nat.reducePow, Nat.reduceAdd, Nat.reduceLeDiff, Nat.reduceLT, Nat.reduceSub, Nat.reduceEqDiff]) | (refine gsel_t (fun h => ?_) (fun h => ?_) <;> simp only [h, updO, PO.cells, nneg, Int.toNat_natCast, aiaddr, hc, hd, h1, m1, h3, h4, h5, e2, rb, eES, eEX, Nat.reduceBEq, Int.reduceLE, Int.reduceLT, Int.reduceToNat, Int.reduceEq, ↓reduceIte, reduceCtorEq, Nat.reducePow, Nat.reduceAdd, Nat.reduceLeDiff, Nat.reduceLT, Nat.reduceSub, Nat.reduceEqDiff]) | (refine gsel_f (fun h => ?_) (fun h => ?_) <;> simp only [h, updO, PO.cells, nneg, Int.toNat_natCast, aiaddr, hc, hd, h1, m1, h3, h4, h5, e2, rb, eES, eEX, Nat.reduceBEq, Int.reduceLE, Int.reduceLT, Int.reduceToNat, Int.reduceEq, ↓reduceIte, reduceCtorEq, Nat.reducePow, Nat.reduceAdd, Nat.reduceLeDiff, Nat.reduceLT, Nat.reduceSub, Nat.reduceEqDiff]))
      all_goals exact ⟨L.length - (j + 1), by omega, _, _, j + 1, _, rfl, rfl, (by first | rfl | exact h1 | simp only [h1, eES, eEX, Nat.reduceBEq, Int.reduceLE, Int.reduceLT, Int.reduceToNat, Int.reduceEq, ↓reduceIte, reduceCtorEq, Nat.reducePow, Nat.reduceAdd, Nat.reduceLeDiff, Nat.reduceLT, Nat.reduceSub, Nat.reduceEqDiff]), (by first | rfl | exact m1 | simp only [m1, eES, eEX, Nat.reduceBEq, Int.reduceLE, Int.reduceLT, Int.reduceToNat, Int.reduceEq, ↓reduceIte, reduceCtorEq, Nat.reducePow, Nat.reduceAdd, Nat.reduceLeDiff, Nat.reduceLT, Nat.reduceSub, Nat.reduceEqDiff]), (by first | rfl | simp only [eES, eEX, Nat.reduceBEq, Int.reduceLE, Int.reduceLT, Int.reduceToNat, Int.reduceEq, ↓reduceIte, reduceCtorEq, Nat.reducePow, Nat.reduceAdd, Nat.reduceLeDiff, Nat.reduceLT, Nat.reduceSub, Nat.reduceEqDiff]), (by first | rfl | exact h4 | simp only [h4, eES, eEX, Nat.reduceBEq, Int.reduceLE, Int.reduceLT, Int.reduceToNat, Int.reduceEq, ↓reduceIte, reduceCtorEq, Nat.reducePow, Nat.reduceAdd, Nat.reduceLeDiff, Nat.reduceLT, Nat.reduceSub, Nat.reduceEqDiff]), (by first | rfl | simp only [eES, eEX, Nat.reduceBEq, Int.reduceLE, Int.reduceLT, Int.reduceToNat, Int.reduceEq, ↓reduceIte, reduceCtorEq, Nat.reducePow, Nat.reduceAdd, Nat.reduceLeDiff, Nat.reduceLT, Nat.reduceSub, Nat.reduceEqDiff]), hr⟩
    · simp only [lt_f hlj, h1, m1, h3, h4, h5, e1, rb, eES, eEX, Nat.reduceBEq, Int.reduceLE, Int.reduceLT, Int.reduceToNat, Int.reduceEq, ↓reduceIte, reduceCtorEq, Nat.reducePow, Nat.reduceAdd, Nat.reduceLeDiff, Nat.reduceLT, Nat.reduceSub, Nat.reduceEqDiff]
      exact ⟨G.length - (i + 1), by omega, _, _, i + 1, _, rfl, rfl, (by first | rfl | exact h1 | simp only [h1, eES, eEX, Nat.reduceBEq, Int.reduceLE, Int.reduceLT, Int.reduceToNat, Int.reduceEq, ↓reduceIte, reduceCtorEq, Nat.reducePow, Nat.reduceAdd, Nat.reduceLeDiff, Nat.reduceLT, Nat.reduceSub, Nat.reduceEqDiff]), (by first | rfl | exact m1 | simp only [m1, eES, eEX, Nat.reduceBEq, Int.reduceLE, Int.reduceLT, Int.reduceToNat, Int.reduceEq, ↓reduceIte, reduceCtorEq, Nat.reducePow, Nat.reduceAdd, Nat.reduceLeDiff, Nat.reduceLT, Nat.reduceSub, Nat.reduceEqDiff]), (by first | rfl | exact h3 | simp only [h3, eES, eEX, Nat.reduceBEq, Int.reduceLE, Int.reduceLT, Int.reduceToNat, Int.reduceEq, ↓reduceIte, reduceCtorEq, Nat.reducePow, Nat.reduceAdd, Nat.reduceLeDiff, Nat.reduceLT, Nat.reduceSub, Nat.reduceEqDiff]), (by first | rfl | simp only [eES, eEX, Nat.reduceBEq, Int.reduceLE, Int.reduceLT, Int.reduceToNat, Int.reduceEq, ↓reduceIte, reduceCtorEq, Nat.reducePow, Nat.reduceAdd, Nat.reduceLeDiff, Nat.reduceLT, Nat.reduceSub, Nat.reduceEqDiff]), hr⟩
  · simp only [lt_f hlt, h1, m1, h3, h4, rb, eES, eEX, Nat.reduceBEq, Int.reduceLE, Int.reduceLT, Int.reduceToNat, Int.reduceEq, ↓reduceIte, reduceCtorEq, Nat.reducePow, Nat.reduceAdd, Nat.reduceLeDiff, Nat.reduceLT, Nat.reduceSub, Nat.reduceEqDiff]
    refine awp_loop (RgO G E) _ ⟨_, _, 0, b, rfl, rfl, (by first | rfl | exact h1 | simp only [h1, eES, eEX, Nat.reduceBEq, Int.reduceLE, Int.reduceLT, Int.reduceToNat, Int.reduceEq, ↓reduceIte, reduceCtorEq, Nat.reducePow, Nat.reduceAdd, Nat.reduceLeDiff, Nat.reduceLT, Nat.reduceSub, Nat.reduceEqDiff]), (by first | rfl | exact m1 | simp only [m1, eES, eEX, Nat.reduceBEq, Int.reduceLE, Int.reduceLT, Int.reduceToNat, Int.reduceEq, ↓reduceIte, reduceCtorEq, Nat.reducePow, Nat.reduceAdd, Nat.reduceLeDiff, Nat.reduceLT, Nat.reduceSub, Nat.reduceEqDiff]), (by first | rfl | exact h3 | simp only [h3, eES, eEX, Nat.reduceBEq, Int.reduceLE, Int.reduceLT, Int.reduceToNat, Int.reduceEq, ↓reduceIte, reduceCtorEq, Nat.reducePow, Nat.reduceAdd, Nat.reduceLeDiff, Nat.reduceLT, Nat.reduceSub, Nat.reduceEqDiff]), (by first | rfl | simp only [eES, eEX, Nat.reduceBEq, Int.reduceLE, Int.reduceLT, Int.reduceToNat, Int.reduceEq, ↓reduceIte, reduceCtorEq, Nat.reducePow, Nat.reduceAdd, Nat.reduceLeDiff, Nat.reduceLT, Nat.reduceSub, Nat.reduceEqDiff]), hr⟩ ?_
    rintro _ st ⟨f0, fr0, i, b, rfl, rfl, h1, m1, h3, h7, hr⟩
    refine awp_drops (a := _) [12, 8] hr ?_
    intro f fr hf hm hn
    replace h1 : f 1 = .ptr 0 1 0 := by rw [hf, h1] <;> rfl
    replace h3 : f 3 = .bool b := by rw [hf, h3] <;> rfl
    replace h7 : f 7 = .int .i64 (i : Nat) := by rw [hf, h7] <;> rfl
    replace m1 : fr 1 = .cells [.list G, .list E] := by rw [hm 1 (by decide), m1] <;> rfl
    have n8 := hn 8 (by decide)
    have n12 := hn 12 (by decide)
    simp only [g32_0, g32_1, g32_2, g32_3, g32_5, g32_6, g32_8, g32_9, g32_7, g32_4, g32_10, g32_11, g32_13, g32_14, g32_15, g32_17, g32_18, g32_16, g32_19, g32_20, g32_22, g32_21, g32_12, g32_24, r32, o32, h1, m1, h3, h7, eES, eEX, Nat.reduceBEq, Int.reduceLE, Int.reduceLT, Int.reduceToNat, Int.reduceEq, ↓reduceIte, reduceCtorEq, Nat.reducePow, Nat.reduceAdd, Nat.reduceLeDiff, Nat.reduceLT, Nat.reduceSub, Nat.reduceEqDiff]
    by_cases hlt : i < E.length
    · obtain ⟨_, hc, s, eo, L, M, K, rfl, hs, hL, hI, hM, hS, hK, hN⟩ := getE hP.e hlt
      have e1 := wi64_s i _ hlt hP.le
      simp only [lt_t hlt, nneg, Int.toNat_natCast, aiaddr, hc, h1, m1, h3, h7, n8, e1, rb, eES, eEX, Nat.reduceBEq, Int.reduceLE, Int.reduceLT, Int.reduceToNat, Int.reduceEq, ↓reduceIte, reduceCtorEq, Nat.reducePow, Nat.reduceAdd, Nat.reduceLeDiff, Nat.reduceLT, Nat.reduceSub, Nat.reduceEqDiff]
      refine awp_loop (RgI G E s eo L M K L.length 9 i) _ ⟨_, _, 0, _, rfl, rfl, (by first | rfl | exact h1 | simp only [h1, eES, eEX, Nat.reduceBEq, Int.reduceLE, Int.reduceLT, Int.reduceToNat, Int.reduceEq, ↓reduceIte, reduceCtorEq, Nat.reducePow, Nat.reduceAdd, Nat.reduceLeDiff, Nat.reduceLT, Nat.reduceSub, Nat.reduceEqDiff]), (by first | rfl | exact m1 | simp only [m1, eES, eEX, Nat.reduceBEq, Int.reduceLE, Int.reduceLT, Int.reduceToNat, Int.reduceEq, ↓reduceIte, reduceCtorEq, Nat.reducePow, Nat.reduceAdd, Nat.reduceLeDiff, Nat.reduceLT, Nat.reduceSub, Nat.reduceEqDiff]), (by first | rfl | exact h3 | simp only [h3, eES, eEX, Nat.reduceBEq, Int.reduceLE, Int.reduceLT, Int.reduceToNat, Int.reduceEq, ↓reduceIte, reduceCtorEq, Nat.reducePow, Nat.reduceAdd, Nat.reduceLeDiff, Nat.reduceLT, Nat.reduceSub, Nat.reduceEqDiff]), (by first | rfl | exact h7 | simp only [h7, eES, eEX, Nat.reduceBEq, Int.reduceLE, Int.reduceLT, Int.reduceToNat, Int.reduceEq, ↓reduceIte, reduceCtorEq, Nat.reducePow, Nat.reduceAdd, Nat.reduceLeDiff, Nat.reduceLT, Nat.reduceSub, Nat.reduceEqDiff]), (by first | rfl | simp only [eES, eEX, Nat.reduceBEq, Int.reduceLE, Int.reduceLT, Int.reduceToNat, Int.reduceEq, ↓reduceIte, reduceCtorEq, Nat.reducePow, Nat.reduceAdd, Nat.reduceLeDiff, Nat.reduceLT, Nat.reduceSub, Nat.reduceEqDiff]), (by first | rfl | simp only [eES, eEX, Nat.reduceBEq, Int.reduceLE, Int.reduceLT, Int.reduceToNat, Int.reduceEq, ↓reduceIte, reduceCtorEq, Nat.reducePow, Nat.reduceAdd, Nat.reduceLeDiff, Nat.reduceLT, Nat.reduceSub, Nat.reduceEqDiff]), (by first | rfl | simp only [eES, eEX, Nat.reduceBEq, Int.reduceLE, Int.reduceLT, Int.reduceToNat, Int.reduceEq, ↓reduceIte, reduceCtorEq, Nat.reducePow, Nat.reduceAdd, Nat.reduceLeDiff, Nat.reduceLT, Nat.reduceSub, Nat.reduceEqDiff]), by simp [noRows] <;> simp only [n12, eES, eEX, Nat.reduceBEq, Int.reduceLE, Int.reduceLT, Int.reduceToNat, Int.reduceEq, ↓reduceIte, reduceCtorEq, Nat.reducePow, Nat.reduceAdd, Nat.reduceLeDiff, Nat.reduceLT, Nat.reduceSub, Nat.reduceEqDiff]⟩ ?_
      rintro _ st ⟨f, fr, j, b, rfl, rfl, h1, m1, h3, h7, h8, m8, h9, hr⟩
      simp only [h1, m1, h3, h7, h8, m8, h9, eES, eEX, Nat.reduceBEq, Int.reduceLE, Int.reduceLT, Int.reduceToNat, Int.reduceEq, ↓reduceIte, reduceCtorEq, Nat.reducePow, Nat.reduceAdd, Nat.reduceLeDiff, Nat.reduceLT, Nat.reduceSub, Nat.reduceEqDiff]
      by_cases hlj : j < L.length
      · obtain ⟨_, hd, s2, n2, L2, rfl, hs2, hL2, hN2⟩ := getE hI hlj
        have e2 := wi64_s j _ hlj hL
        cases b <;> simp only [lt_t hlj, nneg, Int.toNat_natCast, aiaddr, hc, hd, h1, m1, h3, h7, h8, m8, h9, e2, rb, eES, eEX, Nat.reduceBEq, Int.reduceLE, Int.reduceLT, Int.reduceToNat, Int.reduceEq, ↓reduceIte, reduceCtorEq, Nat.reducePow, Nat.reduceAdd, Nat.reduceLeDiff, Nat.reduceLT, Nat.reduceSub, Nat.reduceEqDiff]
        all_goals
          repeat' (first | (refine csel_of (fun h => ?_) (fun h => ?_) <;> simp only [h, nneg, Int.toNat_natCast, aiaddr, hc, hd, h1, m1, h3, h7, h8, m8, h9, e2, rb, eES, eEX, Nat.reduceBEq, Int.reduceLE, Int.reduceLT, Int.reduceToNat, Int.reduceEq, ↓reduceIte, reduceCtorEq, Nat.reducePow, Nat.reduceAdd, Nat.reduceLeDiff, Nat.reduceLT, Nat.reduceSub, Nat.reduceEqDiff]) | (refine gsel_t (fun h => ?_) (fun h => ?_) <;> simp only [h, updO, nneg, Int.toNat_natCast, aiaddr, hc, hd, h1, m1, h3, h7, h8, m8, h9, e2, rb, eES, eEX, Nat.reduceBEq, Int.reduceLE, Int.reduceLT, Int.reduceToNat, Int.reduceEq, ↓reduceIte, reduceCtorEq, Nat.reducePow, Nat.reduceAdd, Nat.reduceLeDiff, Nat.reduceLT, Nat.reduceSub, Nat.reduceEqDiff]) | (refine gsel_f (fun h => ?_) (fun h => ?_) <;> simp only [h, updO, nneg, Int.toNat_natCast, aiaddr, hc, hd, h1, m1, h3, h7, h8, m8, h9, e2, rb, eES, eEX, Nat.reduceBEq, Int.reduceLE, Int.reduceLT, Int.reduceToNat, Int.reduceEq, ↓reduceIte, reduceCtorEq, Nat.reducePow, Nat.reduceAdd, Nat.reduceLeDiff, Nat.reduceLT, Nat.reduceSub, Nat.reduceEqDiff]) | ((with_reducible apply aops_callR (k := 54) (R := RB)); (case h2 => exact fun _ h => h.rf); (case hy => rfl); (case h1 => rfl); (case hk => exact c54 M n2 hM hS); rintro _ ⟨b, rfl⟩; cases b <;> simp only [nneg, Int.toNat_natCast, aiaddr, hc, hd, h1, m1, h3, h7, h8, m8, h9, e2, rb, eES, eEX, Nat.reduceBEq, Int.reduceLE, Int.reduceLT, Int.reduceToNat, Int.reduceEq, ↓reduceIte, reduceCtorEq, Nat.reducePow, Nat.reduceAdd, Nat.reduceLeDiff, Nat.reduceLT, Nat.reduceSub, Nat.reduceEqDiff]))
        all_goals exact ⟨L.length - (j + 1), by omega, _, _, j + 1, _, rfl, rfl, (by first | rfl | exact h1 | simp only [h1, eES, eEX, Nat.reduceBEq, Int.reduceLE, Int.reduceLT, Int.reduceToNat, Int.reduceEq, ↓reduceIte, reduceCtorEq, Nat.reducePow, Nat.reduceAdd, Nat.reduceLeDiff, Nat.reduceLT, Nat.reduceSub, Nat.reduceEqDiff]), (by first | rfl | exact m1 | simp only [m1, eES, eEX, Nat.reduceBEq, Int.reduceLE, Int.reduceLT, Int.reduceToNat, Int.reduceEq, ↓reduceIte, reduceCtorEq, Nat.reducePow, Nat.reduceAdd, Nat.reduceLeDiff, Nat.reduceLT, Nat.reduceSub, Nat.reduceEqDiff]), (by first | rfl | simp only [eES, eEX, Nat.reduceBEq, Int.reduceLE, Int.reduceLT, Int.reduceToNat, Int.reduceEq, ↓reduceIte, reduceCtorEq, Nat.reducePow, Nat.reduceAdd, Nat.reduceLeDiff, Nat.reduceLT, Nat.reduceSub, Nat.reduceEqDiff]), (by first | rfl | exact h7 | simp only [h7, eES, eEX, Nat.reduceBEq, Int.reduceLE, Int.reduceLT, Int.reduceToNat, Int.reduceEq, ↓reduceIte, reduceCtorEq, Nat.reducePow, Nat.reduceAdd, Nat.reduceLeDiff, Nat.reduceLT, Nat.reduceSub, Nat.reduceEqDiff]), (by first | rfl | exact h8 | simp only [h8, eES, eEX, Nat.reduceBEq, Int.reduceLE, Int.reduceLT, Int.reduceToNat, Int.reduceEq, ↓reduceIte, reduceCtorEq, Nat.reducePow, Nat.reduceAdd, Nat.reduceLeDiff, Nat.reduceLT, Nat.reduceSub, Nat.reduceEqDiff]), (by first | rfl | exact m8 | simp only [m8, eES, eEX, Nat.reduceBEq, Int.reduceLE, Int.reduceLT, Int.reduceToNat, Int.reduceEq, ↓reduceIte, reduceCtorEq, Nat.reducePow, Nat.reduceAdd, Nat.reduceLeDiff, Nat.reduceLT, Nat.reduceSub, Nat.reduceEqDiff]), (by first | rfl | simp only [eES, eEX, Nat.reduceBEq, Int.reduceLE, Int.reduceLT, Int.reduceToNat, Int.reduceEq, ↓reduceIte, reduceCtorEq, Nat.reducePow, Nat.reduceAdd, Nat.reduceLeDiff, Nat.reduceLT, Nat.reduceSub, Nat.reduceEqDiff]), hr⟩
      · simp only [lt_f hlj, h1, m1, h3, h7, h8, m8, h9, e1, rb, eES, eEX, Nat.reduceBEq, Int.reduceLE, Int.reduceLT, Int.reduceToNat, Int.reduceEq, ↓reduceIte, reduceCtorEq, Nat.reducePow, Nat.reduceAdd, Nat.reduceLeDiff, Nat.reduceLT, Nat.reduceSub, Nat.reduceEqDiff]
        refine awp_loop (RgI G E s eo L M K M.length 11 i) _ ⟨_, _, 0, _, rfl, rfl, (by first | rfl | exact h1 | simp only [h1, eES, eEX, Nat.reduceBEq, Int.reduceLE, Int.reduceLT, Int.reduceToNat, Int.reduceEq, ↓reduceIte, reduceCtorEq, Nat.reducePow, Nat.reduceAdd, Nat.reduceLeDiff, Nat.reduceLT, Nat.reduceSub, Nat.reduceEqDiff]), (by first | rfl | exact m1 | simp only [m1, eES, eEX, Nat.reduceBEq, Int.reduceLE, Int.reduceLT, Int.reduceToNat, Int.reduceEq, ↓reduceIte, reduceCtorEq, Nat.reducePow, Nat.reduceAdd, Nat.reduceLeDiff, Nat.reduceLT, Nat.reduceSub, Nat.reduceEqDiff]), (by first | rfl | exact h3 | simp only [h3, eES, eEX, Nat.reduceBEq, Int.reduceLE, Int.reduceLT, Int.reduceToNat, Int.reduceEq, ↓reduceIte, reduceCtorEq, Nat.reducePow, Nat.reduceAdd, Nat.reduceLeDiff, Nat.reduceLT, Nat.reduceSub, Nat.reduceEqDiff]), (by first | rfl | exact h7 | simp only [h7, eES, eEX, Nat.reduceBEq, Int.reduceLE, Int.reduceLT, Int.reduceToNat, Int.reduceEq, ↓reduceIte, reduceCtorEq, Nat.reducePow, Nat.reduceAdd, Nat.reduceLeDiff, Nat.reduceLT, Nat.reduceSub, Nat.reduceEqDiff]), (by first | rfl | exact h8 | simp only [h8, eES, eEX, Nat.reduceBEq, Int.reduceLE, Int.reduceLT, Int.reduceToNat, Int.reduceEq, ↓reduceIte, reduceCtorEq, Nat.reducePow, Nat.reduceAdd, Nat.reduceLeDiff, Nat.reduceLT, Nat.reduceSub, Nat.reduceEqDiff]), (by first | rfl | exact m8 | simp only [m8, eES, eEX, Nat.reduceBEq, Int.reduceLE, Int.reduceLT, Int.reduceToNat, Int.reduceEq, ↓reduceIte, reduceCtorEq, Nat.reducePow, Nat.reduceAdd, Nat.reduceLeDiff, Nat.reduceLT, Nat.reduceSub, Nat.reduceEqDiff]), (by first | rfl | simp only [eES, eEX, Nat.reduceBEq, Int.reduceLE, Int.reduceLT, Int.reduceToNat, Int.reduceEq, ↓reduceIte, reduceCtorEq, Nat.reducePow, Nat.reduceAdd, Nat.reduceLeDiff, Nat.reduceLT, Nat.reduceSub, Nat.reduceEqDiff]), hr⟩ ?_
        rintro _ st ⟨f0, fr0, j, b, rfl, rfl, h1, m1, h3, h7, h8, m8, h11, hr⟩
        refine awp_drops (a := _) [12] hr ?_
        intro f fr hf hm hn
        replace h1 : f 1 = .ptr 0 1 0 := by rw [hf, h1] <;> rfl
        replace h3 : f 3 = .bool b := by rw [hf, h3] <;> rfl
        replace h7 : f 7 = .int .i64 (i : Nat) := by rw [hf, h7] <;> rfl
        replace h8 : f 8 = .ptr 0 8 0 := by rw [hf, h8] <;> rfl
        replace h11 : f 11 = .int .i64 (j : Nat) := by rw [hf, h11] <;> rfl
        replace m1 : fr 1 = .cells [.list G, .list E] := by rw [hm 1 (by decide), m1] <;> rfl
        replace m8 : fr 8 = .cells [.str s, .bool eo, .list L, .list M, .list K] := by rw [hm 8 (by decide), m8] <;> rfl
        have n12 := hn 12 (by decide)
        simp only [h1, m1, h3, h7, h8, m8, h11, eES, eEX, Nat.reduceBEq, Int.reduceLE, Int.reduceLT, Int.reduceToNat, Int.reduceEq, ↓reduceIte, reduceCtorEq, Nat.reducePow, Nat.reduceAdd, Nat.reduceLeDiff, Nat.reduceLT, Nat.reduceSub, Nat.reduceEqDiff]
        by_cases hlj : j < M.length
        · obtain ⟨_, hd, x, hx, rfl⟩ := getE hS hlj
          have e2 := wi64_s j _ hlj hM
          have key : ∀ (fr : Nat → Ob), fr 8 = .cells [.str s, .bool eo, .list L, .list M, .list K] → fr 12 = .cells [.int .i64 x.lo, .int .i64 x.hi] → ∀ Q : St → Prop, (∀ f' b', f' 1 = .ptr 0 1 0 → f' 3 = .bool b' → f' 7 = .int .i64 (i : Nat) → f' 8 = .ptr 0 8 0 → f' 11 = .int .i64 (j : Nat) → Q ⟨f', [fr], []⟩) → ∀ f', f' 1 = .ptr 0 1 0 → f' 3 = .bool b → f' 7 = .int .i64 (i : Nat) → f' 8 = .ptr 0 8 0 → f' 11 = .int .i64 (j : Nat) → f' 12 = .ptr 0 12 0 → aops Tryz.prog g32_23 ⟨f', [fr], []⟩ Q := by
            intro fr m8 m12 Q hQ f' h1 h3 h7 h8 h11 h12
            cases j with
            | zero =>
              cases b <;> simp only [g32_0, g32_1, g32_2, g32_3, g32_5, g32_6, g32_8, g32_9, g32_7, g32_4, g32_10, g32_11, g32_13, g32_14, g32_15, g32_17, g32_18, g32_16, g32_19, g32_20, g32_22, g32_23, g32_21, g32_12, g32_24, r32, o32, zero_eq, h1, h3, h7, h8, m8, h11, h12, m12, eES, eEX, Nat.reduceBEq, Int.reduceLE, Int.reduceLT, Int.reduceToNat, Int.reduceEq, ↓reduceIte, reduceCtorEq, Nat.reducePow, Nat.reduceAdd, Nat.reduceLeDiff, Nat.reduceLT, Nat.reduceSub, Nat.reduceEqDiff]
              all_goals
                repeat' (first | (refine csel_of (fun h => ?_) (fun h => ?_) <;> simp only [h, zero_eq, h1, h3, h7, h8, m8, h11, h12, m12, eES, eEX, Nat.reduceBEq, Int.reduceLE, Int.reduceLT, Int.reduceToNat, Int.reduceEq, ↓reduceIte, reduceCtorEq, Nat.reducePow, Nat.reduceAdd, Nat.reduceLeDiff, Nat.reduceLT, Nat.reduceSub, Nat.reduceEqDiff]) | (refine gsel_t (fun h => ?_) (fun h => ?_) <;> simp only [h, updO, zero_eq, h1, h3, h7, h8, m8, h11, h12, m12, eES, eEX, Nat.reduceBEq, Int.reduceLE, Int.reduceLT, Int.reduceToNat, Int.reduceEq, ↓reduceIte, reduceCtorEq, Nat.reducePow, Nat.reduceAdd, Nat.reduceLeDiff, Nat.reduceLT, Nat.reduceSub, Nat.reduceEqDiff]) | (refine gsel_f (fun h => ?_) (fun h => ?_) <;> simp only [h, updO, zero_eq, h1, h3, h7, h8, m8, h11, h12, m12, eES, eEX, Nat.reduceBEq, Int.reduceLE, Int.reduceLT, Int.reduceToNat, Int.reduceEq, ↓reduceIte, reduceCtorEq, Nat.reducePow, Nat.reduceAdd, Nat.reduceLeDiff, Nat.reduceLT, Nat.reduceSub, Nat.reduceEqDiff]))
              all_goals exact hQ _ _ (by first | rfl | exact h1 | simp only [h1, eES, eEX, Nat.reduceBEq, Int.reduceLE, Int.reduceLT, Int.reduceToNat, Int.reduceEq, ↓reduceIte, reduceCtorEq, Nat.reducePow, Nat.reduceAdd, Nat.reduceLeDiff, Nat.reduceLT, Nat.reduceSub, Nat.reduceEqDiff]) (by first | rfl | simp only [eES, eEX, Nat.reduceBEq, Int.reduceLE, Int.reduceLT, Int.reduceToNat, Int.reduceEq, ↓reduceIte, reduceCtorEq, Nat.reducePow, Nat.reduceAdd, Nat.reduceLeDiff, Nat.reduceLT, Nat.reduceSub, Nat.reduceEqDiff]) (by first | rfl | exact h7 | simp only [h7, eES, eEX, Nat.reduceBEq, Int.reduceLE, Int.reduceLT, Int.reduceToNat, Int.reduceEq, ↓reduceIte, reduceCtorEq, Nat.reducePow, Nat.reduceAdd, Nat.reduceLeDiff, Nat.reduceLT, Nat.reduceSub, Nat.reduceEqDiff]) (by first | rfl | exact h8 | simp only [h8, eES, eEX, Nat.reduceBEq, Int.reduceLE, Int.reduceLT, Int.reduceToNat, Int.reduceEq, ↓reduceIte, reduceCtorEq, Nat.reducePow, Nat.reduceAdd, Nat.reduceLeDiff, Nat.reduceLT, Nat.reduceSub, Nat.reduceEqDiff]) (by first | rfl | exact h11 | simp only [h11, eES, eEX, Nat.reduceBEq, Int.reduceLE, Int.reduceLT, Int.reduceToNat, Int.reduceEq, ↓reduceIte, reduceCtorEq, Nat.reducePow, Nat.reduceAdd, Nat.reduceLeDiff, Nat.reduceLT, Nat.reduceSub, Nat.reduceEqDiff])
            | succ k =>
              obtain ⟨_, hd', x', hx', rfl⟩ := getE hS (show k < M.length by omega)
              have e0 := wi64_p k _ hlj hM
              cases b <;> simp only [g32_0, g32_1, g32_2, g32_3, g32_5, g32_6, g32_8, g32_9, g32_7, g32_4, g32_10, g32_11, g32_13, g32_14, g32_15, g32_17, g32_18, g32_16, g32_19, g32_20, g32_22, g32_23, g32_21, g32_12, g32_24, r32, o32, succ_ne, e0, h1, h3, h7, h8, m8, h11, h12, m12, eES, eEX, Nat.reduceBEq, Int.reduceLE, Int.reduceLT, Int.reduceToNat, Int.reduceEq, ↓reduceIte, reduceCtorEq, Nat.reducePow, Nat.reduceAdd, Nat.reduceLeDiff, Nat.reduceLT, Nat.reduceSub, Nat.reduceEqDiff]
              all_goals
                repeat' (first | (refine csel_of (fun h => ?_) (fun h => ?_) <;> simp only [h, succ_ne, e0, PS.cells, nneg, Int.toNat_natCast, aiaddr, hd', h1, h3, h7, h8, m8, h11, h12, m12, eES, eEX, Nat.reduceBEq, Int.reduceLE, Int.reduceLT, Int.reduceToNat, Int.reduceEq, ↓reduceIte, reduceCtorEq, Nat.reducePow, Nat.reduceAdd, Nat.reduceLeDiff, Nat.reduceLT, Nat.reduceSub, Nat.reduceEqDiff]) | (refine gsel_t (fun h => ?_) (fun h => ?_) <;> simp only [h, updO, succ_ne, e0, PS.cells, nneg, Int.toNat_natCast, aiaddr, hd', h1, h3, h7, h8, m8, h11, h12, m12, eES, eEX, Nat.reduceBEq, Int.reduceLE, Int.reduceLT, Int.reduceToNat, Int.reduceEq, ↓reduceIte, reduceCtorEq, Nat.reducePow, Nat.reduceAdd, Nat.reduceLeDiff, Nat.reduceLT, Nat.reduceSub, Nat.reduceEqDiff]) | (refine gsel_f (fun h => ?_) (fun h => ?_) <;> simp only [h, updO, succ_ne, e0, PS.cells, nneg, Int.toNat_natCast, aiaddr, hd', h1, h3, h7, h8, m8, h11, h12, m12, eES, eEX, Nat.reduceBEq, Int.reduceLE, Int.reduceLT, Int.reduceToNat, Int.reduceEq, ↓reduceIte, reduceCtorEq, Nat.reducePow, Nat.reduceAdd, Nat.reduceLeDiff, Nat.reduceLT, Nat.reduceSub, Nat.reduceEqDiff]))
              all_goals exact hQ _ _ (by first | rfl | exact h1 | simp only [h1, eES, eEX, Nat.reduceBEq, Int.reduceLE, Int.reduceLT, Int.reduceToNat, Int.reduceEq, ↓reduceIte, reduceCtorEq, Nat.reducePow, Nat.reduceAdd, Nat.reduceLeDiff, Nat.reduceLT, Nat.reduceSub, Nat.reduceEqDiff]) (by first | rfl | simp only [eES, eEX, Nat.reduceBEq, Int.reduceLE, Int.reduceLT, Int.reduceToNat, Int.reduceEq, ↓reduceIte, reduceCtorEq, Nat.reducePow, Nat.reduceAdd, Nat.reduceLeDiff, Nat.reduceLT, Nat.reduceSub, Nat.reduceEqDiff]) (by first | rfl | exact h7 | simp only [h7, eES, eEX, Nat.reduceBEq, Int.reduceLE, Int.reduceLT, Int.reduceToNat, Int.reduceEq, ↓reduceIte, reduceCtorEq, Nat.reducePow, Nat.reduceAdd, Nat.reduceLeDiff, Nat.reduceLT, Nat.reduceSub, Nat.reduceEqDiff]) (by first | rfl | exact h8 | simp only [h8, eES, eEX, Nat.reduceBEq, Int.reduceLE, Int.reduceLT, Int.reduceToNat, Int.reduceEq, ↓reduceIte, reduceCtorEq, Nat.reducePow, Nat.reduceAdd, Nat.reduceLeDiff, Nat.reduceLT, Nat.reduceSub, Nat.reduceEqDiff]) (by first | rfl | exact h11 | simp only [h11, eES, eEX, Nat.reduceBEq, Int.reduceLE, Int.reduceLT, Int.reduceToNat, Int.reduceEq, ↓reduceIte, reduceCtorEq, Nat.reducePow, Nat.reduceAdd, Nat.reduceLeDiff, Nat.reduceLT, Nat.reduceSub, Nat.reduceEqDiff])
          simp only [lt_t hlj, PS.cells, nneg, Int.toNat_natCast, aiaddr, hd, h1, m1, h3, h7, h8, m8, h11, n12, e2, rb, eES, eEX, Nat.reduceBEq, Int.reduceLE, Int.reduceLT, Int.reduceToNat, Int.reduceEq, ↓reduceIte, reduceCtorEq, Nat.reducePow, Nat.reduceAdd, Nat.reduceLeDiff, Nat.reduceLT, Nat.reduceSub, Nat.reduceEqDiff]
          refine key _ (by first | rfl | exact m8 | simp only [m8, eES, eEX, Nat.reduceBEq, Int.reduceLE, Int.reduceLT, Int.reduceToNat, Int.reduceEq, ↓reduceIte, reduceCtorEq, Nat.reducePow, Nat.reduceAdd, Nat.reduceLeDiff, Nat.reduceLT, Nat.reduceSub, Nat.reduceEqDiff]) (by first | rfl | simp only [eES, eEX, Nat.reduceBEq, Int.reduceLE, Int.reduceLT, Int.reduceToNat, Int.reduceEq, ↓reduceIte, reduceCtorEq, Nat.reducePow, Nat.reduceAdd, Nat.reduceLeDiff, Nat.reduceLT, Nat.reduceSub, Nat.reduceEqDiff]) _ (fun f' b h1 h3 h7 h8 h11 => ?_) _ (by first | rfl | exact h1 | simp only [h1, eES, eEX, Nat.reduceBEq, Int.reduceLE, Int.reduceLT, Int.reduceToNat, Int.reduceEq, ↓reduceIte, reduceCtorEq, Nat.reducePow, Nat.reduceAdd, Nat.reduceLeDiff, Nat.reduceLT, Nat.reduceSub, Nat.reduceEqDiff]) (by first | rfl | exact h3 | simp only [h3, eES, eEX, Nat.reduceBEq, Int.reduceLE, Int.reduceLT, Int.reduceToNat, Int.reduceEq, ↓reduceIte, reduceCtorEq, Nat.reducePow, Nat.reduceAdd, Nat.reduceLeDiff, Nat.reduceLT, Nat.reduceSub, Nat.reduceEqDiff]) (by first | rfl | exact h7 | simp only [h7, eES, eEX, Nat.reduceBEq, Int.reduceLE, Int.reduceLT, Int.reduceToNat, Int.reduceEq, ↓reduceIte, reduceCtorEq, Nat.reducePow, Nat.reduceAdd, Nat.reduceLeDiff, Nat.reduceLT, Nat.reduceSub, Nat.reduceEqDiff]) (by first | rfl | exact h8 | simp only [h8, eES, eEX, Nat.reduceBEq, Int.reduceLE, Int.reduceLT, Int.reduceToNat, Int.reduceEq, ↓reduceIte, reduceCtorEq, Nat.reducePow, Nat.reduceAdd, Nat.reduceLeDiff, Nat.reduceLT, Nat.reduceSub, Nat.reduceEqDiff]) (by first | rfl | exact h11 | simp only [h11, eES, eEX, Nat.reduceBEq, Int.reduceLE, Int.reduceLT, Int.reduceToNat, Int.reduceEq, ↓reduceIte, reduceCtorEq, Nat.reducePow, Nat.reduceAdd, Nat.reduceLeDiff, Nat.reduceLT, Nat.reduceSub, Nat.reduceEqDiff]) (by first | rfl | simp only [eES, eEX, Nat.reduceBEq, Int.reduceLE, Int.reduceLT, Int.reduceToNat, Int.reduceEq, ↓reduceIte, reduceCtorEq, Nat.reducePow, Nat.reduceAdd, Nat.reduceLeDiff, Nat.reduceLT, Nat.reduceSub, Nat.reduceEqDiff])
          simp only [h1, h3, h7, h8, h11, e2, rb, eES, eEX, Nat.reduceBEq, Int.reduceLE, Int.reduceLT, Int.reduceToNat, Int.reduceEq, ↓reduceIte, reduceCtorEq, Nat.reducePow, Nat.reduceAdd, Nat.reduceLeDiff, Nat.reduceLT, Nat.reduceSub, Nat.reduceEqDiff]
          exact ⟨M.length - (j + 1), by omega, _, _, j + 1, _, rfl, rfl, (by first | rfl | exact h1 | simp only [h1, eES, eEX, Nat.reduceBEq, Int.reduceLE, Int.reduceLT, Int.reduceToNat, Int.reduceEq, ↓reduceIte, reduceCtorEq, Nat.reducePow, Nat.reduceAdd, Nat.reduceLeDiff, Nat.reduceLT, Nat.reduceSub, Nat.reduceEqDiff]), (by first | rfl | exact m1 | simp only [m1, eES, eEX, Nat.reduceBEq, Int.reduceLE, Int.reduceLT, Int.reduceToNat, Int.reduceEq, ↓reduceIte, reduceCtorEq, Nat.reducePow, Nat.reduceAdd, Nat.reduceLeDiff, Nat.reduceLT, Nat.reduceSub, Nat.reduceEqDiff]), (by first | rfl | exact h3 | simp only [h3, eES, eEX, Nat.reduceBEq, Int.reduceLE, Int.reduceLT, Int.reduceToNat, Int.reduceEq, ↓reduceIte, reduceCtorEq, Nat.reducePow, Nat.reduceAdd, Nat.reduceLeDiff, Nat.reduceLT, Nat.reduceSub, Nat.reduceEqDiff]), (by first | rfl | exact h7 | simp only [h7, eES, eEX, Nat.reduceBEq, Int.reduceLE, Int.reduceLT, Int.reduceToNat, Int.reduceEq, ↓reduceIte, reduceCtorEq, Nat.reducePow, Nat.reduceAdd, Nat.reduceLeDiff, Nat.reduceLT, Nat.reduceSub, Nat.reduceEqDiff]), (by first | rfl | exact h8 | simp only [h8, eES, eEX, Nat.reduceBEq, Int.reduceLE, Int.reduceLT, Int.reduceToNat, Int.reduceEq, ↓reduceIte, reduceCtorEq, Nat.reducePow, Nat.reduceAdd, Nat.reduceLeDiff, Nat.reduceLT, Nat.reduceSub, Nat.reduceEqDiff]), (by first | rfl | exact m8 | simp only [m8, eES, eEX, Nat.reduceBEq, Int.reduceLE, Int.reduceLT, Int.reduceToNat, Int.reduceEq, ↓reduceIte, reduceCtorEq, Nat.reducePow, Nat.reduceAdd, Nat.reduceLeDiff, Nat.reduceLT, Nat.reduceSub, Nat.reduceEqDiff]), (by first | rfl | simp only [eES, eEX, Nat.reduceBEq, Int.reduceLE, Int.reduceLT, Int.reduceToNat, Int.reduceEq, ↓reduceIte, reduceCtorEq, Nat.reducePow, Nat.reduceAdd, Nat.reduceLeDiff, Nat.reduceLT, Nat.reduceSub, Nat.reduceEqDiff]), by simp [noRows] <;> rfl⟩
        · simp only [lt_f hlj, h1, m1, h3, h7, h8, m8, h11, e1, rb, eES, eEX, Nat.reduceBEq, Int.reduceLE, Int.reduceLT, Int.reduceToNat, Int.reduceEq, ↓reduceIte, reduceCtorEq, Nat.reducePow, Nat.reduceAdd, Nat.reduceLeDiff, Nat.reduceLT, Nat.reduceSub, Nat.reduceEqDiff]
          exact ⟨E.length - (i + 1), by omega, _, _, i + 1, _, rfl, rfl, (by first | rfl | exact h1 | simp only [h1, eES, eEX, Nat.reduceBEq, Int.reduceLE, Int.reduceLT, Int.reduceToNat, Int.reduceEq, ↓reduceIte, reduceCtorEq, Nat.reducePow, Nat.reduceAdd, Nat.reduceLeDiff, Nat.reduceLT, Nat.reduceSub, Nat.reduceEqDiff]), (by first | rfl | exact m1 | simp only [m1, eES, eEX, Nat.reduceBEq, Int.reduceLE, Int.reduceLT, Int.reduceToNat, Int.reduceEq, ↓reduceIte, reduceCtorEq, Nat.reducePow, Nat.reduceAdd, Nat.reduceLeDiff, Nat.reduceLT, Nat.reduceSub, Nat.reduceEqDiff]), (by first | rfl | exact h3 | simp only [h3, eES, eEX, Nat.reduceBEq, Int.reduceLE, Int.reduceLT, Int.reduceToNat, Int.reduceEq, ↓reduceIte, reduceCtorEq, Nat.reducePow, Nat.reduceAdd, Nat.reduceLeDiff, Nat.reduceLT, Nat.reduceSub, Nat.reduceEqDiff]), (by first | rfl | simp only [eES, eEX, Nat.reduceBEq, Int.reduceLE, Int.reduceLT, Int.reduceToNat, Int.reduceEq, ↓reduceIte, reduceCtorEq, Nat.reducePow, Nat.reduceAdd, Nat.reduceLeDiff, Nat.reduceLT, Nat.reduceSub, Nat.reduceEqDiff]), by simp [noRows, n12, m8, e_row_none, e_row_cells]⟩
    · simp only [lt_f hlt, h1, m1, h3, h7, rb, eES, eEX, Nat.reduceBEq, Int.reduceLE, Int.reduceLT, Int.reduceToNat, Int.reduceEq, ↓reduceIte, reduceCtorEq, Nat.reducePow, Nat.reduceAdd, Nat.reduceLeDiff, Nat.reduceLT, Nat.reduceSub, Nat.reduceEqDiff]

end Go.Proofs.YtdmbncmbkocjjaaGreat.Va

/- Texts in UTF-8, as the specification reads them. -/
set_option linter.unusedSimpArgs false
namespace Go.Proofs.YtdmbncmbkocjjaaGreat.Va
open Go Am Rc Bt

/-- A byte from lo to hi. -/
def bt (s : List UInt8) (i lo hi : Nat) : Bool :=
  match s[i]? with
  | some b => decide (lo ≤ b.toNat) && decide (b.toNat ≤ hi)
  | none => false
/-- So many bytes that go on. -/
def tl (s : List UInt8) : Nat → Nat → Bool
  | _, 0 => true
  | i, n + 1 => bt s i 128 191 && tl s (i + 1) n
/-- How long the sequence is that begins there with b. -/
def szb (s : List UInt8) (i b : Nat) : Nat :=
  if b < 128 then 1
  else if 194 ≤ b ∧ b ≤ 223 ∧ tl s (i + 1) 1 = true then 2
  else if b = 224 ∧ bt s (i + 1) 160 191 = true ∧ tl s (i + 2) 1 = true then 3
  else if b = 237 ∧ bt s (i + 1) 128 159 = true ∧ tl s (i + 2) 1 = true then 3
  else if 225 ≤ b ∧ b ≤ 239 ∧ b ≠ 237 ∧ tl s (i + 1) 2 = true then 3
  else if b = 240 ∧ bt s (i + 1) 144 191 = true ∧ tl s (i + 2) 2 = true then 4
  else if 241 ≤ b ∧ b ≤ 243 ∧ tl s (i + 1) 3 = true then 4
  else if b = 244 ∧ bt s (i + 1) 128 143 = true ∧ tl s (i + 2) 2 = true then 4
  else 0
def sz (s : List UInt8) (i : Nat) : Nat :=
  match s[i]? with
  | none => 0
  | some c => szb s i c.toNat
/-- The first wrong byte. -/
def bad (s : List UInt8) : Nat → Nat → Int
  | 0, _ => -1
  | k + 1, i => if i < s.length then (if sz s i = 0 then (i : Int) else bad s k (i + sz s i)) else -1
def vld (s : List UInt8) : Bool := decide (bad s s.length 0 < 0)

theorem geu8 (c : UInt8) (n : Nat) : decide ((c.toNat : Int) ≥ (n : Int)) = decide (n ≤ c.toNat) := by simp
theorem leu8 (c : UInt8) (n : Nat) : decide ((c.toNat : Int) ≤ (n : Int)) = decide (c.toNat ≤ n) := by simp

theorem c88 (s : List UInt8) (i lo hi : Nat) : Fn1 Tryz.prog 88 [.str s, .int .i64 (i : Nat), .int .u8 (lo : Nat), .int .u8 (hi : Nat)] (.bool (bt s i lo hi)) := by
  refine fn1_of_awp (rc := r88) (rs := o88) Tryz.func88 rfl rfl Tryz.ntmps88 k88 q88 (by simp) ?_
  by_cases hlt : i < s.length
  · obtain ⟨c, hc⟩ : ∃ c, s[i]? = some c := ⟨s[i], List.getElem?_eq_getElem hlt⟩
    have hb : bt s i lo hi = (decide (lo ≤ c.toNat) && decide (c.toNat ≤ hi)) := by simp only [bt, hc]
    simp only [g88_0, g88_1, r88, o88, lt_t hlt, nneg, Int.toNat_natCast, hc, geu8, leu8, eES, eEX, Nat.reduceBEq, Int.reduceLE, Int.reduceLT, Int.reduceToNat, Int.reduceEq, ↓reduceIte, reduceCtorEq, Nat.reducePow, Nat.reduceAdd, Nat.reduceLeDiff, Nat.reduceLT, Nat.reduceSub, Nat.reduceEqDiff]
    by_cases h1 : lo ≤ c.toNat
    · have d1 : decide (lo ≤ c.toNat) = true := by simpa using h1
      simp only [d1, lt_t hlt, nneg, Int.toNat_natCast, hc, hb, geu8, leu8, Bool.true_and, eES, eEX, Nat.reduceBEq, Int.reduceLE, Int.reduceLT, Int.reduceToNat, Int.reduceEq, ↓reduceIte, reduceCtorEq, Nat.reducePow, Nat.reduceAdd, Nat.reduceLeDiff, Nat.reduceLT, Nat.reduceSub, Nat.reduceEqDiff]
    · have d1 : decide (lo ≤ c.toNat) = false := by simpa using h1
      simp only [d1, lt_t hlt, nneg, Int.toNat_natCast, hc, hb, geu8, leu8, Bool.false_and, eES, eEX, Nat.reduceBEq, Int.reduceLE, Int.reduceLT, Int.reduceToNat, Int.reduceEq, ↓reduceIte, reduceCtorEq, Nat.reducePow, Nat.reduceAdd, Nat.reduceLeDiff, Nat.reduceLT, Nat.reduceSub, Nat.reduceEqDiff]
  · have hb : bt s i lo hi = false := by simp only [bt, List.getElem?_eq_none (Nat.le_of_not_lt hlt)]
    simp only [g88_0, g88_1, r88, o88, lt_f hlt, hb, eES, eEX, Nat.reduceBEq, Int.reduceLE, Int.reduceLT, Int.reduceToNat, Int.reduceEq, ↓reduceIte, reduceCtorEq, Nat.reducePow, Nat.reduceAdd, Nat.reduceLeDiff, Nat.reduceLT, Nat.reduceSub, Nat.reduceEqDiff]

def TailI (s : List UInt8) (i n : Nat) (k : Nat) (st : St) : Prop :=
  ∃ f j, st = ⟨f, [noObs], []⟩ ∧ k = n - j ∧ j ≤ n ∧ tl s i n = tl s (i + j) (n - j) ∧ f 0 = .str s ∧ f 1 = .int .i64 (i : Nat) ∧ f 2 = .int .i64 (n : Nat) ∧ f 7 = .int .i64 (j : Nat)

theorem wadd (a b : Nat) (h : a + b ≤ maxLen) : IntKind.i64.wrap ((a : Int) + (b : Int)) = ((a + b : Nat) : Int) := by
  simp only [maxLen] at h
  rw [wi64]; omega

theorem c87 (s : List UInt8) (i n : Nat) (hi : i + n ≤ maxLen) : Fn1 Tryz.prog 87 [.str s, .int .i64 (i : Nat), .int .i64 (n : Nat)] (.bool (tl s i n)) := by
  refine fn1_of_awp (rc := r87) (rs := o87) Tryz.func87 rfl rfl Tryz.ntmps87 k87 q87 (by simp) ?_
  simp only [g87_0, g87_1, g87_2, g87_4, g87_5, g87_3, g87_6, r87, o87, eES, eEX, Nat.reduceBEq, Int.reduceLE, Int.reduceLT, Int.reduceToNat, Int.reduceEq, ↓reduceIte, reduceCtorEq, Nat.reducePow, Nat.reduceAdd, Nat.reduceLeDiff, Nat.reduceLT, Nat.reduceSub, Nat.reduceEqDiff]
  refine awp_loop (TailI s i n) _ ⟨_, 0, rfl, rfl, Nat.zero_le _, rfl, rfl, rfl, rfl, rfl⟩ ?_
  rintro _ st ⟨f, j, rfl, rfl, hj, ht, h0, h1, h2, h7⟩
  simp only [l87_0, g87_0, g87_1, g87_2, g87_4, g87_5, g87_3, g87_6, r87, o87, h0, h1, h2, h7, eES, eEX, Nat.reduceBEq, Int.reduceLE, Int.reduceLT, Int.reduceToNat, Int.reduceEq, ↓reduceIte, reduceCtorEq, Nat.reducePow, Nat.reduceAdd, Nat.reduceLeDiff, Nat.reduceLT, Nat.reduceSub, Nat.reduceEqDiff]
  by_cases hlt : j < n
  · have e0 := wadd i j (by omega)
    have e1 := wi64_s j _ hlt (by omega)
    simp only [lt_t hlt, h0, h1, h2, h7, e0, eES, eEX, Nat.reduceBEq, Int.reduceLE, Int.reduceLT, Int.reduceToNat, Int.reduceEq, ↓reduceIte, reduceCtorEq, Nat.reducePow, Nat.reduceAdd, Nat.reduceLeDiff, Nat.reduceLT, Nat.reduceSub, Nat.reduceEqDiff]
    refine aops_call (c88 s (i + j) 128 191) rfl rfl rfl (.inl rfl) ?_
    have hs : tl s i n = (bt s (i + j) 128 191 && tl s (i + (j + 1)) (n - (j + 1))) := by
      rw [ht]
      obtain ⟨m, hm⟩ : ∃ m, n - j = m + 1 := ⟨n - j - 1, by omega⟩
      rw [hm, show n - (j + 1) = m by omega]
      rfl
    cases hb : bt s (i + j) 128 191
    · rw [hb] at hs
      simp only [hs, Bool.false_and, eES, eEX, Nat.reduceBEq, Int.reduceLE, Int.reduceLT, Int.reduceToNat, Int.reduceEq, ↓reduceIte, reduceCtorEq, Nat.reducePow, Nat.reduceAdd, Nat.reduceLeDiff, Nat.reduceLT, Nat.reduceSub, Nat.reduceEqDiff]
    · rw [hb, Bool.true_and] at hs
      simp only [h0, h1, h2, h7, e1, eES, eEX, Nat.reduceBEq, Int.reduceLE, Int.reduceLT, Int.reduceToNat, Int.reduceEq, ↓reduceIte, reduceCtorEq, Nat.reducePow, Nat.reduceAdd, Nat.reduceLeDiff, Nat.reduceLT, Nat.reduceSub, Nat.reduceEqDiff]
      exact ⟨n - (j + 1), by omega, _, j + 1, rfl, rfl, by omega, hs, (by first | rfl | exact h0 | simp only [h0, eES, eEX, Nat.reduceBEq, Int.reduceLE, Int.reduceLT, Int.reduceToNat, Int.reduceEq, ↓reduceIte, reduceCtorEq, Nat.reducePow, Nat.reduceAdd, Nat.reduceLeDiff, Nat.reduceLT, Nat.reduceSub, Nat.reduceEqDiff]), (by first | rfl | exact h1 | simp only [h1, eES, eEX, Nat.reduceBEq, Int.reduceLE, Int.reduceLT, Int.reduceToNat, Int.reduceEq, ↓reduceIte, reduceCtorEq, Nat.reducePow, Nat.reduceAdd, Nat.reduceLeDiff, Nat.reduceLT, Nat.reduceSub, Nat.reduceEqDiff]), (by first | rfl | exact h2 | simp only [h2, eES, eEX, Nat.reduceBEq, Int.reduceLE, Int.reduceLT, Int.reduceToNat, Int.reduceEq, ↓reduceIte, reduceCtorEq, Nat.reducePow, Nat.reduceAdd, Nat.reduceLeDiff, Nat.reduceLT, Nat.reduceSub, Nat.reduceEqDiff]), (by first | rfl | simp only [eES, eEX, Nat.reduceBEq, Int.reduceLE, Int.reduceLT, Int.reduceToNat, Int.reduceEq, ↓reduceIte, reduceCtorEq, Nat.reducePow, Nat.reduceAdd, Nat.reduceLeDiff, Nat.reduceLT, Nat.reduceSub, Nat.reduceEqDiff])⟩
  · have hs : tl s i n = true := by
      rw [ht, show n - j = 0 by omega]
      rfl
    simp only [lt_f hlt, h0, h1, h2, h7, hs, eES, eEX, Nat.reduceBEq, Int.reduceLE, Int.reduceLT, Int.reduceToNat, Int.reduceEq, ↓reduceIte, reduceCtorEq, Nat.reducePow, Nat.reduceAdd, Nat.reduceLeDiff, Nat.reduceLT, Nat.reduceSub, Nat.reduceEqDiff]

/-- A test of one way: slot D is true where the condition holds. -/
def Stg (s : List UInt8) (i : Nat) (c : UInt8) (D : Nat) (cond : Prop) (g : List Am.Item) : Prop :=
  ∀ Q : St → Prop, (∀ f' B, (B = true ↔ cond) → f' 0 = .str s → f' 1 = .int .i64 (i : Nat) → f' 5 = .int .u8 (c.toNat : Nat) → f' D = .bool B → Q ⟨f', [noObs], []⟩) →
    ∀ f, f 0 = .str s → f 1 = .int .i64 (i : Nat) → f 5 = .int .u8 (c.toNat : Nat) → aops Tryz.prog g ⟨f, [noObs], []⟩ Q

section
variable {s : List UInt8} {i : Nat} {c : UInt8} (hi : i < s.length) (hs : s.length + 8 ≤ maxLen)
include hi hs

theorem stg4 : Stg s i c 12 (194 ≤ c.toNat ∧ c.toNat ≤ 223 ∧ tl s (i + 1) 1 = true) g63_4 := by
  intro Q hQ f h0 h1 h5
  have e1 : IntKind.i64.wrap ((i : Int) + 1) = ((i + 1 : Nat) : Int) := wadd i 1 (by omega)
  have e2 : IntKind.i64.wrap ((i : Int) + 2) = ((i + 2 : Nat) : Int) := wadd i 2 (by omega)
  simp only [g63_0, g63_1, g63_2, g63_3, g63_4, g63_5, g63_6, g63_7, g63_8, g63_9, g63_10, g63_11, g63_12, g63_13, g63_14, g63_15, g63_16, g63_17, g63_18, r63, o63, h0, h1, h5, eES, eEX, Nat.reduceBEq, Int.reduceLE, Int.reduceLT, Int.reduceToNat, Int.reduceEq, ↓reduceIte, reduceCtorEq, Nat.reducePow, Nat.reduceAdd, Nat.reduceLeDiff, Nat.reduceLT, Nat.reduceSub, Nat.reduceEqDiff]
  repeat' (first | (refine csel_of (fun h => ?_) (fun h => ?_) <;> simp only [h, h0, h1, h5, e1, e2, eES, eEX, Nat.reduceBEq, Int.reduceLE, Int.reduceLT, Int.reduceToNat, Int.reduceEq, ↓reduceIte, reduceCtorEq, Nat.reducePow, Nat.reduceAdd, Nat.reduceLeDiff, Nat.reduceLT, Nat.reduceSub, Nat.reduceEqDiff]) | (refine gsel_t (fun h => ?_) (fun h => ?_) <;> simp only [h, updO, h0, h1, h5, e1, e2, eES, eEX, Nat.reduceBEq, Int.reduceLE, Int.reduceLT, Int.reduceToNat, Int.reduceEq, ↓reduceIte, reduceCtorEq, Nat.reducePow, Nat.reduceAdd, Nat.reduceLeDiff, Nat.reduceLT, Nat.reduceSub, Nat.reduceEqDiff]) | (refine gsel_f (fun h => ?_) (fun h => ?_) <;> simp only [h, updO, h0, h1, h5, e1, e2, eES, eEX, Nat.reduceBEq, Int.reduceLE, Int.reduceLT, Int.reduceToNat, Int.reduceEq, ↓reduceIte, reduceCtorEq, Nat.reducePow, Nat.reduceAdd, Nat.reduceLeDiff, Nat.reduceLT, Nat.reduceSub, Nat.reduceEqDiff]) | ((with_reducible apply aops_call (k := 87)); (case hy => rfl); (case h1 => rfl); (case hk => exact c87 s (i + 1) 1 (by omega)); (case h2 => rfl); (case h3 => first | exact .inl rfl | exact .inr rfl); simp only [h0, h1, h5, e1, e2, eES, eEX, Nat.reduceBEq, Int.reduceLE, Int.reduceLT, Int.reduceToNat, Int.reduceEq, ↓reduceIte, reduceCtorEq, Nat.reducePow, Nat.reduceAdd, Nat.reduceLeDiff, Nat.reduceLT, Nat.reduceSub, Nat.reduceEqDiff]))
  all_goals (refine hQ _ _ ?_ (by first | rfl | exact h0 | simp only [h0, eES, eEX, Nat.reduceBEq, Int.reduceLE, Int.reduceLT, Int.reduceToNat, Int.reduceEq, ↓reduceIte, reduceCtorEq, Nat.reducePow, Nat.reduceAdd, Nat.reduceLeDiff, Nat.reduceLT, Nat.reduceSub, Nat.reduceEqDiff]) (by first | rfl | exact h1 | simp only [h1, eES, eEX, Nat.reduceBEq, Int.reduceLE, Int.reduceLT, Int.reduceToNat, Int.reduceEq, ↓reduceIte, reduceCtorEq, Nat.reducePow, Nat.reduceAdd, Nat.reduceLeDiff, Nat.reduceLT, Nat.reduceSub, Nat.reduceEqDiff]) (by first | rfl | exact h5 | simp only [h5, eES, eEX, Nat.reduceBEq, Int.reduceLE, Int.reduceLT, Int.reduceToNat, Int.reduceEq, ↓reduceIte, reduceCtorEq, Nat.reducePow, Nat.reduceAdd, Nat.reduceLeDiff, Nat.reduceLT, Nat.reduceSub, Nat.reduceEqDiff]) rfl)
  all_goals simp only [decide_eq_true_eq, decide_eq_false_iff_not, beq_iff_eq, bne_iff_ne, beq_eq_false_iff_ne, bne_eq_false_iff_eq, ne_eq, ge_iff_le] at *
  all_goals
    constructor
    · intro hh
      first
        | cases hh
        | (refine ⟨by omega, ?_⟩; first | exact hh | (refine ⟨by omega, ?_⟩; first | exact hh | (refine ⟨by omega, ?_⟩; exact hh)) | exact ⟨by assumption, hh⟩)
    · intro hh
      first
        | exact hh.2.2.2
        | exact hh.2.2
        | (exfalso; omega)
        | (exfalso; simp_all; done)

theorem stg6 : Stg s i c 25 (c.toNat = 224 ∧ bt s (i + 1) 160 191 = true ∧ tl s (i + 2) 1 = true) g63_6 := by
  intro Q hQ f h0 h1 h5
  have e1 : IntKind.i64.wrap ((i : Int) + 1) = ((i + 1 : Nat) : Int) := wadd i 1 (by omega)
  have e2 : IntKind.i64.wrap ((i : Int) + 2) = ((i + 2 : Nat) : Int) := wadd i 2 (by omega)
  simp only [g63_0, g63_1, g63_2, g63_3, g63_4, g63_5, g63_6, g63_7, g63_8, g63_9, g63_10, g63_11, g63_12, g63_13, g63_14, g63_15, g63_16, g63_17, g63_18, r63, o63, h0, h1, h5, eES, eEX, Nat.reduceBEq, Int.reduceLE, Int.reduceLT, Int.reduceToNat, Int.reduceEq, ↓reduceIte, reduceCtorEq, Nat.reducePow, Nat.reduceAdd, Nat.reduceLeDiff, Nat.reduceLT, Nat.reduceSub, Nat.reduceEqDiff]
  repeat' (first | (refine csel_of (fun h => ?_) (fun h => ?_) <;> simp only [h, h0, h1, h5, e1, e2, eES, eEX, Nat.reduceBEq, Int.reduceLE, Int.reduceLT, Int.reduceToNat, Int.reduceEq, ↓reduceIte, reduceCtorEq, Nat.reducePow, Nat.reduceAdd, Nat.reduceLeDiff, Nat.reduceLT, Nat.reduceSub, Nat.reduceEqDiff]) | (refine gsel_t (fun h => ?_) (fun h => ?_) <;> simp only [h, updO, h0, h1, h5, e1, e2, eES, eEX, Nat.reduceBEq, Int.reduceLE, Int.reduceLT, Int.reduceToNat, Int.reduceEq, ↓reduceIte, reduceCtorEq, Nat.reducePow, Nat.reduceAdd, Nat.reduceLeDiff, Nat.reduceLT, Nat.reduceSub, Nat.reduceEqDiff]) | (refine gsel_f (fun h => ?_) (fun h => ?_) <;> simp only [h, updO, h0, h1, h5, e1, e2, eES, eEX, Nat.reduceBEq, Int.reduceLE, Int.reduceLT, Int.reduceToNat, Int.reduceEq, ↓reduceIte, reduceCtorEq, Nat.reducePow, Nat.reduceAdd, Nat.reduceLeDiff, Nat.reduceLT, Nat.reduceSub, Nat.reduceEqDiff]) | ((with_reducible apply aops_call (k := 88)); (case hy => rfl); (case h1 => rfl); (case hk => exact c88 s (i + 1) 160 191); (case h2 => rfl); (case h3 => first | exact .inl rfl | exact .inr rfl); simp only [h0, h1, h5, e1, e2, eES, eEX, Nat.reduceBEq, Int.reduceLE, Int.reduceLT, Int.reduceToNat, Int.reduceEq, ↓reduceIte, reduceCtorEq, Nat.reducePow, Nat.reduceAdd, Nat.reduceLeDiff, Nat.reduceLT, Nat.reduceSub, Nat.reduceEqDiff]) | ((with_reducible apply aops_call (k := 87)); (case hy => rfl); (case h1 => rfl); (case hk => exact c87 s (i + 2) 1 (by omega)); (case h2 => rfl); (case h3 => first | exact .inl rfl | exact .inr rfl); simp only [h0, h1, h5, e1, e2, eES, eEX, Nat.reduceBEq, Int.reduceLE, Int.reduceLT, Int.reduceToNat, Int.reduceEq, ↓reduceIte, reduceCtorEq, Nat.reducePow, Nat.reduceAdd, Nat.reduceLeDiff, Nat.reduceLT, Nat.reduceSub, Nat.reduceEqDiff]))
  all_goals (refine hQ _ _ ?_ (by first | rfl | exact h0 | simp only [h0, eES, eEX, Nat.reduceBEq, Int.reduceLE, Int.reduceLT, Int.reduceToNat, Int.reduceEq, ↓reduceIte, reduceCtorEq, Nat.reducePow, Nat.reduceAdd, Nat.reduceLeDiff, Nat.reduceLT, Nat.reduceSub, Nat.reduceEqDiff]) (by first | rfl | exact h1 | simp only [h1, eES, eEX, Nat.reduceBEq, Int.reduceLE, Int.reduceLT, Int.reduceToNat, Int.reduceEq, ↓reduceIte, reduceCtorEq, Nat.reducePow, Nat.reduceAdd, Nat.reduceLeDiff, Nat.reduceLT, Nat.reduceSub, Nat.reduceEqDiff]) (by first | rfl | exact h5 | simp only [h5, eES, eEX, Nat.reduceBEq, Int.reduceLE, Int.reduceLT, Int.reduceToNat, Int.reduceEq, ↓reduceIte, reduceCtorEq, Nat.reducePow, Nat.reduceAdd, Nat.reduceLeDiff, Nat.reduceLT, Nat.reduceSub, Nat.reduceEqDiff]) rfl)
  all_goals simp only [decide_eq_true_eq, decide_eq_false_iff_not, beq_iff_eq, bne_iff_ne, beq_eq_false_iff_ne, bne_eq_false_iff_eq, ne_eq, ge_iff_le] at *
  all_goals
    constructor
    · intro hh
      first
        | cases hh
        | (refine ⟨by omega, ?_⟩; first | exact hh | (refine ⟨by omega, ?_⟩; first | exact hh | (refine ⟨by omega, ?_⟩; exact hh)) | exact ⟨by assumption, hh⟩)
    · intro hh
      first
        | exact hh.2.2.2
        | exact hh.2.2
        | (exfalso; omega)
        | (exfalso; simp_all; done)

theorem stg8 : Stg s i c 40 (c.toNat = 237 ∧ bt s (i + 1) 128 159 = true ∧ tl s (i + 2) 1 = true) g63_8 := by
  intro Q hQ f h0 h1 h5
  have e1 : IntKind.i64.wrap ((i : Int) + 1) = ((i + 1 : Nat) : Int) := wadd i 1 (by omega)
  have e2 : IntKind.i64.wrap ((i : Int) + 2) = ((i + 2 : Nat) : Int) := wadd i 2 (by omega)
  simp only [g63_0, g63_1, g63_2, g63_3, g63_4, g63_5, g63_6, g63_7, g63_8, g63_9, g63_10, g63_11, g63_12, g63_13, g63_14, g63_15, g63_16, g63_17, g63_18, r63, o63, h0, h1, h5, eES, eEX, Nat.reduceBEq, Int.reduceLE, Int.reduceLT, Int.reduceToNat, Int.reduceEq, ↓reduceIte, reduceCtorEq, Nat.reducePow, Nat.reduceAdd, Nat.reduceLeDiff, Nat.reduceLT, Nat.reduceSub, Nat.reduceEqDiff]
  repeat' (first | (refine csel_of (fun h => ?_) (fun h => ?_) <;> simp only [h, h0, h1, h5, e1, e2, eES, eEX, Nat.reduceBEq, Int.reduceLE, Int.reduceLT, Int.reduceToNat, Int.reduceEq, ↓reduceIte, reduceCtorEq, Nat.reducePow, Nat.reduceAdd, Nat.reduceLeDiff, Nat.reduceLT, Nat.reduceSub, Nat.reduceEqDiff]) | (refine gsel_t (fun h => ?_) (fun h => ?_) <;> simp only [h, updO, h0, h1, h5, e1, e2, eES, eEX, Nat.reduceBEq, Int.reduceLE, Int.reduceLT, Int.reduceToNat, Int.reduceEq, ↓reduceIte, reduceCtorEq, Nat.reducePow, Nat.reduceAdd, Nat.reduceLeDiff, Nat.reduceLT, Nat.reduceSub, Nat.reduceEqDiff]) | (refine gsel_f (fun h => ?_) (fun h => ?_) <;> simp only [h, updO, h0, h1, h5, e1, e2, eES, eEX, Nat.reduceBEq, Int.reduceLE, Int.reduceLT, Int.reduceToNat, Int.reduceEq, ↓reduceIte, reduceCtorEq, Nat.reducePow, Nat.reduceAdd, Nat.reduceLeDiff, Nat.reduceLT, Nat.reduceSub, Nat.reduceEqDiff]) | ((with_reducible apply aops_call (k := 88)); (case hy => rfl); (case h1 => rfl); (case hk => exact c88 s (i + 1) 128 159); (case h2 => rfl); (case h3 => first | exact .inl rfl | exact .inr rfl); simp only [h0, h1, h5, e1, e2, eES, eEX, Nat.reduceBEq, Int.reduceLE, Int.reduceLT, Int.reduceToNat, Int.reduceEq, ↓reduceIte, reduceCtorEq, Nat.reducePow, Nat.reduceAdd, Nat.reduceLeDiff, Nat.reduceLT, Nat.reduceSub, Nat.reduceEqDiff]) | ((with_reducible apply aops_call (k := 87)); (case hy => rfl); (case h1 => rfl); (case hk => exact c87 s (i + 2) 1 (by omega)); (case h2 => rfl); (case h3 => first | exact .inl rfl | exact .inr rfl); simp only [h0, h1, h5, e1, e2, eES, eEX, Nat.reduceBEq, Int.reduceLE, Int.reduceLT, Int.reduceToNat, Int.reduceEq, ↓reduceIte, reduceCtorEq, Nat.reducePow, Nat.reduceAdd, Nat.reduceLeDiff, Nat.reduceLT, Nat.reduceSub, Nat.reduceEqDiff]))
  all_goals (refine hQ _ _ ?_ (by first | rfl | exact h0 | simp only [h0, eES, eEX, Nat.reduceBEq, Int.reduceLE, Int.reduceLT, Int.reduceToNat, Int.reduceEq, ↓reduceIte, reduceCtorEq, Nat.reducePow, Nat.reduceAdd, Nat.reduceLeDiff, Nat.reduceLT, Nat.reduceSub, Nat.reduceEqDiff]) (by first | rfl | exact h1 | simp only [h1, eES, eEX, Nat.reduceBEq, Int.reduceLE, Int.reduceLT, Int.reduceToNat, Int.reduceEq, ↓reduceIte, reduceCtorEq, Nat.reducePow, Nat.reduceAdd, Nat.reduceLeDiff, Nat.reduceLT, Nat.reduceSub, Nat.reduceEqDiff]) (by first | rfl | exact h5 | simp only [h5, eES, eEX, Nat.reduceBEq, Int.reduceLE, Int.reduceLT, Int.reduceToNat, Int.reduceEq, ↓reduceIte, reduceCtorEq, Nat.reducePow, Nat.reduceAdd, Nat.reduceLeDiff, Nat.reduceLT, Nat.reduceSub, Nat.reduceEqDiff]) rfl)
  all_goals simp only [decide_eq_true_eq, decide_eq_false_iff_not, beq_iff_eq, bne_iff_ne, beq_eq_false_iff_ne, bne_eq_false_iff_eq, ne_eq, ge_iff_le] at *
  all_goals
    constructor
    · intro hh
      first
        | cases hh
        | (refine ⟨by omega, ?_⟩; first | exact hh | (refine ⟨by omega, ?_⟩; first | exact hh | (refine ⟨by omega, ?_⟩; exact hh)) | exact ⟨by assumption, hh⟩)
    · intro hh
      first
        | exact hh.2.2.2
        | exact hh.2.2
        | (exfalso; omega)
        | (exfalso; simp_all; done)

theorem stg10 : Stg s i c 55 (225 ≤ c.toNat ∧ c.toNat ≤ 239 ∧ c.toNat ≠ 237 ∧ tl s (i + 1) 2 = true) g63_10 := by
  intro Q hQ f h0 h1 h5
  have e1 : IntKind.i64.wrap ((i : Int) + 1) = ((i + 1 : Nat) : Int) := wadd i 1 (by omega)
  have e2 : IntKind.i64.wrap ((i : Int) + 2) = ((i + 2 : Nat) : Int) := wadd i 2 (by omega)
  simp only [g63_0, g63_1, g63_2, g63_3, g63_4, g63_5, g63_6, g63_7, g63_8, g63_9, g63_10, g63_11, g63_12, g63_13, g63_14, g63_15, g63_16, g63_17, g63_18, r63, o63, h0, h1, h5, eES, eEX, Nat.reduceBEq, Int.reduceLE, Int.reduceLT, Int.reduceToNat, Int.reduceEq, ↓reduceIte, reduceCtorEq, Nat.reducePow, Nat.reduceAdd, Nat.reduceLeDiff, Nat.reduceLT, Nat.reduceSub, Nat.reduceEqDiff]
  repeat' (first | (refine csel_of (fun h => ?_) (fun h => ?_) <;> simp only [h, h0, h1, h5, e1, e2, eES, eEX, Nat.reduceBEq, Int.reduceLE, Int.reduceLT, Int.reduceToNat, Int.reduceEq, ↓reduceIte, reduceCtorEq, Nat.reducePow, Nat.reduceAdd, Nat.reduceLeDiff, Nat.reduceLT, Nat.reduceSub, Nat.reduceEqDiff]) | (refine gsel_t (fun h => ?_) (fun h => ?_) <;> simp only [h, updO, h0, h1, h5, e1, e2, eES, eEX, Nat.reduceBEq, Int.reduceLE, Int.reduceLT, Int.reduceToNat, Int.reduceEq, ↓reduceIte, reduceCtorEq, Nat.reducePow, Nat.reduceAdd, Nat.reduceLeDiff, Nat.reduceLT, Nat.reduceSub, Nat.reduceEqDiff]) | (refine gsel_f (fun h => ?_) (fun h => ?_) <;> simp only [h, updO, h0, h1, h5, e1, e2, eES, eEX, Nat.reduceBEq, Int.reduceLE, Int.reduceLT, Int.reduceToNat, Int.reduceEq, ↓reduceIte, reduceCtorEq, Nat.reducePow, Nat.reduceAdd, Nat.reduceLeDiff, Nat.reduceLT, Nat.reduceSub, Nat.reduceEqDiff]) | ((with_reducible apply aops_call (k := 87)); (case hy => rfl); (case h1 => rfl); (case hk => exact c87 s (i + 1) 2 (by omega)); (case h2 => rfl); (case h3 => first | exact .inl rfl | exact .inr rfl); simp only [h0, h1, h5, e1, e2, eES, eEX, Nat.reduceBEq, Int.reduceLE, Int.reduceLT, Int.reduceToNat, Int.reduceEq, ↓reduceIte, reduceCtorEq, Nat.reducePow, Nat.reduceAdd, Nat.reduceLeDiff, Nat.reduceLT, Nat.reduceSub, Nat.reduceEqDiff]))
  all_goals (refine hQ _ _ ?_ (by first | rfl | exact h0 | simp only [h0, eES, eEX, Nat.reduceBEq, Int.reduceLE, Int.reduceLT, Int.reduceToNat, Int.reduceEq, ↓reduceIte, reduceCtorEq, Nat.reducePow, Nat.reduceAdd, Nat.reduceLeDiff, Nat.reduceLT, Nat.reduceSub, Nat.reduceEqDiff]) (by first | rfl | exact h1 | simp only [h1, eES, eEX, Nat.reduceBEq, Int.reduceLE, Int.reduceLT, Int.reduceToNat, Int.reduceEq, ↓reduceIte, reduceCtorEq, Nat.reducePow, Nat.reduceAdd, Nat.reduceLeDiff, Nat.reduceLT, Nat.reduceSub, Nat.reduceEqDiff]) (by first | rfl | exact h5 | simp only [h5, eES, eEX, Nat.reduceBEq, Int.reduceLE, Int.reduceLT, Int.reduceToNat, Int.reduceEq, ↓reduceIte, reduceCtorEq, Nat.reducePow, Nat.reduceAdd, Nat.reduceLeDiff, Nat.reduceLT, Nat.reduceSub, Nat.reduceEqDiff]) rfl)
  all_goals simp only [decide_eq_true_eq, decide_eq_false_iff_not, beq_iff_eq, bne_iff_ne, beq_eq_false_iff_ne, bne_eq_false_iff_eq, ne_eq, ge_iff_le] at *
  all_goals
    constructor
    · intro hh
      first
        | cases hh
        | (refine ⟨by omega, ?_⟩; first | exact hh | (refine ⟨by omega, ?_⟩; first | exact hh | (refine ⟨by omega, ?_⟩; exact hh)) | exact ⟨by assumption, hh⟩)
    · intro hh
      first
        | exact hh.2.2.2
        | exact hh.2.2
        | (exfalso; omega)
        | (exfalso; simp_all; done)

theorem stg12 : Stg s i c 72 (c.toNat = 240 ∧ bt s (i + 1) 144 191 = true ∧ tl s (i + 2) 2 = true) g63_12 := by
  intro Q hQ f h0 h1 h5
  have e1 : IntKind.i64.wrap ((i : Int) + 1) = ((i + 1 : Nat) : Int) := wadd i 1 (by omega)
  have e2 : IntKind.i64.wrap ((i : Int) + 2) = ((i + 2 : Nat) : Int) := wadd i 2 (by omega)
  simp only [g63_0, g63_1, g63_2, g63_3, g63_4, g63_5, g63_6, g63_7, g63_8, g63_9, g63_10, g63_11, g63_12, g63_13, g63_14, g63_15, g63_16, g63_17, g63_18, r63, o63, h0, h1, h5, eES, eEX, Nat.reduceBEq, Int.reduceLE, Int.reduceLT, Int.reduceToNat, Int.reduceEq, ↓reduceIte, reduceCtorEq, Nat.reducePow, Nat.reduceAdd, Nat.reduceLeDiff, Nat.reduceLT, Nat.reduceSub, Nat.reduceEqDiff]
  repeat' (first | (refine csel_of (fun h => ?_) (fun h => ?_) <;> simp only [h, h0, h1, h5, e1, e2, eES, eEX, Nat.reduceBEq, Int.reduceLE, Int.reduceLT, Int.reduceToNat, Int.reduceEq, ↓reduceIte, reduceCtorEq, Nat.reducePow, Nat.reduceAdd, Nat.reduceLeDiff, Nat.reduceLT, Nat.reduceSub, Nat.reduceEqDiff]) | (refine gsel_t (fun h => ?_) (fun h => ?_) <;> simp only [h, updO, h0, h1, h5, e1, e2, eES, eEX, Nat.reduceBEq, Int.reduceLE, Int.reduceLT, Int.reduceToNat, Int.reduceEq, ↓reduceIte, reduceCtorEq, Nat.reducePow, Nat.reduceAdd, Nat.reduceLeDiff, Nat.reduceLT, Nat.reduceSub, Nat.reduceEqDiff]) | (refine gsel_f (fun h => ?_) (fun h => ?_) <;> simp only [h, updO, h0, h1, h5, e1, e2, eES, eEX, Nat.reduceBEq, Int.reduceLE, Int.reduceLT, Int.reduceToNat, Int.reduceEq, ↓reduceIte, reduceCtorEq, Nat.reducePow, Nat.reduceAdd, Nat.reduceLeDiff, Nat.reduceLT, Nat.reduceSub, Nat.reduceEqDiff]) | ((with_reducible apply aops_call (k := 88)); (case hy => rfl); (case h1 => rfl); (case hk => exact c88 s (i + 1) 144 191); (case h2 => rfl); (case h3 => first | exact .inl rfl | exact .inr rfl); simp only [h0, h1, h5, e1, e2, eES, eEX, Nat.reduceBEq, Int.reduceLE, Int.reduceLT, Int.reduceToNat, Int.reduceEq, ↓reduceIte, reduceCtorEq, Nat.reducePow, Nat.reduceAdd, Nat.reduceLeDiff, Nat.reduceLT, Nat.reduceSub, Nat.reduceEqDiff]) | ((with_reducible apply aops_call (k := 87)); (case hy => rfl); (case h1 => rfl); (case hk => exact c87 s (i + 2) 2 (by omega)); (case h2 => rfl); (case h3 => first | exact .inl rfl | exact .inr rfl); simp only [h0, h1, h5, e1, e2, eES, eEX, Nat.reduceBEq, Int.reduceLE, Int.reduceLT, Int.reduceToNat, Int.reduceEq, ↓reduceIte, reduceCtorEq, Nat.reducePow, Nat.reduceAdd, Nat.reduceLeDiff, Nat.reduceLT, Nat.reduceSub, Nat.reduceEqDiff]))
  all_goals (refine hQ _ _ ?_ (by first | rfl | exact h0 | simp only [h0, eES, eEX, Nat.reduceBEq, Int.reduceLE, Int.reduceLT, Int.reduceToNat, Int.reduceEq, ↓reduceIte, reduceCtorEq, Nat.reducePow, Nat.reduceAdd, Nat.reduceLeDiff, Nat.reduceLT, Nat.reduceSub, Nat.reduceEqDiff]) (by first | rfl | exact h1 | simp only [h1, eES, eEX, Nat.reduceBEq, Int.reduceLE, Int.reduceLT, Int.reduceToNat, Int.reduceEq, ↓reduceIte, reduceCtorEq, Nat.reducePow, Nat.reduceAdd, Nat.reduceLeDiff, Nat.reduceLT, Nat.reduceSub, Nat.reduceEqDiff]) (by first | rfl | exact h5 | simp only [h5, eES, eEX, Nat.reduceBEq, Int.reduceLE, Int.reduceLT, Int.reduceToNat, Int.reduceEq, ↓reduceIte, reduceCtorEq, Nat.reducePow, Nat.reduceAdd, Nat.reduceLeDiff, Nat.reduceLT, Nat.reduceSub, Nat.reduceEqDiff]) rfl)
  all_goals simp only [decide_eq_true_eq, decide_eq_false_iff_not, beq_iff_eq, bne_iff_ne, beq_eq_false_iff_ne, bne_eq_false_iff_eq, ne_eq, ge_iff_le] at *
  all_goals
    constructor
    · intro hh
      first
        | cases hh
        | (refine ⟨by omega, ?_⟩; first | exact hh | (refine ⟨by omega, ?_⟩; first | exact hh | (refine ⟨by omega, ?_⟩; exact hh)) | exact ⟨by assumption, hh⟩)
    · intro hh
      first
        | exact hh.2.2.2
        | exact hh.2.2
        | (exfalso; omega)
        | (exfalso; simp_all; done)

theorem stg14 : Stg s i c 87 (241 ≤ c.toNat ∧ c.toNat ≤ 243 ∧ tl s (i + 1) 3 = true) g63_14 := by
  intro Q hQ f h0 h1 h5
  have e1 : IntKind.i64.wrap ((i : Int) + 1) = ((i + 1 : Nat) : Int) := wadd i 1 (by omega)
  have e2 : IntKind.i64.wrap ((i : Int) + 2) = ((i + 2 : Nat) : Int) := wadd i 2 (by omega)
  simp only [g63_0, g63_1, g63_2, g63_3, g63_4, g63_5, g63_6, g63_7, g63_8, g63_9, g63_10, g63_11, g63_12, g63_13, g63_14, g63_15, g63_16, g63_17, g63_18, r63, o63, h0, h1, h5, eES, eEX, Nat.reduceBEq, Int.reduceLE, Int.reduceLT, Int.reduceToNat, Int.reduceEq, ↓reduceIte, reduceCtorEq, Nat.reducePow, Nat.reduceAdd, Nat.reduceLeDiff, Nat.reduceLT, Nat.reduceSub, Nat.reduceEqDiff]
  repeat' (first | (refine csel_of (fun h => ?_) (fun h => ?_) <;> simp only [h, h0, h1, h5, e1, e2, eES, eEX, Nat.reduceBEq, Int.reduceLE, Int.reduceLT, Int.reduceToNat, Int.reduceEq, ↓reduceIte, reduceCtorEq, Nat.reducePow, Nat.reduceAdd, Nat.reduceLeDiff, Nat.reduceLT, Nat.reduceSub, Nat.reduceEqDiff]) | (refine gsel_t (fun h => ?_) (fun h => ?_) <;> simp only [h, updO, h0, h1, h5, e1, e2, eES, eEX, Nat.reduceBEq, Int.reduceLE, Int.reduceLT, Int.reduceToNat, Int.reduceEq, ↓reduceIte, reduceCtorEq, Nat.reducePow, Nat.reduceAdd, Nat.reduceLeDiff, Nat.reduceLT, Nat.reduceSub, Nat.reduceEqDiff]) | (refine gsel_f (fun h => ?_) (fun h => ?_) <;> simp only [h, updO, h0, h1, h5, e1, e2, eES, eEX, Nat.reduceBEq, Int.reduceLE, Int.reduceLT, Int.reduceToNat, Int.reduceEq, ↓reduceIte, reduceCtorEq, Nat.reducePow, Nat.reduceAdd, Nat.reduceLeDiff, Nat.reduceLT, Nat.reduceSub, Nat.reduceEqDiff]) | ((with_reducible apply aops_call (k := 87)); (case hy => rfl); (case h1 => rfl); (case hk => exact c87 s (i + 1) 3 (by omega)); (case h2 => rfl); (case h3 => first | exact .inl rfl | exact .inr rfl); simp only [h0, h1, h5, e1, e2, eES, eEX, Nat.reduceBEq, Int.reduceLE, Int.reduceLT, Int.reduceToNat, Int.reduceEq, ↓reduceIte, reduceCtorEq, Nat.reducePow, Nat.reduceAdd, Nat.reduceLeDiff, Nat.reduceLT, Nat.reduceSub, Nat.reduceEqDiff]))
  all_goals (refine hQ _ _ ?_ (by first | rfl | exact h0 | simp only [h0, eES, eEX, Nat.reduceBEq, Int.reduceLE, Int.reduceLT, Int.reduceToNat, Int.reduceEq, ↓reduceIte, reduceCtorEq, Nat.reducePow, Nat.reduceAdd, Nat.reduceLeDiff, Nat.reduceLT, Nat.reduceSub, Nat.reduceEqDiff]) (by first | rfl | exact h1 | simp only [h1, eES, eEX, Nat.reduceBEq, Int.reduceLE, Int.reduceLT, Int.reduceToNat, Int.reduceEq, ↓reduceIte, reduceCtorEq, Nat.reducePow, Nat.reduceAdd, Nat.reduceLeDiff, Nat.reduceLT, Nat.reduceSub, Nat.reduceEqDiff]) (by first | rfl | exact h5 | simp only [h5, eES, eEX, Nat.reduceBEq, Int.reduceLE, Int.reduceLT, Int.reduceToNat, Int.reduceEq, ↓reduceIte, reduceCtorEq, Nat.reducePow, Nat.reduceAdd, Nat.reduceLeDiff, Nat.reduceLT, Nat.reduceSub, Nat.reduceEqDiff]) rfl)
  all_goals simp only [decide_eq_true_eq, decide_eq_false_iff_not, beq_iff_eq, bne_iff_ne, beq_eq_false_iff_ne, bne_eq_false_iff_eq, ne_eq, ge_iff_le] at *
  all_goals
    constructor
    · intro hh
      first
        | cases hh
        | (refine ⟨by omega, ?_⟩; first | exact hh | (refine ⟨by omega, ?_⟩; first | exact hh | (refine ⟨by omega, ?_⟩; exact hh)) | exact ⟨by assumption, hh⟩)
    · intro hh
      first
        | exact hh.2.2.2
        | exact hh.2.2
        | (exfalso; omega)
        | (exfalso; simp_all; done)

theorem stg16 : Stg s i c 100 (c.toNat = 244 ∧ bt s (i + 1) 128 143 = true ∧ tl s (i + 2) 2 = true) g63_16 := by
  intro Q hQ f h0 h1 h5
  have e1 : IntKind.i64.wrap ((i : Int) + 1) = ((i + 1 : Nat) : Int) := wadd i 1 (by omega)
  have e2 : IntKind.i64.wrap ((i : Int) + 2) = ((i + 2 : Nat) : Int) := wadd i 2 (by omega)
  simp only [g63_0, g63_1, g63_2, g63_3, g63_4, g63_5, g63_6, g63_7, g63_8, g63_9, g63_10, g63_11, g63_12, g63_13, g63_14, g63_15, g63_16, g63_17, g63_18, r63, o63, h0, h1, h5, eES, eEX, Nat.reduceBEq, Int.reduceLE, Int.reduceLT, Int.reduceToNat, Int.reduceEq, ↓reduceIte, reduceCtorEq, Nat.reducePow, Nat.reduceAdd, Nat.reduceLeDiff, Nat.reduceLT, Nat.reduceSub, Nat.reduceEqDiff]
  repeat' (first | (refine csel_of (fun h => ?_) (fun h => ?_) <;> simp only [h, h0, h1, h5, e1, e2, eES, eEX, Nat.reduceBEq, Int.reduceLE, Int.reduceLT, Int.reduceToNat, Int.reduceEq, ↓reduceIte, reduceCtorEq, Nat.reducePow, Nat.reduceAdd, Nat.reduceLeDiff, Nat.reduceLT, Nat.reduceSub, Nat.reduceEqDiff]) | (refine gsel_t (fun h => ?_) (fun h => ?_) <;> simp only [h, updO, h0, h1, h5, e1, e2, eES, eEX, Nat.reduceBEq, Int.reduceLE, Int.reduceLT, Int.reduceToNat, Int.reduceEq, ↓reduceIte, reduceCtorEq, Nat.reducePow, Nat.reduceAdd, Nat.reduceLeDiff, Nat.reduceLT, Nat.reduceSub, Nat.reduceEqDiff]) | (refine gsel_f (fun h => ?_) (fun h => ?_) <;> simp only [h, updO, h0, h1, h5, e1, e2, eES, eEX, Nat.reduceBEq, Int.reduceLE, Int.reduceLT, Int.reduceToNat, Int.reduceEq, ↓reduceIte, reduceCtorEq, Nat.reducePow, Nat.reduceAdd, Nat.reduceLeDiff, Nat.reduceLT, Nat.reduceSub, Nat.reduceEqDiff]) | ((with_reducible apply aops_call (k := 88)); (case hy => rfl); (case h1 => rfl); (case hk => exact c88 s (i + 1) 128 143); (case h2 => rfl); (case h3 => first | exact .inl rfl | exact .inr rfl); simp only [h0, h1, h5, e1, e2, eES, eEX, Nat.reduceBEq, Int.reduceLE, Int.reduceLT, Int.reduceToNat, Int.reduceEq, ↓reduceIte, reduceCtorEq, Nat.reducePow, Nat.reduceAdd, Nat.reduceLeDiff, Nat.reduceLT, Nat.reduceSub, Nat.reduceEqDiff]) | ((with_reducible apply aops_call (k := 87)); (case hy => rfl); (case h1 => rfl); (case hk => exact c87 s (i + 2) 2 (by omega)); (case h2 => rfl); (case h3 => first | exact .inl rfl | exact .inr rfl); simp only [h0, h1, h5, e1, e2, eES, eEX, Nat.reduceBEq, Int.reduceLE, Int.reduceLT, Int.reduceToNat, Int.reduceEq, ↓reduceIte, reduceCtorEq, Nat.reducePow, Nat.reduceAdd, Nat.reduceLeDiff, Nat.reduceLT, Nat.reduceSub, Nat.reduceEqDiff]))
  all_goals (refine hQ _ _ ?_ (by first | rfl | exact h0 | simp only [h0, eES, eEX, Nat.reduceBEq, Int.reduceLE, Int.reduceLT, Int.reduceToNat, Int.reduceEq, ↓reduceIte, reduceCtorEq, Nat.reducePow, Nat.reduceAdd, Nat.reduceLeDiff, Nat.reduceLT, Nat.reduceSub, Nat.reduceEqDiff]) (by first | rfl | exact h1 | simp only [h1, eES, eEX, Nat.reduceBEq, Int.reduceLE, Int.reduceLT, Int.reduceToNat, Int.reduceEq, ↓reduceIte, reduceCtorEq, Nat.reducePow, Nat.reduceAdd, Nat.reduceLeDiff, Nat.reduceLT, Nat.reduceSub, Nat.reduceEqDiff]) (by first | rfl | exact h5 | simp only [h5, eES, eEX, Nat.reduceBEq, Int.reduceLE, Int.reduceLT, Int.reduceToNat, Int.reduceEq, ↓reduceIte, reduceCtorEq, Nat.reducePow, Nat.reduceAdd, Nat.reduceLeDiff, Nat.reduceLT, Nat.reduceSub, Nat.reduceEqDiff]) rfl)
  all_goals simp only [decide_eq_true_eq, decide_eq_false_iff_not, beq_iff_eq, bne_iff_ne, beq_eq_false_iff_ne, bne_eq_false_iff_eq, ne_eq, ge_iff_le] at *
  all_goals
    constructor
    · intro hh
      first
        | cases hh
        | (refine ⟨by omega, ?_⟩; first | exact hh | (refine ⟨by omega, ?_⟩; first | exact hh | (refine ⟨by omega, ?_⟩; exact hh)) | exact ⟨by assumption, hh⟩)
    · intro hh
      first
        | exact hh.2.2.2
        | exact hh.2.2
        | (exfalso; omega)
        | (exfalso; simp_all; done)

end

theorem c63 (s : List UInt8) (i : Nat) (hi : i < s.length) (hs : s.length + 8 ≤ maxLen) : Fn1 Tryz.prog 63 [.str s, .int .i64 (i : Nat)] (.int .i64 (sz s i : Nat)) := by
  refine fn1_of_awp (rc := r63) (rs := o63) Tryz.func63 rfl rfl Tryz.ntmps63 k63 q63 (by simp) ?_
  obtain ⟨c, hc⟩ : ∃ c, s[i]? = some c := ⟨s[i], List.getElem?_eq_getElem hi⟩
  have hz : sz s i = szb s i c.toNat := by simp only [sz, hc]
  unfold szb at hz
  simp only [g63_0, g63_1, g63_2, g63_3, g63_5, g63_7, g63_9, g63_11, g63_13, g63_15, g63_17, g63_18, r63, o63, nneg, Int.toNat_natCast, hc, eES, eEX, Nat.reduceBEq, Int.reduceLE, Int.reduceLT, Int.reduceToNat, Int.reduceEq, ↓reduceIte, reduceCtorEq, Nat.reducePow, Nat.reduceAdd, Nat.reduceLeDiff, Nat.reduceLT, Nat.reduceSub, Nat.reduceEqDiff]
  refine csel_of (fun h => ?_) (fun h => ?_)
  · have h : c.toNat < 128 := by simp at h; omega
    rw [hz, if_pos h]
    simp only [eES, eEX, Nat.reduceBEq, Int.reduceLE, Int.reduceLT, Int.reduceToNat, Int.reduceEq, ↓reduceIte, reduceCtorEq, Nat.reducePow, Nat.reduceAdd, Nat.reduceLeDiff, Nat.reduceLT, Nat.reduceSub, Nat.reduceEqDiff]
    rfl
  have h : ¬ c.toNat < 128 := by simp at h; omega
  rw [hz, if_neg h]
  simp only [eES, eEX, Nat.reduceBEq, Int.reduceLE, Int.reduceLT, Int.reduceToNat, Int.reduceEq, ↓reduceIte, reduceCtorEq, Nat.reducePow, Nat.reduceAdd, Nat.reduceLeDiff, Nat.reduceLT, Nat.reduceSub, Nat.reduceEqDiff]
  refine stg4 hi hs _ (fun f B hB h0 h1 h5 hd => ?_) _ (by first | rfl | simp only [eES, eEX, Nat.reduceBEq, Int.reduceLE, Int.reduceLT, Int.reduceToNat, Int.reduceEq, ↓reduceIte, reduceCtorEq, Nat.reducePow, Nat.reduceAdd, Nat.reduceLeDiff, Nat.reduceLT, Nat.reduceSub, Nat.reduceEqDiff]) (by first | rfl | simp only [eES, eEX, Nat.reduceBEq, Int.reduceLE, Int.reduceLT, Int.reduceToNat, Int.reduceEq, ↓reduceIte, reduceCtorEq, Nat.reducePow, Nat.reduceAdd, Nat.reduceLeDiff, Nat.reduceLT, Nat.reduceSub, Nat.reduceEqDiff]) (by first | rfl | simp only [eES, eEX, Nat.reduceBEq, Int.reduceLE, Int.reduceLT, Int.reduceToNat, Int.reduceEq, ↓reduceIte, reduceCtorEq, Nat.reducePow, Nat.reduceAdd, Nat.reduceLeDiff, Nat.reduceLT, Nat.reduceSub, Nat.reduceEqDiff])
  by_cases hB1 : B = true
  · rw [if_pos (hB.1 hB1)]
    subst hB1
    simp only [hd, h0, h1, h5, eES, eEX, Nat.reduceBEq, Int.reduceLE, Int.reduceLT, Int.reduceToNat, Int.reduceEq, ↓reduceIte, reduceCtorEq, Nat.reducePow, Nat.reduceAdd, Nat.reduceLeDiff, Nat.reduceLT, Nat.reduceSub, Nat.reduceEqDiff]
    rfl
  rw [if_neg (fun hh => hB1 (hB.2 hh))]
  have hB2 : B = false := by simpa using hB1
  subst hB2
  simp only [hd, h0, h1, h5, eES, eEX, Nat.reduceBEq, Int.reduceLE, Int.reduceLT, Int.reduceToNat, Int.reduceEq, ↓reduceIte, reduceCtorEq, Nat.reducePow, Nat.reduceAdd, Nat.reduceLeDiff, Nat.reduceLT, Nat.reduceSub, Nat.reduceEqDiff]
  refine stg6 hi hs _ (fun f B hB h0 h1 h5 hd => ?_) _ (by first | rfl | exact h0 | simp only [h0, eES, eEX, Nat.reduceBEq, Int.reduceLE, Int.reduceLT, Int.reduceToNat, Int.reduceEq, ↓reduceIte, reduceCtorEq, Nat.reducePow, Nat.reduceAdd, Nat.reduceLeDiff, Nat.reduceLT, Nat.reduceSub, Nat.reduceEqDiff]) (by first | rfl | exact h1 | simp only [h1, eES, eEX, Nat.reduceBEq, Int.reduceLE, Int.reduceLT, Int.reduceToNat, Int.reduceEq, ↓reduceIte, reduceCtorEq, Nat.reducePow, Nat.reduceAdd, Nat.reduceLeDiff, Nat.reduceLT, Nat.reduceSub, Nat.reduceEqDiff]) (by first | rfl | exact h5 | simp only [h5, eES, eEX, Nat.reduceBEq, Int.reduceLE, Int.reduceLT, Int.reduceToNat, Int.reduceEq, ↓reduceIte, reduceCtorEq, Nat.reducePow, Nat.reduceAdd, Nat.reduceLeDiff, Nat.reduceLT, Nat.reduceSub, Nat.reduceEqDiff])
  by_cases hB1 : B = true
  · rw [if_pos (hB.1 hB1)]
    subst hB1
    simp only [hd, h0, h1, h5, eES, eEX, Nat.reduceBEq, Int.reduceLE, Int.reduceLT, Int.reduceToNat, Int.reduceEq, ↓reduceIte, reduceCtorEq, Nat.reducePow, Nat.reduceAdd, Nat.reduceLeDiff, Nat.reduceLT, Nat.reduceSub, Nat.reduceEqDiff]
    rfl
  rw [if_neg (fun hh => hB1 (hB.2 hh))]
  have hB2 : B = false := by simpa using hB1
  subst hB2
  simp only [hd, h0, h1, h5, eES, eEX, Nat.reduceBEq, Int.reduceLE, Int.reduceLT, Int.reduceToNat, Int.reduceEq, ↓reduceIte, reduceCtorEq, Nat.reducePow, Nat.reduceAdd, Nat.reduceLeDiff, Nat.reduceLT, Nat.reduceSub, Nat.reduceEqDiff]
  refine stg8 hi hs _ (fun f B hB h0 h1 h5 hd => ?_) _ (by first | rfl | exact h0 | simp only [h0, eES, eEX, Nat.reduceBEq, Int.reduceLE, Int.reduceLT, Int.reduceToNat, Int.reduceEq, ↓reduceIte, reduceCtorEq, Nat.reducePow, Nat.reduceAdd, Nat.reduceLeDiff, Nat.reduceLT, Nat.reduceSub, Nat.reduceEqDiff]) (by first | rfl | exact h1 | simp only [h1, eES, eEX, Nat.reduceBEq, Int.reduceLE, Int.reduceLT, Int.reduceToNat, Int.reduceEq, ↓reduceIte, reduceCtorEq, Nat.reducePow, Nat.reduceAdd, Nat.reduceLeDiff, Nat.reduceLT, Nat.reduceSub, Nat.reduceEqDiff]) (by first | rfl | exact h5 | simp only [h5, eES, eEX, Nat.reduceBEq, Int.reduceLE, Int.reduceLT, Int.reduceToNat, Int.reduceEq, ↓reduceIte, reduceCtorEq, Nat.reducePow, Nat.reduceAdd, Nat.reduceLeDiff, Nat.reduceLT, Nat.reduceSub, Nat.reduceEqDiff])
  by_cases hB1 : B = true
  · rw [if_pos (hB.1 hB1)]
    subst hB1
    simp only [hd, h0, h1, h5, eES, eEX, Nat.reduceBEq, Int.reduceLE, Int.reduceLT, Int.reduceToNat, Int.reduceEq, ↓reduceIte, reduceCtorEq, Nat.reducePow, Nat.reduceAdd, Nat.reduceLeDiff, Nat.reduceLT, Nat.reduceSub, Nat.reduceEqDiff]
    rfl
  rw [if_neg (fun hh => hB1 (hB.2 hh))]
  have hB2 : B = false := by simpa using hB1
  subst hB2
  simp only [hd, h0, h1, h5, eES, eEX, Nat.reduceBEq, Int.reduceLE, Int.reduceLT, Int.reduceToNat, Int.reduceEq, ↓reduceIte, reduceCtorEq, Nat.reducePow, Nat.reduceAdd, Nat.reduceLeDiff, Nat.reduceLT, Nat.reduceSub, Nat.reduceEqDiff]
  refine stg10 hi hs _ (fun f B hB h0 h1 h5 hd => ?_) _ (by first | rfl | exact h0 | simp only [h0, eES, eEX, Nat.reduceBEq, Int.reduceLE, Int.reduceLT, Int.reduceToNat, Int.reduceEq, ↓reduceIte, reduceCtorEq, Nat.reducePow, Nat.reduceAdd, Nat.reduceLeDiff, Nat.reduceLT, Nat.reduceSub, Nat.reduceEqDiff]) (by first | rfl | exact h1 | simp only [h1, eES, eEX, Nat.reduceBEq, Int.reduceLE, Int.reduceLT, Int.reduceToNat, Int.reduceEq, ↓reduceIte, reduceCtorEq, Nat.reducePow, Nat.reduceAdd, Nat.reduceLeDiff, Nat.reduceLT, Nat.reduceSub, Nat.reduceEqDiff]) (by first | rfl | exact h5 | simp only [h5, eES, eEX, Nat.reduceBEq, Int.reduceLE, Int.reduceLT, Int.reduceToNat, Int.reduceEq, ↓reduceIte, reduceCtorEq, Nat.reducePow, Nat.reduceAdd, Nat.reduceLeDiff, Nat.reduceLT, Nat.reduceSub, Nat.reduceEqDiff])
  by_cases hB1 : B = true
  · rw [if_pos (hB.1 hB1)]
    subst hB1
    simp only [hd, h0, h1, h5, eES, eEX, Nat.reduceBEq, Int.reduceLE, Int.reduceLT, Int.reduceToNat, Int.reduceEq, ↓reduceIte, reduceCtorEq, Nat.reducePow, Nat.reduceAdd, Nat.reduceLeDiff, Nat.reduceLT, Nat.reduceSub, Nat.reduceEqDiff]
    rfl
  rw [if_neg (fun hh => hB1 (hB.2 hh))]
  have hB2 : B = false := by simpa using hB1
  subst hB2
  simp only [hd, h0, h1, h5, eES, eEX, Nat.reduceBEq, Int.reduceLE, Int.reduceLT, Int.reduceToNat, Int.reduceEq, ↓reduceIte, reduceCtorEq, Nat.reducePow, Nat.reduceAdd, Nat.reduceLeDiff, Nat.reduceLT, Nat.reduceSub, Nat.reduceEqDiff]
  refine stg12 hi hs _ (fun f B hB h0 h1 h5 hd => ?_) _ (by first | rfl | exact h0 | simp only [h0, eES, eEX, Nat.reduceBEq, Int.reduceLE, Int.reduceLT, Int.reduceToNat, Int.reduceEq, ↓reduceIte, reduceCtorEq, Nat.reducePow, Nat.reduceAdd, Nat.reduceLeDiff, Nat.reduceLT, Nat.reduceSub, Nat.reduceEqDiff]) (by first | rfl | exact h1 | simp only [h1, eES, eEX, Nat.reduceBEq, Int.reduceLE, Int.reduceLT, Int.reduceToNat, Int.reduceEq, ↓reduceIte, reduceCtorEq, Nat.reducePow, Nat.reduceAdd, Nat.reduceLeDiff, Nat.reduceLT, Nat.reduceSub, Nat.reduceEqDiff]) (by first | rfl | exact h5 | simp only [h5, eES, eEX, Nat.reduceBEq, Int.reduceLE, Int.reduceLT, Int.reduceToNat, Int.reduceEq, ↓reduceIte, reduceCtorEq, Nat.reducePow, Nat.reduceAdd, Nat.reduceLeDiff, Nat.reduceLT, Nat.reduceSub, Nat.reduceEqDiff])
  by_cases hB1 : B = true
  · rw [if_pos (hB.1 hB1)]
    subst hB1
    simp only [hd, h0, h1, h5, eES, eEX, Nat.reduceBEq, Int.reduceLE, Int.reduceLT, Int.reduceToNat, Int.reduceEq, ↓reduceIte, reduceCtorEq, Nat.reducePow, Nat.reduceAdd, Nat.reduceLeDiff, Nat.reduceLT, Nat.reduceSub, Nat.reduceEqDiff]
    rfl
  rw [if_neg (fun hh => hB1 (hB.2 hh))]
  have hB2 : B = false := by simpa using hB1
  subst hB2
  simp only [hd, h0, h1, h5, eES, eEX, Nat.reduceBEq, Int.reduceLE, Int.reduceLT, Int.reduceToNat, Int.reduceEq, ↓reduceIte, reduceCtorEq, Nat.reducePow, Nat.reduceAdd, Nat.reduceLeDiff, Nat.reduceLT, Nat.reduceSub, Nat.reduceEqDiff]
  refine stg14 hi hs _ (fun f B hB h0 h1 h5 hd => ?_) _ (by first | rfl | exact h0 | simp only [h0, eES, eEX, Nat.reduceBEq, Int.reduceLE, Int.reduceLT, Int.reduceToNat, Int.reduceEq, ↓reduceIte, reduceCtorEq, Nat.reducePow, Nat.reduceAdd, Nat.reduceLeDiff, Nat.reduceLT, Nat.reduceSub, Nat.reduceEqDiff]) (by first | rfl | exact h1 | simp only [h1, eES, eEX, Nat.reduceBEq, Int.reduceLE, Int.reduceLT, Int.reduceToNat, Int.reduceEq, ↓reduceIte, reduceCtorEq, Nat.reducePow, Nat.reduceAdd, Nat.reduceLeDiff, Nat.reduceLT, Nat.reduceSub, Nat.reduceEqDiff]) (by first | rfl | exact h5 | simp only [h5, eES, eEX, Nat.reduceBEq, Int.reduceLE, Int.reduceLT, Int.reduceToNat, Int.reduceEq, ↓reduceIte, reduceCtorEq, Nat.reducePow, Nat.reduceAdd, Nat.reduceLeDiff, Nat.reduceLT, Nat.reduceSub, Nat.reduceEqDiff])
  by_cases hB1 : B = true
  · rw [if_pos (hB.1 hB1)]
    subst hB1
    simp only [hd, h0, h1, h5, eES, eEX, Nat.reduceBEq, Int.reduceLE, Int.reduceLT, Int.reduceToNat, Int.reduceEq, ↓reduceIte, reduceCtorEq, Nat.reducePow, Nat.reduceAdd, Nat.reduceLeDiff, Nat.reduceLT, Nat.reduceSub, Nat.reduceEqDiff]
    rfl
  rw [if_neg (fun hh => hB1 (hB.2 hh))]
  have hB2 : B = false := by simpa using hB1
  subst hB2
  simp only [hd, h0, h1, h5, eES, eEX, Nat.reduceBEq, Int.reduceLE, Int.reduceLT, Int.reduceToNat, Int.reduceEq, ↓reduceIte, reduceCtorEq, Nat.reducePow, Nat.reduceAdd, Nat.reduceLeDiff, Nat.reduceLT, Nat.reduceSub, Nat.reduceEqDiff]
  refine stg16 hi hs _ (fun f B hB h0 h1 h5 hd => ?_) _ (by first | rfl | exact h0 | simp only [h0, eES, eEX, Nat.reduceBEq, Int.reduceLE, Int.reduceLT, Int.reduceToNat, Int.reduceEq, ↓reduceIte, reduceCtorEq, Nat.reducePow, Nat.reduceAdd, Nat.reduceLeDiff, Nat.reduceLT, Nat.reduceSub, Nat.reduceEqDiff]) (by first | rfl | exact h1 | simp only [h1, eES, eEX, Nat.reduceBEq, Int.reduceLE, Int.reduceLT, Int.reduceToNat, Int.reduceEq, ↓reduceIte, reduceCtorEq, Nat.reducePow, Nat.reduceAdd, Nat.reduceLeDiff, Nat.reduceLT, Nat.reduceSub, Nat.reduceEqDiff]) (by first | rfl | exact h5 | simp only [h5, eES, eEX, Nat.reduceBEq, Int.reduceLE, Int.reduceLT, Int.reduceToNat, Int.reduceEq, ↓reduceIte, reduceCtorEq, Nat.reducePow, Nat.reduceAdd, Nat.reduceLeDiff, Nat.reduceLT, Nat.reduceSub, Nat.reduceEqDiff])
  by_cases hB1 : B = true
  · rw [if_pos (hB.1 hB1)]
    subst hB1
    simp only [hd, h0, h1, h5, eES, eEX, Nat.reduceBEq, Int.reduceLE, Int.reduceLT, Int.reduceToNat, Int.reduceEq, ↓reduceIte, reduceCtorEq, Nat.reducePow, Nat.reduceAdd, Nat.reduceLeDiff, Nat.reduceLT, Nat.reduceSub, Nat.reduceEqDiff]
    rfl
  rw [if_neg (fun hh => hB1 (hB.2 hh))]
  have hB2 : B = false := by simpa using hB1
  subst hB2
  simp only [hd, h0, h1, h5, eES, eEX, Nat.reduceBEq, Int.reduceLE, Int.reduceLT, Int.reduceToNat, Int.reduceEq, ↓reduceIte, reduceCtorEq, Nat.reducePow, Nat.reduceAdd, Nat.reduceLeDiff, Nat.reduceLT, Nat.reduceSub, Nat.reduceEqDiff]
  rfl

end Go.Proofs.YtdmbncmbkocjjaaGreat.Va

/- Texts in UTF-8: both ways of reading them. -/
set_option linter.unusedSimpArgs false
namespace Go.Proofs.YtdmbncmbkocjjaaGreat.Va
open Go Am Rc Bt

theorem sz_le (s : List UInt8) (i : Nat) (hi : i < s.length) (_h : sz s i ≠ 0) : i + sz s i ≤ s.length := by
  have tl1 : ∀ n j, tl s j n = true → n ≠ 0 → j + n ≤ s.length := by
    intro n
    induction n with
    | zero => intro j _ h; exact absurd rfl h
    | succ n ih =>
      intro j hj _
      simp only [tl, Bool.and_eq_true] at hj
      have hb : j < s.length := by
        have h1 := hj.1
        unfold bt at h1
        split at h1
        · rename_i b hb
          exact (List.getElem?_eq_some_iff.1 hb).1
        · cases h1
      by_cases h0 : n = 0
      · subst h0; omega
      · have := ih (j + 1) hj.2 h0
        omega
  obtain ⟨c, hc⟩ : ∃ c, s[i]? = some c := ⟨s[i], List.getElem?_eq_getElem hi⟩
  simp only [sz, hc] at _h ⊢
  unfold szb at _h ⊢
  (repeat' split) <;> first
    | omega
    | (rename_i hh; have := tl1 _ _ hh.2.2 (by decide); omega)
    | (rename_i hh; have := tl1 _ _ hh.2.2.2 (by decide); omega)
    | simp_all

def BadI (s : List UInt8) (k : Nat) (st : St) : Prop :=
  ∃ f i, st = ⟨f, [noObs], []⟩ ∧ i ≤ s.length ∧ s.length - i ≤ k ∧ bad s s.length 0 = bad s k i ∧ f 0 = .str s ∧ f 3 = .int .i64 (i : Nat)

theorem c44 (s : List UInt8) (hs : s.length + 8 ≤ maxLen) : Fn1 Tryz.prog 44 [.str s] (.int .i64 (bad s s.length 0)) := by
  refine fn1_of_awp (rc := r44) (rs := o44) Tryz.func44 rfl rfl Tryz.ntmps44 k44 q44 (by simp) ?_
  simp only [g44_0, g44_1, g44_2, g44_3, g44_4, g44_5, g44_6, g44_7, r44, o44, eES, eEX, Nat.reduceBEq, Int.reduceLE, Int.reduceLT, Int.reduceToNat, Int.reduceEq, ↓reduceIte, reduceCtorEq, Nat.reducePow, Nat.reduceAdd, Nat.reduceLeDiff, Nat.reduceLT, Nat.reduceSub, Nat.reduceEqDiff]
  refine awp_loop (BadI s) s.length ⟨_, 0, rfl, Nat.zero_le _, Nat.le_refl _, rfl, rfl, rfl⟩ ?_
  rintro k st ⟨f, i, rfl, hi, hk, hb, h0, h3⟩
  simp only [l44_0, g44_0, g44_1, g44_2, g44_3, g44_4, g44_5, g44_6, g44_7, r44, o44, h0, h3, eES, eEX, Nat.reduceBEq, Int.reduceLE, Int.reduceLT, Int.reduceToNat, Int.reduceEq, ↓reduceIte, reduceCtorEq, Nat.reducePow, Nat.reduceAdd, Nat.reduceLeDiff, Nat.reduceLT, Nat.reduceSub, Nat.reduceEqDiff]
  by_cases hlt : i < s.length
  · simp only [lt_t hlt, h0, h3, eES, eEX, Nat.reduceBEq, Int.reduceLE, Int.reduceLT, Int.reduceToNat, Int.reduceEq, ↓reduceIte, reduceCtorEq, Nat.reducePow, Nat.reduceAdd, Nat.reduceLeDiff, Nat.reduceLT, Nat.reduceSub, Nat.reduceEqDiff]
    refine aops_call (c63 s i hlt hs) rfl rfl rfl (.inl rfl) ?_
    obtain ⟨k, rfl⟩ : ∃ n, k = n + 1 := ⟨k - 1, by omega⟩
    have hbk : bad s (k + 1) i = if sz s i = 0 then (i : Int) else bad s k (i + sz s i) := by
      show (if i < s.length then _ else _) = _
      rw [if_pos hlt]
    by_cases hz : sz s i = 0
    · have b0 : ((sz s i : Int) == 0) = true := by simp [hz]
      simp only [b0, h0, h3, hb, hbk, if_pos hz, eES, eEX, Nat.reduceBEq, Int.reduceLE, Int.reduceLT, Int.reduceToNat, Int.reduceEq, ↓reduceIte, reduceCtorEq, Nat.reducePow, Nat.reduceAdd, Nat.reduceLeDiff, Nat.reduceLT, Nat.reduceSub, Nat.reduceEqDiff]
    · have b0 : ((sz s i : Int) == 0) = false := by simp; omega
      have hle := sz_le s i hlt hz
      have e0 := wadd i (sz s i) (by omega)
      simp only [b0, h0, h3, e0, eES, eEX, Nat.reduceBEq, Int.reduceLE, Int.reduceLT, Int.reduceToNat, Int.reduceEq, ↓reduceIte, reduceCtorEq, Nat.reducePow, Nat.reduceAdd, Nat.reduceLeDiff, Nat.reduceLT, Nat.reduceSub, Nat.reduceEqDiff]
      exact ⟨k, by omega, _, i + sz s i, rfl, hle, by omega, by rw [hb, hbk, if_neg hz], (by first | rfl | exact h0 | simp only [h0, eES, eEX, Nat.reduceBEq, Int.reduceLE, Int.reduceLT, Int.reduceToNat, Int.reduceEq, ↓reduceIte, reduceCtorEq, Nat.reducePow, Nat.reduceAdd, Nat.reduceLeDiff, Nat.reduceLT, Nat.reduceSub, Nat.reduceEqDiff]), (by first | rfl | simp only [eES, eEX, Nat.reduceBEq, Int.reduceLE, Int.reduceLT, Int.reduceToNat, Int.reduceEq, ↓reduceIte, reduceCtorEq, Nat.reducePow, Nat.reduceAdd, Nat.reduceLeDiff, Nat.reduceLT, Nat.reduceSub, Nat.reduceEqDiff])⟩
  · have hbk : bad s k i = -1 := by
      cases k with
      | zero => rfl
      | succ k =>
        show (if i < s.length then _ else _) = _
        rw [if_neg hlt]
    simp only [lt_f hlt, h0, h3, hb, hbk, eES, eEX, Nat.reduceBEq, Int.reduceLE, Int.reduceLT, Int.reduceToNat, Int.reduceEq, ↓reduceIte, reduceCtorEq, Nat.reducePow, Nat.reduceAdd, Nat.reduceLeDiff, Nat.reduceLT, Nat.reduceSub, Nat.reduceEqDiff]

theorem c19 (s : List UInt8) (hs : s.length + 8 ≤ maxLen) : Fn1 Tryz.prog 19 [.str s] (.bool (vld s)) := by
  refine fn1_of_awp (rc := r19) (rs := o19) Tryz.func19 rfl rfl Tryz.ntmps19 k19 q19 (by simp) ?_
  simp only [g19_0, g19_1, r19, o19, eES, eEX, Nat.reduceBEq, Int.reduceLE, Int.reduceLT, Int.reduceToNat, Int.reduceEq, ↓reduceIte, reduceCtorEq, Nat.reducePow, Nat.reduceAdd, Nat.reduceLeDiff, Nat.reduceLT, Nat.reduceSub, Nat.reduceEqDiff]
  refine aops_call (c44 s hs) rfl rfl rfl (.inl rfl) ?_
  simp only [eES, eEX, Nat.reduceBEq, Int.reduceLE, Int.reduceLT, Int.reduceToNat, Int.reduceEq, ↓reduceIte, reduceCtorEq, Nat.reducePow, Nat.reduceAdd, Nat.reduceLeDiff, Nat.reduceLT, Nat.reduceSub, Nat.reduceEqDiff]
  rfl

/-- The replacement character stands there. -/
def repl (s : List UInt8) (i : Nat) : Bool := (s.drop i).take 3 == [239, 191, 189]

theorem c107 (s t : List UInt8) : Fn1 Tryz.prog 107 [.str s, .str t] (.bool (s.take t.length == t)) := by
  refine fn1_of_awp (rc := r107) (rs := o107) Tryz.func107 rfl rfl Tryz.ntmps107 k107 q107 (by simp) ?_
  by_cases h : t.length ≤ s.length
  · have d0 : decide ((s.length : Int) ≥ (t.length : Int)) = true := by simp; omega
    have s1 : (0 ≤ t.length ∧ t.length ≤ s.length) = True := by simp; omega
    simp only [g107_0, g107_1, r107, o107, d0, nneg, s1, Int.toNat_natCast, astr, Nat.sub_zero, List.drop_zero, eES, eEX, Nat.reduceBEq, Int.reduceLE, Int.reduceLT, Int.reduceToNat, Int.reduceEq, ↓reduceIte, reduceCtorEq, Nat.reducePow, Nat.reduceAdd, Nat.reduceLeDiff, Nat.reduceLT, Nat.reduceSub, Nat.reduceEqDiff]
  · have d0 : decide ((s.length : Int) ≥ (t.length : Int)) = false := by simp; omega
    have e0 : (s.take t.length == t) = false := by
      rw [beq_eq_false_iff_ne]
      intro hh
      have := congrArg List.length hh
      simp at this
      omega
    simp only [g107_0, g107_1, r107, o107, d0, e0, eES, eEX, Nat.reduceBEq, Int.reduceLE, Int.reduceLT, Int.reduceToNat, Int.reduceEq, ↓reduceIte, reduceCtorEq, Nat.reducePow, Nat.reduceAdd, Nat.reduceLeDiff, Nat.reduceLT, Nat.reduceSub, Nat.reduceEqDiff]

theorem c86 (s t : List UInt8) : Fn1 Tryz.prog 86 [.str s, .str t] (.bool (s.take t.length == t)) := by
  refine fn1_of_awp (rc := r86) (rs := o86) Tryz.func86 rfl rfl Tryz.ntmps86 k86 q86 (by simp) ?_
  simp only [g86_0, g86_1, r86, o86, eES, eEX, Nat.reduceBEq, Int.reduceLE, Int.reduceLT, Int.reduceToNat, Int.reduceEq, ↓reduceIte, reduceCtorEq, Nat.reducePow, Nat.reduceAdd, Nat.reduceLeDiff, Nat.reduceLT, Nat.reduceSub, Nat.reduceEqDiff]
  refine aops_call (c107 s t) rfl rfl rfl (.inl rfl) ?_
  simp only [eES, eEX, Nat.reduceBEq, Int.reduceLE, Int.reduceLT, Int.reduceToNat, Int.reduceEq, ↓reduceIte, reduceCtorEq, Nat.reducePow, Nat.reduceAdd, Nat.reduceLeDiff, Nat.reduceLT, Nat.reduceSub, Nat.reduceEqDiff]

theorem c59 (s : List UInt8) (i : Nat) (hi : i ≤ s.length) (c : Nat) : Fn1 Tryz.prog 59 [.str s, .int .i64 (i : Nat), .int .i32 (c : Nat)] (.bool (decide (c = 65533) && !repl s i)) := by
  refine fn1_of_awp (rc := r59) (rs := o59) Tryz.func59 rfl rfl Tryz.ntmps59 k59 q59 (by simp) ?_
  by_cases hc : c = 65533
  · have b0 : ((c : Int) == 65533) = true := by simp [hc]
    have s1 : (i ≤ s.length ∧ s.length ≤ s.length) = True := by simp; omega
    simp only [g59_0, g59_1, r59, o59, b0, nneg, s1, Int.toNat_natCast, eES, eEX, Nat.reduceBEq, Int.reduceLE, Int.reduceLT, Int.reduceToNat, Int.reduceEq, ↓reduceIte, reduceCtorEq, Nat.reducePow, Nat.reduceAdd, Nat.reduceLeDiff, Nat.reduceLT, Nat.reduceSub, Nat.reduceEqDiff]
    refine aops_call (c86 (List.take (s.length - i) (List.drop i s)) [239, 191, 189]) rfl rfl rfl (.inl rfl) ?_
    have ht : List.take (s.length - i) (List.drop i s) = List.drop i s := List.take_of_length_le (by simp)
    simp only [ht, repl, hc, eES, eEX, Nat.reduceBEq, Int.reduceLE, Int.reduceLT, Int.reduceToNat, Int.reduceEq, ↓reduceIte, reduceCtorEq, Nat.reducePow, Nat.reduceAdd, Nat.reduceLeDiff, Nat.reduceLT, Nat.reduceSub, Nat.reduceEqDiff]
  · have b0 : ((c : Int) == 65533) = false := by simp; omega
    simp only [g59_0, g59_1, r59, o59, b0, hc, eES, eEX, Nat.reduceBEq, Int.reduceLE, Int.reduceLT, Int.reduceToNat, Int.reduceEq, ↓reduceIte, reduceCtorEq, Nat.reducePow, Nat.reduceAdd, Nat.reduceLeDiff, Nat.reduceLT, Nat.reduceSub, Nat.reduceEqDiff]
    simp

end Go.Proofs.YtdmbncmbkocjjaaGreat.Va

/- Plans, as the specification examines them: annotations. -/
set_option linter.unusedSimpArgs false
namespace Go.Proofs.YtdmbncmbkocjjaaGreat.Va
open Go Am Rc Bt Br

/-- A number. -/
def RI (v : AV) : Prop := ∃ n, v = .int .i64 n
theorem ri (n : Int) : RI (.int .i64 n) = True := eq_true ⟨n, rfl⟩
theorem RI.rf {v : AV} {l : List AV} (h : RI v) : v.rf = true ∧ (AV.rfL l = true ∨ v.nl = true) := by
  obtain ⟨b, rfl⟩ := h
  exact ⟨rfl, .inr rfl⟩

theorem c82 (s : List UInt8) : Fn? Tryz.prog 82 [.str s] RI := by
  refine fnR_of_awp (rc := r82) (rs := o82) Tryz.func82 rfl rfl Tryz.ntmps82 k82 q82 (by simp) ?_
  simp only [g82_0, g82_1, g82_2, g82_3, g82_4, g82_5, g82_6, g82_7, g82_8, g82_9, g82_10, g82_11, g82_12, g82_13, g82_14, g82_15, g82_16, g82_17, g82_18, g82_19, r82, o82, astr, eES, eEX, Nat.reduceBEq, Int.reduceLE, Int.reduceLT, Int.reduceToNat, Int.reduceEq, ↓reduceIte, reduceCtorEq, Nat.reducePow, Nat.reduceAdd, Nat.reduceLeDiff, Nat.reduceLT, Nat.reduceSub, Nat.reduceEqDiff]
  repeat' (first | (refine csel_of (fun h => ?_) (fun h => ?_) <;> simp only [h, ri, astr, eES, eEX, Nat.reduceBEq, Int.reduceLE, Int.reduceLT, Int.reduceToNat, Int.reduceEq, ↓reduceIte, reduceCtorEq, Nat.reducePow, Nat.reduceAdd, Nat.reduceLeDiff, Nat.reduceLT, Nat.reduceSub, Nat.reduceEqDiff]) | (refine gsel_t (fun h => ?_) (fun h => ?_) <;> simp only [h, updO, ri, astr, eES, eEX, Nat.reduceBEq, Int.reduceLE, Int.reduceLT, Int.reduceToNat, Int.reduceEq, ↓reduceIte, reduceCtorEq, Nat.reducePow, Nat.reduceAdd, Nat.reduceLeDiff, Nat.reduceLT, Nat.reduceSub, Nat.reduceEqDiff]) | (refine gsel_f (fun h => ?_) (fun h => ?_) <;> simp only [h, updO, ri, astr, eES, eEX, Nat.reduceBEq, Int.reduceLE, Int.reduceLT, Int.reduceToNat, Int.reduceEq, ↓reduceIte, reduceCtorEq, Nat.reducePow, Nat.reduceAdd, Nat.reduceLeDiff, Nat.reduceLT, Nat.reduceSub, Nat.reduceEqDiff]))

theorem c83 (s : List UInt8) (n : Int) : Fn? Tryz.prog 83 [.str s, .int .i64 n] RB := by
  refine fnR_of_awp (rc := r83) (rs := o83) Tryz.func83 rfl rfl Tryz.ntmps83 k83 q83 (by simp) ?_
  simp only [g83_0, g83_1, g83_2, g83_3, g83_4, g83_5, g83_6, g83_7, g83_8, g83_9, g83_10, g83_11, g83_12, g83_13, g83_14, g83_15, g83_16, g83_17, g83_18, r83, o83, astr, eES, eEX, Nat.reduceBEq, Int.reduceLE, Int.reduceLT, Int.reduceToNat, Int.reduceEq, ↓reduceIte, reduceCtorEq, Nat.reducePow, Nat.reduceAdd, Nat.reduceLeDiff, Nat.reduceLT, Nat.reduceSub, Nat.reduceEqDiff]
  repeat' (first | (refine csel_of (fun h => ?_) (fun h => ?_) <;> simp only [h, rb, astr, eES, eEX, Nat.reduceBEq, Int.reduceLE, Int.reduceLT, Int.reduceToNat, Int.reduceEq, ↓reduceIte, reduceCtorEq, Nat.reducePow, Nat.reduceAdd, Nat.reduceLeDiff, Nat.reduceLT, Nat.reduceSub, Nat.reduceEqDiff]) | (refine gsel_t (fun h => ?_) (fun h => ?_) <;> simp only [h, updO, rb, astr, eES, eEX, Nat.reduceBEq, Int.reduceLE, Int.reduceLT, Int.reduceToNat, Int.reduceEq, ↓reduceIte, reduceCtorEq, Nat.reducePow, Nat.reduceAdd, Nat.reduceLeDiff, Nat.reduceLT, Nat.reduceSub, Nat.reduceEqDiff]) | (refine gsel_f (fun h => ?_) (fun h => ?_) <;> simp only [h, updO, rb, astr, eES, eEX, Nat.reduceBEq, Int.reduceLE, Int.reduceLT, Int.reduceToNat, Int.reduceEq, ↓reduceIte, reduceCtorEq, Nat.reducePow, Nat.reduceAdd, Nat.reduceLeDiff, Nat.reduceLT, Nat.reduceSub, Nat.reduceEqDiff]))

theorem c17 (n : Int) : Fn? Tryz.prog 17 [.int .i64 n] RB := by
  refine fnR_of_awp (rc := r17) (rs := o17) Tryz.func17 rfl rfl Tryz.ntmps17 k17 q17 (by simp) ?_
  simp only [g17_0, g17_1, r17, o17, eES, eEX, Nat.reduceBEq, Int.reduceLE, Int.reduceLT, Int.reduceToNat, Int.reduceEq, ↓reduceIte, reduceCtorEq, Nat.reducePow, Nat.reduceAdd, Nat.reduceLeDiff, Nat.reduceLT, Nat.reduceSub, Nat.reduceEqDiff]
  repeat' (first | (refine csel_of (fun h => ?_) (fun h => ?_) <;> simp only [h, rb, eES, eEX, Nat.reduceBEq, Int.reduceLE, Int.reduceLT, Int.reduceToNat, Int.reduceEq, ↓reduceIte, reduceCtorEq, Nat.reducePow, Nat.reduceAdd, Nat.reduceLeDiff, Nat.reduceLT, Nat.reduceSub, Nat.reduceEqDiff]) | (refine gsel_t (fun h => ?_) (fun h => ?_) <;> simp only [h, updO, rb, eES, eEX, Nat.reduceBEq, Int.reduceLE, Int.reduceLT, Int.reduceToNat, Int.reduceEq, ↓reduceIte, reduceCtorEq, Nat.reducePow, Nat.reduceAdd, Nat.reduceLeDiff, Nat.reduceLT, Nat.reduceSub, Nat.reduceEqDiff]) | (refine gsel_f (fun h => ?_) (fun h => ?_) <;> simp only [h, updO, rb, eES, eEX, Nat.reduceBEq, Int.reduceLE, Int.reduceLT, Int.reduceToNat, Int.reduceEq, ↓reduceIte, reduceCtorEq, Nat.reducePow, Nat.reduceAdd, Nat.reduceLeDiff, Nat.reduceLT, Nat.reduceSub, Nat.reduceEqDiff]))

theorem c46 (n : Int) : Fn? Tryz.prog 46 [.int .i64 n] RB := by
  refine fnR_of_awp (rc := r46) (rs := o46) Tryz.func46 rfl rfl Tryz.ntmps46 k46 q46 (by simp) ?_
  simp only [g46_0, g46_1, r46, o46, eES, eEX, Nat.reduceBEq, Int.reduceLE, Int.reduceLT, Int.reduceToNat, Int.reduceEq, ↓reduceIte, reduceCtorEq, Nat.reducePow, Nat.reduceAdd, Nat.reduceLeDiff, Nat.reduceLT, Nat.reduceSub, Nat.reduceEqDiff]
  repeat' (first | (refine csel_of (fun h => ?_) (fun h => ?_) <;> simp only [h, rb, eES, eEX, Nat.reduceBEq, Int.reduceLE, Int.reduceLT, Int.reduceToNat, Int.reduceEq, ↓reduceIte, reduceCtorEq, Nat.reducePow, Nat.reduceAdd, Nat.reduceLeDiff, Nat.reduceLT, Nat.reduceSub, Nat.reduceEqDiff]) | (refine gsel_t (fun h => ?_) (fun h => ?_) <;> simp only [h, updO, rb, eES, eEX, Nat.reduceBEq, Int.reduceLE, Int.reduceLT, Int.reduceToNat, Int.reduceEq, ↓reduceIte, reduceCtorEq, Nat.reducePow, Nat.reduceAdd, Nat.reduceLeDiff, Nat.reduceLT, Nat.reduceSub, Nat.reduceEqDiff]) | (refine gsel_f (fun h => ?_) (fun h => ?_) <;> simp only [h, updO, rb, eES, eEX, Nat.reduceBEq, Int.reduceLE, Int.reduceLT, Int.reduceToNat, Int.reduceEq, ↓reduceIte, reduceCtorEq, Nat.reducePow, Nat.reduceAdd, Nat.reduceLeDiff, Nat.reduceLT, Nat.reduceSub, Nat.reduceEqDiff]))

theorem c45 (k b : Int) (t : List UInt8) (l p s r : List AV) : Fn? Tryz.prog 45 [.agg [.int .i64 k, .int .u64 b, .str t, .list l, .list p, .list s, .list r]] RB := by
  refine fnR_of_awp (rc := r45) (rs := o45) Tryz.func45 rfl rfl Tryz.ntmps45 k45 q45 (by simp) ?_
  simp only [g45_0, g45_1, r45, o45, eES, eEX, Nat.reduceBEq, Int.reduceLE, Int.reduceLT, Int.reduceToNat, Int.reduceEq, ↓reduceIte, reduceCtorEq, Nat.reducePow, Nat.reduceAdd, Nat.reduceLeDiff, Nat.reduceLT, Nat.reduceSub, Nat.reduceEqDiff]
  repeat' (first | (refine csel_of (fun h => ?_) (fun h => ?_) <;> simp only [h, rb, eES, eEX, Nat.reduceBEq, Int.reduceLE, Int.reduceLT, Int.reduceToNat, Int.reduceEq, ↓reduceIte, reduceCtorEq, Nat.reducePow, Nat.reduceAdd, Nat.reduceLeDiff, Nat.reduceLT, Nat.reduceSub, Nat.reduceEqDiff]) | (refine gsel_t (fun h => ?_) (fun h => ?_) <;> simp only [h, updO, rb, eES, eEX, Nat.reduceBEq, Int.reduceLE, Int.reduceLT, Int.reduceToNat, Int.reduceEq, ↓reduceIte, reduceCtorEq, Nat.reducePow, Nat.reduceAdd, Nat.reduceLeDiff, Nat.reduceLT, Nat.reduceSub, Nat.reduceEqDiff]) | (refine gsel_f (fun h => ?_) (fun h => ?_) <;> simp only [h, updO, rb, eES, eEX, Nat.reduceBEq, Int.reduceLE, Int.reduceLT, Int.reduceToNat, Int.reduceEq, ↓reduceIte, reduceCtorEq, Nat.reducePow, Nat.reduceAdd, Nat.reduceLeDiff, Nat.reduceLT, Nat.reduceSub, Nat.reduceEqDiff]))

theorem c21 (n k b : Int) (t : List UInt8) (l p s r : List AV) (ht : t.length + 8 ≤ maxLen) : Fn? Tryz.prog 21 [.int .i64 n, .agg [.int .i64 k, .int .u64 b, .str t, .list l, .list p, .list s, .list r]] RB := by
  refine fnR_of_awp (rc := r21) (rs := o21) Tryz.func21 rfl rfl Tryz.ntmps21 k21 q21 (by simp) ?_
  simp only [g21_0, g21_1, g21_2, g21_3, g21_4, g21_5, g21_6, g21_7, g21_8, g21_9, g21_10, g21_11, g21_12, g21_13, g21_14, g21_15, g21_16, g21_17, r21, o21, astr, eES, eEX, Nat.reduceBEq, Int.reduceLE, Int.reduceLT, Int.reduceToNat, Int.reduceEq, ↓reduceIte, reduceCtorEq, Nat.reducePow, Nat.reduceAdd, Nat.reduceLeDiff, Nat.reduceLT, Nat.reduceSub, Nat.reduceEqDiff]
  repeat' (first | (refine csel_of (fun h => ?_) (fun h => ?_) <;> simp only [h, rb, astr, eES, eEX, Nat.reduceBEq, Int.reduceLE, Int.reduceLT, Int.reduceToNat, Int.reduceEq, ↓reduceIte, reduceCtorEq, Nat.reducePow, Nat.reduceAdd, Nat.reduceLeDiff, Nat.reduceLT, Nat.reduceSub, Nat.reduceEqDiff]) | (refine gsel_t (fun h => ?_) (fun h => ?_) <;> simp only [h, updO, rb, astr, eES, eEX, Nat.reduceBEq, Int.reduceLE, Int.reduceLT, Int.reduceToNat, Int.reduceEq, ↓reduceIte, reduceCtorEq, Nat.reducePow, Nat.reduceAdd, Nat.reduceLeDiff, Nat.reduceLT, Nat.reduceSub, Nat.reduceEqDiff]) | (refine gsel_f (fun h => ?_) (fun h => ?_) <;> simp only [h, updO, rb, astr, eES, eEX, Nat.reduceBEq, Int.reduceLE, Int.reduceLT, Int.reduceToNat, Int.reduceEq, ↓reduceIte, reduceCtorEq, Nat.reducePow, Nat.reduceAdd, Nat.reduceLeDiff, Nat.reduceLT, Nat.reduceSub, Nat.reduceEqDiff]) | ((with_reducible apply aops_callR (k := 17) (R := RB)); (case h2 => exact fun _ h => h.rf); (case hy => rfl); (case h1 => rfl); (case hk => exact c17 _); rintro _ ⟨b, rfl⟩; cases b <;> simp only [rb, astr, eES, eEX, Nat.reduceBEq, Int.reduceLE, Int.reduceLT, Int.reduceToNat, Int.reduceEq, ↓reduceIte, reduceCtorEq, Nat.reducePow, Nat.reduceAdd, Nat.reduceLeDiff, Nat.reduceLT, Nat.reduceSub, Nat.reduceEqDiff]) | ((with_reducible apply aops_callR (k := 45) (R := RB)); (case h2 => exact fun _ h => h.rf); (case hy => rfl); (case h1 => rfl); (case hk => exact c45 _ _ _ _ _ _ _); rintro _ ⟨b, rfl⟩; cases b <;> simp only [rb, astr, eES, eEX, Nat.reduceBEq, Int.reduceLE, Int.reduceLT, Int.reduceToNat, Int.reduceEq, ↓reduceIte, reduceCtorEq, Nat.reducePow, Nat.reduceAdd, Nat.reduceLeDiff, Nat.reduceLT, Nat.reduceSub, Nat.reduceEqDiff]) | ((with_reducible apply aops_callR (k := 46) (R := RB)); (case h2 => exact fun _ h => h.rf); (case hy => rfl); (case h1 => rfl); (case hk => exact c46 _); rintro _ ⟨b, rfl⟩; cases b <;> simp only [rb, astr, eES, eEX, Nat.reduceBEq, Int.reduceLE, Int.reduceLT, Int.reduceToNat, Int.reduceEq, ↓reduceIte, reduceCtorEq, Nat.reducePow, Nat.reduceAdd, Nat.reduceLeDiff, Nat.reduceLT, Nat.reduceSub, Nat.reduceEqDiff]) | ((with_reducible apply aops_call (k := 19)); (case hy => rfl); (case h1 => rfl); (case hk => exact c19 _ ht); (case h2 => rfl); (case h3 => first | exact .inl rfl | exact .inr rfl); simp only [rb, astr, eES, eEX, Nat.reduceBEq, Int.reduceLE, Int.reduceLT, Int.reduceToNat, Int.reduceEq, ↓reduceIte, reduceCtorEq, Nat.reducePow, Nat.reduceAdd, Nat.reduceLeDiff, Nat.reduceLT, Nat.reduceSub, Nat.reduceEqDiff]))

end Go.Proofs.YtdmbncmbkocjjaaGreat.Va

/- Plain laws of varints: lists of bytes and numbers, no program in sight. -/
namespace Go.Proofs.YtdmbncmbkocjjaaGreat.Vp

/-- The varint of u, of at most k + 1 groups. -/
def vput : Nat → Nat → List UInt8
  | 0, u => [UInt8.ofNat u]
  | k + 1, u => if u < 128 then [UInt8.ofNat u] else UInt8.ofNat (u % 128 + 128) :: vput k (u / 128)

def put (u : Nat) : List UInt8 := vput 9 u

/-- Reading a varint: the i-th byte is next, acc has been read. The number, the length, the error. -/
def vtk : Nat → Nat → List UInt8 → Nat × Nat × Nat
  | _, _, [] => (0, 0, 4)
  | i, acc, c :: t =>
    if i = 9 ∧ 1 < c.toNat then (0, 0, 6)
    else if c.toNat < 128 then (acc + c.toNat * 128 ^ i, i + 1, 0)
    else vtk (i + 1) (acc + (c.toNat - 128) * 128 ^ i) t

def take (s : List UInt8) : Nat × Nat × Nat := vtk 0 0 s

theorem toNat_ofNat (n : Nat) (h : n < 256) : (UInt8.ofNat n).toNat = n := by
  simp [UInt8.toNat_ofNat']; omega

theorem vput_ne (k u : Nat) : vput k u ≠ [] := by
  cases k with
  | zero => simp [vput]
  | succ k => unfold vput; split <;> simp

theorem vput_len (k u : Nat) : 1 ≤ (vput k u).length ∧ (vput k u).length ≤ k + 1 := by
  induction k generalizing u with
  | zero => simp [vput]
  | succ k ih =>
    unfold vput
    split
    · simp
    · have := ih (u / 128); simp; omega

theorem put_len (u : Nat) : 1 ≤ (put u).length ∧ (put u).length ≤ 10 := vput_len 9 u

theorem vput_small (k u : Nat) (h : u < 128) : vput k u = [UInt8.ofNat u] := by
  cases k <;> simp [vput, h]

theorem vput_big (k u : Nat) (h : ¬ u < 128) : vput (k + 1) u = UInt8.ofNat (u % 128 + 128) :: vput k (u / 128) := by
  simp [vput, h]

theorem vput_mono (k u v : Nat) (h : u ≤ v) : (vput k u).length ≤ (vput k v).length := by
  induction k generalizing u v with
  | zero => simp [vput]
  | succ k ih =>
    by_cases hu : u < 128
    · rw [vput_small _ _ hu]; exact (vput_len (k + 1) v).1
    · have hv : ¬ v < 128 := by omega
      rw [vput_big _ _ hu, vput_big _ _ hv]
      have := ih (u / 128) (v / 128) (by omega)
      simp; omega

/-- More groups allowed than needed: the same varint. -/
theorem vput_more (k j u : Nat) (h : u < 128 ^ (k + 1)) (hj : k ≤ j) : vput j u = vput k u := by
  induction k generalizing j u with
  | zero =>
    have hu : u < 128 := by simpa using h
    rw [vput_small _ _ hu, vput_small _ _ hu]
  | succ k ih =>
    obtain ⟨j, rfl⟩ : ∃ i, j = i + 1 := ⟨j - 1, by omega⟩
    by_cases hu : u < 128
    · rw [vput_small _ _ hu, vput_small _ _ hu]
    · rw [vput_big _ _ hu, vput_big _ _ hu, ih j (u / 128) _ (by omega)]
      rw [Nat.pow_succ] at h
      omega

/-- The bound of what the groups from the i-th on can hold. -/
def room (i : Nat) : Nat := 2 ^ (64 - 7 * i)

theorem room_succ (i u : Nat) (hi : i < 9) (h : u < room i) : u / 128 < room (i + 1) := by
  unfold room at *
  have e : 64 - 7 * i = (64 - 7 * (i + 1)) + 7 := by omega
  rw [e, Nat.pow_add] at h
  omega

theorem vtk_put (k i acc u : Nat) (t : List UInt8) (hk : k + i = 9) (hu : u < room i) :
    vtk i acc (vput k u ++ t) = (acc + u * 128 ^ i, i + (vput k u).length, 0) := by
  induction k generalizing i acc u with
  | zero =>
    obtain rfl : i = 9 := by omega
    have hu2 : u < 2 := by simpa [room] using hu
    have hc := toNat_ofNat u (by omega)
    simp only [vput, List.cons_append, List.nil_append, vtk, hc]
    rw [if_neg (by omega), if_pos (by omega)]
    rfl
  | succ k ih =>
    by_cases h : u < 128
    · have hc := toNat_ofNat u (by omega)
      rw [vput_small _ _ h]
      simp only [List.cons_append, List.nil_append, vtk, hc]
      rw [if_neg (by omega), if_pos h]
      rfl
    · have hc := toNat_ofNat (u % 128 + 128) (by omega)
      rw [vput_big _ _ h]
      simp only [List.cons_append, vtk, hc]
      rw [if_neg (by omega), if_neg (by omega), ih (i + 1) _ (u / 128) (by omega) (room_succ i u (by omega) hu)]
      have e : acc + (u % 128 + 128 - 128) * 128 ^ i + u / 128 * 128 ^ (i + 1) = acc + u * 128 ^ i := by
        rw [Nat.pow_succ, Nat.add_sub_cancel, Nat.add_assoc, Nat.mul_comm (128 ^ i) 128, ← Nat.mul_assoc, ← Nat.add_mul]
        congr 2; omega
      rw [e]
      simp only [List.length_cons, Prod.mk.injEq, true_and, and_true]
      omega

theorem take_put (u : Nat) (t : List UInt8) (h : u < 2 ^ 64) : take (put u ++ t) = (u, (put u).length, 0) := by
  have := vtk_put 9 0 0 u t rfl (by simpa [room] using h)
  simpa [take, put] using this

theorem vtk_err (i acc : Nat) (s : List UInt8) : (vtk i acc s).2.2 = 0 ∨ (vtk i acc s).2.2 = 4 ∨ (vtk i acc s).2.2 = 6 := by
  induction s generalizing i acc with
  | nil => simp [vtk]
  | cons c t ih =>
    unfold vtk
    split
    · simp
    · split
      · simp
      · exact ih _ _

theorem vtk_zero (i acc : Nat) (s : List UInt8) (h : (vtk i acc s).2.2 ≠ 0) : (vtk i acc s).1 = 0 ∧ (vtk i acc s).2.1 = 0 := by
  induction s generalizing i acc with
  | nil => simp [vtk]
  | cons c t ih =>
    unfold vtk at h ⊢
    split
    · simp
    · rename_i h1
      rw [if_neg h1] at h
      split
      · rename_i h2; simp [h2] at h
      · rename_i h2
        rw [if_neg h2] at h
        exact ih _ _ h

/-- How far a number reads, and its bounds. -/
theorem vtk_bounds (i acc : Nat) (s : List UInt8) (hi : i ≤ 9) (ha : acc < 128 ^ i) (h : (vtk i acc s).2.2 = 0) :
    i < (vtk i acc s).2.1 ∧ (vtk i acc s).2.1 ≤ i + s.length ∧ (vtk i acc s).2.1 ≤ 10 ∧ (vtk i acc s).1 < 2 ^ 64 := by
  induction s generalizing i acc with
  | nil => simp [vtk] at h
  | cons c t ih =>
    unfold vtk at h ⊢
    split
    · rename_i h1; rw [if_pos h1] at h; simp at h
    · rename_i h1
      rw [if_neg h1] at h
      have hp : 128 ^ i = 2 ^ (7 * i) := by rw [show (128 : Nat) = 2 ^ 7 from rfl, ← Nat.pow_mul]
      split
      · rename_i h2
        refine ⟨Nat.lt_succ_self i, by simp, by show i + 1 ≤ 10; omega, ?_⟩
        show acc + c.toNat * 128 ^ i < 2 ^ 64
        rcases Nat.lt_or_ge i 9 with h9 | h9
        · have : c.toNat * 128 ^ i ≤ 127 * 128 ^ i := Nat.mul_le_mul_right _ (by omega)
          have h3 : acc + c.toNat * 128 ^ i < 128 ^ (i + 1) := by rw [Nat.pow_succ]; omega
          have h4 : 128 ^ (i + 1) ≤ 128 ^ 9 := Nat.pow_le_pow_right (by omega) (by omega)
          omega
        · obtain rfl : i = 9 := by omega
          have : c.toNat ≤ 1 := by omega
          omega
      · rename_i h2
        rw [if_neg h2] at h
        have h9 : i < 9 := by
          rcases Nat.lt_or_ge i 9 with h9 | h9
          · exact h9
          · exact absurd ⟨by omega, by omega⟩ h1
        have hc := c.toNat_lt
        have h3 : acc + (c.toNat - 128) * 128 ^ i < 128 ^ (i + 1) := by
          have : (c.toNat - 128) * 128 ^ i ≤ 127 * 128 ^ i := Nat.mul_le_mul_right _ (by omega)
          rw [Nat.pow_succ]; omega
        obtain ⟨a, b, d, e⟩ := ih (i + 1) _ (by omega) h3 h
        exact ⟨by omega, by simp; omega, d, e⟩

theorem take_bounds (s : List UInt8) (h : (take s).2.2 = 0) : 0 < (take s).2.1 ∧ (take s).2.1 ≤ s.length ∧ (take s).2.1 ≤ 10 ∧ (take s).1 < 2 ^ 64 := by
  have := vtk_bounds 0 0 s (by omega) (by omega) h
  simpa [take] using this

/-- What is read does not depend on what follows the bytes that were read. -/
theorem vtk_append (i acc : Nat) (s t : List UInt8) (h : (vtk i acc s).2.2 ≠ 4) : vtk i acc (s ++ t) = vtk i acc s := by
  induction s generalizing i acc with
  | nil => simp [vtk] at h
  | cons c r ih =>
    simp only [List.cons_append]
    unfold vtk at h ⊢
    split
    · rfl
    · rename_i h1
      rw [if_neg h1] at h
      split
      · rfl
      · rename_i h2
        rw [if_neg h2] at h
        exact ih _ _ h

/-- Ten bytes are enough. -/
theorem vtk_ten (i acc : Nat) (s : List UInt8) (hi : i ≤ 9) (hl : 10 ≤ i + s.length) : (vtk i acc s).2.2 ≠ 4 := by
  induction s generalizing i acc with
  | nil => simp at hl; omega
  | cons c r ih =>
    unfold vtk
    split
    · simp
    · rename_i h1
      split
      · simp
      · rename_i h2
        exact ih _ _ (by omega) (by simp at hl; omega)

theorem take_take (s : List UInt8) : take (s.take 10) = take s := by
  rcases Nat.lt_or_ge s.length 10 with h | h
  · rw [List.take_of_length_le (by omega)]
  · have := vtk_append 0 0 (s.take 10) (s.drop 10) (vtk_ten 0 0 _ (by omega) (by simp; omega))
    rw [List.take_append_drop] at this
    exact this.symm

/-- All bytes read: the number's groups; zero only if the last byte is; the shortest form only if the last byte is not zero (or the only one). -/
theorem vtk_all (i acc : Nat) (s : List UInt8) (k : Nat) (hk : k + i = 9) (h : (vtk i acc s).2.2 = 0) (hn : (vtk i acc s).2.1 = i + s.length) :
    ∃ v, (vtk i acc s).1 = acc + v * 128 ^ i ∧ (v = 0 → s.getLast? = some 0) ∧ (s.length = 1 → s.getLast? = some (UInt8.ofNat v) ∧ v < 128) ∧
      (vput k v = s ↔ (s.length = 1 ∨ s.getLast? ≠ some 0)) := by
  induction s generalizing i acc k with
  | nil => simp [vtk] at h
  | cons c t ih =>
    unfold vtk at h hn ⊢
    split
    · rename_i h1; rw [if_pos h1] at h; simp at h
    · rename_i h1
      rw [if_neg h1] at h hn
      split
      · rename_i h2
        rw [if_pos h2] at hn
        have ht : t = [] := by
          have : t.length = 0 := by
            have hn' : i + 1 = i + (t.length + 1) := hn
            omega
          exact List.eq_nil_of_length_eq_zero this
        subst ht
        have hc : UInt8.ofNat c.toNat = c := by simp
        refine ⟨c.toNat, rfl, fun h0 => by simp; exact UInt8.toNat.inj (by simpa using h0), fun _ => ⟨by simp, h2⟩, ?_⟩
        rw [vput_small _ _ h2, hc]
        simp
      · rename_i h2
        rw [if_neg h2] at h hn
        have h9 : i < 9 := by
          rcases Nat.lt_or_ge i 9 with h9 | h9
          · exact h9
          · exact absurd ⟨by omega, by omega⟩ h1
        obtain ⟨k, rfl⟩ : ∃ j, k = j + 1 := ⟨k - 1, by omega⟩
        obtain ⟨v, e, z, one, sh⟩ := ih (i + 1) _ k (by omega) h (by rw [hn, List.length_cons]; omega)
        have hcl := c.toNat_lt
        have htn : t ≠ [] := by rintro rfl; simp [vtk] at h
        have hlast : (c :: t).getLast? = t.getLast? := by
          cases t with
          | nil => exact absurd rfl htn
          | cons d t => simp
        have hlen : (c :: t).length ≠ 1 := by
          cases t with
          | nil => exact absurd rfl htn
          | cons d t => simp
        refine ⟨(c.toNat - 128) + v * 128, ?_, ?_, fun hl => absurd hl hlen, ?_⟩
        · rw [e, Nat.pow_succ, Nat.add_mul, Nat.mul_comm (128 ^ i) 128, ← Nat.mul_assoc, Nat.add_assoc]
        · intro h0; rw [hlast]; exact z (by omega)
        · rw [hlast]
          simp only [hlen, false_or]
          by_cases hv : v = 0
          · have := z hv
            rw [vput_small _ _ (by omega), this]
            simp
            intro _
            exact htn
          · rw [vput_big _ _ (by omega)]
            have e1 : (c.toNat - 128 + v * 128) % 128 + 128 = c.toNat := by omega
            have e2 : (c.toNat - 128 + v * 128) / 128 = v := by omega
            rw [e1, e2]
            have hc : UInt8.ofNat c.toNat = c := by simp
            rw [hc]
            simp only [List.cons.injEq, true_and]
            rw [sh]
            constructor
            · rintro (h1 | h1)
              · obtain ⟨hl, hv'⟩ := one h1
                rw [hl]
                intro h0
                simp at h0
                have := congrArg UInt8.toNat h0
                rw [toNat_ofNat _ (by omega)] at this
                exact hv this
              · exact h1
            · exact fun h1 => .inr h1

theorem put_take (s : List UInt8) (h : (take s).2.2 = 0) (hn : (take s).2.1 = s.length) : put (take s).1 = s ↔ (s.length = 1 ∨ s.getLast? ≠ some 0) := by
  obtain ⟨v, e, _, _, sh⟩ := vtk_all 0 0 s 9 rfl h (by simpa [take] using hn)
  have : (take s).1 = v := by simpa [take] using e
  rw [this]; exact sh

/-- The shortest form. -/
def short (s : List UInt8) : Bool := (take s).2.2 == 0 && (take s).2.1 == s.length && decide (put (take s).1 = s)

theorem short_put (u : Nat) (h : u < 2 ^ 64) : short (put u) = true := by
  have := take_put u [] h
  rw [List.append_nil] at this
  simp [short, this]

/-- What the law says of any bytes. -/
theorem round_trip (u : Nat) (s : List UInt8) (h : u < 2 ^ 64) (hp : put (take s).1 = put u) : short s = decide (s = put u) := by
  by_cases hs : s = put u
  · subst hs; rw [short_put u h]; simp
  · have : short s = false := by
      cases hsh : short s with
      | false => rfl
      | true =>
        simp [short] at hsh
        exact absurd (hsh.2.symm.trans hp) hs
    rw [this]; simp [hs]

end Go.Proofs.YtdmbncmbkocjjaaGreat.Vp

/- Decoding a code point, and the sequence that the specification sees. -/
set_option linter.unusedSimpArgs false
namespace Go.Proofs.YtdmbncmbkocjjaaGreat.Va
open Go Am Rc Bt Vp

theorem get_at (s : List UInt8) (j : Nat) (c : UInt8) (h : s[j]? = some c) : (⟨⟨s⟩⟩ : ByteArray).get! j = c := by
  show (⟨s⟩ : Array UInt8)[j]! = c
  simp [h]

theorem u8eq (a : UInt8) (n : Nat) (hn : n < 256) : (a == UInt8.ofNat n) = decide (a.toNat = n) := by
  rw [Bool.eq_iff_iff, beq_iff_eq, decide_eq_true_eq]
  constructor
  · rintro rfl
    rw [toNat_ofNat _ hn]
  · intro h
    rw [← UInt8.toNat_inj, toNat_ofNat _ hn, h]

set_option maxHeartbeats 4000000 in
theorem dec4 (s : List UInt8) (i : Nat) (a b c d : UInt8) (t : List UInt8) (hr : s.drop i = a :: b :: c :: d :: t) : (decide ((udec s i).1 = 65533) && !repl s i) = decide (sz s i = 0) ∧ (sz s i ≠ 0 → (udec s i).2 = sz s i) := by
  have hsz : ∀ j, (s[i + j]? = (a :: b :: c :: d :: t)[j]?) := fun j => by rw [← hr, List.getElem?_drop]
  have hn : ByteArray.size ⟨⟨s⟩⟩ = s.length := rfl
  have hl : s.length = i + (a :: b :: c :: d :: t).length := by
    have h := congrArg List.length hr
    simp at h ⊢
    omega
  have h0 := hsz 0
  have h1 := hsz 1
  have h2 := hsz 2
  have h3 := hsz 3
  simp only [Nat.add_zero] at h0
  have g0 := get_at s i a h0
  have g1 := get_at s (i + 1) b h1
  have g2 := get_at s (i + 2) c h2
  have g3 := get_at s (i + 3) d h3
  have l1 : (i + 1 < s.length) = True := by simp at hl ⊢; omega
  have l2 : (i + 2 < s.length) = True := by simp at hl ⊢; omega
  have l3 : (i + 3 < s.length) = True := by simp at hl ⊢; omega
  have wa := a.toNat_lt
  have wb := b.toNat_lt
  have wc := c.toNat_lt
  have wd := d.toNat_lt
  have hrep : repl s i = (decide (a.toNat = 239) && (decide (b.toNat = 191) && decide (c.toNat = 189))) := by
    rw [← u8eq a 239 (by decide), ← u8eq b 191 (by decide), ← u8eq c 189 (by decide)]
    simp [repl, hr]
  simp only [List.getElem?_cons_succ, List.getElem?_nil, List.getElem?_cons_zero] at h0 h1 h2 h3
  generalize hD : udec s i = D
  generalize hS : sz s i = S
  rw [hrep]
  simp only [udec, Utf8.decode, Utf8.valid, Utf8.runeError, hn, l1, l2, l3, Nat.add_zero, g0, g1, g2, g3, sz, h0, szb, tl, bt, Nat.add_assoc, Nat.reduceAdd, h1, h2, h3, hrep, decide_false, decide_true, Bool.false_and, Bool.and_false, Bool.true_and, Bool.and_true, Bool.false_eq_true, if_false, false_and, and_false, Bool.and_eq_true, Bool.or_eq_true, decide_eq_true_eq, beq_iff_eq, ge_iff_le] at hD hS
  clear hsz hr hl h0 h1 h2 h3 g0 g1 g2 g3 l1 l2 l3 hrep hn
  generalize a.toNat = x at *
  generalize b.toNat = y at *
  generalize c.toNat = z at *
  generalize d.toNat = u at *
  (repeat' split at hD) <;> subst hD <;> (repeat' split at hS) <;> subst hS <;> refine ⟨?_, ?_⟩ <;> (try rw [Bool.eq_iff_iff]) <;> (try simp only [Bool.and_eq_true, decide_eq_true_eq, Bool.not_eq_true', Bool.and_eq_false_iff, decide_eq_false_iff_not]) <;> first | omega | (intro _; rfl) | (simp; done) | (simp; omega)

theorem dec_case (s : List UInt8) (i : Nat) (hi : i < s.length) : (decide ((udec s i).1 = 65533) && !repl s i) = decide (sz s i = 0) ∧ (sz s i ≠ 0 → (udec s i).2 = sz s i) := by
  have hsz : ∀ j, (s[i + j]? = (s.drop i)[j]?) := fun j => by rw [List.getElem?_drop]
  have hn : ByteArray.size ⟨⟨s⟩⟩ = s.length := rfl
  have hl : s.length = i + (s.drop i).length := by simp; omega
  generalize hr : s.drop i = r at hsz hl
  have h0 := hsz 0
  have h1 := hsz 1
  have h2 := hsz 2
  have h3 := hsz 3
  simp only [Nat.add_zero] at h0
  match r, hl with
  | [], hl => simp at hl; omega
  | [a], hl =>
    have g0 := get_at s i a h0
    have l1 : (i + 1 < s.length) = False := by simp at hl ⊢; omega
    have l2 : (i + 2 < s.length) = False := by simp at hl ⊢; omega
    have l3 : (i + 3 < s.length) = False := by simp at hl ⊢; omega
    have wa := a.toNat_lt
    have hrep : repl s i = false := by simp [repl, hr]
    simp only [List.getElem?_cons_succ, List.getElem?_nil, List.getElem?_cons_zero] at h0 h1 h2 h3
    simp only [udec, Utf8.decode, Utf8.valid, Utf8.runeError, hn, l1, l2, l3, Nat.add_zero, g0, sz, h0, szb, tl, bt, Nat.add_assoc, Nat.reduceAdd, h1, h2, h3, hrep, decide_false, decide_true, Bool.false_and, Bool.and_false, Bool.true_and, Bool.and_true, Bool.false_eq_true, if_false, false_and, and_false, Bool.and_eq_true, Bool.or_eq_true, decide_eq_true_eq, beq_iff_eq, ge_iff_le]
    (repeat' split) <;> refine ⟨?_, ?_⟩ <;> (try rw [Bool.eq_iff_iff]) <;> (try simp only [Bool.and_eq_true, decide_eq_true_eq, Bool.not_eq_true', decide_eq_false_iff_not, Bool.not_false, Bool.and_true, Bool.and_eq_false_iff, Bool.and_eq_false_imp]) <;> first | omega | (intro _; rfl) | (intro _; omega) | (simp; done) | (simp; omega)
  | [a, b], hl =>
    have g0 := get_at s i a h0
    have g1 := get_at s (i + 1) b h1
    have l1 : (i + 1 < s.length) = True := by simp at hl ⊢; omega
    have l2 : (i + 2 < s.length) = False := by simp at hl ⊢; omega
    have l3 : (i + 3 < s.length) = False := by simp at hl ⊢; omega
    have wa := a.toNat_lt
    have wb := b.toNat_lt
    have hrep : repl s i = false := by simp [repl, hr]
    simp only [List.getElem?_cons_succ, List.getElem?_nil, List.getElem?_cons_zero] at h0 h1 h2 h3
    simp only [udec, Utf8.decode, Utf8.valid, Utf8.runeError, hn, l1, l2, l3, Nat.add_zero, g0, g1, sz, h0, szb, tl, bt, Nat.add_assoc, Nat.reduceAdd, h1, h2, h3, hrep, decide_false, decide_true, Bool.false_and, Bool.and_false, Bool.true_and, Bool.and_true, Bool.false_eq_true, if_false, false_and, and_false, Bool.and_eq_true, Bool.or_eq_true, decide_eq_true_eq, beq_iff_eq, ge_iff_le]
    (repeat' split) <;> refine ⟨?_, ?_⟩ <;> (try rw [Bool.eq_iff_iff]) <;> (try simp only [Bool.and_eq_true, decide_eq_true_eq, Bool.not_eq_true', decide_eq_false_iff_not, Bool.not_false, Bool.and_true, Bool.and_eq_false_iff, Bool.and_eq_false_imp]) <;> first | omega | (intro _; rfl) | (intro _; omega) | (simp; done) | (simp; omega)
  | [a, b, c], hl =>
    have g0 := get_at s i a h0
    have g1 := get_at s (i + 1) b h1
    have g2 := get_at s (i + 2) c h2
    have l1 : (i + 1 < s.length) = True := by simp at hl ⊢; omega
    have l2 : (i + 2 < s.length) = True := by simp at hl ⊢; omega
    have l3 : (i + 3 < s.length) = False := by simp at hl ⊢; omega
    have wa := a.toNat_lt
    have wb := b.toNat_lt
    have wc := c.toNat_lt
    have hrep : repl s i = (decide (a.toNat = 239) && (decide (b.toNat = 191) && decide (c.toNat = 189))) := by
      rw [← u8eq a 239 (by decide), ← u8eq b 191 (by decide), ← u8eq c 189 (by decide)]
      simp [repl, hr]
    simp only [List.getElem?_cons_succ, List.getElem?_nil, List.getElem?_cons_zero] at h0 h1 h2 h3
    simp only [udec, Utf8.decode, Utf8.valid, Utf8.runeError, hn, l1, l2, l3, Nat.add_zero, g0, g1, g2, sz, h0, szb, tl, bt, Nat.add_assoc, Nat.reduceAdd, h1, h2, h3, hrep, decide_false, decide_true, Bool.false_and, Bool.and_false, Bool.true_and, Bool.and_true, Bool.false_eq_true, if_false, false_and, and_false, Bool.and_eq_true, Bool.or_eq_true, decide_eq_true_eq, beq_iff_eq, ge_iff_le]
    (repeat' split) <;> refine ⟨?_, ?_⟩ <;> (try rw [Bool.eq_iff_iff]) <;> (try simp only [Bool.and_eq_true, decide_eq_true_eq, Bool.not_eq_true', decide_eq_false_iff_not, Bool.not_false, Bool.and_true, Bool.and_eq_false_iff, Bool.and_eq_false_imp]) <;> first | omega | (intro _; rfl) | (intro _; omega) | (simp; done) | (simp; omega)
  | a :: b :: c :: d :: t, hl => exact dec4 s i a b c d t hr

end Go.Proofs.YtdmbncmbkocjjaaGreat.Va

/- Scalars: kinds, wire types, classes of doubles. -/
set_option linter.unusedSimpArgs false
namespace Go.Proofs.YtdmbncmbkocjjaaGreat.Va
open Go Am Rc Bt Br Vp

/-- A kind of scalars. -/
def isk (k : Int) : Bool := decide (k ≥ 1) && decide (k ≤ 9)
/-- A kind of texts. -/
def txk (k : Int) : Bool := k == 7 || k == 8
/-- The wire type of an element of a kind. -/
def wk (k : Int) : Int := if k = 1 ∨ k = 4 ∨ k = 5 ∨ k = 9 then 0 else if k = 2 ∨ k = 3 then 1 else if k = 6 then 2 else if k = 7 ∨ k = 8 then 3 else if k = 10 then 4 else -1

theorem x17 (k : Int) : Fn1 Tryz.prog 17 [.int .i64 k] (.bool (isk k)) := by
  refine fn1_of_awp (rc := r17) (rs := o17) Tryz.func17 rfl rfl Tryz.ntmps17 k17 q17 (by simp) ?_
  simp only [g17_0, g17_1, r17, o17, isk, eES, eEX, Nat.reduceBEq, Int.reduceLE, Int.reduceLT, Int.reduceToNat, Int.reduceEq, ↓reduceIte, reduceCtorEq, Nat.reducePow, Nat.reduceAdd, Nat.reduceLeDiff, Nat.reduceLT, Nat.reduceSub, Nat.reduceEqDiff]
  cases h : decide (k ≥ 1) <;> simp only [h, Bool.true_and, Bool.false_and, eES, eEX, Nat.reduceBEq, Int.reduceLE, Int.reduceLT, Int.reduceToNat, Int.reduceEq, ↓reduceIte, reduceCtorEq, Nat.reducePow, Nat.reduceAdd, Nat.reduceLeDiff, Nat.reduceLT, Nat.reduceSub, Nat.reduceEqDiff]

theorem x10 (k : Int) : Fn1 Tryz.prog 10 [.int .i64 k] (.bool (isk k)) := by
  refine fn1_of_awp (rc := r10) (rs := o10) Tryz.func10 rfl rfl Tryz.ntmps10 k10 q10 (by simp) ?_
  simp only [g10_0, g10_1, r10, o10, isk, eES, eEX, Nat.reduceBEq, Int.reduceLE, Int.reduceLT, Int.reduceToNat, Int.reduceEq, ↓reduceIte, reduceCtorEq, Nat.reducePow, Nat.reduceAdd, Nat.reduceLeDiff, Nat.reduceLT, Nat.reduceSub, Nat.reduceEqDiff]
  cases h : decide (k ≥ 1) <;> simp only [h, Bool.true_and, Bool.false_and, eES, eEX, Nat.reduceBEq, Int.reduceLE, Int.reduceLT, Int.reduceToNat, Int.reduceEq, ↓reduceIte, reduceCtorEq, Nat.reducePow, Nat.reduceAdd, Nat.reduceLeDiff, Nat.reduceLT, Nat.reduceSub, Nat.reduceEqDiff]

theorem x46 (k : Int) : Fn1 Tryz.prog 46 [.int .i64 k] (.bool (txk k)) := by
  refine fn1_of_awp (rc := r46) (rs := o46) Tryz.func46 rfl rfl Tryz.ntmps46 k46 q46 (by simp) ?_
  simp only [g46_0, g46_1, r46, o46, txk, eES, eEX, Nat.reduceBEq, Int.reduceLE, Int.reduceLT, Int.reduceToNat, Int.reduceEq, ↓reduceIte, reduceCtorEq, Nat.reducePow, Nat.reduceAdd, Nat.reduceLeDiff, Nat.reduceLT, Nat.reduceSub, Nat.reduceEqDiff]
  cases h : (k == 7) <;> simp only [h, Bool.true_or, Bool.false_or, eES, eEX, Nat.reduceBEq, Int.reduceLE, Int.reduceLT, Int.reduceToNat, Int.reduceEq, ↓reduceIte, reduceCtorEq, Nat.reducePow, Nat.reduceAdd, Nat.reduceLeDiff, Nat.reduceLT, Nat.reduceSub, Nat.reduceEqDiff]

theorem x60 (k : Int) : Fn1 Tryz.prog 60 [.int .i64 k] (.bool (txk k)) := by
  refine fn1_of_awp (rc := r60) (rs := o60) Tryz.func60 rfl rfl Tryz.ntmps60 k60 q60 (by simp) ?_
  simp only [g60_0, g60_1, r60, o60, txk, eES, eEX, Nat.reduceBEq, Int.reduceLE, Int.reduceLT, Int.reduceToNat, Int.reduceEq, ↓reduceIte, reduceCtorEq, Nat.reducePow, Nat.reduceAdd, Nat.reduceLeDiff, Nat.reduceLT, Nat.reduceSub, Nat.reduceEqDiff]
  cases h : (k == 7) <;> simp only [h, Bool.true_or, Bool.false_or, eES, eEX, Nat.reduceBEq, Int.reduceLE, Int.reduceLT, Int.reduceToNat, Int.reduceEq, ↓reduceIte, reduceCtorEq, Nat.reducePow, Nat.reduceAdd, Nat.reduceLeDiff, Nat.reduceLT, Nat.reduceSub, Nat.reduceEqDiff]

/-- The cells of an operation. -/
def oc (n : Int) (s a : List UInt8) (c k kd t u : Int) : AV := .agg [.int .i64 n, .str s, .str a, .int .i64 c, .int .i64 k, .int .i64 kd, .int .i64 t, .int .i64 u]

section
variable (n : Int) (s a : List UInt8) (c k kd t u : Int)

theorem x58 : Fn1 Tryz.prog 58 [oc n s a 2 k kd t u] (.bool false) := by
  refine fn1_of_awp (rc := r58) (rs := o58) Tryz.func58 rfl rfl Tryz.ntmps58 k58 q58 (by simp) ?_
  have b0 : ((2 : Int) == 4) = false := rfl
  simp only [g58_0, g58_1, r58, o58, oc, b0, eES, eEX, Nat.reduceBEq, Int.reduceLE, Int.reduceLT, Int.reduceToNat, Int.reduceEq, ↓reduceIte, reduceCtorEq, Nat.reducePow, Nat.reduceAdd, Nat.reduceLeDiff, Nat.reduceLT, Nat.reduceSub, Nat.reduceEqDiff]

theorem x62 : Fn1 Tryz.prog 62 [oc n s a 2 k kd t u] (.bool false) := by
  refine fn1_of_awp (rc := r62) (rs := o62) Tryz.func62 rfl rfl Tryz.ntmps62 k62 q62 (by simp) ?_
  have b0 : ((2 : Int) == 4) = false := rfl
  simp only [g62_0, g62_1, r62, o62, oc, b0, eES, eEX, Nat.reduceBEq, Int.reduceLE, Int.reduceLT, Int.reduceToNat, Int.reduceEq, ↓reduceIte, reduceCtorEq, Nat.reducePow, Nat.reduceAdd, Nat.reduceLeDiff, Nat.reduceLT, Nat.reduceSub, Nat.reduceEqDiff]

theorem x35 : Fn1 Tryz.prog 35 [oc n s a 2 k kd t u] (.int .i64 (wk kd)) := by
  have hP := x58 n s a k kd t u
  simp only [oc] at hP
  refine fn1_of_awp (rc := r35) (rs := o35) Tryz.func35 rfl rfl Tryz.ntmps35 k35 q35 (by simp) ?_
  have b0 : ((2 : Int) == 5) = false := rfl
  simp only [g35_0, g35_1, g35_2, g35_3, g35_4, g35_5, g35_6, g35_7, g35_8, g35_9, g35_10, g35_11, g35_12, g35_13, g35_14, g35_15, g35_16, g35_17, g35_18, g35_19, g35_20, g35_21, r35, o35, oc, b0, eES, eEX, Nat.reduceBEq, Int.reduceLE, Int.reduceLT, Int.reduceToNat, Int.reduceEq, ↓reduceIte, reduceCtorEq, Nat.reducePow, Nat.reduceAdd, Nat.reduceLeDiff, Nat.reduceLT, Nat.reduceSub, Nat.reduceEqDiff]
  refine aops_call hP rfl rfl rfl (.inl rfl) ?_
  simp only [eES, eEX, Nat.reduceBEq, Int.reduceLE, Int.reduceLT, Int.reduceToNat, Int.reduceEq, ↓reduceIte, reduceCtorEq, Nat.reducePow, Nat.reduceAdd, Nat.reduceLeDiff, Nat.reduceLT, Nat.reduceSub, Nat.reduceEqDiff]
  repeat' (first | (refine csel_of (fun h => ?_) (fun h => ?_) <;> simp only [h, eES, eEX, Nat.reduceBEq, Int.reduceLE, Int.reduceLT, Int.reduceToNat, Int.reduceEq, ↓reduceIte, reduceCtorEq, Nat.reducePow, Nat.reduceAdd, Nat.reduceLeDiff, Nat.reduceLT, Nat.reduceSub, Nat.reduceEqDiff]) | (refine gsel_t (fun h => ?_) (fun h => ?_) <;> simp only [h, updO, eES, eEX, Nat.reduceBEq, Int.reduceLE, Int.reduceLT, Int.reduceToNat, Int.reduceEq, ↓reduceIte, reduceCtorEq, Nat.reducePow, Nat.reduceAdd, Nat.reduceLeDiff, Nat.reduceLT, Nat.reduceSub, Nat.reduceEqDiff]) | (refine gsel_f (fun h => ?_) (fun h => ?_) <;> simp only [h, updO, eES, eEX, Nat.reduceBEq, Int.reduceLE, Int.reduceLT, Int.reduceToNat, Int.reduceEq, ↓reduceIte, reduceCtorEq, Nat.reducePow, Nat.reduceAdd, Nat.reduceLeDiff, Nat.reduceLT, Nat.reduceSub, Nat.reduceEqDiff]))
  all_goals ((try simp only [decide_eq_true_eq, decide_eq_false_iff_not, beq_iff_eq, bne_iff_ne, beq_eq_false_iff_ne, bne_eq_false_iff_eq, ne_eq] at *) <;> unfold wk <;> (repeat' split) <;> first | rfl | (exfalso; omega))

theorem x42 : Fn1 Tryz.prog 42 [oc n s a 2 k kd t u] (.int .i64 (wk kd)) := by
  have hP := x62 n s a k kd t u
  simp only [oc] at hP
  refine fn1_of_awp (rc := r42) (rs := o42) Tryz.func42 rfl rfl Tryz.ntmps42 k42 q42 (by simp) ?_
  have b0 : ((2 : Int) == 5) = false := rfl
  simp only [g42_0, g42_1, g42_2, g42_3, g42_4, g42_5, g42_6, g42_7, g42_8, g42_9, g42_10, g42_11, g42_12, g42_13, g42_14, g42_15, g42_16, g42_17, g42_18, g42_19, g42_20, g42_21, r42, o42, oc, b0, eES, eEX, Nat.reduceBEq, Int.reduceLE, Int.reduceLT, Int.reduceToNat, Int.reduceEq, ↓reduceIte, reduceCtorEq, Nat.reducePow, Nat.reduceAdd, Nat.reduceLeDiff, Nat.reduceLT, Nat.reduceSub, Nat.reduceEqDiff]
  refine aops_call hP rfl rfl rfl (.inl rfl) ?_
  simp only [eES, eEX, Nat.reduceBEq, Int.reduceLE, Int.reduceLT, Int.reduceToNat, Int.reduceEq, ↓reduceIte, reduceCtorEq, Nat.reducePow, Nat.reduceAdd, Nat.reduceLeDiff, Nat.reduceLT, Nat.reduceSub, Nat.reduceEqDiff]
  repeat' (first | (refine csel_of (fun h => ?_) (fun h => ?_) <;> simp only [h, eES, eEX, Nat.reduceBEq, Int.reduceLE, Int.reduceLT, Int.reduceToNat, Int.reduceEq, ↓reduceIte, reduceCtorEq, Nat.reducePow, Nat.reduceAdd, Nat.reduceLeDiff, Nat.reduceLT, Nat.reduceSub, Nat.reduceEqDiff]) | (refine gsel_t (fun h => ?_) (fun h => ?_) <;> simp only [h, updO, eES, eEX, Nat.reduceBEq, Int.reduceLE, Int.reduceLT, Int.reduceToNat, Int.reduceEq, ↓reduceIte, reduceCtorEq, Nat.reducePow, Nat.reduceAdd, Nat.reduceLeDiff, Nat.reduceLT, Nat.reduceSub, Nat.reduceEqDiff]) | (refine gsel_f (fun h => ?_) (fun h => ?_) <;> simp only [h, updO, eES, eEX, Nat.reduceBEq, Int.reduceLE, Int.reduceLT, Int.reduceToNat, Int.reduceEq, ↓reduceIte, reduceCtorEq, Nat.reducePow, Nat.reduceAdd, Nat.reduceLeDiff, Nat.reduceLT, Nat.reduceSub, Nat.reduceEqDiff]))
  all_goals ((try simp only [decide_eq_true_eq, decide_eq_false_iff_not, beq_iff_eq, bne_iff_ne, beq_eq_false_iff_ne, bne_eq_false_iff_eq, ne_eq] at *) <;> unfold wk <;> (repeat' split) <;> first | rfl | (exfalso; omega))

theorem x11 : Fn1 Tryz.prog 11 [oc n s a c k kd t u] (.int .i64 (wk kd)) := by
  have hP := x35 n s a k kd t u
  simp only [oc] at hP
  refine fn1_of_awp (rc := r11) (rs := o11) Tryz.func11 rfl rfl Tryz.ntmps11 k11 q11 (by simp) ?_
  simp only [g11_0, g11_1, g11_2, r11, o11, oc, splice, List.take_succ_cons, List.take_zero, List.drop_succ_cons, List.drop_zero, List.cons_append, List.nil_append, List.length_cons, List.length_nil, eES, eEX, Nat.reduceBEq, Int.reduceLE, Int.reduceLT, Int.reduceToNat, Int.reduceEq, ↓reduceIte, reduceCtorEq, Nat.reducePow, Nat.reduceAdd, Nat.reduceLeDiff, Nat.reduceLT, Nat.reduceSub, Nat.reduceEqDiff]
  refine aops_call hP rfl rfl rfl (.inl rfl) ?_
  simp only [eES, eEX, Nat.reduceBEq, Int.reduceLE, Int.reduceLT, Int.reduceToNat, Int.reduceEq, ↓reduceIte, reduceCtorEq, Nat.reducePow, Nat.reduceAdd, Nat.reduceLeDiff, Nat.reduceLT, Nat.reduceSub, Nat.reduceEqDiff]

theorem x43 : Fn1 Tryz.prog 43 [oc n s a c k kd t u] (oc n s a 2 k kd t u) := by
  refine fn1_of_awp (rc := r43) (rs := o43) Tryz.func43 rfl rfl Tryz.ntmps43 k43 q43 (by simp) ?_
  simp only [g43_0, g43_1, g43_2, r43, o43, oc, eES, eEX, Nat.reduceBEq, Int.reduceLE, Int.reduceLT, Int.reduceToNat, Int.reduceEq, ↓reduceIte, reduceCtorEq, Nat.reducePow, Nat.reduceAdd, Nat.reduceLeDiff, Nat.reduceLT, Nat.reduceSub, Nat.reduceEqDiff]

theorem x18 : Fn1 Tryz.prog 18 [oc n s a c k kd t u] (.int .i64 (wk kd)) := by
  have hS := x43 n s a c k kd t u
  have hP := x42 n s a k kd t u
  simp only [oc] at hP hS
  refine fn1_of_awp (rc := r18) (rs := o18) Tryz.func18 rfl rfl Tryz.ntmps18 k18 q18 (by simp) ?_
  simp only [g18_0, g18_1, r18, o18, oc, eES, eEX, Nat.reduceBEq, Int.reduceLE, Int.reduceLT, Int.reduceToNat, Int.reduceEq, ↓reduceIte, reduceCtorEq, Nat.reducePow, Nat.reduceAdd, Nat.reduceLeDiff, Nat.reduceLT, Nat.reduceSub, Nat.reduceEqDiff]
  refine aops_call hS rfl rfl rfl (.inl rfl) ?_
  refine aops_call hP rfl rfl rfl (.inl rfl) ?_
  simp only [eES, eEX, Nat.reduceBEq, Int.reduceLE, Int.reduceLT, Int.reduceToNat, Int.reduceEq, ↓reduceIte, reduceCtorEq, Nat.reducePow, Nat.reduceAdd, Nat.reduceLeDiff, Nat.reduceLT, Nat.reduceSub, Nat.reduceEqDiff]

end

/-- The class of a double. -/
def cls (b : Nat) : Nat :=
  let z := b % 9223372036854775808
  if z > 9218868437227405312 then 0 else if z = 9218868437227405312 then 1 else if z = 0 then 2 else if z < 4503599627370496 then 3 else 4

theorem x47 (b : Nat) : Fn1 Tryz.prog 47 [.int .u64 (b : Nat)] (.int .i64 (cls b : Nat)) := by
  refine fn1_of_awp (rc := r47) (rs := o47) Tryz.func47 rfl rfl Tryz.ntmps47 k47 q47 (by simp) ?_
  have hm : (b : Int).tmod 9223372036854775808 = ((b % 9223372036854775808 : Nat) : Int) := by
    rw [Int.tmod_eq_emod_of_nonneg (by omega)]; omega
  simp only [g47_0, g47_1, g47_2, g47_3, g47_4, g47_5, g47_6, g47_7, g47_8, g47_9, g47_10, r47, o47, hm, eES, eEX, Nat.reduceBEq, Int.reduceLE, Int.reduceLT, Int.reduceToNat, Int.reduceEq, ↓reduceIte, reduceCtorEq, Nat.reducePow, Nat.reduceAdd, Nat.reduceLeDiff, Nat.reduceLT, Nat.reduceSub, Nat.reduceEqDiff]
  unfold cls
  generalize b % 9223372036854775808 = z
  repeat' (first | (refine csel_of (fun h => ?_) (fun h => ?_) <;> simp only [h, eES, eEX, Nat.reduceBEq, Int.reduceLE, Int.reduceLT, Int.reduceToNat, Int.reduceEq, ↓reduceIte, reduceCtorEq, Nat.reducePow, Nat.reduceAdd, Nat.reduceLeDiff, Nat.reduceLT, Nat.reduceSub, Nat.reduceEqDiff]) | (refine gsel_t (fun h => ?_) (fun h => ?_) <;> simp only [h, updO, eES, eEX, Nat.reduceBEq, Int.reduceLE, Int.reduceLT, Int.reduceToNat, Int.reduceEq, ↓reduceIte, reduceCtorEq, Nat.reducePow, Nat.reduceAdd, Nat.reduceLeDiff, Nat.reduceLT, Nat.reduceSub, Nat.reduceEqDiff]) | (refine gsel_f (fun h => ?_) (fun h => ?_) <;> simp only [h, updO, eES, eEX, Nat.reduceBEq, Int.reduceLE, Int.reduceLT, Int.reduceToNat, Int.reduceEq, ↓reduceIte, reduceCtorEq, Nat.reducePow, Nat.reduceAdd, Nat.reduceLeDiff, Nat.reduceLT, Nat.reduceSub, Nat.reduceEqDiff]))
  all_goals (simp only [decide_eq_true_eq, decide_eq_false_iff_not, beq_iff_eq, beq_eq_false_iff_ne, ne_eq] at *)
  all_goals ((repeat' split) <;> first | rfl | (exfalso; omega))

theorem and_lo (b : Nat) : b &&& 4503599627370495 = b % 4503599627370496 := Nat.and_two_pow_sub_one_eq_mod b 52
theorem and_hi (b : Nat) : b &&& 9218868437227405312 = (b / 4503599627370496 % 2048) * 4503599627370496 := by
  have h1 : (9218868437227405312 : Nat) = 2047 <<< 52 := by decide
  have h2 : (b / 4503599627370496 % 2048) * 4503599627370496 = (b >>> 52 % 2 ^ 11) <<< 52 := by
    rw [Nat.shiftLeft_eq, Nat.shiftRight_eq_div_pow]
  rw [h1, h2]
  apply Nat.eq_of_testBit_eq
  intro i
  rw [Nat.testBit_and, Nat.testBit_shiftLeft, Nat.testBit_shiftLeft, Nat.testBit_mod_two_pow, Nat.testBit_shiftRight, show (2047 : Nat) = 2 ^ 11 - 1 by decide, Nat.testBit_two_pow_sub_one]
  by_cases h : i ≥ 52
  · rw [show 52 + (i - 52) = i by omega]
    simp [h, Bool.and_comm]
  · simp [h]

theorem x41 (b : Nat) (hb : b < 18446744073709551616) : Fn1 Tryz.prog 41 [.int .u64 (b : Nat)] (.int .i64 (cls b : Nat)) := by
  refine fn1_of_awp (rc := r41) (rs := o41) Tryz.func41 rfl rfl Tryz.ntmps41 k41 q41 (by simp) ?_
  have a1 : bits .and .u64 (b : Int) 9218868437227405312 = (((b / 4503599627370496 % 2048) * 4503599627370496 : Nat) : Int) := by
    have := and_u64 b 9218868437227405312 hb (by decide)
    rw [and_hi] at this
    exact this
  have a2 : bits .and .u64 (b : Int) 4503599627370495 = ((b % 4503599627370496 : Nat) : Int) := by
    have := and_u64 b 4503599627370495 hb (by decide)
    rw [and_lo] at this
    exact this
  simp only [g41_0, g41_1, g41_2, g41_3, g41_4, g41_5, g41_6, g41_7, g41_8, g41_9, g41_10, r41, o41, a1, a2, eES, eEX, Nat.reduceBEq, Int.reduceLE, Int.reduceLT, Int.reduceToNat, Int.reduceEq, ↓reduceIte, reduceCtorEq, Nat.reducePow, Nat.reduceAdd, Nat.reduceLeDiff, Nat.reduceLT, Nat.reduceSub, Nat.reduceEqDiff]
  unfold cls
  repeat' (first | (refine csel_of (fun h => ?_) (fun h => ?_) <;> simp only [h, eES, eEX, Nat.reduceBEq, Int.reduceLE, Int.reduceLT, Int.reduceToNat, Int.reduceEq, ↓reduceIte, reduceCtorEq, Nat.reducePow, Nat.reduceAdd, Nat.reduceLeDiff, Nat.reduceLT, Nat.reduceSub, Nat.reduceEqDiff]) | (refine gsel_t (fun h => ?_) (fun h => ?_) <;> simp only [h, updO, eES, eEX, Nat.reduceBEq, Int.reduceLE, Int.reduceLT, Int.reduceToNat, Int.reduceEq, ↓reduceIte, reduceCtorEq, Nat.reducePow, Nat.reduceAdd, Nat.reduceLeDiff, Nat.reduceLT, Nat.reduceSub, Nat.reduceEqDiff]) | (refine gsel_f (fun h => ?_) (fun h => ?_) <;> simp only [h, updO, eES, eEX, Nat.reduceBEq, Int.reduceLE, Int.reduceLT, Int.reduceToNat, Int.reduceEq, ↓reduceIte, reduceCtorEq, Nat.reducePow, Nat.reduceAdd, Nat.reduceLeDiff, Nat.reduceLT, Nat.reduceSub, Nat.reduceEqDiff]))
  all_goals (simp only [decide_eq_true_eq, decide_eq_false_iff_not, beq_iff_eq, bne_iff_ne, bne_eq_false_iff_eq, beq_eq_false_iff_ne, ne_eq] at *)
  all_goals ((repeat' split) <;> first | rfl | (exfalso; omega))

end Go.Proofs.YtdmbncmbkocjjaaGreat.Va

/- Scalars: what fits, normal forms, comparing. -/
set_option linter.unusedSimpArgs false
namespace Go.Proofs.YtdmbncmbkocjjaaGreat.Va
open Go Am Rc Bt Br Vp

/-- A scalar. -/
def sv (k : Int) (b : Nat) (t : List UInt8) : AV := .agg [.int .i64 k, .int .u64 (b : Nat), .str t, .list [], .list [], .list [], .list []]

/-- The bits of the normal form. -/
def nbits (k : Int) (b : Nat) : Nat := if k = 6 ∧ cls b = 0 then 9221120237041090560 else b

theorem cls0 (b : Nat) : ((cls b : Int) == 0) = decide (cls b = 0) := by
  rw [Bool.eq_iff_iff, beq_iff_eq, decide_eq_true_eq]
  omega

theorem x16 (k : Int) (b : Nat) (hb : b < 18446744073709551616) (t : List UInt8) : Fn1 Tryz.prog 16 [sv k b t] (sv k (nbits k b) t) := by
  refine fn1_of_awp (rc := r16) (rs := o16) Tryz.func16 rfl rfl Tryz.ntmps16 k16 q16 (by simp) ?_
  simp only [g16_0, g16_1, g16_2, g16_3, r16, o16, sv, eES, eEX, Nat.reduceBEq, Int.reduceLE, Int.reduceLT, Int.reduceToNat, Int.reduceEq, ↓reduceIte, reduceCtorEq, Nat.reducePow, Nat.reduceAdd, Nat.reduceLeDiff, Nat.reduceLT, Nat.reduceSub, Nat.reduceEqDiff]
  by_cases hk : k = 6
  · have b0 : (k == 6) = true := by simp [hk]
    simp only [b0, eES, eEX, Nat.reduceBEq, Int.reduceLE, Int.reduceLT, Int.reduceToNat, Int.reduceEq, ↓reduceIte, reduceCtorEq, Nat.reducePow, Nat.reduceAdd, Nat.reduceLeDiff, Nat.reduceLT, Nat.reduceSub, Nat.reduceEqDiff]
    refine aops_call (x41 b hb) rfl rfl rfl (.inl rfl) ?_
    simp only [cls0, eES, eEX, Nat.reduceBEq, Int.reduceLE, Int.reduceLT, Int.reduceToNat, Int.reduceEq, ↓reduceIte, reduceCtorEq, Nat.reducePow, Nat.reduceAdd, Nat.reduceLeDiff, Nat.reduceLT, Nat.reduceSub, Nat.reduceEqDiff]
    by_cases hc : cls b = 0
    · simp only [hc, nbits, hk, decide_true, and_self, splice, List.take_succ_cons, List.take_zero, List.drop_succ_cons, List.drop_zero, List.cons_append, List.nil_append, List.length_cons, List.length_nil, eES, eEX, Nat.reduceBEq, Int.reduceLE, Int.reduceLT, Int.reduceToNat, Int.reduceEq, ↓reduceIte, reduceCtorEq, Nat.reducePow, Nat.reduceAdd, Nat.reduceLeDiff, Nat.reduceLT, Nat.reduceSub, Nat.reduceEqDiff]
      rfl
    · simp only [hc, nbits, decide_false, and_false, eES, eEX, Nat.reduceBEq, Int.reduceLE, Int.reduceLT, Int.reduceToNat, Int.reduceEq, ↓reduceIte, reduceCtorEq, Nat.reducePow, Nat.reduceAdd, Nat.reduceLeDiff, Nat.reduceLT, Nat.reduceSub, Nat.reduceEqDiff]
  · have b0 : (k == 6) = false := by simp [hk]
    simp only [b0, nbits, hk, false_and, eES, eEX, Nat.reduceBEq, Int.reduceLE, Int.reduceLT, Int.reduceToNat, Int.reduceEq, ↓reduceIte, reduceCtorEq, Nat.reducePow, Nat.reduceAdd, Nat.reduceLeDiff, Nat.reduceLT, Nat.reduceSub, Nat.reduceEqDiff]

theorem x23 (k : Int) (b : Nat) (t : List UInt8) : Fn1 Tryz.prog 23 [sv k b t] (sv k (nbits k b) t) := by
  refine fn1_of_awp (rc := r23) (rs := o23) Tryz.func23 rfl rfl Tryz.ntmps23 k23 q23 (by simp) ?_
  simp only [g23_0, g23_1, g23_2, g23_3, r23, o23, sv, eES, eEX, Nat.reduceBEq, Int.reduceLE, Int.reduceLT, Int.reduceToNat, Int.reduceEq, ↓reduceIte, reduceCtorEq, Nat.reducePow, Nat.reduceAdd, Nat.reduceLeDiff, Nat.reduceLT, Nat.reduceSub, Nat.reduceEqDiff]
  by_cases hk : k = 6
  · have b0 : (k == 6) = true := by simp [hk]
    simp only [b0, eES, eEX, Nat.reduceBEq, Int.reduceLE, Int.reduceLT, Int.reduceToNat, Int.reduceEq, ↓reduceIte, reduceCtorEq, Nat.reducePow, Nat.reduceAdd, Nat.reduceLeDiff, Nat.reduceLT, Nat.reduceSub, Nat.reduceEqDiff]
    refine aops_call (x47 b) rfl rfl rfl (.inl rfl) ?_
    simp only [cls0, eES, eEX, Nat.reduceBEq, Int.reduceLE, Int.reduceLT, Int.reduceToNat, Int.reduceEq, ↓reduceIte, reduceCtorEq, Nat.reducePow, Nat.reduceAdd, Nat.reduceLeDiff, Nat.reduceLT, Nat.reduceSub, Nat.reduceEqDiff]
    by_cases hc : cls b = 0
    · simp only [hc, nbits, hk, decide_true, and_self, splice, List.take_succ_cons, List.take_zero, List.drop_succ_cons, List.drop_zero, List.cons_append, List.nil_append, List.length_cons, List.length_nil, eES, eEX, Nat.reduceBEq, Int.reduceLE, Int.reduceLT, Int.reduceToNat, Int.reduceEq, ↓reduceIte, reduceCtorEq, Nat.reducePow, Nat.reduceAdd, Nat.reduceLeDiff, Nat.reduceLT, Nat.reduceSub, Nat.reduceEqDiff]
      rfl
    · simp only [hc, nbits, decide_false, and_false, eES, eEX, Nat.reduceBEq, Int.reduceLE, Int.reduceLT, Int.reduceToNat, Int.reduceEq, ↓reduceIte, reduceCtorEq, Nat.reducePow, Nat.reduceAdd, Nat.reduceLeDiff, Nat.reduceLT, Nat.reduceSub, Nat.reduceEqDiff]
  · have b0 : (k == 6) = false := by simp [hk]
    simp only [b0, nbits, hk, false_and, eES, eEX, Nat.reduceBEq, Int.reduceLE, Int.reduceLT, Int.reduceToNat, Int.reduceEq, ↓reduceIte, reduceCtorEq, Nat.reducePow, Nat.reduceAdd, Nat.reduceLeDiff, Nat.reduceLT, Nat.reduceSub, Nat.reduceEqDiff]

/-- A number fits its kind. -/
def fitn (k : Int) (b : Nat) : Bool :=
  if k = 1 then decide ((b : Int) ≤ 1) else if k = 2 then decide (IntKind.i64.wrap (b : Int) ≥ -2147483648) && decide (IntKind.i64.wrap (b : Int) ≤ 2147483647)
  else if k = 4 then decide ((b : Int) < 4294967296) else if k = 9 then decide ((b : Int) < 2147483648) else true

theorem x45 (k : Int) (b : Nat) (t : List UInt8) : Fn1 Tryz.prog 45 [sv k b t] (.bool true) := by
  refine fn1_of_awp (rc := r45) (rs := o45) Tryz.func45 rfl rfl Tryz.ntmps45 k45 q45 (by simp) ?_
  have b0 : (((0 : Nat) : Int) == 0) = true := rfl
  simp only [g45_0, g45_1, r45, o45, sv, List.length_nil, b0, eES, eEX, Nat.reduceBEq, Int.reduceLE, Int.reduceLT, Int.reduceToNat, Int.reduceEq, ↓reduceIte, reduceCtorEq, Nat.reducePow, Nat.reduceAdd, Nat.reduceLeDiff, Nat.reduceLT, Nat.reduceSub, Nat.reduceEqDiff]

theorem x38 (k : Int) (b : Nat) : Fn1 Tryz.prog 38 [.int .i64 k, .int .u64 (b : Nat)] (.bool (fitn k b)) := by
  have e1 : decide ((b : Int) ≤ 4294967295) = decide ((b : Int) < 4294967296) := by rw [decide_eq_decide]; omega
  have e2 : decide ((b : Int) ≤ 2147483647) = decide ((b : Int) < 2147483648) := by rw [decide_eq_decide]; omega
  refine fn1_of_awp (rc := r38) (rs := o38) Tryz.func38 rfl rfl Tryz.ntmps38 k38 q38 (by simp) ?_
  simp only [g38_0, g38_1, g38_2, g38_3, g38_4, g38_5, g38_6, g38_7, g38_8, g38_9, g38_10, g38_11, r38, o38, eES, eEX, Nat.reduceBEq, Int.reduceLE, Int.reduceLT, Int.reduceToNat, Int.reduceEq, ↓reduceIte, reduceCtorEq, Nat.reducePow, Nat.reduceAdd, Nat.reduceLeDiff, Nat.reduceLT, Nat.reduceSub, Nat.reduceEqDiff]
  unfold fitn
  by_cases h1 : k = 1
  · subst h1
    have b1 : ((1 : Int) == 1) = true := rfl
    simp only [b1, if_true, eES, eEX, Nat.reduceBEq, Int.reduceLE, Int.reduceLT, Int.reduceToNat, Int.reduceEq, ↓reduceIte, reduceCtorEq, Nat.reducePow, Nat.reduceAdd, Nat.reduceLeDiff, Nat.reduceLT, Nat.reduceSub, Nat.reduceEqDiff]
  · have b1 : (k == 1) = false := by simp [h1]
    by_cases h2 : k = 2
    · subst h2
      have b2 : ((2 : Int) == 2) = true := rfl
      simp only [b1, b2, h1, if_false, eES, eEX, Nat.reduceBEq, Int.reduceLE, Int.reduceLT, Int.reduceToNat, Int.reduceEq, ↓reduceIte, reduceCtorEq, Nat.reducePow, Nat.reduceAdd, Nat.reduceLeDiff, Nat.reduceLT, Nat.reduceSub, Nat.reduceEqDiff]
      cases hd : decide (IntKind.i64.wrap (b : Int) ≥ -2147483648) <;> simp only [hd, Bool.true_and, Bool.false_and, eES, eEX, Nat.reduceBEq, Int.reduceLE, Int.reduceLT, Int.reduceToNat, Int.reduceEq, ↓reduceIte, reduceCtorEq, Nat.reducePow, Nat.reduceAdd, Nat.reduceLeDiff, Nat.reduceLT, Nat.reduceSub, Nat.reduceEqDiff]
    · have b2 : (k == 2) = false := by simp [h2]
      by_cases h9 : k = 9
      · subst h9
        have b9 : ((9 : Int) == 9) = true := rfl
        simp only [b1, b2, b9, h1, h2, e2, if_false, eES, eEX, Nat.reduceBEq, Int.reduceLE, Int.reduceLT, Int.reduceToNat, Int.reduceEq, ↓reduceIte, reduceCtorEq, Nat.reducePow, Nat.reduceAdd, Nat.reduceLeDiff, Nat.reduceLT, Nat.reduceSub, Nat.reduceEqDiff]
      · have b9 : (k == 9) = false := by simp [h9]
        by_cases h4 : k = 4
        · subst h4
          have b4 : ((4 : Int) == 4) = true := rfl
          simp only [b1, b2, b9, b4, h1, h2, e1, if_false, eES, eEX, Nat.reduceBEq, Int.reduceLE, Int.reduceLT, Int.reduceToNat, Int.reduceEq, ↓reduceIte, reduceCtorEq, Nat.reducePow, Nat.reduceAdd, Nat.reduceLeDiff, Nat.reduceLT, Nat.reduceSub, Nat.reduceEqDiff]
        · have b4 : (k == 4) = false := by simp [h4]
          simp only [b1, b2, b9, b4, h1, h2, h4, h9, if_false, eES, eEX, Nat.reduceBEq, Int.reduceLE, Int.reduceLT, Int.reduceToNat, Int.reduceEq, ↓reduceIte, reduceCtorEq, Nat.reducePow, Nat.reduceAdd, Nat.reduceLeDiff, Nat.reduceLT, Nat.reduceSub, Nat.reduceEqDiff]

theorem x37 (k : Int) (b : Nat) : Fn1 Tryz.prog 37 [sv k b []] (.bool (!txk k || decide (b = 0))) := by
  refine fn1_of_awp (rc := r37) (rs := o37) Tryz.func37 rfl rfl Tryz.ntmps37 k37 q37 (by simp) ?_
  have b0 : IntKind.i64.wrap ((0 : Nat) + (0 : Nat) : Int) = 0 := rfl
  have b1 : IntKind.i64.wrap ((0 : Int) + (0 : Nat) : Int) = 0 := rfl
  have b2 : decide ((0 : Int) > 0) = false := rfl
  have b3 : ((b : Int) == 0) = decide (b = 0) := by
    rw [Bool.eq_iff_iff, beq_iff_eq, decide_eq_true_eq]
    omega
  simp only [g37_0, g37_1, g37_2, g37_3, g37_4, g37_5, r37, o37, sv, List.length_nil, b0, b1, b2, eES, eEX, Nat.reduceBEq, Int.reduceLE, Int.reduceLT, Int.reduceToNat, Int.reduceEq, ↓reduceIte, reduceCtorEq, Nat.reducePow, Nat.reduceAdd, Nat.reduceLeDiff, Nat.reduceLT, Nat.reduceSub, Nat.reduceEqDiff]
  refine aops_call (x60 k) rfl rfl rfl (.inl rfl) ?_
  cases ht : txk k <;> simp only [b3, astr, Bool.not_true, Bool.not_false, Bool.false_or, Bool.true_or, eES, eEX, Nat.reduceBEq, Int.reduceLE, Int.reduceLT, Int.reduceToNat, Int.reduceEq, ↓reduceIte, reduceCtorEq, Nat.reducePow, Nat.reduceAdd, Nat.reduceLeDiff, Nat.reduceLT, Nat.reduceSub, Nat.reduceEqDiff]
  rfl

end Go.Proofs.YtdmbncmbkocjjaaGreat.Va

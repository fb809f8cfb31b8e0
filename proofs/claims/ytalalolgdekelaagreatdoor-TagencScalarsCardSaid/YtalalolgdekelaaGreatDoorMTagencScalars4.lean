/- Parts of the proof, in order. -/
import Derived.Test.YtalalolgdekelaaGreatDoorMTagencScalars3

/- Names, as the specification examines them: what is known of the answers. -/
set_option linter.unusedSimpArgs false
namespace Go.Proofs.YtalalolgdekelaaGreatDoor.Va
open Go Am Rc Bt

/-- A boolean. -/
def RB (v : AV) : Prop := ∃ b, v = .bool b
theorem rb (b : Bool) : RB (.bool b) = True := eq_true ⟨b, rfl⟩
theorem RB.rf {v : AV} {l : List AV} (h : RB v) : v.rf = true ∧ (AV.rfL l = true ∨ v.nl = true) := by
  obtain ⟨b, rfl⟩ := h
  exact ⟨rfl, .inr rfl⟩

end Go.Proofs.YtalalolgdekelaaGreatDoor.Va

/- Names, as the specification examines them, in parts. -/
set_option linter.unusedSimpArgs false
namespace Go.Proofs.YtalalolgdekelaaGreatDoor.Va
open Go Am Rc Bt

theorem wi64_s (i : Nat) (n : Nat) (h : i < n) (hn : n ≤ maxLen) : IntKind.i64.wrap ((i : Int) + 1) = ((i + 1 : Nat) : Int) := by
  simp only [maxLen] at hn
  rw [wi64]; omega

theorem lt_t {i n : Nat} (h : i < n) : decide ((i : Int) < (n : Int)) = true := by simp; omega
theorem lt_f {i n : Nat} (h : ¬ i < n) : decide ((i : Int) < (n : Int)) = false := by simp; omega
theorem nneg (i : Nat) : (0 ≤ (i : Int)) = True := by simp

def PartI (s : List UInt8) (k : Nat) (st : St) : Prop :=
  ∃ f i, st = ⟨f, [noObs], []⟩ ∧ k = s.length - i ∧ f 0 = .str s ∧ f 3 = .int .i64 (i : Nat)

end Go.Proofs.YtalalolgdekelaaGreatDoor.Va

/- How many values a value has, as the specification counts: what is known of the answer. -/
set_option linter.unusedSimpArgs false
namespace Go.Proofs.YtalalolgdekelaaGreatDoor.Va
open Go Am Rc Bt Br Up

/-- A number. -/
def RI (v : AV) : Prop := ∃ n, v = .int .i64 n
theorem ri (n : Int) : RI (.int .i64 n) = True := eq_true ⟨n, rfl⟩
theorem RI.rf {v : AV} {l : List AV} (h : RI v) : v.rf = true ∧ (AV.rfL l = true ∨ v.nl = true) := by
  obtain ⟨b, rfl⟩ := h
  exact ⟨rfl, .inr rfl⟩

theorem getE {p : AV → Prop} {L : List AV} (h : ∀ x ∈ L, p x) {i : Nat} (hi : i < L.length) : ∃ x, L[i]? = some x ∧ p x :=
  ⟨L[i], List.getElem?_eq_getElem hi, h _ (List.getElem_mem hi)⟩

/-- Seven cells of a value. -/
theorem isV_cells {n : Nat} {c : List AV} (h : IsV n c) : ∃ k b t l p s r, c = [.int .i64 k, .int .u64 b, .str t, .list l, .list p, .list s, .list r] := by
  cases n with
  | zero => exact h.elim
  | succ n =>
    obtain ⟨k, b, t, ls, ps, ss, rs, rfl, _⟩ := h
    exact ⟨_, _, _, _, _, _, _, rfl⟩

def CntI (cs : List AV) (lv : Int) (a len : Nat) (k : Nat) (st : St) : Prop :=
  ∃ f fr i lf, st = ⟨f, [fr], []⟩ ∧ k = len - i ∧ f 3 = .ptr 0 3 0 ∧ fr 3 = .cells cs ∧ f 1 = .int .i64 lv ∧ f 2 = .int .i64 lf ∧ f a = .int .i64 (i : Nat)

theorem c9 : ∀ (n : Nat) (cs : List AV), IsV n cs → ∀ lv lf : Int, Fn? Tryz.prog 9 [.agg cs, .int .i64 lv, .int .i64 lf] RI := by
  intro n
  induction n with
  | zero => intro cs h; exact h.elim
  | succ n ih =>
  intro cs hV lv lf
  obtain ⟨k, b, t, ls, ps, ss, rs, rfl, _, _, _, n3, n4, n5, n6, h3, h4, h5, h6⟩ := hV
  have g3 : ∀ x ∈ ls.map AV.agg, ∃ c, x = .agg c ∧ IsV n c := fun x hx => by
    obtain ⟨c, hc, rfl⟩ := List.mem_map.1 hx
    exact ⟨c, rfl, h3 c hc⟩
  have g4 : ∀ x ∈ ps.map (fun p => AV.agg (p.1 ++ p.2)), ∃ c d, x = .agg (c ++ d) ∧ IsV n c ∧ IsV n d := fun x hx => by
    obtain ⟨c, hc, rfl⟩ := List.mem_map.1 hx
    exact ⟨_, _, rfl, (h4 c hc).1, (h4 c hc).2⟩
  have g5 : ∀ x ∈ ss.map (fun s => AV.agg (.int .i64 s.1 :: s.2)), ∃ m c, x = .agg (.int .i64 m :: c) ∧ IsV n c := fun x hx => by
    obtain ⟨c, hc, rfl⟩ := List.mem_map.1 hx
    exact ⟨_, _, rfl, (h5 c hc).2⟩
  have g6 : ∀ x ∈ rs.map R.av, ∃ r : R, x = r.av := fun x hx => by
    obtain ⟨c, hc, rfl⟩ := List.mem_map.1 hx
    exact ⟨_, rfl⟩
  have l3 : (ls.map AV.agg).length ≤ maxLen := by simpa using n3
  have l4 : (ps.map (fun p => AV.agg (p.1 ++ p.2))).length ≤ maxLen := by simpa using n4
  have l5 : (ss.map (fun s => AV.agg (.int .i64 s.1 :: s.2))).length ≤ maxLen := by simpa using n5
  have l6 : (rs.map R.av).length ≤ maxLen := by simpa using n6
  simp only [vcs]
  generalize ls.map AV.agg = L3 at *
  generalize ps.map (fun p => AV.agg (p.1 ++ p.2)) = L4 at *
  generalize ss.map (fun s => AV.agg (.int .i64 s.1 :: s.2)) = L5 at *
  generalize rs.map R.av = L6 at *
  clear h3 h4 h5 h6 n3 n4 n5 n6
  have next3 : ∀ (f : Fr) (fr : Nat → Ob) (lf : Int), f 3 = .ptr 0 3 0 → fr 3 = .cells [.int .i64 k, .int .u64 b, .str t, .list L3, .list L4, .list L5, .list L6] → f 1 = .int .i64 lv → f 2 = .int .i64 lf → f 8 = .int .i64 0 → ∀ Q : Exit → St → Prop,
      (∀ (f : Fr) (fr : Nat → Ob) (lf : Int), f 3 = .ptr 0 3 0 → fr 3 = .cells [.int .i64 k, .int .u64 b, .str t, .list L3, .list L4, .list L5, .list L6] → f 1 = .int .i64 lv → f 2 = .int .i64 lf → Q (.exit 2) ⟨f, [fr], []⟩) → awp Tryz.prog (.loop l9_1) ⟨f, [fr], []⟩ Q := by
    intro f fr lf f3 m3 f1 f2 f9 Q hQ
    refine awp_loop (CntI [.int .i64 k, .int .u64 b, .str t, .list L3, .list L4, .list L5, .list L6] lv 8 L3.length) _ ⟨_, _, 0, _, rfl, rfl, f3, m3, f1, f2, f9⟩ ?_
    rintro _ st ⟨f, fr, i, lf, rfl, rfl, f3, m3, f1, f2, f9⟩
    simp only [l9_0, l9_1, l9_2, l9_3, g9_0, g9_1, g9_2, g9_3, g9_4, g9_5, g9_6, g9_8, g9_9, g9_7, g9_10, g9_11, g9_13, g9_12, g9_14, g9_15, g9_17, g9_18, g9_19, g9_16, g9_20, g9_21, g9_23, g9_22, g9_24, r9, o9, f3, m3, f1, f2, f9, eES, eEX, Nat.reduceBEq, Int.reduceLE, Int.reduceLT, Int.reduceToNat, Int.reduceEq, ↓reduceIte, reduceCtorEq, Nat.reducePow, Nat.reduceAdd, Nat.reduceLeDiff, Nat.reduceLT, Nat.reduceSub, Nat.reduceEqDiff]
    by_cases hlt : i < L3.length
    · obtain ⟨_, hc, c, rfl, vc⟩ := getE g3 hlt
      have hc1 := ih c vc
      obtain ⟨c1, c2, c3, c4, c5, c6, c7, rfl⟩ := isV_cells vc
      have e1 := wi64_s i _ hlt l3
      simp only [lt_t hlt, nneg, Int.toNat_natCast, aiaddr, hc, f3, m3, f1, f2, f9, e1, eES, eEX, Nat.reduceBEq, Int.reduceLE, Int.reduceLT, Int.reduceToNat, Int.reduceEq, ↓reduceIte, reduceCtorEq, Nat.reducePow, Nat.reduceAdd, Nat.reduceLeDiff, Nat.reduceLT, Nat.reduceSub, Nat.reduceEqDiff]
      repeat' (first | (refine csel_of (fun h => ?_) (fun h => ?_) <;> simp only [h, nneg, Int.toNat_natCast, aiaddr, hc, f3, m3, f1, f2, f9, e1, eES, eEX, Nat.reduceBEq, Int.reduceLE, Int.reduceLT, Int.reduceToNat, Int.reduceEq, ↓reduceIte, reduceCtorEq, Nat.reducePow, Nat.reduceAdd, Nat.reduceLeDiff, Nat.reduceLT, Nat.reduceSub, Nat.reduceEqDiff]) | (refine gsel_t (fun h => ?_) (fun h => ?_) <;> simp only [h, updO, nneg, Int.toNat_natCast, aiaddr, hc, f3, m3, f1, f2, f9, e1, eES, eEX, Nat.reduceBEq, Int.reduceLE, Int.reduceLT, Int.reduceToNat, Int.reduceEq, ↓reduceIte, reduceCtorEq, Nat.reducePow, Nat.reduceAdd, Nat.reduceLeDiff, Nat.reduceLT, Nat.reduceSub, Nat.reduceEqDiff]) | (refine gsel_f (fun h => ?_) (fun h => ?_) <;> simp only [h, updO, nneg, Int.toNat_natCast, aiaddr, hc, f3, m3, f1, f2, f9, e1, eES, eEX, Nat.reduceBEq, Int.reduceLE, Int.reduceLT, Int.reduceToNat, Int.reduceEq, ↓reduceIte, reduceCtorEq, Nat.reducePow, Nat.reduceAdd, Nat.reduceLeDiff, Nat.reduceLT, Nat.reduceSub, Nat.reduceEqDiff]) | ((with_reducible apply aops_callR (k := 9) (R := RI)); (case h2 => exact fun _ h => h.rf); (case hy => rfl); (case h1 => rfl); (case hk => exact hc1 _ _); rintro _ ⟨n, rfl⟩; simp only [nneg, Int.toNat_natCast, aiaddr, hc, f3, m3, f1, f2, f9, e1, eES, eEX, Nat.reduceBEq, Int.reduceLE, Int.reduceLT, Int.reduceToNat, Int.reduceEq, ↓reduceIte, reduceCtorEq, Nat.reducePow, Nat.reduceAdd, Nat.reduceLeDiff, Nat.reduceLT, Nat.reduceSub, Nat.reduceEqDiff]))
      all_goals first
        | exact ⟨L3.length - (i + 1), by omega, _, _, i + 1, _, rfl, rfl, (by first | rfl | exact f3 | simp only [f3, eES, eEX, Nat.reduceBEq, Int.reduceLE, Int.reduceLT, Int.reduceToNat, Int.reduceEq, ↓reduceIte, reduceCtorEq, Nat.reducePow, Nat.reduceAdd, Nat.reduceLeDiff, Nat.reduceLT, Nat.reduceSub, Nat.reduceEqDiff]), (by first | rfl | exact m3 | simp only [m3, eES, eEX, Nat.reduceBEq, Int.reduceLE, Int.reduceLT, Int.reduceToNat, Int.reduceEq, ↓reduceIte, reduceCtorEq, Nat.reducePow, Nat.reduceAdd, Nat.reduceLeDiff, Nat.reduceLT, Nat.reduceSub, Nat.reduceEqDiff]), (by first | rfl | exact f1 | simp only [f1, eES, eEX, Nat.reduceBEq, Int.reduceLE, Int.reduceLT, Int.reduceToNat, Int.reduceEq, ↓reduceIte, reduceCtorEq, Nat.reducePow, Nat.reduceAdd, Nat.reduceLeDiff, Nat.reduceLT, Nat.reduceSub, Nat.reduceEqDiff]), (by first | rfl | exact f2 | simp only [f2, eES, eEX, Nat.reduceBEq, Int.reduceLE, Int.reduceLT, Int.reduceToNat, Int.reduceEq, ↓reduceIte, reduceCtorEq, Nat.reducePow, Nat.reduceAdd, Nat.reduceLeDiff, Nat.reduceLT, Nat.reduceSub, Nat.reduceEqDiff]), (by first | rfl | simp only [eES, eEX, Nat.reduceBEq, Int.reduceLE, Int.reduceLT, Int.reduceToNat, Int.reduceEq, ↓reduceIte, reduceCtorEq, Nat.reducePow, Nat.reduceAdd, Nat.reduceLeDiff, Nat.reduceLT, Nat.reduceSub, Nat.reduceEqDiff])⟩
        | exact hQ _ _ _ (by first | rfl | exact f3 | simp only [f3, eES, eEX, Nat.reduceBEq, Int.reduceLE, Int.reduceLT, Int.reduceToNat, Int.reduceEq, ↓reduceIte, reduceCtorEq, Nat.reducePow, Nat.reduceAdd, Nat.reduceLeDiff, Nat.reduceLT, Nat.reduceSub, Nat.reduceEqDiff]) (by first | rfl | exact m3 | simp only [m3, eES, eEX, Nat.reduceBEq, Int.reduceLE, Int.reduceLT, Int.reduceToNat, Int.reduceEq, ↓reduceIte, reduceCtorEq, Nat.reducePow, Nat.reduceAdd, Nat.reduceLeDiff, Nat.reduceLT, Nat.reduceSub, Nat.reduceEqDiff]) (by first | rfl | exact f1 | simp only [f1, eES, eEX, Nat.reduceBEq, Int.reduceLE, Int.reduceLT, Int.reduceToNat, Int.reduceEq, ↓reduceIte, reduceCtorEq, Nat.reducePow, Nat.reduceAdd, Nat.reduceLeDiff, Nat.reduceLT, Nat.reduceSub, Nat.reduceEqDiff]) (by first | rfl | exact f2 | simp only [f2, eES, eEX, Nat.reduceBEq, Int.reduceLE, Int.reduceLT, Int.reduceToNat, Int.reduceEq, ↓reduceIte, reduceCtorEq, Nat.reducePow, Nat.reduceAdd, Nat.reduceLeDiff, Nat.reduceLT, Nat.reduceSub, Nat.reduceEqDiff])
    · simp only [lt_f hlt, f3, m3, f1, f2, f9, eES, eEX, Nat.reduceBEq, Int.reduceLE, Int.reduceLT, Int.reduceToNat, Int.reduceEq, ↓reduceIte, reduceCtorEq, Nat.reducePow, Nat.reduceAdd, Nat.reduceLeDiff, Nat.reduceLT, Nat.reduceSub, Nat.reduceEqDiff]
      exact hQ _ _ _ (by first | rfl | exact f3 | simp only [f3, eES, eEX, Nat.reduceBEq, Int.reduceLE, Int.reduceLT, Int.reduceToNat, Int.reduceEq, ↓reduceIte, reduceCtorEq, Nat.reducePow, Nat.reduceAdd, Nat.reduceLeDiff, Nat.reduceLT, Nat.reduceSub, Nat.reduceEqDiff]) (by first | rfl | exact m3 | simp only [m3, eES, eEX, Nat.reduceBEq, Int.reduceLE, Int.reduceLT, Int.reduceToNat, Int.reduceEq, ↓reduceIte, reduceCtorEq, Nat.reducePow, Nat.reduceAdd, Nat.reduceLeDiff, Nat.reduceLT, Nat.reduceSub, Nat.reduceEqDiff]) (by first | rfl | exact f1 | simp only [f1, eES, eEX, Nat.reduceBEq, Int.reduceLE, Int.reduceLT, Int.reduceToNat, Int.reduceEq, ↓reduceIte, reduceCtorEq, Nat.reducePow, Nat.reduceAdd, Nat.reduceLeDiff, Nat.reduceLT, Nat.reduceSub, Nat.reduceEqDiff]) (by first | rfl | exact f2 | simp only [f2, eES, eEX, Nat.reduceBEq, Int.reduceLE, Int.reduceLT, Int.reduceToNat, Int.reduceEq, ↓reduceIte, reduceCtorEq, Nat.reducePow, Nat.reduceAdd, Nat.reduceLeDiff, Nat.reduceLT, Nat.reduceSub, Nat.reduceEqDiff])
  have next4 : ∀ (f : Fr) (fr : Nat → Ob) (lf : Int), f 3 = .ptr 0 3 0 → fr 3 = .cells [.int .i64 k, .int .u64 b, .str t, .list L3, .list L4, .list L5, .list L6] → f 1 = .int .i64 lv → f 2 = .int .i64 lf → f 9 = .int .i64 0 → ∀ Q : Exit → St → Prop,
      (∀ (f : Fr) (fr : Nat → Ob) (lf : Int), f 3 = .ptr 0 3 0 → fr 3 = .cells [.int .i64 k, .int .u64 b, .str t, .list L3, .list L4, .list L5, .list L6] → f 1 = .int .i64 lv → f 2 = .int .i64 lf → Q (.exit 4) ⟨f, [fr], []⟩) → awp Tryz.prog (.loop l9_2) ⟨f, [fr], []⟩ Q := by
    intro f fr lf f3 m3 f1 f2 f9 Q hQ
    refine awp_loop (CntI [.int .i64 k, .int .u64 b, .str t, .list L3, .list L4, .list L5, .list L6] lv 9 L4.length) _ ⟨_, _, 0, _, rfl, rfl, f3, m3, f1, f2, f9⟩ ?_
    rintro _ st ⟨f, fr, i, lf, rfl, rfl, f3, m3, f1, f2, f9⟩
    simp only [l9_0, l9_1, l9_2, l9_3, g9_0, g9_1, g9_2, g9_3, g9_4, g9_5, g9_6, g9_8, g9_9, g9_7, g9_10, g9_11, g9_13, g9_12, g9_14, g9_15, g9_17, g9_18, g9_19, g9_16, g9_20, g9_21, g9_23, g9_22, g9_24, r9, o9, f3, m3, f1, f2, f9, eES, eEX, Nat.reduceBEq, Int.reduceLE, Int.reduceLT, Int.reduceToNat, Int.reduceEq, ↓reduceIte, reduceCtorEq, Nat.reducePow, Nat.reduceAdd, Nat.reduceLeDiff, Nat.reduceLT, Nat.reduceSub, Nat.reduceEqDiff]
    by_cases hlt : i < L4.length
    · obtain ⟨_, hc, c, d, rfl, vc, vd⟩ := getE g4 hlt
      have hc1 := ih c vc
      have hd1 := ih d vd
      obtain ⟨c1, c2, c3, c4, c5, c6, c7, rfl⟩ := isV_cells vc
      obtain ⟨d1, d2, d3, d4, d5, d6, d7, rfl⟩ := isV_cells vd
      have e1 := wi64_s i _ hlt l4
      simp only [List.cons_append, List.nil_append] at hc
      simp only [lt_t hlt, nneg, Int.toNat_natCast, aiaddr, hc, f3, m3, f1, f2, f9, e1, eES, eEX, Nat.reduceBEq, Int.reduceLE, Int.reduceLT, Int.reduceToNat, Int.reduceEq, ↓reduceIte, reduceCtorEq, Nat.reducePow, Nat.reduceAdd, Nat.reduceLeDiff, Nat.reduceLT, Nat.reduceSub, Nat.reduceEqDiff]
      repeat' (first | (refine csel_of (fun h => ?_) (fun h => ?_) <;> simp only [h, nneg, Int.toNat_natCast, aiaddr, hc, f3, m3, f1, f2, f9, e1, eES, eEX, Nat.reduceBEq, Int.reduceLE, Int.reduceLT, Int.reduceToNat, Int.reduceEq, ↓reduceIte, reduceCtorEq, Nat.reducePow, Nat.reduceAdd, Nat.reduceLeDiff, Nat.reduceLT, Nat.reduceSub, Nat.reduceEqDiff]) | (refine gsel_t (fun h => ?_) (fun h => ?_) <;> simp only [h, updO, nneg, Int.toNat_natCast, aiaddr, hc, f3, m3, f1, f2, f9, e1, eES, eEX, Nat.reduceBEq, Int.reduceLE, Int.reduceLT, Int.reduceToNat, Int.reduceEq, ↓reduceIte, reduceCtorEq, Nat.reducePow, Nat.reduceAdd, Nat.reduceLeDiff, Nat.reduceLT, Nat.reduceSub, Nat.reduceEqDiff]) | (refine gsel_f (fun h => ?_) (fun h => ?_) <;> simp only [h, updO, nneg, Int.toNat_natCast, aiaddr, hc, f3, m3, f1, f2, f9, e1, eES, eEX, Nat.reduceBEq, Int.reduceLE, Int.reduceLT, Int.reduceToNat, Int.reduceEq, ↓reduceIte, reduceCtorEq, Nat.reducePow, Nat.reduceAdd, Nat.reduceLeDiff, Nat.reduceLT, Nat.reduceSub, Nat.reduceEqDiff]) | ((with_reducible apply aops_callR (k := 9) (R := RI)); (case h2 => exact fun _ h => h.rf); (case hy => rfl); (case h1 => rfl); (case hk => exact hc1 _ _); rintro _ ⟨n, rfl⟩; simp only [nneg, Int.toNat_natCast, aiaddr, hc, f3, m3, f1, f2, f9, e1, eES, eEX, Nat.reduceBEq, Int.reduceLE, Int.reduceLT, Int.reduceToNat, Int.reduceEq, ↓reduceIte, reduceCtorEq, Nat.reducePow, Nat.reduceAdd, Nat.reduceLeDiff, Nat.reduceLT, Nat.reduceSub, Nat.reduceEqDiff]) | ((with_reducible apply aops_callR (k := 9) (R := RI)); (case h2 => exact fun _ h => h.rf); (case hy => rfl); (case h1 => rfl); (case hk => exact hd1 _ _); rintro _ ⟨n, rfl⟩; simp only [nneg, Int.toNat_natCast, aiaddr, hc, f3, m3, f1, f2, f9, e1, eES, eEX, Nat.reduceBEq, Int.reduceLE, Int.reduceLT, Int.reduceToNat, Int.reduceEq, ↓reduceIte, reduceCtorEq, Nat.reducePow, Nat.reduceAdd, Nat.reduceLeDiff, Nat.reduceLT, Nat.reduceSub, Nat.reduceEqDiff]))
      all_goals first
        | exact ⟨L4.length - (i + 1), by omega, _, _, i + 1, _, rfl, rfl, (by first | rfl | exact f3 | simp only [f3, eES, eEX, Nat.reduceBEq, Int.reduceLE, Int.reduceLT, Int.reduceToNat, Int.reduceEq, ↓reduceIte, reduceCtorEq, Nat.reducePow, Nat.reduceAdd, Nat.reduceLeDiff, Nat.reduceLT, Nat.reduceSub, Nat.reduceEqDiff]), (by first | rfl | exact m3 | simp only [m3, eES, eEX, Nat.reduceBEq, Int.reduceLE, Int.reduceLT, Int.reduceToNat, Int.reduceEq, ↓reduceIte, reduceCtorEq, Nat.reducePow, Nat.reduceAdd, Nat.reduceLeDiff, Nat.reduceLT, Nat.reduceSub, Nat.reduceEqDiff]), (by first | rfl | exact f1 | simp only [f1, eES, eEX, Nat.reduceBEq, Int.reduceLE, Int.reduceLT, Int.reduceToNat, Int.reduceEq, ↓reduceIte, reduceCtorEq, Nat.reducePow, Nat.reduceAdd, Nat.reduceLeDiff, Nat.reduceLT, Nat.reduceSub, Nat.reduceEqDiff]), (by first | rfl | exact f2 | simp only [f2, eES, eEX, Nat.reduceBEq, Int.reduceLE, Int.reduceLT, Int.reduceToNat, Int.reduceEq, ↓reduceIte, reduceCtorEq, Nat.reducePow, Nat.reduceAdd, Nat.reduceLeDiff, Nat.reduceLT, Nat.reduceSub, Nat.reduceEqDiff]), (by first | rfl | simp only [eES, eEX, Nat.reduceBEq, Int.reduceLE, Int.reduceLT, Int.reduceToNat, Int.reduceEq, ↓reduceIte, reduceCtorEq, Nat.reducePow, Nat.reduceAdd, Nat.reduceLeDiff, Nat.reduceLT, Nat.reduceSub, Nat.reduceEqDiff])⟩
        | exact hQ _ _ _ (by first | rfl | exact f3 | simp only [f3, eES, eEX, Nat.reduceBEq, Int.reduceLE, Int.reduceLT, Int.reduceToNat, Int.reduceEq, ↓reduceIte, reduceCtorEq, Nat.reducePow, Nat.reduceAdd, Nat.reduceLeDiff, Nat.reduceLT, Nat.reduceSub, Nat.reduceEqDiff]) (by first | rfl | exact m3 | simp only [m3, eES, eEX, Nat.reduceBEq, Int.reduceLE, Int.reduceLT, Int.reduceToNat, Int.reduceEq, ↓reduceIte, reduceCtorEq, Nat.reducePow, Nat.reduceAdd, Nat.reduceLeDiff, Nat.reduceLT, Nat.reduceSub, Nat.reduceEqDiff]) (by first | rfl | exact f1 | simp only [f1, eES, eEX, Nat.reduceBEq, Int.reduceLE, Int.reduceLT, Int.reduceToNat, Int.reduceEq, ↓reduceIte, reduceCtorEq, Nat.reducePow, Nat.reduceAdd, Nat.reduceLeDiff, Nat.reduceLT, Nat.reduceSub, Nat.reduceEqDiff]) (by first | rfl | exact f2 | simp only [f2, eES, eEX, Nat.reduceBEq, Int.reduceLE, Int.reduceLT, Int.reduceToNat, Int.reduceEq, ↓reduceIte, reduceCtorEq, Nat.reducePow, Nat.reduceAdd, Nat.reduceLeDiff, Nat.reduceLT, Nat.reduceSub, Nat.reduceEqDiff])
    · simp only [lt_f hlt, f3, m3, f1, f2, f9, eES, eEX, Nat.reduceBEq, Int.reduceLE, Int.reduceLT, Int.reduceToNat, Int.reduceEq, ↓reduceIte, reduceCtorEq, Nat.reducePow, Nat.reduceAdd, Nat.reduceLeDiff, Nat.reduceLT, Nat.reduceSub, Nat.reduceEqDiff]
      exact hQ _ _ _ (by first | rfl | exact f3 | simp only [f3, eES, eEX, Nat.reduceBEq, Int.reduceLE, Int.reduceLT, Int.reduceToNat, Int.reduceEq, ↓reduceIte, reduceCtorEq, Nat.reducePow, Nat.reduceAdd, Nat.reduceLeDiff, Nat.reduceLT, Nat.reduceSub, Nat.reduceEqDiff]) (by first | rfl | exact m3 | simp only [m3, eES, eEX, Nat.reduceBEq, Int.reduceLE, Int.reduceLT, Int.reduceToNat, Int.reduceEq, ↓reduceIte, reduceCtorEq, Nat.reducePow, Nat.reduceAdd, Nat.reduceLeDiff, Nat.reduceLT, Nat.reduceSub, Nat.reduceEqDiff]) (by first | rfl | exact f1 | simp only [f1, eES, eEX, Nat.reduceBEq, Int.reduceLE, Int.reduceLT, Int.reduceToNat, Int.reduceEq, ↓reduceIte, reduceCtorEq, Nat.reducePow, Nat.reduceAdd, Nat.reduceLeDiff, Nat.reduceLT, Nat.reduceSub, Nat.reduceEqDiff]) (by first | rfl | exact f2 | simp only [f2, eES, eEX, Nat.reduceBEq, Int.reduceLE, Int.reduceLT, Int.reduceToNat, Int.reduceEq, ↓reduceIte, reduceCtorEq, Nat.reducePow, Nat.reduceAdd, Nat.reduceLeDiff, Nat.reduceLT, Nat.reduceSub, Nat.reduceEqDiff])
  have next5 : ∀ (f : Fr) (fr : Nat → Ob) (lf : Int), f 3 = .ptr 0 3 0 → fr 3 = .cells [.int .i64 k, .int .u64 b, .str t, .list L3, .list L4, .list L5, .list L6] → f 1 = .int .i64 lv → f 2 = .int .i64 lf → f 10 = .int .i64 0 → ∀ Q : Exit → St → Prop,
      (∀ (f : Fr) (fr : Nat → Ob) (lf : Int), f 3 = .ptr 0 3 0 → fr 3 = .cells [.int .i64 k, .int .u64 b, .str t, .list L3, .list L4, .list L5, .list L6] → f 1 = .int .i64 lv → f 2 = .int .i64 lf → Q (.exit 6) ⟨f, [fr], []⟩) → awp Tryz.prog (.loop l9_3) ⟨f, [fr], []⟩ Q := by
    intro f fr lf f3 m3 f1 f2 f9 Q hQ
    refine awp_loop (CntI [.int .i64 k, .int .u64 b, .str t, .list L3, .list L4, .list L5, .list L6] lv 10 L5.length) _ ⟨_, _, 0, _, rfl, rfl, f3, m3, f1, f2, f9⟩ ?_
    rintro _ st ⟨f, fr, i, lf, rfl, rfl, f3, m3, f1, f2, f9⟩
    simp only [l9_0, l9_1, l9_2, l9_3, g9_0, g9_1, g9_2, g9_3, g9_4, g9_5, g9_6, g9_8, g9_9, g9_7, g9_10, g9_11, g9_13, g9_12, g9_14, g9_15, g9_17, g9_18, g9_19, g9_16, g9_20, g9_21, g9_23, g9_22, g9_24, r9, o9, f3, m3, f1, f2, f9, eES, eEX, Nat.reduceBEq, Int.reduceLE, Int.reduceLT, Int.reduceToNat, Int.reduceEq, ↓reduceIte, reduceCtorEq, Nat.reducePow, Nat.reduceAdd, Nat.reduceLeDiff, Nat.reduceLT, Nat.reduceSub, Nat.reduceEqDiff]
    by_cases hlt : i < L5.length
    · obtain ⟨_, hc, m, c, rfl, vc⟩ := getE g5 hlt
      have hc1 := ih c vc
      obtain ⟨c1, c2, c3, c4, c5, c6, c7, rfl⟩ := isV_cells vc
      have e1 := wi64_s i _ hlt l5
      simp only [lt_t hlt, nneg, Int.toNat_natCast, aiaddr, hc, f3, m3, f1, f2, f9, e1, eES, eEX, Nat.reduceBEq, Int.reduceLE, Int.reduceLT, Int.reduceToNat, Int.reduceEq, ↓reduceIte, reduceCtorEq, Nat.reducePow, Nat.reduceAdd, Nat.reduceLeDiff, Nat.reduceLT, Nat.reduceSub, Nat.reduceEqDiff]
      repeat' (first | (refine csel_of (fun h => ?_) (fun h => ?_) <;> simp only [h, nneg, Int.toNat_natCast, aiaddr, hc, f3, m3, f1, f2, f9, e1, eES, eEX, Nat.reduceBEq, Int.reduceLE, Int.reduceLT, Int.reduceToNat, Int.reduceEq, ↓reduceIte, reduceCtorEq, Nat.reducePow, Nat.reduceAdd, Nat.reduceLeDiff, Nat.reduceLT, Nat.reduceSub, Nat.reduceEqDiff]) | (refine gsel_t (fun h => ?_) (fun h => ?_) <;> simp only [h, updO, nneg, Int.toNat_natCast, aiaddr, hc, f3, m3, f1, f2, f9, e1, eES, eEX, Nat.reduceBEq, Int.reduceLE, Int.reduceLT, Int.reduceToNat, Int.reduceEq, ↓reduceIte, reduceCtorEq, Nat.reducePow, Nat.reduceAdd, Nat.reduceLeDiff, Nat.reduceLT, Nat.reduceSub, Nat.reduceEqDiff]) | (refine gsel_f (fun h => ?_) (fun h => ?_) <;> simp only [h, updO, nneg, Int.toNat_natCast, aiaddr, hc, f3, m3, f1, f2, f9, e1, eES, eEX, Nat.reduceBEq, Int.reduceLE, Int.reduceLT, Int.reduceToNat, Int.reduceEq, ↓reduceIte, reduceCtorEq, Nat.reducePow, Nat.reduceAdd, Nat.reduceLeDiff, Nat.reduceLT, Nat.reduceSub, Nat.reduceEqDiff]) | ((with_reducible apply aops_callR (k := 9) (R := RI)); (case h2 => exact fun _ h => h.rf); (case hy => rfl); (case h1 => rfl); (case hk => exact hc1 _ _); rintro _ ⟨n, rfl⟩; simp only [nneg, Int.toNat_natCast, aiaddr, hc, f3, m3, f1, f2, f9, e1, eES, eEX, Nat.reduceBEq, Int.reduceLE, Int.reduceLT, Int.reduceToNat, Int.reduceEq, ↓reduceIte, reduceCtorEq, Nat.reducePow, Nat.reduceAdd, Nat.reduceLeDiff, Nat.reduceLT, Nat.reduceSub, Nat.reduceEqDiff]))
      all_goals first
        | exact ⟨L5.length - (i + 1), by omega, _, _, i + 1, _, rfl, rfl, (by first | rfl | exact f3 | simp only [f3, eES, eEX, Nat.reduceBEq, Int.reduceLE, Int.reduceLT, Int.reduceToNat, Int.reduceEq, ↓reduceIte, reduceCtorEq, Nat.reducePow, Nat.reduceAdd, Nat.reduceLeDiff, Nat.reduceLT, Nat.reduceSub, Nat.reduceEqDiff]), (by first | rfl | exact m3 | simp only [m3, eES, eEX, Nat.reduceBEq, Int.reduceLE, Int.reduceLT, Int.reduceToNat, Int.reduceEq, ↓reduceIte, reduceCtorEq, Nat.reducePow, Nat.reduceAdd, Nat.reduceLeDiff, Nat.reduceLT, Nat.reduceSub, Nat.reduceEqDiff]), (by first | rfl | exact f1 | simp only [f1, eES, eEX, Nat.reduceBEq, Int.reduceLE, Int.reduceLT, Int.reduceToNat, Int.reduceEq, ↓reduceIte, reduceCtorEq, Nat.reducePow, Nat.reduceAdd, Nat.reduceLeDiff, Nat.reduceLT, Nat.reduceSub, Nat.reduceEqDiff]), (by first | rfl | exact f2 | simp only [f2, eES, eEX, Nat.reduceBEq, Int.reduceLE, Int.reduceLT, Int.reduceToNat, Int.reduceEq, ↓reduceIte, reduceCtorEq, Nat.reducePow, Nat.reduceAdd, Nat.reduceLeDiff, Nat.reduceLT, Nat.reduceSub, Nat.reduceEqDiff]), (by first | rfl | simp only [eES, eEX, Nat.reduceBEq, Int.reduceLE, Int.reduceLT, Int.reduceToNat, Int.reduceEq, ↓reduceIte, reduceCtorEq, Nat.reducePow, Nat.reduceAdd, Nat.reduceLeDiff, Nat.reduceLT, Nat.reduceSub, Nat.reduceEqDiff])⟩
        | exact hQ _ _ _ (by first | rfl | exact f3 | simp only [f3, eES, eEX, Nat.reduceBEq, Int.reduceLE, Int.reduceLT, Int.reduceToNat, Int.reduceEq, ↓reduceIte, reduceCtorEq, Nat.reducePow, Nat.reduceAdd, Nat.reduceLeDiff, Nat.reduceLT, Nat.reduceSub, Nat.reduceEqDiff]) (by first | rfl | exact m3 | simp only [m3, eES, eEX, Nat.reduceBEq, Int.reduceLE, Int.reduceLT, Int.reduceToNat, Int.reduceEq, ↓reduceIte, reduceCtorEq, Nat.reducePow, Nat.reduceAdd, Nat.reduceLeDiff, Nat.reduceLT, Nat.reduceSub, Nat.reduceEqDiff]) (by first | rfl | exact f1 | simp only [f1, eES, eEX, Nat.reduceBEq, Int.reduceLE, Int.reduceLT, Int.reduceToNat, Int.reduceEq, ↓reduceIte, reduceCtorEq, Nat.reducePow, Nat.reduceAdd, Nat.reduceLeDiff, Nat.reduceLT, Nat.reduceSub, Nat.reduceEqDiff]) (by first | rfl | exact f2 | simp only [f2, eES, eEX, Nat.reduceBEq, Int.reduceLE, Int.reduceLT, Int.reduceToNat, Int.reduceEq, ↓reduceIte, reduceCtorEq, Nat.reducePow, Nat.reduceAdd, Nat.reduceLeDiff, Nat.reduceLT, Nat.reduceSub, Nat.reduceEqDiff])
    · simp only [lt_f hlt, f3, m3, f1, f2, f9, eES, eEX, Nat.reduceBEq, Int.reduceLE, Int.reduceLT, Int.reduceToNat, Int.reduceEq, ↓reduceIte, reduceCtorEq, Nat.reducePow, Nat.reduceAdd, Nat.reduceLeDiff, Nat.reduceLT, Nat.reduceSub, Nat.reduceEqDiff]
      exact hQ _ _ _ (by first | rfl | exact f3 | simp only [f3, eES, eEX, Nat.reduceBEq, Int.reduceLE, Int.reduceLT, Int.reduceToNat, Int.reduceEq, ↓reduceIte, reduceCtorEq, Nat.reducePow, Nat.reduceAdd, Nat.reduceLeDiff, Nat.reduceLT, Nat.reduceSub, Nat.reduceEqDiff]) (by first | rfl | exact m3 | simp only [m3, eES, eEX, Nat.reduceBEq, Int.reduceLE, Int.reduceLT, Int.reduceToNat, Int.reduceEq, ↓reduceIte, reduceCtorEq, Nat.reducePow, Nat.reduceAdd, Nat.reduceLeDiff, Nat.reduceLT, Nat.reduceSub, Nat.reduceEqDiff]) (by first | rfl | exact f1 | simp only [f1, eES, eEX, Nat.reduceBEq, Int.reduceLE, Int.reduceLT, Int.reduceToNat, Int.reduceEq, ↓reduceIte, reduceCtorEq, Nat.reducePow, Nat.reduceAdd, Nat.reduceLeDiff, Nat.reduceLT, Nat.reduceSub, Nat.reduceEqDiff]) (by first | rfl | exact f2 | simp only [f2, eES, eEX, Nat.reduceBEq, Int.reduceLE, Int.reduceLT, Int.reduceToNat, Int.reduceEq, ↓reduceIte, reduceCtorEq, Nat.reducePow, Nat.reduceAdd, Nat.reduceLeDiff, Nat.reduceLT, Nat.reduceSub, Nat.reduceEqDiff])
  refine fnR_of_awp (rc := r9) (rs := o9) Tryz.func9 rfl rfl Tryz.ntmps9 k9 q9 (by simp) ?_
  simp only [g9_0, g9_1, g9_2, g9_3, g9_4, g9_5, g9_6, g9_8, g9_9, g9_7, g9_10, g9_11, g9_13, g9_12, g9_14, g9_15, g9_17, g9_18, g9_19, g9_16, g9_20, g9_21, g9_23, g9_22, g9_24, r9, o9, eES, eEX, Nat.reduceBEq, Int.reduceLE, Int.reduceLT, Int.reduceToNat, Int.reduceEq, ↓reduceIte, reduceCtorEq, Nat.reducePow, Nat.reduceAdd, Nat.reduceLeDiff, Nat.reduceLT, Nat.reduceSub, Nat.reduceEqDiff]
  repeat' (first | (refine csel_of (fun h => ?_) (fun h => ?_) <;> simp only [h, ri, eES, eEX, Nat.reduceBEq, Int.reduceLE, Int.reduceLT, Int.reduceToNat, Int.reduceEq, ↓reduceIte, reduceCtorEq, Nat.reducePow, Nat.reduceAdd, Nat.reduceLeDiff, Nat.reduceLT, Nat.reduceSub, Nat.reduceEqDiff]) | (refine gsel_t (fun h => ?_) (fun h => ?_) <;> simp only [h, updO, ri, eES, eEX, Nat.reduceBEq, Int.reduceLE, Int.reduceLT, Int.reduceToNat, Int.reduceEq, ↓reduceIte, reduceCtorEq, Nat.reducePow, Nat.reduceAdd, Nat.reduceLeDiff, Nat.reduceLT, Nat.reduceSub, Nat.reduceEqDiff]) | (refine gsel_f (fun h => ?_) (fun h => ?_) <;> simp only [h, updO, ri, eES, eEX, Nat.reduceBEq, Int.reduceLE, Int.reduceLT, Int.reduceToNat, Int.reduceEq, ↓reduceIte, reduceCtorEq, Nat.reducePow, Nat.reduceAdd, Nat.reduceLeDiff, Nat.reduceLT, Nat.reduceSub, Nat.reduceEqDiff]))
  refine awp_loop (CntI [.int .i64 k, .int .u64 b, .str t, .list L3, .list L4, .list L5, .list L6] lv 7 L6.length) _ ⟨_, _, 0, _, rfl, rfl, (by first | rfl | simp only [eES, eEX, Nat.reduceBEq, Int.reduceLE, Int.reduceLT, Int.reduceToNat, Int.reduceEq, ↓reduceIte, reduceCtorEq, Nat.reducePow, Nat.reduceAdd, Nat.reduceLeDiff, Nat.reduceLT, Nat.reduceSub, Nat.reduceEqDiff]), (by first | rfl | simp only [eES, eEX, Nat.reduceBEq, Int.reduceLE, Int.reduceLT, Int.reduceToNat, Int.reduceEq, ↓reduceIte, reduceCtorEq, Nat.reducePow, Nat.reduceAdd, Nat.reduceLeDiff, Nat.reduceLT, Nat.reduceSub, Nat.reduceEqDiff]), (by first | rfl | simp only [eES, eEX, Nat.reduceBEq, Int.reduceLE, Int.reduceLT, Int.reduceToNat, Int.reduceEq, ↓reduceIte, reduceCtorEq, Nat.reducePow, Nat.reduceAdd, Nat.reduceLeDiff, Nat.reduceLT, Nat.reduceSub, Nat.reduceEqDiff]), (by first | rfl | simp only [eES, eEX, Nat.reduceBEq, Int.reduceLE, Int.reduceLT, Int.reduceToNat, Int.reduceEq, ↓reduceIte, reduceCtorEq, Nat.reducePow, Nat.reduceAdd, Nat.reduceLeDiff, Nat.reduceLT, Nat.reduceSub, Nat.reduceEqDiff]), (by first | rfl | simp only [eES, eEX, Nat.reduceBEq, Int.reduceLE, Int.reduceLT, Int.reduceToNat, Int.reduceEq, ↓reduceIte, reduceCtorEq, Nat.reducePow, Nat.reduceAdd, Nat.reduceLeDiff, Nat.reduceLT, Nat.reduceSub, Nat.reduceEqDiff])⟩ ?_
  rintro _ st ⟨f, fr, i, lf, rfl, rfl, f3, m3, f1, f2, f7⟩
  simp only [l9_0, g9_0, g9_1, g9_2, g9_3, g9_4, g9_5, g9_6, g9_8, g9_9, g9_7, g9_10, g9_11, g9_13, g9_12, g9_14, g9_15, g9_17, g9_18, g9_19, g9_16, g9_20, g9_21, g9_23, g9_22, g9_24, r9, o9, f3, m3, f1, f2, f7, eES, eEX, Nat.reduceBEq, Int.reduceLE, Int.reduceLT, Int.reduceToNat, Int.reduceEq, ↓reduceIte, reduceCtorEq, Nat.reducePow, Nat.reduceAdd, Nat.reduceLeDiff, Nat.reduceLT, Nat.reduceSub, Nat.reduceEqDiff]
  by_cases hlt : i < L6.length
  · obtain ⟨_, hc, r, rfl⟩ := getE g6 hlt
    have e1 := wi64_s i _ hlt l6
    simp only [lt_t hlt, R.av, nneg, Int.toNat_natCast, aiaddr, hc, f3, m3, f1, f2, f7, e1, eES, eEX, Nat.reduceBEq, Int.reduceLE, Int.reduceLT, Int.reduceToNat, Int.reduceEq, ↓reduceIte, reduceCtorEq, Nat.reducePow, Nat.reduceAdd, Nat.reduceLeDiff, Nat.reduceLT, Nat.reduceSub, Nat.reduceEqDiff]
    repeat' (first | (refine csel_of (fun h => ?_) (fun h => ?_) <;> simp only [h, f3, m3, f1, f2, f7, e1, ri, eES, eEX, Nat.reduceBEq, Int.reduceLE, Int.reduceLT, Int.reduceToNat, Int.reduceEq, ↓reduceIte, reduceCtorEq, Nat.reducePow, Nat.reduceAdd, Nat.reduceLeDiff, Nat.reduceLT, Nat.reduceSub, Nat.reduceEqDiff]) | (refine gsel_t (fun h => ?_) (fun h => ?_) <;> simp only [h, updO, f3, m3, f1, f2, f7, e1, ri, eES, eEX, Nat.reduceBEq, Int.reduceLE, Int.reduceLT, Int.reduceToNat, Int.reduceEq, ↓reduceIte, reduceCtorEq, Nat.reducePow, Nat.reduceAdd, Nat.reduceLeDiff, Nat.reduceLT, Nat.reduceSub, Nat.reduceEqDiff]) | (refine gsel_f (fun h => ?_) (fun h => ?_) <;> simp only [h, updO, f3, m3, f1, f2, f7, e1, ri, eES, eEX, Nat.reduceBEq, Int.reduceLE, Int.reduceLT, Int.reduceToNat, Int.reduceEq, ↓reduceIte, reduceCtorEq, Nat.reducePow, Nat.reduceAdd, Nat.reduceLeDiff, Nat.reduceLT, Nat.reduceSub, Nat.reduceEqDiff]))
    exact ⟨L6.length - (i + 1), by omega, _, _, i + 1, _, rfl, rfl, (by first | rfl | exact f3 | simp only [f3, eES, eEX, Nat.reduceBEq, Int.reduceLE, Int.reduceLT, Int.reduceToNat, Int.reduceEq, ↓reduceIte, reduceCtorEq, Nat.reducePow, Nat.reduceAdd, Nat.reduceLeDiff, Nat.reduceLT, Nat.reduceSub, Nat.reduceEqDiff]), (by first | rfl | exact m3 | simp only [m3, eES, eEX, Nat.reduceBEq, Int.reduceLE, Int.reduceLT, Int.reduceToNat, Int.reduceEq, ↓reduceIte, reduceCtorEq, Nat.reducePow, Nat.reduceAdd, Nat.reduceLeDiff, Nat.reduceLT, Nat.reduceSub, Nat.reduceEqDiff]), (by first | rfl | exact f1 | simp only [f1, eES, eEX, Nat.reduceBEq, Int.reduceLE, Int.reduceLT, Int.reduceToNat, Int.reduceEq, ↓reduceIte, reduceCtorEq, Nat.reducePow, Nat.reduceAdd, Nat.reduceLeDiff, Nat.reduceLT, Nat.reduceSub, Nat.reduceEqDiff]), (by first | rfl | exact f2 | simp only [f2, eES, eEX, Nat.reduceBEq, Int.reduceLE, Int.reduceLT, Int.reduceToNat, Int.reduceEq, ↓reduceIte, reduceCtorEq, Nat.reducePow, Nat.reduceAdd, Nat.reduceLeDiff, Nat.reduceLT, Nat.reduceSub, Nat.reduceEqDiff]), (by first | rfl | simp only [eES, eEX, Nat.reduceBEq, Int.reduceLE, Int.reduceLT, Int.reduceToNat, Int.reduceEq, ↓reduceIte, reduceCtorEq, Nat.reducePow, Nat.reduceAdd, Nat.reduceLeDiff, Nat.reduceLT, Nat.reduceSub, Nat.reduceEqDiff])⟩
  simp only [lt_f hlt, f3, m3, f1, f2, f7, eES, eEX, Nat.reduceBEq, Int.reduceLE, Int.reduceLT, Int.reduceToNat, Int.reduceEq, ↓reduceIte, reduceCtorEq, Nat.reducePow, Nat.reduceAdd, Nat.reduceLeDiff, Nat.reduceLT, Nat.reduceSub, Nat.reduceEqDiff]
  clear hlt f7
  refine next3 _ _ _ (by first | rfl | exact f3 | simp only [f3, eES, eEX, Nat.reduceBEq, Int.reduceLE, Int.reduceLT, Int.reduceToNat, Int.reduceEq, ↓reduceIte, reduceCtorEq, Nat.reducePow, Nat.reduceAdd, Nat.reduceLeDiff, Nat.reduceLT, Nat.reduceSub, Nat.reduceEqDiff]) (by first | rfl | exact m3 | simp only [m3, eES, eEX, Nat.reduceBEq, Int.reduceLE, Int.reduceLT, Int.reduceToNat, Int.reduceEq, ↓reduceIte, reduceCtorEq, Nat.reducePow, Nat.reduceAdd, Nat.reduceLeDiff, Nat.reduceLT, Nat.reduceSub, Nat.reduceEqDiff]) (by first | rfl | exact f1 | simp only [f1, eES, eEX, Nat.reduceBEq, Int.reduceLE, Int.reduceLT, Int.reduceToNat, Int.reduceEq, ↓reduceIte, reduceCtorEq, Nat.reducePow, Nat.reduceAdd, Nat.reduceLeDiff, Nat.reduceLT, Nat.reduceSub, Nat.reduceEqDiff]) (by first | rfl | exact f2 | simp only [f2, eES, eEX, Nat.reduceBEq, Int.reduceLE, Int.reduceLT, Int.reduceToNat, Int.reduceEq, ↓reduceIte, reduceCtorEq, Nat.reducePow, Nat.reduceAdd, Nat.reduceLeDiff, Nat.reduceLT, Nat.reduceSub, Nat.reduceEqDiff]) (by first | rfl | simp only [eES, eEX, Nat.reduceBEq, Int.reduceLE, Int.reduceLT, Int.reduceToNat, Int.reduceEq, ↓reduceIte, reduceCtorEq, Nat.reducePow, Nat.reduceAdd, Nat.reduceLeDiff, Nat.reduceLT, Nat.reduceSub, Nat.reduceEqDiff]) _ (fun f fr lf f3 m3 f1 f2 => ?_)
  simp only [f3, m3, f1, f2, eES, eEX, Nat.reduceBEq, Int.reduceLE, Int.reduceLT, Int.reduceToNat, Int.reduceEq, ↓reduceIte, reduceCtorEq, Nat.reducePow, Nat.reduceAdd, Nat.reduceLeDiff, Nat.reduceLT, Nat.reduceSub, Nat.reduceEqDiff]
  refine next4 _ _ _ (by first | rfl | exact f3 | simp only [f3, eES, eEX, Nat.reduceBEq, Int.reduceLE, Int.reduceLT, Int.reduceToNat, Int.reduceEq, ↓reduceIte, reduceCtorEq, Nat.reducePow, Nat.reduceAdd, Nat.reduceLeDiff, Nat.reduceLT, Nat.reduceSub, Nat.reduceEqDiff]) (by first | rfl | exact m3 | simp only [m3, eES, eEX, Nat.reduceBEq, Int.reduceLE, Int.reduceLT, Int.reduceToNat, Int.reduceEq, ↓reduceIte, reduceCtorEq, Nat.reducePow, Nat.reduceAdd, Nat.reduceLeDiff, Nat.reduceLT, Nat.reduceSub, Nat.reduceEqDiff]) (by first | rfl | exact f1 | simp only [f1, eES, eEX, Nat.reduceBEq, Int.reduceLE, Int.reduceLT, Int.reduceToNat, Int.reduceEq, ↓reduceIte, reduceCtorEq, Nat.reducePow, Nat.reduceAdd, Nat.reduceLeDiff, Nat.reduceLT, Nat.reduceSub, Nat.reduceEqDiff]) (by first | rfl | exact f2 | simp only [f2, eES, eEX, Nat.reduceBEq, Int.reduceLE, Int.reduceLT, Int.reduceToNat, Int.reduceEq, ↓reduceIte, reduceCtorEq, Nat.reducePow, Nat.reduceAdd, Nat.reduceLeDiff, Nat.reduceLT, Nat.reduceSub, Nat.reduceEqDiff]) (by first | rfl | simp only [eES, eEX, Nat.reduceBEq, Int.reduceLE, Int.reduceLT, Int.reduceToNat, Int.reduceEq, ↓reduceIte, reduceCtorEq, Nat.reducePow, Nat.reduceAdd, Nat.reduceLeDiff, Nat.reduceLT, Nat.reduceSub, Nat.reduceEqDiff]) _ (fun f fr lf f3 m3 f1 f2 => ?_)
  simp only [f3, m3, f1, f2, eES, eEX, Nat.reduceBEq, Int.reduceLE, Int.reduceLT, Int.reduceToNat, Int.reduceEq, ↓reduceIte, reduceCtorEq, Nat.reducePow, Nat.reduceAdd, Nat.reduceLeDiff, Nat.reduceLT, Nat.reduceSub, Nat.reduceEqDiff]
  refine next5 _ _ _ (by first | rfl | exact f3 | simp only [f3, eES, eEX, Nat.reduceBEq, Int.reduceLE, Int.reduceLT, Int.reduceToNat, Int.reduceEq, ↓reduceIte, reduceCtorEq, Nat.reducePow, Nat.reduceAdd, Nat.reduceLeDiff, Nat.reduceLT, Nat.reduceSub, Nat.reduceEqDiff]) (by first | rfl | exact m3 | simp only [m3, eES, eEX, Nat.reduceBEq, Int.reduceLE, Int.reduceLT, Int.reduceToNat, Int.reduceEq, ↓reduceIte, reduceCtorEq, Nat.reducePow, Nat.reduceAdd, Nat.reduceLeDiff, Nat.reduceLT, Nat.reduceSub, Nat.reduceEqDiff]) (by first | rfl | exact f1 | simp only [f1, eES, eEX, Nat.reduceBEq, Int.reduceLE, Int.reduceLT, Int.reduceToNat, Int.reduceEq, ↓reduceIte, reduceCtorEq, Nat.reducePow, Nat.reduceAdd, Nat.reduceLeDiff, Nat.reduceLT, Nat.reduceSub, Nat.reduceEqDiff]) (by first | rfl | exact f2 | simp only [f2, eES, eEX, Nat.reduceBEq, Int.reduceLE, Int.reduceLT, Int.reduceToNat, Int.reduceEq, ↓reduceIte, reduceCtorEq, Nat.reducePow, Nat.reduceAdd, Nat.reduceLeDiff, Nat.reduceLT, Nat.reduceSub, Nat.reduceEqDiff]) (by first | rfl | simp only [eES, eEX, Nat.reduceBEq, Int.reduceLE, Int.reduceLT, Int.reduceToNat, Int.reduceEq, ↓reduceIte, reduceCtorEq, Nat.reducePow, Nat.reduceAdd, Nat.reduceLeDiff, Nat.reduceLT, Nat.reduceSub, Nat.reduceEqDiff]) _ (fun f fr lf f3 m3 f1 f2 => ?_)
  simp only [f3, m3, f1, f2, ri, eES, eEX, Nat.reduceBEq, Int.reduceLE, Int.reduceLT, Int.reduceToNat, Int.reduceEq, ↓reduceIte, reduceCtorEq, Nat.reducePow, Nat.reduceAdd, Nat.reduceLeDiff, Nat.reduceLT, Nat.reduceSub, Nat.reduceEqDiff]

theorem c4 (n : Nat) (cs : List AV) (h : IsV n cs) (lf : Int) : Fn? Tryz.prog 4 [.agg cs, .int .i64 lf] RB := by
  have hc := c9 n cs h
  obtain ⟨c1, c2, c3, c4, c5, c6, c7, rfl⟩ := isV_cells h
  refine fnR_of_awp (rc := r4) (rs := o4) Tryz.func4 rfl rfl Tryz.ntmps4 k4 q4 (by simp) ?_
  simp only [g4_0, g4_1, r4, o4, eES, eEX, Nat.reduceBEq, Int.reduceLE, Int.reduceLT, Int.reduceToNat, Int.reduceEq, ↓reduceIte, reduceCtorEq, Nat.reducePow, Nat.reduceAdd, Nat.reduceLeDiff, Nat.reduceLT, Nat.reduceSub, Nat.reduceEqDiff]
  repeat' (first | (refine csel_of (fun h => ?_) (fun h => ?_) <;> simp only [h, rb, eES, eEX, Nat.reduceBEq, Int.reduceLE, Int.reduceLT, Int.reduceToNat, Int.reduceEq, ↓reduceIte, reduceCtorEq, Nat.reducePow, Nat.reduceAdd, Nat.reduceLeDiff, Nat.reduceLT, Nat.reduceSub, Nat.reduceEqDiff]) | (refine gsel_t (fun h => ?_) (fun h => ?_) <;> simp only [h, updO, rb, eES, eEX, Nat.reduceBEq, Int.reduceLE, Int.reduceLT, Int.reduceToNat, Int.reduceEq, ↓reduceIte, reduceCtorEq, Nat.reducePow, Nat.reduceAdd, Nat.reduceLeDiff, Nat.reduceLT, Nat.reduceSub, Nat.reduceEqDiff]) | (refine gsel_f (fun h => ?_) (fun h => ?_) <;> simp only [h, updO, rb, eES, eEX, Nat.reduceBEq, Int.reduceLE, Int.reduceLT, Int.reduceToNat, Int.reduceEq, ↓reduceIte, reduceCtorEq, Nat.reducePow, Nat.reduceAdd, Nat.reduceLeDiff, Nat.reduceLT, Nat.reduceSub, Nat.reduceEqDiff]) | ((with_reducible apply aops_callR (k := 9) (R := RI)); (case h2 => exact fun _ h => h.rf); (case hy => rfl); (case h1 => rfl); (case hk => exact hc _ _); rintro _ ⟨n, rfl⟩; simp only [rb, eES, eEX, Nat.reduceBEq, Int.reduceLE, Int.reduceLT, Int.reduceToNat, Int.reduceEq, ↓reduceIte, reduceCtorEq, Nat.reducePow, Nat.reduceAdd, Nat.reduceLeDiff, Nat.reduceLT, Nat.reduceSub, Nat.reduceEqDiff]))

end Go.Proofs.YtalalolgdekelaaGreatDoor.Va

/- Varint functions: what each computes. -/
set_option linter.unusedSimpArgs false
namespace Go.Proofs.YtalalolgdekelaaGreatDoor.Va
open Go Am Rc Bt

def zig (u : Int) : Int := if 0 ≤ u then 2 * u else -2 * u - 1
def zag (u : Int) : Int := if u % 2 = 0 then u / 2 else -(u / 2) - 1

theorem c15 (u : Int) (h0 : -9223372036854775808 ≤ u) (h1 : u < 9223372036854775808) : Fn1 Tryz.prog 15 [.int .i64 u] (.int .u64 (zig u)) := by
  refine fn1_of_awp (rc := r15) (rs := o15) Tryz.func15 rfl rfl Tryz.ntmps15 k15 q15 (by simp) ?_
  simp only [g15_0, g15_1, r15, o15, eEV, Nat.reduceBEq, Int.reduceLE, Int.reduceLT, Int.reduceToNat, Int.reduceEq, ↓reduceIte, reduceCtorEq, Nat.reducePow]
  congr 1
  simp only [show min 63 64 = 63 from rfl, show min 1 64 = 1 from rfl, Nat.reducePow, wu64, zig, Int.fdiv_eq_ediv_of_nonneg _ (show (0 : Int) ≤ 2 ^ 63 by decide)]
  by_cases h : 0 ≤ u
  · rw [show u / 2 ^ 63 = 0 by omega, if_pos h, show (0 : Int) % 18446744073709551616 = 0 from rfl, xor_u64_zero _ (by omega) (by omega)]
    omega
  · rw [show u / 2 ^ 63 = -1 by omega, if_neg h, show (-1 : Int) % 18446744073709551616 = 18446744073709551615 from rfl, xor_u64_ones _ (by omega) (by omega)]
    omega

theorem c17 (u : Int) (h0 : -9223372036854775808 ≤ u) (h1 : u < 9223372036854775808) : Fn1 Tryz.prog 17 [.int .i64 u] (.int .u64 (zig u)) := by
  refine fn1_of_awp (rc := r17) (rs := o17) Tryz.func17 rfl rfl Tryz.ntmps17 k17 q17 (by simp) ?_
  simp only [g17_0, g17_1, g17_2, g17_3, r17, o17, eEV, Nat.reduceBEq, Int.reduceLE, Int.reduceLT, Int.reduceToNat, Int.reduceEq, ↓reduceIte, reduceCtorEq, Nat.reducePow]
  refine csel_of (fun h => ?_) (fun h => ?_) <;> simp only [eEV, Nat.reduceBEq, Int.reduceLE, Int.reduceLT, Int.reduceToNat, Int.reduceEq, ↓reduceIte, reduceCtorEq, Nat.reducePow]
  · have h : 0 ≤ u := by simpa using h
    congr 1
    simp only [wu64, zig, if_pos h]
    omega
  · have h : ¬ 0 ≤ u := by simpa using h
    congr 1
    simp only [wu64, wi64, zig, if_neg h]
    omega

theorem zig_nonneg (u : Int) : 0 ≤ zig u := by unfold zig; split <;> omega
theorem zig_lt (u : Int) (h0 : -9223372036854775808 ≤ u) (h1 : u < 9223372036854775808) : zig u < 18446744073709551616 := by unfold zig; split <;> omega
theorem zag_lo (u : Int) (h0 : 0 ≤ u) (h1 : u < 18446744073709551616) : -9223372036854775808 ≤ zag u := by unfold zag; split <;> omega
theorem zag_hi (u : Int) (h0 : 0 ≤ u) (h1 : u < 18446744073709551616) : zag u < 9223372036854775808 := by unfold zag; split <;> omega
theorem zag_zig (u : Int) : zag (zig u) = u := by unfold zag zig; split <;> split <;> omega
theorem zig_zag (u : Int) (h0 : 0 ≤ u) : zig (zag u) = u := by unfold zag zig; split <;> split <;> omega

end Go.Proofs.YtalalolgdekelaaGreatDoor.Va

/- Classes of doubles. -/
set_option linter.unusedSimpArgs false
namespace Go.Proofs.YtalalolgdekelaaGreatDoor.Va
open Go Am Rc Bt

/-- The class of a double. -/
def cls (b : Nat) : Nat :=
  let z := b % 9223372036854775808
  if z > 9218868437227405312 then 0 else if z = 9218868437227405312 then 1 else if z = 0 then 2 else if z < 4503599627370496 then 3 else 4

theorem x25 (b : Nat) : Fn1 Tryz.prog 25 [.int .u64 (b : Nat)] (.int .i64 (cls b : Nat)) := by
  refine fn1_of_awp (rc := r25) (rs := o25) Tryz.func25 rfl rfl Tryz.ntmps25 k25 q25 (by simp) ?_
  have hm : (b : Int).tmod 9223372036854775808 = ((b % 9223372036854775808 : Nat) : Int) := by
    rw [Int.tmod_eq_emod_of_nonneg (by omega)]; omega
  simp only [g25_0, g25_1, g25_2, g25_3, g25_4, g25_5, g25_6, g25_7, g25_8, g25_9, g25_10, r25, o25, hm, eES, eEX, Nat.reduceBEq, Int.reduceLE, Int.reduceLT, Int.reduceToNat, Int.reduceEq, ↓reduceIte, reduceCtorEq, Nat.reducePow, Nat.reduceAdd, Nat.reduceLeDiff, Nat.reduceLT, Nat.reduceSub, Nat.reduceEqDiff]
  unfold cls
  generalize b % 9223372036854775808 = z
  repeat' (first | (refine csel_of (fun h => ?_) (fun h => ?_) <;> simp only [h, eES, eEX, Nat.reduceBEq, Int.reduceLE, Int.reduceLT, Int.reduceToNat, Int.reduceEq, ↓reduceIte, reduceCtorEq, Nat.reducePow, Nat.reduceAdd, Nat.reduceLeDiff, Nat.reduceLT, Nat.reduceSub, Nat.reduceEqDiff]) | (refine gsel_t (fun h => ?_) (fun h => ?_) <;> simp only [h, updO, eES, eEX, Nat.reduceBEq, Int.reduceLE, Int.reduceLT, Int.reduceToNat, Int.reduceEq, ↓reduceIte, reduceCtorEq, Nat.reducePow, Nat.reduceAdd, Nat.reduceLeDiff, Nat.reduceLT, Nat.reduceSub, Nat.reduceEqDiff]) | (refine gsel_f (fun h => ?_) (fun h => ?_) <;> simp only [h, updO, eES, eEX, Nat.reduceBEq, Int.reduceLE, Int.reduceLT, Int.reduceToNat, Int.reduceEq, ↓reduceIte, reduceCtorEq, Nat.reducePow, Nat.reduceAdd, Nat.reduceLeDiff, Nat.reduceLT, Nat.reduceSub, Nat.reduceEqDiff]))
  all_goals (simp only [decide_eq_true_eq, decide_eq_false_iff_not, beq_iff_eq, beq_eq_false_iff_ne, ne_eq] at *)
  all_goals ((repeat' split) <;> first | rfl | (exfalso; omega))

theorem and_lo (b : Nat) : b &&& 4503599627370495 = b % 4503599627370496 := Nat.and_two_pow_sub_one_eq_mod b 52
theorem and_hi (b : Nat) : b &&& 9218868437227405312 = (b / 4503599627370496 % 2048) * 4503599627370496 := by
  have h1 : (9218868437227405312 : Nat) = 2047 <<< 52 := by decide
  have h2 : (b / 4503599627370496 % 2048) * 4503599627370496 = (b >>> 52 % 2 ^ 11) <<< 52 := by
    rw [Nat.shiftLeft_eq, Nat.shiftRight_eq_div_pow]
  rw [h1, h2]
  apply Nat.eq_of_testBit_eq
  intro i
  rw [Nat.testBit_and, Nat.testBit_shiftLeft, Nat.testBit_shiftLeft, Nat.testBit_mod_two_pow, Nat.testBit_shiftRight, show (2047 : Nat) = 2 ^ 11 - 1 by decide, Nat.testBit_two_pow_sub_one]
  by_cases h : i ≥ 52
  · rw [show 52 + (i - 52) = i by omega]
    simp [h, Bool.and_comm]
  · simp [h]

theorem x24 (b : Nat) (hb : b < 18446744073709551616) : Fn1 Tryz.prog 24 [.int .u64 (b : Nat)] (.int .i64 (cls b : Nat)) := by
  refine fn1_of_awp (rc := r24) (rs := o24) Tryz.func24 rfl rfl Tryz.ntmps24 k24 q24 (by simp) ?_
  have a1 : bits .and .u64 (b : Int) 9218868437227405312 = (((b / 4503599627370496 % 2048) * 4503599627370496 : Nat) : Int) := by
    have := and_u64 b 9218868437227405312 hb (by decide)
    rw [and_hi] at this
    exact this
  have a2 : bits .and .u64 (b : Int) 4503599627370495 = ((b % 4503599627370496 : Nat) : Int) := by
    have := and_u64 b 4503599627370495 hb (by decide)
    rw [and_lo] at this
    exact this
  simp only [g24_0, g24_1, g24_2, g24_3, g24_4, g24_5, g24_6, g24_7, g24_8, g24_9, g24_10, r24, o24, a1, a2, eES, eEX, Nat.reduceBEq, Int.reduceLE, Int.reduceLT, Int.reduceToNat, Int.reduceEq, ↓reduceIte, reduceCtorEq, Nat.reducePow, Nat.reduceAdd, Nat.reduceLeDiff, Nat.reduceLT, Nat.reduceSub, Nat.reduceEqDiff]
  unfold cls
  repeat' (first | (refine csel_of (fun h => ?_) (fun h => ?_) <;> simp only [h, eES, eEX, Nat.reduceBEq, Int.reduceLE, Int.reduceLT, Int.reduceToNat, Int.reduceEq, ↓reduceIte, reduceCtorEq, Nat.reducePow, Nat.reduceAdd, Nat.reduceLeDiff, Nat.reduceLT, Nat.reduceSub, Nat.reduceEqDiff]) | (refine gsel_t (fun h => ?_) (fun h => ?_) <;> simp only [h, updO, eES, eEX, Nat.reduceBEq, Int.reduceLE, Int.reduceLT, Int.reduceToNat, Int.reduceEq, ↓reduceIte, reduceCtorEq, Nat.reducePow, Nat.reduceAdd, Nat.reduceLeDiff, Nat.reduceLT, Nat.reduceSub, Nat.reduceEqDiff]) | (refine gsel_f (fun h => ?_) (fun h => ?_) <;> simp only [h, updO, eES, eEX, Nat.reduceBEq, Int.reduceLE, Int.reduceLT, Int.reduceToNat, Int.reduceEq, ↓reduceIte, reduceCtorEq, Nat.reducePow, Nat.reduceAdd, Nat.reduceLeDiff, Nat.reduceLT, Nat.reduceSub, Nat.reduceEqDiff]))
  all_goals (simp only [decide_eq_true_eq, decide_eq_false_iff_not, beq_iff_eq, bne_iff_ne, bne_eq_false_iff_eq, beq_eq_false_iff_ne, ne_eq] at *)
  all_goals ((repeat' split) <;> first | rfl | (exfalso; omega))

/-- The bits of the normal form. -/
def nbits (k : Int) (b : Nat) : Nat := if k = 6 ∧ cls b = 0 then 9221120237041090560 else b

theorem cls0 (b : Nat) : ((cls b : Int) == 0) = decide (cls b = 0) := by
  rw [Bool.eq_iff_iff, beq_iff_eq, decide_eq_true_eq]
  omega

end Go.Proofs.YtalalolgdekelaaGreatDoor.Va

/- Scalars as raw fields. -/
set_option linter.unusedSimpArgs false
namespace Go.Proofs.YtalalolgdekelaaGreatDoor.Va
open Go Am Rc Bt Br Up

/-- A value, its lists as they are. -/
def vv (k : Int) (b : Nat) (t : List UInt8) (l p s r : List AV) : AV := .agg [.int .i64 k, .int .u64 (b : Nat), .str t, .list l, .list p, .list s, .list r]

section
variable (k : Int) (b : Nat) (hb : b < 18446744073709551616) (t : List UInt8) (l p s r : List AV)
include hb

theorem y16 : Fn1 Tryz.prog 16 [vv k b t l p s r] (vv k (nbits k b) t l p s r) := by
  refine fn1_of_awp (rc := r16) (rs := o16) Tryz.func16 rfl rfl Tryz.ntmps16 k16 q16 (by simp) ?_
  simp only [g16_0, g16_1, g16_2, g16_3, r16, o16, vv, eES, eEX, Nat.reduceBEq, Int.reduceLE, Int.reduceLT, Int.reduceToNat, Int.reduceEq, ↓reduceIte, reduceCtorEq, Nat.reducePow, Nat.reduceAdd, Nat.reduceLeDiff, Nat.reduceLT, Nat.reduceSub, Nat.reduceEqDiff]
  by_cases hk : k = 6
  · have b0 : (k == 6) = true := by simp [hk]
    simp only [b0, eES, eEX, Nat.reduceBEq, Int.reduceLE, Int.reduceLT, Int.reduceToNat, Int.reduceEq, ↓reduceIte, reduceCtorEq, Nat.reducePow, Nat.reduceAdd, Nat.reduceLeDiff, Nat.reduceLT, Nat.reduceSub, Nat.reduceEqDiff]
    refine aops_call (x24 b hb) rfl rfl rfl (.inl rfl) ?_
    simp only [cls0, eES, eEX, Nat.reduceBEq, Int.reduceLE, Int.reduceLT, Int.reduceToNat, Int.reduceEq, ↓reduceIte, reduceCtorEq, Nat.reducePow, Nat.reduceAdd, Nat.reduceLeDiff, Nat.reduceLT, Nat.reduceSub, Nat.reduceEqDiff]
    by_cases hc : cls b = 0
    · simp only [hc, nbits, hk, decide_true, and_self, splice, List.take_succ_cons, List.take_zero, List.drop_succ_cons, List.drop_zero, List.cons_append, List.nil_append, List.length_cons, List.length_nil, eES, eEX, Nat.reduceBEq, Int.reduceLE, Int.reduceLT, Int.reduceToNat, Int.reduceEq, ↓reduceIte, reduceCtorEq, Nat.reducePow, Nat.reduceAdd, Nat.reduceLeDiff, Nat.reduceLT, Nat.reduceSub, Nat.reduceEqDiff]
      rfl
    · simp only [hc, nbits, decide_false, and_false, eES, eEX, Nat.reduceBEq, Int.reduceLE, Int.reduceLT, Int.reduceToNat, Int.reduceEq, ↓reduceIte, reduceCtorEq, Nat.reducePow, Nat.reduceAdd, Nat.reduceLeDiff, Nat.reduceLT, Nat.reduceSub, Nat.reduceEqDiff]
  · have b0 : (k == 6) = false := by simp [hk]
    simp only [b0, nbits, hk, false_and, eES, eEX, Nat.reduceBEq, Int.reduceLE, Int.reduceLT, Int.reduceToNat, Int.reduceEq, ↓reduceIte, reduceCtorEq, Nat.reducePow, Nat.reduceAdd, Nat.reduceLeDiff, Nat.reduceLT, Nat.reduceSub, Nat.reduceEqDiff]

omit hb in
theorem y18 : Fn1 Tryz.prog 18 [vv k b t l p s r] (vv k (nbits k b) t l p s r) := by
  refine fn1_of_awp (rc := r18) (rs := o18) Tryz.func18 rfl rfl Tryz.ntmps18 k18 q18 (by simp) ?_
  simp only [g18_0, g18_1, g18_2, g18_3, r18, o18, vv, eES, eEX, Nat.reduceBEq, Int.reduceLE, Int.reduceLT, Int.reduceToNat, Int.reduceEq, ↓reduceIte, reduceCtorEq, Nat.reducePow, Nat.reduceAdd, Nat.reduceLeDiff, Nat.reduceLT, Nat.reduceSub, Nat.reduceEqDiff]
  by_cases hk : k = 6
  · have b0 : (k == 6) = true := by simp [hk]
    simp only [b0, eES, eEX, Nat.reduceBEq, Int.reduceLE, Int.reduceLT, Int.reduceToNat, Int.reduceEq, ↓reduceIte, reduceCtorEq, Nat.reducePow, Nat.reduceAdd, Nat.reduceLeDiff, Nat.reduceLT, Nat.reduceSub, Nat.reduceEqDiff]
    refine aops_call (x25 b) rfl rfl rfl (.inl rfl) ?_
    simp only [cls0, eES, eEX, Nat.reduceBEq, Int.reduceLE, Int.reduceLT, Int.reduceToNat, Int.reduceEq, ↓reduceIte, reduceCtorEq, Nat.reducePow, Nat.reduceAdd, Nat.reduceLeDiff, Nat.reduceLT, Nat.reduceSub, Nat.reduceEqDiff]
    by_cases hc : cls b = 0
    · simp only [hc, nbits, hk, decide_true, and_self, splice, List.take_succ_cons, List.take_zero, List.drop_succ_cons, List.drop_zero, List.cons_append, List.nil_append, List.length_cons, List.length_nil, eES, eEX, Nat.reduceBEq, Int.reduceLE, Int.reduceLT, Int.reduceToNat, Int.reduceEq, ↓reduceIte, reduceCtorEq, Nat.reducePow, Nat.reduceAdd, Nat.reduceLeDiff, Nat.reduceLT, Nat.reduceSub, Nat.reduceEqDiff]
      rfl
    · simp only [hc, nbits, decide_false, and_false, eES, eEX, Nat.reduceBEq, Int.reduceLE, Int.reduceLT, Int.reduceToNat, Int.reduceEq, ↓reduceIte, reduceCtorEq, Nat.reducePow, Nat.reduceAdd, Nat.reduceLeDiff, Nat.reduceLT, Nat.reduceSub, Nat.reduceEqDiff]
  · have b0 : (k == 6) = false := by simp [hk]
    simp only [b0, nbits, hk, false_and, eES, eEX, Nat.reduceBEq, Int.reduceLE, Int.reduceLT, Int.reduceToNat, Int.reduceEq, ↓reduceIte, reduceCtorEq, Nat.reducePow, Nat.reduceAdd, Nat.reduceLeDiff, Nat.reduceLT, Nat.reduceSub, Nat.reduceEqDiff]

/-- The raw field of a scalar. -/
def sraw : R :=
  if k = 1 ∨ k = 4 ∨ k = 5 ∨ k = 9 then ⟨0, 0, b, []⟩ else if k = 2 ∨ k = 3 then ⟨0, 1, (zig (IntKind.i64.wrap (b : Int))).toNat, []⟩
  else if k = 6 then ⟨0, 2, nbits k b, []⟩ else if k = 7 ∨ k = 8 then ⟨0, 3, 0, t⟩ else zr

theorem y7 : Fn1 Tryz.prog 7 [vv k b t l p s r] (sraw k b t).av := by
  have hn := y16 k b hb t l p s r
  simp only [vv] at hn
  have hw0 : -9223372036854775808 ≤ IntKind.i64.wrap (b : Int) := by rw [wi64]; omega
  have hw1 : IntKind.i64.wrap (b : Int) < 9223372036854775808 := by rw [wi64]; omega
  have hz := c15 (IntKind.i64.wrap (b : Int)) hw0 hw1
  have hzn : (((zig (IntKind.i64.wrap (b : Int))).toNat : Nat) : Int) = zig (IntKind.i64.wrap (b : Int)) := Int.toNat_of_nonneg (zig_nonneg _)
  refine fn1_of_awp (rc := r7) (rs := o7) Tryz.func7 rfl rfl Tryz.ntmps7 k7 q7 (by simp) ?_
  simp only [g7_0, g7_1, g7_2, g7_3, g7_4, g7_5, g7_6, g7_7, g7_8, g7_9, g7_10, g7_11, g7_12, g7_13, g7_14, g7_15, r7, o7, vv, eES, eEX, Nat.reduceBEq, Int.reduceLE, Int.reduceLT, Int.reduceToNat, Int.reduceEq, ↓reduceIte, reduceCtorEq, Nat.reducePow, Nat.reduceAdd, Nat.reduceLeDiff, Nat.reduceLT, Nat.reduceSub, Nat.reduceEqDiff]
  by_cases h1 : k = 1 ∨ k = 4 ∨ k = 5 ∨ k = 9
  · have hs : sraw k b t = ⟨0, 0, b, []⟩ := by unfold sraw; rw [if_pos h1]
    rcases h1 with rfl | rfl | rfl | rfl <;> simp only [hs, R.av, Int.reduceBEq, splice, List.take_succ_cons, List.take_zero, List.drop_succ_cons, List.drop_zero, List.cons_append, List.nil_append, List.length_cons, List.length_nil, eES, eEX, Nat.reduceBEq, Int.reduceLE, Int.reduceLT, Int.reduceToNat, Int.reduceEq, ↓reduceIte, reduceCtorEq, Nat.reducePow, Nat.reduceAdd, Nat.reduceLeDiff, Nat.reduceLT, Nat.reduceSub, Nat.reduceEqDiff] <;> rfl
  have hk1 : (k == 1) = false := by simp; omega
  have hk4 : (k == 4) = false := by simp; omega
  have hk5 : (k == 5) = false := by simp; omega
  have hk9 : (k == 9) = false := by simp; omega
  by_cases h2 : k = 2 ∨ k = 3
  · have hs : sraw k b t = ⟨0, 1, (zig (IntKind.i64.wrap (b : Int))).toNat, []⟩ := by unfold sraw; rw [if_neg h1, if_pos h2]
    rcases h2 with rfl | rfl <;>
      (simp only [Int.reduceBEq, splice, List.take_succ_cons, List.take_zero, List.drop_succ_cons, List.drop_zero, List.cons_append, List.nil_append, List.length_cons, List.length_nil, eES, eEX, Nat.reduceBEq, Int.reduceLE, Int.reduceLT, Int.reduceToNat, Int.reduceEq, ↓reduceIte, reduceCtorEq, Nat.reducePow, Nat.reduceAdd, Nat.reduceLeDiff, Nat.reduceLT, Nat.reduceSub, Nat.reduceEqDiff]
       refine aops_call hz rfl rfl rfl (.inl rfl) ?_
       simp only [hs, R.av, hzn, splice, List.take_succ_cons, List.take_zero, List.drop_succ_cons, List.drop_zero, List.cons_append, List.nil_append, List.length_cons, List.length_nil, eES, eEX, Nat.reduceBEq, Int.reduceLE, Int.reduceLT, Int.reduceToNat, Int.reduceEq, ↓reduceIte, reduceCtorEq, Nat.reducePow, Nat.reduceAdd, Nat.reduceLeDiff, Nat.reduceLT, Nat.reduceSub, Nat.reduceEqDiff])
  have hk2 : (k == 2) = false := by simp; omega
  have hk3 : (k == 3) = false := by simp; omega
  by_cases h6 : k = 6
  · have hs : sraw k b t = ⟨0, 2, nbits k b, []⟩ := by unfold sraw; rw [if_neg h1, if_neg h2, if_pos h6]
    have b6 : (k == 6) = true := by simp [h6]
    simp only [hk1, hk4, hk5, hk9, hk2, hk3, b6, splice, List.take_succ_cons, List.take_zero, List.drop_succ_cons, List.drop_zero, List.cons_append, List.nil_append, List.length_cons, List.length_nil, eES, eEX, Nat.reduceBEq, Int.reduceLE, Int.reduceLT, Int.reduceToNat, Int.reduceEq, ↓reduceIte, reduceCtorEq, Nat.reducePow, Nat.reduceAdd, Nat.reduceLeDiff, Nat.reduceLT, Nat.reduceSub, Nat.reduceEqDiff]
    refine aops_call hn rfl rfl rfl (.inl rfl) ?_
    simp only [hs, R.av, splice, List.take_succ_cons, List.take_zero, List.drop_succ_cons, List.drop_zero, List.cons_append, List.nil_append, List.length_cons, List.length_nil, eES, eEX, Nat.reduceBEq, Int.reduceLE, Int.reduceLT, Int.reduceToNat, Int.reduceEq, ↓reduceIte, reduceCtorEq, Nat.reducePow, Nat.reduceAdd, Nat.reduceLeDiff, Nat.reduceLT, Nat.reduceSub, Nat.reduceEqDiff]
  have hk6 : (k == 6) = false := by simp; omega
  by_cases h7 : k = 7 ∨ k = 8
  · have hs : sraw k b t = ⟨0, 3, 0, t⟩ := by unfold sraw; rw [if_neg h1, if_neg h2, if_neg h6, if_pos h7]
    rcases h7 with rfl | rfl <;> simp only [hs, R.av, Int.reduceBEq, splice, List.take_succ_cons, List.take_zero, List.drop_succ_cons, List.drop_zero, List.cons_append, List.nil_append, List.length_cons, List.length_nil, eES, eEX, Nat.reduceBEq, Int.reduceLE, Int.reduceLT, Int.reduceToNat, Int.reduceEq, ↓reduceIte, reduceCtorEq, Nat.reducePow, Nat.reduceAdd, Nat.reduceLeDiff, Nat.reduceLT, Nat.reduceSub, Nat.reduceEqDiff] <;> rfl
  have hk7 : (k == 7) = false := by simp; omega
  have hk8 : (k == 8) = false := by simp; omega
  have hs : sraw k b t = zr := by unfold sraw; rw [if_neg h1, if_neg h2, if_neg h6, if_neg h7]
  simp only [hk1, hk4, hk5, hk9, hk2, hk3, hk6, hk7, hk8, hs, zr, R.av, splice, List.take_succ_cons, List.take_zero, List.drop_succ_cons, List.drop_zero, List.cons_append, List.nil_append, List.length_cons, List.length_nil, eES, eEX, Nat.reduceBEq, Int.reduceLE, Int.reduceLT, Int.reduceToNat, Int.reduceEq, ↓reduceIte, reduceCtorEq, Nat.reducePow, Nat.reduceAdd, Nat.reduceLeDiff, Nat.reduceLT, Nat.reduceSub, Nat.reduceEqDiff]
  rfl

omit hb in
theorem y8 : Fn1 Tryz.prog 8 [vv k b t l p s r] (sraw k b t).av := by
  have hn := y18 k b t l p s r
  simp only [vv] at hn
  have hw0 : -9223372036854775808 ≤ IntKind.i64.wrap (b : Int) := by rw [wi64]; omega
  have hw1 : IntKind.i64.wrap (b : Int) < 9223372036854775808 := by rw [wi64]; omega
  have hz := c17 (IntKind.i64.wrap (b : Int)) hw0 hw1
  have hzn : (((zig (IntKind.i64.wrap (b : Int))).toNat : Nat) : Int) = zig (IntKind.i64.wrap (b : Int)) := Int.toNat_of_nonneg (zig_nonneg _)
  refine fn1_of_awp (rc := r8) (rs := o8) Tryz.func8 rfl rfl Tryz.ntmps8 k8 q8 (by simp) ?_
  simp only [g8_0, g8_1, g8_2, g8_3, g8_4, g8_5, g8_6, g8_7, g8_8, g8_9, g8_10, g8_11, g8_12, g8_13, g8_14, g8_15, r8, o8, vv, eES, eEX, Nat.reduceBEq, Int.reduceLE, Int.reduceLT, Int.reduceToNat, Int.reduceEq, ↓reduceIte, reduceCtorEq, Nat.reducePow, Nat.reduceAdd, Nat.reduceLeDiff, Nat.reduceLT, Nat.reduceSub, Nat.reduceEqDiff]
  by_cases h1 : k = 1 ∨ k = 4 ∨ k = 5 ∨ k = 9
  · have hs : sraw k b t = ⟨0, 0, b, []⟩ := by unfold sraw; rw [if_pos h1]
    rcases h1 with rfl | rfl | rfl | rfl <;> simp only [hs, R.av, Int.reduceBEq, splice, List.take_succ_cons, List.take_zero, List.drop_succ_cons, List.drop_zero, List.cons_append, List.nil_append, List.length_cons, List.length_nil, eES, eEX, Nat.reduceBEq, Int.reduceLE, Int.reduceLT, Int.reduceToNat, Int.reduceEq, ↓reduceIte, reduceCtorEq, Nat.reducePow, Nat.reduceAdd, Nat.reduceLeDiff, Nat.reduceLT, Nat.reduceSub, Nat.reduceEqDiff] <;> rfl
  have hk1 : (k == 1) = false := by simp; omega
  have hk4 : (k == 4) = false := by simp; omega
  have hk5 : (k == 5) = false := by simp; omega
  have hk9 : (k == 9) = false := by simp; omega
  by_cases h2 : k = 2 ∨ k = 3
  · have hs : sraw k b t = ⟨0, 1, (zig (IntKind.i64.wrap (b : Int))).toNat, []⟩ := by unfold sraw; rw [if_neg h1, if_pos h2]
    rcases h2 with rfl | rfl <;>
      (simp only [Int.reduceBEq, splice, List.take_succ_cons, List.take_zero, List.drop_succ_cons, List.drop_zero, List.cons_append, List.nil_append, List.length_cons, List.length_nil, eES, eEX, Nat.reduceBEq, Int.reduceLE, Int.reduceLT, Int.reduceToNat, Int.reduceEq, ↓reduceIte, reduceCtorEq, Nat.reducePow, Nat.reduceAdd, Nat.reduceLeDiff, Nat.reduceLT, Nat.reduceSub, Nat.reduceEqDiff]
       refine aops_call hz rfl rfl rfl (.inl rfl) ?_
       simp only [hs, R.av, hzn, splice, List.take_succ_cons, List.take_zero, List.drop_succ_cons, List.drop_zero, List.cons_append, List.nil_append, List.length_cons, List.length_nil, eES, eEX, Nat.reduceBEq, Int.reduceLE, Int.reduceLT, Int.reduceToNat, Int.reduceEq, ↓reduceIte, reduceCtorEq, Nat.reducePow, Nat.reduceAdd, Nat.reduceLeDiff, Nat.reduceLT, Nat.reduceSub, Nat.reduceEqDiff])
  have hk2 : (k == 2) = false := by simp; omega
  have hk3 : (k == 3) = false := by simp; omega
  by_cases h6 : k = 6
  · have hs : sraw k b t = ⟨0, 2, nbits k b, []⟩ := by unfold sraw; rw [if_neg h1, if_neg h2, if_pos h6]
    have b6 : (k == 6) = true := by simp [h6]
    simp only [hk1, hk4, hk5, hk9, hk2, hk3, b6, splice, List.take_succ_cons, List.take_zero, List.drop_succ_cons, List.drop_zero, List.cons_append, List.nil_append, List.length_cons, List.length_nil, eES, eEX, Nat.reduceBEq, Int.reduceLE, Int.reduceLT, Int.reduceToNat, Int.reduceEq, ↓reduceIte, reduceCtorEq, Nat.reducePow, Nat.reduceAdd, Nat.reduceLeDiff, Nat.reduceLT, Nat.reduceSub, Nat.reduceEqDiff]
    refine aops_call hn rfl rfl rfl (.inl rfl) ?_
    simp only [hs, R.av, splice, List.take_succ_cons, List.take_zero, List.drop_succ_cons, List.drop_zero, List.cons_append, List.nil_append, List.length_cons, List.length_nil, eES, eEX, Nat.reduceBEq, Int.reduceLE, Int.reduceLT, Int.reduceToNat, Int.reduceEq, ↓reduceIte, reduceCtorEq, Nat.reducePow, Nat.reduceAdd, Nat.reduceLeDiff, Nat.reduceLT, Nat.reduceSub, Nat.reduceEqDiff]
  have hk6 : (k == 6) = false := by simp; omega
  by_cases h7 : k = 7 ∨ k = 8
  · have hs : sraw k b t = ⟨0, 3, 0, t⟩ := by unfold sraw; rw [if_neg h1, if_neg h2, if_neg h6, if_pos h7]
    rcases h7 with rfl | rfl <;> simp only [hs, R.av, Int.reduceBEq, splice, List.take_succ_cons, List.take_zero, List.drop_succ_cons, List.drop_zero, List.cons_append, List.nil_append, List.length_cons, List.length_nil, eES, eEX, Nat.reduceBEq, Int.reduceLE, Int.reduceLT, Int.reduceToNat, Int.reduceEq, ↓reduceIte, reduceCtorEq, Nat.reducePow, Nat.reduceAdd, Nat.reduceLeDiff, Nat.reduceLT, Nat.reduceSub, Nat.reduceEqDiff] <;> rfl
  have hk7 : (k == 7) = false := by simp; omega
  have hk8 : (k == 8) = false := by simp; omega
  have hs : sraw k b t = zr := by unfold sraw; rw [if_neg h1, if_neg h2, if_neg h6, if_neg h7]
  simp only [hk1, hk4, hk5, hk9, hk2, hk3, hk6, hk7, hk8, hs, zr, R.av, splice, List.take_succ_cons, List.take_zero, List.drop_succ_cons, List.drop_zero, List.cons_append, List.nil_append, List.length_cons, List.length_nil, eES, eEX, Nat.reduceBEq, Int.reduceLE, Int.reduceLT, Int.reduceToNat, Int.reduceEq, ↓reduceIte, reduceCtorEq, Nat.reducePow, Nat.reduceAdd, Nat.reduceLeDiff, Nat.reduceLT, Nat.reduceSub, Nat.reduceEqDiff]
  rfl

end

end Go.Proofs.YtalalolgdekelaaGreatDoor.Va

/- The table of the functions that are run. -/
namespace Go.Proofs.YtalalolgdekelaaGreatDoor.Ev
open Go Am Rc

def tab : Tab := fun k => match k with
  | 5 => some (r5, o5, 100)
  | 7 => some (r7, o7, 34)
  | 10 => some (r10, o10, 40)
  | 11 => some (r11, o11, 8)
  | 12 => some (r12, o12, 16)
  | 13 => some (r13, o13, 16)
  | 14 => some (r14, o14, 20)
  | 15 => some (r15, o15, 10)
  | 16 => some (r16, o16, 14)
  | 19 => some (r19, o19, 15)
  | 20 => some (r20, o20, 19)
  | 21 => some (r21, o21, 32)
  | 22 => some (r22, o22, 57)
  | 23 => some (r23, o23, 30)
  | 26 => some (r26, o26, 19)
  | 27 => some (r27, o27, 8)
  | 28 => some (r28, o28, 24)
  | 29 => some (r29, o29, 77)
  | 30 => some (r30, o30, 23)
  | 31 => some (r31, o31, 86)
  | 32 => some (r32, o32, 54)
  | 33 => some (r33, o33, 12)
  | 34 => some (r34, o34, 14)
  | 35 => some (r35, o35, 21)
  | 36 => some (r36, o36, 11)
  | 37 => some (r37, o37, 23)
  | 38 => some (r38, o38, 12)
  | 39 => some (r39, o39, 11)
  | 40 => some (r40, o40, 12)
  | 41 => some (r41, o41, 41)
  | 42 => some (r42, o42, 74)
  | 43 => some (r43, o43, 69)
  | 44 => some (r44, o44, 9)
  | 47 => some (r47, o47, 40)
  | 49 => some (r49, o49, 40)
  | 50 => some (r50, o50, 67)
  | 51 => some (r51, o51, 27)
  | 52 => some (r52, o52, 9)
  | 54 => some (r54, o54, 20)
  | 55 => some (r55, o55, 24)
  | 56 => some (r56, o56, 26)
  | 57 => some (r57, o57, 19)
  | 59 => some (r59, o59, 13)
  | 60 => some (r60, o60, 20)
  | 61 => some (r61, o61, 14)
  | 62 => some (r62, o62, 8)
  | 63 => some (r63, o63, 20)
  | 65 => some (r65, o65, 21)
  | 66 => some (r66, o66, 47)
  | 68 => some (r68, o68, 15)
  | 69 => some (r69, o69, 8)
  | 70 => some (r70, o70, 7)
  | 71 => some (r71, o71, 8)
  | 73 => some (r73, o73, 12)
  | 74 => some (r74, o74, 11)
  | 75 => some (r75, o75, 8)
  | 76 => some (r76, o76, 7)
  | 77 => some (r77, o77, 10)
  | 81 => some (r81, o81, 24)
  | 83 => some (r83, o83, 24)
  | 85 => some (r85, o85, 7)
  | 86 => some (r86, o86, 24)
  | 87 => some (r87, o87, 10)
  | 91 => some (r91, o91, 13)
  | 93 => some (r93, o93, 20)
  | 94 => some (r94, o94, 5)
  | 98 => some (r98, o98, 6)
  | 99 => some (r99, o99, 11)
  | 101 => some (r101, o101, 13)
  | 102 => some (r102, o102, 47)
  | 103 => some (r103, o103, 35)
  | 104 => some (r104, o104, 6)
  | 105 => some (r105, o105, 22)
  | 106 => some (r106, o106, 46)
  | 110 => some (r110, o110, 20)
  | 111 => some (r111, o111, 9)
  | 112 => some (r112, o112, 9)
  | 113 => some (r113, o113, 59)
  | 114 => some (r114, o114, 19)
  | 118 => some (r118, o118, 9)
  | 119 => some (r119, o119, 10)
  | 120 => some (r120, o120, 17)
  | 122 => some (r122, o122, 20)
  | 123 => some (r123, o123, 63)
  | 124 => some (r124, o124, 6)
  | 125 => some (r125, o125, 20)
  | 126 => some (r126, o126, 19)
  | 127 => some (r127, o127, 8)
  | 128 => some (r128, o128, 18)
  | 129 => some (r129, o129, 27)
  | 130 => some (r130, o130, 9)
  | 131 => some (r131, o131, 9)
  | 132 => some (r132, o132, 19)
  | 133 => some (r133, o133, 9)
  | 134 => some (r134, o134, 8)
  | 135 => some (r135, o135, 27)
  | 136 => some (r136, o136, 9)
  | 137 => some (r137, o137, 36)
  | 139 => some (r139, o139, 12)
  | 143 => some (r143, o143, 16)
  | 144 => some (r144, o144, 9)
  | 146 => some (r146, o146, 19)
  | 147 => some (r147, o147, 31)
  | 150 => some (r150, o150, 63)
  | 156 => some (r156, o156, 28)
  | 157 => some (r157, o157, 53)
  | 160 => some (r160, o160, 19)
  | 161 => some (r161, o161, 19)
  | 162 => some (r162, o162, 66)
  | 163 => some (r163, o163, 27)
  | 170 => some (r170, o170, 49)
  | 173 => some (r173, o173, 53)
  | 186 => some (r186, o186, 9)
  | 189 => some (r189, o189, 34)
  | 190 => some (r190, o190, 8)
  | 194 => some (r194, o194, 39)
  | 206 => some (r206, o206, 143)
  | 208 => some (r208, o208, 28)
  | 214 => some (r214, o214, 8)
  | _ => none

theorem tab_ok : TabOk Tryz.prog tab := by
  intro k c rs N h
  unfold tab at h
  split at h
  · cases h; exact ⟨Tryz.f5, _, Tryz.func5, rfl, rfl, Tryz.ntmps5, k5, q5⟩
  · cases h; exact ⟨Tryz.f7, _, Tryz.func7, rfl, rfl, Tryz.ntmps7, k7, q7⟩
  · cases h; exact ⟨Tryz.f10, _, Tryz.func10, rfl, rfl, Tryz.ntmps10, k10, q10⟩
  · cases h; exact ⟨Tryz.f11, _, Tryz.func11, rfl, rfl, Tryz.ntmps11, k11, q11⟩
  · cases h; exact ⟨Tryz.f12, _, Tryz.func12, rfl, rfl, Tryz.ntmps12, k12, q12⟩
  · cases h; exact ⟨Tryz.f13, _, Tryz.func13, rfl, rfl, Tryz.ntmps13, k13, q13⟩
  · cases h; exact ⟨Tryz.f14, _, Tryz.func14, rfl, rfl, Tryz.ntmps14, k14, q14⟩
  · cases h; exact ⟨Tryz.f15, _, Tryz.func15, rfl, rfl, Tryz.ntmps15, k15, q15⟩
  · cases h; exact ⟨Tryz.f16, _, Tryz.func16, rfl, rfl, Tryz.ntmps16, k16, q16⟩
  · cases h; exact ⟨Tryz.f19, _, Tryz.func19, rfl, rfl, Tryz.ntmps19, k19, q19⟩
  · cases h; exact ⟨Tryz.f20, _, Tryz.func20, rfl, rfl, Tryz.ntmps20, k20, q20⟩
  · cases h; exact ⟨Tryz.f21, _, Tryz.func21, rfl, rfl, Tryz.ntmps21, k21, q21⟩
  · cases h; exact ⟨Tryz.f22, _, Tryz.func22, rfl, rfl, Tryz.ntmps22, k22, q22⟩
  · cases h; exact ⟨Tryz.f23, _, Tryz.func23, rfl, rfl, Tryz.ntmps23, k23, q23⟩
  · cases h; exact ⟨Tryz.f26, _, Tryz.func26, rfl, rfl, Tryz.ntmps26, k26, q26⟩
  · cases h; exact ⟨Tryz.f27, _, Tryz.func27, rfl, rfl, Tryz.ntmps27, k27, q27⟩
  · cases h; exact ⟨Tryz.f28, _, Tryz.func28, rfl, rfl, Tryz.ntmps28, k28, q28⟩
  · cases h; exact ⟨Tryz.f29, _, Tryz.func29, rfl, rfl, Tryz.ntmps29, k29, q29⟩
  · cases h; exact ⟨Tryz.f30, _, Tryz.func30, rfl, rfl, Tryz.ntmps30, k30, q30⟩
  · cases h; exact ⟨Tryz.f31, _, Tryz.func31, rfl, rfl, Tryz.ntmps31, k31, q31⟩
  · cases h; exact ⟨Tryz.f32, _, Tryz.func32, rfl, rfl, Tryz.ntmps32, k32, q32⟩
  · cases h; exact ⟨Tryz.f33, _, Tryz.func33, rfl, rfl, Tryz.ntmps33, k33, q33⟩
  · cases h; exact ⟨Tryz.f34, _, Tryz.func34, rfl, rfl, Tryz.ntmps34, k34, q34⟩
  · cases h; exact ⟨Tryz.f35, _, Tryz.func35, rfl, rfl, Tryz.ntmps35, k35, q35⟩
  · cases h; exact ⟨Tryz.f36, _, Tryz.func36, rfl, rfl, Tryz.ntmps36, k36, q36⟩
  · cases h; exact ⟨Tryz.f37, _, Tryz.func37, rfl, rfl, Tryz.ntmps37, k37, q37⟩
  · cases h; exact ⟨Tryz.f38, _, Tryz.func38, rfl, rfl, Tryz.ntmps38, k38, q38⟩
  · cases h; exact ⟨Tryz.f39, _, Tryz.func39, rfl, rfl, Tryz.ntmps39, k39, q39⟩
  · cases h; exact ⟨Tryz.f40, _, Tryz.func40, rfl, rfl, Tryz.ntmps40, k40, q40⟩
  · cases h; exact ⟨Tryz.f41, _, Tryz.func41, rfl, rfl, Tryz.ntmps41, k41, q41⟩
  · cases h; exact ⟨Tryz.f42, _, Tryz.func42, rfl, rfl, Tryz.ntmps42, k42, q42⟩
  · cases h; exact ⟨Tryz.f43, _, Tryz.func43, rfl, rfl, Tryz.ntmps43, k43, q43⟩
  · cases h; exact ⟨Tryz.f44, _, Tryz.func44, rfl, rfl, Tryz.ntmps44, k44, q44⟩
  · cases h; exact ⟨Tryz.f47, _, Tryz.func47, rfl, rfl, Tryz.ntmps47, k47, q47⟩
  · cases h; exact ⟨Tryz.f49, _, Tryz.func49, rfl, rfl, Tryz.ntmps49, k49, q49⟩
  · cases h; exact ⟨Tryz.f50, _, Tryz.func50, rfl, rfl, Tryz.ntmps50, k50, q50⟩
  · cases h; exact ⟨Tryz.f51, _, Tryz.func51, rfl, rfl, Tryz.ntmps51, k51, q51⟩
  · cases h; exact ⟨Tryz.f52, _, Tryz.func52, rfl, rfl, Tryz.ntmps52, k52, q52⟩
  · cases h; exact ⟨Tryz.f54, _, Tryz.func54, rfl, rfl, Tryz.ntmps54, k54, q54⟩
  · cases h; exact ⟨Tryz.f55, _, Tryz.func55, rfl, rfl, Tryz.ntmps55, k55, q55⟩
  · cases h; exact ⟨Tryz.f56, _, Tryz.func56, rfl, rfl, Tryz.ntmps56, k56, q56⟩
  · cases h; exact ⟨Tryz.f57, _, Tryz.func57, rfl, rfl, Tryz.ntmps57, k57, q57⟩
  · cases h; exact ⟨Tryz.f59, _, Tryz.func59, rfl, rfl, Tryz.ntmps59, k59, q59⟩
  · cases h; exact ⟨Tryz.f60, _, Tryz.func60, rfl, rfl, Tryz.ntmps60, k60, q60⟩
  · cases h; exact ⟨Tryz.f61, _, Tryz.func61, rfl, rfl, Tryz.ntmps61, k61, q61⟩
  · cases h; exact ⟨Tryz.f62, _, Tryz.func62, rfl, rfl, Tryz.ntmps62, k62, q62⟩
  · cases h; exact ⟨Tryz.f63, _, Tryz.func63, rfl, rfl, Tryz.ntmps63, k63, q63⟩
  · cases h; exact ⟨Tryz.f65, _, Tryz.func65, rfl, rfl, Tryz.ntmps65, k65, q65⟩
  · cases h; exact ⟨Tryz.f66, _, Tryz.func66, rfl, rfl, Tryz.ntmps66, k66, q66⟩
  · cases h; exact ⟨Tryz.f68, _, Tryz.func68, rfl, rfl, Tryz.ntmps68, k68, q68⟩
  · cases h; exact ⟨Tryz.f69, _, Tryz.func69, rfl, rfl, Tryz.ntmps69, k69, q69⟩
  · cases h; exact ⟨Tryz.f70, _, Tryz.func70, rfl, rfl, Tryz.ntmps70, k70, q70⟩
  · cases h; exact ⟨Tryz.f71, _, Tryz.func71, rfl, rfl, Tryz.ntmps71, k71, q71⟩
  · cases h; exact ⟨Tryz.f73, _, Tryz.func73, rfl, rfl, Tryz.ntmps73, k73, q73⟩
  · cases h; exact ⟨Tryz.f74, _, Tryz.func74, rfl, rfl, Tryz.ntmps74, k74, q74⟩
  · cases h; exact ⟨Tryz.f75, _, Tryz.func75, rfl, rfl, Tryz.ntmps75, k75, q75⟩
  · cases h; exact ⟨Tryz.f76, _, Tryz.func76, rfl, rfl, Tryz.ntmps76, k76, q76⟩
  · cases h; exact ⟨Tryz.f77, _, Tryz.func77, rfl, rfl, Tryz.ntmps77, k77, q77⟩
  · cases h; exact ⟨Tryz.f81, _, Tryz.func81, rfl, rfl, Tryz.ntmps81, k81, q81⟩
  · cases h; exact ⟨Tryz.f83, _, Tryz.func83, rfl, rfl, Tryz.ntmps83, k83, q83⟩
  · cases h; exact ⟨Tryz.f85, _, Tryz.func85, rfl, rfl, Tryz.ntmps85, k85, q85⟩
  · cases h; exact ⟨Tryz.f86, _, Tryz.func86, rfl, rfl, Tryz.ntmps86, k86, q86⟩
  · cases h; exact ⟨Tryz.f87, _, Tryz.func87, rfl, rfl, Tryz.ntmps87, k87, q87⟩
  · cases h; exact ⟨Tryz.f91, _, Tryz.func91, rfl, rfl, Tryz.ntmps91, k91, q91⟩
  · cases h; exact ⟨Tryz.f93, _, Tryz.func93, rfl, rfl, Tryz.ntmps93, k93, q93⟩
  · cases h; exact ⟨Tryz.f94, _, Tryz.func94, rfl, rfl, Tryz.ntmps94, k94, q94⟩
  · cases h; exact ⟨Tryz.f98, _, Tryz.func98, rfl, rfl, Tryz.ntmps98, k98, q98⟩
  · cases h; exact ⟨Tryz.f99, _, Tryz.func99, rfl, rfl, Tryz.ntmps99, k99, q99⟩
  · cases h; exact ⟨Tryz.f101, _, Tryz.func101, rfl, rfl, Tryz.ntmps101, k101, q101⟩
  · cases h; exact ⟨Tryz.f102, _, Tryz.func102, rfl, rfl, Tryz.ntmps102, k102, q102⟩
  · cases h; exact ⟨Tryz.f103, _, Tryz.func103, rfl, rfl, Tryz.ntmps103, k103, q103⟩
  · cases h; exact ⟨Tryz.f104, _, Tryz.func104, rfl, rfl, Tryz.ntmps104, k104, q104⟩
  · cases h; exact ⟨Tryz.f105, _, Tryz.func105, rfl, rfl, Tryz.ntmps105, k105, q105⟩
  · cases h; exact ⟨Tryz.f106, _, Tryz.func106, rfl, rfl, Tryz.ntmps106, k106, q106⟩
  · cases h; exact ⟨Tryz.f110, _, Tryz.func110, rfl, rfl, Tryz.ntmps110, k110, q110⟩
  · cases h; exact ⟨Tryz.f111, _, Tryz.func111, rfl, rfl, Tryz.ntmps111, k111, q111⟩
  · cases h; exact ⟨Tryz.f112, _, Tryz.func112, rfl, rfl, Tryz.ntmps112, k112, q112⟩
  · cases h; exact ⟨Tryz.f113, _, Tryz.func113, rfl, rfl, Tryz.ntmps113, k113, q113⟩
  · cases h; exact ⟨Tryz.f114, _, Tryz.func114, rfl, rfl, Tryz.ntmps114, k114, q114⟩
  · cases h; exact ⟨Tryz.f118, _, Tryz.func118, rfl, rfl, Tryz.ntmps118, k118, q118⟩
  · cases h; exact ⟨Tryz.f119, _, Tryz.func119, rfl, rfl, Tryz.ntmps119, k119, q119⟩
  · cases h; exact ⟨Tryz.f120, _, Tryz.func120, rfl, rfl, Tryz.ntmps120, k120, q120⟩
  · cases h; exact ⟨Tryz.f122, _, Tryz.func122, rfl, rfl, Tryz.ntmps122, k122, q122⟩
  · cases h; exact ⟨Tryz.f123, _, Tryz.func123, rfl, rfl, Tryz.ntmps123, k123, q123⟩
  · cases h; exact ⟨Tryz.f124, _, Tryz.func124, rfl, rfl, Tryz.ntmps124, k124, q124⟩
  · cases h; exact ⟨Tryz.f125, _, Tryz.func125, rfl, rfl, Tryz.ntmps125, k125, q125⟩
  · cases h; exact ⟨Tryz.f126, _, Tryz.func126, rfl, rfl, Tryz.ntmps126, k126, q126⟩
  · cases h; exact ⟨Tryz.f127, _, Tryz.func127, rfl, rfl, Tryz.ntmps127, k127, q127⟩
  · cases h; exact ⟨Tryz.f128, _, Tryz.func128, rfl, rfl, Tryz.ntmps128, k128, q128⟩
  · cases h; exact ⟨Tryz.f129, _, Tryz.func129, rfl, rfl, Tryz.ntmps129, k129, q129⟩
  · cases h; exact ⟨Tryz.f130, _, Tryz.func130, rfl, rfl, Tryz.ntmps130, k130, q130⟩
  · cases h; exact ⟨Tryz.f131, _, Tryz.func131, rfl, rfl, Tryz.ntmps131, k131, q131⟩
  · cases h; exact ⟨Tryz.f132, _, Tryz.func132, rfl, rfl, Tryz.ntmps132, k132, q132⟩
  · cases h; exact ⟨Tryz.f133, _, Tryz.func133, rfl, rfl, Tryz.ntmps133, k133, q133⟩
  · cases h; exact ⟨Tryz.f134, _, Tryz.func134, rfl, rfl, Tryz.ntmps134, k134, q134⟩
  · cases h; exact ⟨Tryz.f135, _, Tryz.func135, rfl, rfl, Tryz.ntmps135, k135, q135⟩
  · cases h; exact ⟨Tryz.f136, _, Tryz.func136, rfl, rfl, Tryz.ntmps136, k136, q136⟩
  · cases h; exact ⟨Tryz.f137, _, Tryz.func137, rfl, rfl, Tryz.ntmps137, k137, q137⟩
  · cases h; exact ⟨Tryz.f139, _, Tryz.func139, rfl, rfl, Tryz.ntmps139, k139, q139⟩
  · cases h; exact ⟨Tryz.f143, _, Tryz.func143, rfl, rfl, Tryz.ntmps143, k143, q143⟩
  · cases h; exact ⟨Tryz.f144, _, Tryz.func144, rfl, rfl, Tryz.ntmps144, k144, q144⟩
  · cases h; exact ⟨Tryz.f146, _, Tryz.func146, rfl, rfl, Tryz.ntmps146, k146, q146⟩
  · cases h; exact ⟨Tryz.f147, _, Tryz.func147, rfl, rfl, Tryz.ntmps147, k147, q147⟩
  · cases h; exact ⟨Tryz.f150, _, Tryz.func150, rfl, rfl, Tryz.ntmps150, k150, q150⟩
  · cases h; exact ⟨Tryz.f156, _, Tryz.func156, rfl, rfl, Tryz.ntmps156, k156, q156⟩
  · cases h; exact ⟨Tryz.f157, _, Tryz.func157, rfl, rfl, Tryz.ntmps157, k157, q157⟩
  · cases h; exact ⟨Tryz.f160, _, Tryz.func160, rfl, rfl, Tryz.ntmps160, k160, q160⟩
  · cases h; exact ⟨Tryz.f161, _, Tryz.func161, rfl, rfl, Tryz.ntmps161, k161, q161⟩
  · cases h; exact ⟨Tryz.f162, _, Tryz.func162, rfl, rfl, Tryz.ntmps162, k162, q162⟩
  · cases h; exact ⟨Tryz.f163, _, Tryz.func163, rfl, rfl, Tryz.ntmps163, k163, q163⟩
  · cases h; exact ⟨Tryz.f170, _, Tryz.func170, rfl, rfl, Tryz.ntmps170, k170, q170⟩
  · cases h; exact ⟨Tryz.f173, _, Tryz.func173, rfl, rfl, Tryz.ntmps173, k173, q173⟩
  · cases h; exact ⟨Tryz.f186, _, Tryz.func186, rfl, rfl, Tryz.ntmps186, k186, q186⟩
  · cases h; exact ⟨Tryz.f189, _, Tryz.func189, rfl, rfl, Tryz.ntmps189, k189, q189⟩
  · cases h; exact ⟨Tryz.f190, _, Tryz.func190, rfl, rfl, Tryz.ntmps190, k190, q190⟩
  · cases h; exact ⟨Tryz.f194, _, Tryz.func194, rfl, rfl, Tryz.ntmps194, k194, q194⟩
  · cases h; exact ⟨Tryz.f206, _, Tryz.func206, rfl, rfl, Tryz.ntmps206, k206, q206⟩
  · cases h; exact ⟨Tryz.f208, _, Tryz.func208, rfl, rfl, Tryz.ntmps208, k208, q208⟩
  · cases h; exact ⟨Tryz.f214, _, Tryz.func214, rfl, rfl, Tryz.ntmps214, k214, q214⟩
  · cases h

end Go.Proofs.YtalalolgdekelaaGreatDoor.Ev

/- slices.Clone: a row of the caller's own. -/
set_option linter.unusedSimpArgs false
namespace Go.Proofs.YtalalolgdekelaaGreatDoor.Cl
open Go Am Rc Bt

theorem flat_nil0 {sz : Nat} (h0 : sz ≠ 0) {xs : List AV} (h : xs.all (fun e => e.cells.length == sz) = true) (hf : flat xs = []) : xs = [] := by
  cases xs with
  | nil => rfl
  | cons x xs =>
    have hl : x.cells.length = sz := by simpa using List.all_eq_true.1 h x (by simp)
    have : x.cells = [] := (List.append_eq_nil_iff.1 hf).1
    rw [this] at hl
    exact absurd hl.symm h0

/-- What a cloning is, as the run takes it. -/
def cloned (sz : Nat) (args : List AV) (m : Mem) : Option (AV × Mem) :=
  match args, m with
  | [.list xs], fr :: m => bif xs.all (fun e => e.cells.length == sz) && Nat.ble xs.length 1000000 && rowOrNone (fr 1000) then some (.vec 0 1000 (ngen (fr 1000)) 0 xs.length false, upd fr 1000 (.vec (ngen (fr 1000)) sz xs) :: m) else none
  | _, _ => none

theorem cloned_ok {P : Program} {k sz : Nat} (hk : ∀ (xs : List AV) (fr : Nat → Ob) (m : Mem), xs.all (fun e => e.cells.length == sz) = true → xs.length ≤ 1000000 → rowOrNone (fr 1000) = true →
    ACalls P k [.list xs] (fr :: m) (fun x m1 => x = .vec 0 1000 (ngen (fr 1000)) 0 xs.length false ∧ m1 = upd fr 1000 (.vec (ngen (fr 1000)) sz xs) :: m)) {args : List AV} {m m' : Mem} {v : AV} (h : cloned sz args m = some (v, m')) : ACalls P k args m fun x m1 => x = v ∧ m1 = m' := by
  unfold cloned at h
  split at h
  · rename_i xs fr m0
    cases hb : (xs.all (fun e => e.cells.length == sz) && Nat.ble xs.length 1000000 && rowOrNone (fr 1000)) with
    | false => rw [hb] at h; cases h
    | true =>
      rw [hb] at h
      simp only [cond_true, Option.some.injEq, Prod.mk.injEq] at h
      simp only [Bool.and_eq_true] at hb
      obtain ⟨rfl, rfl⟩ := h
      exact hk xs fr m0 hb.1.1 (Nat.le_of_ble_eq_true hb.1.2) hb.2
  · cases h

theorem c48 (xs : List AV) (fr : Nat → Ob) (m : Mem) (h : xs.all (fun e => e.cells.length == 4) = true) (hn : xs.length ≤ 1000000) (hr : rowOrNone (fr 1000) = true) :
    ACalls Tryz.prog 48 [.list xs] (fr :: m) (fun x m1 => x = .vec 0 1000 (ngen (fr 1000)) 0 xs.length false ∧ m1 = upd fr 1000 (.vec (ngen (fr 1000)) 4 xs) :: m) := by
  have hng : newGen (fr :: m) 0 1000 = ngen (fr 1000) := newGen_fr
  refine acalls_of_awp (rc := r48) (rs := o48) Tryz.func48 rfl rfl Tryz.ntmps48 k48 q48 (by simp) ?_
  simp only [r48, g48_0, g48_1, eES, eEX, Nat.reduceBEq, Int.reduceLE, Int.reduceLT, Int.reduceToNat, Int.reduceEq, ↓reduceIte, reduceCtorEq, Nat.reducePow, Nat.reduceAdd, Nat.reduceLeDiff, Nat.reduceLT, Nat.reduceSub, Nat.reduceEqDiff]
  refine aops_isnil (ys := xs) (by simp only [eES, eEX, Nat.reduceBEq, Int.reduceLE, Int.reduceLT, Int.reduceToNat, Int.reduceEq, ↓reduceIte, reduceCtorEq, Nat.reducePow, Nat.reduceAdd, Nat.reduceLeDiff, Nat.reduceLT, Nat.reduceSub, Nat.reduceEqDiff]) ?_ ?_
  · simp only [g48_3, eES, eEX, Nat.reduceBEq, Int.reduceLE, Int.reduceLT, Int.reduceToNat, Int.reduceEq, ↓reduceIte, reduceCtorEq, Nat.reducePow, Nat.reduceAdd, Nat.reduceLeDiff, Nat.reduceLT, Nat.reduceSub, Nat.reduceEqDiff]
    refine aops_bsl0 rfl ?_
    simp only [eES, eEX, Nat.reduceBEq, Int.reduceLE, Int.reduceLT, Int.reduceToNat, Int.reduceEq, ↓reduceIte, reduceCtorEq, Nat.reducePow, Nat.reduceAdd, Nat.reduceLeDiff, Nat.reduceLT, Nat.reduceSub, Nat.reduceEqDiff]
    refine aops_app (site := 5) (g := 1) (xs := []) (ys := xs) rfl rfl rfl rfl rfl h (by simp [maxLen]; omega) (by simp; omega) ?_
    simp only [eES, eEX, Nat.reduceBEq, Int.reduceLE, Int.reduceLT, Int.reduceToNat, Int.reduceEq, ↓reduceIte, reduceCtorEq, Nat.reducePow, Nat.reduceAdd, Nat.reduceLeDiff, Nat.reduceLT, Nat.reduceSub, Nat.reduceEqDiff]
    refine awp_give (l := 0) (site := 5) (g := 2) (o := 0) (n := xs.length) (q := false) (sz := 4) (xs := xs) (by simp only [Nat.zero_add, eES, eEX, Nat.reduceBEq, Int.reduceLE, Int.reduceLT, Int.reduceToNat, Int.reduceEq, ↓reduceIte, reduceCtorEq, Nat.reducePow, Nat.reduceAdd, Nat.reduceLeDiff, Nat.reduceLT, Nat.reduceSub, Nat.reduceEqDiff]) (by simp only [eES, eEX, Nat.reduceBEq, Int.reduceLE, Int.reduceLT, Int.reduceToNat, Int.reduceEq, ↓reduceIte, reduceCtorEq, Nat.reducePow, Nat.reduceAdd, Nat.reduceLeDiff, Nat.reduceLT, Nat.reduceSub, Nat.reduceEqDiff]) (by simp) (by decide) hr ?_
    simp only [hng, o48, eES, eEX, Nat.reduceBEq, Int.reduceLE, Int.reduceLT, Int.reduceToNat, Int.reduceEq, ↓reduceIte, reduceCtorEq, Nat.reducePow, Nat.reduceAdd, Nat.reduceLeDiff, Nat.reduceLT, Nat.reduceSub, Nat.reduceEqDiff]
    simp [AV.still, AV.un, isV, vget]
  · intro he
    have hx : xs = [] := by
      rcases he with he | he
      · exact he
      · exact flat_nil0 (by decide) h he
    subst hx
    simp only [g48_2, eES, eEX, Nat.reduceBEq, Int.reduceLE, Int.reduceLT, Int.reduceToNat, Int.reduceEq, ↓reduceIte, reduceCtorEq, Nat.reducePow, Nat.reduceAdd, Nat.reduceLeDiff, Nat.reduceLT, Nat.reduceSub, Nat.reduceEqDiff]
    refine awp_vec (by simp only [eES, eEX, Nat.reduceBEq, Int.reduceLE, Int.reduceLT, Int.reduceToNat, Int.reduceEq, ↓reduceIte, reduceCtorEq, Nat.reducePow, Nat.reduceAdd, Nat.reduceLeDiff, Nat.reduceLT, Nat.reduceSub, Nat.reduceEqDiff]) rfl ?_
    simp only [eES, eEX, Nat.reduceBEq, Int.reduceLE, Int.reduceLT, Int.reduceToNat, Int.reduceEq, ↓reduceIte, reduceCtorEq, Nat.reducePow, Nat.reduceAdd, Nat.reduceLeDiff, Nat.reduceLT, Nat.reduceSub, Nat.reduceEqDiff]
    refine awp_give (l := 0) (site := 2) (g := 1) (o := 0) (n := 0) (q := false) (sz := 4) (xs := []) (by simp only [eES, eEX, Nat.reduceBEq, Int.reduceLE, Int.reduceLT, Int.reduceToNat, Int.reduceEq, ↓reduceIte, reduceCtorEq, Nat.reducePow, Nat.reduceAdd, Nat.reduceLeDiff, Nat.reduceLT, Nat.reduceSub, Nat.reduceEqDiff]) (by simp only [eES, eEX, Nat.reduceBEq, Int.reduceLE, Int.reduceLT, Int.reduceToNat, Int.reduceEq, ↓reduceIte, reduceCtorEq, Nat.reducePow, Nat.reduceAdd, Nat.reduceLeDiff, Nat.reduceLT, Nat.reduceSub, Nat.reduceEqDiff]) (by simp) (by decide) hr ?_
    simp only [hng, o48, eES, eEX, Nat.reduceBEq, Int.reduceLE, Int.reduceLT, Int.reduceToNat, Int.reduceEq, ↓reduceIte, reduceCtorEq, Nat.reducePow, Nat.reduceAdd, Nat.reduceLeDiff, Nat.reduceLT, Nat.reduceSub, Nat.reduceEqDiff]
    simp [AV.still, AV.un, isV, vget]

theorem c117 (xs : List AV) (fr : Nat → Ob) (m : Mem) (h : xs.all (fun e => e.cells.length == 8) = true) (hn : xs.length ≤ 1000000) (hr : rowOrNone (fr 1000) = true) :
    ACalls Tryz.prog 117 [.list xs] (fr :: m) (fun x m1 => x = .vec 0 1000 (ngen (fr 1000)) 0 xs.length false ∧ m1 = upd fr 1000 (.vec (ngen (fr 1000)) 8 xs) :: m) := by
  have hng : newGen (fr :: m) 0 1000 = ngen (fr 1000) := newGen_fr
  refine acalls_of_awp (rc := r117) (rs := o117) Tryz.func117 rfl rfl Tryz.ntmps117 k117 q117 (by simp) ?_
  simp only [r117, g117_0, g117_1, eES, eEX, Nat.reduceBEq, Int.reduceLE, Int.reduceLT, Int.reduceToNat, Int.reduceEq, ↓reduceIte, reduceCtorEq, Nat.reducePow, Nat.reduceAdd, Nat.reduceLeDiff, Nat.reduceLT, Nat.reduceSub, Nat.reduceEqDiff]
  refine aops_isnil (ys := xs) (by simp only [eES, eEX, Nat.reduceBEq, Int.reduceLE, Int.reduceLT, Int.reduceToNat, Int.reduceEq, ↓reduceIte, reduceCtorEq, Nat.reducePow, Nat.reduceAdd, Nat.reduceLeDiff, Nat.reduceLT, Nat.reduceSub, Nat.reduceEqDiff]) ?_ ?_
  · simp only [g117_3, eES, eEX, Nat.reduceBEq, Int.reduceLE, Int.reduceLT, Int.reduceToNat, Int.reduceEq, ↓reduceIte, reduceCtorEq, Nat.reducePow, Nat.reduceAdd, Nat.reduceLeDiff, Nat.reduceLT, Nat.reduceSub, Nat.reduceEqDiff]
    refine aops_bsl0 rfl ?_
    simp only [eES, eEX, Nat.reduceBEq, Int.reduceLE, Int.reduceLT, Int.reduceToNat, Int.reduceEq, ↓reduceIte, reduceCtorEq, Nat.reducePow, Nat.reduceAdd, Nat.reduceLeDiff, Nat.reduceLT, Nat.reduceSub, Nat.reduceEqDiff]
    refine aops_app (site := 5) (g := 1) (xs := []) (ys := xs) rfl rfl rfl rfl rfl h (by simp [maxLen]; omega) (by simp; omega) ?_
    simp only [eES, eEX, Nat.reduceBEq, Int.reduceLE, Int.reduceLT, Int.reduceToNat, Int.reduceEq, ↓reduceIte, reduceCtorEq, Nat.reducePow, Nat.reduceAdd, Nat.reduceLeDiff, Nat.reduceLT, Nat.reduceSub, Nat.reduceEqDiff]
    refine awp_give (l := 0) (site := 5) (g := 2) (o := 0) (n := xs.length) (q := false) (sz := 8) (xs := xs) (by simp only [Nat.zero_add, eES, eEX, Nat.reduceBEq, Int.reduceLE, Int.reduceLT, Int.reduceToNat, Int.reduceEq, ↓reduceIte, reduceCtorEq, Nat.reducePow, Nat.reduceAdd, Nat.reduceLeDiff, Nat.reduceLT, Nat.reduceSub, Nat.reduceEqDiff]) (by simp only [eES, eEX, Nat.reduceBEq, Int.reduceLE, Int.reduceLT, Int.reduceToNat, Int.reduceEq, ↓reduceIte, reduceCtorEq, Nat.reducePow, Nat.reduceAdd, Nat.reduceLeDiff, Nat.reduceLT, Nat.reduceSub, Nat.reduceEqDiff]) (by simp) (by decide) hr ?_
    simp only [hng, o117, eES, eEX, Nat.reduceBEq, Int.reduceLE, Int.reduceLT, Int.reduceToNat, Int.reduceEq, ↓reduceIte, reduceCtorEq, Nat.reducePow, Nat.reduceAdd, Nat.reduceLeDiff, Nat.reduceLT, Nat.reduceSub, Nat.reduceEqDiff]
    simp [AV.still, AV.un, isV, vget]
  · intro he
    have hx : xs = [] := by
      rcases he with he | he
      · exact he
      · exact flat_nil0 (by decide) h he
    subst hx
    simp only [g117_2, eES, eEX, Nat.reduceBEq, Int.reduceLE, Int.reduceLT, Int.reduceToNat, Int.reduceEq, ↓reduceIte, reduceCtorEq, Nat.reducePow, Nat.reduceAdd, Nat.reduceLeDiff, Nat.reduceLT, Nat.reduceSub, Nat.reduceEqDiff]
    refine awp_vec (by simp only [eES, eEX, Nat.reduceBEq, Int.reduceLE, Int.reduceLT, Int.reduceToNat, Int.reduceEq, ↓reduceIte, reduceCtorEq, Nat.reducePow, Nat.reduceAdd, Nat.reduceLeDiff, Nat.reduceLT, Nat.reduceSub, Nat.reduceEqDiff]) rfl ?_
    simp only [eES, eEX, Nat.reduceBEq, Int.reduceLE, Int.reduceLT, Int.reduceToNat, Int.reduceEq, ↓reduceIte, reduceCtorEq, Nat.reducePow, Nat.reduceAdd, Nat.reduceLeDiff, Nat.reduceLT, Nat.reduceSub, Nat.reduceEqDiff]
    refine awp_give (l := 0) (site := 2) (g := 1) (o := 0) (n := 0) (q := false) (sz := 8) (xs := []) (by simp only [eES, eEX, Nat.reduceBEq, Int.reduceLE, Int.reduceLT, Int.reduceToNat, Int.reduceEq, ↓reduceIte, reduceCtorEq, Nat.reducePow, Nat.reduceAdd, Nat.reduceLeDiff, Nat.reduceLT, Nat.reduceSub, Nat.reduceEqDiff]) (by simp only [eES, eEX, Nat.reduceBEq, Int.reduceLE, Int.reduceLT, Int.reduceToNat, Int.reduceEq, ↓reduceIte, reduceCtorEq, Nat.reducePow, Nat.reduceAdd, Nat.reduceLeDiff, Nat.reduceLT, Nat.reduceSub, Nat.reduceEqDiff]) (by simp) (by decide) hr ?_
    simp only [hng, o117, eES, eEX, Nat.reduceBEq, Int.reduceLE, Int.reduceLT, Int.reduceToNat, Int.reduceEq, ↓reduceIte, reduceCtorEq, Nat.reducePow, Nat.reduceAdd, Nat.reduceLeDiff, Nat.reduceLT, Nat.reduceSub, Nat.reduceEqDiff]
    simp [AV.still, AV.un, isV, vget]

theorem c116 (xs : List AV) (fr : Nat → Ob) (m : Mem) (h : xs.all (fun e => e.cells.length == 7) = true) (hn : xs.length ≤ 1000000) (hr : rowOrNone (fr 1000) = true) :
    ACalls Tryz.prog 116 [.list xs] (fr :: m) (fun x m1 => x = .vec 0 1000 (ngen (fr 1000)) 0 xs.length false ∧ m1 = upd fr 1000 (.vec (ngen (fr 1000)) 7 xs) :: m) := by
  have hng : newGen (fr :: m) 0 1000 = ngen (fr 1000) := newGen_fr
  refine acalls_of_awp (rc := r116) (rs := o116) Tryz.func116 rfl rfl Tryz.ntmps116 k116 q116 (by simp) ?_
  simp only [r116, g116_0, g116_1, eES, eEX, Nat.reduceBEq, Int.reduceLE, Int.reduceLT, Int.reduceToNat, Int.reduceEq, ↓reduceIte, reduceCtorEq, Nat.reducePow, Nat.reduceAdd, Nat.reduceLeDiff, Nat.reduceLT, Nat.reduceSub, Nat.reduceEqDiff]
  refine aops_isnil (ys := xs) (by simp only [eES, eEX, Nat.reduceBEq, Int.reduceLE, Int.reduceLT, Int.reduceToNat, Int.reduceEq, ↓reduceIte, reduceCtorEq, Nat.reducePow, Nat.reduceAdd, Nat.reduceLeDiff, Nat.reduceLT, Nat.reduceSub, Nat.reduceEqDiff]) ?_ ?_
  · simp only [g116_3, eES, eEX, Nat.reduceBEq, Int.reduceLE, Int.reduceLT, Int.reduceToNat, Int.reduceEq, ↓reduceIte, reduceCtorEq, Nat.reducePow, Nat.reduceAdd, Nat.reduceLeDiff, Nat.reduceLT, Nat.reduceSub, Nat.reduceEqDiff]
    refine aops_bsl0 rfl ?_
    simp only [eES, eEX, Nat.reduceBEq, Int.reduceLE, Int.reduceLT, Int.reduceToNat, Int.reduceEq, ↓reduceIte, reduceCtorEq, Nat.reducePow, Nat.reduceAdd, Nat.reduceLeDiff, Nat.reduceLT, Nat.reduceSub, Nat.reduceEqDiff]
    refine aops_app (site := 5) (g := 1) (xs := []) (ys := xs) rfl rfl rfl rfl rfl h (by simp [maxLen]; omega) (by simp; omega) ?_
    simp only [eES, eEX, Nat.reduceBEq, Int.reduceLE, Int.reduceLT, Int.reduceToNat, Int.reduceEq, ↓reduceIte, reduceCtorEq, Nat.reducePow, Nat.reduceAdd, Nat.reduceLeDiff, Nat.reduceLT, Nat.reduceSub, Nat.reduceEqDiff]
    refine awp_give (l := 0) (site := 5) (g := 2) (o := 0) (n := xs.length) (q := false) (sz := 7) (xs := xs) (by simp only [Nat.zero_add, eES, eEX, Nat.reduceBEq, Int.reduceLE, Int.reduceLT, Int.reduceToNat, Int.reduceEq, ↓reduceIte, reduceCtorEq, Nat.reducePow, Nat.reduceAdd, Nat.reduceLeDiff, Nat.reduceLT, Nat.reduceSub, Nat.reduceEqDiff]) (by simp only [eES, eEX, Nat.reduceBEq, Int.reduceLE, Int.reduceLT, Int.reduceToNat, Int.reduceEq, ↓reduceIte, reduceCtorEq, Nat.reducePow, Nat.reduceAdd, Nat.reduceLeDiff, Nat.reduceLT, Nat.reduceSub, Nat.reduceEqDiff]) (by simp) (by decide) hr ?_
    simp only [hng, o116, eES, eEX, Nat.reduceBEq, Int.reduceLE, Int.reduceLT, Int.reduceToNat, Int.reduceEq, ↓reduceIte, reduceCtorEq, Nat.reducePow, Nat.reduceAdd, Nat.reduceLeDiff, Nat.reduceLT, Nat.reduceSub, Nat.reduceEqDiff]
    simp [AV.still, AV.un, isV, vget]
  · intro he
    have hx : xs = [] := by
      rcases he with he | he
      · exact he
      · exact flat_nil0 (by decide) h he
    subst hx
    simp only [g116_2, eES, eEX, Nat.reduceBEq, Int.reduceLE, Int.reduceLT, Int.reduceToNat, Int.reduceEq, ↓reduceIte, reduceCtorEq, Nat.reducePow, Nat.reduceAdd, Nat.reduceLeDiff, Nat.reduceLT, Nat.reduceSub, Nat.reduceEqDiff]
    refine awp_vec (by simp only [eES, eEX, Nat.reduceBEq, Int.reduceLE, Int.reduceLT, Int.reduceToNat, Int.reduceEq, ↓reduceIte, reduceCtorEq, Nat.reducePow, Nat.reduceAdd, Nat.reduceLeDiff, Nat.reduceLT, Nat.reduceSub, Nat.reduceEqDiff]) rfl ?_
    simp only [eES, eEX, Nat.reduceBEq, Int.reduceLE, Int.reduceLT, Int.reduceToNat, Int.reduceEq, ↓reduceIte, reduceCtorEq, Nat.reducePow, Nat.reduceAdd, Nat.reduceLeDiff, Nat.reduceLT, Nat.reduceSub, Nat.reduceEqDiff]
    refine awp_give (l := 0) (site := 2) (g := 1) (o := 0) (n := 0) (q := false) (sz := 7) (xs := []) (by simp only [eES, eEX, Nat.reduceBEq, Int.reduceLE, Int.reduceLT, Int.reduceToNat, Int.reduceEq, ↓reduceIte, reduceCtorEq, Nat.reducePow, Nat.reduceAdd, Nat.reduceLeDiff, Nat.reduceLT, Nat.reduceSub, Nat.reduceEqDiff]) (by simp only [eES, eEX, Nat.reduceBEq, Int.reduceLE, Int.reduceLT, Int.reduceToNat, Int.reduceEq, ↓reduceIte, reduceCtorEq, Nat.reducePow, Nat.reduceAdd, Nat.reduceLeDiff, Nat.reduceLT, Nat.reduceSub, Nat.reduceEqDiff]) (by simp) (by decide) hr ?_
    simp only [hng, o116, eES, eEX, Nat.reduceBEq, Int.reduceLE, Int.reduceLT, Int.reduceToNat, Int.reduceEq, ↓reduceIte, reduceCtorEq, Nat.reducePow, Nat.reduceAdd, Nat.reduceLeDiff, Nat.reduceLT, Nat.reduceSub, Nat.reduceEqDiff]
    simp [AV.still, AV.un, isV, vget]

end Go.Proofs.YtalalolgdekelaaGreatDoor.Cl

/- What the run takes as done: clonings. -/
namespace Go.Proofs.YtalalolgdekelaaGreatDoor.Ev
open Go Am Rc Cl

def nat : Cal := fun k args m =>
  if k = 48 then cloned 4 args m
  else if k = 117 then cloned 8 args m
  else if k = 116 then cloned 7 args m
  else none

theorem nat_ok : CalOk Tryz.prog nat := by
  intro k args m v m' h
  unfold nat at h
  split at h
  · rename_i e; subst e; exact cloned_ok c48 h
  split at h
  · rename_i e; subst e; exact cloned_ok c117 h
  split at h
  · rename_i e; subst e; exact cloned_ok c116 h
  · cases h

end Go.Proofs.YtalalolgdekelaaGreatDoor.Ev

/- awake: by running it. -/
namespace Go.Proofs.YtalalolgdekelaaGreatDoor.Ev
open Go Am Rc Cl

theorem awake_run : evT nat tab 3000 5 [] = true := by decide +kernel

theorem awake_ok : Fn1 Tryz.prog 5 [] (.bool true) := fn1_of_evT nat_ok tab_ok awake_run

end Go.Proofs.YtalalolgdekelaaGreatDoor.Ev

/- The law of scalars as raw fields. -/
set_option linter.unusedSimpArgs false
namespace Go.Proofs.YtalalolgdekelaaGreatDoor.Va
open Go Am Rc Bt Br Up

def rsw (l : List R) : List AV := l.map R.av
theorem rsw_len (a : List R) : (rsw a).length = a.length := by simp [rsw]

def SameI (l : List R) (k : Nat) (st : St) : Prop :=
  ∃ f i, st = ⟨f, [noObs], []⟩ ∧ k = l.length - i ∧ i ≤ l.length ∧ f 0 = .list (rsw l) ∧ f 1 = .list (rsw l) ∧ f 5 = .int .i64 (i : Nat)

theorem z6 (l : List R) (hn : l.length < 9223372036854775807) : Fn1 Tryz.prog 6 [.list (rsw l), .list (rsw l)] (.bool true) := by
  refine fn1_of_awp (rc := r6) (rs := o6) Tryz.func6 rfl rfl Tryz.ntmps6 k6 q6 (by simp) ?_
  simp only [g6_0, g6_1, g6_2, g6_3, g6_4, g6_6, g6_7, g6_5, g6_8, r6, o6, bne_self_eq_false, eES, eEX, Nat.reduceBEq, Int.reduceLE, Int.reduceLT, Int.reduceToNat, Int.reduceEq, ↓reduceIte, reduceCtorEq, Nat.reducePow, Nat.reduceAdd, Nat.reduceLeDiff, Nat.reduceLT, Nat.reduceSub, Nat.reduceEqDiff]
  refine awp_loop (SameI l) _ ⟨_, 0, rfl, rfl, Nat.zero_le _, rfl, rfl, rfl⟩ ?_
  rintro n st ⟨f, i, rfl, rfl, hi, h0, h1, h5⟩
  simp only [l6_0, g6_0, g6_1, g6_2, g6_3, g6_4, g6_6, g6_7, g6_5, g6_8, r6, o6, h0, h1, h5, rsw_len, eES, eEX, Nat.reduceBEq, Int.reduceLE, Int.reduceLT, Int.reduceToNat, Int.reduceEq, ↓reduceIte, reduceCtorEq, Nat.reducePow, Nat.reduceAdd, Nat.reduceLeDiff, Nat.reduceLT, Nat.reduceSub, Nat.reduceEqDiff]
  by_cases hlt : i < l.length
  · obtain ⟨fd, hfd⟩ : ∃ fd, l[i]? = some fd := ⟨l[i], List.getElem?_eq_getElem hlt⟩
    have hfa : (rsw l)[i]? = some fd.av := by simp [rsw, hfd]
    have e1 := wi64_s i _ hlt (by simp only [maxLen]; omega)
    simp only [lt_t hlt, nneg, e1, Int.toNat_natCast, aiaddr, hfa, R.av, beq_self_eq_true, h0, h1, h5, eES, eEX, Nat.reduceBEq, Int.reduceLE, Int.reduceLT, Int.reduceToNat, Int.reduceEq, ↓reduceIte, reduceCtorEq, Nat.reducePow, Nat.reduceAdd, Nat.reduceLeDiff, Nat.reduceLT, Nat.reduceSub, Nat.reduceEqDiff]
    exact ⟨l.length - (i + 1), by omega, _, i + 1, rfl, rfl, by omega, (by first | rfl | exact h0 | simp only [h0, eES, eEX, Nat.reduceBEq, Int.reduceLE, Int.reduceLT, Int.reduceToNat, Int.reduceEq, ↓reduceIte, reduceCtorEq, Nat.reducePow, Nat.reduceAdd, Nat.reduceLeDiff, Nat.reduceLT, Nat.reduceSub, Nat.reduceEqDiff]), (by first | rfl | exact h1 | simp only [h1, eES, eEX, Nat.reduceBEq, Int.reduceLE, Int.reduceLT, Int.reduceToNat, Int.reduceEq, ↓reduceIte, reduceCtorEq, Nat.reducePow, Nat.reduceAdd, Nat.reduceLeDiff, Nat.reduceLT, Nat.reduceSub, Nat.reduceEqDiff]), (by first | rfl | simp only [eES, eEX, Nat.reduceBEq, Int.reduceLE, Int.reduceLT, Int.reduceToNat, Int.reduceEq, ↓reduceIte, reduceCtorEq, Nat.reducePow, Nat.reduceAdd, Nat.reduceLeDiff, Nat.reduceLT, Nat.reduceSub, Nat.reduceEqDiff])⟩
  · simp only [lt_f hlt, h0, h1, h5, eES, eEX, Nat.reduceBEq, Int.reduceLE, Int.reduceLT, Int.reduceToNat, Int.reduceEq, ↓reduceIte, reduceCtorEq, Nat.reducePow, Nat.reduceAdd, Nat.reduceLeDiff, Nat.reduceLT, Nat.reduceSub, Nat.reduceEqDiff]

theorem c3 (n : Nat) (cs : List AV) (hV : IsV n cs) : Fn1 Tryz.prog 3 [.agg cs] (.bool true) := by
  have hF := c4 n cs hV 500
  cases n with
  | zero => exact hV.elim
  | succ n =>
  obtain ⟨k, bi, t, ls, ps, ss, rs, rfl, _, hwb, _⟩ := hV
  have hb0 : 0 ≤ bi := u64_lo hwb
  have hb1 := u64_hi hwb
  obtain ⟨b, rfl⟩ := Int.eq_ofNat_of_zero_le hb0
  have hk1 := y7 k b (by omega) t (ls.map .agg) (ps.map fun p => .agg (p.1 ++ p.2)) (ss.map fun s => .agg (.int .i64 s.1 :: s.2)) (rs.map R.av)
  have hk2 := y8 k b t (ls.map .agg) (ps.map fun p => .agg (p.1 ++ p.2)) (ss.map fun s => .agg (.int .i64 s.1 :: s.2)) (rs.map R.av)
  have hk3 := z6 [sraw k b t] (by simp)
  simp only [vcs] at hF ⊢
  simp only [vv] at hk1 hk2
  generalize sraw k b t = q at hk1 hk2 hk3
  simp only [rsw, List.map_cons, List.map_nil, R.av] at hk1 hk2 hk3
  generalize ls.map AV.agg = L3 at *
  generalize ps.map (fun p => AV.agg (p.1 ++ p.2)) = L4 at *
  generalize ss.map (fun s => AV.agg (.int .i64 s.1 :: s.2)) = L5 at *
  generalize rs.map R.av = L6 at *
  refine fn1_of_awp (rc := r3) (rs := o3) Tryz.func3 rfl rfl Tryz.ntmps3 k3 q3 (by simp) ?_
  simp only [g3_0, g3_1, g3_2, g3_3, r3, o3, eES, eEX, Nat.reduceBEq, Int.reduceLE, Int.reduceLT, Int.reduceToNat, Int.reduceEq, ↓reduceIte, reduceCtorEq, Nat.reducePow, Nat.reduceAdd, Nat.reduceLeDiff, Nat.reduceLT, Nat.reduceSub, Nat.reduceEqDiff]
  repeat' (first | (refine csel_of (fun h => ?_) (fun h => ?_) <;> simp only [h, eES, eEX, Nat.reduceBEq, Int.reduceLE, Int.reduceLT, Int.reduceToNat, Int.reduceEq, ↓reduceIte, reduceCtorEq, Nat.reducePow, Nat.reduceAdd, Nat.reduceLeDiff, Nat.reduceLT, Nat.reduceSub, Nat.reduceEqDiff]) | (refine gsel_t (fun h => ?_) (fun h => ?_) <;> simp only [h, updO, eES, eEX, Nat.reduceBEq, Int.reduceLE, Int.reduceLT, Int.reduceToNat, Int.reduceEq, ↓reduceIte, reduceCtorEq, Nat.reducePow, Nat.reduceAdd, Nat.reduceLeDiff, Nat.reduceLT, Nat.reduceSub, Nat.reduceEqDiff]) | (refine gsel_f (fun h => ?_) (fun h => ?_) <;> simp only [h, updO, eES, eEX, Nat.reduceBEq, Int.reduceLE, Int.reduceLT, Int.reduceToNat, Int.reduceEq, ↓reduceIte, reduceCtorEq, Nat.reducePow, Nat.reduceAdd, Nat.reduceLeDiff, Nat.reduceLT, Nat.reduceSub, Nat.reduceEqDiff]) | ((with_reducible apply aops_callR (k := 4) (R := RB)); (case h2 => exact fun _ h => h.rf); (case hy => rfl); (case h1 => rfl); (case hk => exact hF); rintro _ ⟨b, rfl⟩; cases b <;> simp only [eES, eEX, Nat.reduceBEq, Int.reduceLE, Int.reduceLT, Int.reduceToNat, Int.reduceEq, ↓reduceIte, reduceCtorEq, Nat.reducePow, Nat.reduceAdd, Nat.reduceLeDiff, Nat.reduceLT, Nat.reduceSub, Nat.reduceEqDiff]))
  · refine aops_call Ev.awake_ok rfl rfl rfl (.inl rfl) ?_
    simp only [eES, eEX, Nat.reduceBEq, Int.reduceLE, Int.reduceLT, Int.reduceToNat, Int.reduceEq, ↓reduceIte, reduceCtorEq, Nat.reducePow, Nat.reduceAdd, Nat.reduceLeDiff, Nat.reduceLT, Nat.reduceSub, Nat.reduceEqDiff]
  · refine aops_call hk1 rfl rfl rfl (.inl rfl) ?_
    refine aops_bslA rfl rfl (by decide) rfl rfl ?_
    simp only [List.map_cons, List.map_nil, nn0, eES, eEX, Nat.reduceBEq, Int.reduceLE, Int.reduceLT, Int.reduceToNat, Int.reduceEq, ↓reduceIte, reduceCtorEq, Nat.reducePow, Nat.reduceAdd, Nat.reduceLeDiff, Nat.reduceLT, Nat.reduceSub, Nat.reduceEqDiff]
    refine aops_call hk2 rfl rfl rfl (.inl rfl) ?_
    refine aops_bslA rfl rfl (by decide) rfl rfl ?_
    refine aops_call hk3 rfl rfl rfl (.inl rfl) ?_
    simp only [eES, eEX, Nat.reduceBEq, Int.reduceLE, Int.reduceLT, Int.reduceToNat, Int.reduceEq, ↓reduceIte, reduceCtorEq, Nat.reducePow, Nat.reduceAdd, Nat.reduceLeDiff, Nat.reduceLT, Nat.reduceSub, Nat.reduceEqDiff]
    refine aops_call Ev.awake_ok rfl rfl rfl (.inl rfl) ?_
    simp only [eES, eEX, Nat.reduceBEq, Int.reduceLE, Int.reduceLT, Int.reduceToNat, Int.reduceEq, ↓reduceIte, reduceCtorEq, Nat.reducePow, Nat.reduceAdd, Nat.reduceLeDiff, Nat.reduceLT, Nat.reduceSub, Nat.reduceEqDiff]

end Go.Proofs.YtalalolgdekelaaGreatDoor.Va

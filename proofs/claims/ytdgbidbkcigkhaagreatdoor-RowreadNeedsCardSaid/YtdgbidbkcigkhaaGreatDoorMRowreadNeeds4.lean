/- Parts of the proof, in order. -/
import Derived.Test.YtdgbidbkcigkhaaGreatDoorMRowreadNeeds3

set_option linter.unusedSimpArgs false
namespace Go.Proofs.YtdgbidbkcigkhaaGreatDoor.Va
open Go Am Rc Bt Br

section
variable {M : Nat} (P : PL) (hP : P.ok M) (fr : Nat → Ob) (m1 : fr 1 = .cells (Pc P)) (f : Fr) (b : Bool) (h1 : f 1 = .ptr 0 1 0) (h3 : f 3 = .bool b) (Q : Exit → St → Prop)
include hP m1 h1 h3

theorem rngi (j : Nat) (x : PG) (hj : P.progs[j]? = some x) (ha : f 4 = .int .i64 (j : Nat)) (hc : f 5 = .int .i64 0) (hx : ∀ f, f 1 = .ptr 0 1 0 → f 3 = .bool (b && x.ops.all rngO) → f 4 = .int .i64 (j : Nat) → Q (.exit 2) (⟨f, [fr], []⟩ : St)) : awp Tryz.prog (.loop l22_0) ⟨f, [fr], []⟩ Q := by
  let I : Nat → St → Prop := fun k st => ∃ f i, st = ⟨f, [fr], []⟩ ∧ k = x.ops.length - i ∧ i ≤ x.ops.length ∧ f 1 = .ptr 0 1 0 ∧ f 3 = .bool (b && (x.ops.take i).all rngO) ∧ f 4 = .int .i64 (j : Nat) ∧ f 5 = .int .i64 (i : Nat)
  have hjm : (P.progs.map gav)[j]? = some (.agg x.cells) := by simp [hj, gav]
  have hxo := hP.progs x (List.mem_of_getElem? hj)
  refine awp_loop I _ ⟨f, 0, rfl, rfl, Nat.zero_le _, h1, by rw [h3]; simp, ha, hc⟩ ?_
  clear h1 h3 ha hc
  simp only [Pc] at m1
  simp only [PG.cells] at hjm
  rintro _ st ⟨f, i, rfl, rfl, hi, h1, h3, ha, hc⟩
  simp only [nneg, Int.toNat_natCast, aiaddr, hjm, List.length_map, h1, m1, h3, ha, hc, eES, eEX, seval]
  by_cases hlt : i < x.ops.length
  · obtain ⟨o, hg⟩ : ∃ o, x.ops[i]? = some o := ⟨x.ops[i], List.getElem?_eq_getElem hlt⟩
    have hgm : (x.ops.map fun o => AV.agg o.cells)[i]? = some (.agg o.cells) := by simp [hg]
    have e1 := wi64_s i _ hlt hxo.len
    have ht := take_all (q := rngO) hg
    have hq : rngO o = (decide (o.num ≥ 1) && decide (o.num ≤ 65535)) := rfl
    have fin : ∀ f' : Fr, f' 1 = .ptr 0 1 0 → f' 3 = .bool ((b && (x.ops.take i).all rngO) && rngO o) → f' 4 = .int .i64 (j : Nat) → f' 5 = .int .i64 ((i + 1 : Nat) : Int) → ∃ k, k < x.ops.length - i ∧ I k ⟨f', [fr], []⟩ := by
      intro f' a1 a3 a4 a5
      exact ⟨x.ops.length - (i + 1), by omega, f', i + 1, rfl, rfl, by omega, a1, by rw [a3, ht, Bool.and_assoc], a4, a5⟩
    simp only [PO.cells] at hgm
    cases hb : (b && (x.ops.take i).all rngO)
    · rw [hb] at fin h3
      simp only [lt_t hlt, nneg, Int.toNat_natCast, aiaddr, hjm, hgm, PO.cells, h1, m1, h3, ha, hc, e1, eES, eEX, seval]
      exact fin _ (by first | rfl | exact h1 | simp only [h1, eES, eEX, seval]) (by first | rfl | simp only [eES, eEX, seval]) (by first | rfl | exact ha | simp only [ha, eES, eEX, seval]) (by first | rfl | simp only [eES, eEX, seval])
    · rw [hb, Bool.true_and, hq] at fin
      rw [hb] at h3
      cases a1 : decide (o.num ≥ 1)
      · rw [a1] at fin
        simp only [lt_t hlt, nneg, Int.toNat_natCast, aiaddr, hjm, hgm, PO.cells, a1, h1, m1, h3, ha, hc, e1, eES, eEX, seval]
        exact fin _ (by first | rfl | exact h1 | simp only [h1, eES, eEX, seval]) (by first | rfl | simp only [eES, eEX, seval]) (by first | rfl | exact ha | simp only [ha, eES, eEX, seval]) (by first | rfl | simp only [eES, eEX, seval])
      · rw [a1, Bool.true_and] at fin
        simp only [lt_t hlt, nneg, Int.toNat_natCast, aiaddr, hjm, hgm, PO.cells, a1, h1, m1, h3, ha, hc, e1, eES, eEX, seval]
        exact fin _ (by first | rfl | exact h1 | simp only [h1, eES, eEX, seval]) (by first | rfl | simp only [eES, eEX, seval]) (by first | rfl | exact ha | simp only [ha, eES, eEX, seval]) (by first | rfl | simp only [eES, eEX, seval])
  · have hf : (x.ops.take i).all rngO = x.ops.all rngO := by rw [List.take_of_length_le (by omega)]
    rw [hf] at h3
    simp only [lt_f hlt, h1, m1, h3, ha, hc, eES, eEX, seval]
    exact hx _ (by first | rfl | exact h1 | simp only [h1, eES, eEX, seval]) (by first | rfl | exact h3 | simp only [h3, eES, eEX, seval]) (by first | rfl | exact ha | simp only [ha, eES, eEX, seval])

theorem rngo (ha : f 4 = .int .i64 0) (hx : ∀ f, f 1 = .ptr 0 1 0 → f 3 = .bool (b && P.progs.all fun g => g.ops.all rngO) → Q (.exit 0) (⟨f, [fr], []⟩ : St)) : awp Tryz.prog (.loop l22_1) ⟨f, [fr], []⟩ Q := by
  let I : Nat → St → Prop := fun k st => ∃ f i, st = ⟨f, [fr], []⟩ ∧ k = P.progs.length - i ∧ i ≤ P.progs.length ∧ f 1 = .ptr 0 1 0 ∧ f 3 = .bool (b && (P.progs.take i).all fun g => g.ops.all rngO) ∧ f 4 = .int .i64 (i : Nat)
  have m1' := m1
  refine awp_loop I _ ⟨f, 0, rfl, rfl, Nat.zero_le _, h1, by rw [h3]; simp, ha⟩ ?_
  clear h1 h3 ha
  simp only [Pc] at m1
  rintro _ st ⟨f, i, rfl, rfl, hi, h1, h3, ha⟩
  simp only [List.length_map, h1, m1, h3, ha, eES, eEX, seval]
  by_cases hlt : i < P.progs.length
  · obtain ⟨x, hg⟩ : ∃ x, P.progs[i]? = some x := ⟨P.progs[i], List.getElem?_eq_getElem hlt⟩
    have e1 := wi64_s i _ hlt hP.len1
    have ht := take_all (q := fun g : PG => g.ops.all rngO) hg
    simp only [lt_t hlt, h1, m1, h3, ha, eES, eEX, seval]
    refine rngi P hP fr m1' _ (b && (P.progs.take i).all fun g => g.ops.all rngO) (by first | rfl | exact h1 | simp only [h1, eES, eEX, seval]) (by first | rfl | exact h3 | simp only [h3, eES, eEX, seval]) _ i x hg (by first | rfl | exact ha | simp only [ha, eES, eEX, seval]) (by first | rfl | simp only [eES, eEX, seval]) (fun f h1 h3 ha => ?_)
    simp only [h1, h3, ha, e1, eES, eEX, seval]
    exact ⟨P.progs.length - (i + 1), by omega, _, i + 1, rfl, rfl, by omega, (by first | rfl | exact h1 | simp only [h1, eES, eEX, seval]), by rw [ht, ← Bool.and_assoc] <;> first | exact h3 | simp only [h3, eES, eEX, seval], (by first | rfl | simp only [eES, eEX, seval])⟩
  · have hf : (P.progs.take i).all (fun g => g.ops.all rngO) = P.progs.all fun g => g.ops.all rngO := by rw [List.take_of_length_le (by omega)]
    rw [hf] at h3
    simp only [lt_f hlt, h1, m1, h3, ha, eES, eEX, seval]
    exact hx _ (by first | rfl | exact h1 | simp only [h1, eES, eEX, seval]) (by first | rfl | exact h3 | simp only [h3, eES, eEX, seval])

end

def rqi (x : PE) (i : Nat) : Bool := match x.items[i]? with
  | some o => (i != 0 || o.num == 0) && rngI x o
  | none => true

theorem rqi_all (x : PE) : allU (rqi x) x.items.length = (frst x && x.items.all (rngI x)) := by
  rw [Bool.eq_iff_iff, Bool.and_eq_true, allU_iff, List.all_eq_true]
  constructor
  · intro h
    refine ⟨?_, fun o ho => ?_⟩
    · unfold frst
      cases hi : x.items with
      | nil => rfl
      | cons a l =>
        have := h 0 (by rw [hi]; simp)
        unfold rqi at this
        rw [hi] at this
        simp only [List.getElem?_cons_zero, Bool.and_eq_true] at this
        simpa using this.1
    · obtain ⟨i, hi⟩ := List.mem_iff_getElem?.1 ho
      have := h i (List.getElem?_eq_some_iff.1 hi).1
      unfold rqi at this
      rw [hi] at this
      simp only [Bool.and_eq_true] at this
      exact this.2
  · rintro ⟨h1, h2⟩ i _
    unfold rqi
    cases hg : x.items[i]? with
    | none => rfl
    | some o =>
      simp only [Bool.and_eq_true]
      refine ⟨?_, h2 o (List.mem_of_getElem? hg)⟩
      cases i with
      | zero =>
        unfold frst at h1
        cases hx : x.items with
        | nil => rw [hx] at hg; cases hg
        | cons a l =>
          rw [hx] at h1 hg
          cases hg
          simpa using h1
      | succ k => rfl

section
variable (x : PE) (hl1 : x.items.length ≤ maxLen) (hl : x.free.length ≤ maxLen) (P : PL) (f : Fr) (b : Bool) (j : Nat) (fr : Nat → Ob) (h1 : f 1 = .ptr 0 1 0) (h3 : f 3 = .bool b) (h7 : f 7 = .int .i64 (j : Nat)) (h8 : f 8 = .ptr 0 8 0) (m1 : fr 1 = .cells (Pc P)) (m8 : fr 8 = .cells x.cells) (Q : Exit → St → Prop)
include hl1 hl h1 h3 h7 h8 m8

theorem rngI_loop (hc : f 9 = .int .i64 0) (hx : ∀ f, f 1 = .ptr 0 1 0 → f 3 = .bool (b && (frst x && x.items.all (rngI x))) → f 7 = .int .i64 (j : Nat) → f 8 = .ptr 0 8 0 → Q (.exit 6) (⟨f, [fr], []⟩ : St)) : awp Tryz.prog (.loop l22_2) ⟨f, [fr], []⟩ Q := by
  let I : Nat → St → Prop := fun k st => ∃ f i, st = ⟨f, [fr], []⟩ ∧ k = x.items.length - i ∧ i ≤ x.items.length ∧ f 1 = .ptr 0 1 0 ∧ f 3 = .bool (b && allU (rqi x) i) ∧ f 7 = .int .i64 (j : Nat) ∧ f 8 = .ptr 0 8 0 ∧ f 9 = .int .i64 (i : Nat)
  refine awp_loop I _ ⟨f, 0, rfl, rfl, Nat.zero_le _, h1, by rw [h3]; simp [allU], h7, h8, hc⟩ ?_
  clear h1 h3 h7 h8 hc
  simp only [PE.cells] at m8
  rintro _ st ⟨f, i, rfl, rfl, hi, h1, h3, h7, h8, hc⟩
  simp only [List.length_map, h1, m8, h3, h7, h8, hc, eES, eEX, seval]
  by_cases hlt : i < x.items.length
  · obtain ⟨o, hg⟩ : ∃ o, x.items[i]? = some o := ⟨x.items[i], List.getElem?_eq_getElem hlt⟩
    have hgm : (x.items.map fun o => AV.agg o.cells)[i]? = some (.agg o.cells) := by simp [hg]
    have e1 := wi64_s i _ hlt hl1
    have ht := acc_step b (rqi x) i
    have hr : Fn1 Tryz.prog 34 [.list (x.free.map fun n => AV.agg n.cells), .int .i64 o.num] (.bool (kept x.free o.num)) := z34 x.free hl o.num
    have hq : rqi x i = ((i != 0 || o.num == 0) && (decide (o.num ≤ 2147483647) && !kept x.free o.num)) := by unfold rqi; rw [hg]; rfl
    rw [hq] at ht
    have fin : ∀ (f' : Fr) (v : Bool), ((b && allU (rqi x) i) && ((i != 0 || o.num == 0) && (decide (o.num ≤ 2147483647) && !kept x.free o.num))) = v → f' 1 = .ptr 0 1 0 → f' 3 = .bool v → f' 7 = .int .i64 (j : Nat) → f' 8 = .ptr 0 8 0 → f' 9 = .int .i64 ((i + 1 : Nat) : Int) → ∃ k, k < x.items.length - i ∧ I k ⟨f', [fr], []⟩ := by
      intro f' v hv a1 a3 a4 a5 a6
      exact ⟨x.items.length - (i + 1), by omega, f', i + 1, rfl, rfl, by omega, a1, by rw [a3, ht, hv], a4, a5, a6⟩
    simp only [PI.cells] at hgm
    cases hb : (b && allU (rqi x) i)
    · rw [hb] at fin h3
      simp only [Bool.false_and] at fin
      simp only [lt_t hlt, nneg, Int.toNat_natCast, aiaddr, hgm, PI.cells, h1, m8, h3, h7, h8, hc, e1, eES, eEX, seval]
      exact fin _ _ rfl (by first | rfl | exact h1 | simp only [h1, eES, eEX, seval]) (by first | rfl | simp only [eES, eEX, seval]) (by first | rfl | exact h7 | simp only [h7, eES, eEX, seval]) (by first | rfl | exact h8 | simp only [h8, eES, eEX, seval]) (by first | rfl | simp only [eES, eEX, seval])
    · rw [hb] at fin h3
      simp only [Bool.true_and] at fin
      cases a1 : decide (o.num ≤ 2147483647)
      · simp only [a1, Bool.false_and, Bool.and_false] at fin
        simp only [lt_t hlt, nneg, Int.toNat_natCast, aiaddr, hgm, PI.cells, a1, h1, m8, h3, h7, h8, hc, e1, eES, eEX, seval]
        exact fin _ _ rfl (by first | rfl | exact h1 | simp only [h1, eES, eEX, seval]) (by first | rfl | simp only [eES, eEX, seval]) (by first | rfl | exact h7 | simp only [h7, eES, eEX, seval]) (by first | rfl | exact h8 | simp only [h8, eES, eEX, seval]) (by first | rfl | simp only [eES, eEX, seval])
      simp only [a1, Bool.true_and] at fin
      have gt : ∀ (q : Bool), (i != 0 || o.num == 0) = q → (decide ((i : Int) > 0) = true ∧ q = true) ∨ (decide ((i : Int) > 0) = false ∧ (o.num == 0) = q) := by
        intro q hq
        cases i with
        | zero => exact .inr ⟨rfl, hq⟩
        | succ k => exact .inl ⟨decide_eq_true (by omega), hq.symm⟩
      cases a2 : (i != 0 || o.num == 0)
      · rw [a2] at fin
        simp only [Bool.false_and] at fin
        rcases gt _ a2 with ⟨g1, g2⟩ | ⟨g1, g2⟩
        · cases g2
        · simp only [lt_t hlt, nneg, Int.toNat_natCast, aiaddr, hgm, PI.cells, a1, g1, g2, h1, m8, h3, h7, h8, hc, e1, eES, eEX, seval]
          exact fin _ _ rfl (by first | rfl | exact h1 | simp only [h1, eES, eEX, seval]) (by first | rfl | simp only [eES, eEX, seval]) (by first | rfl | exact h7 | simp only [h7, eES, eEX, seval]) (by first | rfl | exact h8 | simp only [h8, eES, eEX, seval]) (by first | rfl | simp only [eES, eEX, seval])
      · rw [a2] at fin
        simp only [Bool.true_and] at fin
        rcases gt _ a2 with ⟨g1, g2⟩ | ⟨g1, g2⟩
        all_goals
          simp only [lt_t hlt, nneg, Int.toNat_natCast, aiaddr, hgm, PI.cells, a1, g1, g2, h1, m8, h3, h7, h8, hc, e1, eES, eEX, seval]
          refine aops_call hr rfl rfl rfl (.inl rfl) ?_
          simp only [h1, m8, h3, h7, h8, hc, e1, eES, eEX, seval]
          exact fin _ _ rfl (by first | rfl | exact h1 | simp only [h1, eES, eEX, seval]) (by first | rfl | simp only [eES, eEX, seval]) (by first | rfl | exact h7 | simp only [h7, eES, eEX, seval]) (by first | rfl | exact h8 | simp only [h8, eES, eEX, seval]) (by first | rfl | simp only [eES, eEX, seval])
  · rw [show i = x.items.length by omega, rqi_all] at h3
    simp only [lt_f hlt, h1, m8, h3, h7, h8, hc, eES, eEX, seval]
    exact hx _ (by first | rfl | exact h1 | simp only [h1, eES, eEX, seval]) (by first | rfl | exact h3 | simp only [h3, eES, eEX, seval]) (by first | rfl | exact h7 | simp only [h7, eES, eEX, seval]) (by first | rfl | exact h8 | simp only [h8, eES, eEX, seval])

omit hl1 in
include m1 in
theorem rngS_loop (hc : f 11 = .int .i64 0) (hrow : ∀ s ∈ [12], (fr s).isRow = false) (hx : ∀ f fr, f 1 = .ptr 0 1 0 → f 3 = .bool (b && (x.free.all spn && adj x.free spt)) → f 7 = .int .i64 (j : Nat) → fr 1 = .cells (Pc P) → (∀ s ∈ [12, 8], (fr s).isRow = false) → Q (.exit 8) (⟨f, [fr], []⟩ : St)) : awp Tryz.prog (.loop l22_3) ⟨f, [fr], []⟩ Q := by
  let I : Nat → St → Prop := fun k st => ∃ f fr i, st = ⟨f, [fr], []⟩ ∧ k = x.free.length - i ∧ i ≤ x.free.length ∧ f 1 = .ptr 0 1 0 ∧ f 3 = .bool (b && allU (spq x.free) i) ∧ f 7 = .int .i64 (j : Nat) ∧ f 8 = .ptr 0 8 0 ∧ f 11 = .int .i64 (i : Nat) ∧ fr 1 = .cells (Pc P) ∧ fr 8 = .cells x.cells ∧ ∀ s ∈ [12], (fr s).isRow = false
  refine awp_loop I _ ⟨f, fr, 0, rfl, rfl, Nat.zero_le _, h1, by rw [h3]; simp [allU], h7, h8, hc, m1, m8, hrow⟩ ?_
  clear h1 h3 h7 h8 hc m1 m8 hrow
  rintro _ st ⟨f0, fr0, i, rfl, rfl, hi, h10, h30, h70, h80, hc0, m10, m80, r12⟩
  refine awp_drops (a := _) [12] r12 ?_
  intro f fr hf hm hn
  have h1 : f 1 = .ptr 0 1 0 := by rw [hf, h10] <;> rfl
  have h3 : f 3 = .bool (b && allU (spq x.free) i) := by rw [hf, h30] <;> rfl
  have h7 : f 7 = .int .i64 (j : Nat) := by rw [hf, h70] <;> rfl
  have h8 : f 8 = .ptr 0 8 0 := by rw [hf, h80] <;> rfl
  have hc : f 11 = .int .i64 (i : Nat) := by rw [hf, hc0] <;> rfl
  have m1 : fr 1 = .cells (Pc P) := by rw [hm 1 (by decide), m10] <;> rfl
  have m8 : fr 8 = .cells x.cells := by rw [hm 8 (by decide), m80] <;> rfl
  have n12 := hn 12 (by decide)
  clear hf hm hn h10 h30 h70 h80 hc0 m10 m80 r12
  have m8' := m8
  simp only [PE.cells] at m8
  simp only [List.length_map, h1, m8, h3, h7, h8, hc, eES, eEX, seval]
  by_cases hlt : i < x.free.length
  · obtain ⟨y, hg⟩ : ∃ y, x.free[i]? = some y := ⟨x.free[i], List.getElem?_eq_getElem hlt⟩
    have hgm : (x.free.map fun o => AV.agg o.cells)[i]? = some (.agg y.cells) := by simp [hg]
    have e1 := wi64_s i _ hlt hl
    have ht := acc_step b (spq x.free) i
    have hq : spq x.free i = ((decide (y.lo ≥ 0) && decide (y.hi ≤ 2147483647) && decide (y.lo ≤ y.hi)) && two x.free spt i) := by unfold spq; rw [ask_at hg]; rfl
    rw [hq] at ht
    have fin : ∀ (f' : Fr) (fr' : Nat → Ob) (v : Bool), ((b && allU (spq x.free) i) && ((decide (y.lo ≥ 0) && decide (y.hi ≤ 2147483647) && decide (y.lo ≤ y.hi)) && two x.free spt i)) = v → f' 1 = .ptr 0 1 0 → f' 3 = .bool v → f' 7 = .int .i64 (j : Nat) → f' 8 = .ptr 0 8 0 → f' 11 = .int .i64 ((i + 1 : Nat) : Int) → fr' 1 = .cells (Pc P) → fr' 8 = .cells x.cells → (∀ s ∈ [12], (fr' s).isRow = false) → ∃ k, k < x.free.length - i ∧ I k ⟨f', [fr'], []⟩ := by
      intro f' fr' v hv a1 a3 a4 a5 a6 a7 a8 a9
      exact ⟨x.free.length - (i + 1), by omega, f', fr', i + 1, rfl, rfl, by omega, a1, by rw [a3, ht, hv], a4, a5, a6, a7, a8, a9⟩
    simp only [PS.cells] at hgm
    cases hb : (b && allU (spq x.free) i)
    · rw [hb] at fin h3
      simp only [Bool.false_and] at fin
      simp only [lt_t hlt, nneg, Int.toNat_natCast, aiaddr, hgm, PS.cells, n12, h1, m8, h3, h7, h8, hc, e1, eES, eEX, seval]
      exact fin _ _ _ rfl (by first | rfl | exact h1 | simp only [h1, eES, eEX, seval]) (by first | rfl | simp only [eES, eEX, seval]) (by first | rfl | exact h7 | simp only [h7, eES, eEX, seval]) (by first | rfl | exact h8 | simp only [h8, eES, eEX, seval]) (by first | rfl | simp only [eES, eEX, seval]) (by first | rfl | exact m1 | simp only [m1, eES, eEX, seval]) (by first | rfl | exact m8' | simp only [m8', eES, eEX, seval]) (by simp <;> rfl)
    rw [hb] at fin h3
    simp only [Bool.true_and] at fin
    cases a1 : decide (y.lo ≥ 0)
    · simp only [a1, Bool.false_and] at fin
      simp only [lt_t hlt, nneg, Int.toNat_natCast, aiaddr, hgm, PS.cells, n12, a1, h1, m8, h3, h7, h8, hc, e1, eES, eEX, seval]
      exact fin _ _ _ rfl (by first | rfl | exact h1 | simp only [h1, eES, eEX, seval]) (by first | rfl | simp only [eES, eEX, seval]) (by first | rfl | exact h7 | simp only [h7, eES, eEX, seval]) (by first | rfl | exact h8 | simp only [h8, eES, eEX, seval]) (by first | rfl | simp only [eES, eEX, seval]) (by first | rfl | exact m1 | simp only [m1, eES, eEX, seval]) (by first | rfl | exact m8' | simp only [m8', eES, eEX, seval]) (by simp <;> rfl)
    cases a2 : decide (y.hi ≤ 2147483647)
    · simp only [a1, a2, Bool.false_and, Bool.and_false] at fin
      simp only [lt_t hlt, nneg, Int.toNat_natCast, aiaddr, hgm, PS.cells, n12, a1, a2, h1, m8, h3, h7, h8, hc, e1, eES, eEX, seval]
      exact fin _ _ _ rfl (by first | rfl | exact h1 | simp only [h1, eES, eEX, seval]) (by first | rfl | simp only [eES, eEX, seval]) (by first | rfl | exact h7 | simp only [h7, eES, eEX, seval]) (by first | rfl | exact h8 | simp only [h8, eES, eEX, seval]) (by first | rfl | simp only [eES, eEX, seval]) (by first | rfl | exact m1 | simp only [m1, eES, eEX, seval]) (by first | rfl | exact m8' | simp only [m8', eES, eEX, seval]) (by simp <;> rfl)
    cases a3 : decide (y.lo ≤ y.hi)
    · simp only [a1, a2, a3, Bool.false_and, Bool.and_false] at fin
      simp only [lt_t hlt, nneg, Int.toNat_natCast, aiaddr, hgm, PS.cells, n12, a1, a2, a3, h1, m8, h3, h7, h8, hc, e1, eES, eEX, seval]
      exact fin _ _ _ rfl (by first | rfl | exact h1 | simp only [h1, eES, eEX, seval]) (by first | rfl | simp only [eES, eEX, seval]) (by first | rfl | exact h7 | simp only [h7, eES, eEX, seval]) (by first | rfl | exact h8 | simp only [h8, eES, eEX, seval]) (by first | rfl | simp only [eES, eEX, seval]) (by first | rfl | exact m1 | simp only [m1, eES, eEX, seval]) (by first | rfl | exact m8' | simp only [m8', eES, eEX, seval]) (by simp <;> rfl)
    simp only [a1, a2, a3, Bool.true_and, Bool.and_true] at fin
    cases i with
    | zero =>
      have d0 : (((0 : Nat) : Int) == 0) = true := rfl
      rw [two_zero] at fin
      simp only [lt_t hlt, nneg, Int.toNat_natCast, aiaddr, hgm, PS.cells, n12, a1, a2, a3, d0, h1, m8, h3, h7, h8, hc, e1, eES, eEX, Nat.reduceBEq, Int.reduceLE, Int.reduceLT, Int.reduceToNat, Int.reduceEq, ↓reduceIte, reduceCtorEq, Nat.reducePow, Nat.reduceAdd, Nat.reduceLeDiff, Nat.reduceLT, Nat.reduceSub, Nat.reduceEqDiff, Nat.reduceMul]
      exact fin _ _ _ rfl (by first | rfl | exact h1 | simp only [h1, eES, eEX, seval]) (by first | rfl | simp only [eES, eEX, seval]) (by first | rfl | exact h7 | simp only [h7, eES, eEX, seval]) (by first | rfl | exact h8 | simp only [h8, eES, eEX, seval]) (by first | rfl | simp only [eES, eEX, seval]) (by first | rfl | exact m1 | simp only [m1, eES, eEX, seval]) (by first | rfl | exact m8' | simp only [m8', eES, eEX, seval]) (by simp <;> rfl)
    | succ k =>
      have d0 : (((k + 1 : Nat) : Int) == 0) = false := by rw [beq_eq_false_iff_ne]; omega
      obtain ⟨z, hgz⟩ : ∃ z, x.free[k]? = some z := ⟨x.free[k]'(by omega), List.getElem?_eq_getElem (by omega)⟩
      have hgzm : (x.free.map fun o => AV.agg o.cells)[k]? = some (.agg z.cells) := by simp [hgz]
      have w := wp64 k _ hlt hl
      have hs : spt z y = decide (y.lo > z.hi) := rfl
      rw [two_at hgz hg, hs] at fin
      simp only [PS.cells] at hgzm
      simp only [lt_t hlt, nneg, Int.toNat_natCast, aiaddr, hgm, hgzm, w, PS.cells, n12, a1, a2, a3, d0, h1, m8, h3, h7, h8, hc, e1, eES, eEX, seval]
      exact fin _ _ _ rfl (by first | rfl | exact h1 | simp only [h1, eES, eEX, seval]) (by first | rfl | simp only [eES, eEX, seval]) (by first | rfl | exact h7 | simp only [h7, eES, eEX, seval]) (by first | rfl | exact h8 | simp only [h8, eES, eEX, seval]) (by first | rfl | simp only [eES, eEX, seval]) (by first | rfl | exact m1 | simp only [m1, eES, eEX, seval]) (by first | rfl | exact m8' | simp only [m8', eES, eEX, seval]) (by simp <;> rfl)
  · rw [show i = x.free.length by omega, spq_all] at h3
    simp only [lt_f hlt, h1, m8, h3, h7, h8, hc, eES, eEX, seval]
    refine hx _ _ (by first | rfl | exact h1 | simp only [h1, eES, eEX, seval]) (by first | rfl | exact h3 | simp only [h3, eES, eEX, seval]) (by first | rfl | exact h7 | simp only [h7, eES, eEX, seval]) (by first | rfl | exact m1 | simp only [m1, eES, eEX, seval]) (fun s hs => ?_)
    simp at hs
    rcases hs with rfl | rfl
    · rw [n12]; rfl
    · rw [m8]; rfl

end

section
variable {M : Nat} (P : PL) (hP : P.ok M) (fr : Nat → Ob) (m1 : fr 1 = .cells (Pc P)) (f : Fr) (b : Bool) (h1 : f 1 = .ptr 0 1 0) (h3 : f 3 = .bool b) (Q : Exit → St → Prop)
include hP m1 h1 h3

theorem rnge (ha : f 7 = .int .i64 0) (hrow : ∀ s ∈ [12, 8], (fr s).isRow = false) (hx : ∀ f fr, f 1 = .ptr 0 1 0 → f 3 = .bool (b && P.enums.all rng2) → Q (.exit 4) (⟨f, [fr], []⟩ : St)) : awp Tryz.prog (.loop l22_4) ⟨f, [fr], []⟩ Q := by
  let I : Nat → St → Prop := fun k st => ∃ f fr i, st = ⟨f, [fr], []⟩ ∧ k = P.enums.length - i ∧ i ≤ P.enums.length ∧ f 1 = .ptr 0 1 0 ∧ f 3 = .bool (b && (P.enums.take i).all rng2) ∧ f 7 = .int .i64 (i : Nat) ∧ fr 1 = .cells (Pc P) ∧ ∀ s ∈ [12, 8], (fr s).isRow = false
  refine awp_loop I _ ⟨f, fr, 0, rfl, rfl, Nat.zero_le _, h1, by rw [h3]; simp, ha, m1, hrow⟩ ?_
  clear h1 h3 ha m1 hrow
  rintro _ st ⟨f0, fr0, i, rfl, rfl, hi, h10, h30, ha0, m10, hr⟩
  refine awp_drops (a := _) [12, 8] hr ?_
  intro f fr hf hm hn
  have h1 : f 1 = .ptr 0 1 0 := by rw [hf, h10] <;> rfl
  have h3 : f 3 = .bool (b && (P.enums.take i).all rng2) := by rw [hf, h30] <;> rfl
  have ha : f 7 = .int .i64 (i : Nat) := by rw [hf, ha0] <;> rfl
  have m1 : fr 1 = .cells (Pc P) := by rw [hm 1 (by decide), m10] <;> rfl
  have n12 := hn 12 (by decide)
  have n8 := hn 8 (by decide)
  clear hf hm hn h10 h30 ha0 m10 hr
  have m1' := m1
  simp only [Pc] at m1
  simp only [List.length_map, h1, m1, h3, ha, eES, eEX, seval]
  by_cases hlt : i < P.enums.length
  · obtain ⟨x, hg⟩ : ∃ x, P.enums[i]? = some x := ⟨P.enums[i], List.getElem?_eq_getElem hlt⟩
    have hgm : (P.enums.map eav)[i]? = some (.agg x.cells) := by simp [hg, eav]
    have e1 := wi64_s i _ hlt hP.len2
    have ht := take_all (q := rng2) hg
    have hq : (b && (P.enums.take (i + 1)).all rng2) = ((b && (P.enums.take i).all rng2 && (frst x && x.items.all (rngI x))) && (x.free.all spn && adj x.free spt)) := by
      rw [ht]
      unfold rng2
      cases b <;> cases (P.enums.take i).all _ <;> cases x.free.all spn <;> cases adj x.free spt <;> cases frst x <;> cases x.items.all (rngI x) <;> rfl
    have hxo := hP.enums x (List.mem_of_getElem? hg)
    simp only [PE.cells] at hgm
    simp only [lt_t hlt, nneg, Int.toNat_natCast, aiaddr, hgm, PE.cells, n8, h1, m1, h3, ha, eES, eEX, seval]
    refine rngI_loop x hxo.len1 hxo.len2 _ (b && (P.enums.take i).all rng2) i _ (by first | rfl | exact h1 | simp only [h1, eES, eEX, seval]) (by first | rfl | exact h3 | simp only [h3, eES, eEX, seval]) (by first | rfl | exact ha | simp only [ha, eES, eEX, seval]) (by first | rfl | simp only [eES, eEX, seval]) (by first | rfl | simp only [eES, eEX, seval]) _ (by first | rfl | simp only [eES, eEX, seval]) (fun f h1 h3 ha h8 => ?_)
    simp only [h1, h3, ha, h8, eES, eEX, seval]
    refine rngS_loop x hxo.len2 P _ _ i _ (by first | rfl | exact h1 | simp only [h1, eES, eEX, seval]) (by first | rfl | exact h3 | simp only [h3, eES, eEX, seval]) (by first | rfl | exact ha | simp only [ha, eES, eEX, seval]) (by first | rfl | exact h8 | simp only [h8, eES, eEX, seval]) (by first | rfl | exact m1' | simp only [m1', eES, eEX, seval]) (by first | rfl | simp only [eES, eEX, seval]) _ (by first | rfl | simp only [eES, eEX, seval]) (fun s hs => by simp at hs; subst hs; rw [upd_ne _ _ (by decide)]; first | rw [n12]; rfl | (rw [upd_ne _ _ (by decide), n12]; rfl)) (fun f fr h1 h3 ha m1 hr => ?_)
    simp only [h1, h3, ha, e1, eES, eEX, seval]
    exact ⟨P.enums.length - (i + 1), by omega, _, fr, i + 1, rfl, rfl, by omega, (by first | rfl | exact h1 | simp only [h1, eES, eEX, seval]), by rw [hq] <;> first | exact h3 | simp only [h3, eES, eEX, seval], (by first | rfl | simp only [eES, eEX, seval]), m1, hr⟩
  · have hf : (P.enums.take i).all rng2 = P.enums.all rng2 := by rw [List.take_of_length_le (by omega)]
    rw [hf] at h3
    simp only [lt_f hlt, h1, m1, h3, ha, eES, eEX, seval]
    exact hx _ _ (by first | rfl | exact h1 | simp only [h1, eES, eEX, seval]) (by first | rfl | exact h3 | simp only [h3, eES, eEX, seval])

end

theorem z22 {M : Nat} (P : PL) (hP : P.ok M) : Fn1 Tryz.prog 22 [P.av] (.bool (rng P)) := by
  have e0 : P.av = .agg [.list (P.progs.map gav), .list (P.enums.map eav)] := rfl
  refine k22.fn (by simp) ?_
  simp only [e0, eES, eEX, seval]
  refine rngo P hP _ (by first | rfl | simp only [eES, eEX, seval]) _ true (by first | rfl | simp only [eES, eEX, seval]) (by first | rfl | simp only [eES, eEX, seval]) _ (by first | rfl | simp only [eES, eEX, seval]) (fun f h1 h3 => ?_)
  simp only [h1, h3, eES, eEX, seval]
  refine rnge P hP _ (by first | rfl | simp only [eES, eEX, seval]) _ _ (by first | rfl | exact h1 | simp only [h1, eES, eEX, seval]) (by first | rfl | exact h3 | simp only [h3, eES, eEX, seval]) _ (by first | rfl | simp only [eES, eEX, seval]) (fun s hs => by simp at hs; rcases hs with rfl | rfl <;> rfl) (fun f fr h1 h3 => ?_)
  simp only [h1, h3, rng, Bool.true_and, eES, eEX, seval]

end Go.Proofs.YtdgbidbkcigkhaaGreatDoor.Va

set_option linter.unusedSimpArgs false
namespace Go.Proofs.YtdgbidbkcigkhaaGreatDoor.Va
open Go Am Rc Bt Br

end Go.Proofs.YtdgbidbkcigkhaaGreatDoor.Va

set_option linter.unusedSimpArgs false
namespace Go.Proofs.YtdgbidbkcigkhaaGreatDoor.Va
open Go Am Rc Bt Br

structure Fi (P : PL) (c : Nat) (B : List Bool) (a : Bool) (f : Fr) (fr : Nat → Ob) : Prop where
  h1 : f 1 = .ptr 0 1 0
  m1 : fr 1 = .cells (Pc P)
  h3 : f 3 = .vec 0 12 1 0 P.progs.length false
  m12 : fr 12 = .vec 1 1 (B.map AV.bool)
  h4 : f 4 = .bool a
  h19 : f 19 = .int .i64 (P.progs.length : Nat)
  h20 : f 20 = .int .i64 (c : Nat)
  r8 : ∀ s ∈ [8], (fr s).isRow = false

theorem Fi.drop {P : PL} {c : Nat} {B : List Bool} {a : Bool} {f f' : Fr} {fr fr' : Nat → Ob} (h : Fi P c B a f fr) (hf : ∀ i, f' i = scrs [8] (f i)) (hm : ∀ i, i ∉ [8] → fr' i = oscrs [8] (fr i)) (hn : ∀ i ∈ [8], fr' i = .none) : Fi P c B a f' fr' where
  h1 := by rw [hf, h.h1] <;> rfl
  m1 := by rw [hm 1 (by decide), h.m1] <;> rfl
  h3 := by rw [hf, h.h3] <;> rfl
  m12 := by rw [hm 12 (by decide), h.m12] <;> rfl
  h4 := by rw [hf, h.h4] <;> rfl
  h19 := by rw [hf, h.h19] <;> rfl
  h20 := by rw [hf, h.h20] <;> rfl
  r8 := fun s hs => by rw [hn s hs] <;> rfl

section
variable {M : Nat} (P : PL) (hP : P.ok M) (hl : P.progs.length ≤ 64) (hT : Tgt P) (c : Nat) (B : List Bool) (hB : B.length = P.progs.length) (a : Bool)
include hP hT hB

theorem fini (i : Nat) (g : PG) (hg : P.progs[i]? = some g) (f : Fr) (fr : Nat → Ob) (H : Fi P c B a f fr) (h5 : f 5 = .int .i64 (i : Nat)) (h6 : f 6 = .bool true) (h7 : f 7 = .int .i64 0) (Q : Exit → St → Prop)
    (hx : ∀ f fr, Fi P c B a f fr → f 5 = .int .i64 (i : Nat) → f 6 = .bool (!g.ops.any (need B)) → Q (.exit 4) (⟨f, [fr], []⟩ : St)) : awp Tryz.prog (.loop l24_0) ⟨f, [fr], []⟩ Q := by
  let I : Nat → St → Prop := fun k st => ∃ f fr j, st = ⟨f, [fr], []⟩ ∧ k = g.ops.length - j ∧ j ≤ g.ops.length ∧ Fi P c B a f fr ∧ f 5 = .int .i64 (i : Nat) ∧ f 6 = .bool (!(g.ops.take j).any (need B)) ∧ f 7 = .int .i64 (j : Nat)
  have hgm : (P.progs.map gav)[i]? = some (.agg g.cells) := by simp [hg, gav]
  have hgo := hP.progs g (List.mem_of_getElem? hg)
  refine awp_loop I _ ⟨f, fr, 0, rfl, rfl, Nat.zero_le _, H, h5, by rw [h6]; simp, h7⟩ ?_
  clear H h5 h6 h7
  simp only [PG.cells] at hgm
  rintro _ st ⟨f0, fr0, j, rfl, rfl, hj, H0, h50, h60, h70⟩
  refine awp_drops (a := _) [8] H0.r8 ?_
  intro f fr hf hm hn
  have H := H0.drop hf hm hn
  have h5 : f 5 = .int .i64 (i : Nat) := by rw [hf, h50] <;> rfl
  have h6 : f 6 = .bool (!(g.ops.take j).any (need B)) := by rw [hf, h60] <;> rfl
  have h7 : f 7 = .int .i64 (j : Nat) := by rw [hf, h70] <;> rfl
  have n8 := hn 8 (by decide)
  clear hf hm hn H0 h50 h60 h70
  obtain ⟨h1, m1, h3, m12, h4, h19, h20, r8⟩ := id H
  simp only [Pc] at m1
  simp only [nneg, Int.toNat_natCast, aiaddr, hgm, List.length_map, h1, m1, h3, h4, h5, h6, h7, h19, h20, eES, eEX, seval]
  by_cases hlt : j < g.ops.length
  · obtain ⟨o, ho⟩ : ∃ o, g.ops[j]? = some o := ⟨g.ops[j], List.getElem?_eq_getElem hlt⟩
    have hom : (g.ops.map fun o => AV.agg o.cells)[j]? = some (.agg o.cells) := by simp [ho]
    have e1 := wi64_s j _ hlt hgo.len
    have htg := hT g (List.mem_of_getElem? hg) o (List.mem_of_getElem? ho)
    have ht := take_any (q := need B) ho
    have fin2 : ∀ (f' : Fr) (fr' : Nat → Ob) (v : Bool), (!(g.ops.take j).any (need B) && !need B o) = v → Fi P c B a f' fr' → f' 5 = .int .i64 (i : Nat) → f' 6 = .bool v → f' 7 = .int .i64 ((j + 1 : Nat) : Int) → ∃ k, k < g.ops.length - j ∧ I k ⟨f', [fr'], []⟩ := by
      intro f' fr' v hv b1 b2 b3 b4
      exact ⟨g.ops.length - (j + 1), by omega, f', fr', j + 1, rfl, rfl, by omega, b1, b2, by rw [b3, ht, Bool.not_or, hv], b4⟩
    simp only [PO.cells] at hom
    have m1' : fr 1 = .cells (Pc P) := by rw [m1] <;> rfl
    cases hb : !(g.ops.take j).any (need B)
    · rw [hb] at fin2 h6
      simp only [Bool.false_and] at fin2
      simp only [lt_t hlt, nneg, Int.toNat_natCast, aiaddr, hgm, hom, PO.cells, n8, h1, m1, h3, h4, h5, h6, h7, h19, h20, e1, eES, eEX, seval]
      exact fin2 _ _ _ rfl ⟨(by first | rfl | exact h1 | simp only [h1, eES, eEX, seval]), (by first | rfl | exact m1' | simp only [m1', eES, eEX, seval]), (by first | rfl | exact h3 | simp only [h3, eES, eEX, seval]), (by first | rfl | exact m12 | simp only [m12, eES, eEX, seval]), (by first | rfl | exact h4 | simp only [h4, eES, eEX, seval]), (by first | rfl | exact h19 | simp only [h19, eES, eEX, seval]), (by first | rfl | exact h20 | simp only [h20, eES, eEX, seval]), by simp <;> rfl⟩ (by first | rfl | exact h5 | simp only [h5, eES, eEX, seval]) (by first | rfl | simp only [eES, eEX, seval]) (by first | rfl | simp only [eES, eEX, seval])
    rw [hb] at fin2 h6
    simp only [Bool.true_and] at fin2
    cases c1 : (o.card == 1)
    · have c1' : (o.card != 1) = true := by rw [bne, c1]; rfl
      have hne : (!need B o) = true := by unfold need; rw [c1]; rfl
      rw [hne] at fin2
      simp only [lt_t hlt, nneg, Int.toNat_natCast, aiaddr, hgm, hom, PO.cells, n8, c1', h1, m1, h3, h4, h5, h6, h7, h19, h20, e1, eES, eEX, seval]
      exact fin2 _ _ _ rfl ⟨(by first | rfl | exact h1 | simp only [h1, eES, eEX, seval]), (by first | rfl | exact m1' | simp only [m1', eES, eEX, seval]), (by first | rfl | exact h3 | simp only [h3, eES, eEX, seval]), (by first | rfl | exact m12 | simp only [m12, eES, eEX, seval]), (by first | rfl | exact h4 | simp only [h4, eES, eEX, seval]), (by first | rfl | exact h19 | simp only [h19, eES, eEX, seval]), (by first | rfl | exact h20 | simp only [h20, eES, eEX, seval]), by simp <;> rfl⟩ (by first | rfl | exact h5 | simp only [h5, eES, eEX, seval]) (by first | rfl | simp only [eES, eEX, seval]) (by first | rfl | simp only [eES, eEX, seval])
    have c1' : (o.card != 1) = false := by rw [bne, c1]; rfl
    cases c2 : (o.kind == 10)
    · have c2' : (o.kind != 10) = true := by rw [bne, c2]; rfl
      have hne : (!need B o) = true := by unfold need; rw [c1, c2]; rfl
      rw [hne] at fin2
      simp only [lt_t hlt, nneg, Int.toNat_natCast, aiaddr, hgm, hom, PO.cells, n8, c1', c2', h1, m1, h3, h4, h5, h6, h7, h19, h20, e1, eES, eEX, seval]
      exact fin2 _ _ _ rfl ⟨(by first | rfl | exact h1 | simp only [h1, eES, eEX, seval]), (by first | rfl | exact m1' | simp only [m1', eES, eEX, seval]), (by first | rfl | exact h3 | simp only [h3, eES, eEX, seval]), (by first | rfl | exact m12 | simp only [m12, eES, eEX, seval]), (by first | rfl | exact h4 | simp only [h4, eES, eEX, seval]), (by first | rfl | exact h19 | simp only [h19, eES, eEX, seval]), (by first | rfl | exact h20 | simp only [h20, eES, eEX, seval]), by simp <;> rfl⟩ (by first | rfl | exact h5 | simp only [h5, eES, eEX, seval]) (by first | rfl | simp only [eES, eEX, seval]) (by first | rfl | simp only [eES, eEX, seval])
    have c2' : (o.kind != 10) = false := by rw [bne, c2]; rfl
    obtain ⟨t1, t2⟩ := htg (by simpa using c2)
    obtain ⟨t, hte⟩ := Int.eq_ofNat_of_zero_le t1
    obtain ⟨y, hy⟩ : ∃ y, B[t]? = some y := ⟨B[t]'(by omega), List.getElem?_eq_getElem (by omega)⟩
    have hym : (B.map AV.bool)[t]? = some (.bool y) := by simp [hy]
    have hlt2 : (t < P.progs.length) = True := eq_true (by omega)
    have hne : (!need B o) = y := by unfold need; rw [c1, c2, hte, Int.toNat_natCast, hy]; cases y <;> rfl
    rw [hne] at fin2
    simp only [lt_t hlt, nneg, Int.toNat_natCast, aiaddr, hgm, hom, PO.cells, n8, c1', c2', hte, hym, hlt2, m12, Nat.zero_add, h1, m1, h3, h4, h5, h6, h7, h19, h20, e1, eES, eEX, seval]
    exact fin2 _ _ _ rfl ⟨(by first | rfl | exact h1 | simp only [h1, eES, eEX, seval]), (by first | rfl | exact m1' | simp only [m1', eES, eEX, seval]), (by first | rfl | exact h3 | simp only [h3, eES, eEX, seval]), (by first | rfl | exact m12 | simp only [m12, eES, eEX, seval]), (by first | rfl | exact h4 | simp only [h4, eES, eEX, seval]), (by first | rfl | exact h19 | simp only [h19, eES, eEX, seval]), (by first | rfl | exact h20 | simp only [h20, eES, eEX, seval]), by simp <;> rfl⟩ (by first | rfl | exact h5 | simp only [h5, eES, eEX, seval]) (by first | rfl | simp only [eES, eEX, seval]) (by first | rfl | simp only [eES, eEX, seval])
  · have hf : (g.ops.take j).any (need B) = g.ops.any (need B) := by rw [List.take_of_length_le (by omega)]
    rw [hf] at h6
    simp only [lt_f hlt, h1, m1, h3, h4, h5, h6, h7, h19, h20, eES, eEX, seval]
    refine hx _ _ ⟨(by first | rfl | exact h1 | simp only [h1, eES, eEX, seval]), by rw [m1] <;> rfl, (by first | rfl | exact h3 | simp only [h3, eES, eEX, seval]), (by first | rfl | exact m12 | simp only [m12, eES, eEX, seval]), (by first | rfl | exact h4 | simp only [h4, eES, eEX, seval]), (by first | rfl | exact h19 | simp only [h19, eES, eEX, seval]), (by first | rfl | exact h20 | simp only [h20, eES, eEX, seval]), r8⟩ (by first | rfl | exact h5 | simp only [h5, eES, eEX, seval]) (by first | rfl | exact h6 | simp only [h6, eES, eEX, seval])

end

theorem set_take {B : List Bool} {i : Nat} (h : i < B.length) (v : Bool) : ((B.set i v).take (i + 1)).all id = ((B.take i).all id && v) := by
  have h1 : (B.set i v)[i]? = some v := List.getElem?_set_self h
  rw [take_all h1, List.take_set_of_le (Nat.le_refl _)]
  rfl

section
variable {M : Nat} (P : PL) (hP : P.ok M) (hl : P.progs.length ≤ 64) (hT : Tgt P) (c : Nat)
include hP hl hT

theorem finm (f : Fr) (fr : Nat → Ob) (H : Fi P c (its P.progs c) true f fr) (h5 : f 5 = .int .i64 0) (Q : Exit → St → Prop) (hx : ∀ f fr, Fi P c (its P.progs (c + 1)) ((its P.progs (c + 1)).all id) f fr → Q (.exit 2) (⟨f, [fr], []⟩ : St)) : awp Tryz.prog (.loop l24_1) ⟨f, [fr], []⟩ Q := by
  let I : Nat → St → Prop := fun k st => ∃ f fr i, st = ⟨f, [fr], []⟩ ∧ k = P.progs.length - i ∧ i ≤ P.progs.length ∧ Fi P c (rnd P.progs (its P.progs c) i) (((rnd P.progs (its P.progs c) i).take i).all id) f fr ∧ f 5 = .int .i64 (i : Nat)
  refine awp_loop I _ ⟨f, fr, 0, rfl, rfl, Nat.zero_le _, H, h5⟩ ?_
  clear H h5
  rintro _ st ⟨f0, fr0, i, rfl, rfl, hi, H0, h50⟩
  refine awp_drops (a := _) [8] H0.r8 ?_
  intro f fr hf hm hn
  have H := H0.drop hf hm hn
  have h5 : f 5 = .int .i64 (i : Nat) := by rw [hf, h50] <;> rfl
  clear hf hm hn H0 h50
  have hBl : (rnd P.progs (its P.progs c) i).length = P.progs.length := by rw [rnd_len, its_len]
  obtain ⟨h1, m1, h3, m12, h4, h19, h20, r8⟩ := id H
  have m1' := m1
  simp only [Pc] at m1
  simp only [List.length_map, h1, m1, h3, h4, h5, h19, h20, eES, eEX, seval]
  by_cases hlt : i < P.progs.length
  · obtain ⟨g, hg⟩ : ∃ g, P.progs[i]? = some g := ⟨P.progs[i], List.getElem?_eq_getElem hlt⟩
    have e1 := wi64_s i _ hlt (by simp only [maxLen]; omega)
    have hst : rnd P.progs (its P.progs c) (i + 1) = (rnd P.progs (its P.progs c) i).set i (!g.ops.any (need (rnd P.progs (its P.progs c) i))) := by
      rw [rnd]
      conv => lhs; unfold stp
      rw [hg]
    have htk := set_take (B := rnd P.progs (its P.progs c) i) (i := i) (by omega) (!g.ops.any (need (rnd P.progs (its P.progs c) i)))
    rw [← hst] at htk
    simp only [lt_t hlt, h1, m1, h3, h4, h5, h19, h20, eES, eEX, seval]
    refine fini P hP hT c _ hBl _ i g hg _ fr ⟨(by first | rfl | exact h1 | simp only [h1, eES, eEX, seval]), m1', (by first | rfl | exact h3 | simp only [h3, eES, eEX, seval]), m12, (by first | rfl | exact h4 | simp only [h4, eES, eEX, seval]), (by first | rfl | exact h19 | simp only [h19, eES, eEX, seval]), (by first | rfl | exact h20 | simp only [h20, eES, eEX, seval]), r8⟩ (by first | rfl | exact h5 | simp only [h5, eES, eEX, seval]) (by first | rfl | simp only [eES, eEX, seval]) (by first | rfl | simp only [eES, eEX, seval]) _ (fun f fr H h5 h6 => ?_)
    generalize hBB : rnd P.progs (its P.progs c) i = B at *
    generalize hv : (!g.ops.any (need B)) = v at *
    obtain ⟨h1, m1, h3, m12, h4, h19, h20, r8⟩ := H
    obtain ⟨y, hy⟩ : ∃ y, B[i]? = some y := ⟨B[i]'(by omega), List.getElem?_eq_getElem (by omega)⟩
    have hym : (B.map AV.bool)[i]? = some (.bool y) := by simp [hy]
    have ia : aiaddr [fr] 1 none (.vec 0 12 1 0 P.progs.length false) (i : Int) = some (.vptr 0 12 1 i 0) := by
      have e : Am.look [fr] 0 12 = .vec 1 1 (B.map AV.bool) := m12
      simp only [aiaddr, e, nneg, if_true, Int.toNat_natCast]
      simp; omega
    have ist : astore [fr] (.vptr 0 12 1 i 0) [.bool v] = some [upd fr 12 (.vec 1 1 ((B.map AV.bool).set i (.bool v)))] := by
      have e : Am.look [fr] 0 12 = .vec 1 1 (B.map AV.bool) := m12
      simp only [astore, e, hym]
      simp [AV.cells, AV.rfL, AV.rf, Am.put, newElem]
    have hset : (B.map AV.bool).set i (.bool v) = (rnd P.progs (its P.progs c) (i + 1)).map AV.bool := by rw [hst, List.map_set]
    rw [hset] at ist
    cases hal : (B.take i).all id
    · rw [hal] at h4 htk
      simp only [ia, ist, h1, h3, h4, h5, h6, h19, h20, e1, eES, eEX, seval]
      exact ⟨P.progs.length - (i + 1), by omega, _, _, i + 1, rfl, rfl, by omega, ⟨(by first | rfl | exact h1 | simp only [h1, eES, eEX, seval]), (by first | rfl | exact m1 | simp only [m1, eES, eEX, seval]), (by first | rfl | exact h3 | simp only [h3, eES, eEX, seval]), (by first | rfl | simp only [eES, eEX, seval]), by rw [htk] <;> first | exact h4 | simp only [h4, Bool.false_and, eES, eEX, seval], (by first | rfl | exact h19 | simp only [h19, eES, eEX, seval]), (by first | rfl | exact h20 | simp only [h20, eES, eEX, seval]), fun s hs => by simp at hs; subst hs; rw [upd_ne _ _ (by decide)]; exact r8 8 (by simp)⟩, (by first | rfl | simp only [eES, eEX, seval])⟩
    · rw [hal] at h4 htk
      simp only [ia, ist, h1, h3, h4, h5, h6, h19, h20, e1, eES, eEX, seval]
      exact ⟨P.progs.length - (i + 1), by omega, _, _, i + 1, rfl, rfl, by omega, ⟨(by first | rfl | exact h1 | simp only [h1, eES, eEX, seval]), (by first | rfl | exact m1 | simp only [m1, eES, eEX, seval]), (by first | rfl | exact h3 | simp only [h3, eES, eEX, seval]), (by first | rfl | simp only [eES, eEX, seval]), by rw [htk, Bool.true_and] <;> first | rfl | simp only [eES, eEX, seval], (by first | rfl | exact h19 | simp only [h19, eES, eEX, seval]), (by first | rfl | exact h20 | simp only [h20, eES, eEX, seval]), fun s hs => by simp at hs; subst hs; rw [upd_ne _ _ (by decide)]; exact r8 8 (by simp)⟩, (by first | rfl | simp only [eES, eEX, seval])⟩
  · have hii : i = P.progs.length := by omega
    subst hii
    have hits : rnd P.progs (its P.progs c) P.progs.length = its P.progs (c + 1) := rfl
    rw [hits] at H hBl m12 h4
    rw [List.take_of_length_le (by omega)] at h4
    simp only [lt_f hlt, h1, m1, h3, h4, h5, h19, h20, eES, eEX, seval]
    exact hx _ _ ⟨(by first | rfl | exact h1 | simp only [h1, eES, eEX, seval]), m1', (by first | rfl | exact h3 | simp only [h3, eES, eEX, seval]), m12, (by first | rfl | exact h4 | simp only [h4, eES, eEX, seval]), (by first | rfl | exact h19 | simp only [h19, eES, eEX, seval]), (by first | rfl | exact h20 | simp only [h20, eES, eEX, seval]), r8⟩

end

theorem z24 {M : Nat} (P : PL) (hP : P.ok M) (hl : P.progs.length ≤ 64) (hT : Tgt P) : Fn1 Tryz.prog 24 [P.av] (.bool (fin P)) := by
  have e0 : P.av = .agg [.list (P.progs.map gav), .list (P.enums.map eav)] := rfl
  have hmx : P.progs.length ≤ maxLen := by simp only [maxLen]; omega
  have hz : zeroE 1 [AV.bool false] = .bool false := rfl
  have hr0 : (List.replicate P.progs.length (AV.bool false)) = (its P.progs 0).map AV.bool := by simp [its]
  let A : Nat → Bool := fun c => if c = 0 then (P.progs.length : Int) == 0 else (its P.progs c).all id
  have hA : A P.progs.length = fin P := by
    show (if P.progs.length = 0 then (P.progs.length : Int) == 0 else (its P.progs P.progs.length).all id) = (its P.progs P.progs.length).all id
    split
    · rename_i h
      rw [h]
      simp [its, h]
    · rfl
  let I : Nat → St → Prop := fun k st => ∃ f fr c, st = ⟨f, [fr], []⟩ ∧ k = P.progs.length - c ∧ c ≤ P.progs.length ∧ Fi P c (its P.progs c) (A c) f fr
  refine k24.fn (by simp) ?_
  simp only [e0, List.length_map, eES, eEX, seval]
  refine aops_mk (n := P.progs.length) (k := P.progs.length) rfl rfl (Nat.le_refl _) (by omega) (by omega) rfl ?_
  simp only [hz, hr0, List.length_map, eES, eEX, seval]
  refine awp_loop I _ ⟨_, _, 0, rfl, rfl, Nat.zero_le _, ⟨(by first | rfl | simp only [eES, eEX, seval]), (by first | rfl | simp only [eES, eEX, seval]), (by first | rfl | simp only [eES, eEX, seval]), (by first | rfl | simp only [eES, eEX, seval]), (by first | rfl | simp only [eES, eEX, seval]), (by first | rfl | simp only [eES, eEX, seval]), (by first | rfl | simp only [eES, eEX, seval]), by simp <;> rfl⟩⟩ ?_
  rintro _ st ⟨f0, fr0, c, rfl, rfl, hc, H0⟩
  refine awp_drops (a := _) [8] H0.r8 ?_
  intro f fr hf hm hn
  have H := H0.drop hf hm hn
  clear hf hm hn H0
  obtain ⟨h1, m1, h3, m12, h4, h19, h20, r8⟩ := id H
  simp only [h1, h3, h4, h19, h20, eES, eEX, seval]
  by_cases hlt : c < P.progs.length
  · have e1 := wi64_s c _ hlt hmx
    simp only [lt_t hlt, h1, h3, h4, h19, h20, eES, eEX, seval]
    refine finm P hP hl hT c _ fr ⟨(by first | rfl | exact h1 | simp only [h1, eES, eEX, seval]), m1, (by first | rfl | exact h3 | simp only [h3, eES, eEX, seval]), m12, (by first | rfl | simp only [eES, eEX, seval]), (by first | rfl | exact h19 | simp only [h19, eES, eEX, seval]), (by first | rfl | exact h20 | simp only [h20, eES, eEX, seval]), r8⟩ (by first | rfl | simp only [eES, eEX, seval]) _ (fun f fr H => ?_)
    obtain ⟨h1, m1, h3, m12, h4, h19, h20, r8⟩ := H
    simp only [h1, h3, h4, h19, h20, e1, eES, eEX, seval]
    exact ⟨P.progs.length - (c + 1), by omega, _, fr, c + 1, rfl, rfl, by omega, ⟨(by first | rfl | exact h1 | simp only [h1, eES, eEX, seval]), m1, (by first | rfl | exact h3 | simp only [h3, eES, eEX, seval]), m12, (by first | rfl | exact h4 | simp only [h4, eES, eEX, seval]), (by first | rfl | exact h19 | simp only [h19, eES, eEX, seval]), (by first | rfl | simp only [eES, eEX, seval]), r8⟩⟩
  · have hcc : c = P.progs.length := by omega
    subst hcc
    rw [hA] at h4
    simp only [lt_f hlt, h1, h3, h4, h19, h20, eES, eEX, seval]

theorem z12 {M : Nat} (P : PL) (hP : P.ok M) (hM : M ≤ 140737488351232) : Fn1 Tryz.prog 12 [P.av] (.int .i64 (ck P)) := by
  have e0 : P.av = .agg [.list (P.progs.map gav), .list (P.enums.map eav)] := rfl
  have c1 := z18 P hP
  have c2 := z19 P hP
  have c3 := z20 P hP
  have c4 := z21 P hP
  have c5 := z22 P hP
  refine wF Tryz.func12 ?_; simp only [eK, Tryz.f12, seval]
  simp only [e0, ck, eES, eEX, seval]
  refine aops_call c1 rfl rfl rfl (.inl rfl) ?_
  cases hl : lim P
  · simp only [Bool.not_false, if_true, eES, eEX, seval]
  obtain ⟨l1, l2, l3, l4⟩ := lim_progs hl
  have c6 := z23 hM P hP l3
  simp only [Bool.not_true, Bool.true_eq_false, if_false, eES, eEX, seval]
  refine aops_call c2 rfl rfl rfl (.inl rfl) ?_
  cases nam P
  · simp only [Bool.not_false, if_true, eES, eEX, seval]
  simp only [Bool.not_true, Bool.true_eq_false, if_false, eES, eEX, seval]
  refine aops_call c3 rfl rfl rfl (.inl rfl) ?_
  cases ord P
  · simp only [Bool.not_false, if_true, eES, eEX, seval]
  simp only [Bool.not_true, Bool.true_eq_false, if_false, eES, eEX, seval]
  refine aops_call c4 rfl rfl rfl (.inl rfl) ?_
  cases sin P
  · simp only [Bool.not_false, if_true, eES, eEX, seval]
  simp only [Bool.not_true, Bool.true_eq_false, if_false, eES, eEX, seval]
  refine aops_call c5 rfl rfl rfl (.inl rfl) ?_
  cases rng P
  · simp only [Bool.not_false, if_true, eES, eEX, seval]
  simp only [Bool.not_true, Bool.true_eq_false, if_false, eES, eEX, seval]
  refine aops_call c6 rfl rfl rfl (.inl rfl) ?_
  cases ha : args P
  · simp only [Bool.not_false, if_true, eES, eEX, seval]
  have c7 := z24 P hP l1 (args_tgt ha)
  simp only [Bool.not_true, Bool.true_eq_false, if_false, eES, eEX, seval]
  refine aops_call c7 rfl rfl rfl (.inl rfl) ?_
  cases fin P
  · simp only [Bool.not_false, if_true, eES, eEX, seval]
  · simp only [Bool.not_true, Bool.true_eq_false, if_false, eES, eEX, seval]

end Go.Proofs.YtdgbidbkcigkhaaGreatDoor.Va

set_option linter.unusedSimpArgs false
namespace Go.Proofs.YtdgbidbkcigkhaaGreatDoor.Va
open Go Am Rc Bt Br

theorem find_drop {α : Type} (p : α → Bool) {l : List α} {i : Nat} {x : α} (hx : l[i]? = some x) : (l.drop i).find? p = if p x = true then some x else (l.drop (i + 1)).find? p := by
  have hlt : i < l.length := (List.getElem?_eq_some_iff.1 hx).1
  rw [List.drop_eq_getElem_cons hlt, show l[i] = x from (List.getElem?_eq_some_iff.1 hx).2, List.find?_cons]
  cases p x <;> rfl

def zc : List AV := [.int .i64 0, .str [], .str [], .int .i64 0, .int .i64 0, .int .i64 0, .int .i64 0, .int .i64 0]

def OpI (g : PG) (n : Int) (k : Nat) (st : St) : Prop :=
  ∃ f fr i, st = ⟨f, [fr], []⟩ ∧ k = g.ops.length - i ∧ g.ops.find? (fun o => o.num == n) = (g.ops.drop i).find? (fun o => o.num == n) ∧ f 1 = .int .i64 n ∧ f 2 = .ptr 0 2 0 ∧ f 4 = .ptr 0 4 0 ∧ f 6 = .int .i64 (i : Nat) ∧ fr 2 = .cells g.cells ∧ fr 4 = .cells zc

theorem y11 (g : PG) (hl : g.ops.length ≤ maxLen) (n : Int) : Fn1 Tryz.prog 11 [gav g, .int .i64 n] (opr (fun o => o.num == n) g.ops) := by
  refine wF Tryz.func11 ?_; simp only [eK, Tryz.f11, seval]
  simp only [gav, PG.cells, eES, eEX, seval]
  refine awp_loop (OpI g n) _ ⟨_, _, 0, rfl, rfl, rfl, (by first | rfl | simp only [eES, eEX, seval]), (by first | rfl | simp only [eES, eEX, seval]), (by first | rfl | simp only [eES, eEX, seval]), (by first | rfl | simp only [eES, eEX, seval]), (by first | rfl | simp only [eES, eEX, seval]), (by first | rfl | simp only [eES, eEX, seval])⟩ ?_
  rintro _ st ⟨f, fr, i, rfl, rfl, hx, h1, h2, h4, h6, m2, m4⟩
  simp only [PG.cells, zc] at m2 m4
  simp only [List.length_map, h1, h2, h4, h6, m2, m4, eES, eEX, seval]
  by_cases hlt : i < g.ops.length
  · obtain ⟨x, hi⟩ : ∃ x, g.ops[i]? = some x := ⟨g.ops[i], List.getElem?_eq_getElem hlt⟩
    have hg : (g.ops.map fun o => AV.agg o.cells)[i]? = some (.agg x.cells) := by simp [hi]
    have e1 := wi64_s i _ hlt hl
    rw [find_drop _ hi] at hx
    simp only [PO.cells] at hg m2
    simp only [lt_t hlt, nneg, Int.toNat_natCast, aiaddr, hg, PO.cells, h1, h2, h4, h6, m2, m4, eES, eEX, seval]
    cases hp : (x.num == n)
    · rw [hp] at hx
      simp only [Bool.false_eq_true, if_false] at hx
      simp only [h1, h2, h4, h6, m2, m4, e1, eES, eEX, seval]
      exact ⟨g.ops.length - (i + 1), by omega, _, _, i + 1, rfl, rfl, hx, (by first | rfl | exact h1 | simp only [h1, eES, eEX, seval]), (by first | rfl | exact h2 | simp only [h2, eES, eEX, seval]), (by first | rfl | exact h4 | simp only [h4, eES, eEX, seval]), (by first | rfl | simp only [eES, eEX, seval]), m2, m4⟩
    · rw [hp] at hx
      simp only [if_true] at hx
      simp only [nneg, Int.toNat_natCast, aiaddr, hg, opr, hx, Option.getD_some, Option.isSome_some, oav, PO.cells, h1, h2, h4, h6, m2, m4, splice, List.take_zero, List.nil_append, List.drop_succ_cons, List.drop_zero, List.drop_nil, List.append_nil, List.length_cons, List.length_nil, List.all_cons, List.all_nil, AV.leaf, eES, eEX, seval]
  · have hx' : g.ops.find? (fun o => o.num == n) = none := by rw [hx, List.drop_of_length_le (by omega)]; rfl
    simp only [lt_f hlt, h1, h2, h4, h6, m2, m4, opr, hx', Option.getD_none, Option.isSome_none, PO0, oav, PO.cells, splice, List.take_zero, List.nil_append, List.drop_succ_cons, List.drop_zero, List.drop_nil, List.append_nil, List.length_cons, List.length_nil, List.all_cons, List.all_nil, AV.leaf, eES, eEX, seval]

end Go.Proofs.YtdgbidbkcigkhaaGreatDoor.Va

set_option linter.unusedSimpArgs false
namespace Go.Proofs.YtdgbidbkcigkhaaGreatDoor.Va
open Go Am Rc Bt Br

section progs
variable (L : List PG) (hl : L.length ≤ maxLen) (p : PG → Bool) (c : Nat) (cap : AV) (m : Mem)

def IxG (k : Nat) (st : St) : Prop :=
  ∃ f i, st = ⟨f, noObs :: m, []⟩ ∧ k = L.length - i ∧ fxi p L 0 = fxi p (L.drop i) i ∧ f 0 = .list (L.map gav) ∧ f 1 = .fn (.func c) [] [cap.sh] ∧ f 7 = .int .i64 (L.length : Nat) ∧ f 8 = .int .i64 (i : Nat)

include hl in
theorem y25 (hc : ∀ o ∈ L, ACalls Tryz.prog c [gav o, cap.sh] (noObs :: m) fun y m1 => y = .bool (p o) ∧ m1 = noObs :: m) :
    ACalls Tryz.prog 25 [.list (L.map gav), .fn (.func c) [] [cap]] m fun y m1 => y = .int .i64 (fxi p L 0) ∧ m1 = m := by
  refine wG Tryz.func25 ?_; simp only [eK, Tryz.f25, seval]
  simp only [List.length_map, eES, eEX, seval]
  refine awp_loop (IxG L p c cap m) _ ⟨_, 0, rfl, rfl, rfl, (by first | rfl | simp only [eES, eEX, seval]), (by first | rfl | simp only [eES, eEX, seval]), (by first | rfl | simp only [eES, eEX, seval]), (by first | rfl | simp only [eES, eEX, seval])⟩ ?_
  rintro _ st ⟨f, i, rfl, rfl, hx, h0, h1, h7, h8⟩
  simp only [h0, h1, h7, h8, eES, eEX, seval]
  by_cases hlt : i < L.length
  · obtain ⟨x, hi⟩ : ∃ x, L[i]? = some x := ⟨L[i], List.getElem?_eq_getElem hlt⟩
    have hcl := hc x (List.mem_of_getElem? hi)
    have hg : (L.map gav)[i]? = some (gav x) := by simp [hi]
    have e1 := wi64_s i _ hlt hl
    simp only [gav, PG.cells] at hcl
    simp only [lt_t hlt, nneg, Int.toNat_natCast, aiaddr, hg, gav, PG.cells, h0, h1, h7, h8, eES, eEX, seval]
    refine aops_callV (fa := []) (fb := [cap.sh]) (by first | rfl | exact h1 | simp only [h1, eES, eEX, seval]) hcl (by simp only [List.map_cons, List.map_nil, List.nil_append, List.cons_append, h0, h1, h7, h8, eES, eEX, seval]) ?_
    rw [fxi_drop p hi] at hx
    cases hp : p x
    · rw [hp] at hx
      simp only [Bool.false_eq_true, if_false] at hx
      simp only [h0, h1, h7, h8, e1, eES, eEX, seval]
      exact ⟨L.length - (i + 1), by omega, _, i + 1, rfl, rfl, hx, (by first | rfl | exact h0 | simp only [h0, eES, eEX, seval]), (by first | rfl | exact h1 | simp only [h1, eES, eEX, seval]), (by first | rfl | exact h7 | simp only [h7, eES, eEX, seval]), (by first | rfl | simp only [eES, eEX, seval])⟩
    · rw [hp] at hx
      simp only [if_true] at hx
      simp only [h0, h1, h7, h8, hx, eES, eEX, seval]
  · have hx' : fxi p L 0 = -1 := by rw [hx, List.drop_of_length_le (by omega)]; rfl
    simp only [lt_f hlt, h0, h1, h7, h8, hx', eES, eEX, seval]

end progs

section items
variable (L : List PI) (hl : L.length ≤ maxLen) (p : PI → Bool) (c : Nat) (cap : AV) (m : Mem)

def IxI (k : Nat) (st : St) : Prop :=
  ∃ f i, st = ⟨f, noObs :: m, []⟩ ∧ k = L.length - i ∧ fxi p L 0 = fxi p (L.drop i) i ∧ f 0 = .list (L.map iav) ∧ f 1 = .fn (.func c) [] [cap.sh] ∧ f 7 = .int .i64 (L.length : Nat) ∧ f 8 = .int .i64 (i : Nat)

include hl in
theorem y198 (hc : ∀ o ∈ L, ACalls Tryz.prog c [iav o, cap.sh] (noObs :: m) fun y m1 => y = .bool (p o) ∧ m1 = noObs :: m) :
    ACalls Tryz.prog 198 [.list (L.map iav), .fn (.func c) [] [cap]] m fun y m1 => y = .int .i64 (fxi p L 0) ∧ m1 = m := by
  refine wG Tryz.func198 ?_; simp only [eK, Tryz.f198, seval]
  simp only [List.length_map, eES, eEX, seval]
  refine awp_loop (IxI L p c cap m) _ ⟨_, 0, rfl, rfl, rfl, (by first | rfl | simp only [eES, eEX, seval]), (by first | rfl | simp only [eES, eEX, seval]), (by first | rfl | simp only [eES, eEX, seval]), (by first | rfl | simp only [eES, eEX, seval])⟩ ?_
  rintro _ st ⟨f, i, rfl, rfl, hx, h0, h1, h7, h8⟩
  simp only [h0, h1, h7, h8, eES, eEX, seval]
  by_cases hlt : i < L.length
  · obtain ⟨x, hi⟩ : ∃ x, L[i]? = some x := ⟨L[i], List.getElem?_eq_getElem hlt⟩
    have hcl := hc x (List.mem_of_getElem? hi)
    have hg : (L.map iav)[i]? = some (iav x) := by simp [hi]
    have e1 := wi64_s i _ hlt hl
    simp only [iav, PI.cells] at hcl
    simp only [lt_t hlt, nneg, Int.toNat_natCast, aiaddr, hg, iav, PI.cells, h0, h1, h7, h8, eES, eEX, seval]
    refine aops_callV (fa := []) (fb := [cap.sh]) (by first | rfl | exact h1 | simp only [h1, eES, eEX, seval]) hcl (by simp only [List.map_cons, List.map_nil, List.nil_append, List.cons_append, h0, h1, h7, h8, eES, eEX, seval]) ?_
    rw [fxi_drop p hi] at hx
    cases hp : p x
    · rw [hp] at hx
      simp only [Bool.false_eq_true, if_false] at hx
      simp only [h0, h1, h7, h8, e1, eES, eEX, seval]
      exact ⟨L.length - (i + 1), by omega, _, i + 1, rfl, rfl, hx, (by first | rfl | exact h0 | simp only [h0, eES, eEX, seval]), (by first | rfl | exact h1 | simp only [h1, eES, eEX, seval]), (by first | rfl | exact h7 | simp only [h7, eES, eEX, seval]), (by first | rfl | simp only [eES, eEX, seval])⟩
    · rw [hp] at hx
      simp only [if_true] at hx
      simp only [h0, h1, h7, h8, hx, eES, eEX, seval]
  · have hx' : fxi p L 0 = -1 := by rw [hx, List.drop_of_length_le (by omega)]; rfl
    simp only [lt_f hlt, h0, h1, h7, h8, hx', eES, eEX, seval]

theorem fxi_any {α : Type} (p : α → Bool) (l : List α) : decide (fxi p l 0 ≥ 0) = l.any p := by
  rcases fxi_spec p l 0 with ⟨h1, h2⟩ | ⟨k, o, h1, _, h3⟩
  · rw [h1]
    have : l.any p = false := by
      rw [List.any_eq_false]
      intro x hx
      exact fun h => by have := List.find?_eq_none.1 h2 x hx; exact this h
    rw [this]; rfl
  · rw [h1]
    have : l.any p = true := List.any_eq_true.2 ⟨o, List.mem_of_find?_eq_some h3, List.find?_some h3⟩
    rw [this]
    exact decide_eq_true (by omega)

include hl in
theorem y145 (hc : ∀ o ∈ L, ACalls Tryz.prog c [iav o, cap.sh.sh] (noObs :: noObs :: m) fun y m1 => y = .bool (p o) ∧ m1 = noObs :: noObs :: m) :
    ACalls Tryz.prog 145 [.list (L.map iav), .fn (.func c) [] [cap]] m fun y m1 => y = .bool (L.any p) ∧ m1 = m := by
  refine wG Tryz.func145 ?_; simp only [eK, Tryz.f145, seval]
  simp only [eES, eEX, seval]
  refine aops_callF (y198 L hl p c cap.sh _ hc) (by simp only [List.map_cons, List.map_nil, eES, eEX, seval]) ?_
  simp only [fxi_any, eES, eEX, seval]

end items

theorem y26 (g : PG) (frO : Nat → Ob) (s : List UInt8) (hf : frO 3 = .cells [.str s]) : ACalls Tryz.prog 26 [gav g, .ptr 1 3 0] [noObs, frO] fun y m1 => y = .bool (g.name == s) ∧ m1 = [noObs, frO] := by
  refine wG Tryz.func26 ?_; simp only [eK, Tryz.f26, seval]
  simp only [hf, gav, PG.cells, astr, eES, eEX, seval]

def pfr (s : List UInt8) (L : List PG) : AV := .tup [.int .i64 (if fxi (fun g : PG => g.name == s) L 0 < 0 then 0 else fxi (fun g : PG => g.name == s) L 0), .bool (decide (fxi (fun g : PG => g.name == s) L 0 ≥ 0))]

theorem y13 (P : PL) (hl : P.progs.length ≤ maxLen) (s : List UInt8) : Fn1 Tryz.prog 13 [P.av, .str s] (pfr s P.progs) := by
  refine wF Tryz.func13 ?_; simp only [eK, Tryz.f13, seval]
  simp only [PL.av, eES, eEX, seval]
  refine aops_callF (y25 P.progs hl (fun g => g.name == s) 26 (.ptr 0 3 0) _ fun g _ => y26 g _ s (by first | rfl | simp only [eES, eEX, seval])) (by simp only [List.map_cons, List.map_nil, gav, eES, eEX, seval] <;> rfl) ?_
  unfold pfr
  by_cases h : fxi (fun g : PG => g.name == s) P.progs 0 < 0
  · have d : decide (fxi (fun g : PG => g.name == s) P.progs 0 < 0) = true := decide_eq_true h
    simp only [d, if_pos h, eES, eEX, seval]
  · have d : decide (fxi (fun g : PG => g.name == s) P.progs 0 < 0) = false := decide_eq_false h
    simp only [d, if_neg h, eES, eEX, seval]

def FdI (P : PL) (s : List UInt8) (k : Nat) (st : St) : Prop :=
  ∃ f fr i, st = ⟨f, [fr], []⟩ ∧ k = P.progs.length - i ∧ fxi (fun g : PG => g.name == s) P.progs 0 = fxi (fun g : PG => g.name == s) (P.progs.drop i) i ∧ f 1 = .str s ∧ f 2 = .ptr 0 2 0 ∧ f 6 = .int .i64 (i : Nat) ∧ fr 2 = .cells [.list (P.progs.map gav), .list (P.enums.map eav)]

theorem y10 (P : PL) (hl : P.progs.length ≤ maxLen) (s : List UInt8) : Fn1 Tryz.prog 10 [P.av, .str s] (pfr s P.progs) := by
  have e0 : P.av = .agg [.list (P.progs.map gav), .list (P.enums.map eav)] := rfl
  refine wF Tryz.func10 ?_; simp only [eK, Tryz.f10, seval]
  simp only [e0, eES, eEX, seval]
  refine awp_loop (FdI P s) _ ⟨_, _, 0, rfl, rfl, rfl, (by first | rfl | simp only [eES, eEX, seval]), (by first | rfl | simp only [eES, eEX, seval]), (by first | rfl | simp only [eES, eEX, seval]), (by first | rfl | simp only [eES, eEX, seval])⟩ ?_
  rintro _ st ⟨f, fr, i, rfl, rfl, hx, h1, h2, h6, m2⟩
  simp only [List.length_map, h1, h2, h6, m2, eES, eEX, seval]
  by_cases hlt : i < P.progs.length
  · obtain ⟨x, hi⟩ : ∃ x, P.progs[i]? = some x := ⟨P.progs[i], List.getElem?_eq_getElem hlt⟩
    have hg : (P.progs.map gav)[i]? = some (.agg x.cells) := by simp [hi, gav]
    have e1 := wi64_s i _ hlt hl
    simp only [PG.cells] at hg
    rw [fxi_drop _ hi] at hx
    simp only [lt_t hlt, nneg, Int.toNat_natCast, aiaddr, hg, h1, h2, h6, m2, astr, eES, eEX, seval]
    cases hp : (x.name == s)
    · rw [hp] at hx
      simp only [Bool.false_eq_true, if_false] at hx
      simp only [h1, h2, h6, m2, e1, eES, eEX, seval]
      exact ⟨P.progs.length - (i + 1), by omega, _, _, i + 1, rfl, rfl, hx, (by first | rfl | exact h1 | simp only [h1, eES, eEX, seval]), (by first | rfl | exact h2 | simp only [h2, eES, eEX, seval]), (by first | rfl | simp only [eES, eEX, seval]), m2⟩
    · rw [hp] at hx
      simp only [if_true] at hx
      have d1 : ¬ ((i : Int) < 0) := by omega
      have d2 : decide ((i : Int) ≥ 0) = true := decide_eq_true (by omega)
      simp only [pfr, hx, if_neg d1, d2, h1, h2, h6, m2, eES, eEX, seval]
  · have hx' : fxi (fun g : PG => g.name == s) P.progs 0 = -1 := by rw [hx, List.drop_of_length_le (by omega)]; rfl
    have d1 : ((-1 : Int) < 0) := by omega
    have d2 : decide ((-1 : Int) ≥ 0) = false := decide_eq_false (by omega)
    simp only [lt_f hlt, pfr, hx', if_pos d1, d2, h1, h2, h6, m2, eES, eEX, seval]

end Go.Proofs.YtdgbidbkcigkhaaGreatDoor.Va

set_option linter.unusedSimpArgs false
set_option linter.unusedSectionVars false
namespace Go.Proofs.YtdgbidbkcigkhaaGreatDoor.Va
open Go Am Rc Bt Br

theorem findx_at {α : Type} {p : α → Bool} : ∀ {l : List α} {i : Nat} {x : α}, l[i]? = some x → p x = true → (∀ y ∈ l.take i, p y = false) → l.find? p = some x
  | [], _, _, h, _, _ => by simp at h
  | y :: l, 0, x, h, hp, _ => by
    simp only [List.getElem?_cons_zero, Option.some.injEq] at h
    subst h
    rw [List.find?_cons, hp]
  | y :: l, i + 1, x, h, hp, hn => by
    rw [List.getElem?_cons_succ] at h
    rw [List.find?_cons, hn y (by simp)]
    exact findx_at h hp fun z hz => hn z (by simp [hz])
theorem adjn_pw {ops : List PO} (h : adj ops (ordn PO.num) = true) : ops.Pairwise fun a b => a.num < b.num := by
  have hs : ∀ i (hi : i + 1 < ops.length), ops[i].num < ops[i + 1].num := by
    intro i hi
    unfold adj at h
    have := allU_iff.1 h (i + 1) hi
    rw [two_at (List.getElem?_eq_getElem (by omega : i < ops.length)) (List.getElem?_eq_getElem hi)] at this
    unfold ordn at this
    simpa using this
  rw [List.pairwise_iff_getElem]
  intro i j hi hj hij
  obtain ⟨d, rfl⟩ : ∃ d, j = i + 1 + d := ⟨j - (i + 1), by omega⟩
  clear hij
  induction d with
  | zero => exact hs i (by omega)
  | succ d ih =>
    have a := ih (by omega)
    have b := hs (i + 1 + d) (by omega)
    exact Int.lt_trans a b
theorem pw_take {ops : List PO} (h : ops.Pairwise fun a b => a.num < b.num) {i : Nat} {o x : PO} (ho : ops[i]? = some o) (hx : x ∈ ops.take i) : x.num < o.num := by
  obtain ⟨j, hj, rfl⟩ := List.mem_iff_getElem.1 hx
  rw [List.length_take] at hj
  obtain ⟨hi, e⟩ := List.getElem?_eq_some_iff.1 ho
  subst e
  rw [List.getElem_take]
  exact List.pairwise_iff_getElem.1 h j i (by omega) hi (by omega)

structure OwnO (P : PL) (g : PG) (o : PO) : Prop where
  num : g.ops.find? (fun x => x.num == o.num) = some o
  nam : g.ops.find? (fun x => x.name == o.name) = some o
  kd : 1 ≤ o.kind ∧ o.kind ≤ 10
  key : o.card = 5 → 1 ≤ o.key ∧ o.key ≤ 9
  tgP : o.kind = 10 → ∃ (j : Nat) (h : PG), P.progs[j]? = some h ∧ o.target = (j : Int)
  tgE : o.kind = 9 → ∃ (j : Nat) (e : PE), P.enums[j]? = some e ∧ o.target = (j : Int)
structure Own (P : PL) : Prop where
  l1 : P.progs.length ≤ 64
  l2 : P.enums.length ≤ 64
  ops : ∀ g ∈ P.progs, g.ops.length ≤ 64
  its : ∀ e ∈ P.enums, e.items.length ≤ 64
  up : ∀ g ∈ P.progs, g.ops.Pairwise fun a b => a.num < b.num
  op : ∀ g ∈ P.progs, ∀ o ∈ g.ops, OwnO P g o
theorem own_of {P : PL} (h : ck P = 0) : Own P := by
  unfold ck at h
  split at h
  · omega
  rename_i hl
  split at h
  · omega
  split at h
  · omega
  rename_i ho
  split at h
  · omega
  rename_i hs
  split at h
  · omega
  split at h
  · omega
  rename_i ha
  rw [Bool.not_eq_false] at hl ho hs ha
  obtain ⟨l1, l2, l3, l4⟩ := lim_progs hl
  unfold ord at ho
  simp only [Bool.and_eq_true, List.all_eq_true] at ho
  unfold sin at hs
  simp only [Bool.and_eq_true, List.all_eq_true] at hs
  unfold args at ha
  simp only [Bool.and_eq_true, List.all_eq_true] at ha
  have hup : ∀ g ∈ P.progs, g.ops.Pairwise fun a b => a.num < b.num := fun g hg => adjn_pw (ho.1.2 g hg)
  refine ⟨l1, l2, l3, fun e he => (l4 e he).2.1, hup, fun g hg o hoo => ?_⟩
  obtain ⟨i, hi⟩ := List.mem_iff_getElem?.1 hoo
  have h1 := hs.1 g hg
  unfold sin1 at h1
  simp only [Bool.and_eq_true] at h1
  have h2 := allU_iff.1 h1.2 i (List.getElem?_eq_some_iff.1 hi).1
  rw [uniq_at hi, List.all_eq_true] at h2
  have h3 := ha.1 g hg
  unfold argG at h3
  simp only [Bool.and_eq_true, List.all_eq_true] at h3
  have h4 := (h3.2 o hoo).1
  unfold arg1 at h4
  simp only [Bool.and_eq_true, decide_eq_true_eq] at h4
  obtain ⟨⟨_, hk⟩, haim⟩ := h4
  unfold aim at haim
  refine ⟨findx_at hi (by simp) fun y hy => ?_, findx_at hi (by simp) fun y hy => by simpa using h2 y hy, ?_, fun h5 => ?_, fun h10 => ?_, fun h9 => ?_⟩
  · have := pw_take (hup g hg) hi hy
    rw [beq_eq_false_iff_ne]
    omega
  · split at haim
    · omega
    split at haim
    · omega
    unfold isk at haim
    simp only [Bool.and_eq_true, decide_eq_true_eq] at haim
    omega
  · unfold key at hk
    rw [if_pos h5] at hk
    simp only [Bool.and_eq_true, decide_eq_true_eq] at hk
    omega
  · rw [if_pos h10] at haim
    simp only [Bool.and_eq_true, decide_eq_true_eq] at haim
    exact ⟨o.target.toNat, _, List.getElem?_eq_getElem (by omega), by omega⟩
  · rw [if_neg (by omega), if_pos h9] at haim
    simp only [Bool.and_eq_true, decide_eq_true_eq] at haim
    exact ⟨o.target.toNat, _, List.getElem?_eq_getElem (by omega), by omega⟩

theorem gav3 (g : PG) : gav g = .agg [.str g.name, .list (g.ops.map oav), .int .i64 g.unions] := rfl
theorem oav8 (o : PO) : oav o = .agg [.int .i64 o.num, .str o.name, .str o.alias, .int .i64 o.card, .int .i64 o.key, .int .i64 o.kind, .int .i64 o.target, .int .i64 o.union] := rfl
end Go.Proofs.YtdgbidbkcigkhaaGreatDoor.Va

namespace Go.Proofs.YtdgbidbkcigkhaaGreatDoor.Am
open Go

variable {P : Program} {m : Mem}

def Ag {α : Type} (f : Nat → α) (L : List (Nat × α)) : Prop := L.map (fun p => f p.1) = L.map Prod.snd
theorem Ag.iff {α : Type} {f : Nat → α} {L : List (Nat × α)} : Ag f L ↔ ∀ q ∈ L, f q.1 = q.2 := List.map_inj_left
def updL {α : Type} : List (Nat × α) → (Nat → α) → Nat → α
  | [], f => f
  | p :: L, f => upd (updL L f) p.1 p.2
theorem upd_self {α : Type} {f : Nat → α} {d : Nat} {x : α} (h : f d = x) : upd f d x = f := by
  funext i
  by_cases e : i = d
  · rw [e, upd_same, h]
  · rw [upd_ne _ _ e]
theorem updL_ag {α : Type} {f : Nat → α} : ∀ {L : List (Nat × α)}, Ag f L → updL L f = f
  | [], _ => rfl
  | q :: L, h => by
    rw [Ag.iff] at h
    rw [updL, updL_ag (Ag.iff.2 fun x hx => h x (List.mem_cons_of_mem _ hx))]
    exact upd_self (h q List.mem_cons_self)

def Ix {X : Type} (L : X → List (Nat × AV)) (O : X → List (Nat × Ob)) (l : List Nat) (mu : X → Nat) (p : X → Prop) (mm : X → Mem) (n : Nat) (st : St) : Prop :=
  ∃ x f fr, st = ⟨f, fr :: mm x, []⟩ ∧ n = mu x ∧ p x ∧ Ag f (L x) ∧ Ag fr (O x) ∧ (l.all fun s => !(fr s).isRow) = true
theorem Ix.go {X : Type} {L : X → List (Nat × AV)} {O : X → List (Nat × Ob)} {l : List Nat} {mu : X → Nat} {p : X → Prop} {mm : X → Mem} (x : X) {n : Nat} {f : Fr} {fr : Nat → Ob} (hn : mu x < n) (hp : p x) (hf : Ag f (L x) := by exact rfl) (ho : Ag fr (O x) := by exact rfl) (hr : (l.all fun s => !(fr s).isRow) = true := by exact rfl) :
    ∃ k, k < n ∧ Ix L O l mu p mm k ⟨f, fr :: mm x, []⟩ := ⟨mu x, hn, x, f, fr, rfl, rfl, hp, hf, ho, hr⟩

theorem awp_for {X : Type} {a : RC} {Q : Exit → St → Prop} {f : Fr} {fr : Nat → Ob} (L : X → List (Nat × AV)) (O : X → List (Nat × Ob)) (l : List Nat) (mu : X → Nat) (p : X → Prop) (mm : X → Mem) (x0 : X) (hp : p x0)
    (h : ∀ x f fr, p x → awp P a ⟨updL (L x) f, updL (O x ++ l.map fun s => (s, .none)) fr :: mm x, []⟩ (Kl (Ix L O l mu p mm) (mu x) Q))
    (hf : Ag f (L x0) := by exact rfl) (ho : Ag fr (O x0) := by exact rfl) (hr : (l.all fun s => !(fr s).isRow) = true := by exact rfl) (hm : m = mm x0 := by exact rfl)
    (hs : ∀ x, (L x).map (fun q => scrs l q.2) = (L x).map Prod.snd := by exact fun _ => rfl) (ht : ∀ x, (O x).map (fun q => (l.contains q.1, oscrs l q.2)) = (O x).map fun q => (false, q.2) := by exact fun _ => rfl) : awp P (.loop (drops l a)) ⟨f, fr :: m, []⟩ Q := by
  subst hm
  refine awp_loop (Ix L O l mu p mm) (mu x0) ⟨x0, f, fr, rfl, rfl, hp, hf, ho, hr⟩ ?_
  rintro _ _ ⟨x, f1, fr1, rfl, rfl, hp, hf, ho, hr⟩
  refine awp_drops l (fun s hs => by simpa using List.all_eq_true.1 hr s hs) ?_
  intro f2 fr2 h1 h2 h3
  have e1 : Ag f2 (L x) := Ag.iff.2 fun q hq => by
    rw [h1, Ag.iff.1 hf q hq]
    exact List.map_inj_left.1 (hs x) q hq
  have e2 : Ag fr2 (O x ++ l.map fun s => (s, .none)) := Ag.iff.2 fun q hq => by
    rcases List.mem_append.1 hq with hq | hq
    · have := List.map_inj_left.1 (ht x) q hq
      simp only [Prod.mk.injEq] at this
      rw [h2 _ (fun hi => by rw [List.contains_iff_mem.2 hi] at this; cases this.1), Ag.iff.1 ho q hq]
      exact this.2
    · obtain ⟨s, hs, rfl⟩ := List.mem_map.1 hq
      exact h3 s hs
  have := h x f2 fr2 hp
  rw [updL_ag e1, updL_ag e2] at this
  exact this

theorem at_or {α : Type} (l : List α) (i : Nat) : (∃ x, l[i]? = some x ∧ i < l.length) ∨ ¬ i < l.length := by
  by_cases h : i < l.length
  · exact .inl ⟨l[i], List.getElem?_eq_getElem h, h⟩
  · exact .inr h

end Go.Proofs.YtdgbidbkcigkhaaGreatDoor.Am

set_option linter.unusedSimpArgs false
set_option linter.unusedSectionVars false
namespace Go.Proofs.YtdgbidbkcigkhaaGreatDoor.Va
open Go Am Rc Bt Br

structure Ac where
  num : Int
  kind : Int
  sub : Int
def Ac.av (x : Ac) : AV := .agg [.int .i64 x.num, .int .i64 x.kind, .int .i64 x.sub]
def iu (n : Int) : AV := .int .i64 n
structure Ad where
  w : Int
  r : Int
  acts : List Ac
  lacks : List Int
def Ad.av (x : Ad) : AV := .agg [.int .i64 x.w, .int .i64 x.r, .list (x.acts.map Ac.av), .list (x.lacks.map iu)]

def ndf (l : List Ac) : List Int := (l.filter fun a => a.kind != 1).map Ac.num
def nds : List Ad → List Int
  | [] => []
  | x :: _ => ndf x.acts
theorem nds_at {L : List Ad} {y : Ad} (h : L[0]? = some y) : nds L = ndf y.acts := by
  cases L with
  | nil => simp at h
  | cons x L =>
    simp only [List.getElem?_cons_zero, Option.some.injEq] at h
    rw [h]
    rfl

def enw (P : PL) (t : Int) : PE := (P.enums[t.toNat]?).getD ⟨[], false, [], [], []⟩
def itm (P R : PL) (o q : PO) : Bool := (enw R q.target).opn || (!(enw P o.target).opn && !((enw P o.target).items.any fun x => !((enw R q.target).items.any fun y => y.num == x.num)))
def lvR : Option (AV × Mem) → Option Int
  | some (.int .i64 n, []) => some n
  | _ => none
noncomputable def lv (a b : Int) : Int := (lvR (evcall Ev.nat Ev.tab (evC Ev.nat Ev.tab 300) 205 [.int .i64 2, .int .i64 a, .int .i64 b] [])).getD 0
def to9 : List Int := [1, 2, 3, 4, 5, 6, 7, 8, 9]
theorem lv_run : (to9.all fun a => to9.all fun b => (lvR (evcall Ev.nat Ev.tab (evC Ev.nat Ev.tab 300) 205 [.int .i64 2, .int .i64 a, .int .i64 b] [])).isSome) = true := by decide +kernel
theorem in_to9 {k : Int} (h : 1 ≤ k ∧ k ≤ 9) : k ∈ to9 := by
  have : k = 1 ∨ k = 2 ∨ k = 3 ∨ k = 4 ∨ k = 5 ∨ k = 6 ∨ k = 7 ∨ k = 8 ∨ k = 9 := by omega
  rcases this with rfl | rfl | rfl | rfl | rfl | rfl | rfl | rfl | rfl <;> simp [to9]
theorem r205 {a b : Int} (ha : 1 ≤ a ∧ a ≤ 9) (hb : 1 ≤ b ∧ b ≤ 9) : Fn1 Tryz.prog 205 [.int .i64 2, .int .i64 a, .int .i64 b] (.int .i64 (lv a b)) := by
  have h := List.all_eq_true.1 (List.all_eq_true.1 lv_run a (in_to9 ha)) b (in_to9 hb)
  obtain ⟨n, hn⟩ := Option.isSome_iff_exists.1 h
  have e : lv a b = n := by unfold lv; rw [hn]; rfl
  rw [e]
  unfold lvR at hn
  split at hn
  · rename_i h1
    cases hn
    exact (evcall_ok Ev.nat_ok Ev.tab_ok (evC_ok Ev.nat_ok Ev.tab_ok 300) _ _ _ _ _ h1).mono fun _ _ e => e.1
  · cases hn

noncomputable def knd (a b : Int) : Int := if a = b then 0 else if lv a b > 0 then 1 else 2
noncomputable def elm (P R : PL) (o q : PO) : Int := if o.kind = 10 ∧ q.kind = 10 then 0 else if o.kind = 10 ∨ q.kind = 10 then 2 else if o.kind = 9 ∧ q.kind = 9 then (if itm P R o q = true then 0 else 1) else knd o.kind q.kind
def sng (o : PO) : Bool := decide (o.card < 4)
noncomputable def fld (P R : PL) (o q : PO) : Int := if ((sng o && sng q) || (o.card == 4 && q.card == 4)) = true then elm P R o q else if (sng o && q.card == 4) = true then max (elm P R o q) 1 else if (o.card == 5 && q.card == 5) = true then max (elm P R o q) (knd o.key q.key) else 2
theorem knd_in (a b : Int) : knd a b = 0 ∨ knd a b = 1 ∨ knd a b = 2 := by
  unfold knd
  split
  · omega
  · split <;> omega
theorem elm_in (P R : PL) (o q : PO) : elm P R o q = 0 ∨ elm P R o q = 1 ∨ elm P R o q = 2 := by
  unfold elm
  split
  · omega
  · split
    · omega
    · split
      · split <;> omega
      · exact knd_in _ _
theorem fld_in (P R : PL) (o q : PO) : fld P R o q = 0 ∨ fld P R o q = 1 ∨ fld P R o q = 2 := by
  have h1 := elm_in P R o q
  have h2 := knd_in o.key q.key
  unfold fld
  split
  · exact h1
  · split
    · omega
    · split <;> omega
def kdA (e : Int) : Int := if e = 0 then 2 else if e = 1 then 3 else 4
theorem kdA_ne (e : Int) : (kdA e != 1) = true := by
  unfold kdA
  split
  · rfl
  · split <;> rfl

def idx (L : List Ad) (a b : Int) : Option Nat := L.findIdx? fun y => y.w == a && y.r == b
def prL (L : List Ad) (a b : Int) : List Ad := match idx L a b with
  | some _ => L
  | none => L ++ [⟨a, b, [], []⟩]
def prI (L : List Ad) (a b : Int) : Nat := match idx L a b with
  | some i => i
  | none => L.length

section
variable (P R : PL) (g h : PG)
noncomputable def ac1 (L : List Ad) (o : PO) : List Ad × Ac := match h.ops.find? fun x => x.num == o.num with
  | none => (L, ⟨o.num, 1, -1⟩)
  | some q => if fld P R o q ≠ 2 ∧ o.kind = 10 ∧ q.kind = 10 then (prL L o.target q.target, ⟨o.num, kdA (fld P R o q), (prI L o.target q.target : Nat)⟩) else (L, ⟨o.num, kdA (fld P R o q), -1⟩)
noncomputable def acs (L : List Ad) (l : List PO) : List Ad × List Ac := l.foldl (fun s o => ((ac1 P R h s.1 o).1, s.2 ++ [(ac1 P R h s.1 o).2])) (L, [])
def lk1 (q : PO) : Bool := !(g.ops.find? fun x => x.num == q.num).isSome && q.card == 1
def lks (l : List PO) : List Int := (l.filter (lk1 g)).map PO.num
def nums (l : List PO) : List Int := (l.filter fun o => (h.ops.find? fun x => x.num == o.num).isSome).map PO.num
end
noncomputable def vis (P R : PL) (L : List Ad) (i : Nat) : List Ad := match L[i]? with
  | none => L
  | some y => match P.progs[y.w.toNat]?, R.progs[y.r.toNat]? with
    | some g, some h => (acs P R h L g.ops).1.set i ⟨y.w, y.r, (acs P R h L g.ops).2, lks g h.ops⟩
    | _, _ => L
noncomputable def itr (P R : PL) (a b : Nat) : Nat → List Ad
  | 0 => [⟨(a : Nat), (b : Nat), [], []⟩]
  | i + 1 => vis P R (itr P R a b i) i

theorem acs_succ {P R : PL} {h : PG} {L : List Ad} {l : List PO} {k : Nat} {o : PO} (ho : l[k]? = some o) : acs P R h L (l.take (k + 1)) = ((ac1 P R h (acs P R h L (l.take k)).1 o).1, (acs P R h L (l.take k)).2 ++ [(ac1 P R h (acs P R h L (l.take k)).1 o).2]) := by
  unfold acs
  rw [List.take_add_one, ho, Option.toList_some, List.foldl_append]
  rfl
theorem lks_succ {g : PG} {l : List PO} {k : Nat} {q : PO} (hq : l[k]? = some q) : lks g (l.take (k + 1)) = lks g (l.take k) ++ (if lk1 g q = true then [q.num] else []) := by
  unfold lks
  rw [List.take_add_one, hq, Option.toList_some, List.filter_append, List.map_append]
  cases hb : lk1 g q <;> simp [List.filter_cons, hb]
theorem nums_succ {h : PG} {l : List PO} {k : Nat} {q : PO} (hq : l[k]? = some q) : nums h (l.take (k + 1)) = nums h (l.take k) ++ (if (h.ops.find? fun x => x.num == q.num).isSome = true then [q.num] else []) := by
  unfold nums
  rw [List.take_add_one, hq, Option.toList_some, List.filter_append, List.map_append]
  cases hb : (h.ops.find? fun x => x.num == q.num).isSome <;> simp [List.filter_cons, hb]

structure PrA (P R : PL) (L : List Ad) : Prop where
  nd : (L.map fun y => (y.w, y.r)).Nodup
  ltw : ∀ y ∈ L, ∃ n : Nat, y.w = n ∧ n < P.progs.length
  ltr : ∀ y ∈ L, ∃ n : Nat, y.r = n ∧ n < R.progs.length
theorem nodup_le {α : Type} [DecidableEq α] : ∀ {l r : List α}, l.Nodup → (∀ x ∈ l, x ∈ r) → l.length ≤ r.length
  | [], _, _, _ => Nat.zero_le _
  | x :: l, r, hd, hs => by
    rw [List.nodup_cons] at hd
    have hx : x ∈ r := hs x (by simp)
    have ih := nodup_le (l := l) (r := r.erase x) hd.2 (fun y hy => (List.mem_erase_of_ne (by rintro rfl; exact hd.1 hy)).2 (hs y (by simp [hy])))
    rw [List.length_erase_of_mem hx] at ih
    have := List.length_pos_of_mem hx
    rw [List.length_cons]
    omega
def to8 : List Int := [0, 1, 2, 3, 4, 5, 6, 7]
def all64 : List (Int × Int) := to8.flatMap fun t => to8.map fun u => (t, u)
theorem in_to8 {n : Nat} (h : n < 8) : (n : Int) ∈ to8 := by
  have : n = 0 ∨ n = 1 ∨ n = 2 ∨ n = 3 ∨ n = 4 ∨ n = 5 ∨ n = 6 ∨ n = 7 := by omega
  rcases this with rfl | rfl | rfl | rfl | rfl | rfl | rfl | rfl <;> simp [to8]
theorem pra_len {P R : PL} (hP : P.progs.length ≤ 8) (hR : R.progs.length ≤ 8) {L : List Ad} (h : PrA P R L) : L.length ≤ 64 := by
  have := nodup_le (r := all64) h.nd (fun x hx => by
    obtain ⟨y, hy, rfl⟩ := List.mem_map.1 hx
    obtain ⟨n, e1, h1⟩ := h.ltw y hy
    obtain ⟨k, e2, h2⟩ := h.ltr y hy
    unfold all64
    rw [List.mem_flatMap]
    refine ⟨y.w, by rw [e1]; exact in_to8 (by omega), ?_⟩
    rw [List.mem_map]
    exact ⟨y.r, by rw [e2]; exact in_to8 (by omega), rfl⟩)
  rw [List.length_map] at this
  exact Nat.le_trans this (by decide +kernel)
theorem prL_pre (L : List Ad) (a b : Int) : L <+: prL L a b := by
  unfold prL
  split
  · exact List.prefix_refl _
  · exact List.prefix_append _ _
theorem pra_prL {P R : PL} {L : List Ad} (H : PrA P R L) {a b : Nat} (ha : a < P.progs.length) (hb : b < R.progs.length) : PrA P R (prL L a b) := by
  unfold prL
  split
  · exact H
  · rename_i hn
    unfold idx at hn
    rw [List.findIdx?_eq_none_iff] at hn
    refine ⟨?_, fun y hy => ?_, fun y hy => ?_⟩
    · rw [List.map_append, List.nodup_append]
      refine ⟨H.nd, by simp, fun x hx z hz => ?_⟩
      simp only [List.map_cons, List.map_nil, List.mem_singleton] at hz
      subst hz
      rintro rfl
      obtain ⟨y, hy, he⟩ := List.mem_map.1 hx
      have := hn y hy
      simp only [Prod.mk.injEq] at he
      simp [he.1, he.2] at this
    · rcases List.mem_append.1 hy with hy | hy
      · exact H.ltw y hy
      · rcases List.mem_singleton.1 hy with rfl
        exact ⟨a, rfl, ha⟩
    · rcases List.mem_append.1 hy with hy | hy
      · exact H.ltr y hy
      · rcases List.mem_singleton.1 hy with rfl
        exact ⟨b, rfl, hb⟩
section
variable {P R : PL} (hP : Own P) (hR : Own R) {g h : PG} (hgm : g ∈ P.progs) (hhm : h ∈ R.progs)
theorem ac1_pre (L : List Ad) (o : PO) : L <+: (ac1 P R h L o).1 := by
  unfold ac1
  split
  · exact List.prefix_refl _
  · split
    · exact prL_pre _ _ _
    · exact List.prefix_refl _
include hP hR hgm hhm
theorem pra_ac1 {L : List Ad} (H : PrA P R L) {o : PO} (ho : o ∈ g.ops) : PrA P R (ac1 P R h L o).1 := by
  unfold ac1
  cases hq : h.ops.find? fun x => x.num == o.num with
  | none => exact H
  | some q =>
    dsimp only
    split
    · rename_i hk
      obtain ⟨j, gj, hj, ht⟩ := (hP.op g hgm o ho).tgP hk.2.1
      obtain ⟨i, gi, hi, htq⟩ := (hR.op h hhm q (List.mem_of_find?_eq_some hq)).tgP hk.2.2
      rw [ht, htq]
      exact pra_prL H (List.getElem?_eq_some_iff.1 hj).1 (List.getElem?_eq_some_iff.1 hi).1
    · exact H
theorem acs_ok {L : List Ad} (H : PrA P R L) : ∀ k, PrA P R (acs P R h L (g.ops.take k)).1 ∧ L <+: (acs P R h L (g.ops.take k)).1 ∧ ndf (acs P R h L (g.ops.take k)).2 = nums h (g.ops.take k) ∧ (acs P R h L (g.ops.take k)).2.length ≤ k
  | 0 => ⟨H, List.prefix_refl _, rfl, Nat.le_refl _⟩
  | k + 1 => by
    obtain ⟨i1, i2, i3, i4⟩ := acs_ok H k
    rcases at_or g.ops k with ⟨o, ho, _⟩ | hn
    · rw [acs_succ ho, nums_succ ho]
      refine ⟨pra_ac1 hP hR hgm hhm i1 (List.mem_of_getElem? ho), i2.trans (ac1_pre _ _), ?_, by simp only [List.length_append, List.length_cons, List.length_nil]; omega⟩
      dsimp only
      rw [← i3]
      unfold ndf
      rw [List.filter_append, List.map_append]
      congr 1
      unfold ac1
      cases hq : h.ops.find? fun x => x.num == o.num with
      | none => rfl
      | some q =>
        dsimp only
        split <;> simp [List.filter_cons, kdA_ne]
    · have e : g.ops.take (k + 1) = g.ops.take k := by rw [List.take_of_length_le (by omega), List.take_of_length_le (by omega)]
      rw [e]
      exact ⟨i1, i2, i3, by omega⟩
end
theorem map_set {α β : Type} (f : α → β) (l : List α) (i : Nat) (x y : α) (hy : l[i]? = some y) (h : f x = f y) : (l.set i x).map f = l.map f := by
  rw [List.map_set, h]
  refine List.ext_getElem? fun j => ?_
  by_cases hj : i = j
  · subst hj
    rw [List.getElem?_set_self (by rw [List.length_map]; exact (List.getElem?_eq_some_iff.1 hy).1), List.getElem?_map, hy]
    rfl
  · rw [List.getElem?_set_ne hj]
section
variable {P R : PL} {a b : Nat} (hP : Own P) (hR : Own R) (ha : a < P.progs.length) (hb : b < R.progs.length)
theorem vis_at {L : List Ad} {i : Nat} {y : Ad} {g h : PG} (hy : L[i]? = some y) (hg : P.progs[y.w.toNat]? = some g) (hh : R.progs[y.r.toNat]? = some h) : vis P R L i = (acs P R h L g.ops).1.set i ⟨y.w, y.r, (acs P R h L g.ops).2, lks g h.ops⟩ := by
  unfold vis
  rw [hy]
  dsimp only
  rw [hg, hh]
include hP hR
theorem vis_ok {L : List Ad} (H : PrA P R L) (i : Nat) : PrA P R (vis P R L i) ∧ L.length ≤ (vis P R L i).length ∧ (0 < i → (vis P R L i)[0]? = L[0]? ∨ L = []) := by
  unfold vis
  cases hy : L[i]? with
  | none => exact ⟨H, Nat.le_refl _, fun _ => .inl rfl⟩
  | some y =>
    dsimp only
    have hlt := (List.getElem?_eq_some_iff.1 hy).1
    cases hg : P.progs[y.w.toNat]? with
    | none => exact ⟨H, Nat.le_refl _, fun _ => .inl rfl⟩
    | some g =>
      cases hh : R.progs[y.r.toNat]? with
      | none => exact ⟨H, Nat.le_refl _, fun _ => .inl rfl⟩
      | some h =>
        dsimp only
        have hk := acs_ok hP hR (List.mem_of_getElem? hg) (List.mem_of_getElem? hh) H g.ops.length
        rw [List.take_length] at hk
        obtain ⟨i1, i2, -, -⟩ := hk
        have hy' : (acs P R h L g.ops).1[i]? = some y := by
          obtain ⟨t, ht⟩ := i2
          rw [← ht, List.getElem?_append_left hlt, hy]
        generalize (acs P R h L g.ops).2 = B
        generalize (acs P R h L g.ops).1 = L' at *
        have hm : ∀ z ∈ L'.set i ⟨y.w, y.r, B, lks g h.ops⟩, ∃ x ∈ L', z.w = x.w ∧ z.r = x.r := by
          intro z hz
          rcases List.mem_or_eq_of_mem_set hz with hz | rfl
          · exact ⟨z, hz, rfl, rfl⟩
          · exact ⟨y, List.mem_of_getElem? hy', rfl, rfl⟩
        refine ⟨⟨?_, fun z hz => ?_, fun z hz => ?_⟩, ?_, fun hi => .inl ?_⟩
        · rw [map_set (fun y : Ad => (y.w, y.r)) L' i ⟨y.w, y.r, B, lks g h.ops⟩ y hy' rfl]
          exact i1.nd
        · obtain ⟨x, hx, e, _⟩ := hm z hz
          rw [e]
          exact i1.ltw x hx
        · obtain ⟨x, hx, _, e⟩ := hm z hz
          rw [e]
          exact i1.ltr x hx
        · rw [List.length_set]
          exact i2.length_le
        · rw [List.getElem?_set_ne (by omega)]
          obtain ⟨t, ht⟩ := i2
          rw [← ht, List.getElem?_append_left (by omega)]
include ha hb
theorem itr_ok : ∀ i, PrA P R (itr P R a b i) ∧ 1 ≤ (itr P R a b i).length
  | 0 => ⟨⟨by simp [itr], fun y hy => by rcases List.mem_singleton.1 hy with rfl; exact ⟨a, rfl, ha⟩, fun y hy => by rcases List.mem_singleton.1 hy with rfl; exact ⟨b, rfl, hb⟩⟩, Nat.le_refl _⟩
  | i + 1 => by
    have ih := itr_ok i
    have h := vis_ok hP hR ih.1 i
    exact ⟨h.1, Nat.le_trans ih.2 h.2.1⟩
theorem itr_hd (g h : PG) (hg : P.progs[a]? = some g) (hh : R.progs[b]? = some h) : ∀ i, ∃ y, (itr P R a b (i + 1))[0]? = some y ∧ y.acts.length ≤ g.ops.length ∧ ndf y.acts = nums h g.ops
  | 0 => by
    have H := (itr_ok hP hR ha hb 0).1
    have e : itr P R a b 1 = vis P R (itr P R a b 0) 0 := rfl
    have hk := acs_ok hP hR (List.mem_of_getElem? hg) (List.mem_of_getElem? hh) H g.ops.length
    rw [List.take_length] at hk
    obtain ⟨-, ⟨t, ht⟩, i3, i4⟩ := hk
    rw [e, vis_at (y := ⟨(a : Nat), (b : Nat), [], []⟩) rfl hg hh, ← ht]
    exact ⟨_, rfl, i4, i3⟩
  | i + 1 => by
    obtain ⟨y, hy, h1⟩ := itr_hd g h hg hh i
    obtain ⟨H, hl⟩ := itr_ok hP hR ha hb (i + 1)
    have e : itr P R a b (i + 1 + 1) = vis P R (itr P R a b (i + 1)) (i + 1) := rfl
    rcases (vis_ok hP hR H (i + 1)).2.2 (by omega) with h0 | h0
    · exact ⟨y, by rw [e, h0, hy], h1⟩
    · rw [h0] at hl
      simp at hl
omit ha hb hP hR
theorem itr_end {i : Nat} (h : ¬ i < (itr P R a b i).length) (d : Nat) : itr P R a b (i + d) = itr P R a b i := by
  induction d with
  | zero => rfl
  | succ d ih =>
    show vis P R (itr P R a b (i + d)) (i + d) = _
    rw [ih]
    unfold vis
    rw [List.getElem?_eq_none (by omega)]
theorem itr_last {i : Nat} (h : ¬ i < (itr P R a b i).length) (hi : i ≤ 64) : itr P R a b 64 = itr P R a b i := by
  have := itr_end h (64 - i)
  rwa [show i + (64 - i) = 64 by omega] at this
end

end Go.Proofs.YtdgbidbkcigkhaaGreatDoor.Va

set_option linter.unusedSimpArgs false
set_option linter.unusedSectionVars false
namespace Go.Proofs.YtdgbidbkcigkhaaGreatDoor.Va
open Go Am Rc Bt Br

theorem aops_appH {P : Program} {its : List Am.Item} {f : Fr} {m : Mem} {ds : List DF} {d l : Nat} {K : St → Prop} {sz bytes el : Nat} {s r : RA} {site g n : Nat} {xs ys : List AV} (hs : s.ev f = .vec l site g 0 n false) (hl : Am.look m l site = .vec g sz xs) (ht : tyOk site el = true) (hn : n = xs.length) (hr : r.ev f = .list ys) (hz : ys.all (fun e => e.cells.length == sz) = true) (hm : n + ys.length ≤ maxLen) (hb : (n + ys.length) * bytes ≤ 140737488355328)
    (h : aops P its ⟨upd f d (.vec l site (g + 1) 0 (n + ys.length) false), Am.put m l site (.vec (g + 1) sz (xs ++ ys)), ds⟩ K) : aops P (⟨some d, .app sz bytes el s r, none⟩ :: its) ⟨f, m, ds⟩ K := by
  refine ⟨l, site, g, n, xs, ys, hs, hl, ht, by omega, ?_, hz, hm, hb, ?_⟩
  · show elemsOf m (r.ev f) = some ys
    rw [hr]; rfl
  · subst hn
    rw [List.take_length]
    exact h

theorem get_ad {L : List Ad} {i : Nat} {y : Ad} (hy : L[i]? = some y) : (L.map Ad.av)[i]? = some (.agg [.int .i64 y.w, .int .i64 y.r, .list (y.acts.map Ac.av), .list (y.lacks.map iu)]) := by
  rw [List.getElem?_map, hy]; rfl
theorem get_oav' {l : List PO} {i : Nat} {o : PO} (h : l[i]? = some o) : (l.map oav)[i]? = some (.agg [.int .i64 o.num, .str o.name, .str o.alias, .int .i64 o.card, .int .i64 o.key, .int .i64 o.kind, .int .i64 o.target, .int .i64 o.union]) := by
  rw [List.getElem?_map, h]; rfl

theorem x45 (L : List Ad) (hl : L.length ≤ 1000) (a b : Int) : Fn1 Tryz.prog 45 [.list (L.map Ad.av), .int .i64 a, .int .i64 b] (.tup [.int .i64 ((idx L a b).getD 0 : Nat), .bool (idx L a b).isSome]) := by
  refine wF Tryz.func45 ?_; simp only [eK, Tryz.f45, seval]
  simp only [List.length_map, eES, eEX, seval]
  refine awp_for (X := Nat) (fun k => [(1, .int .i64 a), (2, .int .i64 b), (10, .list (L.map Ad.av)), (11, .int .i64 (L.length : Nat)), (12, .int .i64 (k : Nat))]) (fun _ => []) [9] (fun k => L.length - k) (fun k => k ≤ L.length ∧ ∀ j y, j < k → L[j]? = some y → (y.w == a && y.r == b) = false) (fun _ => []) 0 ⟨Nat.zero_le _, fun j y h => absurd h (Nat.not_lt_zero _)⟩ ?_
  rintro k f fr ⟨hk, hn⟩
  simp only [updL, List.map_cons, List.map_nil, List.cons_append, List.nil_append, eES, eEX, seval]
  rcases at_or L k with ⟨y, hy, hlt⟩ | hlt
  case inr =>
    have e : idx L a b = none := List.findIdx?_eq_none_iff.2 fun y hy => by
      obtain ⟨j, hj⟩ := List.mem_iff_getElem?.1 hy
      have := (List.getElem?_eq_some_iff.1 hj).1
      exact hn j y (by omega) hj
    simp only [lt_f hlt, e, Option.getD_none, Option.isSome_none, eES, eEX, seval]
  have hg := get_ad hy
  have e1 := wi64_s k _ hlt (by simp only [maxLen]; omega)
  have stp : (y.w == a && y.r == b) = false → ∀ j z, j < k + 1 → L[j]? = some z → (z.w == a && z.r == b) = false := fun h j z hj hz => by
    rcases Nat.lt_succ_iff_lt_or_eq.1 hj with hj | rfl
    · exact hn j z hj hz
    · rw [hy] at hz
      cases hz
      exact h
  simp only [lt_t hlt, nneg, Int.toNat_natCast, aiaddr, hg, eES, eEX, seval]
  cases d1 : (y.w == a)
  · simp only [d1, e1, Bool.true_and, Bool.false_and, Bool.and_true, Bool.and_false, Bool.true_or, Bool.false_or, Bool.or_true, Bool.or_false, Bool.not_true, Bool.not_false, cond_true, cond_false, Bool.true_beq, Bool.false_beq, eES, eEX, seval]
    exact Ix.go (k + 1) (by omega) ⟨by omega, stp (by rw [d1]; rfl)⟩
  cases d2 : (y.r == b)
  · simp only [nneg, Int.toNat_natCast, aiaddr, d1, d2, hg, e1, Bool.true_and, Bool.false_and, Bool.and_true, Bool.and_false, Bool.true_or, Bool.false_or, Bool.or_true, Bool.or_false, Bool.not_true, Bool.not_false, cond_true, cond_false, Bool.true_beq, Bool.false_beq, eES, eEX, seval]
    exact Ix.go (k + 1) (by omega) ⟨by omega, stp (by rw [d1, d2]; rfl)⟩
  have e : idx L a b = some k := List.findIdx?_eq_some_iff_getElem.2 ⟨hlt, by
    rw [(List.getElem?_eq_some_iff.1 hy).2, d1, d2]; rfl, fun j hj => by
    have := hn j _ hj (List.getElem?_eq_getElem (by omega))
    rw [this]
    simp⟩
  simp only [nneg, Int.toNat_natCast, aiaddr, d1, d2, hg, e, Option.getD_some, Option.isSome_some, Bool.true_and, Bool.false_and, Bool.and_true, Bool.and_false, Bool.true_or, Bool.false_or, Bool.or_true, Bool.or_false, Bool.not_true, Bool.not_false, cond_true, cond_false, Bool.true_beq, Bool.false_beq, eES, eEX, seval]

theorem mxi (a b : Int) : (if a < b then b else a) = max a b := by split <;> omega
theorem x155 (o : PO) : Fn1 Tryz.prog 155 [oav o] (.bool (sng o)) := by
  unfold sng
  refine wF Tryz.func155 ?_; simp only [eK, Tryz.f155, seval]
  simp only [oav8, eES, eEX, seval]
theorem x156 {a b : Int} (ha : 1 ≤ a ∧ a ≤ 9) (hb : 1 ≤ b ∧ b ≤ 9) : Fn1 Tryz.prog 156 [.int .i64 a, .int .i64 b] (.int .i64 (knd a b)) := by
  have hl := r205 ha hb
  unfold knd
  refine wF Tryz.func156 ?_; simp only [eK, Tryz.f156, seval]
  simp only [eES, eEX, seval]
  by_cases h : a = b
  · have d : (a == b) = true := by simp [h]
    simp only [d, if_pos h, eES, eEX, seval]
  · have d : (a == b) = false := by simp [h]
    simp only [d, if_neg h, eES, eEX, seval]
    refine aops_call hl rfl rfl rfl (.inl rfl) ?_
    by_cases h0 : lv a b > 0
    · have d : decide (lv a b > 0) = true := decide_eq_true h0
      simp only [d, if_pos h0, eES, eEX, seval]
    · have d : decide (lv a b > 0) = false := decide_eq_false h0
      simp only [d, if_neg h0, eES, eEX, seval]

theorem x262 (x z : PI) (fr : Nat → Ob) (m : Mem) (hf : fr 2 = .cells x.cells) : ACalls Tryz.prog 262 [iav z, .ptr 2 2 0] (noObs :: noObs :: fr :: m) fun y m1 => y = .bool (z.num == x.num) ∧ m1 = noObs :: noObs :: fr :: m := by
  refine wG Tryz.func262 ?_; simp only [eK, Tryz.f262, seval]
  simp only [hf, iav, PI.cells, eES, eEX, seval]
theorem x261 (x : PI) (e : PE) (he : e.items.length ≤ maxLen) (fr : Nat → Ob) (m : Mem) (hf : fr 8 = .cells e.cells) : ACalls Tryz.prog 261 [iav x, .ptr 2 8 0] (noObs :: noObs :: fr :: m) fun y m1 => y = .bool (!(e.items.any fun z => z.num == x.num)) ∧ m1 = noObs :: noObs :: fr :: m := by
  refine wG Tryz.func261 ?_; simp only [eK, Tryz.f261, seval]
  simp only [hf, iav, PI.cells, PE.cells, eES, eEX, seval]
  refine aops_callF (y145 e.items he (fun z => z.num == x.num) 262 (.ptr 0 2 0) _ fun z _ => x262 x z _ _ (by first | rfl | simp only [eES, eEX, seval])) (by simp only [List.map_cons, List.map_nil, iav, eES, eEX, seval] <;> rfl) ?_
  simp only [eES, eEX, seval]

def sc (P R : PL) (x : AV) : List AV := [.list (P.progs.map gav), .list (P.enums.map eav), .list (R.progs.map gav), .list (R.enums.map eav), x]
section
variable {P R : PL} (hP : Own P) (hR : Own R) {g h : PG} {o q : PO} (ho : OwnO P g o) (hq : OwnO R h q) {F : Nat → Ob} {X : AV} (hF : F 14 = .cells (sc P R X))
include hP hR ho hq hF
theorem x204 (ko : o.kind = 9) (kq : q.kind = 9) (a b c d : Nat → Ob) : ACalls Tryz.prog 204 [.ptr 4 14 0, oav o, oav q] [a, b, c, d, F] fun y m1 => y = .bool (itm P R o q) ∧ m1 = [a, b, c, d, F] := by
  obtain ⟨j, e, hj, ht⟩ := ho.tgE ko
  obtain ⟨i, s, hi, hu⟩ := hq.tgE kq
  have hgj : (P.enums.map eav)[j]? = some (.agg e.cells) := by rw [List.getElem?_map, hj]; rfl
  have hgi : (R.enums.map eav)[i]? = some (.agg s.cells) := by rw [List.getElem?_map, hi]; rfl
  have hel := hP.its e (List.mem_of_getElem? hj)
  have hsl := hR.its s (List.mem_of_getElem? hi)
  have e1 : enw P o.target = e := by unfold enw; rw [ht, Int.toNat_natCast, hj]; rfl
  have e2 : enw R q.target = s := by unfold enw; rw [hu, Int.toNat_natCast, hi]; rfl
  unfold itm
  rw [e1, e2]
  simp only [sc] at hF
  simp only [PE.cells] at hgj hgi
  refine wG Tryz.func204 ?_; simp only [eK, Tryz.f204, seval]
  simp only [oav8, ht, hu, hF, nneg, Int.toNat_natCast, aiaddr, hgj, hgi, eES, eEX, seval]
  cases b1 : s.opn
  case true => simp only [b1, Bool.true_and, Bool.false_and, Bool.and_true, Bool.and_false, Bool.true_or, Bool.false_or, Bool.or_true, Bool.or_false, Bool.not_true, Bool.not_false, cond_true, cond_false, Bool.true_beq, Bool.false_beq, eES, eEX, seval]
  cases b2 : e.opn
  case true => simp only [b1, b2, Bool.true_and, Bool.false_and, Bool.and_true, Bool.and_false, Bool.true_or, Bool.false_or, Bool.or_true, Bool.or_false, Bool.not_true, Bool.not_false, cond_true, cond_false, Bool.true_beq, Bool.false_beq, eES, eEX, seval]
  simp only [b1, b2, Bool.true_and, Bool.false_and, Bool.and_true, Bool.and_false, Bool.true_or, Bool.false_or, Bool.or_true, Bool.or_false, Bool.not_true, Bool.not_false, cond_true, cond_false, Bool.true_beq, Bool.false_beq, eES, eEX, seval]
  refine aops_callF (y145 e.items (by simp only [maxLen]; omega) (fun x => !(s.items.any fun z => z.num == x.num)) 261 (.ptr 0 8 0) _ fun x _ => x261 x s (by simp only [maxLen]; omega) _ _ (by rw [PE.cells, b1] <;> rfl)) (by simp only [List.map_cons, List.map_nil, iav, eES, eEX, seval] <;> rfl) ?_
  simp only [Bool.true_and, Bool.false_and, Bool.and_true, Bool.and_false, Bool.true_or, Bool.false_or, Bool.or_true, Bool.or_false, Bool.not_true, Bool.not_false, cond_true, cond_false, Bool.true_beq, Bool.false_beq, eES, eEX, seval]

theorem x154 (b c d : Nat → Ob) : ACalls Tryz.prog 154 [.ptr 3 14 0, oav o, oav q] [b, c, d, F] fun y m1 => y = .int .i64 (elm P R o q) ∧ m1 = [b, c, d, F] := by
  have hko := ho.kd
  have hkq := hq.kd
  unfold elm
  refine wG Tryz.func154 ?_; simp only [eK, Tryz.f154, seval]
  simp only [oav8, eES, eEX, seval]
  by_cases k1 : o.kind = 10
  · have d1 : (o.kind == 10) = true := by simp [k1]
    by_cases k2 : q.kind = 10
    · have d2 : (q.kind == 10) = true := by simp [k2]
      simp only [d1, d2, k1, k2, and_self, if_true, Bool.true_and, Bool.false_and, Bool.and_true, Bool.and_false, Bool.true_or, Bool.false_or, Bool.or_true, Bool.or_false, Bool.not_true, Bool.not_false, cond_true, cond_false, Bool.true_beq, Bool.false_beq, eES, eEX, seval]
    · have d2 : (q.kind == 10) = false := by simp [k2]
      simp only [d1, d2, k1, k2, and_false, true_or, if_false, if_true, Bool.true_and, Bool.false_and, Bool.and_true, Bool.and_false, Bool.true_or, Bool.false_or, Bool.or_true, Bool.or_false, Bool.not_true, Bool.not_false, cond_true, cond_false, Bool.true_beq, Bool.false_beq, eES, eEX, seval]
  have d1 : (o.kind == 10) = false := by simp [k1]
  by_cases k2 : q.kind = 10
  · have d2 : (q.kind == 10) = true := by simp [k2]
    simp only [d1, d2, k1, k2, false_and, or_true, if_false, if_true, Bool.true_and, Bool.false_and, Bool.and_true, Bool.and_false, Bool.true_or, Bool.false_or, Bool.or_true, Bool.or_false, Bool.not_true, Bool.not_false, cond_true, cond_false, Bool.true_beq, Bool.false_beq, eES, eEX, seval]
  have d2 : (q.kind == 10) = false := by simp [k2]
  rw [if_neg (fun h => k1 h.1), if_neg (fun h => h.elim k1 k2)]
  by_cases n1 : o.kind = 9
  case neg =>
    have c1 : (o.kind == 9) = false := by simp [n1]
    rw [if_neg (fun h => n1 h.1)]
    simp only [d1, d2, c1, Bool.true_and, Bool.false_and, Bool.and_true, Bool.and_false, Bool.true_or, Bool.false_or, Bool.or_true, Bool.or_false, Bool.not_true, Bool.not_false, cond_true, cond_false, Bool.true_beq, Bool.false_beq, eES, eEX, seval]
    refine aops_call (x156 (by omega) (by omega)) rfl rfl rfl (.inl rfl) ?_
    simp only [eES, eEX, seval]
  have c1 : (o.kind == 9) = true := by simp [n1]
  by_cases n2 : q.kind = 9
  case neg =>
    have c2 : (q.kind == 9) = false := by simp [n2]
    rw [if_neg (fun h => n2 h.2)]
    simp only [d1, d2, c1, c2, Bool.true_and, Bool.false_and, Bool.and_true, Bool.and_false, Bool.true_or, Bool.false_or, Bool.or_true, Bool.or_false, Bool.not_true, Bool.not_false, cond_true, cond_false, Bool.true_beq, Bool.false_beq, eES, eEX, seval]
    refine aops_call (x156 (by omega) (by omega)) rfl rfl rfl (.inl rfl) ?_
    simp only [eES, eEX, seval]
  have c2 : (q.kind == 9) = true := by simp [n2]
  rw [if_pos ⟨n1, n2⟩]
  have ci := x204 hP hR ho hq hF n1 n2
  simp only [oav8] at ci
  simp only [d1, d2, c1, c2, Bool.true_and, Bool.false_and, Bool.and_true, Bool.and_false, Bool.true_or, Bool.false_or, Bool.or_true, Bool.or_false, Bool.not_true, Bool.not_false, cond_true, cond_false, Bool.true_beq, Bool.false_beq, eES, eEX, seval]
  refine aops_callF (ci _ b c d) (by simp only [List.map_cons, List.map_nil, eES, eEX, seval] <;> rfl) ?_
  cases itm P R o q
  · simp only [Bool.false_eq_true, if_false, eES, eEX, seval]
  · simp only [if_true, eES, eEX, seval]

theorem x108 (c d : Nat → Ob) : ACalls Tryz.prog 108 [.ptr 2 14 0, oav o, oav q] [c, d, F] fun y m1 => y = .int .i64 (fld P R o q) ∧ m1 = [c, d, F] := by
  have ce := x154 hP hR ho hq hF
  have c1 := x155 o
  have c2 := x155 q
  simp only [oav8] at ce c1 c2
  unfold fld
  refine wG Tryz.func108 ?_; simp only [eK, Tryz.f108, seval]
  simp only [oav8, eES, eEX, seval]
  refine aops_callF (ce _ c d) (by simp only [List.map_cons, List.map_nil, eES, eEX, seval] <;> rfl) ?_
  simp only [eES, eEX, seval]
  refine aops_call c1 rfl rfl rfl (.inl rfl) ?_
  cases b1 : sng o
  · simp only [Bool.true_and, Bool.false_and, Bool.and_true, Bool.and_false, Bool.true_or, Bool.false_or, Bool.or_true, Bool.or_false, Bool.not_true, Bool.not_false, cond_true, cond_false, Bool.true_beq, Bool.false_beq, eES, eEX, seval]
    cases q1 : (o.card == 4)
    · simp only [q1, Bool.false_eq_true, if_false, Bool.true_and, Bool.false_and, Bool.and_true, Bool.and_false, Bool.true_or, Bool.false_or, Bool.or_true, Bool.or_false, Bool.not_true, Bool.not_false, cond_true, cond_false, Bool.true_beq, Bool.false_beq, eES, eEX, seval]
      refine aops_call c1 rfl rfl rfl (.inl rfl) ?_
      simp only [b1, Bool.true_and, Bool.false_and, Bool.and_true, Bool.and_false, Bool.true_or, Bool.false_or, Bool.or_true, Bool.or_false, Bool.not_true, Bool.not_false, cond_true, cond_false, Bool.true_beq, Bool.false_beq, eES, eEX, seval]
      by_cases k5 : o.card = 5
      case neg =>
        have q5 : (o.card == 5) = false := by simp [k5]
        simp only [q5, Bool.false_eq_true, if_false, Bool.true_and, Bool.false_and, Bool.and_true, Bool.and_false, Bool.true_or, Bool.false_or, Bool.or_true, Bool.or_false, Bool.not_true, Bool.not_false, cond_true, cond_false, Bool.true_beq, Bool.false_beq, eES, eEX, seval]
      have q5 : (o.card == 5) = true := by simp [k5]
      by_cases k6 : q.card = 5
      case neg =>
        have q6 : (q.card == 5) = false := by simp [k6]
        simp only [q5, q6, Bool.false_eq_true, if_false, Bool.true_and, Bool.false_and, Bool.and_true, Bool.and_false, Bool.true_or, Bool.false_or, Bool.or_true, Bool.or_false, Bool.not_true, Bool.not_false, cond_true, cond_false, Bool.true_beq, Bool.false_beq, eES, eEX, seval]
      have q6 : (q.card == 5) = true := by simp [k6]
      simp only [q5, q6, if_true, Bool.true_and, Bool.false_and, Bool.and_true, Bool.and_false, Bool.true_or, Bool.false_or, Bool.or_true, Bool.or_false, Bool.not_true, Bool.not_false, cond_true, cond_false, Bool.true_beq, Bool.false_beq, eES, eEX, seval]
      refine aops_call (x156 (ho.key k5) (hq.key k6)) rfl rfl rfl (.inl rfl) ?_
      simp only [mxi, eES, eEX, seval]
    · cases q2 : (q.card == 4)
      · have q5 : (o.card == 5) = false := by have := eq_of_beq q1; simp [this]
        simp only [q1, q2, Bool.false_eq_true, if_false, Bool.true_and, Bool.false_and, Bool.and_true, Bool.and_false, Bool.true_or, Bool.false_or, Bool.or_true, Bool.or_false, Bool.not_true, Bool.not_false, cond_true, cond_false, Bool.true_beq, Bool.false_beq, eES, eEX, seval]
        refine aops_call c1 rfl rfl rfl (.inl rfl) ?_
        simp only [b1, q5, Bool.false_eq_true, if_false, Bool.true_and, Bool.false_and, Bool.and_true, Bool.and_false, Bool.true_or, Bool.false_or, Bool.or_true, Bool.or_false, Bool.not_true, Bool.not_false, cond_true, cond_false, Bool.true_beq, Bool.false_beq, eES, eEX, seval]
      · simp only [q1, q2, if_true, Bool.true_and, Bool.false_and, Bool.and_true, Bool.and_false, Bool.true_or, Bool.false_or, Bool.or_true, Bool.or_false, Bool.not_true, Bool.not_false, cond_true, cond_false, Bool.true_beq, Bool.false_beq, eES, eEX, seval]
  · have hc : o.card < 4 := by unfold sng at b1; simpa using b1
    have q4 : (o.card == 4) = false := by rw [beq_eq_false_iff_ne]; omega
    have q5 : (o.card == 5) = false := by rw [beq_eq_false_iff_ne]; omega
    simp only [Bool.true_and, Bool.false_and, Bool.and_true, Bool.and_false, Bool.true_or, Bool.false_or, Bool.or_true, Bool.or_false, Bool.not_true, Bool.not_false, cond_true, cond_false, Bool.true_beq, Bool.false_beq, eES, eEX, seval]
    refine aops_call c2 rfl rfl rfl (.inl rfl) ?_
    cases b2 : sng q
    · simp only [q4, Bool.false_eq_true, if_false, Bool.true_and, Bool.false_and, Bool.and_true, Bool.and_false, Bool.true_or, Bool.false_or, Bool.or_true, Bool.or_false, Bool.not_true, Bool.not_false, cond_true, cond_false, Bool.true_beq, Bool.false_beq, eES, eEX, seval]
      refine aops_call c1 rfl rfl rfl (.inl rfl) ?_
      cases q2 : (q.card == 4)
      · simp only [b1, q2, q5, Bool.false_eq_true, if_false, Bool.true_and, Bool.false_and, Bool.and_true, Bool.and_false, Bool.true_or, Bool.false_or, Bool.or_true, Bool.or_false, Bool.not_true, Bool.not_false, cond_true, cond_false, Bool.true_beq, Bool.false_beq, eES, eEX, seval]
      · simp only [mxi, b1, q2, if_true, Bool.true_and, Bool.false_and, Bool.and_true, Bool.and_false, Bool.true_or, Bool.false_or, Bool.or_true, Bool.or_false, Bool.not_true, Bool.not_false, cond_true, cond_false, Bool.true_beq, Bool.false_beq, eES, eEX, seval]
    · simp only [if_true, Bool.true_and, Bool.false_and, Bool.and_true, Bool.and_false, Bool.true_or, Bool.false_or, Bool.or_true, Bool.or_false, Bool.not_true, Bool.not_false, cond_true, cond_false, Bool.true_beq, Bool.false_beq, eES, eEX, seval]
end

end Go.Proofs.YtdgbidbkcigkhaaGreatDoor.Va

set_option linter.unusedSimpArgs false
set_option linter.unusedSectionVars false
namespace Go.Proofs.YtdgbidbkcigkhaaGreatDoor.Va
open Go Am Rc Bt Br

theorem pav2' (P : PL) : P.av = .agg [.list (P.progs.map gav), .list (P.enums.map eav)] := rfl
def pxj (P : PL) (s : List UInt8) : Int := fxi (fun g : PG => g.name == s) P.progs 0
theorem pfr_pxj (P : PL) (s : List UInt8) : pfr s P.progs = .tup [.int .i64 (if pxj P s < 0 then 0 else pxj P s), .bool (decide (pxj P s ≥ 0))] := rfl
def sdr (P R : PL) (fr : Nat → Ob) (L : List Ad) : Nat → Ob := upd (upd fr 1100 (.vec (1 + L.length) 4 (L.map Ad.av))) 14 (.cells (sc P R (.vec 0 1100 (1 + L.length) 0 L.length false)))
section
variable (P R : PL) (fr : Nat → Ob) (L : List Ad)
theorem sdr_s : sdr P R fr L 14 = .cells (sc P R (.vec 0 1100 (1 + L.length) 0 L.length false)) := upd_same ..
theorem sdr_R : sdr P R fr L 1100 = .vec (1 + L.length) 4 (L.map Ad.av) := by rw [sdr, upd_ne _ _ (by decide), upd_same]
theorem sdr_add (x : Ad) : upd (upd (sdr P R fr L) 1100 (.vec (1 + L.length + 1) 4 (L.map Ad.av ++ [x.av]))) 14 (.cells (sc P R (.vec 0 1100 (1 + L.length + 1) 0 (L.length + 1) false))) = sdr P R fr (L ++ [x]) := by
  have e : (L ++ [x]).length = L.length + 1 := by simp
  rw [sdr, sdr, e, List.map_append, upd_comm (upd fr 1100 _) 14 1100 _ _ (by decide), upd_upd, upd_upd]
  rfl
theorem sdr_set (L' : List Ad) (h : L'.length = L.length) : upd (sdr P R fr L) 1100 (.vec (1 + L.length) 4 (L'.map Ad.av)) = sdr P R fr L' := by
  rw [sdr, sdr, h, upd_comm (upd fr 1100 _) 14 1100 _ _ (by decide), upd_upd]
end

section
variable (P R : PL) (fr : Nat → Ob) (L : List Ad) (hl : L.length ≤ 1000) (x y : Int)
include hl
theorem ua28  : ACalls Tryz.prog 28 [.ptr 0 14 0, .int .i64 x, .int .i64 y] ( [sdr P R fr L]) fun v m1 => v = .int .i64 (prI L x y : Nat) ∧ m1 =  [sdr P R fr (prL L x y)] := by
  have hs := sdr_s P R fr L
  have hr := sdr_R P R fr L
  have cf := x45 L hl x y
  simp only [sc] at hs
  unfold prL prI
  refine wG Tryz.func28 ?_; simp only [eK, Tryz.f28, seval]
  simp only [hs, eES, eEX, seval]
  refine aops_call cf ?_ rfl rfl (.inr rfl) ?_
  · have ex : (L.map Ad.av).take L.length = L.map Ad.av := List.take_of_length_le (by simp)
    simp only [List.map_cons, List.map_nil, AV.stillL, AV.still, Am.look, hr, List.length_map, ex, List.drop_zero, Nat.zero_add, Nat.le_refl, and_self, if_true, Bool.false_and, Bool.false_eq_true, if_false, eES, eEX, seval] <;> rfl
  cases idx L x y with
  | some i => simp only [Option.getD_some, Option.isSome_some, eES, eEX, seval]
  | none =>
    simp only [hs, Option.getD_none, Option.isSome_none, eES, eEX, seval]
    refine aops_bslA rfl rfl (by decide) rfl rfl ?_
    refine aops_appH (xs := L.map Ad.av) (by first | rfl | simp only [eES, eEX, seval]) (by simp only [hr, eES, eEX, seval]) rfl (by simp) (by first | rfl | simp only [eES, eEX, seval]) rfl (by simp only [List.length_cons, List.length_nil, List.length_map, maxLen]; omega) (by simp only [List.length_cons, List.length_nil, List.length_map]; omega) ?_
    have ha := sdr_add P R fr L ⟨x, y, [], []⟩
    have w : IntKind.i64.wrap (((L.length + 1 : Nat) : Int) - 1) = (L.length : Int) := wp64 L.length (L.length + 2) (by omega) (by simp only [maxLen]; omega)
    simp only [Ad.av, sc, List.map_nil] at ha
    simp only [hs, nn0, List.map_cons, List.map_nil, cond_false, eES, eEX, seval]
    simp only [Ad.av, ha, w, sdr_s, sc, eES, eEX, seval]

theorem uc28 (a b : Nat → Ob) : ACalls Tryz.prog 28 [.ptr 2 14 0, .int .i64 x, .int .i64 y] (a :: b :: [sdr P R fr L]) fun v m1 => v = .int .i64 (prI L x y : Nat) ∧ m1 = a :: b :: [sdr P R fr (prL L x y)] := by
  have hs := sdr_s P R fr L
  have hr := sdr_R P R fr L
  have cf := x45 L hl x y
  simp only [sc] at hs
  unfold prL prI
  refine wG Tryz.func28 ?_; simp only [eK, Tryz.f28, seval]
  simp only [hs, eES, eEX, seval]
  refine aops_call cf ?_ rfl rfl (.inr rfl) ?_
  · have ex : (L.map Ad.av).take L.length = L.map Ad.av := List.take_of_length_le (by simp)
    simp only [List.map_cons, List.map_nil, AV.stillL, AV.still, Am.look, hr, List.length_map, ex, List.drop_zero, Nat.zero_add, Nat.le_refl, and_self, if_true, Bool.false_and, Bool.false_eq_true, if_false, eES, eEX, seval] <;> rfl
  cases idx L x y with
  | some i => simp only [Option.getD_some, Option.isSome_some, eES, eEX, seval]
  | none =>
    simp only [hs, Option.getD_none, Option.isSome_none, eES, eEX, seval]
    refine aops_bslA rfl rfl (by decide) rfl rfl ?_
    refine aops_appH (xs := L.map Ad.av) (by first | rfl | simp only [eES, eEX, seval]) (by simp only [hr, eES, eEX, seval]) rfl (by simp) (by first | rfl | simp only [eES, eEX, seval]) rfl (by simp only [List.length_cons, List.length_nil, List.length_map, maxLen]; omega) (by simp only [List.length_cons, List.length_nil, List.length_map]; omega) ?_
    have ha := sdr_add P R fr L ⟨x, y, [], []⟩
    have w : IntKind.i64.wrap (((L.length + 1 : Nat) : Int) - 1) = (L.length : Int) := wp64 L.length (L.length + 2) (by omega) (by simp only [maxLen]; omega)
    simp only [Ad.av, sc, List.map_nil] at ha
    simp only [hs, nn0, List.map_cons, List.map_nil, cond_false, eES, eEX, seval]
    simp only [Ad.av, ha, w, sdr_s, sc, eES, eEX, seval]

end

theorem ac_av (x : Ac) : x.av = .agg [.int .i64 x.num, .int .i64 x.kind, .int .i64 x.sub] := rfl
section
variable {P R : PL} (hP : Own P) (hR : Own R) {g h : PG} (hgm : g ∈ P.progs) (hhm : h ∈ R.progs)
include hP hR hgm hhm
set_option maxHeartbeats 1000000 in
theorem x46 {o : PO} (ho : o ∈ g.ops) (fr Fv : Nat → Ob) (L : List Ad) (hl : L.length ≤ 1000) : ACalls Tryz.prog 46 [.ptr 1 14 0, oav o, gav h] [Fv, sdr P R fr L] fun y m1 => y = (ac1 P R h L o).2.av ∧ m1 = [Fv, sdr P R fr (ac1 P R h L o).1] := by
  have oo := hP.op g hgm o ho
  have hO := y47 h (by have := hR.ops h hhm; simp only [maxLen]; omega) o.num
  simp only [opr, gav3, oav8] at hO
  unfold ac1
  refine wG Tryz.func46 ?_; simp only [eK, Tryz.f46, seval]
  simp only [gav3, oav8, eES, eEX, seval]
  refine aops_call hO rfl rfl rfl (.inl rfl) ?_
  cases hq : h.ops.find? fun x => x.num == o.num with
  | none => simp only [Option.getD_none, Option.isSome_none, ac_av, PO0, Bool.true_and, Bool.false_and, Bool.and_true, Bool.and_false, Bool.true_or, Bool.false_or, Bool.or_true, Bool.or_false, Bool.not_true, Bool.not_false, cond_true, cond_false, Bool.true_beq, Bool.false_beq, eES, eEX, seval]
  | some q =>
    have qo := hR.op h hhm q (List.mem_of_find?_eq_some hq)
    have cf := x108 hP hR oo qo (sdr_s P R fr L)
    simp only [oav8] at cf
    simp only [Option.getD_some, Option.isSome_some, Bool.true_and, Bool.false_and, Bool.and_true, Bool.and_false, Bool.true_or, Bool.false_or, Bool.or_true, Bool.or_false, Bool.not_true, Bool.not_false, cond_true, cond_false, Bool.true_beq, Bool.false_beq, eES, eEX, seval]
    refine aops_callF (cf _ Fv) (by simp only [List.map_cons, List.map_nil, eES, eEX, seval] <;> rfl) ?_
    rcases fld_in P R o q with e | e | e
    case' inr.inr =>
      rw [e, if_neg (fun h => h.1 rfl)]
      simp only [kdA, ac_av, seval, List.getElem?_cons_zero, List.getElem?_cons_succ, Bool.true_and, Bool.false_and, Bool.and_true, Bool.and_false, Bool.true_or, Bool.false_or, Bool.or_true, Bool.or_false, Bool.not_true, Bool.not_false, cond_true, cond_false, Bool.true_beq, Bool.false_beq, eES, eEX]
    all_goals
      rw [e]
      by_cases k1 : o.kind = 10
      case neg =>
        have d1 : (o.kind == 10) = false := by simp [k1]
        rw [if_neg (fun h => k1 h.2.1)]
        simp only [kdA, ac_av, d1, Bool.true_and, Bool.false_and, Bool.and_true, Bool.and_false, Bool.true_or, Bool.false_or, Bool.or_true, Bool.or_false, Bool.not_true, Bool.not_false, cond_true, cond_false, Bool.true_beq, Bool.false_beq, eES, eEX, seval]
      have d1 : (o.kind == 10) = true := by simp [k1]
      by_cases k2 : q.kind = 10
      case neg =>
        have d2 : (q.kind == 10) = false := by simp [k2]
        rw [if_neg (fun h => k2 h.2.2)]
        simp only [kdA, ac_av, d1, d2, Bool.true_and, Bool.false_and, Bool.and_true, Bool.and_false, Bool.true_or, Bool.false_or, Bool.or_true, Bool.or_false, Bool.not_true, Bool.not_false, cond_true, cond_false, Bool.true_beq, Bool.false_beq, eES, eEX, seval]
      have d2 : (q.kind == 10) = true := by simp [k2]
      rw [if_pos ⟨by decide, k1, k2⟩]
      simp only [kdA, ac_av, d1, d2, Bool.true_and, Bool.false_and, Bool.and_true, Bool.and_false, Bool.true_or, Bool.false_or, Bool.or_true, Bool.or_false, Bool.not_true, Bool.not_false, cond_true, cond_false, Bool.true_beq, Bool.false_beq, eES, eEX, seval]
      refine aops_callF (uc28 P R fr L hl o.target q.target _ Fv) (by simp only [List.map_cons, List.map_nil, eES, eEX, seval] <;> rfl) ?_
      simp only [eES, eEX, seval]

set_option maxHeartbeats 2000000 in
theorem x29 (hP8 : P.progs.length ≤ 8) (hR8 : R.progs.length ≤ 8) (fr : Nat → Ob) (L : List Ad) (H : PrA P R L) (i : Nat) (y : Ad) (hy : L[i]? = some y) (hg : P.progs[y.w.toNat]? = some g) (hh : R.progs[y.r.toNat]? = some h) : ACalls Tryz.prog 29 [.ptr 0 14 0, .int .i64 (i : Nat)] [sdr P R fr L] fun v m1 => v = .tup [] ∧ m1 = [sdr P R fr (vis P R L i)] := by
  have hL := pra_len hP8 hR8 H
  have hs := sdr_s P R fr L
  have hr := sdr_R P R fr L
  have hgl := hP.ops g hgm
  have hhl := hR.ops h hhm
  obtain ⟨n1, hw, hn1⟩ := H.ltw y (List.mem_of_getElem? hy)
  obtain ⟨n2, hv, hn2⟩ := H.ltr y (List.mem_of_getElem? hy)
  have hgp : (P.progs.map gav)[n1]? = some (gav g) := by rw [hw, Int.toNat_natCast] at hg; rw [List.getElem?_map, hg]; rfl
  have hhp : (R.progs.map gav)[n2]? = some (gav h) := by rw [hv, Int.toNat_natCast] at hh; rw [List.getElem?_map, hh]; rfl
  have hlt := (List.getElem?_eq_some_iff.1 hy).1
  have hgy := get_ad hy
  have hok := acs_ok hP hR hgm hhm H
  rw [hw, hv] at hgy
  rw [gav3] at hgp hhp
  simp only [sc] at hs
  rw [vis_at hy hg hh]
  refine wG Tryz.func29 ?_; simp only [eK, Tryz.f29, seval]
  simp only [hs, hr, Am.look, nneg, Int.toNat_natCast, aiaddr, aload, hlt, hgy, hgp, hhp, and_self, if_true, Nat.zero_add, eES, eEX, seval]
  refine awp_vec rfl rfl ?_
  simp only [List.length_map, eES, eEX, seval]
  refine awp_for (X := Nat × List Ad × List Ac) (fun s => [(0, .ptr 1 14 0), (1, .int .i64 (i : Nat)), (4, .ptr 0 4 0), (5, .ptr 0 5 0), (6, .vec 0 6 (1 + s.2.2.length) 0 s.2.2.length false), (45, .list (g.ops.map oav)), (46, .int .i64 (g.ops.length : Nat)), (47, .int .i64 (s.1 : Nat))]) (fun s => [(4, .cells g.cells), (5, .cells h.cells), (6, .vec (1 + s.2.2.length) 3 (s.2.2.map Ac.av)), (9, .none), (11, .none), (12, .none)]) [8] (fun s => g.ops.length - s.1) (fun s => s.1 ≤ g.ops.length ∧ (s.2.1, s.2.2) = acs P R h L (g.ops.take s.1)) (fun s => [sdr P R fr s.2.1]) (0, L, []) ⟨Nat.zero_le _, rfl⟩ ?_
  rintro ⟨k, L', A⟩ f fo ⟨hk, hLA⟩
  dsimp only at hk hLA
  obtain ⟨o1, o2, o3, o4⟩ := hok k
  rw [← hLA] at o1 o2 o4
  dsimp only at o1 o2 o4
  have hL' := pra_len hP8 hR8 o1
  simp only [PG.cells, updL, List.map_cons, List.map_nil, List.cons_append, List.nil_append, eES, eEX, seval]
  rcases at_or g.ops k with ⟨o, ho, hlk⟩ | hlk
  · have hgo := get_oav' ho
    have e1 := wi64_s k _ hlk (by simp only [maxLen]; omega)
    have ca := x46 hP hR hgm hhm (List.mem_of_getElem? ho) fr
    have hsu := acs_succ (P := P) (R := R) (h := h) (L := L) ho
    rw [← hLA] at hsu
    dsimp only at hsu
    simp only [gav3, oav8] at ca
    simp only [lt_t hlk, nneg, Int.toNat_natCast, aiaddr, hgo, eES, eEX, seval]
    refine aops_callF (ca _ L' (by omega)) (by simp only [List.map_cons, List.map_nil, eES, eEX, seval] <;> rfl) ?_
    simp only [ac_av, eES, eEX, seval]
    refine aops_bslA rfl rfl (by decide) rfl rfl ?_
    refine aops_app (xs := A.map Ac.av) (by first | rfl | simp only [eES, eEX, seval]) (by first | rfl | simp only [eES, eEX, seval]) rfl (by simp) (by first | rfl | simp only [eES, eEX, seval]) rfl (by simp only [List.length_cons, List.length_nil, maxLen]; omega) (by simp only [List.length_cons, List.length_nil]; omega) ?_
    simp only [e1, eES, eEX, seval]
    exact Ix.go (k + 1, (ac1 P R h L' o).1, A ++ [(ac1 P R h L' o).2]) (by dsimp only; omega) ⟨by dsimp only; omega, hsu.symm⟩ (hf := by simp only [Ag, List.map_cons, List.map_nil, List.length_append, List.length_cons, List.length_nil]; rfl) (ho := by simp only [Ag, ac_av, nn0, List.map_append, List.map_cons, List.map_nil, List.length_append, List.length_cons, List.length_nil]; rfl)
  have hkn : k = g.ops.length := by omega
  rw [hkn, List.take_length] at hLA
  rw [← hLA]
  dsimp only
  simp only [lt_f hlk, eES, eEX, seval]
  refine awp_vec rfl rfl ?_
  simp only [List.length_map, eES, eEX, seval]
  refine awp_for (X := Nat × List Int) (fun s => [(0, .ptr 1 14 0), (1, .int .i64 (i : Nat)), (4, .ptr 0 4 0), (5, .ptr 0 5 0), (6, .vec 0 6 (1 + A.length) 0 A.length false), (9, .vec 0 9 (1 + s.2.length) 0 s.2.length false), (60, .list (h.ops.map oav)), (61, .int .i64 (h.ops.length : Nat)), (62, .int .i64 (s.1 : Nat))]) (fun s => [(4, .cells g.cells), (5, .cells h.cells), (6, .vec (1 + A.length) 3 (A.map Ac.av)), (9, .vec (1 + s.2.length) 1 (s.2.map iu))]) [12, 11] (fun s => h.ops.length - s.1) (fun s => s.1 ≤ h.ops.length ∧ s.2.length ≤ s.1 ∧ s.2 = lks g (h.ops.take s.1)) (fun _ => [sdr P R fr L']) (0, []) ⟨Nat.zero_le _, Nat.zero_le _, rfl⟩ ?_
  rintro ⟨j, B⟩ f fo ⟨hj, hBl, hB⟩
  dsimp only at hj hBl hB
  simp only [PG.cells, updL, List.map_cons, List.map_nil, List.cons_append, List.nil_append, eES, eEX, seval]
  rcases at_or h.ops j with ⟨q, hq, hlj⟩ | hlj
  · have hgq := get_oav' hq
    have e1 := wi64_s j _ hlj (by simp only [maxLen]; omega)
    have hO := y47 g (by simp only [maxLen]; omega) q.num
    have hsu := lks_succ (g := g) hq
    rw [← hB] at hsu
    simp only [opr, gav3, oav8] at hO
    simp only [lt_t hlj, nneg, Int.toNat_natCast, aiaddr, hgq, eES, eEX, seval]
    refine aops_call hO rfl rfl rfl (.inl rfl) ?_
    cases hf : (g.ops.find? fun x => x.num == q.num).isSome
    case true =>
      rw [if_neg (by unfold lk1; rw [hf]; simp), List.append_nil] at hsu
      simp only [hf, e1, Bool.true_and, Bool.false_and, Bool.and_true, Bool.and_false, Bool.true_or, Bool.false_or, Bool.or_true, Bool.or_false, Bool.not_true, Bool.not_false, cond_true, cond_false, Bool.true_beq, Bool.false_beq, eES, eEX, seval]
      exact Ix.go (j + 1, B) (by dsimp only; omega) ⟨by dsimp only; omega, by dsimp only; omega, hsu.symm⟩
    cases hc : (q.card == 1)
    · rw [if_neg (by unfold lk1; rw [hf, hc]; simp), List.append_nil] at hsu
      simp only [hf, hc, e1, Bool.true_and, Bool.false_and, Bool.and_true, Bool.and_false, Bool.true_or, Bool.false_or, Bool.or_true, Bool.or_false, Bool.not_true, Bool.not_false, cond_true, cond_false, Bool.true_beq, Bool.false_beq, eES, eEX, seval]
      exact Ix.go (j + 1, B) (by dsimp only; omega) ⟨by dsimp only; omega, by dsimp only; omega, hsu.symm⟩
    · rw [if_pos (by unfold lk1; rw [hf, hc]; rfl)] at hsu
      simp only [hf, hc, e1, Bool.true_and, Bool.false_and, Bool.and_true, Bool.and_false, Bool.true_or, Bool.false_or, Bool.or_true, Bool.or_false, Bool.not_true, Bool.not_false, cond_true, cond_false, Bool.true_beq, Bool.false_beq, eES, eEX, seval]
      refine aops_bsl1 (by first | rfl | simp only [eES, eEX, seval]) ?_
      refine aops_app (xs := B.map iu) (by first | rfl | simp only [eES, eEX, seval]) (by first | rfl | simp only [eES, eEX, seval]) rfl (by simp) (by first | rfl | simp only [eES, eEX, seval]) rfl (by simp only [List.length_cons, List.length_nil, maxLen]; omega) (by simp only [List.length_cons, List.length_nil]; omega) ?_
      simp only [e1, eES, eEX, seval]
      exact Ix.go (j + 1, B ++ [q.num]) (by dsimp only; omega) ⟨by dsimp only; omega, by simp only [List.length_append, List.length_cons, List.length_nil]; omega, hsu.symm⟩ (hf := by simp only [Ag, List.map_cons, List.map_nil, List.length_append, List.length_cons, List.length_nil]; rfl) (ho := by simp only [Ag, iu, List.map_append, List.map_cons, List.map_nil, List.length_append, List.length_cons, List.length_nil]; rfl)
  have hjn : j = h.ops.length := by omega
  rw [hjn, List.take_length] at hB
  rw [← hB]
  simp only [lt_f hlj, eES, eEX, seval]
  refine awp_pub (xs := A.map Ac.av) rfl rfl (by simp) ?_
  refine awp_pub (xs := B.map iu) rfl rfl (by simp) ?_
  have x1 : (A.map Ac.av).take A.length = A.map Ac.av := List.take_of_length_le (by simp)
  have x2 : (B.map iu).take B.length = B.map iu := List.take_of_length_le (by simp)
  have hs' := sdr_s P R fr L'
  have hr' := sdr_R P R fr L'
  simp only [sc] at hs'
  have hlt' : i < L'.length := Nat.lt_of_lt_of_le hlt o2.length_le
  have hy' : L'[i]? = some y := by
    obtain ⟨t, ht⟩ := o2
    rw [← ht, List.getElem?_append_left hlt, hy]
  have hgy' := get_ad hy'
  have hg2 : ((L'.map Ad.av).set i (.agg [.int .i64 y.w, .int .i64 y.r, .list (A.map Ac.av), .list (y.lacks.map iu)]))[i]? = some (.agg [.int .i64 y.w, .int .i64 y.r, .list (A.map Ac.av), .list (y.lacks.map iu)]) := List.getElem?_set_self (by rw [List.length_map]; exact hlt')
  have hset : ((L'.map Ad.av).set i (.agg [.int .i64 y.w, .int .i64 y.r, .list (A.map Ac.av), .list (B.map iu)])) = (L'.set i ⟨y.w, y.r, A, B⟩).map Ad.av := by rw [List.map_set]; rfl
  have hfin := sdr_set P R fr L' (L'.set i ⟨y.w, y.r, A, B⟩) (List.length_set ..)
  rw [← hset] at hfin
  simp only [x1, x2, hs', hr', AV.rfL, AV.rf, Bool.and_self, nneg, Int.toNat_natCast, aiaddr, aload, astore, newElem, Am.look, Am.put, hlt', hgy', hg2, List.set_set, upd_upd, hfin, and_self, if_true, Nat.zero_add, Bool.true_and, Bool.false_and, Bool.and_true, Bool.and_false, Bool.true_or, Bool.false_or, Bool.or_true, Bool.or_false, Bool.not_true, Bool.not_false, cond_true, cond_false, Bool.true_beq, Bool.false_beq, eES, eEX, seval]
end

section
variable {P R : PL} (hP : Own P) (hR : Own R) (hP8 : P.progs.length ≤ 8) (hR8 : R.progs.length ≤ 8)
include hP hR hP8 hR8
set_option maxHeartbeats 1000000 in
theorem x15 (a b : Nat) (ha : a < P.progs.length) (hb : b < R.progs.length) : Fn1 Tryz.prog 15 [P.av, R.av, .int .i64 (a : Nat), .int .i64 (b : Nat)] (.list ((itr P R a b 64).map Ad.av)) := by
  have hok := itr_ok hP hR ha hb
  refine wF Tryz.func15 ?_; simp only [eK, Tryz.f15, seval]
  simp only [pav2', eES, eEX, seval]
  refine awp_vecc (s := 14) (idx := 4) (site := 1100) (xs := sc P R .nils) (by rfl) (by rfl) (by rfl) (by rfl) ?_
  simp only [eES, eEX, seval]
  refine aops_callF (ua28 P R _ [] (Nat.zero_le _) (a : Nat) (b : Nat)) (by simp only [List.map_cons, List.map_nil, eES, eEX, seval] <;> rfl) ?_
  simp only [eES, eEX, seval]
  refine awp_for (X := Nat × List Ad) (fun s => [(9, .ptr 0 14 0), (10, .int .i64 (s.1 : Nat))]) (fun s => [(14, .cells (sc P R (.vec 0 1100 (1 + s.2.length) 0 s.2.length false))), (1100, .vec (1 + s.2.length) 4 (s.2.map Ad.av))]) [] (fun s => 65 - s.1) (fun s => s.1 ≤ s.2.length ∧ s.2 = itr P R a b s.1) (fun _ => []) (0, itr P R a b 0) ⟨Nat.zero_le _, rfl⟩ ?_
  rintro ⟨i, L⟩ f fr ⟨hi, hL⟩
  dsimp only at hi hL
  obtain ⟨H, h1⟩ := hok i
  rw [← hL] at H h1
  have hLl := pra_len hP8 hR8 H
  simp only [sc, updL, List.map_cons, List.map_nil, List.cons_append, List.nil_append, eES, eEX, seval]
  rcases at_or L i with ⟨y, hy, hlt⟩ | hlt
  case inr =>
    have e : itr P R a b 64 = L := by
      rw [hL]
      exact itr_last (by rw [← hL]; exact hlt) (by omega)
    rw [e]
    have ex : (L.map Ad.av).take L.length = L.map Ad.av := List.take_of_length_le (by simp)
    simp only [lt_f hlt, List.length_map, ex, List.drop_zero, Nat.zero_add, Nat.le_refl, and_self, if_true, Option.bind_some, AV.un, AV.unL, eES, eEX, seval]
  obtain ⟨n1, hw, hn1⟩ := H.ltw y (List.mem_of_getElem? hy)
  obtain ⟨n2, hv, hn2⟩ := H.ltr y (List.mem_of_getElem? hy)
  obtain ⟨g, hg⟩ : ∃ g, P.progs[n1]? = some g := ⟨P.progs[n1], List.getElem?_eq_getElem hn1⟩
  obtain ⟨h, hh⟩ : ∃ h, R.progs[n2]? = some h := ⟨R.progs[n2], List.getElem?_eq_getElem hn2⟩
  have e1 := wi64_s i _ hlt (by simp only [maxLen]; omega)
  have cv := x29 hP hR (List.mem_of_getElem? hg) (List.mem_of_getElem? hh) hP8 hR8 fr L H i y hy (by rw [hw]; exact hg) (by rw [hv]; exact hh)
  have hnx : itr P R a b (i + 1) = vis P R L i := by rw [hL]; rfl
  have hlen : L.length ≤ (vis P R L i).length := (vis_ok hP hR H i).2.1
  simp only [lt_t hlt, eES, eEX, seval]
  refine aops_callF cv (by simp only [List.map_cons, List.map_nil, eES, eEX, seval] <;> rfl) ?_
  simp only [sdr, sc, e1, eES, eEX, seval]
  exact Ix.go (i + 1, vis P R L i) (by dsimp only; omega) ⟨by dsimp only; omega, hnx.symm⟩

omit hP hR hP8 hR8 in
theorem pxj_lt {P : PL} {s : List UInt8} (h : ¬ pxj P s < 0) : ∃ a : Nat, pxj P s = (a : Int) ∧ a < P.progs.length := by
  unfold pxj at *
  rcases fxi_spec (fun g : PG => g.name == s) P.progs 0 with ⟨e, _⟩ | ⟨k, o, e, ho, _⟩
  · omega
  · exact ⟨k, by rw [e]; omega, (List.getElem?_eq_some_iff.1 ho).1⟩

omit hP hR hP8 hR8 in
theorem ck_names {P : PL} (h : ck P = 0) : (∀ g ∈ P.progs, g.name.length ≤ 17592186044000) ∧ ∀ e ∈ P.enums, e.name.length ≤ 17592186044000 := by
  unfold ck at h
  split at h
  · omega
  split at h
  · omega
  rename_i hn
  rw [Bool.not_eq_false] at hn
  unfold nam at hn
  simp only [Bool.and_eq_true, List.all_eq_true] at hn
  refine ⟨fun g hg => ?_, fun e he => ?_⟩
  · have := hn.1 g hg
    unfold nam1 full at this
    simp only [Bool.and_eq_true, decide_eq_true_eq] at this
    omega
  · have := hn.2 e he
    unfold nam2 full at this
    simp only [Bool.and_eq_true, decide_eq_true_eq] at this
    omega
omit hP hR hP8 hR8 in
theorem x14 {M : Nat} (hM : M ≤ 140737488351232) (oP : P.ok M) (oR : R.ok M) (cP : ck P = 0) (cR : ck R = 0) : Fn1 Tryz.prog 14 [P.av, R.av] (.bool true) := by
  have h1 := zn27 P oP hM (ck_names cP).1 (ck_names cP).2
  have h2 := zn27 R oR hM (ck_names cR).1 (ck_names cR).2
  rw [cP] at h1
  rw [cR] at h2
  simp only [pav2'] at h1 h2
  refine wF Tryz.func14 ?_; simp only [eK, Tryz.f14, seval]
  simp only [pav2', eES, eEX, seval]
  refine aops_call h1 rfl rfl rfl (.inl rfl) ?_
  simp only [Bool.true_and, Bool.false_and, Bool.and_true, Bool.and_false, Bool.true_or, Bool.false_or, Bool.or_true, Bool.or_false, Bool.not_true, Bool.not_false, cond_true, cond_false, Bool.true_beq, Bool.false_beq, eES, eEX, seval]
  refine aops_call h2 rfl rfl rfl (.inl rfl) ?_
  simp only [Bool.true_and, Bool.false_and, Bool.and_true, Bool.and_false, Bool.true_or, Bool.false_or, Bool.or_true, Bool.or_false, Bool.not_true, Bool.not_false, cond_true, cond_false, Bool.true_beq, Bool.false_beq, eES, eEX, seval]

theorem x8 {M : Nat} (hM : M ≤ 140737488351232) (oP : P.ok M) (oR : R.ok M) (cP : ck P = 0) (cR : ck R = 0) (s : List UInt8) : Fn1 Tryz.prog 8 [P.av, R.av, .str s] (if pxj P s < 0 ∨ pxj R s < 0 then .tup [.list [], .int .i64 10] else .tup [.list ((itr P R (pxj P s).toNat (pxj R s).toNat 64).map Ad.av), .int .i64 0]) := by
  have fP := y13 P (by simp only [maxLen]; omega) s
  have fR := y13 R (by simp only [maxLen]; omega) s
  have cv := x14 hM oP oR cP cR
  have cf := x15 hP hR hP8 hR8
  rw [pfr_pxj] at fP fR
  simp only [pav2'] at fP fR cv cf
  refine wF Tryz.func8 ?_; simp only [eK, Tryz.f8, seval]
  simp only [pav2', eES, eEX, seval]
  refine aops_call fP rfl rfl rfl (.inl rfl) ?_
  simp only [eES, eEX, seval]
  refine aops_call fR rfl rfl rfl (.inl rfl) ?_
  by_cases h1 : pxj P s < 0
  · have d1 : decide (pxj P s ≥ 0) = false := decide_eq_false (by omega)
    have hc : pxj P s < 0 ∨ pxj R s < 0 := .inl h1
    rw [if_pos hc]
    simp only [d1, Bool.true_and, Bool.false_and, Bool.and_true, Bool.and_false, Bool.true_or, Bool.false_or, Bool.or_true, Bool.or_false, Bool.not_true, Bool.not_false, cond_true, cond_false, Bool.true_beq, Bool.false_beq, eES, eEX, seval]
  have d1 : decide (pxj P s ≥ 0) = true := decide_eq_true (by omega)
  by_cases h2 : pxj R s < 0
  · have d2 : decide (pxj R s ≥ 0) = false := decide_eq_false (by omega)
    have hc : pxj P s < 0 ∨ pxj R s < 0 := .inr h2
    rw [if_pos hc]
    simp only [d1, d2, Bool.true_and, Bool.false_and, Bool.and_true, Bool.and_false, Bool.true_or, Bool.false_or, Bool.or_true, Bool.or_false, Bool.not_true, Bool.not_false, cond_true, cond_false, Bool.true_beq, Bool.false_beq, eES, eEX, seval]
  have d2 : decide (pxj R s ≥ 0) = true := decide_eq_true (by omega)
  have hc : ¬ (pxj P s < 0 ∨ pxj R s < 0) := by omega
  rw [if_neg hc]
  obtain ⟨a, ea, ha⟩ := pxj_lt h1
  obtain ⟨b, eb, hb⟩ := pxj_lt h2
  simp only [d1, d2, h1, h2, if_false, Bool.true_and, Bool.false_and, Bool.and_true, Bool.and_false, Bool.true_or, Bool.false_or, Bool.or_true, Bool.or_false, Bool.not_true, Bool.not_false, cond_true, cond_false, Bool.true_beq, Bool.false_beq, eES, eEX, seval]
  refine aops_call cv rfl rfl rfl (.inl rfl) ?_
  rw [ea, eb, Int.toNat_natCast, Int.toNat_natCast]
  simp only [h1, h2, if_false, Bool.true_and, Bool.false_and, Bool.and_true, Bool.and_false, Bool.true_or, Bool.false_or, Bool.or_true, Bool.or_false, Bool.not_true, Bool.not_false, cond_true, cond_false, Bool.true_beq, Bool.false_beq, eES, eEX, seval]
  refine aops_call (cf a b ha hb) rfl rfl rfl (.inl rfl) ?_
  simp only [eES, eEX, seval]
end

end Go.Proofs.YtdgbidbkcigkhaaGreatDoor.Va

namespace Go.Proofs.YtdgbidbkcigkhaaGreatDoor.Rc
open Go Am Cg
abbrev g3_0 : IL := [⟨some 4, .boxN 4 (.t 0), none⟩, ⟨some 5, .boxN 5 (.t 1), none⟩, ⟨some 8, .val (.mov (.c (.bool false))), none⟩]
abbrev g3_1 : IL := [⟨some 19, .val (.mov (.t 3)), none⟩, ⟨some 20, .call (.f 5) [(.t 19)], none⟩, ⟨some 21, .val (.mov (.t 3)), none⟩, ⟨some 22, .call (.f 6) [(.t 21)], none⟩, ⟨some 23, .call (.f 4) [(.t 20), (.t 22)], none⟩, ⟨some 24, .val (.un .not (.t 23)), none⟩]
abbrev g3_2 : IL := [⟨some 8, .val (.mov (.c (.bool false))), none⟩]
abbrev g3_3 : IL := [⟨some 25, .val (.load (some 2) (.t 4)), none⟩, ⟨some 26, .val (.load (some 2) (.t 5)), none⟩, ⟨some 27, .call (.f 7) [(.t 25), (.t 26)], none⟩, ⟨some 28, .val (.un .not (.t 27)), none⟩]
abbrev g3_4 : IL := [⟨some 8, .val (.mov (.c (.bool true))), none⟩]
abbrev g3_5 : IL := [⟨some 30, .val (.load (some 2) (.t 4)), none⟩, ⟨some 31, .val (.load (some 2) (.t 5)), none⟩, ⟨some 32, .val (.mov (.t 2)), none⟩, ⟨some 33, .call (.f 8) [(.t 30), (.t 31), (.t 32)], none⟩, ⟨some 29, .val (.mov (.t 33)), none⟩, ⟨some 34, .val (.ext (.t 29) 0), none⟩, ⟨some 35, .val (.ext (.t 29) 1), none⟩, ⟨some 9, .val (.mov (.t 34)), none⟩, ⟨some 10, .val (.mov (.t 35)), none⟩]
abbrev g3_6 : IL := [⟨some 36, .val (.mov (.t 10)), none⟩, ⟨some 37, .val (.bin .num .neq (.t 36) (.c (.int .i64 0))), none⟩]
abbrev g3_7 : IL := [⟨some 38, .call (.f 9) [], none⟩, ⟨some 8, .val (.mov (.t 38)), none⟩]
abbrev g3_8 : IL := [⟨some 40, .val (.load (some 2) (.t 4)), none⟩, ⟨some 41, .val (.mov (.t 2)), none⟩, ⟨some 42, .call (.f 10) [(.t 40), (.t 41)], none⟩, ⟨some 39, .val (.mov (.t 42)), none⟩, ⟨some 43, .val (.ext (.t 39) 0), none⟩, ⟨some 44, .val (.ext (.t 39) 1), none⟩, ⟨some 11, .val (.mov (.t 43)), none⟩, ⟨some 12, .val (.mov (.t 44)), none⟩]
abbrev g3_9 : IL := [⟨some 46, .val (.load (some 2) (.t 5)), none⟩, ⟨some 47, .val (.mov (.t 2)), none⟩, ⟨some 48, .call (.f 10) [(.t 46), (.t 47)], none⟩, ⟨some 45, .val (.mov (.t 48)), none⟩, ⟨some 49, .val (.ext (.t 45) 0), none⟩, ⟨some 50, .val (.ext (.t 45) 1), none⟩, ⟨some 13, .val (.mov (.t 49)), none⟩, ⟨some 14, .val (.mov (.t 50)), none⟩]
abbrev g3_10 : IL := [⟨some 15, .val (.mov (.c (.nils))), none⟩]
abbrev g3_11 : IL := [⟨some 16, .val (.mov (.c (.int .i64 0))), none⟩]
abbrev g3_12 : IL := [⟨some 51, .val (.mov (.t 16)), none⟩, ⟨some 52, .val (.faddr 0 (.t 4)), none⟩, ⟨some 53, .val (.load none (.t 52)), none⟩, ⟨some 54, .val (.mov (.t 11)), none⟩, ⟨some 55, .val (.iaddr 3 none (.t 53) (.t 54)), none⟩, ⟨some 56, .val (.faddr 1 (.t 55)), none⟩, ⟨some 57, .val (.load none (.t 56)), none⟩, ⟨some 58, .val (.len 1 (.t 57)), none⟩, ⟨some 59, .val (.bin .num .lss (.t 51) (.t 58)), none⟩]
abbrev g3_14 : IL := [⟨some 63, .val (.faddr 0 (.t 5)), none⟩, ⟨some 64, .val (.loadv 0 5 none (.t 63)), none⟩, ⟨some 65, .val (.mov (.t 13)), none⟩, ⟨some 66, .val (.iaddr 3 none (.t 64) (.t 65)), none⟩, ⟨some 67, .val (.loadr (some 3) (.t 66)), none⟩, ⟨some 68, .val (.faddr 0 (.t 4)), none⟩, ⟨some 69, .val (.loadv 0 4 none (.t 68)), none⟩, ⟨some 70, .val (.mov (.t 11)), none⟩, ⟨some 71, .val (.iaddr 3 none (.t 69) (.t 70)), none⟩, ⟨some 72, .val (.faddr 1 (.t 71)), none⟩, ⟨some 73, .val (.loadr none (.t 72)), none⟩, ⟨some 74, .val (.mov (.t 16)), none⟩, ⟨some 75, .val (.iaddr 8 none (.t 73) (.t 74)), none⟩, ⟨some 76, .val (.faddr 0 (.t 75)), none⟩, ⟨some 77, .val (.loadr none (.t 76)), none⟩, ⟨some 78, .call (.f 11) [(.t 67), (.t 77)], none⟩, ⟨some 62, .val (.mov (.t 78)), none⟩, ⟨some 79, .val (.ext (.t 62) 0), none⟩, ⟨some 80, .val (.ext (.t 62) 1), none⟩, ⟨some 17, .allocN 17 [.int .i64 0, .str [], .str [], .int .i64 0, .int .i64 0, .int .i64 0, .int .i64 0, .int .i64 0], none⟩, ⟨none, .storev 0 17 8 (.t 17) (.t 79), none⟩, ⟨some 18, .val (.mov (.t 80)), none⟩]
abbrev g3_15 : IL := [⟨some 81, .val (.mov (.t 18)), none⟩]
abbrev g3_16 : IL := [⟨some 82, .val (.mov (.t 15)), none⟩, ⟨some 83, .val (.faddr 0 (.t 4)), none⟩, ⟨some 84, .val (.load none (.t 83)), none⟩, ⟨some 85, .val (.mov (.t 11)), none⟩, ⟨some 86, .val (.iaddr 3 none (.t 84) (.t 85)), none⟩, ⟨some 87, .val (.faddr 1 (.t 86)), none⟩, ⟨some 88, .val (.load none (.t 87)), none⟩, ⟨some 89, .val (.mov (.t 16)), none⟩, ⟨some 90, .val (.iaddr 8 none (.t 88) (.t 89)), none⟩, ⟨some 91, .val (.faddr 0 (.t 90)), none⟩, ⟨some 92, .val (.load none (.t 91)), none⟩, ⟨some 93, .bsl 1 1 [.int .i64 0] [(0, 1, (.t 92))], none⟩, ⟨some 94, .app 1 8 3 (.t 82) (.t 93), none⟩, ⟨some 15, .val (.mov (.t 94)), none⟩]
abbrev g3_13 : IL := [⟨some 60, .val (.mov (.t 16)), none⟩, ⟨some 61, .val (.bin .num .add (.t 60) (.c (.int .i64 1))), none⟩, ⟨some 16, .val (.mov (.t 61)), none⟩]
abbrev l3_0 : RC := .gho (.drop 17) (.seq (.seq (.reg g3_12) (.cond (.t 59) (.skip) (.exit 0))) (.seq (.block 1 (.seq (.draw g3_14) (.seq (.reg g3_15) (.cond (.t 81) (.reg g3_16) (.skip))))) (.reg g3_13)))
abbrev g3_17 : IL := [⟨some 95, .val (.mov (.t 9)), none⟩, ⟨some 96, .call (.f 5) [(.t 95)], none⟩, ⟨some 97, .val (.mov (.t 15)), none⟩, ⟨some 98, .call (.f 4) [(.t 96), (.t 97)], none⟩, ⟨some 99, .val (.mov (.t 98)), none⟩, ⟨some 100, .call (.f 9) [], (some (99, true))⟩, ⟨some 101, .val (.pick (.t 99) (.t 100) (.c (.bool false))), none⟩, ⟨some 8, .val (.mov (.t 101)), none⟩]
abbrev r3 : RC := .seq (.reg g3_0) (.seq (.seq (.reg g3_1) (.cond (.t 24) (.seq (.reg g3_2) (.ret)) (.skip))) (.seq (.seq (.reg g3_3) (.cond (.t 28) (.seq (.reg g3_4) (.ret)) (.skip))) (.seq (.reg g3_5) (.seq (.seq (.reg g3_6) (.cond (.t 37) (.seq (.reg g3_7) (.ret)) (.skip))) (.seq (.reg g3_8) (.seq (.reg g3_9) (.seq (.reg g3_10) (.gho (.vec 15 15 1) (.seq (.seq (.reg g3_11) (.block 0 (.loop l3_0))) (.seq (.reg g3_17) (.ret)))))))))))
abbrev o3 : List RR := [.tmp 8]
theorem k3 : CT 3 102 r3 o3 := ck Tryz.func3 Tryz.ntmps3 (by decide +kernel)
end Go.Proofs.YtdgbidbkcigkhaaGreatDoor.Rc

set_option linter.unusedSimpArgs false
namespace Go.Proofs.YtdgbidbkcigkhaaGreatDoor.Cl
open Go Am Rc Bt

theorem flat_nil0 {sz : Nat} (h0 : sz ≠ 0) {xs : List AV} (h : xs.all (fun e => e.cells.length == sz) = true) (hf : flat xs = []) : xs = [] := by
  cases xs with
  | nil => rfl
  | cons x xs =>
    have hl : x.cells.length = sz := by simpa using List.all_eq_true.1 h x (by simp)
    have : x.cells = [] := (List.append_eq_nil_iff.1 hf).1
    rw [this] at hl
    exact absurd hl.symm h0

def cloned (sz : Nat) (args : List AV) (m : Mem) : Option (AV × Mem) :=
  match args, m with
  | [.list xs], fr :: m => bif xs.all (fun e => e.cells.length == sz) && Nat.ble xs.length 1000000 && rowOrNone (fr 1000) then some (.vec 0 1000 (ngen (fr 1000)) 0 xs.length false, upd fr 1000 (.vec (ngen (fr 1000)) sz xs) :: m) else none
  | _, _ => none

theorem cloned_ok {P : Program} {k sz : Nat} (hk : ∀ (xs : List AV) (fr : Nat → Ob) (m : Mem), xs.all (fun e => e.cells.length == sz) = true → xs.length ≤ 1000000 → rowOrNone (fr 1000) = true →
    ACalls P k [.list xs] (fr :: m) (fun x m1 => x = .vec 0 1000 (ngen (fr 1000)) 0 xs.length false ∧ m1 = upd fr 1000 (.vec (ngen (fr 1000)) sz xs) :: m)) {args : List AV} {m m' : Mem} {v : AV} (h : cloned sz args m = some (v, m')) : ACalls P k args m fun x m1 => x = v ∧ m1 = m' := by
  unfold cloned at h
  split at h
  · rename_i xs fr m0
    cases hb : (xs.all (fun e => e.cells.length == sz) && Nat.ble xs.length 1000000 && rowOrNone (fr 1000)) with
    | false => rw [hb] at h; cases h
    | true =>
      rw [hb] at h
      simp only [cond_true, Option.some.injEq, Prod.mk.injEq] at h
      simp only [Bool.and_eq_true] at hb
      obtain ⟨rfl, rfl⟩ := h
      exact hk xs fr m0 hb.1.1 (Nat.le_of_ble_eq_true hb.1.2) hb.2
  · cases h

theorem c126 (xs : List AV) (fr : Nat → Ob) (m : Mem) (h : xs.all (fun e => e.cells.length == 4) = true) (hn : xs.length ≤ 1000000) (hr : rowOrNone (fr 1000) = true) :
    ACalls Tryz.prog 126 [.list xs] (fr :: m) (fun x m1 => x = .vec 0 1000 (ngen (fr 1000)) 0 xs.length false ∧ m1 = upd fr 1000 (.vec (ngen (fr 1000)) 4 xs) :: m) := by
  have hng : newGen (fr :: m) 0 1000 = ngen (fr 1000) := newGen_fr
  refine k126.go (by simp) ?_
  simp only [r126, g126_0, g126_1, eES, eEX, seval]
  refine aops_isnil (ys := xs) (by simp only [eES, eEX, seval]) ?_ ?_
  · simp only [g126_3, eES, eEX, seval]
    refine aops_bsl0 rfl ?_
    simp only [eES, eEX, seval]
    refine aops_app (site := 5) (g := 1) (xs := []) (ys := xs) rfl rfl rfl rfl rfl h (by simp [maxLen]; omega) (by simp; omega) ?_
    simp only [eES, eEX, seval]
    refine awp_give (l := 0) (site := 5) (g := 2) (o := 0) (n := xs.length) (q := false) (sz := 4) (xs := xs) (by simp only [Nat.zero_add, eES, eEX, seval]) (by simp only [eES, eEX, seval]) (by simp) (by decide) hr ?_
    simp only [hng, o126, eES, eEX, seval]
    try simp [AV.still, AV.un, isV, vget]
  · intro he
    have hx : xs = [] := by
      rcases he with he | he
      · exact he
      · exact flat_nil0 (by decide) h he
    subst hx
    simp only [g126_2, eES, eEX, seval]
    refine awp_vec (by simp only [eES, eEX, seval]) rfl ?_
    simp only [eES, eEX, seval]
    refine awp_give (l := 0) (site := 2) (g := 1) (o := 0) (n := 0) (q := false) (sz := 4) (xs := []) (by simp only [eES, eEX, seval]) (by simp only [eES, eEX, seval]) (by simp) (by decide) hr ?_
    simp only [hng, o126, eES, eEX, seval]
    try simp [AV.still, AV.un, isV, vget]

theorem c182 (xs : List AV) (fr : Nat → Ob) (m : Mem) (h : xs.all (fun e => e.cells.length == 8) = true) (hn : xs.length ≤ 1000000) (hr : rowOrNone (fr 1000) = true) :
    ACalls Tryz.prog 182 [.list xs] (fr :: m) (fun x m1 => x = .vec 0 1000 (ngen (fr 1000)) 0 xs.length false ∧ m1 = upd fr 1000 (.vec (ngen (fr 1000)) 8 xs) :: m) := by
  have hng : newGen (fr :: m) 0 1000 = ngen (fr 1000) := newGen_fr
  refine k182.go (by simp) ?_
  simp only [r182, g182_0, g182_1, eES, eEX, seval]
  refine aops_isnil (ys := xs) (by simp only [eES, eEX, seval]) ?_ ?_
  · simp only [g182_3, eES, eEX, seval]
    refine aops_bsl0 rfl ?_
    simp only [eES, eEX, seval]
    refine aops_app (site := 5) (g := 1) (xs := []) (ys := xs) rfl rfl rfl rfl rfl h (by simp [maxLen]; omega) (by simp; omega) ?_
    simp only [eES, eEX, seval]
    refine awp_give (l := 0) (site := 5) (g := 2) (o := 0) (n := xs.length) (q := false) (sz := 8) (xs := xs) (by simp only [Nat.zero_add, eES, eEX, seval]) (by simp only [eES, eEX, seval]) (by simp) (by decide) hr ?_
    simp only [hng, o182, eES, eEX, seval]
    try simp [AV.still, AV.un, isV, vget]
  · intro he
    have hx : xs = [] := by
      rcases he with he | he
      · exact he
      · exact flat_nil0 (by decide) h he
    subst hx
    simp only [g182_2, eES, eEX, seval]
    refine awp_vec (by simp only [eES, eEX, seval]) rfl ?_
    simp only [eES, eEX, seval]
    refine awp_give (l := 0) (site := 2) (g := 1) (o := 0) (n := 0) (q := false) (sz := 8) (xs := []) (by simp only [eES, eEX, seval]) (by simp only [eES, eEX, seval]) (by simp) (by decide) hr ?_
    simp only [hng, o182, eES, eEX, seval]
    try simp [AV.still, AV.un, isV, vget]

theorem c244 (xs : List AV) (fr : Nat → Ob) (m : Mem) (h : xs.all (fun e => e.cells.length == 7) = true) (hn : xs.length ≤ 1000000) (hr : rowOrNone (fr 1000) = true) :
    ACalls Tryz.prog 244 [.list xs] (fr :: m) (fun x m1 => x = .vec 0 1000 (ngen (fr 1000)) 0 xs.length false ∧ m1 = upd fr 1000 (.vec (ngen (fr 1000)) 7 xs) :: m) := by
  have hng : newGen (fr :: m) 0 1000 = ngen (fr 1000) := newGen_fr
  refine k244.go (by simp) ?_
  simp only [r244, g244_0, g244_1, eES, eEX, seval]
  refine aops_isnil (ys := xs) (by simp only [eES, eEX, seval]) ?_ ?_
  · simp only [g244_3, eES, eEX, seval]
    refine aops_bsl0 rfl ?_
    simp only [eES, eEX, seval]
    refine aops_app (site := 5) (g := 1) (xs := []) (ys := xs) rfl rfl rfl rfl rfl h (by simp [maxLen]; omega) (by simp; omega) ?_
    simp only [eES, eEX, seval]
    refine awp_give (l := 0) (site := 5) (g := 2) (o := 0) (n := xs.length) (q := false) (sz := 7) (xs := xs) (by simp only [Nat.zero_add, eES, eEX, seval]) (by simp only [eES, eEX, seval]) (by simp) (by decide) hr ?_
    simp only [hng, o244, eES, eEX, seval]
    try simp [AV.still, AV.un, isV, vget]
  · intro he
    have hx : xs = [] := by
      rcases he with he | he
      · exact he
      · exact flat_nil0 (by decide) h he
    subst hx
    simp only [g244_2, eES, eEX, seval]
    refine awp_vec (by simp only [eES, eEX, seval]) rfl ?_
    simp only [eES, eEX, seval]
    refine awp_give (l := 0) (site := 2) (g := 1) (o := 0) (n := 0) (q := false) (sz := 7) (xs := []) (by simp only [eES, eEX, seval]) (by simp only [eES, eEX, seval]) (by simp) (by decide) hr ?_
    simp only [hng, o244, eES, eEX, seval]
    try simp [AV.still, AV.un, isV, vget]

end Go.Proofs.YtdgbidbkcigkhaaGreatDoor.Cl

namespace Go.Proofs.YtdgbidbkcigkhaaGreatDoor.Ew
open Go Am Rc Cl

def nat : Cal := fun k args m =>
  if k = 126 then cloned 4 args m
  else if k = 182 then cloned 8 args m
  else if k = 244 then cloned 7 args m
  else none

theorem nat_ok : CalOk Tryz.prog nat := by
  intro k args m v m' h
  unfold nat at h
  split at h
  · rename_i e; subst e; exact cloned_ok c126 h
  split at h
  · rename_i e; subst e; exact cloned_ok c182 h
  split at h
  · rename_i e; subst e; exact cloned_ok c244 h
  · cases h

end Go.Proofs.YtdgbidbkcigkhaaGreatDoor.Ew

namespace Go.Proofs.YtdgbidbkcigkhaaGreatDoor.Ew
open Go Am Rc Cl

theorem awake_run : evT nat Ev.tab 6000 9 [] = true := by decide +kernel

theorem awake_ok : Fn1 Tryz.prog 9 [] (.bool true) := fn1_of_evT nat_ok Ev.tab_ok awake_run

end Go.Proofs.YtdgbidbkcigkhaaGreatDoor.Ew

set_option linter.unusedSimpArgs false
set_option linter.unusedSectionVars false
namespace Go.Proofs.YtdgbidbkcigkhaaGreatDoor.Va
open Go Am Rc Bt Br

def Ac.cells (x : Ac) : List AV := [.int .i64 x.num, .int .i64 x.kind, .int .i64 x.sub]
def Ad.cells (x : Ad) : List AV := [.int .i64 x.w, .int .i64 x.r, .list (x.acts.map Ac.av), .list (x.lacks.map iu)]
theorem has_act {M k : Nat} {cs : List AV} (h : Has Tryz.prog M k 49 cs) : ∃ x : Ac, True ∧ cs = x.cells := by
  obtain ⟨k, h⟩ := has_struct Tryz.underlying49 h
  simp only [Has.HasL] at h
  obtain ⟨_, _, rfl, h0, _, _, rfl, h1, _, _, rfl, h2, rfl⟩ := h
  obtain ⟨a0, rfl, w0⟩ := has_int Tryz.underlying3 h0
  obtain ⟨a1, rfl, w1⟩ := has_int Tryz.underlying3 h1
  obtain ⟨a2, rfl, w2⟩ := has_int Tryz.underlying3 h2
  exact ⟨⟨a0, a1, a2⟩, trivial, rfl⟩
theorem has_adapt {M k : Nat} (hM : M = reachBytes) {cs : List AV} (h : Has Tryz.prog M k 47 cs) : ∃ x : Ad, x.acts.length ≤ 5864062014805 ∧ cs = x.cells := by
  obtain ⟨k, h⟩ := has_struct Tryz.underlying47 h
  simp only [Has.HasL] at h
  obtain ⟨_, _, rfl, h0, _, _, rfl, h1, _, _, rfl, h2, _, _, rfl, h3, rfl⟩ := h
  obtain ⟨a0, rfl, w0⟩ := has_int Tryz.underlying3 h0
  obtain ⟨a1, rfl, w1⟩ := has_int Tryz.underlying3 h1
  obtain ⟨k3, l3, rfl, w3, hl3⟩ := has_slice Tryz.underlying28 h3
  obtain ⟨x3, rfl, o3⟩ := list_of (f := fun n : Int => [AV.int .i64 n]) (ok := fun _ => True) fun c hc => (has_int Tryz.underlying3 (hl3 c hc)).elim fun n h => ⟨n, trivial, h.1⟩
  cases k with
  | zero => cases h2
  | succ k =>
    simp only [Has, Tryz.underlying45] at h2
    obtain ⟨l, rfl, ⟨_, w2⟩, h2, _⟩ := h2
    have hb : Tryz.prog.bytesOf 49 = 24 := by decide +kernel
    have hlen := w2 hM
    rw [hb, hM] at hlen
    obtain ⟨x2, rfl, o2⟩ := list_of (f := Ac.cells) (ok := fun _ => True) fun c hc => has_act (h2 c hc)
    refine ⟨⟨a0, a1, x2, x3⟩, ?_, ?_⟩
    · rw [List.length_map] at hlen
      unfold reachBytes at hlen
      show x2.length ≤ _
      omega
    · simp only [Ad.cells, List.map_map, List.cons_append, List.nil_append]
      rfl
theorem has_adapts {M k : Nat} (hM : M = reachBytes) {l : List (List AV)} (h : ∀ c ∈ l, Has Tryz.prog M k 47 c) : ∃ xs : List Ad, l.map elemV = xs.map Ad.av ∧ ∀ x ∈ xs, x.acts.length ≤ 5864062014805 := by
  obtain ⟨xs, rfl, ho⟩ := list_of (f := Ad.cells) (ok := fun x : Ad => x.acts.length ≤ 5864062014805) fun c hc => has_adapt hM (h c hc)
  exact ⟨xs, by rw [List.map_map]; rfl, ho⟩

theorem get_ac {L : List Ac} {i : Nat} {y : Ac} (hy : L[i]? = some y) : (L.map Ac.av)[i]? = some (.agg [.int .i64 y.num, .int .i64 y.kind, .int .i64 y.sub]) := by
  rw [List.getElem?_map, hy]; rfl
theorem ndf_succ {l : List Ac} {k : Nat} {x : Ac} (hx : l[k]? = some x) : ndf (l.take (k + 1)) = ndf (l.take k) ++ (if (x.kind != 1) = true then [x.num] else []) := by
  unfold ndf
  rw [List.take_add_one, hx, Option.toList_some, List.filter_append, List.map_append]
  cases hb : (x.kind != 1) <;> simp [List.filter_cons, hb]
section
variable (l : List Ad) (hl : ∀ x, l[0]? = some x → x.acts.length ≤ 5864062014805)
include hl
theorem x5 : Fn1 Tryz.prog 5 [.list (l.map Ad.av)] (.list ((nds l).map iu)) := by
  refine wF Tryz.func5 ?_; simp only [eK, Tryz.f5, seval]
  simp only [eES, eEX, seval]
  refine awp_vec rfl rfl ?_
  cases l with
  | nil => simp only [nds, List.map_nil, List.length_nil, List.take_nil, Nat.le_refl, and_self, if_true, Nat.zero_add, Option.bind_some, AV.un, AV.unL, eES, eEX, seval]
  | cons x l =>
    have hx := hl x rfl
    have h0 : (((l.length + 1 : Nat) : Int) == 0) = false := by rw [beq_eq_false_iff_ne]; omega
    have hg : ((x :: l).map Ad.av)[0]? = some (.agg [.int .i64 x.w, .int .i64 x.r, .list (x.acts.map Ac.av), .list (x.lacks.map iu)]) := rfl
    have hn : nds (x :: l) = ndf x.acts := rfl
    rw [hn]
    simp only [List.length_map, List.length_cons, h0, nneg, aiaddr, Int.toNat_zero, Int.le_refl, hg, eES, eEX, seval]
    refine awp_for (X := Nat × List Int) (fun s => [(3, .vec 0 3 (1 + s.2.length) 0 s.2.length false), (13, .list (x.acts.map Ac.av)), (14, .int .i64 (x.acts.length : Nat)), (15, .int .i64 (s.1 : Nat))]) (fun s => [(3, .vec (1 + s.2.length) 1 (s.2.map iu))]) [5] (fun s => x.acts.length - s.1) (fun s => s.1 ≤ x.acts.length ∧ s.2.length ≤ s.1 ∧ s.2 = ndf (x.acts.take s.1)) (fun _ => []) (0, []) ⟨Nat.zero_le _, Nat.zero_le _, rfl⟩ ?_
    rintro ⟨k, B⟩ f fr ⟨hk, hBl, hB⟩
    dsimp only at hk hBl hB
    simp only [updL, List.map_cons, List.map_nil, List.cons_append, List.nil_append, eES, eEX, seval]
    rcases at_or x.acts k with ⟨y, hy, hlt⟩ | hlt
    case inr =>
      rw [List.take_of_length_le (by omega)] at hB
      have ex : (B.map iu).take B.length = B.map iu := List.take_of_length_le (by simp)
      simp only [lt_f hlt, ← hB, List.length_map, ex, List.drop_zero, Nat.zero_add, Nat.le_refl, and_self, if_true, Option.bind_some, AV.un, AV.unL, eES, eEX, seval]
    have hgy := get_ac hy
    have e1 := wi64_s k _ hlt (by simp only [maxLen]; omega)
    have hsu := ndf_succ hy
    rw [← hB] at hsu
    simp only [lt_t hlt, nneg, Int.toNat_natCast, aiaddr, hgy, eES, eEX, seval]
    cases hc : (y.kind != 1)
    · rw [hc, if_neg (by simp), List.append_nil] at hsu
      simp only [hc, e1, Bool.true_and, Bool.false_and, Bool.and_true, Bool.and_false, Bool.true_or, Bool.false_or, Bool.or_true, Bool.or_false, Bool.not_true, Bool.not_false, cond_true, cond_false, Bool.true_beq, Bool.false_beq, eES, eEX, seval]
      exact Ix.go (k + 1, B) (by dsimp only; omega) ⟨by dsimp only; omega, by dsimp only; omega, hsu.symm⟩
    · rw [hc, if_pos rfl] at hsu
      simp only [hc, e1, Bool.true_and, Bool.false_and, Bool.and_true, Bool.and_false, Bool.true_or, Bool.false_or, Bool.or_true, Bool.or_false, Bool.not_true, Bool.not_false, cond_true, cond_false, Bool.true_beq, Bool.false_beq, eES, eEX, seval]
      refine aops_bsl1 (by first | rfl | simp only [eES, eEX, seval]) ?_
      refine aops_app (xs := B.map iu) (by first | rfl | simp only [eES, eEX, seval]) (by first | rfl | simp only [eES, eEX, seval]) rfl (by simp) (by first | rfl | simp only [eES, eEX, seval]) rfl (by simp only [List.length_cons, List.length_nil, maxLen]; omega) (by simp only [List.length_cons, List.length_nil]; omega) ?_
      simp only [e1, eES, eEX, seval]
      exact Ix.go (k + 1, B ++ [y.num]) (by dsimp only; omega) ⟨by dsimp only; omega, by simp only [List.length_append, List.length_cons, List.length_nil]; omega, hsu.symm⟩ (hf := by simp only [Ag, List.map_cons, List.map_nil, List.length_append, List.length_cons, List.length_nil]; rfl) (ho := by simp only [Ag, iu, List.map_append, List.map_cons, List.map_nil, List.length_append, List.length_cons, List.length_nil]; rfl)
theorem x6 : Fn1 Tryz.prog 6 [.list (l.map Ad.av)] (.list ((nds l).map iu)) := by
  refine wF Tryz.func6 ?_; simp only [eK, Tryz.f6, seval]
  simp only [eES, eEX, seval]
  refine awp_vec rfl rfl ?_
  cases l with
  | nil => simp only [nds, List.map_nil, List.length_nil, List.take_nil, Nat.le_refl, and_self, if_true, Nat.zero_add, Option.bind_some, AV.un, AV.unL, eES, eEX, seval]
  | cons x l =>
    have hx := hl x rfl
    have h0 : (((l.length + 1 : Nat) : Int) == 0) = false := by rw [beq_eq_false_iff_ne]; omega
    have hg : ((x :: l).map Ad.av)[0]? = some (.agg [.int .i64 x.w, .int .i64 x.r, .list (x.acts.map Ac.av), .list (x.lacks.map iu)]) := rfl
    have hn : nds (x :: l) = ndf x.acts := rfl
    rw [hn]
    simp only [List.length_map, List.length_cons, h0, eES, eEX, seval]
    refine awp_for (X := Nat × List Int) (fun s => [(0, .list ((x :: l).map Ad.av)), (3, .vec 0 3 (1 + s.2.length) 0 s.2.length false), (4, .int .i64 (s.1 : Nat))]) (fun s => [(3, .vec (1 + s.2.length) 1 (s.2.map iu))]) [] (fun s => x.acts.length - s.1) (fun s => s.1 ≤ x.acts.length ∧ s.2.length ≤ s.1 ∧ s.2 = ndf (x.acts.take s.1)) (fun _ => []) (0, []) ⟨Nat.zero_le _, Nat.zero_le _, rfl⟩ ?_
    rintro ⟨k, B⟩ f fr ⟨hk, hBl, hB⟩
    dsimp only at hk hBl hB
    generalize (x :: l).map Ad.av = LL at hg
    simp only [nneg, aiaddr, Int.toNat_zero, Int.le_refl, hg, List.length_map, if_true, updL, List.map_cons, List.map_nil, List.cons_append, List.nil_append, eES, eEX, seval]
    rcases at_or x.acts k with ⟨y, hy, hlt⟩ | hlt
    case inr =>
      rw [List.take_of_length_le (by omega)] at hB
      have ex : (B.map iu).take B.length = B.map iu := List.take_of_length_le (by simp)
      simp only [lt_f hlt, ← hB, List.length_map, ex, List.drop_zero, Nat.zero_add, Nat.le_refl, and_self, if_true, Option.bind_some, AV.un, AV.unL, eES, eEX, seval]
    have hgy := get_ac hy
    have e1 := wi64_s k _ hlt (by simp only [maxLen]; omega)
    have hsu := ndf_succ hy
    rw [← hB] at hsu
    simp only [lt_t hlt, nneg, Int.toNat_natCast, Int.toNat_zero, Int.le_refl, aiaddr, hg, hgy, if_true, eES, eEX, seval]
    cases hc : (y.kind != 1)
    · rw [hc, if_neg (by simp), List.append_nil] at hsu
      simp only [hc, e1, Bool.true_and, Bool.false_and, Bool.and_true, Bool.and_false, Bool.true_or, Bool.false_or, Bool.or_true, Bool.or_false, Bool.not_true, Bool.not_false, cond_true, cond_false, Bool.true_beq, Bool.false_beq, eES, eEX, seval]
      exact Ix.go (k + 1, B) (by dsimp only; omega) ⟨by dsimp only; omega, by dsimp only; omega, hsu.symm⟩
    · rw [hc, if_pos rfl] at hsu
      simp only [hc, nneg, Int.toNat_natCast, Int.toNat_zero, Int.le_refl, aiaddr, hg, hgy, if_true, e1, Bool.true_and, Bool.false_and, Bool.and_true, Bool.and_false, Bool.true_or, Bool.false_or, Bool.or_true, Bool.or_false, Bool.not_true, Bool.not_false, cond_true, cond_false, Bool.true_beq, Bool.false_beq, eES, eEX, seval]
      refine aops_bsl1 (by first | rfl | simp only [eES, eEX, seval]) ?_
      refine aops_app (xs := B.map iu) (by first | rfl | simp only [eES, eEX, seval]) (by first | rfl | simp only [eES, eEX, seval]) rfl (by simp) (by first | rfl | simp only [eES, eEX, seval]) rfl (by simp only [List.length_cons, List.length_nil, maxLen]; omega) (by simp only [List.length_cons, List.length_nil]; omega) ?_
      simp only [e1, eES, eEX, seval]
      exact Ix.go (k + 1, B ++ [y.num]) (by dsimp only; omega) ⟨by dsimp only; omega, by simp only [List.length_append, List.length_cons, List.length_nil]; omega, hsu.symm⟩ (hf := by simp only [Ag, List.map_cons, List.map_nil, List.length_append, List.length_cons, List.length_nil]; rfl) (ho := by simp only [Ag, iu, List.map_append, List.map_cons, List.map_nil, List.length_append, List.length_cons, List.length_nil]; rfl)
theorem nds_le : (nds l).length ≤ maxLen := by
  cases l with
  | nil => exact Nat.zero_le _
  | cons x l =>
    have := hl x rfl
    have h : (nds (x :: l)).length ≤ x.acts.length := by
      show ((x.acts.filter _).map _).length ≤ _
      rw [List.length_map]
      exact List.length_filter_le _ _
    simp only [maxLen]
    omega
end
theorem x4 (l : List Int) (hl : l.length ≤ maxLen) : Fn1 Tryz.prog 4 [.list (l.map iu), .list (l.map iu)] (.bool true) := by
  have h0 : (((l.length : Nat) : Int) != (l.length : Nat)) = false := by simp
  refine wF Tryz.func4 ?_; simp only [eK, Tryz.f4, seval]
  simp only [List.length_map, h0, eES, eEX, seval]
  refine awp_for (X := Nat) (fun k => [(0, .list (l.map iu)), (1, .list (l.map iu)), (5, .int .i64 (k : Nat))]) (fun _ => []) [] (fun k => l.length - k) (fun k => k ≤ l.length) (fun _ => []) 0 (Nat.zero_le _) ?_
  rintro k f fr hk
  simp only [List.length_map, updL, List.map_cons, List.map_nil, List.cons_append, List.nil_append, eES, eEX, seval]
  rcases at_or l k with ⟨y, hy, hlt⟩ | hlt
  case inr => simp only [lt_f hlt, eES, eEX, seval]
  have hg : (l.map iu)[k]? = some (.int .i64 y) := by rw [List.getElem?_map, hy]; rfl
  have e1 := wi64_s k _ hlt hl
  have hb : (y != y) = false := by simp
  simp only [lt_t hlt, nneg, Int.toNat_natCast, aiaddr, hg, hb, e1, eES, eEX, seval]
  exact Ix.go (k + 1) (by omega) (by omega)

def us8 (P R : PL) : Bool := decide ((P.progs.length : Int) ≤ 8) && decide ((P.enums.length : Int) ≤ 8) && decide ((R.progs.length : Int) ≤ 8) && decide ((R.enums.length : Int) ≤ 8) && ck P == 0 && ck R == 0
theorem x7 {M : Nat} (hM : M ≤ 140737488351232) (P R : PL) (oP : P.ok M) (oR : R.ok M) : Fn1 Tryz.prog 7 [P.av, R.av] (.bool (us8 P R)) := by
  have cP := z12 P oP hM
  have cR := z12 R oR hM
  simp only [pav2'] at cP cR
  unfold us8
  refine wF Tryz.func7 ?_; simp only [eK, Tryz.f7, seval]
  simp only [pav2', List.length_map, eES, eEX, seval]
  cases b1 : decide ((P.progs.length : Int) ≤ 8)
  · simp only [b1, Bool.true_and, Bool.false_and, Bool.and_true, Bool.and_false, Bool.true_or, Bool.false_or, Bool.or_true, Bool.or_false, Bool.not_true, Bool.not_false, cond_true, cond_false, Bool.true_beq, Bool.false_beq, eES, eEX, seval]
  cases b2 : decide ((P.enums.length : Int) ≤ 8)
  · simp only [b1, b2, List.length_map, Bool.true_and, Bool.false_and, Bool.and_true, Bool.and_false, Bool.true_or, Bool.false_or, Bool.or_true, Bool.or_false, Bool.not_true, Bool.not_false, cond_true, cond_false, Bool.true_beq, Bool.false_beq, eES, eEX, seval]
  cases b3 : decide ((R.progs.length : Int) ≤ 8)
  · simp only [b1, b2, b3, List.length_map, Bool.true_and, Bool.false_and, Bool.and_true, Bool.and_false, Bool.true_or, Bool.false_or, Bool.or_true, Bool.or_false, Bool.not_true, Bool.not_false, cond_true, cond_false, Bool.true_beq, Bool.false_beq, eES, eEX, seval]
  cases b4 : decide ((R.enums.length : Int) ≤ 8)
  · simp only [b1, b2, b3, b4, List.length_map, Bool.true_and, Bool.false_and, Bool.and_true, Bool.and_false, Bool.true_or, Bool.false_or, Bool.or_true, Bool.or_false, Bool.not_true, Bool.not_false, cond_true, cond_false, Bool.true_beq, Bool.false_beq, eES, eEX, seval]
  simp only [b1, b2, b3, b4, List.length_map, Bool.true_and, Bool.false_and, Bool.and_true, Bool.and_false, Bool.true_or, Bool.false_or, Bool.or_true, Bool.or_false, Bool.not_true, Bool.not_false, cond_true, cond_false, Bool.true_beq, Bool.false_beq, eES, eEX, seval]
  refine aops_call cP rfl rfl rfl (.inl rfl) ?_
  cases b5 : (ck P == 0)
  · simp only [b5, Bool.true_and, Bool.false_and, Bool.and_true, Bool.and_false, Bool.true_or, Bool.false_or, Bool.or_true, Bool.or_false, Bool.not_true, Bool.not_false, cond_true, cond_false, Bool.true_beq, Bool.false_beq, eES, eEX, seval]
  simp only [b5, Bool.true_and, Bool.false_and, Bool.and_true, Bool.and_false, Bool.true_or, Bool.false_or, Bool.or_true, Bool.or_false, Bool.not_true, Bool.not_false, cond_true, cond_false, Bool.true_beq, Bool.false_beq, eES, eEX, seval]
  refine aops_call cR rfl rfl rfl (.inl rfl) ?_
  simp only [Bool.true_and, Bool.false_and, Bool.and_true, Bool.and_false, Bool.true_or, Bool.false_or, Bool.or_true, Bool.or_false, Bool.not_true, Bool.not_false, cond_true, cond_false, Bool.true_beq, Bool.false_beq, eES, eEX, seval]

set_option maxHeartbeats 2000000 in
theorem c3 {M : Nat} (hM : M = reachBytes) (P : PL) (oP : P.ok M) (R : PL) (oR : R.ok M) (s : List UInt8) (l : List Ad) (hl : ∀ x ∈ l, x.acts.length ≤ 5864062014805) : Fn1 Tryz.prog 3 [P.av, R.av, .str s, .list (l.map Ad.av)] (.bool true) := by
  have hM' : M ≤ 140737488351232 := by rw [hM]; exact Nat.le_refl _
  have hl : ∀ x, l[0]? = some x → x.acts.length ≤ 5864062014805 := fun x hx => hl x (List.mem_of_getElem? hx)
  have n1 := x5 l hl
  have n2 := x6 l hl
  have n3 := x4 (nds l) (nds_le l hl)
  have cu := x7 hM' P R oP oR
  have aw := Ew.awake_ok
  simp only [pav2'] at cu
  refine k3.fn (by simp) ?_
  simp only [pav2', eES, eEX, seval]
  refine aops_call n1 rfl rfl rfl (.inl rfl) ?_
  simp only [eES, eEX, seval]
  refine aops_call n2 rfl rfl rfl (.inl rfl) ?_
  refine aops_call n3 rfl rfl rfl (.inl rfl) ?_
  simp only [Bool.true_and, Bool.false_and, Bool.and_true, Bool.and_false, Bool.true_or, Bool.false_or, Bool.or_true, Bool.or_false, Bool.not_true, Bool.not_false, cond_true, cond_false, Bool.true_beq, Bool.false_beq, eES, eEX, seval]
  refine aops_call cu rfl rfl rfl (.inl rfl) ?_
  cases hu : us8 P R
  · simp only [Bool.true_and, Bool.false_and, Bool.and_true, Bool.and_false, Bool.true_or, Bool.false_or, Bool.or_true, Bool.or_false, Bool.not_true, Bool.not_false, cond_true, cond_false, Bool.true_beq, Bool.false_beq, eES, eEX, seval]
  unfold us8 at hu
  simp only [Bool.and_eq_true, decide_eq_true_eq, beq_iff_eq] at hu
  obtain ⟨⟨⟨⟨⟨l1, l2⟩, l3⟩, l4⟩, cP⟩, cR⟩ := hu
  have hP := own_of cP
  have hR := own_of cR
  have cm := x8 hP hR (by omega) (by omega) hM' oP oR cP cR s
  have fP := y10 P (by simp only [maxLen]; omega) s
  have fR := y10 R (by simp only [maxLen]; omega) s
  rw [pfr_pxj] at fP fR
  simp only [pav2'] at cm fP fR
  simp only [Bool.true_and, Bool.false_and, Bool.and_true, Bool.and_false, Bool.true_or, Bool.false_or, Bool.or_true, Bool.or_false, Bool.not_true, Bool.not_false, cond_true, cond_false, Bool.true_beq, Bool.false_beq, eES, eEX, seval]
  refine aops_call cm ?_ ?_ ?_ ?_ ?_
  · rfl
  · rfl
  · split <;> simp [AV.rf, AV.rfL]
  · exact .inl rfl
  by_cases hx : pxj P s < 0 ∨ pxj R s < 0
  · rw [if_pos hx]
    simp only [Bool.true_and, Bool.false_and, Bool.and_true, Bool.and_false, Bool.true_or, Bool.false_or, Bool.or_true, Bool.or_false, Bool.not_true, Bool.not_false, cond_true, cond_false, Bool.true_beq, Bool.false_beq, eES, eEX, seval]
    refine aops_call aw rfl rfl rfl (.inl rfl) ?_
    simp only [Bool.true_and, Bool.false_and, Bool.and_true, Bool.and_false, Bool.true_or, Bool.false_or, Bool.or_true, Bool.or_false, Bool.not_true, Bool.not_false, cond_true, cond_false, Bool.true_beq, Bool.false_beq, eES, eEX, seval]
  rw [if_neg hx]
  obtain ⟨a, ea, ha⟩ := pxj_lt (P := P) (s := s) (by omega)
  obtain ⟨b, eb, hb⟩ := pxj_lt (P := R) (s := s) (by omega)
  obtain ⟨g, hg⟩ : ∃ g, P.progs[a]? = some g := ⟨P.progs[a], List.getElem?_eq_getElem ha⟩
  obtain ⟨h, hh⟩ : ∃ h, R.progs[b]? = some h := ⟨R.progs[b], List.getElem?_eq_getElem hb⟩
  have hgp : (P.progs.map gav)[a]? = some (gav g) := by rw [List.getElem?_map, hg]; rfl
  have hhp : (R.progs.map gav)[b]? = some (gav h) := by rw [List.getElem?_map, hh]; rfl
  rw [gav3] at hgp hhp
  have hgl := hP.ops g (List.mem_of_getElem? hg)
  have hhl := hR.ops h (List.mem_of_getElem? hh)
  obtain ⟨y0, hy0, hyl, hnd⟩ := itr_hd hP hR ha hb g h hg hh 63
  rw [ea, eb, Int.toNat_natCast, Int.toNat_natCast]
  have na : ¬ ((a : Int) < 0) := by omega
  have nb : ¬ ((b : Int) < 0) := by omega
  rw [ea, if_neg na] at fP
  rw [eb, if_neg nb] at fR
  simp only [Bool.true_and, Bool.false_and, Bool.and_true, Bool.and_false, Bool.true_or, Bool.false_or, Bool.or_true, Bool.or_false, Bool.not_true, Bool.not_false, cond_true, cond_false, Bool.true_beq, Bool.false_beq, eES, eEX, seval]
  refine aops_call fP rfl rfl rfl (.inl rfl) ?_
  simp only [Bool.true_and, Bool.false_and, Bool.and_true, Bool.and_false, Bool.true_or, Bool.false_or, Bool.or_true, Bool.or_false, Bool.not_true, Bool.not_false, cond_true, cond_false, Bool.true_beq, Bool.false_beq, eES, eEX, seval]
  refine aops_call fR rfl rfl rfl (.inl rfl) ?_
  simp only [Bool.true_and, Bool.false_and, Bool.and_true, Bool.and_false, Bool.true_or, Bool.false_or, Bool.or_true, Bool.or_false, Bool.not_true, Bool.not_false, cond_true, cond_false, Bool.true_beq, Bool.false_beq, eES, eEX, seval]
  refine awp_vec rfl rfl ?_
  simp only [eES, eEX, seval]
  replace hy0 : (itr P R a b 64)[0]? = some y0 := hy0
  rw [← nds_at hy0] at hnd
  generalize itr P R a b 64 = LL at *
  refine awp_for (X := Nat × List Int) (fun s => [(4, .ptr 0 4 0), (5, .ptr 0 5 0), (9, .list (LL.map Ad.av)), (11, .int .i64 (a : Nat)), (13, .int .i64 (b : Nat)), (15, .vec 0 15 (1 + s.2.length) 0 s.2.length false), (16, .int .i64 (s.1 : Nat))]) (fun s => [(4, .cells [.list (P.progs.map gav), .list (P.enums.map eav)]), (5, .cells [.list (R.progs.map gav), .list (R.enums.map eav)]), (15, .vec (1 + s.2.length) 1 (s.2.map iu))]) [17] (fun s => g.ops.length - s.1) (fun s => s.1 ≤ g.ops.length ∧ s.2.length ≤ s.1 ∧ s.2 = nums h (g.ops.take s.1)) (fun _ => []) (0, []) ⟨Nat.zero_le _, Nat.zero_le _, rfl⟩ ?_
  rintro ⟨k, B⟩ f fr ⟨hk, hBl, hB⟩
  dsimp only at hk hBl hB
  simp only [nneg, Int.toNat_natCast, aiaddr, hgp, List.length_map, if_true, updL, List.map_cons, List.map_nil, List.cons_append, List.nil_append, eES, eEX, seval]
  rcases at_or g.ops k with ⟨o, ho, hlt⟩ | hlt
  case inr =>
    rw [List.take_of_length_le (by omega)] at hB
    have ex : (B.map iu).take B.length = B.map iu := List.take_of_length_le (by simp)
    have hBn : nds LL = B := by rw [hnd, hB]
    have m3 := x4 B (by simp only [maxLen]; omega)
    have hbd : ∀ x, LL[0]? = some x → x.acts.length ≤ 5864062014805 := fun x hx => by
      rw [hy0] at hx
      cases hx
      omega
    have m1 := x5 LL hbd
    rw [hBn] at m1
    simp only [lt_f hlt, eES, eEX, seval]
    refine aops_call m1 rfl rfl rfl (.inl rfl) ?_
    simp only [eES, eEX, seval]
    refine aops_call m3 ?_ rfl rfl (.inr rfl) ?_
    · simp only [List.map_cons, List.map_nil, AV.stillL, AV.still, Am.look, List.length_map, ex, List.drop_zero, Nat.zero_add, Nat.le_refl, and_self, if_true, Bool.false_and, Bool.false_eq_true, if_false, eES, eEX, seval] <;> rfl
    simp only [Bool.true_and, Bool.false_and, Bool.and_true, Bool.and_false, Bool.true_or, Bool.false_or, Bool.or_true, Bool.or_false, Bool.not_true, Bool.not_false, cond_true, cond_false, Bool.true_beq, Bool.false_beq, eES, eEX, seval]
    refine aops_call aw rfl rfl rfl (.inl rfl) ?_
    simp only [Bool.true_and, Bool.false_and, Bool.and_true, Bool.and_false, Bool.true_or, Bool.false_or, Bool.or_true, Bool.or_false, Bool.not_true, Bool.not_false, cond_true, cond_false, Bool.true_beq, Bool.false_beq, eES, eEX, seval]
  have hgo := get_oav' ho
  have e1 := wi64_s k _ hlt (by simp only [maxLen]; omega)
  have hO := y11 h (by simp only [maxLen]; omega) o.num
  have hsu := nums_succ (h := h) ho
  rw [← hB] at hsu
  simp only [opr, gav3, oav8] at hO
  simp only [lt_t hlt, nneg, Int.toNat_natCast, aiaddr, hgp, hhp, hgo, eES, eEX, seval]
  refine aops_call hO rfl rfl rfl (.inl rfl) ?_
  cases hf : (h.ops.find? fun x => x.num == o.num).isSome
  · rw [if_neg (by rw [hf]; simp), List.append_nil] at hsu
    simp only [hf, e1, Bool.true_and, Bool.false_and, Bool.and_true, Bool.and_false, Bool.true_or, Bool.false_or, Bool.or_true, Bool.or_false, Bool.not_true, Bool.not_false, cond_true, cond_false, Bool.true_beq, Bool.false_beq, eES, eEX, seval]
    exact Ix.go (k + 1, B) (by dsimp only; omega) ⟨by dsimp only; omega, by dsimp only; omega, hsu.symm⟩
  · rw [if_pos hf] at hsu
    simp only [hf, nneg, Int.toNat_natCast, aiaddr, hgp, hhp, hgo, e1, Bool.true_and, Bool.false_and, Bool.and_true, Bool.and_false, Bool.true_or, Bool.false_or, Bool.or_true, Bool.or_false, Bool.not_true, Bool.not_false, cond_true, cond_false, Bool.true_beq, Bool.false_beq, eES, eEX, seval]
    refine aops_bsl1 (by first | rfl | simp only [eES, eEX, seval]) ?_
    refine aops_app (xs := B.map iu) (by first | rfl | simp only [eES, eEX, seval]) (by first | rfl | simp only [eES, eEX, seval]) rfl (by simp) (by first | rfl | simp only [eES, eEX, seval]) rfl (by simp only [List.length_cons, List.length_nil, maxLen]; omega) (by simp only [List.length_cons, List.length_nil]; omega) ?_
    simp only [e1, eES, eEX, seval]
    exact Ix.go (k + 1, B ++ [o.num]) (by dsimp only; omega) ⟨by dsimp only; omega, by simp only [List.length_append, List.length_cons, List.length_nil]; omega, hsu.symm⟩ (hf := by simp only [Ag, List.map_cons, List.map_nil, List.length_append, List.length_cons, List.length_nil]; rfl) (ho := by simp only [Ag, iu, List.map_append, List.map_cons, List.map_nil, List.length_append, List.length_cons, List.length_nil]; rfl)

end Go.Proofs.YtdgbidbkcigkhaaGreatDoor.Va

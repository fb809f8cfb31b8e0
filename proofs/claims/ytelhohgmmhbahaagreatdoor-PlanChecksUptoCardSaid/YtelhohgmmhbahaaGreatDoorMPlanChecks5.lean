/- Parts of the proof, in order. -/
import Derived.Test.YtelhohgmmhbahaaGreatDoorMPlanChecks4

set_option linter.unusedSimpArgs false
namespace Go.Proofs.YtelhohgmmhbahaaGreatDoor.Va
open Go Am Rc Bt Br

theorem z166 : Fn1 Tryz.prog 166 [.str alias] (.int .i64 7) := by
  refine fn1_of_awp (rc := r166) (rs := o166) Tryz.func166 rfl rfl Tryz.ntmps166 k166 q166 (by simp) ?_
  have b1 : (alias == ([100, 101, 112, 114, 101, 99, 97, 116, 101, 100] : List UInt8)) = false := by decide
  have b2 : (alias == ([115, 101, 99, 114, 101, 116] : List UInt8)) = false := by decide
  have b3 : (alias == ([105, 100, 101, 109, 112, 111, 116, 101, 110, 116] : List UInt8)) = false := by decide
  have b4 : (alias == ([100, 111, 99] : List UInt8)) = false := by decide
  have b5 : (alias == ([97, 108, 105, 97, 115] : List UInt8)) = true := by decide
  simp only [g166_0, g166_1, g166_2, g166_3, g166_4, g166_5, g166_6, g166_7, g166_8, g166_9, g166_10, g166_11, g166_12, g166_13, g166_14, g166_15, g166_16, g166_17, g166_18, g166_19, r166, o166, astr, b1, b2, b3, b4, b5, eES, Nat.reduceBEq]

theorem z167 : Fn1 Tryz.prog 167 [.str alias, .int .i64 4] (.bool true) := by
  refine fn1_of_awp (rc := r167) (rs := o167) Tryz.func167 rfl rfl Tryz.ntmps167 k167 q167 (by simp) ?_
  have b1 : (alias == ([100, 101, 112, 114, 101, 99, 97, 116, 101, 100] : List UInt8)) = false := by decide
  have b4 : (alias == ([100, 111, 99] : List UInt8)) = false := by decide
  have b5 : (alias == ([97, 108, 105, 97, 115] : List UInt8)) = true := by decide
  have c2 : ((4 : Int) == 2) = false := rfl
  have c4 : ((4 : Int) == 4) = true := rfl
  simp only [g167_0, g167_1, g167_2, g167_3, g167_4, g167_5, g167_6, g167_7, g167_8, g167_9, g167_10, g167_11, g167_12, g167_13, g167_14, g167_15, g167_16, g167_17, g167_18, r167, o167, astr, b1, b4, b5, c2, c4, eES, Nat.reduceBEq, ↓reduceIte]

section
variable (kd : Int) (b : Nat) (t : List UInt8) (l p s r : List AV) (ht : t.length + 8 ≤ maxLen)
include ht

theorem z220 : Fn1 Tryz.prog 220 [.int .i64 7, vo kd b t l p s r] (.bool (fitv 7 kd b t l p s r)) := by
  have hl := y190 kd b t l p s r
  simp only [vo] at hl
  have n1 : (kd != 7) = !(kd == 7) := rfl
  have k7 : isk 7 = true := rfl
  have t7 : txk 7 = true := rfl
  have f7 : fitn 7 b = true := rfl
  have c8 : ((7 : Int) == 8) = false := rfl
  have c7 : ((7 : Int) != 7) = false := rfl
  refine fn1_of_awp (rc := r220) (rs := o220) Tryz.func220 rfl rfl Tryz.ntmps220 k220 q220 (by simp) ?_
  simp only [g220_0, g220_1, g220_2, g220_3, g220_4, g220_5, g220_6, g220_7, g220_8, g220_9, g220_10, g220_11, g220_12, g220_13, g220_14, g220_15, g220_16, g220_17, r220, o220, vo, fitv, k7, f7, c7, Bool.true_and, Bool.and_true, Bool.false_or, eES, eEX, Nat.reduceBEq]
  refine aops_call (x189 7) rfl rfl rfl (.inl rfl) ?_
  simp only [k7, n1, Bool.not_true, eES, eEX, Nat.reduceBEq, ↓reduceIte, Nat.reduceAdd]
  by_cases hk : kd = 7
  · subst hk
    have a1 : ((7 : Int) == 7) = true := rfl
    simp only [a1, Bool.not_true, Bool.true_and, t7, eES, eEX, Nat.reduceBEq, ↓reduceIte, Nat.reduceAdd, Nat.reduceLeDiff]
    refine aops_call hl rfl rfl rfl (.inl rfl) ?_
    cases lon l p s r
    · simp only [Bool.not_false, Bool.false_and, eES, Nat.reduceBEq]
    simp only [Bool.not_true, Bool.true_and, eES, Nat.reduceBEq]
    refine aops_call (x238 7) rfl rfl rfl (.inl rfl) ?_
    simp only [t7, eES, eEX, Nat.reduceBEq, ↓reduceIte, Nat.reduceAdd]
    cases a2 : ((b : Int) == 0)
    · simp only [Bool.false_and, eES, Nat.reduceBEq]
    cases a3 : decide ((t.length : Int) ≤ 4096)
    · simp only [a3, Bool.false_and, Bool.and_false, eES, eEX, Nat.reduceBEq, ↓reduceIte, Nat.reduceAdd]
    simp only [a3, c8, Bool.true_and, eES, eEX, Nat.reduceBEq, ↓reduceIte, Nat.reduceAdd]
    refine aops_call (c169 t ht) rfl rfl rfl (.inl rfl) ?_
    simp only [eES, Nat.reduceBEq]
  · have a1 : (kd == 7) = false := by simp [hk]
    simp only [a1, Bool.not_false, Bool.false_and, eES, Nat.reduceBEq]

theorem z168 : Fn1 Tryz.prog 168 [nv kd b t l p s r] (.bool (fitv 7 kd b t l p s r)) := by
  have hf := z220 kd b t l p s r ht
  have b0 : ((7 : Int) != 0) = true := rfl
  simp only [vo] at hf
  refine fn1_of_awp (rc := r168) (rs := o168) Tryz.func168 rfl rfl Tryz.ntmps168 k168 q168 (by simp) ?_
  simp only [g168_0, g168_1, g168_2, r168, o168, nv, eES, eEX, Nat.reduceBEq, Nat.reduceAdd]
  refine aops_call z166 rfl rfl rfl (.inl rfl) ?_
  simp only [b0, eES, eEX, Nat.reduceBEq, ↓reduceIte, Nat.reduceAdd]
  cases a1 : (kd == 7)
  · have e : fitv 7 kd b t l p s r = false := by unfold fitv; rw [a1]; rfl
    simp only [e, eES, Nat.reduceBEq]
  · simp only [eES, eEX, Nat.reduceBEq, ↓reduceIte, Nat.reduceAdd, Nat.reduceLeDiff]
    refine aops_call hf rfl rfl rfl (.inl rfl) ?_
    simp only [eES, Nat.reduceBEq]

def RcI (k : Nat) (st : St) : Prop :=
  ∃ f i, st = ⟨f, [noObs], []⟩ ∧ k = 1 - i ∧ i ≤ 1 ∧ (i = 1 → fitv 7 kd b t l p s r = true) ∧ f 0 = .list [nv kd b t l p s r] ∧ f 1 = .int .i64 4 ∧ f 5 = .int .i64 (i : Nat)

theorem z111 : Fn1 Tryz.prog 111 [.list [nv kd b t l p s r], .int .i64 4] (.int .i64 (if fitv 7 kd b t l p s r = true then 0 else 12)) := by
  have b0 : decide (((1 : Nat) : Int) > 8) = false := rfl
  have hr := z168 kd b t l p s r ht
  simp only [nv] at hr
  refine fn1_of_awp (rc := r111) (rs := o111) Tryz.func111 rfl rfl Tryz.ntmps111 k111 q111 (by simp) ?_
  simp only [g111_0, g111_1, g111_2, g111_3, g111_16, r111, o111, List.length_cons, List.length_nil, Nat.zero_add, b0, eES, Nat.reduceBEq, ↓reduceIte]
  refine awp_loop (RcI kd b t l p s r) 1 ⟨_, 0, rfl, rfl, Nat.zero_le _, (fun h => by cases h), (by first | rfl | simp only [eES, eEX, Nat.reduceBEq, ↓reduceIte, reduceCtorEq, Nat.reduceEqDiff]), (by first | rfl | simp only [eES, eEX, Nat.reduceBEq, ↓reduceIte, reduceCtorEq, Nat.reduceEqDiff]), (by first | rfl | simp only [eES, eEX, Nat.reduceBEq, ↓reduceIte, reduceCtorEq, Nat.reduceEqDiff])⟩ ?_
  rintro _ st ⟨f, i, rfl, rfl, hi, hf, h0, h1, h5⟩
  simp only [nv] at h0
  simp only [l111_0, g111_4, g111_6, g111_7, g111_8, g111_9, g111_10, g111_11, g111_12, g111_13, g111_14, g111_15, g111_5, h0, h5, List.length_cons, List.length_nil, Nat.zero_add, eES, Nat.reduceBEq, ↓reduceIte]
  rcases Nat.le_one_iff_eq_zero_or_eq_one.1 hi with rfl | rfl
  · have c0 : decide (((0 : Nat) : Int) < ((1 : Nat) : Int)) = true := rfl
    have c1 : decide (((0 : Nat) : Int) > 0) = false := rfl
    have d7 : ((7 : Int) == 0) = false := rfl
    have e1 : IntKind.i64.wrap (((0 : Nat) : Int) + 1) = ((1 : Nat) : Int) := rfl
    have z0 : (0 ≤ ((0 : Nat) : Int)) = True := by simp
    have z1 : Int.toNat ((0 : Nat) : Int) = 0 := rfl
    simp only [c0, z0, z1, aiaddr, List.getElem?_cons_zero, h0, h5, eES, eEX, Nat.reduceBEq, ↓reduceIte, Nat.reduceAdd, Nat.reduceSub]
    refine aops_call z166 rfl rfl rfl (.inl rfl) ?_
    simp only [d7, z0, z1, aiaddr, List.getElem?_cons_zero, h0, h1, h5, eES, eEX, Nat.reduceBEq, ↓reduceIte, Nat.reduceAdd]
    refine aops_call z167 rfl rfl rfl (.inl rfl) ?_
    simp only [Bool.not_true, z0, z1, aiaddr, List.getElem?_cons_zero, h0, h5, eES, eEX, Nat.reduceBEq, ↓reduceIte, Nat.reduceAdd, Nat.reduceLeDiff]
    refine aops_call hr rfl rfl rfl (.inl rfl) ?_
    cases hfv : fitv 7 kd b t l p s r
    · simp only [Bool.not_false, Bool.false_eq_true, eES, Nat.reduceBEq, ↓reduceIte]
    · simp only [Bool.not_true, c1, h5, e1, eES, Nat.reduceBEq, ↓reduceIte]
      exact ⟨0, by omega, _, 1, rfl, rfl, Nat.le_refl _, fun _ => hfv, (by first | rfl | exact h0 | simp only [h0, eES, eEX, Nat.reduceBEq, ↓reduceIte, reduceCtorEq, Nat.reduceEqDiff]), (by first | rfl | exact h1 | simp only [h1, eES, eEX, Nat.reduceBEq, ↓reduceIte, reduceCtorEq, Nat.reduceEqDiff]), (by first | rfl | simp only [eES, eEX, Nat.reduceBEq, ↓reduceIte, reduceCtorEq, Nat.reduceEqDiff])⟩
  · have c0 : decide (((1 : Nat) : Int) < ((1 : Nat) : Int)) = false := rfl
    simp only [c0, hf rfl, eES, Nat.reduceBEq, ↓reduceIte, Nat.reduceSub]

end

section
variable (P : PL)

def aimR (P : PL) (o : PO) : Bool :=
  if o.kind = 10 then decide (o.target ≥ 0) && decide (o.target < (P.progs.length : Int)) && o.card != 3
  else if o.kind = 9 then decide (o.target ≥ 0) && decide (o.target < (P.enums.length : Int)) else o.target == -1

theorem z170 (o : PO) : Fn1 Tryz.prog 170 [P.av, oav o] (.bool (aimR P o)) := by
  have e0 : P.av = .agg [.list (P.progs.map gav), .list (P.enums.map eav)] := rfl
  refine fn1_of_awp (rc := r170) (rs := o170) Tryz.func170 rfl rfl Tryz.ntmps170 k170 q170 (by simp) ?_
  simp only [g170_0, g170_1, g170_2, g170_3, g170_4, g170_5, g170_6, r170, o170, e0, oav, PO.cells, aimR, eES, eEX, Nat.reduceBEq, ↓reduceIte, Nat.reduceAdd]
  by_cases h : o.kind = 10
  · have b0 : (o.kind == 10) = true := by simp [h]
    simp only [b0, if_pos h, eES, eEX, Nat.reduceBEq, ↓reduceIte, Nat.reduceAdd]
    cases a1 : decide (o.target ≥ 0) <;> cases a2 : decide (o.target < (P.progs.length : Int)) <;> simp only [a2, Bool.true_and, Bool.false_and, List.length_map, eES, eEX, Nat.reduceBEq, ↓reduceIte, Nat.reduceAdd]
  · have b0 : (o.kind == 10) = false := by simp [h]
    by_cases h9 : o.kind = 9
    · have b1 : (o.kind == 9) = true := by simp [h9]
      simp only [b0, b1, if_neg h, if_pos h9, eES, eEX, Nat.reduceBEq, ↓reduceIte, Nat.reduceAdd]
      cases a1 : decide (o.target ≥ 0) <;> simp only [Bool.true_and, Bool.false_and, List.length_map, eES, eEX, Nat.reduceBEq, ↓reduceIte, Nat.reduceAdd]
    · have b1 : (o.kind == 9) = false := by simp [h9]
      simp only [b0, b1, if_neg h, if_neg h9, eES, eEX, Nat.reduceBEq, ↓reduceIte, Nat.reduceAdd]

theorem opr_eq (o : PO) : (arg1 P o && uok o) = (vld o.alias && (decide ((o.alias.length : Int) ≤ 4096) && (decide (o.card ≥ 1) && (decide (o.card ≤ 5) && (decide (o.kind ≥ 1) && (decide (o.kind ≤ 10) && (key o && aimR P o && uok o))))))) := by
  have h : aim P o = (decide (o.kind ≥ 1) && decide (o.kind ≤ 10) && aimR P o) := by
    unfold aim aimR
    by_cases h : o.kind = 10
    · rw [if_pos h, if_pos h, h]; rfl
    · rw [if_neg h, if_neg h]
      by_cases h9 : o.kind = 9
      · rw [if_pos h9, if_pos h9, h9]; rfl
      · rw [if_neg h9, if_neg h9]
        congr 1
        unfold isk
        rw [Bool.eq_iff_iff, Bool.and_eq_true, Bool.and_eq_true]
        simp only [decide_eq_true_eq]
        omega
  unfold arg1
  rw [h]
  cases vld o.alias <;> cases decide ((o.alias.length : Int) ≤ 4096) <;> cases decide (o.card ≥ 1) <;> cases decide (o.card ≤ 5) <;> cases decide (o.kind ≥ 1) <;> cases decide (o.kind ≤ 10) <;> cases key o <;> cases aimR P o <;> cases uok o <;> rfl

theorem z113 (o : PO) (ha : o.alias.length + 8 ≤ maxLen) : Fn1 Tryz.prog 113 [P.av, oav o] (.bool (arg1 P o && uok o)) := by
  have e0 : P.av = .agg [.list (P.progs.map gav), .list (P.enums.map eav)] := rfl
  have n1 : decide ((o.alias.length : Int) > 4096) = !decide ((o.alias.length : Int) ≤ 4096) := (by rw [Bool.eq_iff_iff]; simp only [decide_eq_true_eq, Bool.not_eq_true', decide_eq_false_iff_not]; omega)
  have n2 : decide (o.card < 1) = !decide (o.card ≥ 1) := (by rw [Bool.eq_iff_iff]; simp only [decide_eq_true_eq, Bool.not_eq_true', decide_eq_false_iff_not]; omega)
  have n3 : decide (o.card > 5) = !decide (o.card ≤ 5) := (by rw [Bool.eq_iff_iff]; simp only [decide_eq_true_eq, Bool.not_eq_true', decide_eq_false_iff_not]; omega)
  have n4 : decide (o.kind < 1) = !decide (o.kind ≥ 1) := (by rw [Bool.eq_iff_iff]; simp only [decide_eq_true_eq, Bool.not_eq_true', decide_eq_false_iff_not]; omega)
  have n5 : decide (o.kind > 10) = !decide (o.kind ≤ 10) := (by rw [Bool.eq_iff_iff]; simp only [decide_eq_true_eq, Bool.not_eq_true', decide_eq_false_iff_not]; omega)
  have ht : Fn1 Tryz.prog 170 [.agg [.list (P.progs.map gav), .list (P.enums.map eav)], oav o] (.bool (aimR P o)) := z170 P o
  have hk1 : o.card ≠ 5 → key o = (o.key == 0) := fun h => by unfold key; rw [if_neg h]
  have hk2 : o.card = 5 → key o = ((decide (o.key ≥ 1) && decide (o.key ≤ 5)) || o.key == 7) := fun h => by
    unfold key
    rw [if_pos h, Bool.eq_iff_iff]
    simp only [Bool.and_eq_true, Bool.or_eq_true, decide_eq_true_eq, beq_iff_eq, bne_iff_ne, ne_eq]
    omega
  have hu : uok o = (o.union == -1 || o.card == 2) := rfl
  simp only [oav, PO.cells] at ht
  rw [opr_eq]
  refine fn1_of_awp (rc := r113) (rs := o113) Tryz.func113 rfl rfl Tryz.ntmps113 k113 q113 (by simp) ?_
  simp only [g113_0, g113_1, g113_2, g113_3, g113_4, g113_5, r113, o113, e0, oav, PO.cells, eES, eEX, Nat.reduceBEq, Nat.reduceAdd]
  refine aops_call (c169 o.alias ha) rfl rfl rfl (.inl rfl) ?_
  cases vld o.alias
  · simp only [Bool.not_false, Bool.false_and, eES, Nat.reduceBEq]
  cases a1 : decide ((o.alias.length : Int) ≤ 4096)
  · simp only [Bool.not_true, Bool.not_false, Bool.true_and, n1, a1, Bool.false_and, eES, eEX, Nat.reduceBEq, ↓reduceIte, Nat.reduceAdd]
  cases a2 : decide (o.card ≥ 1)
  · simp only [Bool.not_true, Bool.not_false, Bool.true_and, n1, n2, a1, a2, Bool.false_and, eES, eEX, Nat.reduceBEq, ↓reduceIte, Nat.reduceAdd]
  cases a3 : decide (o.card ≤ 5)
  · simp only [Bool.not_true, Bool.not_false, Bool.true_and, n1, n2, n3, a1, a2, a3, Bool.false_and, eES, eEX, Nat.reduceBEq, ↓reduceIte, Nat.reduceAdd]
  cases a4 : decide (o.kind ≥ 1)
  · simp only [Bool.not_true, Bool.not_false, Bool.true_and, n1, n2, n3, n4, a1, a2, a3, a4, Bool.false_and, eES, eEX, Nat.reduceBEq, ↓reduceIte, Nat.reduceAdd]
  cases a5 : decide (o.kind ≤ 10)
  · simp only [Bool.not_true, Bool.not_false, Bool.true_and, n1, n2, n3, n4, n5, a1, a2, a3, a4, a5, Bool.false_and, eES, eEX, Nat.reduceBEq, ↓reduceIte, Nat.reduceAdd]
  have fin : ∀ (f : Fr) (fr : Nat → Ob) (kb : Bool), kb = key o → f 2 = .ptr 0 2 0 → fr 2 = .cells [.list (P.progs.map gav), .list (P.enums.map eav)] → f 3 = .ptr 0 3 0 → fr 3 = .cells [.int .i64 o.num, .str o.name, .str o.alias, .int .i64 o.card, .int .i64 o.key, .int .i64 o.kind, .int .i64 o.target, .int .i64 o.union] → f 5 = .bool kb →
      aops Tryz.prog g113_6 ⟨f, [fr], []⟩ (Kc Tryz.prog .ret (AEnds [.tmp 4] 0 fun x _ => x = .bool (key o && aimR P o && uok o)) .normal) := by
    intro f fr kb hkb h2 m2 h3 m3 h5
    subst hkb
    simp only [g113_6, h5, eES, Nat.reduceBEq]
    cases key o
    · simp only [Bool.false_and, eES, Nat.reduceBEq]
    simp only [h2, m2, h3, m3, Bool.true_and, eES, eEX, Nat.reduceBEq, ↓reduceIte, Nat.reduceAdd, Nat.reduceLeDiff]
    refine aops_call ht rfl rfl rfl (.inl rfl) ?_
    cases aimR P o
    · simp only [Bool.false_and, eES, Nat.reduceBEq]
    rw [hu]
    cases c1 : (o.union == -1) <;> simp only [h3, m3, c1, Bool.true_and, Bool.true_or, Bool.false_or, eES, eEX, Nat.reduceBEq, ↓reduceIte, Nat.reduceAdd]
  by_cases h5 : o.card = 5
  · have b5 : (o.card != 5) = false := by simp [h5]
    have hk := hk2 h5
    simp only [Bool.not_true, Bool.true_and, n1, n2, n3, n4, n5, a1, a2, a3, a4, a5, eES, eEX, Nat.reduceBEq, ↓reduceIte, Nat.reduceAdd]
    cases c1 : decide (o.key ≥ 1) <;> cases c2 : decide (o.key ≤ 5) <;> cases c3 : (o.key == 7) <;> simp only [c2, c3, b5, eES, eEX, Nat.reduceBEq, ↓reduceIte, Nat.reduceAdd]
    all_goals
      rw [c1, c2, c3] at hk
      exact fin _ _ _ hk.symm (by first | rfl | simp only [eES, eEX, Nat.reduceBEq, ↓reduceIte, reduceCtorEq, Nat.reduceEqDiff]) (by first | rfl | simp only [eES, eEX, Nat.reduceBEq, ↓reduceIte, reduceCtorEq, Nat.reduceEqDiff]) (by first | rfl | simp only [eES, eEX, Nat.reduceBEq, ↓reduceIte, reduceCtorEq, Nat.reduceEqDiff]) (by first | rfl | simp only [eES, eEX, Nat.reduceBEq, ↓reduceIte, reduceCtorEq, Nat.reduceEqDiff]) (by first | rfl | simp only [eES, eEX, Nat.reduceBEq, ↓reduceIte, reduceCtorEq, Nat.reduceEqDiff])
  · have b5 : (o.card != 5) = true := by simp [h5]
    have hk := hk1 h5
    simp only [Bool.not_true, Bool.true_and, n1, n2, n3, n4, n5, a1, a2, a3, a4, a5, eES, eEX, Nat.reduceBEq, ↓reduceIte, Nat.reduceAdd]
    cases c1 : decide (o.key ≥ 1) <;> cases c2 : decide (o.key ≤ 5) <;> cases c3 : (o.key == 7) <;> simp only [c2, c3, b5, eES, eEX, Nat.reduceBEq, ↓reduceIte, Nat.reduceAdd]
    all_goals exact fin _ _ _ hk.symm (by first | rfl | simp only [eES, eEX, Nat.reduceBEq, ↓reduceIte, reduceCtorEq, Nat.reduceEqDiff]) (by first | rfl | simp only [eES, eEX, Nat.reduceBEq, ↓reduceIte, reduceCtorEq, Nat.reduceEqDiff]) (by first | rfl | simp only [eES, eEX, Nat.reduceBEq, ↓reduceIte, reduceCtorEq, Nat.reduceEqDiff]) (by first | rfl | simp only [eES, eEX, Nat.reduceBEq, ↓reduceIte, reduceCtorEq, Nat.reduceEqDiff]) (by first | rfl | simp only [eES, eEX, Nat.reduceBEq, ↓reduceIte, reduceCtorEq, Nat.reduceEqDiff])

end

end Go.Proofs.YtelhohgmmhbahaaGreatDoor.Va

set_option linter.unusedSimpArgs false
namespace Go.Proofs.YtelhohgmmhbahaaGreatDoor.Va
open Go Am Rc Bt Br

def JoI (g : PG) (k : Nat) (st : St) : Prop :=
  ∃ f fr i n b, st = ⟨f, [fr], []⟩ ∧ k = g.ops.length - i ∧ joinU g.ops 0 (-1) = joinU (g.ops.drop i) n b ∧ 0 ≤ n ∧ n ≤ (i : Int) ∧ ((i = 0 ∧ b = -1) ∨ ∃ j o, i = j + 1 ∧ g.ops[j]? = some o ∧ b = o.union) ∧ f 1 = .ptr 0 1 0 ∧ f 3 = .int .i64 n ∧ f 4 = .int .i64 (i : Nat) ∧ fr 1 = .cells g.cells

theorem z112 (g : PG) (hl : g.ops.length ≤ 9223372036854775000) : Fn1 Tryz.prog 112 [gav g] (.bool (uniB g)) := by
  refine fn1_of_awp (rc := r112) (rs := o112) Tryz.func112 rfl rfl Tryz.ntmps112 k112 q112 (by simp) ?_
  simp only [g112_0, g112_1, g112_2, g112_10, r112, o112, gav, PG.cells, eES, eEX]
  refine awp_loop (JoI g) _ ⟨_, _, 0, 0, -1, rfl, rfl, rfl, by decide, by decide, .inl ⟨rfl, rfl⟩, (by first | rfl | simp only [eES, eEX, Nat.reduceBEq, ↓reduceIte, reduceCtorEq, Nat.reduceEqDiff]), (by first | rfl | simp only [eES, eEX, Nat.reduceBEq, ↓reduceIte, reduceCtorEq, Nat.reduceEqDiff]), (by first | rfl | simp only [eES, eEX, Nat.reduceBEq, ↓reduceIte, reduceCtorEq, Nat.reduceEqDiff]), (by first | rfl | simp only [eES, eEX, Nat.reduceBEq, ↓reduceIte, reduceCtorEq, Nat.reduceEqDiff])⟩ ?_
  rintro _ st ⟨f, fr, i, n, b, rfl, rfl, hj, hn0, hni, hb, h1, h3, h4, m1⟩
  simp only [PG.cells] at m1
  simp only [l112_0, g112_3, g112_5, g112_6, g112_7, g112_8, g112_9, g112_4, List.length_map, h1, h4, m1, eES, eEX, Nat.reduceBEq, ↓reduceIte, Nat.reduceAdd]
  by_cases hlt : i < g.ops.length
  · obtain ⟨o, hi⟩ : ∃ o, g.ops[i]? = some o := ⟨g.ops[i], List.getElem?_eq_getElem hlt⟩
    have hg : (g.ops.map fun o => AV.agg o.cells)[i]? = some (.agg o.cells) := by simp [hi]
    have e1 := wi64_s i _ hlt (by simp only [maxLen]; omega)
    have en : IntKind.i64.wrap (n + 1) = n + 1 := by rw [wi64]; omega
    rw [joinU_drop hi] at hj
    have fin : ∀ (f' : Fr) (n' : Int), (if o.union = n then n' = n + 1 else n' = n) → joinU g.ops 0 (-1) = joinU (g.ops.drop (i + 1)) n' o.union → f' 1 = .ptr 0 1 0 → f' 3 = .int .i64 n' → f' 4 = .int .i64 ((i + 1 : Nat) : Int) → ∃ k, k < g.ops.length - i ∧ JoI g k ⟨f', [fr], []⟩ := by
      intro f' n' a c d e f4
      refine ⟨g.ops.length - (i + 1), by omega, f', fr, i + 1, n', o.union, rfl, rfl, c, ?_, ?_, .inr ⟨i, o, rfl, hi, rfl⟩, d, e, f4, m1⟩ <;> split at a <;> omega
    simp only [PO.cells] at hg
    simp only [lt_t hlt, nneg, Int.toNat_natCast, aiaddr, hg, PO.cells, h1, h3, h4, m1, eES, eEX, Nat.reduceBEq, ↓reduceIte, Nat.reduceAdd]
    by_cases a1 : o.union = n
    · have b1 : (o.union == n) = true := by simp [a1]
      rw [if_pos a1, ← a1] at hj
      simp only [b1, h3, h4, en, e1, eES, Nat.reduceBEq, ↓reduceIte]
      exact fin _ (n + 1) (by rw [if_pos a1]) (by rw [hj, a1]) (by first | rfl | exact h1 | simp only [h1, eES, eEX, Nat.reduceBEq, ↓reduceIte, reduceCtorEq, Nat.reduceEqDiff]) (by first | rfl | simp only [eES, eEX, Nat.reduceBEq, ↓reduceIte, reduceCtorEq, Nat.reduceEqDiff]) (by first | rfl | simp only [eES, eEX, Nat.reduceBEq, ↓reduceIte, reduceCtorEq, Nat.reduceEqDiff])
    have b1 : (o.union == n) = false := by simp [a1]
    rw [if_neg a1] at hj
    by_cases a2 : o.union = -1
    · have b2 : (o.union != -1) = false := by simp [a2]
      rw [if_pos (.inl a2)] at hj
      simp only [b1, b2, h4, e1, eES, Nat.reduceBEq, ↓reduceIte]
      exact fin _ n (by rw [if_neg a1]) hj (by first | rfl | exact h1 | simp only [h1, eES, eEX, Nat.reduceBEq, ↓reduceIte, reduceCtorEq, Nat.reduceEqDiff]) (by first | rfl | exact h3 | simp only [h3, eES, eEX, Nat.reduceBEq, ↓reduceIte, reduceCtorEq, Nat.reduceEqDiff]) (by first | rfl | simp only [eES, eEX, Nat.reduceBEq, ↓reduceIte, reduceCtorEq, Nat.reduceEqDiff])
    have b2 : (o.union != -1) = true := by simp [a2]
    rcases hb with ⟨rfl, rfl⟩ | ⟨j, p, rfl, hjp, rfl⟩
    · have b3 : (((0 : Nat) : Int) == 0) = true := rfl
      rw [if_neg (by omega)] at hj
      have hun : uniB g = false := by unfold uniB; rw [hj]
      simp only [b1, b2, b3, h4, hun, eES, Nat.reduceBEq, ↓reduceIte]
    · have b3 : (((j + 1 : Nat) : Int) == 0) = false := by rw [beq_eq_false_iff_ne]; omega
      have hgj : (g.ops.map fun o => AV.agg o.cells)[j]? = some (.agg p.cells) := by simp [hjp]
      have e2 := wp64 j _ hlt (by simp only [maxLen]; omega)
      simp only [PO.cells] at hgj
      by_cases a4 : o.union = p.union
      · have b4 : (p.union != o.union) = false := by simp [a4]
        rw [if_pos (.inr a4)] at hj
        simp only [b1, b2, b3, b4, e2, nneg, Int.toNat_natCast, aiaddr, hgj, PO.cells, h1, h4, m1, e1, eES, eEX, Nat.reduceBEq, ↓reduceIte, Nat.reduceAdd]
        exact fin _ n (by rw [if_neg a1]) hj (by first | rfl | exact h1 | simp only [h1, eES, eEX, Nat.reduceBEq, ↓reduceIte, reduceCtorEq, Nat.reduceEqDiff]) (by first | rfl | exact h3 | simp only [h3, eES, eEX, Nat.reduceBEq, ↓reduceIte, reduceCtorEq, Nat.reduceEqDiff]) (by first | rfl | simp only [eES, eEX, Nat.reduceBEq, ↓reduceIte, reduceCtorEq, Nat.reduceEqDiff])
      · have b4 : (p.union != o.union) = true := by simp; exact fun h => a4 h.symm
        rw [if_neg (by omega)] at hj
        have hun : uniB g = false := by unfold uniB; rw [hj]
        simp only [b1, b2, b3, b4, e2, nneg, Int.toNat_natCast, aiaddr, hgj, PO.cells, h1, h4, m1, hun, eES, eEX, Nat.reduceBEq, ↓reduceIte, Nat.reduceAdd]
  · rw [List.drop_of_length_le (by omega)] at hj
    have hun : uniB g = (g.unions == n) := by unfold uniB; rw [hj]; rfl
    simp only [lt_f hlt, h1, h3, m1, hun, eES, eEX, Nat.reduceBEq, ↓reduceIte, Nat.reduceAdd]

section
variable {M : Nat} (hM : M ≤ 140737488351232) (P : PL) (hP : P.ok M) (fr : Nat → Ob) (m1 : fr 1 = .cells (Pc P)) (f : Fr) (b : Bool) (h1 : f 1 = .ptr 0 1 0) (h3 : f 3 = .bool b) (Q : Exit → St → Prop)
include hM hP m1 h1 h3

theorem argi (j : Nat) (x : PE) (hj : P.enums[j]? = some x) (ha : f 4 = .int .i64 (j : Nat)) (hc : f 5 = .int .i64 0) (hx : ∀ f, f 1 = .ptr 0 1 0 → f 3 = .bool (b && x.items.all nte) → f 4 = .int .i64 (j : Nat) → Q (.exit 2) (⟨f, [fr], []⟩ : St)) : awp Tryz.prog (.loop l35_0) ⟨f, [fr], []⟩ Q := by
  let I : Nat → St → Prop := fun k st => ∃ f i, st = ⟨f, [fr], []⟩ ∧ k = x.items.length - i ∧ i ≤ x.items.length ∧ f 1 = .ptr 0 1 0 ∧ f 3 = .bool (b && (x.items.take i).all nte) ∧ f 4 = .int .i64 (j : Nat) ∧ f 5 = .int .i64 (i : Nat)
  have hjm : (P.enums.map eav)[j]? = some (.agg x.cells) := by simp [hj, eav]
  have hxo := hP.enums x (List.mem_of_getElem? hj)
  have z0 : (0 ≤ (0 : Int)) = True := by simp
  have z1 : Int.toNat 0 = 0 := rfl
  refine awp_loop I _ ⟨f, 0, rfl, rfl, Nat.zero_le _, h1, by rw [h3]; simp, ha, hc⟩ ?_
  clear h1 h3 ha hc
  simp only [Pc] at m1
  simp only [PE.cells] at hjm
  rintro _ st ⟨f, i, rfl, rfl, hi, h1, h3, ha, hc⟩
  simp only [l35_0, g35_7, g35_9, g35_10, g35_8, nneg, Int.toNat_natCast, aiaddr, hjm, List.length_map, h1, m1, ha, hc, eES, eEX, Nat.reduceBEq, ↓reduceIte, Nat.reduceAdd]
  by_cases hlt : i < x.items.length
  · obtain ⟨o, hg⟩ : ∃ o, x.items[i]? = some o := ⟨x.items[i], List.getElem?_eq_getElem hlt⟩
    have hgm : (x.items.map fun o => AV.agg o.cells)[i]? = some (.agg o.cells) := by simp [hg]
    have e1 := wi64_s i _ hlt hxo.len1
    have ho := hxo.items o (List.mem_of_getElem? hg)
    have ht := take_all (q := nte) hg
    have fin : ∀ f' : Fr, f' 1 = .ptr 0 1 0 → f' 3 = .bool ((b && (x.items.take i).all nte) && nte o) → f' 4 = .int .i64 (j : Nat) → f' 5 = .int .i64 ((i + 1 : Nat) : Int) → ∃ k, k < x.items.length - i ∧ I k ⟨f', [fr], []⟩ := by
      intro f' a1 a3 a4 a5
      exact ⟨x.items.length - (i + 1), by omega, f', i + 1, rfl, rfl, by omega, a1, by rw [a3, ht, Bool.and_assoc], a4, a5⟩
    simp only [PI.cells] at hgm
    cases hb : (b && (x.items.take i).all nte)
    · rw [hb] at fin h3
      simp only [lt_t hlt, nneg, Int.toNat_natCast, aiaddr, hjm, hgm, PI.cells, h1, m1, h3, ha, hc, e1, eES, eEX, Nat.reduceBEq, ↓reduceIte, Nat.reduceAdd]
      exact fin _ (by first | rfl | exact h1 | simp only [h1, eES, eEX, Nat.reduceBEq, ↓reduceIte, reduceCtorEq, Nat.reduceEqDiff]) (by first | rfl | simp only [eES, eEX, Nat.reduceBEq, ↓reduceIte, reduceCtorEq, Nat.reduceEqDiff]) (by first | rfl | exact ha | simp only [ha, eES, eEX, Nat.reduceBEq, ↓reduceIte, reduceCtorEq, Nat.reduceEqDiff]) (by first | rfl | simp only [eES, eEX, Nat.reduceBEq, ↓reduceIte, reduceCtorEq, Nat.reduceEqDiff])
    · rw [hb, Bool.true_and] at fin
      rw [hb] at h3
      rcases hn : o.notes with _ | ⟨n, _ | ⟨n2, ns⟩⟩
      · have c0 : (((0 : Nat) : Int) == 0) = true := rfl
        have e : nte o = true := by unfold nte; rw [hn]
        rw [e] at fin
        rw [hn] at hgm
        simp only [lt_t hlt, nneg, Int.toNat_natCast, aiaddr, hjm, hgm, PI.cells, List.map_nil, List.length_nil, c0, h1, m1, h3, ha, hc, e1, eES, eEX, Nat.reduceBEq, ↓reduceIte, Nat.reduceAdd]
        exact fin _ (by first | rfl | exact h1 | simp only [h1, eES, eEX, Nat.reduceBEq, ↓reduceIte, reduceCtorEq, Nat.reduceEqDiff]) (by first | rfl | simp only [eES, eEX, Nat.reduceBEq, ↓reduceIte, reduceCtorEq, Nat.reduceEqDiff]) (by first | rfl | exact ha | simp only [ha, eES, eEX, Nat.reduceBEq, ↓reduceIte, reduceCtorEq, Nat.reduceEqDiff]) (by first | rfl | simp only [eES, eEX, Nat.reduceBEq, ↓reduceIte, reduceCtorEq, Nat.reduceEqDiff])
      · obtain ⟨kd, b', t, l, p, s, r, hv, htl, h3', h4', h5', h6'⟩ := v0_of (ho.notes n (by rw [hn]; simp)) hM
        have c0 : (((1 : Nat) : Int) == 0) = false := rfl
        have c1 : (((1 : Nat) : Int) == 1) = true := rfl
        have e : nte o = (n.name == alias && fitv 7 kd b' t l p s r) := by
          unfold nte
          rw [hn]
          show (n.name == alias && nok n.val) = _
          rw [hv]
          rfl
        have en : elemV n.cells = .agg [.str n.name, .int .i64 kd, .int .u64 ((b' : Nat) : Int), .str t, .list l, .list p, .list s, .list r] := by
          rw [PN.cells, hv]; rfl
        have hne : (n.name == [97, 108, 105, 97, 115]) = (n.name == alias) := rfl
        have hck := z111 kd b' t l p s r (by simp only [maxLen]; omega)
        simp only [nv] at hck
        rw [e] at fin
        rw [hn] at hgm
        simp only [List.map_cons, List.map_nil, en] at hgm
        simp only [lt_t hlt, nneg, Int.toNat_natCast, aiaddr, hjm, hgm, PI.cells, List.length_cons, List.length_nil, Nat.zero_add, c0, c1, z0, z1, List.getElem?_cons_zero, astr, hne, h1, m1, h3, ha, hc, eES, eEX, Nat.reduceBEq, ↓reduceIte, Nat.reduceAdd]
        by_cases hal : n.name = alias
        · have b0 : (n.name == alias) = true := by simp [hal]
          rw [← hal] at hck
          rw [b0, Bool.true_and] at fin
          simp only [b0, eES, Nat.reduceBEq]
          refine aops_call hck rfl rfl rfl (.inl rfl) ?_
          cases hfv : fitv 7 kd b' t l p s r
          · rw [hfv] at fin
            have d0 : ((12 : Int) == 0) = false := rfl
            simp only [Bool.false_eq_true, d0, hc, e1, eES, Nat.reduceBEq, ↓reduceIte]
            exact fin _ (by first | rfl | exact h1 | simp only [h1, eES, eEX, Nat.reduceBEq, ↓reduceIte, reduceCtorEq, Nat.reduceEqDiff]) (by first | rfl | simp only [eES, eEX, Nat.reduceBEq, ↓reduceIte, reduceCtorEq, Nat.reduceEqDiff]) (by first | rfl | exact ha | simp only [ha, eES, eEX, Nat.reduceBEq, ↓reduceIte, reduceCtorEq, Nat.reduceEqDiff]) (by first | rfl | simp only [eES, eEX, Nat.reduceBEq, ↓reduceIte, reduceCtorEq, Nat.reduceEqDiff])
          · rw [hfv] at fin
            have d0 : ((0 : Int) == 0) = true := rfl
            simp only [d0, hc, e1, eES, Nat.reduceBEq, ↓reduceIte]
            exact fin _ (by first | rfl | exact h1 | simp only [h1, eES, eEX, Nat.reduceBEq, ↓reduceIte, reduceCtorEq, Nat.reduceEqDiff]) (by first | rfl | simp only [eES, eEX, Nat.reduceBEq, ↓reduceIte, reduceCtorEq, Nat.reduceEqDiff]) (by first | rfl | exact ha | simp only [ha, eES, eEX, Nat.reduceBEq, ↓reduceIte, reduceCtorEq, Nat.reduceEqDiff]) (by first | rfl | simp only [eES, eEX, Nat.reduceBEq, ↓reduceIte, reduceCtorEq, Nat.reduceEqDiff])
        · have b0 : (n.name == alias) = false := by simp [hal]
          rw [b0, Bool.false_and] at fin
          simp only [b0, hc, e1, eES, Nat.reduceBEq, ↓reduceIte]
          exact fin _ (by first | rfl | exact h1 | simp only [h1, eES, eEX, Nat.reduceBEq, ↓reduceIte, reduceCtorEq, Nat.reduceEqDiff]) (by first | rfl | simp only [eES, eEX, Nat.reduceBEq, ↓reduceIte, reduceCtorEq, Nat.reduceEqDiff]) (by first | rfl | exact ha | simp only [ha, eES, eEX, Nat.reduceBEq, ↓reduceIte, reduceCtorEq, Nat.reduceEqDiff]) (by first | rfl | simp only [eES, eEX, Nat.reduceBEq, ↓reduceIte, reduceCtorEq, Nat.reduceEqDiff])
      · have c0 : ((((ns.length + 1 + 1 : Nat)) : Int) == 0) = false := by rw [beq_eq_false_iff_ne]; omega
        have c1 : ((((ns.length + 1 + 1 : Nat)) : Int) == 1) = false := by rw [beq_eq_false_iff_ne]; omega
        have e : nte o = false := by unfold nte; rw [hn]
        rw [e] at fin
        rw [hn] at hgm
        simp only [List.map_cons] at hgm
        simp only [lt_t hlt, nneg, Int.toNat_natCast, aiaddr, hjm, hgm, PI.cells, List.length_cons, List.length_map, c0, c1, h1, m1, h3, ha, hc, e1, eES, eEX, Nat.reduceBEq, ↓reduceIte, Nat.reduceAdd]
        exact fin _ (by first | rfl | exact h1 | simp only [h1, eES, eEX, Nat.reduceBEq, ↓reduceIte, reduceCtorEq, Nat.reduceEqDiff]) (by first | rfl | simp only [eES, eEX, Nat.reduceBEq, ↓reduceIte, reduceCtorEq, Nat.reduceEqDiff]) (by first | rfl | exact ha | simp only [ha, eES, eEX, Nat.reduceBEq, ↓reduceIte, reduceCtorEq, Nat.reduceEqDiff]) (by first | rfl | simp only [eES, eEX, Nat.reduceBEq, ↓reduceIte, reduceCtorEq, Nat.reduceEqDiff])
  · have hf : (x.items.take i).all nte = x.items.all nte := by rw [List.take_of_length_le (by omega)]
    rw [hf] at h3
    simp only [lt_f hlt, eES]
    exact hx _ (by first | rfl | exact h1 | simp only [h1, eES, eEX, Nat.reduceBEq, ↓reduceIte, reduceCtorEq, Nat.reduceEqDiff]) (by first | rfl | exact h3 | simp only [h3, eES, eEX, Nat.reduceBEq, ↓reduceIte, reduceCtorEq, Nat.reduceEqDiff]) (by first | rfl | exact ha | simp only [ha, eES, eEX, Nat.reduceBEq, ↓reduceIte, reduceCtorEq, Nat.reduceEqDiff])

theorem argo (ha : f 4 = .int .i64 0) (hx : ∀ f, f 1 = .ptr 0 1 0 → f 3 = .bool (b && P.enums.all argE) → Q (.exit 0) (⟨f, [fr], []⟩ : St)) : awp Tryz.prog (.loop l35_1) ⟨f, [fr], []⟩ Q := by
  let I : Nat → St → Prop := fun k st => ∃ f i, st = ⟨f, [fr], []⟩ ∧ k = P.enums.length - i ∧ i ≤ P.enums.length ∧ f 1 = .ptr 0 1 0 ∧ f 3 = .bool (b && (P.enums.take i).all argE) ∧ f 4 = .int .i64 (i : Nat)
  have m1' := m1
  refine awp_loop I _ ⟨f, 0, rfl, rfl, Nat.zero_le _, h1, by rw [h3]; simp, ha⟩ ?_
  clear h1 h3 ha
  simp only [Pc] at m1
  rintro _ st ⟨f, i, rfl, rfl, hi, h1, h3, ha⟩
  simp only [l35_1, g35_3, g35_5, g35_6, g35_4, List.length_map, h1, m1, ha, eES, eEX, Nat.reduceBEq, ↓reduceIte, Nat.reduceAdd]
  by_cases hlt : i < P.enums.length
  · obtain ⟨x, hg⟩ : ∃ x, P.enums[i]? = some x := ⟨P.enums[i], List.getElem?_eq_getElem hlt⟩
    have hgm : (P.enums.map eav)[i]? = some (.agg x.cells) := by simp [hg, eav]
    have e1 := wi64_s i _ hlt hP.len2
    have ht := take_all (q := argE) hg
    have hq : argE x = (x.notes.isEmpty && x.items.all nte) := rfl
    have hie : ((x.notes.length : Int) == 0) = x.notes.isEmpty := by
      cases x.notes with
      | nil => rfl
      | cons a l => simp; omega
    have fin : ∀ f' : Fr, f' 1 = .ptr 0 1 0 → f' 3 = .bool (((b && (P.enums.take i).all argE) && x.notes.isEmpty) && x.items.all nte) → f' 4 = .int .i64 ((i + 1 : Nat) : Int) → ∃ k, k < P.enums.length - i ∧ I k ⟨f', [fr], []⟩ := by
      intro f' a1 a3 a4
      exact ⟨P.enums.length - (i + 1), by omega, f', i + 1, rfl, rfl, by omega, a1, by rw [a3, ht, hq, Bool.and_assoc, Bool.and_assoc], a4⟩
    simp only [PE.cells] at hgm
    cases hb : (b && (P.enums.take i).all argE)
    · rw [hb, Bool.false_and] at fin
      rw [hb] at h3
      simp only [lt_t hlt, h3, eES, Nat.reduceBEq]
      refine argi hM P hP fr m1' _ false (by first | rfl | exact h1 | simp only [h1, eES, eEX, Nat.reduceBEq, ↓reduceIte, reduceCtorEq, Nat.reduceEqDiff]) (by first | rfl | simp only [eES, eEX, Nat.reduceBEq, ↓reduceIte, reduceCtorEq, Nat.reduceEqDiff]) _ i x hg (by first | rfl | exact ha | simp only [ha, eES, eEX, Nat.reduceBEq, ↓reduceIte, reduceCtorEq, Nat.reduceEqDiff]) (by first | rfl | simp only [eES, eEX, Nat.reduceBEq, ↓reduceIte, reduceCtorEq, Nat.reduceEqDiff]) (fun f h1 h3 ha => ?_)
      simp only [ha, e1, eES, Nat.reduceBEq, ↓reduceIte]
      exact fin _ (by first | rfl | exact h1 | simp only [h1, eES, eEX, Nat.reduceBEq, ↓reduceIte, reduceCtorEq, Nat.reduceEqDiff]) (by first | rfl | exact h3 | simp only [h3, eES, eEX, Nat.reduceBEq, ↓reduceIte, reduceCtorEq, Nat.reduceEqDiff]) (by first | rfl | simp only [eES, eEX, Nat.reduceBEq, ↓reduceIte, reduceCtorEq, Nat.reduceEqDiff])
    · rw [hb, Bool.true_and] at fin
      rw [hb] at h3
      simp only [lt_t hlt, nneg, Int.toNat_natCast, aiaddr, hgm, List.length_map, hie, h1, m1, h3, ha, eES, eEX, Nat.reduceBEq, ↓reduceIte, Nat.reduceAdd]
      refine argi hM P hP fr m1' _ x.notes.isEmpty (by first | rfl | exact h1 | simp only [h1, eES, eEX, Nat.reduceBEq, ↓reduceIte, reduceCtorEq, Nat.reduceEqDiff]) (by first | rfl | simp only [eES, eEX, Nat.reduceBEq, ↓reduceIte, reduceCtorEq, Nat.reduceEqDiff]) _ i x hg (by first | rfl | exact ha | simp only [ha, eES, eEX, Nat.reduceBEq, ↓reduceIte, reduceCtorEq, Nat.reduceEqDiff]) (by first | rfl | simp only [eES, eEX, Nat.reduceBEq, ↓reduceIte, reduceCtorEq, Nat.reduceEqDiff]) (fun f h1 h3 ha => ?_)
      simp only [ha, e1, eES, Nat.reduceBEq, ↓reduceIte]
      exact fin _ (by first | rfl | exact h1 | simp only [h1, eES, eEX, Nat.reduceBEq, ↓reduceIte, reduceCtorEq, Nat.reduceEqDiff]) (by first | rfl | exact h3 | simp only [h3, eES, eEX, Nat.reduceBEq, ↓reduceIte, reduceCtorEq, Nat.reduceEqDiff]) (by first | rfl | simp only [eES, eEX, Nat.reduceBEq, ↓reduceIte, reduceCtorEq, Nat.reduceEqDiff])
  · have hf : (P.enums.take i).all argE = P.enums.all argE := by rw [List.take_of_length_le (by omega)]
    rw [hf] at h3
    simp only [lt_f hlt, eES]
    exact hx _ (by first | rfl | exact h1 | simp only [h1, eES, eEX, Nat.reduceBEq, ↓reduceIte, reduceCtorEq, Nat.reduceEqDiff]) (by first | rfl | exact h3 | simp only [h3, eES, eEX, Nat.reduceBEq, ↓reduceIte, reduceCtorEq, Nat.reduceEqDiff])

theorem argp (j : Nat) (x : PG) (hj : P.progs[j]? = some x) (ha : f 7 = .int .i64 (j : Nat)) (hc : f 8 = .int .i64 0) (hx : ∀ f, f 1 = .ptr 0 1 0 → f 3 = .bool (b && x.ops.all fun o => arg1 P o && uok o) → f 7 = .int .i64 (j : Nat) → Q (.exit 6) (⟨f, [fr], []⟩ : St)) : awp Tryz.prog (.loop l35_2) ⟨f, [fr], []⟩ Q := by
  let I : Nat → St → Prop := fun k st => ∃ f i, st = ⟨f, [fr], []⟩ ∧ k = x.ops.length - i ∧ i ≤ x.ops.length ∧ f 1 = .ptr 0 1 0 ∧ f 3 = .bool (b && (x.ops.take i).all fun o => arg1 P o && uok o) ∧ f 7 = .int .i64 (j : Nat) ∧ f 8 = .int .i64 (i : Nat)
  have hjm : (P.progs.map gav)[j]? = some (.agg x.cells) := by simp [hj, gav]
  have hxo := hP.progs x (List.mem_of_getElem? hj)
  refine awp_loop I _ ⟨f, 0, rfl, rfl, Nat.zero_le _, h1, by rw [h3]; simp, ha, hc⟩ ?_
  clear h1 h3 ha hc
  simp only [Pc] at m1
  simp only [PG.cells] at hjm
  rintro _ st ⟨f, i, rfl, rfl, hi, h1, h3, ha, hc⟩
  simp only [l35_2, g35_16, g35_18, g35_17, nneg, Int.toNat_natCast, aiaddr, hjm, List.length_map, h1, m1, ha, hc, eES, eEX, Nat.reduceBEq, ↓reduceIte, Nat.reduceAdd]
  by_cases hlt : i < x.ops.length
  · obtain ⟨o, hg⟩ : ∃ o, x.ops[i]? = some o := ⟨x.ops[i], List.getElem?_eq_getElem hlt⟩
    have hgm : (x.ops.map fun o => AV.agg o.cells)[i]? = some (.agg o.cells) := by simp [hg]
    have e1 := wi64_s i _ hlt hxo.len
    have hal : o.alias.length + 8 ≤ maxLen := by have := (hxo.ops o (List.mem_of_getElem? hg)).alias; simp only [maxLen]; omega
    have hop : Fn1 Tryz.prog 113 [.agg [.list (P.progs.map gav), .list (P.enums.map eav)], oav o] (.bool (arg1 P o && uok o)) := z113 P o hal
    have ht := take_all (q := fun o => arg1 P o && uok o) hg
    have fin : ∀ f' : Fr, f' 1 = .ptr 0 1 0 → f' 3 = .bool ((b && (x.ops.take i).all fun o => arg1 P o && uok o) && (arg1 P o && uok o)) → f' 7 = .int .i64 (j : Nat) → f' 8 = .int .i64 ((i + 1 : Nat) : Int) → ∃ k, k < x.ops.length - i ∧ I k ⟨f', [fr], []⟩ := by
      intro f' a1 a3 a4 a5
      exact ⟨x.ops.length - (i + 1), by omega, f', i + 1, rfl, rfl, by omega, a1, by rw [a3, ht, Bool.and_assoc], a4, a5⟩
    simp only [oav, PO.cells] at hgm hop
    cases hb : (b && (x.ops.take i).all fun o => arg1 P o && uok o)
    · rw [hb] at fin h3
      simp only [lt_t hlt, PO.cells, h3, hc, e1, eES, Nat.reduceBEq, ↓reduceIte]
      exact fin _ (by first | rfl | exact h1 | simp only [h1, eES, eEX, Nat.reduceBEq, ↓reduceIte, reduceCtorEq, Nat.reduceEqDiff]) (by first | rfl | simp only [eES, eEX, Nat.reduceBEq, ↓reduceIte, reduceCtorEq, Nat.reduceEqDiff]) (by first | rfl | exact ha | simp only [ha, eES, eEX, Nat.reduceBEq, ↓reduceIte, reduceCtorEq, Nat.reduceEqDiff]) (by first | rfl | simp only [eES, eEX, Nat.reduceBEq, ↓reduceIte, reduceCtorEq, Nat.reduceEqDiff])
    · rw [hb, Bool.true_and] at fin
      rw [hb] at h3
      simp only [lt_t hlt, nneg, Int.toNat_natCast, aiaddr, hjm, hgm, PO.cells, h1, m1, h3, ha, hc, eES, eEX, Nat.reduceBEq, ↓reduceIte, Nat.reduceAdd, Nat.reduceLeDiff]
      refine aops_call hop rfl rfl rfl (.inl rfl) ?_
      simp only [hc, e1, eES, Nat.reduceBEq, ↓reduceIte]
      exact fin _ (by first | rfl | exact h1 | simp only [h1, eES, eEX, Nat.reduceBEq, ↓reduceIte, reduceCtorEq, Nat.reduceEqDiff]) (by first | rfl | simp only [eES, eEX, Nat.reduceBEq, ↓reduceIte, reduceCtorEq, Nat.reduceEqDiff]) (by first | rfl | exact ha | simp only [ha, eES, eEX, Nat.reduceBEq, ↓reduceIte, reduceCtorEq, Nat.reduceEqDiff]) (by first | rfl | simp only [eES, eEX, Nat.reduceBEq, ↓reduceIte, reduceCtorEq, Nat.reduceEqDiff])
  · have hf : (x.ops.take i).all (fun o => arg1 P o && uok o) = x.ops.all fun o => arg1 P o && uok o := by rw [List.take_of_length_le (by omega)]
    rw [hf] at h3
    simp only [lt_f hlt, eES]
    exact hx _ (by first | rfl | exact h1 | simp only [h1, eES, eEX, Nat.reduceBEq, ↓reduceIte, reduceCtorEq, Nat.reduceEqDiff]) (by first | rfl | exact h3 | simp only [h3, eES, eEX, Nat.reduceBEq, ↓reduceIte, reduceCtorEq, Nat.reduceEqDiff]) (by first | rfl | exact ha | simp only [ha, eES, eEX, Nat.reduceBEq, ↓reduceIte, reduceCtorEq, Nat.reduceEqDiff])

theorem argP (hl : ∀ g ∈ P.progs, g.ops.length ≤ 64) (ha : f 7 = .int .i64 0) (hx : ∀ f, f 1 = .ptr 0 1 0 → f 3 = .bool (b && P.progs.all (argG P)) → Q (.exit 4) (⟨f, [fr], []⟩ : St)) : awp Tryz.prog (.loop l35_3) ⟨f, [fr], []⟩ Q := by
  let I : Nat → St → Prop := fun k st => ∃ f i, st = ⟨f, [fr], []⟩ ∧ k = P.progs.length - i ∧ i ≤ P.progs.length ∧ f 1 = .ptr 0 1 0 ∧ f 3 = .bool (b && (P.progs.take i).all (argG P)) ∧ f 7 = .int .i64 (i : Nat)
  have m1' := m1
  refine awp_loop I _ ⟨f, 0, rfl, rfl, Nat.zero_le _, h1, by rw [h3]; simp, ha⟩ ?_
  clear h1 h3 ha
  simp only [Pc] at m1
  rintro _ st ⟨f, i, rfl, rfl, hi, h1, h3, ha⟩
  simp only [l35_3, g35_12, g35_14, g35_15, g35_13, List.length_map, h1, m1, ha, eES, eEX, Nat.reduceBEq, ↓reduceIte, Nat.reduceAdd]
  by_cases hlt : i < P.progs.length
  · obtain ⟨x, hg⟩ : ∃ x, P.progs[i]? = some x := ⟨P.progs[i], List.getElem?_eq_getElem hlt⟩
    have hgm : (P.progs.map gav)[i]? = some (.agg x.cells) := by simp [hg, gav]
    have e1 := wi64_s i _ hlt hP.len1
    have ht := take_all (q := argG P) hg
    have hq : argG P x = (uniB x && x.ops.all fun o => arg1 P o && uok o) := rfl
    have hjo := z112 x (Nat.le_trans (hl x (List.mem_of_getElem? hg)) (by decide))
    have fin : ∀ f' : Fr, f' 1 = .ptr 0 1 0 → f' 3 = .bool (((b && (P.progs.take i).all (argG P)) && uniB x) && x.ops.all fun o => arg1 P o && uok o) → f' 7 = .int .i64 ((i + 1 : Nat) : Int) → ∃ k, k < P.progs.length - i ∧ I k ⟨f', [fr], []⟩ := by
      intro f' a1 a3 a4
      exact ⟨P.progs.length - (i + 1), by omega, f', i + 1, rfl, rfl, by omega, a1, by rw [a3, ht, hq, Bool.and_assoc, Bool.and_assoc], a4⟩
    simp only [gav, PG.cells] at hgm hjo
    cases hb : (b && (P.progs.take i).all (argG P))
    · rw [hb, Bool.false_and] at fin
      rw [hb] at h3
      simp only [lt_t hlt, h3, eES, Nat.reduceBEq]
      refine argp hM P hP fr m1' _ false (by first | rfl | exact h1 | simp only [h1, eES, eEX, Nat.reduceBEq, ↓reduceIte, reduceCtorEq, Nat.reduceEqDiff]) (by first | rfl | simp only [eES, eEX, Nat.reduceBEq, ↓reduceIte, reduceCtorEq, Nat.reduceEqDiff]) _ i x hg (by first | rfl | exact ha | simp only [ha, eES, eEX, Nat.reduceBEq, ↓reduceIte, reduceCtorEq, Nat.reduceEqDiff]) (by first | rfl | simp only [eES, eEX, Nat.reduceBEq, ↓reduceIte, reduceCtorEq, Nat.reduceEqDiff]) (fun f h1 h3 ha => ?_)
      simp only [ha, e1, eES, Nat.reduceBEq, ↓reduceIte]
      exact fin _ (by first | rfl | exact h1 | simp only [h1, eES, eEX, Nat.reduceBEq, ↓reduceIte, reduceCtorEq, Nat.reduceEqDiff]) (by first | rfl | exact h3 | simp only [h3, eES, eEX, Nat.reduceBEq, ↓reduceIte, reduceCtorEq, Nat.reduceEqDiff]) (by first | rfl | simp only [eES, eEX, Nat.reduceBEq, ↓reduceIte, reduceCtorEq, Nat.reduceEqDiff])
    · rw [hb, Bool.true_and] at fin
      rw [hb] at h3
      simp only [lt_t hlt, nneg, Int.toNat_natCast, aiaddr, hgm, h1, m1, h3, ha, eES, eEX, Nat.reduceBEq, ↓reduceIte, Nat.reduceAdd, Nat.reduceLeDiff]
      refine aops_call hjo rfl rfl rfl (.inl rfl) ?_
      simp only [eES, Nat.reduceBEq]
      refine argp hM P hP fr m1' _ (uniB x) (by first | rfl | exact h1 | simp only [h1, eES, eEX, Nat.reduceBEq, ↓reduceIte, reduceCtorEq, Nat.reduceEqDiff]) (by first | rfl | simp only [eES, eEX, Nat.reduceBEq, ↓reduceIte, reduceCtorEq, Nat.reduceEqDiff]) _ i x hg (by first | rfl | exact ha | simp only [ha, eES, eEX, Nat.reduceBEq, ↓reduceIte, reduceCtorEq, Nat.reduceEqDiff]) (by first | rfl | simp only [eES, eEX, Nat.reduceBEq, ↓reduceIte, reduceCtorEq, Nat.reduceEqDiff]) (fun f h1 h3 ha => ?_)
      simp only [ha, e1, eES, Nat.reduceBEq, ↓reduceIte]
      exact fin _ (by first | rfl | exact h1 | simp only [h1, eES, eEX, Nat.reduceBEq, ↓reduceIte, reduceCtorEq, Nat.reduceEqDiff]) (by first | rfl | exact h3 | simp only [h3, eES, eEX, Nat.reduceBEq, ↓reduceIte, reduceCtorEq, Nat.reduceEqDiff]) (by first | rfl | simp only [eES, eEX, Nat.reduceBEq, ↓reduceIte, reduceCtorEq, Nat.reduceEqDiff])
  · have hf : (P.progs.take i).all (argG P) = P.progs.all (argG P) := by rw [List.take_of_length_le (by omega)]
    rw [hf] at h3
    simp only [lt_f hlt, eES]
    exact hx _ (by first | rfl | exact h1 | simp only [h1, eES, eEX, Nat.reduceBEq, ↓reduceIte, reduceCtorEq, Nat.reduceEqDiff]) (by first | rfl | exact h3 | simp only [h3, eES, eEX, Nat.reduceBEq, ↓reduceIte, reduceCtorEq, Nat.reduceEqDiff])

end

theorem z35 {M : Nat} (hM : M ≤ 140737488351232) (P : PL) (hP : P.ok M) (hl : ∀ g ∈ P.progs, g.ops.length ≤ 64) : Fn1 Tryz.prog 35 [P.av] (.bool (args P)) := by
  have e0 : P.av = .agg [.list (P.progs.map gav), .list (P.enums.map eav)] := rfl
  have e : args P = (P.enums.all argE && P.progs.all (argG P)) := Bool.and_comm _ _
  refine fn1_of_awp (rc := r35) (rs := o35) Tryz.func35 rfl rfl Tryz.ntmps35 k35 q35 (by simp) ?_
  simp only [g35_0, g35_1, g35_2, g35_11, g35_19, r35, o35, e0, eES, eEX]
  refine argo hM P hP _ (by first | rfl | simp only [eES, eEX, Nat.reduceBEq, ↓reduceIte, reduceCtorEq, Nat.reduceEqDiff]) _ true (by first | rfl | simp only [eES, eEX, Nat.reduceBEq, ↓reduceIte, reduceCtorEq, Nat.reduceEqDiff]) (by first | rfl | simp only [eES, eEX, Nat.reduceBEq, ↓reduceIte, reduceCtorEq, Nat.reduceEqDiff]) _ (by first | rfl | simp only [eES, eEX, Nat.reduceBEq, ↓reduceIte, reduceCtorEq, Nat.reduceEqDiff]) (fun f h1 h3 => ?_)
  simp only [eES, ↓reduceIte]
  refine argP hM P hP _ (by first | rfl | simp only [eES, eEX, Nat.reduceBEq, ↓reduceIte, reduceCtorEq, Nat.reduceEqDiff]) _ _ (by first | rfl | exact h1 | simp only [h1, eES, eEX, Nat.reduceBEq, ↓reduceIte, reduceCtorEq, Nat.reduceEqDiff]) (by first | rfl | exact h3 | simp only [h3, eES, eEX, Nat.reduceBEq, ↓reduceIte, reduceCtorEq, Nat.reduceEqDiff]) _ hl (by first | rfl | simp only [eES, eEX, Nat.reduceBEq, ↓reduceIte, reduceCtorEq, Nat.reduceEqDiff]) (fun f h1 h3 => ?_)
  simp only [h3, e, Bool.true_and, eES, Nat.reduceBEq, ↓reduceIte]

end Go.Proofs.YtelhohgmmhbahaaGreatDoor.Va

set_option linter.unusedSimpArgs false
namespace Go.Proofs.YtelhohgmmhbahaaGreatDoor.Va
open Go Am Rc Bt Br

section
variable {M : Nat} (P : PL) (hP : P.ok M) (fr : Nat → Ob) (m1 : fr 1 = .cells (Pc P)) (f : Fr) (b : Bool) (h1 : f 1 = .ptr 0 1 0) (h3 : f 3 = .bool b) (Q : Exit → St → Prop)
include hP m1 h1 h3

theorem rngi (j : Nat) (x : PG) (hj : P.progs[j]? = some x) (ha : f 4 = .int .i64 (j : Nat)) (hc : f 5 = .int .i64 0) (hx : ∀ f, f 1 = .ptr 0 1 0 → f 3 = .bool (b && x.ops.all rngO) → f 4 = .int .i64 (j : Nat) → Q (.exit 2) (⟨f, [fr], []⟩ : St)) : awp Tryz.prog (.loop l34_0) ⟨f, [fr], []⟩ Q := by
  let I : Nat → St → Prop := fun k st => ∃ f i, st = ⟨f, [fr], []⟩ ∧ k = x.ops.length - i ∧ i ≤ x.ops.length ∧ f 1 = .ptr 0 1 0 ∧ f 3 = .bool (b && (x.ops.take i).all rngO) ∧ f 4 = .int .i64 (j : Nat) ∧ f 5 = .int .i64 (i : Nat)
  have hjm : (P.progs.map gav)[j]? = some (.agg x.cells) := by simp [hj, gav]
  have hxo := hP.progs x (List.mem_of_getElem? hj)
  refine awp_loop I _ ⟨f, 0, rfl, rfl, Nat.zero_le _, h1, by rw [h3]; simp, ha, hc⟩ ?_
  clear h1 h3 ha hc
  simp only [Pc] at m1
  simp only [PG.cells] at hjm
  rintro _ st ⟨f, i, rfl, rfl, hi, h1, h3, ha, hc⟩
  simp only [l34_0, g34_6, g34_8, g34_9, g34_7, nneg, Int.toNat_natCast, aiaddr, hjm, List.length_map, h1, m1, ha, hc, eES, eEX, Nat.reduceBEq, ↓reduceIte, Nat.reduceAdd]
  by_cases hlt : i < x.ops.length
  · obtain ⟨o, hg⟩ : ∃ o, x.ops[i]? = some o := ⟨x.ops[i], List.getElem?_eq_getElem hlt⟩
    have hgm : (x.ops.map fun o => AV.agg o.cells)[i]? = some (.agg o.cells) := by simp [hg]
    have e1 := wi64_s i _ hlt hxo.len
    have ht := take_all (q := rngO) hg
    have hq : rngO o = (decide (o.num ≥ 1) && decide (o.num ≤ 65535)) := rfl
    have fin : ∀ f' : Fr, f' 1 = .ptr 0 1 0 → f' 3 = .bool ((b && (x.ops.take i).all rngO) && rngO o) → f' 4 = .int .i64 (j : Nat) → f' 5 = .int .i64 ((i + 1 : Nat) : Int) → ∃ k, k < x.ops.length - i ∧ I k ⟨f', [fr], []⟩ := by
      intro f' a1 a3 a4 a5
      exact ⟨x.ops.length - (i + 1), by omega, f', i + 1, rfl, rfl, by omega, a1, by rw [a3, ht, Bool.and_assoc], a4, a5⟩
    simp only [PO.cells] at hgm
    cases hb : (b && (x.ops.take i).all rngO)
    · rw [hb] at fin h3
      simp only [lt_t hlt, nneg, Int.toNat_natCast, aiaddr, hjm, hgm, PO.cells, h1, m1, h3, ha, hc, e1, eES, eEX, Nat.reduceBEq, ↓reduceIte, Nat.reduceAdd]
      exact fin _ (by first | rfl | exact h1 | simp only [h1, eES, eEX, Nat.reduceBEq, ↓reduceIte, reduceCtorEq, Nat.reduceEqDiff]) (by first | rfl | simp only [eES, eEX, Nat.reduceBEq, ↓reduceIte, reduceCtorEq, Nat.reduceEqDiff]) (by first | rfl | exact ha | simp only [ha, eES, eEX, Nat.reduceBEq, ↓reduceIte, reduceCtorEq, Nat.reduceEqDiff]) (by first | rfl | simp only [eES, eEX, Nat.reduceBEq, ↓reduceIte, reduceCtorEq, Nat.reduceEqDiff])
    · rw [hb, Bool.true_and, hq] at fin
      rw [hb] at h3
      cases a1 : decide (o.num ≥ 1)
      · rw [a1] at fin
        simp only [lt_t hlt, nneg, Int.toNat_natCast, aiaddr, hjm, hgm, PO.cells, a1, h1, m1, h3, ha, hc, e1, eES, eEX, Nat.reduceBEq, ↓reduceIte, Nat.reduceAdd]
        exact fin _ (by first | rfl | exact h1 | simp only [h1, eES, eEX, Nat.reduceBEq, ↓reduceIte, reduceCtorEq, Nat.reduceEqDiff]) (by first | rfl | simp only [eES, eEX, Nat.reduceBEq, ↓reduceIte, reduceCtorEq, Nat.reduceEqDiff]) (by first | rfl | exact ha | simp only [ha, eES, eEX, Nat.reduceBEq, ↓reduceIte, reduceCtorEq, Nat.reduceEqDiff]) (by first | rfl | simp only [eES, eEX, Nat.reduceBEq, ↓reduceIte, reduceCtorEq, Nat.reduceEqDiff])
      · rw [a1, Bool.true_and] at fin
        simp only [lt_t hlt, nneg, Int.toNat_natCast, aiaddr, hjm, hgm, PO.cells, a1, h1, m1, h3, ha, hc, e1, eES, eEX, Nat.reduceBEq, ↓reduceIte, Nat.reduceAdd]
        exact fin _ (by first | rfl | exact h1 | simp only [h1, eES, eEX, Nat.reduceBEq, ↓reduceIte, reduceCtorEq, Nat.reduceEqDiff]) (by first | rfl | simp only [eES, eEX, Nat.reduceBEq, ↓reduceIte, reduceCtorEq, Nat.reduceEqDiff]) (by first | rfl | exact ha | simp only [ha, eES, eEX, Nat.reduceBEq, ↓reduceIte, reduceCtorEq, Nat.reduceEqDiff]) (by first | rfl | simp only [eES, eEX, Nat.reduceBEq, ↓reduceIte, reduceCtorEq, Nat.reduceEqDiff])
  · have hf : (x.ops.take i).all rngO = x.ops.all rngO := by rw [List.take_of_length_le (by omega)]
    rw [hf] at h3
    simp only [lt_f hlt, eES]
    exact hx _ (by first | rfl | exact h1 | simp only [h1, eES, eEX, Nat.reduceBEq, ↓reduceIte, reduceCtorEq, Nat.reduceEqDiff]) (by first | rfl | exact h3 | simp only [h3, eES, eEX, Nat.reduceBEq, ↓reduceIte, reduceCtorEq, Nat.reduceEqDiff]) (by first | rfl | exact ha | simp only [ha, eES, eEX, Nat.reduceBEq, ↓reduceIte, reduceCtorEq, Nat.reduceEqDiff])

theorem rngo (ha : f 4 = .int .i64 0) (hx : ∀ f, f 1 = .ptr 0 1 0 → f 3 = .bool (b && P.progs.all fun g => g.ops.all rngO) → Q (.exit 0) (⟨f, [fr], []⟩ : St)) : awp Tryz.prog (.loop l34_1) ⟨f, [fr], []⟩ Q := by
  let I : Nat → St → Prop := fun k st => ∃ f i, st = ⟨f, [fr], []⟩ ∧ k = P.progs.length - i ∧ i ≤ P.progs.length ∧ f 1 = .ptr 0 1 0 ∧ f 3 = .bool (b && (P.progs.take i).all fun g => g.ops.all rngO) ∧ f 4 = .int .i64 (i : Nat)
  have m1' := m1
  refine awp_loop I _ ⟨f, 0, rfl, rfl, Nat.zero_le _, h1, by rw [h3]; simp, ha⟩ ?_
  clear h1 h3 ha
  simp only [Pc] at m1
  rintro _ st ⟨f, i, rfl, rfl, hi, h1, h3, ha⟩
  simp only [l34_1, g34_3, g34_5, g34_4, List.length_map, h1, m1, ha, eES, eEX, Nat.reduceBEq, ↓reduceIte, Nat.reduceAdd]
  by_cases hlt : i < P.progs.length
  · obtain ⟨x, hg⟩ : ∃ x, P.progs[i]? = some x := ⟨P.progs[i], List.getElem?_eq_getElem hlt⟩
    have e1 := wi64_s i _ hlt hP.len1
    have ht := take_all (q := fun g : PG => g.ops.all rngO) hg
    simp only [lt_t hlt, eES]
    refine rngi P hP fr m1' _ (b && (P.progs.take i).all fun g => g.ops.all rngO) (by first | rfl | exact h1 | simp only [h1, eES, eEX, Nat.reduceBEq, ↓reduceIte, reduceCtorEq, Nat.reduceEqDiff]) (by first | rfl | exact h3 | simp only [h3, eES, eEX, Nat.reduceBEq, ↓reduceIte, reduceCtorEq, Nat.reduceEqDiff]) _ i x hg (by first | rfl | exact ha | simp only [ha, eES, eEX, Nat.reduceBEq, ↓reduceIte, reduceCtorEq, Nat.reduceEqDiff]) (by first | rfl | simp only [eES, eEX, Nat.reduceBEq, ↓reduceIte, reduceCtorEq, Nat.reduceEqDiff]) (fun f h1 h3 ha => ?_)
    simp only [ha, e1, eES, Nat.reduceBEq, ↓reduceIte]
    exact ⟨P.progs.length - (i + 1), by omega, _, i + 1, rfl, rfl, by omega, (by first | rfl | exact h1 | simp only [h1, eES, eEX, Nat.reduceBEq, ↓reduceIte, reduceCtorEq, Nat.reduceEqDiff]), by rw [ht, ← Bool.and_assoc] <;> first | exact h3 | simp only [h3, eES, eEX, Nat.reduceBEq, ↓reduceIte, reduceCtorEq, Nat.reduceEqDiff], (by first | rfl | simp only [eES, eEX, Nat.reduceBEq, ↓reduceIte, reduceCtorEq, Nat.reduceEqDiff])⟩
  · have hf : (P.progs.take i).all (fun g => g.ops.all rngO) = P.progs.all fun g => g.ops.all rngO := by rw [List.take_of_length_le (by omega)]
    rw [hf] at h3
    simp only [lt_f hlt, eES]
    exact hx _ (by first | rfl | exact h1 | simp only [h1, eES, eEX, Nat.reduceBEq, ↓reduceIte, reduceCtorEq, Nat.reduceEqDiff]) (by first | rfl | exact h3 | simp only [h3, eES, eEX, Nat.reduceBEq, ↓reduceIte, reduceCtorEq, Nat.reduceEqDiff])

end

def rqi (x : PE) (i : Nat) : Bool := match x.items[i]? with
  | some o => (i != 0 || o.num == 0) && rngI x o
  | none => true

theorem rqi_all (x : PE) : allU (rqi x) x.items.length = (frst x && x.items.all (rngI x)) := by
  rw [Bool.eq_iff_iff, Bool.and_eq_true, allU_iff, List.all_eq_true]
  constructor
  · intro h
    refine ⟨?_, fun o ho => ?_⟩
    · unfold frst
      cases hi : x.items with
      | nil => rfl
      | cons a l =>
        have := h 0 (by rw [hi]; simp)
        unfold rqi at this
        rw [hi] at this
        simp only [List.getElem?_cons_zero, Bool.and_eq_true] at this
        simpa using this.1
    · obtain ⟨i, hi⟩ := List.mem_iff_getElem?.1 ho
      have := h i (List.getElem?_eq_some_iff.1 hi).1
      unfold rqi at this
      rw [hi] at this
      simp only [Bool.and_eq_true] at this
      exact this.2
  · rintro ⟨h1, h2⟩ i _
    unfold rqi
    cases hg : x.items[i]? with
    | none => rfl
    | some o =>
      simp only [Bool.and_eq_true]
      refine ⟨?_, h2 o (List.mem_of_getElem? hg)⟩
      cases i with
      | zero =>
        unfold frst at h1
        cases hx : x.items with
        | nil => rw [hx] at hg; cases hg
        | cons a l =>
          rw [hx] at h1 hg
          cases hg
          simpa using h1
      | succ k => rfl

section
variable (x : PE) (hl1 : x.items.length ≤ maxLen) (hl : x.free.length ≤ maxLen) (P : PL) (f : Fr) (b : Bool) (j : Nat) (fr : Nat → Ob) (h1 : f 1 = .ptr 0 1 0) (h3 : f 3 = .bool b) (h7 : f 7 = .int .i64 (j : Nat)) (h8 : f 8 = .ptr 0 8 0) (m1 : fr 1 = .cells (Pc P)) (m8 : fr 8 = .cells x.cells) (Q : Exit → St → Prop)
include hl1 hl h1 h3 h7 h8 m8

theorem rngI_loop (hc : f 9 = .int .i64 0) (hx : ∀ f, f 1 = .ptr 0 1 0 → f 3 = .bool (b && (frst x && x.items.all (rngI x))) → f 7 = .int .i64 (j : Nat) → f 8 = .ptr 0 8 0 → Q (.exit 6) (⟨f, [fr], []⟩ : St)) : awp Tryz.prog (.loop l34_2) ⟨f, [fr], []⟩ Q := by
  let I : Nat → St → Prop := fun k st => ∃ f i, st = ⟨f, [fr], []⟩ ∧ k = x.items.length - i ∧ i ≤ x.items.length ∧ f 1 = .ptr 0 1 0 ∧ f 3 = .bool (b && allU (rqi x) i) ∧ f 7 = .int .i64 (j : Nat) ∧ f 8 = .ptr 0 8 0 ∧ f 9 = .int .i64 (i : Nat)
  refine awp_loop I _ ⟨f, 0, rfl, rfl, Nat.zero_le _, h1, by rw [h3]; simp [allU], h7, h8, hc⟩ ?_
  clear h1 h3 h7 h8 hc
  simp only [PE.cells] at m8
  rintro _ st ⟨f, i, rfl, rfl, hi, h1, h3, h7, h8, hc⟩
  simp only [l34_2, g34_15, g34_17, g34_18, g34_16, List.length_map, m8, h8, hc, eES, eEX, Nat.reduceBEq, ↓reduceIte, Nat.reduceAdd]
  by_cases hlt : i < x.items.length
  · obtain ⟨o, hg⟩ : ∃ o, x.items[i]? = some o := ⟨x.items[i], List.getElem?_eq_getElem hlt⟩
    have hgm : (x.items.map fun o => AV.agg o.cells)[i]? = some (.agg o.cells) := by simp [hg]
    have e1 := wi64_s i _ hlt hl1
    have ht := acc_step b (rqi x) i
    have hr : Fn1 Tryz.prog 110 [.list (x.free.map fun n => AV.agg n.cells), .int .i64 o.num] (.bool (kept x.free o.num)) := z110 x.free hl o.num
    have hq : rqi x i = ((i != 0 || o.num == 0) && (decide (o.num ≤ 2147483647) && !kept x.free o.num)) := by unfold rqi; rw [hg]; rfl
    rw [hq] at ht
    have fin : ∀ (f' : Fr) (v : Bool), ((b && allU (rqi x) i) && ((i != 0 || o.num == 0) && (decide (o.num ≤ 2147483647) && !kept x.free o.num))) = v → f' 1 = .ptr 0 1 0 → f' 3 = .bool v → f' 7 = .int .i64 (j : Nat) → f' 8 = .ptr 0 8 0 → f' 9 = .int .i64 ((i + 1 : Nat) : Int) → ∃ k, k < x.items.length - i ∧ I k ⟨f', [fr], []⟩ := by
      intro f' v hv a1 a3 a4 a5 a6
      exact ⟨x.items.length - (i + 1), by omega, f', i + 1, rfl, rfl, by omega, a1, by rw [a3, ht, hv], a4, a5, a6⟩
    simp only [PI.cells] at hgm
    cases hb : (b && allU (rqi x) i)
    · rw [hb] at fin h3
      simp only [Bool.false_and] at fin
      simp only [lt_t hlt, nneg, Int.toNat_natCast, aiaddr, hgm, PI.cells, m8, h3, h8, hc, e1, eES, eEX, Nat.reduceBEq, ↓reduceIte, Nat.reduceAdd]
      exact fin _ _ rfl (by first | rfl | exact h1 | simp only [h1, eES, eEX, Nat.reduceBEq, ↓reduceIte, reduceCtorEq, Nat.reduceEqDiff]) (by first | rfl | simp only [eES, eEX, Nat.reduceBEq, ↓reduceIte, reduceCtorEq, Nat.reduceEqDiff]) (by first | rfl | exact h7 | simp only [h7, eES, eEX, Nat.reduceBEq, ↓reduceIte, reduceCtorEq, Nat.reduceEqDiff]) (by first | rfl | exact h8 | simp only [h8, eES, eEX, Nat.reduceBEq, ↓reduceIte, reduceCtorEq, Nat.reduceEqDiff]) (by first | rfl | simp only [eES, eEX, Nat.reduceBEq, ↓reduceIte, reduceCtorEq, Nat.reduceEqDiff])
    · rw [hb] at fin h3
      simp only [Bool.true_and] at fin
      cases a1 : decide (o.num ≤ 2147483647)
      · simp only [a1, Bool.false_and, Bool.and_false] at fin
        simp only [lt_t hlt, nneg, Int.toNat_natCast, aiaddr, hgm, PI.cells, a1, m8, h3, h8, hc, e1, eES, eEX, Nat.reduceBEq, ↓reduceIte, Nat.reduceAdd]
        exact fin _ _ rfl (by first | rfl | exact h1 | simp only [h1, eES, eEX, Nat.reduceBEq, ↓reduceIte, reduceCtorEq, Nat.reduceEqDiff]) (by first | rfl | simp only [eES, eEX, Nat.reduceBEq, ↓reduceIte, reduceCtorEq, Nat.reduceEqDiff]) (by first | rfl | exact h7 | simp only [h7, eES, eEX, Nat.reduceBEq, ↓reduceIte, reduceCtorEq, Nat.reduceEqDiff]) (by first | rfl | exact h8 | simp only [h8, eES, eEX, Nat.reduceBEq, ↓reduceIte, reduceCtorEq, Nat.reduceEqDiff]) (by first | rfl | simp only [eES, eEX, Nat.reduceBEq, ↓reduceIte, reduceCtorEq, Nat.reduceEqDiff])
      simp only [a1, Bool.true_and] at fin
      have gt : ∀ (q : Bool), (i != 0 || o.num == 0) = q → (decide ((i : Int) > 0) = true ∧ q = true) ∨ (decide ((i : Int) > 0) = false ∧ (o.num == 0) = q) := by
        intro q hq
        cases i with
        | zero => exact .inr ⟨rfl, hq⟩
        | succ k => exact .inl ⟨decide_eq_true (by omega), hq.symm⟩
      cases a2 : (i != 0 || o.num == 0)
      · rw [a2] at fin
        simp only [Bool.false_and] at fin
        rcases gt _ a2 with ⟨g1, g2⟩ | ⟨g1, g2⟩
        · cases g2
        · simp only [lt_t hlt, nneg, Int.toNat_natCast, aiaddr, hgm, PI.cells, a1, g1, g2, m8, h3, h8, hc, e1, eES, eEX, Nat.reduceBEq, ↓reduceIte, Nat.reduceAdd]
          exact fin _ _ rfl (by first | rfl | exact h1 | simp only [h1, eES, eEX, Nat.reduceBEq, ↓reduceIte, reduceCtorEq, Nat.reduceEqDiff]) (by first | rfl | simp only [eES, eEX, Nat.reduceBEq, ↓reduceIte, reduceCtorEq, Nat.reduceEqDiff]) (by first | rfl | exact h7 | simp only [h7, eES, eEX, Nat.reduceBEq, ↓reduceIte, reduceCtorEq, Nat.reduceEqDiff]) (by first | rfl | exact h8 | simp only [h8, eES, eEX, Nat.reduceBEq, ↓reduceIte, reduceCtorEq, Nat.reduceEqDiff]) (by first | rfl | simp only [eES, eEX, Nat.reduceBEq, ↓reduceIte, reduceCtorEq, Nat.reduceEqDiff])
      · rw [a2] at fin
        simp only [Bool.true_and] at fin
        rcases gt _ a2 with ⟨g1, g2⟩ | ⟨g1, g2⟩
        all_goals
          simp only [lt_t hlt, nneg, Int.toNat_natCast, aiaddr, hgm, PI.cells, a1, g1, g2, m8, h3, h8, hc, eES, eEX, Nat.reduceBEq, ↓reduceIte, Nat.reduceAdd]
          refine aops_call hr rfl rfl rfl (.inl rfl) ?_
          simp only [hc, e1, eES, Nat.reduceBEq, ↓reduceIte]
          exact fin _ _ rfl (by first | rfl | exact h1 | simp only [h1, eES, eEX, Nat.reduceBEq, ↓reduceIte, reduceCtorEq, Nat.reduceEqDiff]) (by first | rfl | simp only [eES, eEX, Nat.reduceBEq, ↓reduceIte, reduceCtorEq, Nat.reduceEqDiff]) (by first | rfl | exact h7 | simp only [h7, eES, eEX, Nat.reduceBEq, ↓reduceIte, reduceCtorEq, Nat.reduceEqDiff]) (by first | rfl | exact h8 | simp only [h8, eES, eEX, Nat.reduceBEq, ↓reduceIte, reduceCtorEq, Nat.reduceEqDiff]) (by first | rfl | simp only [eES, eEX, Nat.reduceBEq, ↓reduceIte, reduceCtorEq, Nat.reduceEqDiff])
  · rw [show i = x.items.length by omega, rqi_all] at h3
    simp only [lt_f hlt, eES]
    exact hx _ (by first | rfl | exact h1 | simp only [h1, eES, eEX, Nat.reduceBEq, ↓reduceIte, reduceCtorEq, Nat.reduceEqDiff]) (by first | rfl | exact h3 | simp only [h3, eES, eEX, Nat.reduceBEq, ↓reduceIte, reduceCtorEq, Nat.reduceEqDiff]) (by first | rfl | exact h7 | simp only [h7, eES, eEX, Nat.reduceBEq, ↓reduceIte, reduceCtorEq, Nat.reduceEqDiff]) (by first | rfl | exact h8 | simp only [h8, eES, eEX, Nat.reduceBEq, ↓reduceIte, reduceCtorEq, Nat.reduceEqDiff])

omit hl1 in
include m1 in
theorem rngS_loop (hc : f 11 = .int .i64 0) (hrow : ∀ s ∈ [12], (fr s).isRow = false) (hx : ∀ f fr, f 1 = .ptr 0 1 0 → f 3 = .bool (b && (x.free.all spn && adj x.free spt)) → f 7 = .int .i64 (j : Nat) → fr 1 = .cells (Pc P) → (∀ s ∈ [12, 8], (fr s).isRow = false) → Q (.exit 8) (⟨f, [fr], []⟩ : St)) : awp Tryz.prog (.loop l34_3) ⟨f, [fr], []⟩ Q := by
  let I : Nat → St → Prop := fun k st => ∃ f fr i, st = ⟨f, [fr], []⟩ ∧ k = x.free.length - i ∧ i ≤ x.free.length ∧ f 1 = .ptr 0 1 0 ∧ f 3 = .bool (b && allU (spq x.free) i) ∧ f 7 = .int .i64 (j : Nat) ∧ f 8 = .ptr 0 8 0 ∧ f 11 = .int .i64 (i : Nat) ∧ fr 1 = .cells (Pc P) ∧ fr 8 = .cells x.cells ∧ ∀ s ∈ [12], (fr s).isRow = false
  refine awp_loop I _ ⟨f, fr, 0, rfl, rfl, Nat.zero_le _, h1, by rw [h3]; simp [allU], h7, h8, hc, m1, m8, hrow⟩ ?_
  clear h1 h3 h7 h8 hc m1 m8 hrow
  rintro _ st ⟨f0, fr0, i, rfl, rfl, hi, h10, h30, h70, h80, hc0, m10, m80, r12⟩
  refine awp_drops (a := _) [12] r12 ?_
  intro f fr hf hm hn
  have h1 : f 1 = .ptr 0 1 0 := by rw [hf, h10] <;> rfl
  have h3 : f 3 = .bool (b && allU (spq x.free) i) := by rw [hf, h30] <;> rfl
  have h7 : f 7 = .int .i64 (j : Nat) := by rw [hf, h70] <;> rfl
  have h8 : f 8 = .ptr 0 8 0 := by rw [hf, h80] <;> rfl
  have hc : f 11 = .int .i64 (i : Nat) := by rw [hf, hc0] <;> rfl
  have m1 : fr 1 = .cells (Pc P) := by rw [hm 1 (by decide), m10] <;> rfl
  have m8 : fr 8 = .cells x.cells := by rw [hm 8 (by decide), m80] <;> rfl
  have n12 := hn 12 (by decide)
  clear hf hm hn h10 h30 h70 h80 hc0 m10 m80 r12
  have m8' := m8
  simp only [PE.cells] at m8
  simp only [g34_20, g34_22, g34_23, g34_21, List.length_map, m8, h8, hc, eES, eEX, Nat.reduceBEq, ↓reduceIte, Nat.reduceAdd]
  by_cases hlt : i < x.free.length
  · obtain ⟨y, hg⟩ : ∃ y, x.free[i]? = some y := ⟨x.free[i], List.getElem?_eq_getElem hlt⟩
    have hgm : (x.free.map fun o => AV.agg o.cells)[i]? = some (.agg y.cells) := by simp [hg]
    have e1 := wi64_s i _ hlt hl
    have ht := acc_step b (spq x.free) i
    have hq : spq x.free i = ((decide (y.lo ≥ 0) && decide (y.hi ≤ 2147483647) && decide (y.lo ≤ y.hi)) && two x.free spt i) := by unfold spq; rw [ask_at hg]; rfl
    rw [hq] at ht
    have fin : ∀ (f' : Fr) (fr' : Nat → Ob) (v : Bool), ((b && allU (spq x.free) i) && ((decide (y.lo ≥ 0) && decide (y.hi ≤ 2147483647) && decide (y.lo ≤ y.hi)) && two x.free spt i)) = v → f' 1 = .ptr 0 1 0 → f' 3 = .bool v → f' 7 = .int .i64 (j : Nat) → f' 8 = .ptr 0 8 0 → f' 11 = .int .i64 ((i + 1 : Nat) : Int) → fr' 1 = .cells (Pc P) → fr' 8 = .cells x.cells → (∀ s ∈ [12], (fr' s).isRow = false) → ∃ k, k < x.free.length - i ∧ I k ⟨f', [fr'], []⟩ := by
      intro f' fr' v hv a1 a3 a4 a5 a6 a7 a8 a9
      exact ⟨x.free.length - (i + 1), by omega, f', fr', i + 1, rfl, rfl, by omega, a1, by rw [a3, ht, hv], a4, a5, a6, a7, a8, a9⟩
    simp only [PS.cells] at hgm
    cases hb : (b && allU (spq x.free) i)
    · rw [hb] at fin h3
      simp only [Bool.false_and] at fin
      simp only [lt_t hlt, nneg, Int.toNat_natCast, aiaddr, hgm, PS.cells, n12, splice, List.take_succ_cons, List.take_zero, List.drop_succ_cons, List.drop_zero, List.drop_nil, List.append_nil, List.nil_append, List.length_cons, List.length_nil, m8, h3, h8, hc, e1, eES, eEX, Nat.reduceBEq, ↓reduceIte, Nat.reduceAdd, Nat.reduceLeDiff]
      exact fin _ _ _ rfl (by first | rfl | exact h1 | simp only [h1, eES, eEX, Nat.reduceBEq, ↓reduceIte, reduceCtorEq, Nat.reduceEqDiff]) (by first | rfl | simp only [eES, eEX, Nat.reduceBEq, ↓reduceIte, reduceCtorEq, Nat.reduceEqDiff]) (by first | rfl | exact h7 | simp only [h7, eES, eEX, Nat.reduceBEq, ↓reduceIte, reduceCtorEq, Nat.reduceEqDiff]) (by first | rfl | exact h8 | simp only [h8, eES, eEX, Nat.reduceBEq, ↓reduceIte, reduceCtorEq, Nat.reduceEqDiff]) (by first | rfl | simp only [eES, eEX, Nat.reduceBEq, ↓reduceIte, reduceCtorEq, Nat.reduceEqDiff]) (by first | rfl | exact m1 | simp only [m1, eES, eEX, Nat.reduceBEq, ↓reduceIte, reduceCtorEq, Nat.reduceEqDiff]) (by first | rfl | exact m8' | simp only [m8', eES, eEX, Nat.reduceBEq, ↓reduceIte, reduceCtorEq, Nat.reduceEqDiff]) (by simp <;> rfl)
    rw [hb] at fin h3
    simp only [Bool.true_and] at fin
    cases a1 : decide (y.lo ≥ 0)
    · simp only [a1, Bool.false_and] at fin
      simp only [lt_t hlt, nneg, Int.toNat_natCast, aiaddr, hgm, PS.cells, n12, splice, List.take_succ_cons, List.take_zero, List.drop_succ_cons, List.drop_zero, List.drop_nil, List.append_nil, List.nil_append, List.length_cons, List.length_nil, a1, m8, h3, h8, hc, e1, eES, eEX, Nat.reduceBEq, ↓reduceIte, Nat.reduceAdd, Nat.reduceLeDiff]
      exact fin _ _ _ rfl (by first | rfl | exact h1 | simp only [h1, eES, eEX, Nat.reduceBEq, ↓reduceIte, reduceCtorEq, Nat.reduceEqDiff]) (by first | rfl | simp only [eES, eEX, Nat.reduceBEq, ↓reduceIte, reduceCtorEq, Nat.reduceEqDiff]) (by first | rfl | exact h7 | simp only [h7, eES, eEX, Nat.reduceBEq, ↓reduceIte, reduceCtorEq, Nat.reduceEqDiff]) (by first | rfl | exact h8 | simp only [h8, eES, eEX, Nat.reduceBEq, ↓reduceIte, reduceCtorEq, Nat.reduceEqDiff]) (by first | rfl | simp only [eES, eEX, Nat.reduceBEq, ↓reduceIte, reduceCtorEq, Nat.reduceEqDiff]) (by first | rfl | exact m1 | simp only [m1, eES, eEX, Nat.reduceBEq, ↓reduceIte, reduceCtorEq, Nat.reduceEqDiff]) (by first | rfl | exact m8' | simp only [m8', eES, eEX, Nat.reduceBEq, ↓reduceIte, reduceCtorEq, Nat.reduceEqDiff]) (by simp <;> rfl)
    cases a2 : decide (y.hi ≤ 2147483647)
    · simp only [a1, a2, Bool.false_and, Bool.and_false] at fin
      simp only [lt_t hlt, nneg, Int.toNat_natCast, aiaddr, hgm, PS.cells, n12, splice, List.take_succ_cons, List.take_zero, List.drop_succ_cons, List.drop_zero, List.drop_nil, List.append_nil, List.nil_append, List.length_cons, List.length_nil, a1, a2, m8, h3, h8, hc, e1, eES, eEX, Nat.reduceBEq, ↓reduceIte, Nat.reduceAdd, Nat.reduceLeDiff]
      exact fin _ _ _ rfl (by first | rfl | exact h1 | simp only [h1, eES, eEX, Nat.reduceBEq, ↓reduceIte, reduceCtorEq, Nat.reduceEqDiff]) (by first | rfl | simp only [eES, eEX, Nat.reduceBEq, ↓reduceIte, reduceCtorEq, Nat.reduceEqDiff]) (by first | rfl | exact h7 | simp only [h7, eES, eEX, Nat.reduceBEq, ↓reduceIte, reduceCtorEq, Nat.reduceEqDiff]) (by first | rfl | exact h8 | simp only [h8, eES, eEX, Nat.reduceBEq, ↓reduceIte, reduceCtorEq, Nat.reduceEqDiff]) (by first | rfl | simp only [eES, eEX, Nat.reduceBEq, ↓reduceIte, reduceCtorEq, Nat.reduceEqDiff]) (by first | rfl | exact m1 | simp only [m1, eES, eEX, Nat.reduceBEq, ↓reduceIte, reduceCtorEq, Nat.reduceEqDiff]) (by first | rfl | exact m8' | simp only [m8', eES, eEX, Nat.reduceBEq, ↓reduceIte, reduceCtorEq, Nat.reduceEqDiff]) (by simp <;> rfl)
    cases a3 : decide (y.lo ≤ y.hi)
    · simp only [a1, a2, a3, Bool.false_and, Bool.and_false] at fin
      simp only [lt_t hlt, nneg, Int.toNat_natCast, aiaddr, hgm, PS.cells, n12, splice, List.take_succ_cons, List.take_zero, List.drop_succ_cons, List.drop_zero, List.drop_nil, List.append_nil, List.nil_append, List.length_cons, List.length_nil, a1, a2, a3, m8, h3, h8, hc, e1, eES, eEX, Nat.reduceBEq, ↓reduceIte, Nat.reduceAdd, Nat.reduceLeDiff]
      exact fin _ _ _ rfl (by first | rfl | exact h1 | simp only [h1, eES, eEX, Nat.reduceBEq, ↓reduceIte, reduceCtorEq, Nat.reduceEqDiff]) (by first | rfl | simp only [eES, eEX, Nat.reduceBEq, ↓reduceIte, reduceCtorEq, Nat.reduceEqDiff]) (by first | rfl | exact h7 | simp only [h7, eES, eEX, Nat.reduceBEq, ↓reduceIte, reduceCtorEq, Nat.reduceEqDiff]) (by first | rfl | exact h8 | simp only [h8, eES, eEX, Nat.reduceBEq, ↓reduceIte, reduceCtorEq, Nat.reduceEqDiff]) (by first | rfl | simp only [eES, eEX, Nat.reduceBEq, ↓reduceIte, reduceCtorEq, Nat.reduceEqDiff]) (by first | rfl | exact m1 | simp only [m1, eES, eEX, Nat.reduceBEq, ↓reduceIte, reduceCtorEq, Nat.reduceEqDiff]) (by first | rfl | exact m8' | simp only [m8', eES, eEX, Nat.reduceBEq, ↓reduceIte, reduceCtorEq, Nat.reduceEqDiff]) (by simp <;> rfl)
    simp only [a1, a2, a3, Bool.true_and, Bool.and_true] at fin
    cases i with
    | zero =>
      have d0 : (((0 : Nat) : Int) == 0) = true := rfl
      rw [two_zero] at fin
      simp only [lt_t hlt, nneg, Int.toNat_natCast, aiaddr, hgm, PS.cells, n12, splice, List.take_succ_cons, List.take_zero, List.drop_succ_cons, List.drop_zero, List.drop_nil, List.append_nil, List.nil_append, List.length_cons, List.length_nil, a1, a2, a3, d0, m8, h3, h8, hc, e1, eES, eEX, Nat.reduceBEq, ↓reduceIte, Nat.reduceAdd, Nat.reduceLeDiff]
      exact fin _ _ _ rfl (by first | rfl | exact h1 | simp only [h1, eES, eEX, Nat.reduceBEq, ↓reduceIte, reduceCtorEq, Nat.reduceEqDiff]) (by first | rfl | simp only [eES, eEX, Nat.reduceBEq, ↓reduceIte, reduceCtorEq, Nat.reduceEqDiff]) (by first | rfl | exact h7 | simp only [h7, eES, eEX, Nat.reduceBEq, ↓reduceIte, reduceCtorEq, Nat.reduceEqDiff]) (by first | rfl | exact h8 | simp only [h8, eES, eEX, Nat.reduceBEq, ↓reduceIte, reduceCtorEq, Nat.reduceEqDiff]) (by first | rfl | simp only [eES, eEX, Nat.reduceBEq, ↓reduceIte, reduceCtorEq, Nat.reduceEqDiff]) (by first | rfl | exact m1 | simp only [m1, eES, eEX, Nat.reduceBEq, ↓reduceIte, reduceCtorEq, Nat.reduceEqDiff]) (by first | rfl | exact m8' | simp only [m8', eES, eEX, Nat.reduceBEq, ↓reduceIte, reduceCtorEq, Nat.reduceEqDiff]) (by simp <;> rfl)
    | succ k =>
      have d0 : (((k + 1 : Nat) : Int) == 0) = false := by rw [beq_eq_false_iff_ne]; omega
      obtain ⟨z, hgz⟩ : ∃ z, x.free[k]? = some z := ⟨x.free[k]'(by omega), List.getElem?_eq_getElem (by omega)⟩
      have hgzm : (x.free.map fun o => AV.agg o.cells)[k]? = some (.agg z.cells) := by simp [hgz]
      have w := wp64 k _ hlt hl
      have hs : spt z y = decide (y.lo > z.hi) := rfl
      rw [two_at hgz hg, hs] at fin
      simp only [PS.cells] at hgzm
      simp only [lt_t hlt, nneg, Int.toNat_natCast, aiaddr, hgm, hgzm, w, PS.cells, n12, splice, List.take_succ_cons, List.take_zero, List.drop_succ_cons, List.drop_zero, List.drop_nil, List.append_nil, List.nil_append, List.length_cons, List.length_nil, a1, a2, a3, d0, m8, h3, h8, hc, e1, eES, eEX, Nat.reduceBEq, ↓reduceIte, Nat.reduceAdd, Nat.reduceLeDiff]
      exact fin _ _ _ rfl (by first | rfl | exact h1 | simp only [h1, eES, eEX, Nat.reduceBEq, ↓reduceIte, reduceCtorEq, Nat.reduceEqDiff]) (by first | rfl | simp only [eES, eEX, Nat.reduceBEq, ↓reduceIte, reduceCtorEq, Nat.reduceEqDiff]) (by first | rfl | exact h7 | simp only [h7, eES, eEX, Nat.reduceBEq, ↓reduceIte, reduceCtorEq, Nat.reduceEqDiff]) (by first | rfl | exact h8 | simp only [h8, eES, eEX, Nat.reduceBEq, ↓reduceIte, reduceCtorEq, Nat.reduceEqDiff]) (by first | rfl | simp only [eES, eEX, Nat.reduceBEq, ↓reduceIte, reduceCtorEq, Nat.reduceEqDiff]) (by first | rfl | exact m1 | simp only [m1, eES, eEX, Nat.reduceBEq, ↓reduceIte, reduceCtorEq, Nat.reduceEqDiff]) (by first | rfl | exact m8' | simp only [m8', eES, eEX, Nat.reduceBEq, ↓reduceIte, reduceCtorEq, Nat.reduceEqDiff]) (by simp <;> rfl)
  · rw [show i = x.free.length by omega, spq_all] at h3
    simp only [lt_f hlt, eES]
    refine hx _ _ (by first | rfl | exact h1 | simp only [h1, eES, eEX, Nat.reduceBEq, ↓reduceIte, reduceCtorEq, Nat.reduceEqDiff]) (by first | rfl | exact h3 | simp only [h3, eES, eEX, Nat.reduceBEq, ↓reduceIte, reduceCtorEq, Nat.reduceEqDiff]) (by first | rfl | exact h7 | simp only [h7, eES, eEX, Nat.reduceBEq, ↓reduceIte, reduceCtorEq, Nat.reduceEqDiff]) (by first | rfl | exact m1 | simp only [m1, eES, eEX, Nat.reduceBEq, ↓reduceIte, reduceCtorEq, Nat.reduceEqDiff]) (fun s hs => ?_)
    simp at hs
    rcases hs with rfl | rfl
    · rw [n12]; rfl
    · rw [m8]; rfl

end

section
variable {M : Nat} (P : PL) (hP : P.ok M) (fr : Nat → Ob) (m1 : fr 1 = .cells (Pc P)) (f : Fr) (b : Bool) (h1 : f 1 = .ptr 0 1 0) (h3 : f 3 = .bool b) (Q : Exit → St → Prop)
include hP m1 h1 h3

theorem rnge (ha : f 7 = .int .i64 0) (hrow : ∀ s ∈ [12, 8], (fr s).isRow = false) (hx : ∀ f fr, f 1 = .ptr 0 1 0 → f 3 = .bool (b && P.enums.all rng2) → Q (.exit 4) (⟨f, [fr], []⟩ : St)) : awp Tryz.prog (.loop l34_4) ⟨f, [fr], []⟩ Q := by
  let I : Nat → St → Prop := fun k st => ∃ f fr i, st = ⟨f, [fr], []⟩ ∧ k = P.enums.length - i ∧ i ≤ P.enums.length ∧ f 1 = .ptr 0 1 0 ∧ f 3 = .bool (b && (P.enums.take i).all rng2) ∧ f 7 = .int .i64 (i : Nat) ∧ fr 1 = .cells (Pc P) ∧ ∀ s ∈ [12, 8], (fr s).isRow = false
  refine awp_loop I _ ⟨f, fr, 0, rfl, rfl, Nat.zero_le _, h1, by rw [h3]; simp, ha, m1, hrow⟩ ?_
  clear h1 h3 ha m1 hrow
  rintro _ st ⟨f0, fr0, i, rfl, rfl, hi, h10, h30, ha0, m10, hr⟩
  refine awp_drops (a := _) [12, 8] hr ?_
  intro f fr hf hm hn
  have h1 : f 1 = .ptr 0 1 0 := by rw [hf, h10] <;> rfl
  have h3 : f 3 = .bool (b && (P.enums.take i).all rng2) := by rw [hf, h30] <;> rfl
  have ha : f 7 = .int .i64 (i : Nat) := by rw [hf, ha0] <;> rfl
  have m1 : fr 1 = .cells (Pc P) := by rw [hm 1 (by decide), m10] <;> rfl
  have n12 := hn 12 (by decide)
  have n8 := hn 8 (by decide)
  clear hf hm hn h10 h30 ha0 m10 hr
  have m1' := m1
  simp only [Pc] at m1
  simp only [g34_11, g34_13, g34_14, g34_19, g34_12, List.length_map, h1, m1, ha, eES, eEX, Nat.reduceBEq, ↓reduceIte, Nat.reduceAdd]
  by_cases hlt : i < P.enums.length
  · obtain ⟨x, hg⟩ : ∃ x, P.enums[i]? = some x := ⟨P.enums[i], List.getElem?_eq_getElem hlt⟩
    have hgm : (P.enums.map eav)[i]? = some (.agg x.cells) := by simp [hg, eav]
    have e1 := wi64_s i _ hlt hP.len2
    have ht := take_all (q := rng2) hg
    have hq : (b && (P.enums.take (i + 1)).all rng2) = ((b && (P.enums.take i).all rng2 && (frst x && x.items.all (rngI x))) && (x.free.all spn && adj x.free spt)) := by
      rw [ht]
      unfold rng2
      cases b <;> cases (P.enums.take i).all _ <;> cases x.free.all spn <;> cases adj x.free spt <;> cases frst x <;> cases x.items.all (rngI x) <;> rfl
    have hxo := hP.enums x (List.mem_of_getElem? hg)
    simp only [PE.cells] at hgm
    simp only [lt_t hlt, nneg, Int.toNat_natCast, aiaddr, hgm, n8, splice, List.take_succ_cons, List.take_zero, List.drop_succ_cons, List.drop_zero, List.drop_nil, List.append_nil, List.nil_append, List.length_cons, List.length_nil, h1, m1, ha, eES, eEX, Nat.reduceBEq, ↓reduceIte, Nat.reduceAdd, Nat.reduceLeDiff]
    refine rngI_loop x hxo.len1 hxo.len2 _ (b && (P.enums.take i).all rng2) i _ (by first | rfl | exact h1 | simp only [h1, eES, eEX, Nat.reduceBEq, ↓reduceIte, reduceCtorEq, Nat.reduceEqDiff]) (by first | rfl | exact h3 | simp only [h3, eES, eEX, Nat.reduceBEq, ↓reduceIte, reduceCtorEq, Nat.reduceEqDiff]) (by first | rfl | exact ha | simp only [ha, eES, eEX, Nat.reduceBEq, ↓reduceIte, reduceCtorEq, Nat.reduceEqDiff]) (by first | rfl | simp only [eES, eEX, Nat.reduceBEq, ↓reduceIte, reduceCtorEq, Nat.reduceEqDiff]) (by first | rfl | simp only [eES, eEX, Nat.reduceBEq, ↓reduceIte, reduceCtorEq, Nat.reduceEqDiff]) _ (by first | rfl | simp only [eES, eEX, Nat.reduceBEq, ↓reduceIte, reduceCtorEq, Nat.reduceEqDiff]) (fun f h1 h3 ha h8 => ?_)
    simp only [eES, ↓reduceIte]
    refine rngS_loop x hxo.len2 P _ _ i _ (by first | rfl | exact h1 | simp only [h1, eES, eEX, Nat.reduceBEq, ↓reduceIte, reduceCtorEq, Nat.reduceEqDiff]) (by first | rfl | exact h3 | simp only [h3, eES, eEX, Nat.reduceBEq, ↓reduceIte, reduceCtorEq, Nat.reduceEqDiff]) (by first | rfl | exact ha | simp only [ha, eES, eEX, Nat.reduceBEq, ↓reduceIte, reduceCtorEq, Nat.reduceEqDiff]) (by first | rfl | exact h8 | simp only [h8, eES, eEX, Nat.reduceBEq, ↓reduceIte, reduceCtorEq, Nat.reduceEqDiff]) (by first | rfl | exact m1' | simp only [m1', eES, eEX, Nat.reduceBEq, ↓reduceIte, reduceCtorEq, Nat.reduceEqDiff]) (by first | rfl | simp only [eES, eEX, Nat.reduceBEq, ↓reduceIte, reduceCtorEq, Nat.reduceEqDiff]) _ (by first | rfl | simp only [eES, eEX, Nat.reduceBEq, ↓reduceIte, reduceCtorEq, Nat.reduceEqDiff]) (fun s hs => by simp at hs; subst hs; rw [upd_ne _ _ (by decide)]; first | rw [n12]; rfl | (rw [upd_ne _ _ (by decide), n12]; rfl)) (fun f fr h1 h3 ha m1 hr => ?_)
    simp only [ha, e1, eES, Nat.reduceBEq, ↓reduceIte]
    exact ⟨P.enums.length - (i + 1), by omega, _, fr, i + 1, rfl, rfl, by omega, (by first | rfl | exact h1 | simp only [h1, eES, eEX, Nat.reduceBEq, ↓reduceIte, reduceCtorEq, Nat.reduceEqDiff]), by rw [hq] <;> first | exact h3 | simp only [h3, eES, eEX, Nat.reduceBEq, ↓reduceIte, reduceCtorEq, Nat.reduceEqDiff], (by first | rfl | simp only [eES, eEX, Nat.reduceBEq, ↓reduceIte, reduceCtorEq, Nat.reduceEqDiff]), m1, hr⟩
  · have hf : (P.enums.take i).all rng2 = P.enums.all rng2 := by rw [List.take_of_length_le (by omega)]
    rw [hf] at h3
    simp only [lt_f hlt, eES]
    exact hx _ _ (by first | rfl | exact h1 | simp only [h1, eES, eEX, Nat.reduceBEq, ↓reduceIte, reduceCtorEq, Nat.reduceEqDiff]) (by first | rfl | exact h3 | simp only [h3, eES, eEX, Nat.reduceBEq, ↓reduceIte, reduceCtorEq, Nat.reduceEqDiff])

end

theorem z34 {M : Nat} (P : PL) (hP : P.ok M) : Fn1 Tryz.prog 34 [P.av] (.bool (rng P)) := by
  have e0 : P.av = .agg [.list (P.progs.map gav), .list (P.enums.map eav)] := rfl
  refine fn1_of_awp (rc := r34) (rs := o34) Tryz.func34 rfl rfl Tryz.ntmps34 k34 q34 (by simp) ?_
  simp only [g34_0, g34_1, g34_2, g34_10, g34_24, r34, o34, e0, eES, eEX]
  refine rngo P hP _ (by first | rfl | simp only [eES, eEX, Nat.reduceBEq, ↓reduceIte, reduceCtorEq, Nat.reduceEqDiff]) _ true (by first | rfl | simp only [eES, eEX, Nat.reduceBEq, ↓reduceIte, reduceCtorEq, Nat.reduceEqDiff]) (by first | rfl | simp only [eES, eEX, Nat.reduceBEq, ↓reduceIte, reduceCtorEq, Nat.reduceEqDiff]) _ (by first | rfl | simp only [eES, eEX, Nat.reduceBEq, ↓reduceIte, reduceCtorEq, Nat.reduceEqDiff]) (fun f h1 h3 => ?_)
  simp only [eES, ↓reduceIte]
  refine rnge P hP _ (by first | rfl | simp only [eES, eEX, Nat.reduceBEq, ↓reduceIte, reduceCtorEq, Nat.reduceEqDiff]) _ _ (by first | rfl | exact h1 | simp only [h1, eES, eEX, Nat.reduceBEq, ↓reduceIte, reduceCtorEq, Nat.reduceEqDiff]) (by first | rfl | exact h3 | simp only [h3, eES, eEX, Nat.reduceBEq, ↓reduceIte, reduceCtorEq, Nat.reduceEqDiff]) _ (by first | rfl | simp only [eES, eEX, Nat.reduceBEq, ↓reduceIte, reduceCtorEq, Nat.reduceEqDiff]) (fun s hs => by simp at hs; rcases hs with rfl | rfl <;> rfl) (fun f fr h1 h3 => ?_)
  simp only [h3, rng, Bool.true_and, eES, Nat.reduceBEq, ↓reduceIte]

end Go.Proofs.YtelhohgmmhbahaaGreatDoor.Va

set_option linter.unusedSimpArgs false
namespace Go.Proofs.YtelhohgmmhbahaaGreatDoor.Va
open Go Am Rc Bt Br

def SmI (P : PL) (n c : Nat) (k : Nat) (st : St) : Prop :=
  ∃ f fr i b, st = ⟨f, [fr], []⟩ ∧ k = n - i ∧ f 1 = .ptr 0 1 0 ∧ fr 1 = .cells [.list (P.progs.map gav), .list (P.enums.map eav)] ∧ f 3 = .bool b ∧ f c = .int .i64 (i : Nat)

theorem small_loop {M : Nat} (P : PL) (hP : P.ok M) (f : Fr) (fr : Nat → Ob) (b : Bool) (h1 : f 1 = .ptr 0 1 0) (m1 : fr 1 = .cells [.list (P.progs.map gav), .list (P.enums.map eav)]) (h3 : f 3 = .bool b) (h5 : f 5 = .int .i64 0) (Q : Exit → St → Prop)
    (hx : ∀ f b, f 3 = .bool b → Q (.exit 2) (⟨f, [fr], []⟩ : St)) : awp Tryz.prog (.loop l11_1) ⟨f, [fr], []⟩ Q := by
  let I : Nat → St → Prop := fun k st => ∃ f i b, st = ⟨f, [fr], []⟩ ∧ k = P.enums.length - i ∧ f 1 = .ptr 0 1 0 ∧ f 3 = .bool b ∧ f 5 = .int .i64 (i : Nat)
  refine awp_loop I _ ⟨_, 0, b, rfl, rfl, h1, h3, h5⟩ ?_
  clear h1 h3 h5
  rintro _ st ⟨f, i, b, rfl, rfl, h1, h3, h5⟩
  simp only [l11_1, g11_7, g11_9, g11_8, h3, eES, Nat.reduceBEq]
  by_cases hlt : i < P.enums.length
  · obtain ⟨x, hi⟩ : ∃ x, P.enums[i]? = some x := ⟨P.enums[i], List.getElem?_eq_getElem hlt⟩
    have hg : (P.enums.map eav)[i]? = some (.agg x.cells) := by simp [hi, eav]
    simp only [PE.cells] at hg
    have e1 := wi64_s i _ hlt hP.len2
    cases b <;> simp only [lt_t hlt, nneg, Int.toNat_natCast, aiaddr, List.length_map, hg, h1, m1, h5, eES, eEX, Nat.reduceBEq, ↓reduceIte, Nat.reduceAdd]
    · exact hx _ _ (by first | rfl | exact h3 | simp only [h3, eES, eEX, Nat.reduceBEq, ↓reduceIte, reduceCtorEq, Nat.reduceEqDiff])
    · repeat' (first | (refine csel_of (fun h => ?_) (fun h => ?_) <;> simp only [h, lt_t hlt, nneg, Int.toNat_natCast, aiaddr, List.length_map, hg, h1, m1, h3, h5, e1, eES, eEX, Nat.reduceBEq, Int.reduceLE, Int.reduceLT, Int.reduceToNat, Int.reduceEq, ↓reduceIte, reduceCtorEq, Nat.reducePow, Nat.reduceAdd, Nat.reduceLeDiff, Nat.reduceLT, Nat.reduceSub, Nat.reduceEqDiff]) | (refine gsel_t (fun h => ?_) (fun h => ?_) <;> simp only [h, updO, nneg, Int.toNat_natCast, aiaddr, List.length_map, hg, h1, m1, h5, e1, eES, eEX, Nat.reduceBEq, ↓reduceIte, Nat.reduceAdd]) | (refine gsel_f (fun h => ?_) (fun h => ?_) <;> simp only [h, updO, lt_t hlt, nneg, Int.toNat_natCast, aiaddr, List.length_map, hg, h1, m1, h3, h5, e1, eES, eEX, Nat.reduceBEq, Int.reduceLE, Int.reduceLT, Int.reduceToNat, Int.reduceEq, ↓reduceIte, reduceCtorEq, Nat.reducePow, Nat.reduceAdd, Nat.reduceLeDiff, Nat.reduceLT, Nat.reduceSub, Nat.reduceEqDiff]))
      all_goals exact ⟨P.enums.length - (i + 1), by omega, _, i + 1, _, rfl, rfl, (by first | rfl | exact h1 | simp only [h1, eES, eEX, Nat.reduceBEq, ↓reduceIte, reduceCtorEq, Nat.reduceEqDiff]), (by first | rfl | simp only [eES, eEX, Nat.reduceBEq, ↓reduceIte, reduceCtorEq, Nat.reduceEqDiff]), (by first | rfl | simp only [eES, eEX, Nat.reduceBEq, ↓reduceIte, reduceCtorEq, Nat.reduceEqDiff])⟩
  · cases b <;> simp only [lt_f hlt, List.length_map, h1, m1, h5, eES, eEX, Nat.reduceBEq, ↓reduceIte, Nat.reduceAdd] <;> exact hx _ _ (by first | rfl | exact h3 | simp only [h3, eES, eEX, Nat.reduceBEq, ↓reduceIte, reduceCtorEq, Nat.reduceEqDiff])

theorem c11 {M : Nat} (P : PL) (hP : P.ok M) : Fn? Tryz.prog 11 [P.av] RB := by
  have e0 : P.av = .agg [.list (P.progs.map gav), .list (P.enums.map eav)] := rfl
  refine fnR_of_awp (rc := r11) (rs := o11) Tryz.func11 rfl rfl Tryz.ntmps11 k11 q11 (by simp) ?_
  simp only [g11_0, g11_1, g11_2, g11_6, g11_10, r11, o11, e0, eES, eEX, Nat.reduceBEq, ↓reduceIte, Nat.reduceAdd]
  repeat' (first | (refine csel_of (fun h => ?_) (fun h => ?_) <;> simp only [h, rb, eES, eEX, Nat.reduceBEq, Int.reduceLE, Int.reduceLT, Int.reduceToNat, Int.reduceEq, ↓reduceIte, reduceCtorEq, Nat.reducePow, Nat.reduceAdd, Nat.reduceLeDiff, Nat.reduceLT, Nat.reduceSub, Nat.reduceEqDiff]) | (refine gsel_t (fun h => ?_) (fun h => ?_) <;> simp only [h, updO, eES, eEX, Nat.reduceBEq, ↓reduceIte, Nat.reduceAdd]) | (refine gsel_f (fun h => ?_) (fun h => ?_) <;> simp only [h, updO, rb, eES, eEX, Nat.reduceBEq, Int.reduceLE, Int.reduceLT, Int.reduceToNat, Int.reduceEq, ↓reduceIte, reduceCtorEq, Nat.reducePow, Nat.reduceAdd, Nat.reduceLeDiff, Nat.reduceLT, Nat.reduceSub, Nat.reduceEqDiff]))
  all_goals
    refine awp_loop (SmI P P.progs.length 4) _ ⟨_, _, 0, _, rfl, rfl, (by first | rfl | simp only [eES, eEX, Nat.reduceBEq, ↓reduceIte, reduceCtorEq, Nat.reduceEqDiff]), (by first | rfl | simp only [eES, eEX, Nat.reduceBEq, ↓reduceIte, reduceCtorEq, Nat.reduceEqDiff]), (by first | rfl | simp only [eES, eEX, Nat.reduceBEq, ↓reduceIte, reduceCtorEq, Nat.reduceEqDiff]), (by first | rfl | simp only [eES, eEX, Nat.reduceBEq, ↓reduceIte, reduceCtorEq, Nat.reduceEqDiff])⟩ ?_
    rintro _ st ⟨f, fr, i, b, rfl, rfl, h1, m1, h3, h4⟩
    simp only [l11_0, g11_3, g11_5, g11_4, h3, eES, Nat.reduceBEq]
    by_cases hlt : i < P.progs.length
    · obtain ⟨x, hi⟩ : ∃ x, P.progs[i]? = some x := ⟨P.progs[i], List.getElem?_eq_getElem hlt⟩
      have hg : (P.progs.map gav)[i]? = some (.agg x.cells) := by simp [hi, gav]
      simp only [PG.cells] at hg
      have e1 := wi64_s i _ hlt hP.len1
      cases b <;> simp only [lt_t hlt, nneg, Int.toNat_natCast, aiaddr, List.length_map, hg, h1, m1, h4, e1, eES, eEX, Nat.reduceBEq, ↓reduceIte, Nat.reduceAdd]
      · refine small_loop P hP _ _ _ (by first | rfl | exact h1 | simp only [h1, eES, eEX, Nat.reduceBEq, ↓reduceIte, reduceCtorEq, Nat.reduceEqDiff]) m1 (by first | rfl | exact h3 | simp only [h3, eES, eEX, Nat.reduceBEq, ↓reduceIte, reduceCtorEq, Nat.reduceEqDiff]) (by first | rfl | simp only [eES, eEX, Nat.reduceBEq, ↓reduceIte, reduceCtorEq, Nat.reduceEqDiff]) _ (fun f b h3 => ?_)
        simp only [h3, rb, eES, Nat.reduceBEq, ↓reduceIte]
      · exact ⟨P.progs.length - (i + 1), by omega, _, _, i + 1, _, rfl, rfl, (by first | rfl | exact h1 | simp only [h1, eES, eEX, Nat.reduceBEq, ↓reduceIte, reduceCtorEq, Nat.reduceEqDiff]), (by first | rfl | exact m1 | simp only [m1, eES, eEX, Nat.reduceBEq, ↓reduceIte, reduceCtorEq, Nat.reduceEqDiff]), (by first | rfl | simp only [eES, eEX, Nat.reduceBEq, ↓reduceIte, reduceCtorEq, Nat.reduceEqDiff]), (by first | rfl | simp only [eES, eEX, Nat.reduceBEq, ↓reduceIte, reduceCtorEq, Nat.reduceEqDiff])⟩
    · cases b <;> simp only [lt_f hlt, List.length_map, h1, m1, h4, eES, eEX, Nat.reduceBEq, ↓reduceIte, Nat.reduceAdd]
      all_goals
        refine small_loop P hP _ _ _ (by first | rfl | exact h1 | simp only [h1, eES, eEX, Nat.reduceBEq, ↓reduceIte, reduceCtorEq, Nat.reduceEqDiff]) m1 (by first | rfl | exact h3 | simp only [h3, eES, eEX, Nat.reduceBEq, ↓reduceIte, reduceCtorEq, Nat.reduceEqDiff]) (by first | rfl | simp only [eES, eEX, Nat.reduceBEq, ↓reduceIte, reduceCtorEq, Nat.reduceEqDiff]) _ (fun f b h3 => ?_)
        simp only [h3, rb, eES, Nat.reduceBEq, ↓reduceIte]

end Go.Proofs.YtelhohgmmhbahaaGreatDoor.Va

set_option linter.unusedSimpArgs false
namespace Go.Proofs.YtelhohgmmhbahaaGreatDoor.Va
open Go Am Rc Bt Br

structure Fi (P : PL) (c : Nat) (B : List Bool) (a : Bool) (f : Fr) (fr : Nat → Ob) : Prop where
  h1 : f 1 = .ptr 0 1 0
  m1 : fr 1 = .cells (Pc P)
  h3 : f 3 = .vec 0 12 1 0 P.progs.length false
  m12 : fr 12 = .vec 1 1 (B.map AV.bool)
  h4 : f 4 = .bool a
  h19 : f 19 = .int .i64 (P.progs.length : Nat)
  h20 : f 20 = .int .i64 (c : Nat)
  r8 : ∀ s ∈ [8], (fr s).isRow = false

theorem Fi.drop {P : PL} {c : Nat} {B : List Bool} {a : Bool} {f f' : Fr} {fr fr' : Nat → Ob} (h : Fi P c B a f fr) (hf : ∀ i, f' i = scrs [8] (f i)) (hm : ∀ i, i ∉ [8] → fr' i = oscrs [8] (fr i)) (hn : ∀ i ∈ [8], fr' i = .none) : Fi P c B a f' fr' where
  h1 := by rw [hf, h.h1] <;> rfl
  m1 := by rw [hm 1 (by decide), h.m1] <;> rfl
  h3 := by rw [hf, h.h3] <;> rfl
  m12 := by rw [hm 12 (by decide), h.m12] <;> rfl
  h4 := by rw [hf, h.h4] <;> rfl
  h19 := by rw [hf, h.h19] <;> rfl
  h20 := by rw [hf, h.h20] <;> rfl
  r8 := fun s hs => by rw [hn s hs] <;> rfl

section
variable {M : Nat} (P : PL) (hP : P.ok M) (hl : P.progs.length ≤ 64) (hT : Tgt P) (c : Nat) (B : List Bool) (hB : B.length = P.progs.length) (a : Bool)
include hP hT hB

theorem fini (i : Nat) (g : PG) (hg : P.progs[i]? = some g) (f : Fr) (fr : Nat → Ob) (H : Fi P c B a f fr) (h5 : f 5 = .int .i64 (i : Nat)) (h6 : f 6 = .bool true) (h7 : f 7 = .int .i64 0) (Q : Exit → St → Prop)
    (hx : ∀ f fr, Fi P c B a f fr → f 5 = .int .i64 (i : Nat) → f 6 = .bool (!g.ops.any (need B)) → Q (.exit 4) (⟨f, [fr], []⟩ : St)) : awp Tryz.prog (.loop l36_0) ⟨f, [fr], []⟩ Q := by
  let I : Nat → St → Prop := fun k st => ∃ f fr j, st = ⟨f, [fr], []⟩ ∧ k = g.ops.length - j ∧ j ≤ g.ops.length ∧ Fi P c B a f fr ∧ f 5 = .int .i64 (i : Nat) ∧ f 6 = .bool (!(g.ops.take j).any (need B)) ∧ f 7 = .int .i64 (j : Nat)
  have hgm : (P.progs.map gav)[i]? = some (.agg g.cells) := by simp [hg, gav]
  have hgo := hP.progs g (List.mem_of_getElem? hg)
  refine awp_loop I _ ⟨f, fr, 0, rfl, rfl, Nat.zero_le _, H, h5, by rw [h6]; simp, h7⟩ ?_
  clear H h5 h6 h7
  simp only [PG.cells] at hgm
  rintro _ st ⟨f0, fr0, j, rfl, rfl, hj, H0, h50, h60, h70⟩
  refine awp_drops (a := _) [8] H0.r8 ?_
  intro f fr hf hm hn
  have H := H0.drop hf hm hn
  have h5 : f 5 = .int .i64 (i : Nat) := by rw [hf, h50] <;> rfl
  have h6 : f 6 = .bool (!(g.ops.take j).any (need B)) := by rw [hf, h60] <;> rfl
  have h7 : f 7 = .int .i64 (j : Nat) := by rw [hf, h70] <;> rfl
  have n8 := hn 8 (by decide)
  clear hf hm hn H0 h50 h60 h70
  obtain ⟨h1, m1, h3, m12, h4, h19, h20, r8⟩ := id H
  simp only [Pc] at m1
  simp only [g36_11, g36_13, g36_14, g36_12, nneg, Int.toNat_natCast, aiaddr, hgm, List.length_map, h1, m1, h5, h7, eES, eEX, Nat.reduceBEq, ↓reduceIte, Nat.reduceAdd]
  by_cases hlt : j < g.ops.length
  · obtain ⟨o, ho⟩ : ∃ o, g.ops[j]? = some o := ⟨g.ops[j], List.getElem?_eq_getElem hlt⟩
    have hom : (g.ops.map fun o => AV.agg o.cells)[j]? = some (.agg o.cells) := by simp [ho]
    have e1 := wi64_s j _ hlt hgo.len
    have htg := hT g (List.mem_of_getElem? hg) o (List.mem_of_getElem? ho)
    have ht := take_any (q := need B) ho
    have fin2 : ∀ (f' : Fr) (fr' : Nat → Ob) (v : Bool), (!(g.ops.take j).any (need B) && !need B o) = v → Fi P c B a f' fr' → f' 5 = .int .i64 (i : Nat) → f' 6 = .bool v → f' 7 = .int .i64 ((j + 1 : Nat) : Int) → ∃ k, k < g.ops.length - j ∧ I k ⟨f', [fr'], []⟩ := by
      intro f' fr' v hv b1 b2 b3 b4
      exact ⟨g.ops.length - (j + 1), by omega, f', fr', j + 1, rfl, rfl, by omega, b1, b2, by rw [b3, ht, Bool.not_or, hv], b4⟩
    simp only [PO.cells] at hom
    have m1' : fr 1 = .cells (Pc P) := by rw [m1] <;> rfl
    cases hb : !(g.ops.take j).any (need B)
    · rw [hb] at fin2 h6
      simp only [Bool.false_and] at fin2
      simp only [lt_t hlt, nneg, Int.toNat_natCast, aiaddr, hgm, hom, PO.cells, n8, splice, List.take_succ_cons, List.take_zero, List.drop_succ_cons, List.drop_zero, List.drop_nil, List.append_nil, List.nil_append, List.length_cons, List.length_nil, h1, m1, h5, h6, h7, e1, eES, eEX, Nat.reduceBEq, ↓reduceIte, Nat.reduceAdd, Nat.reduceLeDiff]
      exact fin2 _ _ _ rfl ⟨(by first | rfl | exact h1 | simp only [h1, eES, eEX, Nat.reduceBEq, ↓reduceIte, reduceCtorEq, Nat.reduceEqDiff]), (by first | rfl | exact m1' | simp only [m1', eES, eEX, Nat.reduceBEq, ↓reduceIte, reduceCtorEq, Nat.reduceEqDiff]), (by first | rfl | exact h3 | simp only [h3, eES, eEX, Nat.reduceBEq, ↓reduceIte, reduceCtorEq, Nat.reduceEqDiff]), (by first | rfl | exact m12 | simp only [m12, eES, eEX, Nat.reduceBEq, ↓reduceIte, reduceCtorEq, Nat.reduceEqDiff]), (by first | rfl | exact h4 | simp only [h4, eES, eEX, Nat.reduceBEq, ↓reduceIte, reduceCtorEq, Nat.reduceEqDiff]), (by first | rfl | exact h19 | simp only [h19, eES, eEX, Nat.reduceBEq, ↓reduceIte, reduceCtorEq, Nat.reduceEqDiff]), (by first | rfl | exact h20 | simp only [h20, eES, eEX, Nat.reduceBEq, ↓reduceIte, reduceCtorEq, Nat.reduceEqDiff]), by simp <;> rfl⟩ (by first | rfl | exact h5 | simp only [h5, eES, eEX, Nat.reduceBEq, ↓reduceIte, reduceCtorEq, Nat.reduceEqDiff]) (by first | rfl | simp only [eES, eEX, Nat.reduceBEq, ↓reduceIte, reduceCtorEq, Nat.reduceEqDiff]) (by first | rfl | simp only [eES, eEX, Nat.reduceBEq, ↓reduceIte, reduceCtorEq, Nat.reduceEqDiff])
    rw [hb] at fin2 h6
    simp only [Bool.true_and] at fin2
    cases c1 : (o.card == 1)
    · have c1' : (o.card != 1) = true := by rw [bne, c1]; rfl
      have hne : (!need B o) = true := by unfold need; rw [c1]; rfl
      rw [hne] at fin2
      simp only [lt_t hlt, nneg, Int.toNat_natCast, aiaddr, hgm, hom, PO.cells, n8, splice, List.take_succ_cons, List.take_zero, List.drop_succ_cons, List.drop_zero, List.drop_nil, List.append_nil, List.nil_append, List.length_cons, List.length_nil, c1', h1, m1, h5, h6, h7, e1, eES, eEX, Nat.reduceBEq, ↓reduceIte, Nat.reduceAdd, Nat.reduceLeDiff]
      exact fin2 _ _ _ rfl ⟨(by first | rfl | exact h1 | simp only [h1, eES, eEX, Nat.reduceBEq, ↓reduceIte, reduceCtorEq, Nat.reduceEqDiff]), (by first | rfl | exact m1' | simp only [m1', eES, eEX, Nat.reduceBEq, ↓reduceIte, reduceCtorEq, Nat.reduceEqDiff]), (by first | rfl | exact h3 | simp only [h3, eES, eEX, Nat.reduceBEq, ↓reduceIte, reduceCtorEq, Nat.reduceEqDiff]), (by first | rfl | exact m12 | simp only [m12, eES, eEX, Nat.reduceBEq, ↓reduceIte, reduceCtorEq, Nat.reduceEqDiff]), (by first | rfl | exact h4 | simp only [h4, eES, eEX, Nat.reduceBEq, ↓reduceIte, reduceCtorEq, Nat.reduceEqDiff]), (by first | rfl | exact h19 | simp only [h19, eES, eEX, Nat.reduceBEq, ↓reduceIte, reduceCtorEq, Nat.reduceEqDiff]), (by first | rfl | exact h20 | simp only [h20, eES, eEX, Nat.reduceBEq, ↓reduceIte, reduceCtorEq, Nat.reduceEqDiff]), by simp <;> rfl⟩ (by first | rfl | exact h5 | simp only [h5, eES, eEX, Nat.reduceBEq, ↓reduceIte, reduceCtorEq, Nat.reduceEqDiff]) (by first | rfl | simp only [eES, eEX, Nat.reduceBEq, ↓reduceIte, reduceCtorEq, Nat.reduceEqDiff]) (by first | rfl | simp only [eES, eEX, Nat.reduceBEq, ↓reduceIte, reduceCtorEq, Nat.reduceEqDiff])
    have c1' : (o.card != 1) = false := by rw [bne, c1]; rfl
    cases c2 : (o.kind == 10)
    · have c2' : (o.kind != 10) = true := by rw [bne, c2]; rfl
      have hne : (!need B o) = true := by unfold need; rw [c1, c2]; rfl
      rw [hne] at fin2
      simp only [lt_t hlt, nneg, Int.toNat_natCast, aiaddr, hgm, hom, PO.cells, n8, splice, List.take_succ_cons, List.take_zero, List.drop_succ_cons, List.drop_zero, List.drop_nil, List.append_nil, List.nil_append, List.length_cons, List.length_nil, c1', c2', h1, m1, h5, h6, h7, e1, eES, eEX, Nat.reduceBEq, ↓reduceIte, Nat.reduceAdd, Nat.reduceLeDiff]
      exact fin2 _ _ _ rfl ⟨(by first | rfl | exact h1 | simp only [h1, eES, eEX, Nat.reduceBEq, ↓reduceIte, reduceCtorEq, Nat.reduceEqDiff]), (by first | rfl | exact m1' | simp only [m1', eES, eEX, Nat.reduceBEq, ↓reduceIte, reduceCtorEq, Nat.reduceEqDiff]), (by first | rfl | exact h3 | simp only [h3, eES, eEX, Nat.reduceBEq, ↓reduceIte, reduceCtorEq, Nat.reduceEqDiff]), (by first | rfl | exact m12 | simp only [m12, eES, eEX, Nat.reduceBEq, ↓reduceIte, reduceCtorEq, Nat.reduceEqDiff]), (by first | rfl | exact h4 | simp only [h4, eES, eEX, Nat.reduceBEq, ↓reduceIte, reduceCtorEq, Nat.reduceEqDiff]), (by first | rfl | exact h19 | simp only [h19, eES, eEX, Nat.reduceBEq, ↓reduceIte, reduceCtorEq, Nat.reduceEqDiff]), (by first | rfl | exact h20 | simp only [h20, eES, eEX, Nat.reduceBEq, ↓reduceIte, reduceCtorEq, Nat.reduceEqDiff]), by simp <;> rfl⟩ (by first | rfl | exact h5 | simp only [h5, eES, eEX, Nat.reduceBEq, ↓reduceIte, reduceCtorEq, Nat.reduceEqDiff]) (by first | rfl | simp only [eES, eEX, Nat.reduceBEq, ↓reduceIte, reduceCtorEq, Nat.reduceEqDiff]) (by first | rfl | simp only [eES, eEX, Nat.reduceBEq, ↓reduceIte, reduceCtorEq, Nat.reduceEqDiff])
    have c2' : (o.kind != 10) = false := by rw [bne, c2]; rfl
    obtain ⟨t1, t2⟩ := htg (by simpa using c2)
    obtain ⟨t, hte⟩ := Int.eq_ofNat_of_zero_le t1
    obtain ⟨y, hy⟩ : ∃ y, B[t]? = some y := ⟨B[t]'(by omega), List.getElem?_eq_getElem (by omega)⟩
    have hym : (B.map AV.bool)[t]? = some (.bool y) := by simp [hy]
    have hlt2 : (t < P.progs.length) = True := eq_true (by omega)
    have hne : (!need B o) = y := by unfold need; rw [c1, c2, hte, Int.toNat_natCast, hy]; cases y <;> rfl
    rw [hne] at fin2
    simp only [lt_t hlt, nneg, Int.toNat_natCast, aiaddr, hgm, hom, PO.cells, n8, splice, List.take_succ_cons, List.take_zero, List.drop_succ_cons, List.drop_zero, List.drop_nil, List.append_nil, List.nil_append, List.length_cons, List.length_nil, c1', c2', hte, hym, hlt2, m12, Nat.zero_add, h1, m1, h3, h5, h6, h7, e1, eES, eEX, Nat.reduceBEq, ↓reduceIte, Nat.reduceAdd, Nat.reduceLeDiff]
    exact fin2 _ _ _ rfl ⟨(by first | rfl | exact h1 | simp only [h1, eES, eEX, Nat.reduceBEq, ↓reduceIte, reduceCtorEq, Nat.reduceEqDiff]), (by first | rfl | exact m1' | simp only [m1', eES, eEX, Nat.reduceBEq, ↓reduceIte, reduceCtorEq, Nat.reduceEqDiff]), (by first | rfl | exact h3 | simp only [h3, eES, eEX, Nat.reduceBEq, ↓reduceIte, reduceCtorEq, Nat.reduceEqDiff]), (by first | rfl | exact m12 | simp only [m12, eES, eEX, Nat.reduceBEq, ↓reduceIte, reduceCtorEq, Nat.reduceEqDiff]), (by first | rfl | exact h4 | simp only [h4, eES, eEX, Nat.reduceBEq, ↓reduceIte, reduceCtorEq, Nat.reduceEqDiff]), (by first | rfl | exact h19 | simp only [h19, eES, eEX, Nat.reduceBEq, ↓reduceIte, reduceCtorEq, Nat.reduceEqDiff]), (by first | rfl | exact h20 | simp only [h20, eES, eEX, Nat.reduceBEq, ↓reduceIte, reduceCtorEq, Nat.reduceEqDiff]), by simp <;> rfl⟩ (by first | rfl | exact h5 | simp only [h5, eES, eEX, Nat.reduceBEq, ↓reduceIte, reduceCtorEq, Nat.reduceEqDiff]) (by first | rfl | simp only [eES, eEX, Nat.reduceBEq, ↓reduceIte, reduceCtorEq, Nat.reduceEqDiff]) (by first | rfl | simp only [eES, eEX, Nat.reduceBEq, ↓reduceIte, reduceCtorEq, Nat.reduceEqDiff])
  · have hf : (g.ops.take j).any (need B) = g.ops.any (need B) := by rw [List.take_of_length_le (by omega)]
    rw [hf] at h6
    simp only [lt_f hlt, eES]
    refine hx _ _ ⟨(by first | rfl | exact h1 | simp only [h1, eES, eEX, Nat.reduceBEq, ↓reduceIte, reduceCtorEq, Nat.reduceEqDiff]), by rw [m1] <;> rfl, (by first | rfl | exact h3 | simp only [h3, eES, eEX, Nat.reduceBEq, ↓reduceIte, reduceCtorEq, Nat.reduceEqDiff]), (by first | rfl | exact m12 | simp only [m12, eES, eEX, Nat.reduceBEq, ↓reduceIte, reduceCtorEq, Nat.reduceEqDiff]), (by first | rfl | exact h4 | simp only [h4, eES, eEX, Nat.reduceBEq, ↓reduceIte, reduceCtorEq, Nat.reduceEqDiff]), (by first | rfl | exact h19 | simp only [h19, eES, eEX, Nat.reduceBEq, ↓reduceIte, reduceCtorEq, Nat.reduceEqDiff]), (by first | rfl | exact h20 | simp only [h20, eES, eEX, Nat.reduceBEq, ↓reduceIte, reduceCtorEq, Nat.reduceEqDiff]), r8⟩ (by first | rfl | exact h5 | simp only [h5, eES, eEX, Nat.reduceBEq, ↓reduceIte, reduceCtorEq, Nat.reduceEqDiff]) (by first | rfl | exact h6 | simp only [h6, eES, eEX, Nat.reduceBEq, ↓reduceIte, reduceCtorEq, Nat.reduceEqDiff])

end

theorem set_take {B : List Bool} {i : Nat} (h : i < B.length) (v : Bool) : ((B.set i v).take (i + 1)).all id = ((B.take i).all id && v) := by
  have h1 : (B.set i v)[i]? = some v := List.getElem?_set_self h
  rw [take_all h1, List.take_set_of_le (Nat.le_refl _)]
  rfl

section
variable {M : Nat} (P : PL) (hP : P.ok M) (hl : P.progs.length ≤ 64) (hT : Tgt P) (c : Nat)
include hP hl hT

theorem finm (f : Fr) (fr : Nat → Ob) (H : Fi P c (its P.progs c) true f fr) (h5 : f 5 = .int .i64 0) (Q : Exit → St → Prop) (hx : ∀ f fr, Fi P c (its P.progs (c + 1)) ((its P.progs (c + 1)).all id) f fr → Q (.exit 2) (⟨f, [fr], []⟩ : St)) : awp Tryz.prog (.loop l36_1) ⟨f, [fr], []⟩ Q := by
  let I : Nat → St → Prop := fun k st => ∃ f fr i, st = ⟨f, [fr], []⟩ ∧ k = P.progs.length - i ∧ i ≤ P.progs.length ∧ Fi P c (rnd P.progs (its P.progs c) i) (((rnd P.progs (its P.progs c) i).take i).all id) f fr ∧ f 5 = .int .i64 (i : Nat)
  refine awp_loop I _ ⟨f, fr, 0, rfl, rfl, Nat.zero_le _, H, h5⟩ ?_
  clear H h5
  rintro _ st ⟨f0, fr0, i, rfl, rfl, hi, H0, h50⟩
  refine awp_drops (a := _) [8] H0.r8 ?_
  intro f fr hf hm hn
  have H := H0.drop hf hm hn
  have h5 : f 5 = .int .i64 (i : Nat) := by rw [hf, h50] <;> rfl
  clear hf hm hn H0 h50
  have hBl : (rnd P.progs (its P.progs c) i).length = P.progs.length := by rw [rnd_len, its_len]
  obtain ⟨h1, m1, h3, m12, h4, h19, h20, r8⟩ := id H
  have m1' := m1
  simp only [Pc] at m1
  simp only [g36_7, g36_9, g36_10, g36_15, g36_16, g36_8, List.length_map, h1, m1, h5, eES, eEX, Nat.reduceBEq, ↓reduceIte, Nat.reduceAdd]
  by_cases hlt : i < P.progs.length
  · obtain ⟨g, hg⟩ : ∃ g, P.progs[i]? = some g := ⟨P.progs[i], List.getElem?_eq_getElem hlt⟩
    have e1 := wi64_s i _ hlt (by simp only [maxLen]; omega)
    have hst : rnd P.progs (its P.progs c) (i + 1) = (rnd P.progs (its P.progs c) i).set i (!g.ops.any (need (rnd P.progs (its P.progs c) i))) := by
      rw [rnd]
      conv => lhs; unfold stp
      rw [hg]
    have htk := set_take (B := rnd P.progs (its P.progs c) i) (i := i) (by omega) (!g.ops.any (need (rnd P.progs (its P.progs c) i)))
    rw [← hst] at htk
    simp only [lt_t hlt, eES]
    refine fini P hP hT c _ hBl _ i g hg _ fr ⟨(by first | rfl | exact h1 | simp only [h1, eES, eEX, Nat.reduceBEq, ↓reduceIte, reduceCtorEq, Nat.reduceEqDiff]), m1', (by first | rfl | exact h3 | simp only [h3, eES, eEX, Nat.reduceBEq, ↓reduceIte, reduceCtorEq, Nat.reduceEqDiff]), m12, (by first | rfl | exact h4 | simp only [h4, eES, eEX, Nat.reduceBEq, ↓reduceIte, reduceCtorEq, Nat.reduceEqDiff]), (by first | rfl | exact h19 | simp only [h19, eES, eEX, Nat.reduceBEq, ↓reduceIte, reduceCtorEq, Nat.reduceEqDiff]), (by first | rfl | exact h20 | simp only [h20, eES, eEX, Nat.reduceBEq, ↓reduceIte, reduceCtorEq, Nat.reduceEqDiff]), r8⟩ (by first | rfl | exact h5 | simp only [h5, eES, eEX, Nat.reduceBEq, ↓reduceIte, reduceCtorEq, Nat.reduceEqDiff]) (by first | rfl | simp only [eES, eEX, Nat.reduceBEq, ↓reduceIte, reduceCtorEq, Nat.reduceEqDiff]) (by first | rfl | simp only [eES, eEX, Nat.reduceBEq, ↓reduceIte, reduceCtorEq, Nat.reduceEqDiff]) _ (fun f fr H h5 h6 => ?_)
    generalize hBB : rnd P.progs (its P.progs c) i = B at *
    generalize hv : (!g.ops.any (need B)) = v at *
    obtain ⟨h1, m1, h3, m12, h4, h19, h20, r8⟩ := H
    obtain ⟨y, hy⟩ : ∃ y, B[i]? = some y := ⟨B[i]'(by omega), List.getElem?_eq_getElem (by omega)⟩
    have hym : (B.map AV.bool)[i]? = some (.bool y) := by simp [hy]
    have ia : aiaddr [fr] 1 none (.vec 0 12 1 0 P.progs.length false) (i : Int) = some (.vptr 0 12 1 i 0) := by
      have e : Am.look [fr] 0 12 = .vec 1 1 (B.map AV.bool) := m12
      simp only [aiaddr, e, nneg, if_true, Int.toNat_natCast]
      simp; omega
    have ist : astore [fr] (.vptr 0 12 1 i 0) [.bool v] = some [upd fr 12 (.vec 1 1 ((B.map AV.bool).set i (.bool v)))] := by
      have e : Am.look [fr] 0 12 = .vec 1 1 (B.map AV.bool) := m12
      simp only [astore, e, hym]
      simp [AV.cells, AV.rfL, AV.rf, Am.put, newElem]
    have hset : (B.map AV.bool).set i (.bool v) = (rnd P.progs (its P.progs c) (i + 1)).map AV.bool := by rw [hst, List.map_set]
    rw [hset] at ist
    cases hal : (B.take i).all id
    · rw [hal] at h4 htk
      simp only [ia, ist, h3, h4, h5, h6, e1, eES, eEX, Nat.reduceBEq, ↓reduceIte, Nat.reduceAdd]
      exact ⟨P.progs.length - (i + 1), by omega, _, _, i + 1, rfl, rfl, by omega, ⟨(by first | rfl | exact h1 | simp only [h1, eES, eEX, Nat.reduceBEq, ↓reduceIte, reduceCtorEq, Nat.reduceEqDiff]), (by first | rfl | exact m1 | simp only [m1, eES, eEX, Nat.reduceBEq, ↓reduceIte, reduceCtorEq, Nat.reduceEqDiff]), (by first | rfl | exact h3 | simp only [h3, eES, eEX, Nat.reduceBEq, ↓reduceIte, reduceCtorEq, Nat.reduceEqDiff]), (by first | rfl | simp only [eES, eEX, Nat.reduceBEq, ↓reduceIte, reduceCtorEq, Nat.reduceEqDiff]), by rw [htk] <;> first | exact h4 | simp only [h4, Bool.false_and, eES, Nat.reduceBEq], (by first | rfl | exact h19 | simp only [h19, eES, eEX, Nat.reduceBEq, ↓reduceIte, reduceCtorEq, Nat.reduceEqDiff]), (by first | rfl | exact h20 | simp only [h20, eES, eEX, Nat.reduceBEq, ↓reduceIte, reduceCtorEq, Nat.reduceEqDiff]), fun s hs => by simp at hs; subst hs; rw [upd_ne _ _ (by decide)]; exact r8 8 (by simp)⟩, (by first | rfl | simp only [eES, eEX, Nat.reduceBEq, ↓reduceIte, reduceCtorEq, Nat.reduceEqDiff])⟩
    · rw [hal] at h4 htk
      simp only [ia, ist, h3, h4, h5, h6, e1, eES, eEX, Nat.reduceBEq, ↓reduceIte, Nat.reduceAdd]
      exact ⟨P.progs.length - (i + 1), by omega, _, _, i + 1, rfl, rfl, by omega, ⟨(by first | rfl | exact h1 | simp only [h1, eES, eEX, Nat.reduceBEq, ↓reduceIte, reduceCtorEq, Nat.reduceEqDiff]), (by first | rfl | exact m1 | simp only [m1, eES, eEX, Nat.reduceBEq, ↓reduceIte, reduceCtorEq, Nat.reduceEqDiff]), (by first | rfl | exact h3 | simp only [h3, eES, eEX, Nat.reduceBEq, ↓reduceIte, reduceCtorEq, Nat.reduceEqDiff]), (by first | rfl | simp only [eES, eEX, Nat.reduceBEq, ↓reduceIte, reduceCtorEq, Nat.reduceEqDiff]), by rw [htk, Bool.true_and] <;> first | rfl | simp only [eES, eEX, Nat.reduceBEq, ↓reduceIte, reduceCtorEq, Nat.reduceEqDiff], (by first | rfl | exact h19 | simp only [h19, eES, eEX, Nat.reduceBEq, ↓reduceIte, reduceCtorEq, Nat.reduceEqDiff]), (by first | rfl | exact h20 | simp only [h20, eES, eEX, Nat.reduceBEq, ↓reduceIte, reduceCtorEq, Nat.reduceEqDiff]), fun s hs => by simp at hs; subst hs; rw [upd_ne _ _ (by decide)]; exact r8 8 (by simp)⟩, (by first | rfl | simp only [eES, eEX, Nat.reduceBEq, ↓reduceIte, reduceCtorEq, Nat.reduceEqDiff])⟩
  · have hii : i = P.progs.length := by omega
    subst hii
    have hits : rnd P.progs (its P.progs c) P.progs.length = its P.progs (c + 1) := rfl
    rw [hits] at H hBl m12 h4
    rw [List.take_of_length_le (by omega)] at h4
    simp only [lt_f hlt, eES]
    exact hx _ _ ⟨(by first | rfl | exact h1 | simp only [h1, eES, eEX, Nat.reduceBEq, ↓reduceIte, reduceCtorEq, Nat.reduceEqDiff]), m1', (by first | rfl | exact h3 | simp only [h3, eES, eEX, Nat.reduceBEq, ↓reduceIte, reduceCtorEq, Nat.reduceEqDiff]), m12, (by first | rfl | exact h4 | simp only [h4, eES, eEX, Nat.reduceBEq, ↓reduceIte, reduceCtorEq, Nat.reduceEqDiff]), (by first | rfl | exact h19 | simp only [h19, eES, eEX, Nat.reduceBEq, ↓reduceIte, reduceCtorEq, Nat.reduceEqDiff]), (by first | rfl | exact h20 | simp only [h20, eES, eEX, Nat.reduceBEq, ↓reduceIte, reduceCtorEq, Nat.reduceEqDiff]), r8⟩

end

theorem z36 {M : Nat} (P : PL) (hP : P.ok M) (hl : P.progs.length ≤ 64) (hT : Tgt P) : Fn1 Tryz.prog 36 [P.av] (.bool (fin P)) := by
  have e0 : P.av = .agg [.list (P.progs.map gav), .list (P.enums.map eav)] := rfl
  have hmx : P.progs.length ≤ maxLen := by simp only [maxLen]; omega
  have hz : zeroE 1 [AV.bool false] = .bool false := rfl
  have hr0 : (List.replicate P.progs.length (AV.bool false)) = (its P.progs 0).map AV.bool := by simp [its]
  let A : Nat → Bool := fun c => if c = 0 then (P.progs.length : Int) == 0 else (its P.progs c).all id
  have hA : A P.progs.length = fin P := by
    show (if P.progs.length = 0 then (P.progs.length : Int) == 0 else (its P.progs P.progs.length).all id) = (its P.progs P.progs.length).all id
    split
    · rename_i h
      rw [h]
      simp [its, h]
    · rfl
  let I : Nat → St → Prop := fun k st => ∃ f fr c, st = ⟨f, [fr], []⟩ ∧ k = P.progs.length - c ∧ c ≤ P.progs.length ∧ Fi P c (its P.progs c) (A c) f fr
  refine fn1_of_awp (rc := r36) (rs := o36) Tryz.func36 rfl rfl Tryz.ntmps36 k36 q36 (by simp) ?_
  simp only [g36_0, g36_1, g36_2, g36_3, g36_18, r36, o36, e0, List.length_map, eES, eEX, Nat.reduceBEq, Nat.reduceAdd]
  refine aops_mk (n := P.progs.length) (k := P.progs.length) rfl rfl (Nat.le_refl _) (by omega) (by omega) rfl ?_
  simp only [hz, hr0, List.length_map, eES, eEX, Nat.reduceBEq, ↓reduceIte, Nat.reduceAdd]
  refine awp_loop I _ ⟨_, _, 0, rfl, rfl, Nat.zero_le _, ⟨(by first | rfl | simp only [eES, eEX, Nat.reduceBEq, ↓reduceIte, reduceCtorEq, Nat.reduceEqDiff]), (by first | rfl | simp only [eES, eEX, Nat.reduceBEq, ↓reduceIte, reduceCtorEq, Nat.reduceEqDiff]), (by first | rfl | simp only [eES, eEX, Nat.reduceBEq, ↓reduceIte, reduceCtorEq, Nat.reduceEqDiff]), (by first | rfl | simp only [eES, eEX, Nat.reduceBEq, ↓reduceIte, reduceCtorEq, Nat.reduceEqDiff]), (by first | rfl | simp only [eES, eEX, Nat.reduceBEq, ↓reduceIte, reduceCtorEq, Nat.reduceEqDiff]), (by first | rfl | simp only [eES, eEX, Nat.reduceBEq, ↓reduceIte, reduceCtorEq, Nat.reduceEqDiff]), (by first | rfl | simp only [eES, eEX, Nat.reduceBEq, ↓reduceIte, reduceCtorEq, Nat.reduceEqDiff]), by simp <;> rfl⟩⟩ ?_
  rintro _ st ⟨f0, fr0, c, rfl, rfl, hc, H0⟩
  refine awp_drops (a := _) [8] H0.r8 ?_
  intro f fr hf hm hn
  have H := H0.drop hf hm hn
  clear hf hm hn H0
  obtain ⟨h1, m1, h3, m12, h4, h19, h20, r8⟩ := id H
  simp only [g36_4, g36_5, g36_6, g36_17, h19, h20, eES, Nat.reduceBEq, ↓reduceIte]
  by_cases hlt : c < P.progs.length
  · have e1 := wi64_s c _ hlt hmx
    simp only [lt_t hlt, eES]
    refine finm P hP hl hT c _ fr ⟨(by first | rfl | exact h1 | simp only [h1, eES, eEX, Nat.reduceBEq, ↓reduceIte, reduceCtorEq, Nat.reduceEqDiff]), m1, (by first | rfl | exact h3 | simp only [h3, eES, eEX, Nat.reduceBEq, ↓reduceIte, reduceCtorEq, Nat.reduceEqDiff]), m12, (by first | rfl | simp only [eES, eEX, Nat.reduceBEq, ↓reduceIte, reduceCtorEq, Nat.reduceEqDiff]), (by first | rfl | exact h19 | simp only [h19, eES, eEX, Nat.reduceBEq, ↓reduceIte, reduceCtorEq, Nat.reduceEqDiff]), (by first | rfl | exact h20 | simp only [h20, eES, eEX, Nat.reduceBEq, ↓reduceIte, reduceCtorEq, Nat.reduceEqDiff]), r8⟩ (by first | rfl | simp only [eES, eEX, Nat.reduceBEq, ↓reduceIte, reduceCtorEq, Nat.reduceEqDiff]) _ (fun f fr H => ?_)
    obtain ⟨h1, m1, h3, m12, h4, h19, h20, r8⟩ := H
    simp only [h20, e1, eES, Nat.reduceBEq, ↓reduceIte]
    exact ⟨P.progs.length - (c + 1), by omega, _, fr, c + 1, rfl, rfl, by omega, ⟨(by first | rfl | exact h1 | simp only [h1, eES, eEX, Nat.reduceBEq, ↓reduceIte, reduceCtorEq, Nat.reduceEqDiff]), m1, (by first | rfl | exact h3 | simp only [h3, eES, eEX, Nat.reduceBEq, ↓reduceIte, reduceCtorEq, Nat.reduceEqDiff]), m12, (by first | rfl | exact h4 | simp only [h4, eES, eEX, Nat.reduceBEq, ↓reduceIte, reduceCtorEq, Nat.reduceEqDiff]), (by first | rfl | exact h19 | simp only [h19, eES, eEX, Nat.reduceBEq, ↓reduceIte, reduceCtorEq, Nat.reduceEqDiff]), (by first | rfl | simp only [eES, eEX, Nat.reduceBEq, ↓reduceIte, reduceCtorEq, Nat.reduceEqDiff]), r8⟩⟩
  · have hcc : c = P.progs.length := by omega
    subst hcc
    rw [hA] at h4
    simp only [lt_f hlt, h4, eES, Nat.reduceBEq, ↓reduceIte]

theorem z13 {M : Nat} (P : PL) (hP : P.ok M) (hM : M ≤ 17592186044000) : Fn1 Tryz.prog 13 [P.av] (.int .i64 (ck P)) := by
  have e0 : P.av = .agg [.list (P.progs.map gav), .list (P.enums.map eav)] := rfl
  have c1 := z30 P hP
  have c2 := z31 P hP
  have c3 := z32 P hP
  have c4 := z33 P hP
  have c5 := z34 P hP
  refine fn1_of_awp (rc := r13) (rs := o13) Tryz.func13 rfl rfl Tryz.ntmps13 k13 q13 (by simp) ?_
  simp only [g13_0, g13_1, g13_2, g13_3, g13_4, g13_5, g13_6, g13_7, g13_8, g13_9, g13_10, g13_11, g13_12, g13_13, g13_14, g13_15, r13, o13, e0, ck, eES, eEX, Nat.reduceBEq, ↓reduceIte, Nat.reduceAdd, Nat.reduceLeDiff]
  refine aops_call c1 rfl rfl rfl (.inl rfl) ?_
  cases hl : lim P
  · simp only [Bool.not_false, eES, Nat.reduceBEq, ↓reduceIte]
  obtain ⟨l1, l2, l3, l4⟩ := lim_progs hl
  have c6 := z35 (Nat.le_trans hM (by decide)) P hP l3
  simp only [Bool.not_true, Bool.true_eq_false, eES, eEX, Nat.reduceBEq, ↓reduceIte, Nat.reduceAdd, Nat.reduceLeDiff]
  refine aops_call c2 rfl rfl rfl (.inl rfl) ?_
  cases nam P
  · simp only [Bool.not_false, eES, Nat.reduceBEq, ↓reduceIte]
  simp only [Bool.not_true, Bool.true_eq_false, eES, eEX, Nat.reduceBEq, ↓reduceIte, Nat.reduceAdd, Nat.reduceLeDiff]
  refine aops_call c3 rfl rfl rfl (.inl rfl) ?_
  cases ord P
  · simp only [Bool.not_false, eES, Nat.reduceBEq, ↓reduceIte]
  simp only [Bool.not_true, Bool.true_eq_false, eES, eEX, Nat.reduceBEq, ↓reduceIte, Nat.reduceAdd, Nat.reduceLeDiff]
  refine aops_call c4 rfl rfl rfl (.inl rfl) ?_
  cases sin P
  · simp only [Bool.not_false, eES, Nat.reduceBEq, ↓reduceIte]
  simp only [Bool.not_true, Bool.true_eq_false, eES, eEX, Nat.reduceBEq, ↓reduceIte, Nat.reduceAdd, Nat.reduceLeDiff]
  refine aops_call c5 rfl rfl rfl (.inl rfl) ?_
  cases rng P
  · simp only [Bool.not_false, eES, Nat.reduceBEq, ↓reduceIte]
  simp only [Bool.not_true, Bool.true_eq_false, eES, eEX, Nat.reduceBEq, ↓reduceIte, Nat.reduceAdd, Nat.reduceLeDiff]
  refine aops_call c6 rfl rfl rfl (.inl rfl) ?_
  cases ha : args P
  · simp only [Bool.not_false, eES, Nat.reduceBEq, ↓reduceIte]
  have c7 := z36 P hP l1 (args_tgt ha)
  simp only [Bool.not_true, Bool.true_eq_false, eES, eEX, Nat.reduceBEq, ↓reduceIte, Nat.reduceAdd, Nat.reduceLeDiff]
  refine aops_call c7 rfl rfl rfl (.inl rfl) ?_
  cases fin P
  · simp only [Bool.not_false, eES, Nat.reduceBEq, ↓reduceIte]
  · simp only [Bool.not_true, Bool.true_eq_false, eES, Nat.reduceBEq, ↓reduceIte]

theorem c4 {M : Nat} (P : PL) (hP : P.ok M) (hM : M ≤ 17592186044000) : Fn1 Tryz.prog 4 [P.av] (.bool true) := by
  have e0 : P.av = .agg [.list (P.progs.map gav), .list (P.enums.map eav)] := rfl
  have hS := c11 P hP
  have ct1 := z12 P hP hM
  have ct2 := z13 P hP hM
  rw [e0] at hS ct1 ct2
  refine fn1_of_awp (rc := r4) (rs := o4) Tryz.func4 rfl rfl Tryz.ntmps4 k4 q4 (by simp) ?_
  simp only [g4_0, g4_1, g4_2, g4_3, r4, o4, e0, eES, eEX, Nat.reduceBEq, ↓reduceIte, Nat.reduceAdd, Nat.reduceLeDiff]
  repeat' (first | (refine csel_of (fun h => ?_) (fun h => ?_) <;> simp only [h, eES, eEX, Nat.reduceBEq, Int.reduceLE, Int.reduceLT, Int.reduceToNat, Int.reduceEq, ↓reduceIte, reduceCtorEq, Nat.reducePow, Nat.reduceAdd, Nat.reduceLeDiff, Nat.reduceLT, Nat.reduceSub, Nat.reduceEqDiff]) | (refine gsel_t (fun h => ?_) (fun h => ?_) <;> simp only [h, updO, eES, eEX, Nat.reduceBEq, Int.reduceLE, Int.reduceLT, Int.reduceToNat, Int.reduceEq, ↓reduceIte, reduceCtorEq, Nat.reducePow, Nat.reduceAdd, Nat.reduceLeDiff, Nat.reduceLT, Nat.reduceSub, Nat.reduceEqDiff]) | (refine gsel_f (fun h => ?_) (fun h => ?_) <;> simp only [h, updO, eES, eEX, Nat.reduceBEq, Int.reduceLE, Int.reduceLT, Int.reduceToNat, Int.reduceEq, ↓reduceIte, reduceCtorEq, Nat.reducePow, Nat.reduceAdd, Nat.reduceLeDiff, Nat.reduceLT, Nat.reduceSub, Nat.reduceEqDiff]) | ((with_reducible apply aops_callR (k := 11) (R := RB)); (case h2 => exact fun _ h => h.rf); (case hy => rfl); (case h1 => rfl); (case hk => exact hS); rintro _ ⟨b, rfl⟩; cases b <;> simp only [eES, eEX, Nat.reduceBEq, ↓reduceIte, Nat.reduceAdd, Nat.reduceLeDiff]))
  all_goals
    refine aops_call ct1 rfl rfl rfl (.inl rfl) ?_
    simp only [eES, eEX, Nat.reduceBEq, ↓reduceIte, Nat.reduceAdd, Nat.reduceLeDiff]
    refine aops_call ct2 rfl rfl rfl (.inl rfl) ?_
    simp only [beq_self_eq_true, eES, Nat.reduceBEq, ↓reduceIte]
    refine aops_call Ev.awake_ok rfl rfl rfl (.inl rfl) ?_
    simp only [eES, Nat.reduceBEq]

end Go.Proofs.YtelhohgmmhbahaaGreatDoor.Va

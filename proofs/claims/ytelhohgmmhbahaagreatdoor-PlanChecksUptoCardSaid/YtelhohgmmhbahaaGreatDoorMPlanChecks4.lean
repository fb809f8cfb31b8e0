/- Parts of the proof, in order. -/
import Derived.Test.YtelhohgmmhbahaaGreatDoorMPlanChecks3

set_option linter.unusedSimpArgs false
namespace Go.Proofs.YtelhohgmmhbahaaGreatDoor.Va
open Go Am Rc Bt Br

theorem dot_at {t : List UInt8} {o : Nat} (h : Lib.indexByte t 46 = (o : Int)) : o < t.length ∧ t = t.take o ++ 46 :: t.drop (o + 1) ∧ ∀ c ∈ t.take o, c ≠ 46 := by
  obtain ⟨h1, h2⟩ := Lib.indexByte_some h
  have hlt := (List.getElem?_eq_some_iff.1 h1).1
  refine ⟨hlt, ?_, ?_⟩
  · have h3 : t[o] = 46 := (List.getElem?_eq_some_iff.1 h1).2
    rw [← h3, ← List.drop_eq_getElem_cons hlt, List.take_append_drop]
  · intro c hc e
    subst e
    obtain ⟨k, hk⟩ := List.mem_iff_getElem?.1 hc
    rw [List.getElem?_take] at hk
    split at hk
    · exact h2 k ‹_› hk
    · cases hk

theorem dot_none {t : List UInt8} (h : Lib.indexByte t 46 = -1) : parts t = [t] := by
  refine parts_one fun c hc e => ?_
  subst e
  obtain ⟨k, hk⟩ := List.mem_iff_getElem?.1 hc
  exact Lib.indexByte_none h k hk

theorem dot_parts {t : List UInt8} {o : Nat} (h : Lib.indexByte t 46 = (o : Int)) : parts t = t.take o :: parts (t.drop (o + 1)) := by
  obtain ⟨_, h2, h3⟩ := dot_at h
  conv => lhs; rw [h2]
  exact parts_cons h3

theorem dot_or (t : List UInt8) : Lib.indexByte t 46 = -1 ∨ ∃ o : Nat, Lib.indexByte t 46 = (o : Int) := by
  have := Lib.indexByte_ge t 46
  by_cases h : Lib.indexByte t 46 = -1
  · exact .inl h
  · obtain ⟨o, ho⟩ := Int.eq_ofNat_of_zero_le (a := Lib.indexByte t 46) (by omega)
    exact .inr ⟨o, ho⟩

def SpI (s : List UInt8) (n : Nat) (k : Nat) (st : St) : Prop :=
  ∃ f fr t done, st = ⟨f, [fr], []⟩ ∧ k = (parts t).length ∧ parts s = done ++ parts t ∧ n = done.length + (parts t).length ∧ t.length ≤ s.length ∧
    f 0 = .str t ∧ f 1 = .str [46] ∧ f 2 = .int .i64 0 ∧ f 3 = .int .i64 ((n - 1 : Nat) : Int) ∧ f 9 = .vec 0 31 1 0 n false ∧ f 10 = .int .i64 (done.length : Nat) ∧ fr 31 = .vec 1 1 (done.map rav ++ List.replicate (parts t).length (.str []))

theorem set_rest (done : List (List UInt8)) (x : List UInt8) (n : Nat) (h : 0 < n) : (done.map rav ++ List.replicate n (AV.str [])).set done.length (.str x) = (done ++ [x]).map rav ++ List.replicate (n - 1) (AV.str []) := by
  obtain ⟨k, rfl⟩ : ∃ k, n = k + 1 := ⟨n - 1, by omega⟩
  rw [List.set_append_right _ _ (by simp)]
  simp [rav, List.replicate_succ]

theorem z210 (s : List UInt8) (hs : s.length ≤ 17592186044000) : Fn1 Tryz.prog 210 [.str s, .str [46], .int .i64 0, .int .i64 (-1)] (.list ((parts s).map rav)) := by
  have hl := parts_len s
  have hc : s.count 46 ≤ s.length := List.count_le_length
  have hm : (parts s).length ≤ s.length + 1 := by omega
  have b0 : ((-1 : Int) == 0) = false := rfl
  have b1 : decide ((-1 : Int) < 0) = true := rfl
  have e1 : IntKind.i64.wrap ((s.count 46 : Nat) + 1 : Int) = ((parts s).length : Nat) := by rw [wi64]; omega
  have e2 : IntKind.i64.wrap ((s.length : Nat) + 1 : Int) = ((s.length + 1 : Nat) : Int) := by rw [wi64]; omega
  have e3' : (((s.length + 1 : Nat) : Int) < ((parts s).length : Nat)) = False := eq_false (by omega)
  have e4 : IntKind.i64.wrap (((parts s).length : Nat) - 1 : Int) = (((parts s).length - 1 : Nat) : Int) := by rw [wi64]; omega
  have hz : zeroE 1 [AV.str []] = .str [] := rfl
  refine fn1_of_awp (rc := r210) (rs := o210) Tryz.func210 rfl rfl Tryz.ntmps210 k210 q210 (by simp) ?_
  simp only [g210_0, g210_1, g210_2, g210_3, g210_4, g210_5, g210_6, g210_7, g210_8, g210_9, g210_10, g210_17, g210_18, r210, o210, b0, astr, eES, Nat.reduceBEq, ↓reduceIte]
  have b2 : (([46] : List UInt8) == []) = false := rfl
  simp only [b2, eES, Nat.reduceBEq, Int.reduceLT, ↓reduceIte]
  refine aops_call (z258 s) rfl rfl rfl (.inl rfl) ?_
  simp only [e1, e2, e3', eES, Nat.reduceBEq, ↓reduceIte]
  refine aops_mk (n := (parts s).length) (k := (parts s).length) rfl rfl (Nat.le_refl _) (by omega) (by omega) rfl ?_
  simp only [e4, hz, eES, Nat.reduceBEq, ↓reduceIte]
  refine awp_loop (SpI s (parts s).length) _ ⟨_, _, s, [], rfl, rfl, rfl, by simp, Nat.le_refl _, (by first | rfl | simp only [eES, eEX, Nat.reduceBEq, ↓reduceIte, reduceCtorEq, Nat.reduceEqDiff]), (by first | rfl | simp only [eES, eEX, Nat.reduceBEq, ↓reduceIte, reduceCtorEq, Nat.reduceEqDiff]), (by first | rfl | simp only [eES, eEX, Nat.reduceBEq, ↓reduceIte, reduceCtorEq, Nat.reduceEqDiff]), (by first | rfl | simp only [eES, eEX, Nat.reduceBEq, ↓reduceIte, reduceCtorEq, Nat.reduceEqDiff]), (by first | rfl | simp only [eES, eEX, Nat.reduceBEq, ↓reduceIte, reduceCtorEq, Nat.reduceEqDiff]), (by first | rfl | simp only [eES, eEX, Nat.reduceBEq, ↓reduceIte, reduceCtorEq, Nat.reduceEqDiff]), (by first | rfl | simp only [eES, eEX, Nat.reduceBEq, ↓reduceIte, reduceCtorEq, Nat.reduceEqDiff])⟩ ?_
  rintro _ st ⟨f, fr, t, done, rfl, rfl, hp, hn, ht, h0, h1, h2, h3, h9, h10, m31⟩
  simp only [l210_0, g210_11, g210_12, g210_13, g210_14, g210_15, g210_16, h3, h10, eES, Nat.reduceBEq, ↓reduceIte]
  have hpos : 0 < (parts t).length := List.length_pos_iff.2 (parts_ne t)
  have ia : aiaddr [fr] 1 none (.vec 0 31 1 0 (parts s).length false) ((done.length : Nat) : Int) = some (.vptr 0 31 1 done.length 0) := by
    have e : Am.look [fr] 0 31 = .vec 1 1 (done.map rav ++ List.replicate (parts t).length (.str [])) := m31
    simp only [aiaddr, e, nneg, if_true, Int.toNat_natCast]
    simp; omega
  have ist : ∀ x : List UInt8, astore [fr] (.vptr 0 31 1 done.length 0) [.str x] = some [upd fr 31 (.vec 1 1 ((done ++ [x]).map rav ++ List.replicate ((parts t).length - 1) (.str [])))] := by
    intro x
    have e : Am.look [fr] 0 31 = .vec 1 1 (done.map rav ++ List.replicate (parts t).length (.str [])) := m31
    have hy : (done.map rav ++ List.replicate (parts t).length (.str []))[done.length]? = some (.str []) := by
      rw [List.getElem?_append_right (by simp)]
      simp [hpos]
    have hx : newElem (.str []) 0 [.str x] = .str x := rfl
    simp only [astore, e, hy, if_true, ← set_rest done x _ hpos]
    simp [AV.cells, AV.rfL, AV.rf, Am.put, hx]
  have ew : IntKind.i64.wrap ((done.length : Nat) + 1 : Int) = ((done.length + 1 : Nat) : Int) := by rw [wi64]; omega
  rcases dot_or t with hd | ⟨o, ho⟩
  · have hp1 := dot_none hd
    have hl1 : (parts t).length = 1 := by rw [hp1]; rfl
    have d1 : decide (((done.length : Nat) : Int) < (((parts s).length - 1 : Nat) : Int)) = false := decide_eq_false (by omega)
    have hi := ist t
    have hrow : (done ++ [t]).map rav ++ List.replicate ((parts t).length - 1) (AV.str []) = (parts s).map rav := by
      rw [hl1, hp, hp1]; simp
    have hlen : done.length + 1 = (parts s).length := by omega
    rw [hrow] at hi
    rw [hlen] at ew
    have hle : ((parts s).length ≤ (parts s).length) = True := eq_true (Nat.le_refl _)
    have ht : (((parts s).map rav).drop 0).take (parts s).length = (parts s).map rav := by rw [List.drop_zero]; exact List.take_of_length_le (by simp)
    simp only [d1, ia, hi, h0, h9, h10, ew, eES, eEX, Nat.reduceBEq, ↓reduceIte, Nat.reduceAdd]
    simp only [nneg, if_true, Int.toNat_natCast, Nat.zero_le, hle, true_and, and_true, Nat.sub_zero, Option.isSome_none, Bool.or_false, vget, Option.getD_some, isV, Option.isSome_some]
    have el : Am.look [upd fr 31 (Ob.vec 1 1 ((parts s).map rav))] 0 31 = .vec 1 1 ((parts s).map rav) := upd_same _ _ _
    simp only [AV.still, el, Bool.true_and, bne_self_eq_false, Bool.false_eq_true, if_false, Nat.zero_add, List.length_map, hle, and_self, if_true, ht, Option.bind_some, AV.un, Option.isSome_some, Option.getD_some]
  · have hp1 := dot_parts ho
    obtain ⟨ho1, ho2, ho3⟩ := dot_at ho
    have hl1 : (parts t).length = (parts (t.drop (o + 1))).length + 1 := by rw [hp1]; simp
    have hpos2 : 0 < (parts (t.drop (o + 1))).length := List.length_pos_iff.2 (parts_ne _)
    have d1 : decide (((done.length : Nat) : Int) < (((parts s).length - 1 : Nat) : Int)) = true := decide_eq_true (by omega)
    have d2 : decide ((o : Int) < 0) = false := decide_eq_false (by omega)
    have w1 : IntKind.i64.wrap ((o : Int) + 0) = (o : Int) := by rw [wi64]; omega
    have w2 : IntKind.i64.wrap ((o : Int) + ((0 + 1 : Nat) : Int)) = ((o + 1 : Nat) : Int) := by rw [wi64]; omega
    have hi := ist (t.take o)
    simp only [d1, h0, h1, eES, Nat.reduceBEq]
    refine aops_call (z259 t) rfl rfl rfl (.inl rfl) ?_
    have hle1 : (0 ≤ o ∧ o ≤ t.length) = True := eq_true ⟨Nat.zero_le _, by omega⟩
    have hle2 : (o + 1 ≤ t.length ∧ t.length ≤ t.length) = True := eq_true ⟨by omega, Nat.le_refl _⟩
    have ht2 : (t.drop (o + 1)).take (t.length - (o + 1)) = t.drop (o + 1) := List.take_of_length_le (by simp)
    simp only [ho, d2, w1, w2, nneg, Int.toNat_natCast, hle1, hle2, ht2, Nat.sub_zero, h0, h1, h2, h9, h10, eES, eEX, Nat.reduceBEq, ↓reduceIte, Nat.reduceAdd]
    simp only [ia, hi, ew, eES]
    have hlen : (done ++ [t.take o]).length = done.length + 1 := by simp
    have hk : (parts t).length - 1 = (parts (t.drop (o + 1))).length := by omega
    exact ⟨(parts (t.drop (o + 1))).length, by omega, _, _, t.drop (o + 1), done ++ [t.take o], rfl, rfl, by rw [hp, hp1]; simp, by rw [hlen]; omega, by simp; omega, (by first | rfl | simp only [eES, eEX, Nat.reduceBEq, ↓reduceIte, reduceCtorEq, Nat.reduceEqDiff]), (by first | rfl | exact h1 | simp only [h1, eES, eEX, Nat.reduceBEq, ↓reduceIte, reduceCtorEq, Nat.reduceEqDiff]), (by first | rfl | exact h2 | simp only [h2, eES, eEX, Nat.reduceBEq, ↓reduceIte, reduceCtorEq, Nat.reduceEqDiff]), (by first | rfl | exact h3 | simp only [h3, eES, eEX, Nat.reduceBEq, ↓reduceIte, reduceCtorEq, Nat.reduceEqDiff]), (by first | rfl | exact h9 | simp only [h9, eES, eEX, Nat.reduceBEq, ↓reduceIte, reduceCtorEq, Nat.reduceEqDiff]), by rw [hlen] <;> first | rfl | simp only [eES, eEX, Nat.reduceBEq, ↓reduceIte, reduceCtorEq, Nat.reduceEqDiff], by rw [← hk] <;> exact upd_same _ _ _⟩

end Go.Proofs.YtelhohgmmhbahaaGreatDoor.Va

set_option linter.unusedSimpArgs false
namespace Go.Proofs.YtelhohgmmhbahaaGreatDoor.Va
open Go Am Rc Bt Br

def sml (c : UInt8) : Bool := decide (97 ≤ c.toNat) && decide (c.toNat ≤ 122)
def cpt (c : UInt8) : Bool := decide (65 ≤ c.toNat) && decide (c.toNat ≤ 90)

theorem z218 (c : UInt8) : Fn1 Tryz.prog 218 [.int .u8 (c.toNat : Nat)] (.bool (sml c)) := by
  refine fn1_of_awp (rc := r218) (rs := o218) Tryz.func218 rfl rfl Tryz.ntmps218 k218 q218 (by simp) ?_
  have e1 : decide ((c.toNat : Int) ≥ 97) = decide (97 ≤ c.toNat) := by rw [decide_eq_decide]; omega
  have e2 : decide ((c.toNat : Int) ≤ 122) = decide (c.toNat ≤ 122) := by rw [decide_eq_decide]; omega
  simp only [g218_0, g218_1, r218, o218, e1, sml, eES, Nat.reduceBEq, ↓reduceIte]
  cases h : decide (97 ≤ c.toNat) <;> simp only [e2, Bool.true_and, Bool.false_and, eES, Nat.reduceBEq, ↓reduceIte]

theorem z219 (c : UInt8) : Fn1 Tryz.prog 219 [.int .u8 (c.toNat : Nat)] (.bool (cpt c)) := by
  refine fn1_of_awp (rc := r219) (rs := o219) Tryz.func219 rfl rfl Tryz.ntmps219 k219 q219 (by simp) ?_
  have e1 : decide ((c.toNat : Int) ≥ 65) = decide (65 ≤ c.toNat) := by rw [decide_eq_decide]; omega
  have e2 : decide ((c.toNat : Int) ≤ 90) = decide (c.toNat ≤ 90) := by rw [decide_eq_decide]; omega
  simp only [g219_0, g219_1, r219, o219, e1, cpt, eES, Nat.reduceBEq, ↓reduceIte]
  cases h : decide (65 ≤ c.toNat) <;> simp only [e2, Bool.true_and, Bool.false_and, eES, Nat.reduceBEq, ↓reduceIte]

theorem pchar_eq (c : UInt8) : pchar c = (sml c || cpt c || !((c.toNat : Int) != 95) || !(decide ((c.toNat : Int) < 48) || decide ((c.toNat : Int) > 57))) := by
  unfold pchar letter sml cpt
  generalize c.toNat = x
  rw [Bool.eq_iff_iff]
  simp only [Bool.or_eq_true, Bool.and_eq_true, decide_eq_true_eq, beq_iff_eq, Bool.not_eq_true', bne_eq_false_iff_eq, Bool.or_eq_false_iff, decide_eq_false_iff_not]
  omega

def PrI (s : List UInt8) (k : Nat) (st : St) : Prop :=
  ∃ f i, st = ⟨f, [noObs], []⟩ ∧ k = s.length - i ∧ 1 ≤ i ∧ allU (pq s) i = true ∧ f 0 = .str s ∧ f 3 = .int .i64 (i : Nat)

theorem z165 (s : List UInt8) : Fn1 Tryz.prog 165 [.str s] (.bool (isPart s)) := by
  refine fn1_of_awp (rc := r165) (rs := o165) Tryz.func165 rfl rfl Tryz.ntmps165 k165 q165 (by simp) ?_
  simp only [g165_0, g165_1, g165_2, g165_3, g165_8, r165, o165, eES, Nat.reduceBEq, ↓reduceIte]
  by_cases hl : s.length = 0
  · have d0 : ((s.length : Int) == 0) = true := by rw [hl]; rfl
    have e : isPart s = false := by rw [isPart_pq, hl]; rfl
    simp only [d0, e, eES, Nat.reduceBEq]
  have d0 : ((s.length : Int) == 0) = false := by rw [beq_eq_false_iff_ne]; omega
  by_cases hm : s.length ≤ 40
  case neg =>
    have d1 : decide ((s.length : Int) > 40) = true := decide_eq_true (by omega)
    have e : isPart s = false := by rw [isPart_pq, decide_eq_false hm, Bool.and_false, Bool.false_and]
    simp only [d0, d1, e, eES, Nat.reduceBEq, ↓reduceIte]
  have d1 : decide ((s.length : Int) > 40) = false := decide_eq_false (by omega)
  have hp : isPart s = allU (pq s) s.length := by rw [isPart_pq, decide_eq_true hm, decide_eq_true (by omega : 1 ≤ s.length)]; rfl
  obtain ⟨c, hc⟩ : ∃ c, s[0]? = some c := ⟨s[0]'(by omega), List.getElem?_eq_getElem (by omega)⟩
  have hq0 : allU (pq s) 1 = (sml c || cpt c) := by
    show (true && pq s 0) = _
    rw [pq_at hc, if_pos rfl]; rfl
  have h1 := z218 c
  have h2 := z219 c
  have hn : allU (pq s) 1 = false → isPart s = false := fun h => by
    rw [hp, Bool.eq_false_iff]
    intro h'
    rw [allU_iff.2 fun k hk => allU_iff.1 h' k (by omega)] at h
    cases h
  have z1 : Int.toNat 0 = 0 := rfl
  have go : allU (pq s) 1 = true → ∀ (f : Fr), f 0 = .str s → f 3 = .int .i64 1 → ∀ Q : Exit → St → Prop, (∀ f, allU (pq s) s.length = true → Q (.exit 0) ⟨f, [noObs], []⟩) → (∀ f, f 2 = .bool false → allU (pq s) s.length = false → Q .ret ⟨f, [noObs], []⟩) → awp Tryz.prog (.loop l165_0) ⟨f, [noObs], []⟩ Q := by
    intro hq1 f h0 h3 Q hx hr
    refine awp_loop (PrI s) _ ⟨_, 1, rfl, rfl, Nat.le_refl _, hq1, h0, h3⟩ ?_
    clear h0 h3 hc hq0 h1 h2 hn
    rintro _ st ⟨f, i, rfl, rfl, h1i, hx1, h0, h3⟩
    simp only [l165_0, g165_4, g165_6, g165_7, g165_5, h0, h3, eES, Nat.reduceBEq, ↓reduceIte]
    by_cases hlt : i < s.length
    · obtain ⟨c, hc⟩ : ∃ c, s[i]? = some c := ⟨s[i], List.getElem?_eq_getElem hlt⟩
      have e1 := wi64_s i _ hlt (by simp only [maxLen]; omega)
      have hs1 := z218 c
      have hs2 := z219 c
      have hstep : allU (pq s) (i + 1) = pchar c := by
        rw [allU, hx1, Bool.true_and, pq_at hc, if_neg (by omega)]
      have hend : pchar c = false → allU (pq s) s.length = false := fun h => by
        rw [Bool.eq_false_iff]
        intro h'
        rw [allU_iff.2 fun k hk => allU_iff.1 h' k (by omega)] at hstep
        rw [h] at hstep; cases hstep
      have fin : ∀ f' : Fr, pchar c = true → f' 0 = .str s → f' 3 = .int .i64 ((i + 1 : Nat) : Int) → ∃ k, k < s.length - i ∧ PrI s k ⟨f', [noObs], []⟩ := by
        intro f' hp h0 h3
        exact ⟨s.length - (i + 1), by omega, f', i + 1, rfl, rfl, by omega, by rw [hstep, hp], h0, h3⟩
      have hpc := pchar_eq c
      simp only [lt_t hlt, nneg, Int.toNat_natCast, hc, h0, h3, eES, Nat.reduceBEq, ↓reduceIte]
      refine aops_call hs1 rfl rfl rfl (.inl rfl) ?_
      cases a1 : sml c
      · simp only [nneg, Int.toNat_natCast, hc, h0, h3, Bool.not_false, eES, Nat.reduceBEq, ↓reduceIte]
        refine aops_call hs2 rfl rfl rfl (.inl rfl) ?_
        cases a2 : cpt c
        · cases a3 : ((c.toNat : Int) != 95)
          · rw [a1, a2, a3] at hpc
            simp only [a3, nneg, Int.toNat_natCast, hc, h0, h3, e1, Bool.not_false, eES, Nat.reduceBEq, ↓reduceIte]
            exact fin _ (by rw [hpc]; rfl) (by first | rfl | exact h0 | simp only [h0, eES, eEX, Nat.reduceBEq, ↓reduceIte, reduceCtorEq, Nat.reduceEqDiff]) (by first | rfl | simp only [eES, eEX, Nat.reduceBEq, ↓reduceIte, reduceCtorEq, Nat.reduceEqDiff])
          · cases a4 : decide ((c.toNat : Int) < 48)
            · cases a5 : decide ((c.toNat : Int) > 57)
              · rw [a1, a2, a3, a4, a5] at hpc
                simp only [a3, a4, a5, nneg, Int.toNat_natCast, hc, h0, h3, e1, Bool.not_false, eES, Nat.reduceBEq, ↓reduceIte]
                exact fin _ (by rw [hpc]; rfl) (by first | rfl | exact h0 | simp only [h0, eES, eEX, Nat.reduceBEq, ↓reduceIte, reduceCtorEq, Nat.reduceEqDiff]) (by first | rfl | simp only [eES, eEX, Nat.reduceBEq, ↓reduceIte, reduceCtorEq, Nat.reduceEqDiff])
              · rw [a1, a2, a3, a4, a5] at hpc
                simp only [a3, a4, a5, nneg, Int.toNat_natCast, hc, h0, h3, Bool.not_false, eES, Nat.reduceBEq, ↓reduceIte]
                exact hr _ (by first | rfl | simp only [eES, eEX, Nat.reduceBEq, ↓reduceIte, reduceCtorEq, Nat.reduceEqDiff]) (hend (by rw [hpc]; rfl))
            · rw [a1, a2, a3, a4] at hpc
              simp only [a3, a4, nneg, Int.toNat_natCast, hc, h0, h3, Bool.not_false, eES, Nat.reduceBEq, ↓reduceIte]
              exact hr _ (by first | rfl | simp only [eES, eEX, Nat.reduceBEq, ↓reduceIte, reduceCtorEq, Nat.reduceEqDiff]) (hend (by rw [hpc]; rfl))
        · rw [a1, a2] at hpc
          simp only [h3, e1, Bool.not_true, eES, Nat.reduceBEq, ↓reduceIte]
          exact fin _ (by rw [hpc]; rfl) (by first | rfl | exact h0 | simp only [h0, eES, eEX, Nat.reduceBEq, ↓reduceIte, reduceCtorEq, Nat.reduceEqDiff]) (by first | rfl | simp only [eES, eEX, Nat.reduceBEq, ↓reduceIte, reduceCtorEq, Nat.reduceEqDiff])
      · rw [a1] at hpc
        simp only [h3, e1, Bool.not_true, eES, Nat.reduceBEq, ↓reduceIte]
        exact fin _ (by rw [hpc]; rfl) (by first | rfl | exact h0 | simp only [h0, eES, eEX, Nat.reduceBEq, ↓reduceIte, reduceCtorEq, Nat.reduceEqDiff]) (by first | rfl | simp only [eES, eEX, Nat.reduceBEq, ↓reduceIte, reduceCtorEq, Nat.reduceEqDiff])
    · simp only [lt_f hlt, eES]
      exact hx _ (allU_iff.2 fun k hk => allU_iff.1 hx1 k (by omega))
  simp only [d0, d1, z1, hc, eES, Nat.reduceBEq, Int.reduceLE, ↓reduceIte]
  refine aops_call h1 rfl rfl rfl (.inl rfl) ?_
  cases a1 : sml c
  · simp only [z1, hc, Bool.not_false, eES, Nat.reduceBEq, Int.reduceLE, ↓reduceIte]
    refine aops_call h2 rfl rfl rfl (.inl rfl) ?_
    cases a2 : cpt c
    · rw [a1, a2] at hq0
      simp only [hn hq0, Bool.not_false, eES, Nat.reduceBEq]
    · rw [a1, a2] at hq0
      simp only [Bool.not_true, eES, Nat.reduceBEq]
      refine go hq0 _ (by first | rfl | simp only [eES, eEX, Nat.reduceBEq, ↓reduceIte, reduceCtorEq, Nat.reduceEqDiff]) (by first | rfl | simp only [eES, eEX, Nat.reduceBEq, ↓reduceIte, reduceCtorEq, Nat.reduceEqDiff]) _ (fun f h => ?_) (fun f h2 h => ?_)
      · simp only [hp, h, eES, Nat.reduceBEq, ↓reduceIte]
      · simp only [hp, h, h2, eES]
  · rw [a1, Bool.true_or] at hq0
    simp only [Bool.not_true, eES, Nat.reduceBEq]
    refine go hq0 _ (by first | rfl | simp only [eES, eEX, Nat.reduceBEq, ↓reduceIte, reduceCtorEq, Nat.reduceEqDiff]) (by first | rfl | simp only [eES, eEX, Nat.reduceBEq, ↓reduceIte, reduceCtorEq, Nat.reduceEqDiff]) _ (fun f h => ?_) (fun f h2 h => ?_)
    · simp only [hp, h, eES, Nat.reduceBEq, ↓reduceIte]
    · simp only [hp, h, h2, eES]

theorem z164 (s : List UInt8) : Fn1 Tryz.prog 164 [.str s] (.bool (isWord s)) := by
  refine fn1_of_awp (rc := r164) (rs := o164) Tryz.func164 rfl rfl Tryz.ntmps164 k164 q164 (by simp) ?_
  simp only [g164_0, g164_1, g164_2, g164_3, g164_4, g164_5, g164_6, g164_7, g164_8, g164_9, g164_10, g164_11, g164_12, g164_13, g164_14, g164_15, g164_16, g164_17, g164_18, g164_19, g164_20, g164_21, g164_22, g164_23, g164_24, r164, o164, astr, eES, Nat.reduceBEq]
  have e : isWord s = words.any fun w => s == w := rfl
  simp only [words, List.any_cons, List.any_nil, Bool.or_false] at e
  repeat' (first | (refine csel_of (fun h => ?_) (fun h => ?_) <;> simp only [h, astr, eES, Nat.reduceBEq]) | (refine gsel_t (fun h => ?_) (fun h => ?_) <;> simp only [h, updO, astr, eES, eEX, Nat.reduceBEq, Int.reduceLE, Int.reduceLT, Int.reduceToNat, Int.reduceEq, ↓reduceIte, reduceCtorEq, Nat.reducePow, Nat.reduceAdd, Nat.reduceLeDiff, Nat.reduceLT, Nat.reduceSub, Nat.reduceEqDiff]) | (refine gsel_f (fun h => ?_) (fun h => ?_) <;> simp only [h, updO, astr, eES, eEX, Nat.reduceBEq, Int.reduceLE, Int.reduceLT, Int.reduceToNat, Int.reduceEq, ↓reduceIte, reduceCtorEq, Nat.reducePow, Nat.reduceAdd, Nat.reduceLeDiff, Nat.reduceLT, Nat.reduceSub, Nat.reduceEqDiff]))
  all_goals (simp only [*, Bool.true_or, Bool.or_true, Bool.or_false] at e; simp only [e])

theorem z109 (s : List UInt8) : Fn1 Tryz.prog 109 [.str s] (.bool (usab s)) := by
  refine fn1_of_awp (rc := r109) (rs := o109) Tryz.func109 rfl rfl Tryz.ntmps109 k109 q109 (by simp) ?_
  simp only [g109_0, g109_1, r109, o109, usab, eES, Nat.reduceBEq]
  refine aops_call (z165 s) rfl rfl rfl (.inl rfl) ?_
  cases isPart s
  · simp only [Bool.false_and, eES, Nat.reduceBEq]
  · simp only [Bool.true_and, eES, Nat.reduceBEq]
    refine aops_call (z164 s) rfl rfl rfl (.inl rfl) ?_
    simp only [eES, Nat.reduceBEq]

def FuI (s : List UInt8) (k : Nat) (st : St) : Prop :=
  ∃ f i p, st = ⟨f, [noObs], []⟩ ∧ k = s.length - i ∧ i ≤ s.length ∧ p.length ≤ i ∧ (∀ c ∈ p, c ≠ (46 : UInt8)) ∧ (parts s).all isPart = (parts (p ++ s.drop i)).all isPart ∧ f 0 = .str s ∧ f 3 = .str p ∧ f 4 = .int .i64 (i : Nat)

theorem z162 (s : List UInt8) : Fn1 Tryz.prog 162 [.str s] (.bool (decide (s.length ≤ 120) && (parts s).all isPart)) := by
  refine fn1_of_awp (rc := r162) (rs := o162) Tryz.func162 rfl rfl Tryz.ntmps162 k162 q162 (by simp) ?_
  simp only [g162_0, g162_1, g162_2, g162_3, g162_4, g162_12, r162, o162, eES, Nat.reduceBEq, ↓reduceIte]
  by_cases hm : s.length ≤ 120
  case neg =>
    have d1 : decide ((s.length : Int) > 120) = true := decide_eq_true (by omega)
    simp only [d1, decide_eq_false hm, Bool.false_and, eES, Nat.reduceBEq]
  have d1 : decide ((s.length : Int) > 120) = false := decide_eq_false (by omega)
  simp only [d1, decide_eq_true hm, Bool.true_and, eES]
  refine awp_loop (FuI s) _ ⟨_, 0, [], rfl, rfl, Nat.zero_le _, Nat.le_refl _, by simp, rfl, (by first | rfl | simp only [eES, eEX, Nat.reduceBEq, ↓reduceIte, reduceCtorEq, Nat.reduceEqDiff]), (by first | rfl | simp only [eES, eEX, Nat.reduceBEq, ↓reduceIte, reduceCtorEq, Nat.reduceEqDiff]), (by first | rfl | simp only [eES, eEX, Nat.reduceBEq, ↓reduceIte, reduceCtorEq, Nat.reduceEqDiff])⟩ ?_
  rintro _ st ⟨f, i, p, rfl, rfl, hi, hpl, hpd, hx, h0, h3, h4⟩
  simp only [l162_0, g162_5, g162_7, g162_8, g162_9, g162_10, g162_11, g162_6, h0, h4, eES, Nat.reduceBEq, ↓reduceIte]
  by_cases hlt : i < s.length
  · obtain ⟨c, hc⟩ : ∃ c, s[i]? = some c := ⟨s[i], List.getElem?_eq_getElem hlt⟩
    have e1 := wi64_s i _ hlt (by simp only [maxLen]; omega)
    have hd : s.drop i = c :: s.drop (i + 1) := by
      rw [List.drop_eq_getElem_cons hlt]
      congr 1
      exact (List.getElem?_eq_some_iff.1 hc).2
    have hts : (s.drop i).take (i + 1 - i) = [c] := by
      rw [hd, show i + 1 - i = 1 by omega]; rfl
    simp only [lt_t hlt, nneg, Int.toNat_natCast, hc, h0, h4, eES, Nat.reduceBEq, ↓reduceIte]
    by_cases hdot : c = 46
    · subst hdot
      have b0 : ((((46 : UInt8).toNat : Nat) : Int) != 46) = false := rfl
      have hs : (parts s).all isPart = (isPart p && (parts (s.drop (i + 1))).all isPart) := by
        rw [hx, hd, parts_cons hpd]; rfl
      simp only [b0, h3, eES, Nat.reduceBEq]
      refine aops_call (z165 p) rfl rfl rfl (.inl rfl) ?_
      cases hp : isPart p
      · rw [hp, Bool.false_and] at hs
        simp only [hs, Bool.not_false, eES, Nat.reduceBEq]
      · rw [hp, Bool.true_and] at hs
        simp only [h4, e1, Bool.not_true, eES, Nat.reduceBEq, ↓reduceIte]
        exact ⟨s.length - (i + 1), by omega, _, i + 1, [], rfl, rfl, by omega, Nat.zero_le _, by simp, by rw [hs]; rfl, (by first | rfl | exact h0 | simp only [h0, eES, eEX, Nat.reduceBEq, ↓reduceIte, reduceCtorEq, Nat.reduceEqDiff]), (by first | rfl | simp only [eES, eEX, Nat.reduceBEq, ↓reduceIte, reduceCtorEq, Nat.reduceEqDiff]), (by first | rfl | simp only [eES, eEX, Nat.reduceBEq, ↓reduceIte, reduceCtorEq, Nat.reduceEqDiff])⟩
    · have b0 : (((c.toNat : Nat) : Int) != 46) = true := by
        rw [bne_iff_ne]
        intro h
        apply hdot
        rw [← UInt8.toNat_inj]
        have : c.toNat = 46 := by omega
        rw [this]; rfl
      have hle : (i ≤ i + 1 ∧ i + 1 ≤ s.length) = True := eq_true ⟨by omega, by omega⟩
      have hsum : (p.length ≤ 9223372036854775806) = True := eq_true (by omega)
      simp only [b0, h0, h3, h4, e1, bnd, lenA, aslice, nneg, Int.toNat_natCast, hle, hts, astr, hsum, eES, Nat.reduceBEq, ↓reduceIte, Nat.reduceAdd, Nat.reduceLeDiff]
      exact ⟨s.length - (i + 1), by omega, _, i + 1, p ++ [c], rfl, rfl, by omega, by simp; omega, fun x hx => by
        rcases List.mem_append.1 hx with h | h
        · exact hpd x h
        · simp at h; subst h; exact hdot, by rw [hx, hd]; simp, (by first | rfl | exact h0 | simp only [h0, eES, eEX, Nat.reduceBEq, ↓reduceIte, reduceCtorEq, Nat.reduceEqDiff]), (by first | rfl | simp only [eES, eEX, Nat.reduceBEq, ↓reduceIte, reduceCtorEq, Nat.reduceEqDiff]), (by first | rfl | simp only [eES, eEX, Nat.reduceBEq, ↓reduceIte, reduceCtorEq, Nat.reduceEqDiff])⟩
  · have hx' : (parts s).all isPart = isPart p := by
      rw [hx, List.drop_of_length_le (by omega), List.append_nil, parts_one hpd]
      simp
    simp only [lt_f hlt, h3, hx', eES, Nat.reduceBEq, ↓reduceIte]
    refine aops_call (z165 p) rfl rfl rfl (.inl rfl) ?_
    simp only [eES, Nat.reduceBEq]

def ldot (s : List UInt8) : Nat → Option Nat
  | 0 => none
  | j + 1 => if s[j]? = some 46 then some j else ldot s j

theorem ldot_spec (s : List UInt8) : ∀ n, match ldot s n with
    | none => ∀ k, k < n → s[k]? ≠ some 46
    | some j => j < n ∧ s[j]? = some 46 ∧ ∀ k, j < k → k < n → s[k]? ≠ some 46
  | 0 => by simp [ldot]
  | n + 1 => by
    unfold ldot
    split
    · rename_i h
      split at h
      · cases h
      · rename_i h'
        have := ldot_spec s n
        rw [h] at this
        intro k hk
        rcases Nat.lt_succ_iff_lt_or_eq.1 hk with h1 | rfl
        · exact this k h1
        · exact h'
    · rename_i j h
      split at h
      · rename_i h'
        cases h
        exact ⟨by omega, h', fun k h1 h2 => by omega⟩
      · rename_i h'
        have := ldot_spec s n
        rw [h] at this
        exact ⟨by omega, this.2.1, fun k h1 h2 => by
          rcases Nat.lt_succ_iff_lt_or_eq.1 h2 with h3 | rfl
          · exact this.2.2 k h1 h3
          · exact h'⟩

def spl (s : List UInt8) : List UInt8 × List UInt8 := match ldot s s.length with
  | none => ([], s)
  | some j => (s.take j, s.drop (j + 1))

theorem spl_spec (s : List UInt8) : ((spl s).1 = [] ∧ (spl s).2 = s ∧ ∀ c ∈ s, c ≠ 46) ∨ (s = (spl s).1 ++ 46 :: (spl s).2 ∧ ∀ c ∈ (spl s).2, c ≠ 46) := by
  have h := ldot_spec s s.length
  unfold spl
  cases hl : ldot s s.length with
  | none =>
    rw [hl] at h
    refine .inl ⟨rfl, rfl, fun c hc e => ?_⟩
    subst e
    obtain ⟨k, hk⟩ := List.mem_iff_getElem?.1 hc
    exact h k (List.getElem?_eq_some_iff.1 hk).1 hk
  | some j =>
    rw [hl] at h
    obtain ⟨h1, h2, h3⟩ := h
    refine .inr ⟨?_, fun c hc e => ?_⟩
    · have : s[j] = 46 := (List.getElem?_eq_some_iff.1 h2).2
      show s = s.take j ++ 46 :: s.drop (j + 1)
      rw [← this, ← List.drop_eq_getElem_cons h1, List.take_append_drop]
    · subst e
      obtain ⟨k, hk⟩ := List.mem_iff_getElem?.1 hc
      rw [List.getElem?_drop] at hk
      exact h3 (j + 1 + k) (by omega) (List.getElem?_eq_some_iff.1 hk).1 hk

def SdI (s : List UInt8) (k : Nat) (st : St) : Prop :=
  ∃ f, st = ⟨f, [noObs], []⟩ ∧ k ≤ s.length ∧ ldot s s.length = ldot s k ∧ f 0 = .str s ∧ f 4 = .int .i64 ((k : Int) - 1)

theorem z163 (s : List UInt8) (hs : s.length ≤ 120) : Fn1 Tryz.prog 163 [.str s] (.tup [.str (spl s).1, .str (spl s).2]) := by
  refine fn1_of_awp (rc := r163) (rs := o163) Tryz.func163 rfl rfl Tryz.ntmps163 k163 q163 (by simp) ?_
  have w0 : IntKind.i64.wrap ((s.length : Int) - 1) = (s.length : Int) - 1 := by rw [wi64]; omega
  simp only [g163_0, g163_1, g163_6, r163, o163, w0, eES, Nat.reduceBEq, ↓reduceIte]
  refine awp_loop (SdI s) _ ⟨_, rfl, Nat.le_refl _, rfl, (by first | rfl | simp only [eES, eEX, Nat.reduceBEq, ↓reduceIte, reduceCtorEq, Nat.reduceEqDiff]), (by first | rfl | simp only [eES, eEX, Nat.reduceBEq, ↓reduceIte, reduceCtorEq, Nat.reduceEqDiff])⟩ ?_
  rintro k st ⟨f, rfl, hk, hx, h0, h4⟩
  simp only [l163_0, g163_2, g163_4, g163_5, g163_3, h4, eES, Nat.reduceBEq, ↓reduceIte]
  cases k with
  | zero =>
    have d0 : decide (((0 : Nat) : Int) - 1 ≥ 0) = false := rfl
    have e : spl s = ([], s) := by unfold spl; rw [hx]; rfl
    simp only [d0, e, h0, eES, Nat.reduceBEq, ↓reduceIte]
  | succ j =>
    have j1 : ((j + 1 : Nat) : Int) - 1 = (j : Int) := by omega
    have d0 : decide (((j : Nat) : Int) ≥ 0) = true := decide_eq_true (by omega)
    have w1 : IntKind.i64.wrap ((j : Int) - 1) = (j : Int) - 1 := by rw [wi64]; omega
    have w2 : IntKind.i64.wrap ((j : Int) + 1) = ((j + 1 : Nat) : Int) := by rw [wi64]; omega
    obtain ⟨c, hc⟩ : ∃ c, s[j]? = some c := ⟨s[j]'(by omega), List.getElem?_eq_getElem (by omega)⟩
    simp only [j1, nneg, Int.toNat_natCast, hc, h0, h4, eES, Nat.reduceBEq, ↓reduceIte]
    by_cases hdot : c = 46
    · subst hdot
      have b0 : ((((46 : UInt8).toNat : Nat) : Int) == 46) = true := rfl
      have e : spl s = (s.take j, s.drop (j + 1)) := by
        unfold spl
        rw [hx]
        show (match (if s[j]? = some 46 then some j else ldot s j) with | none => ([], s) | some j => (s.take j, s.drop (j + 1))) = _
        rw [if_pos hc]
      have hle : (0 ≤ j ∧ j ≤ s.length) = True := eq_true ⟨by omega, by omega⟩
      have hle2 : (j + 1 ≤ s.length ∧ s.length ≤ s.length) = True := eq_true ⟨by omega, Nat.le_refl _⟩
      have ht : ((s.drop 0).take j) = s.take j := by simp
      have ht2 : ((s.drop (j + 1)).take (s.length - (j + 1))) = s.drop (j + 1) := List.take_of_length_le (by simp)
      simp only [b0, w2, j1, e, bnd, lenA, aslice, Nat.sub_zero, nneg, Int.toNat_natCast, hle, hle2, ht2, h0, h4, eES, Nat.reduceBEq, ↓reduceIte]
    · have b0 : (((c.toNat : Nat) : Int) == 46) = false := by
        rw [beq_eq_false_iff_ne]
        intro h
        apply hdot
        rw [← UInt8.toNat_inj]
        have : c.toNat = 46 := by omega
        rw [this]; rfl
      have hne : ¬ s[j]? = some 46 := fun h => by rw [hc] at h; cases h; exact hdot rfl
      simp only [b0, j1, w1, h4, eES, Nat.reduceBEq, ↓reduceIte]
      exact ⟨j, by omega, _, rfl, by omega, by rw [hx]; show (if s[j]? = some 46 then some j else ldot s j) = _; rw [if_neg hne], (by first | rfl | exact h0 | simp only [h0, eES, eEX, Nat.reduceBEq, ↓reduceIte, reduceCtorEq, Nat.reduceEqDiff]), (by first | rfl | simp only [eES, eEX, Nat.reduceBEq, ↓reduceIte, reduceCtorEq, Nat.reduceEqDiff])⟩

def wrd (u : List UInt8) : Bool := if u = [] then false else (parts u).any isWord

def DfI (s : List UInt8) (k : Nat) (st : St) : Prop :=
  ∃ f u, st = ⟨f, [noObs], []⟩ ∧ k = u.length ∧ u.length ≤ 120 ∧ (u ≠ [] → (parts u).all isPart = true) ∧ (parts s).any isWord = wrd u ∧ f 0 = .str u

theorem z108 (s : List UInt8) : Fn1 Tryz.prog 108 [.str s] (.bool (full s)) := by
  refine fn1_of_awp (rc := r108) (rs := o108) Tryz.func108 rfl rfl Tryz.ntmps108 k108 q108 (by simp) ?_
  simp only [g108_0, g108_1, g108_2, g108_8, r108, o108, full, eES, Nat.reduceBEq]
  refine aops_call (z162 s) rfl rfl rfl (.inl rfl) ?_
  cases hf : (decide (s.length ≤ 120) && (parts s).all isPart)
  · simp only [Bool.false_and, Bool.not_false, eES, Nat.reduceBEq]
  simp only [Bool.true_and, Bool.not_true, eES, Nat.reduceBEq]
  obtain ⟨hl, ha⟩ := Bool.and_eq_true_iff.1 hf
  have hl := of_decide_eq_true hl
  have hne : s ≠ [] := by
    rintro rfl
    cases ha
  refine awp_loop (DfI s) _ ⟨_, s, rfl, rfl, hl, fun _ => ha, by unfold wrd; rw [if_neg hne], (by first | rfl | simp only [eES, eEX, Nat.reduceBEq, ↓reduceIte, reduceCtorEq, Nat.reduceEqDiff])⟩ ?_
  rintro _ st ⟨f, u, rfl, rfl, hul, hua, hx, h0⟩
  simp only [l108_0, g108_3, g108_4, g108_5, g108_6, g108_7, h0, astr, eES, Nat.reduceBEq]
  by_cases hu : u = []
  · subst hu
    have b0 : (!(([] : List UInt8) == [])) = false := rfl
    have e : (parts s).any isWord = false := hx
    simp only [b0, e, Bool.not_false, eES, Nat.reduceBEq, ↓reduceIte]
  · have b0 : (!(u == [])) = true := by simp [hu]
    simp only [b0, h0, eES, Nat.reduceBEq]
    refine aops_call (z163 u hul) rfl rfl rfl (.inl rfl) ?_
    simp only [eES, Nat.reduceBEq]
    refine aops_call (z164 (spl u).2) rfl rfl rfl (.inl rfl) ?_
    have hw : wrd u = (wrd (spl u).1 || isWord (spl u).2) := by
      unfold wrd
      rw [if_neg hu]
      rcases spl_spec u with ⟨h1, h2, h3⟩ | ⟨h1, h2⟩
      · rw [h1, h2, if_pos rfl, parts_one h3]; simp
      · have hp : parts u = parts (spl u).1 ++ [(spl u).2] := by
          conv => lhs; rw [h1]
          exact parts_snoc h2
        have ha' := hua hu
        rw [hp, List.all_append, Bool.and_eq_true] at ha'
        have hn : (spl u).1 ≠ [] := by
          intro h
          rw [h] at ha'
          cases ha'.1
        rw [if_neg hn, hp]
        simp
    cases hq : isWord (spl u).2
    · rw [hq, Bool.or_false] at hw
      simp only [eES, Nat.reduceBEq]
      have hlen : (spl u).1.length < u.length ∧ ((spl u).1 ≠ [] → (parts (spl u).1).all isPart = true) := by
        rcases spl_spec u with ⟨h1, h2, h3⟩ | ⟨h1, h2⟩
        · rw [h1]
          exact ⟨List.length_pos_iff.2 hu, fun h => absurd rfl h⟩
        · have hp : parts u = parts (spl u).1 ++ [(spl u).2] := by
            conv => lhs; rw [h1]
            exact parts_snoc h2
          have ha' := hua hu
          rw [hp, List.all_append, Bool.and_eq_true] at ha'
          refine ⟨?_, fun _ => ha'.1⟩
          have := congrArg List.length h1
          simp at this
          omega
      exact ⟨(spl u).1.length, hlen.1, _, (spl u).1, rfl, rfl, by omega, hlen.2, by rw [hx, hw], (by first | rfl | simp only [eES, eEX, Nat.reduceBEq, ↓reduceIte, reduceCtorEq, Nat.reduceEqDiff])⟩
    · rw [hq, Bool.or_true] at hw
      have e : (parts s).any isWord = true := hx.trans hw
      simp only [e, Bool.not_true, eES, Nat.reduceBEq]

end Go.Proofs.YtelhohgmmhbahaaGreatDoor.Va

set_option linter.unusedSimpArgs false
namespace Go.Proofs.YtelhohgmmhbahaaGreatDoor.Va
open Go Am Rc Bt Br

theorem any_not {α : Type} {l : List α} {q : α → Bool} : (l.any fun x => !q x) = !l.all q := by
  induction l with
  | nil => rfl
  | cons x l ih => simp [ih]

theorem z149 (s : List UInt8) (hs : s.length ≤ 17592186044000) : Fn1 Tryz.prog 149 [.str s, .str [46]] (.list ((parts s).map rav)) := by
  refine fn1_of_awp (rc := r149) (rs := o149) Tryz.func149 rfl rfl Tryz.ntmps149 k149 q149 (by simp) ?_
  simp only [g149_0, g149_1, r149, o149, eES, Nat.reduceBEq]
  refine aops_call (z210 s hs) rfl rfl rfl (.inl rfl) ?_
  simp only [eES, Nat.reduceBEq]

def IfI (s : List UInt8) (k : Nat) (st : St) : Prop :=
  ∃ f i, st = ⟨f, [noObs], []⟩ ∧ k = (parts s).length - i ∧ ((parts s).take i).all isPart = true ∧ f 0 = .str s ∧ f 6 = .list ((parts s).map rav) ∧ f 7 = .int .i64 ((parts s).length : Nat) ∧ f 8 = .int .i64 (i : Nat)

theorem z147 (s : List UInt8) (hs : s.length ≤ 17592186044000) : Fn1 Tryz.prog 147 [.str s] (.bool (decide (s.length ≤ 120) && (parts s).all isPart)) := by
  have hl := parts_len s
  have hc : s.count 46 ≤ s.length := List.count_le_length
  refine fn1_of_awp (rc := r147) (rs := o147) Tryz.func147 rfl rfl Tryz.ntmps147 k147 q147 (by simp) ?_
  simp only [g147_0, g147_1, g147_7, r147, o147, eES, Nat.reduceBEq]
  refine aops_call (z149 s hs) rfl rfl rfl (.inl rfl) ?_
  simp only [List.length_map, eES, Nat.reduceBEq]
  refine awp_loop (IfI s) _ ⟨_, 0, rfl, rfl, rfl, (by first | rfl | simp only [eES, eEX, Nat.reduceBEq, ↓reduceIte, reduceCtorEq, Nat.reduceEqDiff]), (by first | rfl | simp only [eES, eEX, Nat.reduceBEq, ↓reduceIte, reduceCtorEq, Nat.reduceEqDiff]), (by first | rfl | simp only [eES, eEX, Nat.reduceBEq, ↓reduceIte, reduceCtorEq, Nat.reduceEqDiff]), (by first | rfl | simp only [eES, eEX, Nat.reduceBEq, ↓reduceIte, reduceCtorEq, Nat.reduceEqDiff])⟩ ?_
  rintro _ st ⟨f, i, rfl, rfl, hx, h0, h6, h7, h8⟩
  simp only [l147_0, g147_2, g147_3, g147_4, g147_5, g147_6, h7, h8, eES, Nat.reduceBEq, ↓reduceIte]
  by_cases hlt : i < (parts s).length
  · obtain ⟨x, hi⟩ : ∃ x, (parts s)[i]? = some x := ⟨(parts s)[i], List.getElem?_eq_getElem hlt⟩
    have hg : ((parts s).map rav)[i]? = some (.str x) := by simp [hi, rav]
    have e1 := wi64_s i _ hlt (by simp only [maxLen]; omega)
    have ht := take_all (q := isPart) hi
    rw [hx, Bool.true_and] at ht
    simp only [lt_t hlt, nneg, Int.toNat_natCast, aiaddr, hg, h6, h8, eES, eEX, Nat.reduceBEq, ↓reduceIte, Nat.reduceAdd]
    refine aops_call (z152 x) rfl rfl rfl (.inl rfl) ?_
    cases hp : isPart x
    · have hf : (parts s).all isPart = false := by
        rw [Bool.eq_false_iff]
        intro h'
        rw [List.all_eq_true.1 h' x (List.mem_of_getElem? hi)] at hp
        cases hp
      simp only [hf, Bool.not_false, Bool.and_false, eES, Nat.reduceBEq]
    · rw [hp] at ht
      simp only [h8, e1, Bool.not_true, eES, Nat.reduceBEq, ↓reduceIte]
      exact ⟨(parts s).length - (i + 1), by omega, _, i + 1, rfl, rfl, ht, (by first | rfl | exact h0 | simp only [h0, eES, eEX, Nat.reduceBEq, ↓reduceIte, reduceCtorEq, Nat.reduceEqDiff]), (by first | rfl | exact h6 | simp only [h6, eES, eEX, Nat.reduceBEq, ↓reduceIte, reduceCtorEq, Nat.reduceEqDiff]), (by first | rfl | exact h7 | simp only [h7, eES, eEX, Nat.reduceBEq, ↓reduceIte, reduceCtorEq, Nat.reduceEqDiff]), (by first | rfl | simp only [eES, eEX, Nat.reduceBEq, ↓reduceIte, reduceCtorEq, Nat.reduceEqDiff])⟩
  · rw [List.take_of_length_le (by omega)] at hx
    have e : decide ((s.length : Int) ≤ 120) = decide (s.length ≤ 120) := by rw [decide_eq_decide]; omega
    simp only [lt_f hlt, h0, hx, e, Bool.and_true, eES, Nat.reduceBEq, ↓reduceIte]

theorem za150 (s : List UInt8) (m : Mem) : ACalls Tryz.prog 150 [rav s] m fun y m1 => y = .bool (isWord s) ∧ m1 = m := by
  refine acalls_of_awp (rc := r150) (rs := o150) Tryz.func150 rfl rfl Tryz.ntmps150 k150 q150 (by simp) ?_
  simp only [g150_0, g150_1, g150_2, g150_3, g150_4, g150_5, g150_6, g150_7, g150_8, g150_9, g150_10, g150_11, g150_12, g150_13, g150_14, g150_15, g150_16, g150_17, g150_18, g150_19, g150_20, g150_21, g150_22, g150_23, g150_24, g150_25, r150, o150, rav, astr, eES, Nat.reduceBEq]
  have e : isWord s = words.any fun w => s == w := rfl
  simp only [words, List.any_cons, List.any_nil, Bool.or_false] at e
  repeat' (first | (refine csel_of (fun h => ?_) (fun h => ?_) <;> simp only [h, astr, eES, Nat.reduceBEq]) | (refine gsel_t (fun h => ?_) (fun h => ?_) <;> simp only [h, updO, astr, eES, eEX, Nat.reduceBEq, Int.reduceLE, Int.reduceLT, Int.reduceToNat, Int.reduceEq, ↓reduceIte, reduceCtorEq, Nat.reducePow, Nat.reduceAdd, Nat.reduceLeDiff, Nat.reduceLT, Nat.reduceSub, Nat.reduceEqDiff]) | (refine gsel_f (fun h => ?_) (fun h => ?_) <;> simp only [h, updO, astr, eES, eEX, Nat.reduceBEq, Int.reduceLE, Int.reduceLT, Int.reduceToNat, Int.reduceEq, ↓reduceIte, reduceCtorEq, Nat.reducePow, Nat.reduceAdd, Nat.reduceLeDiff, Nat.reduceLT, Nat.reduceSub, Nat.reduceEqDiff]))
  all_goals (simp only [*, Bool.true_or, Bool.or_true, Bool.or_false] at e; simp only [e])

theorem z73 (s : List UInt8) : Fn1 Tryz.prog 73 [.str s] (.bool (usab s)) := by
  refine fn1_of_awp (rc := r73) (rs := o73) Tryz.func73 rfl rfl Tryz.ntmps73 k73 q73 (by simp) ?_
  simp only [g73_0, g73_1, r73, o73, usab, eES, Nat.reduceBEq]
  refine aops_call (z152 s) rfl rfl rfl (.inl rfl) ?_
  cases isPart s
  · simp only [Bool.false_and, eES, Nat.reduceBEq]
  · simp only [Bool.true_and, eES, Nat.reduceBEq]
    refine aops_call (z150 s) rfl rfl rfl (.inl rfl) ?_
    simp only [eES, Nat.reduceBEq]

theorem z70 (s : List UInt8) (hs : s.length ≤ 17592186044000) : Fn1 Tryz.prog 70 [.str s] (.bool (full s)) := by
  have hl := parts_len s
  have hc : s.count 46 ≤ s.length := List.count_le_length
  refine fn1_of_awp (rc := r70) (rs := o70) Tryz.func70 rfl rfl Tryz.ntmps70 k70 q70 (by simp) ?_
  simp only [g70_0, g70_1, r70, o70, full, eES, Nat.reduceBEq]
  refine aops_call (z147 s hs) rfl rfl rfl (.inl rfl) ?_
  cases hf : (decide (s.length ≤ 120) && (parts s).all isPart)
  · simp only [Bool.false_and, eES, Nat.reduceBEq]
  · simp only [Bool.true_and, eES, Nat.reduceBEq]
    refine aops_call (z149 s hs) rfl rfl rfl (.inl rfl) ?_
    simp only [eES, Nat.reduceBEq]
    refine aops_callF (z148 (parts s) (by simp only [maxLen]; omega) isWord 150 [] _ fun o _ => za150 o _) (by simp only [List.map_cons, List.map_nil, eES, Nat.reduceBEq] <;> rfl) ?_
    simp only [eES, Nat.reduceBEq]

section
variable (m : Mem)

theorem z66 (g : PG) : ACalls Tryz.prog 66 [gav g] m fun y m1 => y = .bool (!lim1 g) ∧ m1 = m := by
  refine acalls_of_awp (rc := r66) (rs := o66) Tryz.func66 rfl rfl Tryz.ntmps66 k66 q66 (by simp) ?_
  have e : decide ((g.ops.length : Int) > 64) = !lim1 g := by unfold lim1; exact (by rw [Bool.eq_iff_iff]; simp only [decide_eq_true_eq, Bool.not_eq_true', decide_eq_false_iff_not]; omega)
  simp only [g66_0, g66_1, r66, o66, gav, PG.cells, List.length_map, e, eES, eEX, Nat.reduceBEq, ↓reduceIte, Nat.reduceAdd]

theorem z68 (x : PE) : ACalls Tryz.prog 68 [eav x] m fun y m1 => y = .bool (!lim2 x) ∧ m1 = m := by
  refine acalls_of_awp (rc := r68) (rs := o68) Tryz.func68 rfl rfl Tryz.ntmps68 k68 q68 (by simp) ?_
  have e1 : decide ((x.items.length : Int) < 1) = !decide (1 ≤ x.items.length) := (by rw [Bool.eq_iff_iff]; simp only [decide_eq_true_eq, Bool.not_eq_true', decide_eq_false_iff_not]; omega)
  have e2 : decide ((x.items.length : Int) > 64) = !decide (x.items.length ≤ 64) := (by rw [Bool.eq_iff_iff]; simp only [decide_eq_true_eq, Bool.not_eq_true', decide_eq_false_iff_not]; omega)
  have e3 : decide ((x.free.length : Int) > 16) = !decide (x.free.length ≤ 16) := (by rw [Bool.eq_iff_iff]; simp only [decide_eq_true_eq, Bool.not_eq_true', decide_eq_false_iff_not]; omega)
  simp only [g68_0, g68_1, r68, o68, eav, PE.cells, List.length_map, e1, lim2, eES, eEX, Nat.reduceBEq, ↓reduceIte, Nat.reduceAdd]
  cases a1 : decide (1 ≤ x.items.length) <;> cases a2 : decide (x.items.length ≤ 64) <;> cases a3 : decide (x.free.length ≤ 16) <;> simp only [a2, a3, Bool.not_true, Bool.not_false, Bool.and_true, Bool.and_false, List.length_map, e2, e3, eES, eEX, Nat.reduceBEq, ↓reduceIte, Nat.reduceAdd]

theorem z72 (o : PO) : ACalls Tryz.prog 72 [oav o] m fun y m1 => y = .bool (!usab o.name) ∧ m1 = m := by
  refine acalls_of_awp (rc := r72) (rs := o72) Tryz.func72 rfl rfl Tryz.ntmps72 k72 q72 (by simp) ?_
  simp only [g72_0, g72_1, r72, o72, oav, PO.cells, eES, eEX, Nat.reduceBEq, Nat.reduceAdd]
  refine aops_call (z73 o.name) rfl rfl rfl (.inl rfl) ?_
  simp only [eES, Nat.reduceBEq]

theorem z76 (o : PI) : ACalls Tryz.prog 76 [iav o] m fun y m1 => y = .bool (!usab o.name) ∧ m1 = m := by
  refine acalls_of_awp (rc := r76) (rs := o76) Tryz.func76 rfl rfl Tryz.ntmps76 k76 q76 (by simp) ?_
  simp only [g76_0, g76_1, r76, o76, iav, PI.cells, eES, eEX, Nat.reduceBEq, Nat.reduceAdd]
  refine aops_call (z73 o.name) rfl rfl rfl (.inl rfl) ?_
  simp only [eES, Nat.reduceBEq]

theorem z69 (g : PG) (hs : g.name.length ≤ 17592186044000) (hl : g.ops.length ≤ maxLen) : ACalls Tryz.prog 69 [gav g] m fun y m1 => y = .bool (!nam1 g) ∧ m1 = m := by
  refine acalls_of_awp (rc := r69) (rs := o69) Tryz.func69 rfl rfl Tryz.ntmps69 k69 q69 (by simp) ?_
  simp only [g69_0, g69_1, r69, o69, gav, PG.cells, nam1, eES, eEX, Nat.reduceBEq, Nat.reduceAdd]
  refine aops_call (z70 g.name hs) rfl rfl rfl (.inl rfl) ?_
  cases full g.name
  · simp only [Bool.false_and, Bool.not_false, eES, Nat.reduceBEq]
  · simp only [Bool.true_and, Bool.not_true, eES, eEX, Nat.reduceBEq, Nat.reduceAdd]
    refine aops_callF (z71 g.ops hl (fun o => !usab o.name) 72 [] _ fun o _ => z72 _ o) (by simp only [List.map_cons, List.map_nil, eES, Nat.reduceBEq] <;> rfl) ?_
    simp only [any_not, eES, Nat.reduceBEq]

theorem z74 (x : PE) (hs : x.name.length ≤ 17592186044000) (hl : x.items.length ≤ maxLen) : ACalls Tryz.prog 74 [eav x] m fun y m1 => y = .bool (!nam2 x) ∧ m1 = m := by
  refine acalls_of_awp (rc := r74) (rs := o74) Tryz.func74 rfl rfl Tryz.ntmps74 k74 q74 (by simp) ?_
  simp only [g74_0, g74_1, r74, o74, eav, PE.cells, nam2, eES, eEX, Nat.reduceBEq, Nat.reduceAdd]
  refine aops_call (z70 x.name hs) rfl rfl rfl (.inl rfl) ?_
  cases full x.name
  · simp only [Bool.false_and, Bool.not_false, eES, Nat.reduceBEq]
  · simp only [Bool.true_and, Bool.not_true, eES, eEX, Nat.reduceBEq, Nat.reduceAdd]
    refine aops_callF (z75 x.items hl (fun o => !usab o.name) 76 [] _ fun o _ => z76 _ o) (by simp only [List.map_cons, List.map_nil, eES, Nat.reduceBEq] <;> rfl) ?_
    simp only [any_not, eES, Nat.reduceBEq]

theorem z78 (x y : PG) : ACalls Tryz.prog 78 [gav x, gav y] m fun r m1 => r = .bool ((ords PG.name) x y) ∧ m1 = m := by
  refine acalls_of_awp (rc := r78) (rs := o78) Tryz.func78 rfl rfl Tryz.ntmps78 k78 q78 (by simp) ?_
  simp only [g78_0, g78_1, r78, o78, gav, PG.cells, astr, ords, eES, eEX, Nat.reduceBEq, Nat.reduceAdd]

theorem z80 (x y : PE) : ACalls Tryz.prog 80 [eav x, eav y] m fun r m1 => r = .bool ((ords PE.name) x y) ∧ m1 = m := by
  refine acalls_of_awp (rc := r80) (rs := o80) Tryz.func80 rfl rfl Tryz.ntmps80 k80 q80 (by simp) ?_
  simp only [g80_0, g80_1, r80, o80, eav, PE.cells, astr, ords, eES, eEX, Nat.reduceBEq, Nat.reduceAdd]

theorem z83 (x y : PO) : ACalls Tryz.prog 83 [oav x, oav y] m fun r m1 => r = .bool ((ordn PO.num) x y) ∧ m1 = m := by
  refine acalls_of_awp (rc := r83) (rs := o83) Tryz.func83 rfl rfl Tryz.ntmps83 k83 q83 (by simp) ?_
  simp only [g83_0, g83_1, r83, o83, oav, PO.cells, ordn, eES, eEX, Nat.reduceBEq, ↓reduceIte, Nat.reduceAdd]

theorem z86 (x y : PI) : ACalls Tryz.prog 86 [iav x, iav y] m fun r m1 => r = .bool ((ordn PI.num) x y) ∧ m1 = m := by
  refine acalls_of_awp (rc := r86) (rs := o86) Tryz.func86 rfl rfl Tryz.ntmps86 k86 q86 (by simp) ?_
  simp only [g86_0, g86_1, r86, o86, iav, PI.cells, ordn, eES, eEX, Nat.reduceBEq, ↓reduceIte, Nat.reduceAdd]

theorem z81 (g : PG) (hl : g.ops.length ≤ maxLen) : ACalls Tryz.prog 81 [gav g] m fun y m1 => y = .bool (!ord1 g) ∧ m1 = m := by
  refine acalls_of_awp (rc := r81) (rs := o81) Tryz.func81 rfl rfl Tryz.ntmps81 k81 q81 (by simp) ?_
  simp only [g81_0, g81_1, r81, o81, gav, PG.cells, ord1, eES, eEX, Nat.reduceBEq, Nat.reduceAdd]
  refine aops_callF (z82 g.ops hl (ordn PO.num) 83 [] _ fun x _ y _ => z83 _ x y) (by simp only [List.map_cons, List.map_nil, eES, Nat.reduceBEq] <;> rfl) ?_
  simp only [eES, Nat.reduceBEq]

theorem z84 (x : PE) (hl : x.items.length ≤ maxLen) : ACalls Tryz.prog 84 [eav x] m fun y m1 => y = .bool (!ord2 x) ∧ m1 = m := by
  refine acalls_of_awp (rc := r84) (rs := o84) Tryz.func84 rfl rfl Tryz.ntmps84 k84 q84 (by simp) ?_
  simp only [g84_0, g84_1, r84, o84, eav, PE.cells, ord2, eES, eEX, Nat.reduceBEq, Nat.reduceAdd]
  refine aops_callF (z85 x.items hl (ordn PI.num) 86 [] _ fun x _ y _ => z86 _ x y) (by simp only [List.map_cons, List.map_nil, eES, Nat.reduceBEq] <;> rfl) ?_
  simp only [eES, Nat.reduceBEq]

end

section
variable {M : Nat} (P : PL) (hP : P.ok M) (hM : M ≤ 17592186044000)
include hP hM

omit hM in
theorem z23 : Fn1 Tryz.prog 23 [P.av] (.bool (!lim P)) := by
  have e0 : P.av = .agg [.list (P.progs.map gav), .list (P.enums.map eav)] := rfl
  have e1 : decide ((if (P.progs.length : Int) < (P.enums.length : Int) then (P.enums.length : Int) else (P.progs.length : Int)) > 64) = !(decide (P.progs.length ≤ 64) && decide (P.enums.length ≤ 64)) := by
    rw [Bool.not_and]
    split <;> exact (by rw [Bool.eq_iff_iff]; simp only [decide_eq_true_eq, Bool.not_eq_true', decide_eq_false_iff_not, Bool.or_eq_true]; omega)
  refine fn1_of_awp (rc := r23) (rs := o23) Tryz.func23 rfl rfl Tryz.ntmps23 k23 q23 (by simp) ?_
  simp only [g23_0, g23_1, r23, o23, e0, List.length_map, e1, lim, eES, eEX, Nat.reduceBEq, ↓reduceIte, Nat.reduceAdd]
  cases (decide (P.progs.length ≤ 64) && decide (P.enums.length ≤ 64))
  · simp only [Bool.not_false, Bool.false_and, eES, Nat.reduceBEq]
  simp only [Bool.not_true, Bool.true_and, eES, eEX, Nat.reduceBEq, Nat.reduceAdd]
  refine aops_callF (z65 P.progs hP.len1 (fun g => !lim1 g) 66 [] _ fun o _ => z66 _ o) (by simp only [List.map_cons, List.map_nil, eES, Nat.reduceBEq] <;> rfl) ?_
  simp only [any_not, eES, Nat.reduceBEq]
  cases P.progs.all lim1
  · simp only [Bool.not_false, Bool.false_and, eES, Nat.reduceBEq]
  simp only [Bool.not_true, Bool.true_and, eES, eEX, Nat.reduceBEq, Nat.reduceAdd]
  refine aops_callF (z67 P.enums hP.len2 (fun g => !lim2 g) 68 [] _ fun o _ => z68 _ o) (by simp only [List.map_cons, List.map_nil, eES, Nat.reduceBEq] <;> rfl) ?_
  simp only [any_not, eES, Nat.reduceBEq]

theorem z24 : Fn1 Tryz.prog 24 [P.av] (.bool (!nam P)) := by
  have e0 : P.av = .agg [.list (P.progs.map gav), .list (P.enums.map eav)] := rfl
  refine fn1_of_awp (rc := r24) (rs := o24) Tryz.func24 rfl rfl Tryz.ntmps24 k24 q24 (by simp) ?_
  simp only [g24_0, g24_1, r24, o24, e0, nam, eES, eEX, Nat.reduceBEq, Nat.reduceAdd]
  refine aops_callF (z65 P.progs hP.len1 (fun g => !nam1 g) 69 [] _ fun o ho => z69 _ o (Nat.le_trans (hP.progs o ho).name hM) (hP.progs o ho).len) (by simp only [List.map_cons, List.map_nil, eES, Nat.reduceBEq] <;> rfl) ?_
  simp only [any_not, eES, Nat.reduceBEq]
  cases P.progs.all nam1
  · simp only [Bool.not_false, Bool.false_and, eES, Nat.reduceBEq]
  simp only [Bool.not_true, Bool.true_and, eES, eEX, Nat.reduceBEq, Nat.reduceAdd]
  refine aops_callF (z67 P.enums hP.len2 (fun g => !nam2 g) 74 [] _ fun o ho => z74 _ o (Nat.le_trans (hP.enums o ho).name hM) (hP.enums o ho).len1) (by simp only [List.map_cons, List.map_nil, eES, Nat.reduceBEq] <;> rfl) ?_
  simp only [any_not, eES, Nat.reduceBEq]

omit hM in
theorem z25 : Fn1 Tryz.prog 25 [P.av] (.bool (!ord P)) := by
  have e0 : P.av = .agg [.list (P.progs.map gav), .list (P.enums.map eav)] := rfl
  refine fn1_of_awp (rc := r25) (rs := o25) Tryz.func25 rfl rfl Tryz.ntmps25 k25 q25 (by simp) ?_
  simp only [g25_0, g25_1, r25, o25, e0, ord, eES, eEX, Nat.reduceBEq, Nat.reduceAdd]
  refine aops_callF (z77 P.progs hP.len1 (ords PG.name) 78 [] _ fun x _ y _ => z78 _ x y) (by simp only [List.map_cons, List.map_nil, eES, Nat.reduceBEq] <;> rfl) ?_
  simp only [eES, Nat.reduceBEq]
  cases adj P.progs (ords PG.name)
  · simp only [Bool.not_false, Bool.false_and, eES, Nat.reduceBEq]
  simp only [Bool.not_true, Bool.true_and, eES, eEX, Nat.reduceBEq, Nat.reduceAdd]
  refine aops_callF (z79 P.enums hP.len2 (ords PE.name) 80 [] _ fun x _ y _ => z80 _ x y) (by simp only [List.map_cons, List.map_nil, eES, Nat.reduceBEq] <;> rfl) ?_
  simp only [eES, Nat.reduceBEq]
  cases adj P.enums (ords PE.name)
  · simp only [Bool.not_false, Bool.false_and, eES, Nat.reduceBEq]
  simp only [Bool.not_true, Bool.true_and, eES, eEX, Nat.reduceBEq, Nat.reduceAdd]
  refine aops_callF (z65 P.progs hP.len1 (fun g => !ord1 g) 81 [] _ fun o ho => z81 _ o (hP.progs o ho).len) (by simp only [List.map_cons, List.map_nil, eES, Nat.reduceBEq] <;> rfl) ?_
  simp only [any_not, eES, Nat.reduceBEq]
  cases P.progs.all ord1
  · simp only [Bool.not_false, Bool.false_and, eES, Nat.reduceBEq]
  simp only [Bool.not_true, Bool.true_and, eES, eEX, Nat.reduceBEq, Nat.reduceAdd]
  refine aops_callF (z67 P.enums hP.len2 (fun g => !ord2 g) 84 [] _ fun o ho => z84 _ o (hP.enums o ho).len1) (by simp only [List.map_cons, List.map_nil, eES, Nat.reduceBEq] <;> rfl) ?_
  simp only [any_not, eES, Nat.reduceBEq]

end

end Go.Proofs.YtelhohgmmhbahaaGreatDoor.Va

set_option linter.unusedSimpArgs false
namespace Go.Proofs.YtelhohgmmhbahaaGreatDoor.Va
open Go Am Rc Bt Br

theorem sh_fn (n c : Nat) : AV.shN n (.fn (.func c) [] []) = .fn (.func c) [] [] := by
  induction n with
  | zero => rfl
  | succ n ih => rw [AV.shN, ih]; rfl

theorem z154 (nm : PO → List UInt8) (c : Nat) (hn : ∀ x, Fn1 Tryz.prog c [oav x] (.str (nm x))) (y x : PO) (fr : Nat → Ob) (m : Mem) (h3 : fr 3 = .cells [.fn (.func c) [] []]) (h6 : fr 6 = .cells x.cells) :
    ACalls Tryz.prog 154 [oav y, .ptr 3 3 0, .ptr 3 6 0] (noObs :: noObs :: noObs :: fr :: m) fun r m1 => r = .bool (nm y == nm x) ∧ m1 = noObs :: noObs :: noObs :: fr :: m := by
  have hy := hn y
  have hx := hn x
  have g3 : ∀ n, AV.shN n (.fn (.func c) [] []) = .fn (.func c) [] [] := fun n => sh_fn n c
  simp only [oav, PO.cells] at hy hx h6
  refine acalls_of_awp (rc := r154) (rs := o154) Tryz.func154 rfl rfl Tryz.ntmps154 k154 q154 (by simp) ?_
  simp only [g154_0, g154_1, r154, o154, oav, PO.cells, h3, g3, eES, eEX, Nat.reduceBEq, ↓reduceIte, Nat.reduceAdd, Nat.reduceLeDiff]
  refine aops_callW (fa := []) (fb := []) (by first | rfl | simp only [eES, eEX, Nat.reduceBEq, ↓reduceIte, reduceCtorEq, Nat.reduceEqDiff]) hy rfl rfl rfl (.inl rfl) ?_
  simp only [h3, h6, g3, eES, eEX, Nat.reduceBEq, ↓reduceIte, Nat.reduceAdd, Nat.reduceLeDiff]
  refine aops_callW (fa := []) (fb := []) (by first | rfl | simp only [eES, eEX, Nat.reduceBEq, ↓reduceIte, reduceCtorEq, Nat.reduceEqDiff]) hx rfl rfl rfl (.inl rfl) ?_
  simp only [astr, eES, Nat.reduceBEq]

section
variable (L : List PO) (hl : L.length ≤ maxLen) (nm : PO → List UInt8) (c : Nat) (m : Mem)

def ReO (k : Nat) (st : St) : Prop :=
  ∃ f fr i, st = ⟨f, fr :: m, []⟩ ∧ k = L.length - i ∧ allU (uniq L nm) i = true ∧ f 0 = .list (L.map oav) ∧ f 3 = .ptr 0 3 0 ∧ f 7 = .list (L.map oav) ∧ f 8 = .int .i64 (L.length : Nat) ∧ f 9 = .int .i64 (i : Nat) ∧ fr 3 = .cells [.fn (.func c) [] []] ∧ ∀ s ∈ [6], (fr s).isRow = false

include hl in
theorem z89 (hn : ∀ x, Fn1 Tryz.prog c [oav x] (.str (nm x))) :
    ACalls Tryz.prog 89 [.list (L.map oav), .fn (.func c) [] []] m fun y m1 => y = .bool (!once L nm) ∧ m1 = m := by
  refine acalls_of_awp (rc := r89) (rs := o89) Tryz.func89 rfl rfl Tryz.ntmps89 k89 q89 (by simp) ?_
  simp only [g89_0, g89_1, g89_7, r89, o89, List.length_map, eES, eEX, Nat.reduceBEq]
  refine awp_loop (ReO L nm c m) _ ⟨_, _, 0, rfl, rfl, rfl, (by first | rfl | simp only [eES, eEX, Nat.reduceBEq, ↓reduceIte, reduceCtorEq, Nat.reduceEqDiff]), (by first | rfl | simp only [eES, eEX, Nat.reduceBEq, ↓reduceIte, reduceCtorEq, Nat.reduceEqDiff]), (by first | rfl | simp only [eES, eEX, Nat.reduceBEq, ↓reduceIte, reduceCtorEq, Nat.reduceEqDiff]), (by first | rfl | simp only [eES, eEX, Nat.reduceBEq, ↓reduceIte, reduceCtorEq, Nat.reduceEqDiff]), (by first | rfl | simp only [eES, eEX, Nat.reduceBEq, ↓reduceIte, reduceCtorEq, Nat.reduceEqDiff]), (by first | rfl | simp only [eES, eEX, Nat.reduceBEq, ↓reduceIte, reduceCtorEq, Nat.reduceEqDiff]), by simp <;> rfl⟩ ?_
  rintro _ st ⟨f0, fr0, i, rfl, rfl, hx, h00, h30, h70, h80, h90, m30, r6⟩
  refine awp_drops (a := _) [6] r6 ?_
  intro f fr hf hm hn6
  have h0 : f 0 = .list (L.map oav) := by rw [hf, h00] <;> rfl
  have h3 : f 3 = .ptr 0 3 0 := by rw [hf, h30] <;> rfl
  have h7 : f 7 = .list (L.map oav) := by rw [hf, h70] <;> rfl
  have h8 : f 8 = .int .i64 (L.length : Nat) := by rw [hf, h80] <;> rfl
  have h9 : f 9 = .int .i64 (i : Nat) := by rw [hf, h90] <;> rfl
  have m3 : fr 3 = .cells [.fn (.func c) [] []] := by rw [hm 3 (by decide), m30] <;> rfl
  have n6 := hn6 6 (by decide)
  clear hf hm hn6 h00 h30 h70 h80 h90 m30 r6
  simp only [g89_2, g89_3, g89_4, g89_5, g89_6, h8, h9, eES, Nat.reduceBEq, ↓reduceIte]
  by_cases hlt : i < L.length
  · obtain ⟨x, hi⟩ : ∃ x, L[i]? = some x := ⟨L[i], List.getElem?_eq_getElem hlt⟩
    have hg : (L.map oav)[i]? = some (oav x) := by simp [hi]
    have e1 := wi64_s i _ hlt hl
    have hle : (i ≤ L.length) = True := eq_true (by omega)
    have ht : ((L.map oav).drop 0).take (i - 0) = (L.take i).map oav := by simp
    have hstep : allU (uniq L nm) (i + 1) = !(L.take i).any fun y => nm y == nm x := by
      rw [allU, hx, Bool.true_and, uniq_at hi, all_not]
    have hcl := fun (fr : Nat → Ob) (h3 : fr 3 = .cells [.fn (.func c) [] []]) (h6 : fr 6 = .cells x.cells) => z71 (L.take i) (by simp; omega) (fun y => nm y == nm x) 154 [.ptr 0 3 0, .ptr 0 6 0] (fr :: m) fun y _ => z154 nm c hn y x fr m h3 h6
    simp only [lt_t hlt, nneg, Int.toNat_natCast, aiaddr, hg, oav, PO.cells, n6, splice, List.take_succ_cons, List.take_zero, List.drop_succ_cons, List.drop_zero, List.drop_nil, List.append_nil, List.nil_append, List.length_cons, List.length_nil, h0, h7, h9, bnd, lenA, aslice, Option.getD_none, List.length_map, Nat.zero_le, Nat.le_refl, hle, true_or, Nat.sub_zero, ← List.map_take, eES, eEX, Nat.reduceBEq, ↓reduceIte, Nat.reduceAdd]
    refine aops_callF (hcl _ (by first | rfl | exact m3 | simp only [m3, eES, eEX, Nat.reduceBEq, ↓reduceIte, reduceCtorEq, Nat.reduceEqDiff]) (by first | rfl | simp only [eES, eEX, Nat.reduceBEq, ↓reduceIte, reduceCtorEq, Nat.reduceEqDiff])) (by simp only [List.map_cons, List.map_nil, h3, eES, Nat.reduceBEq] <;> rfl) ?_
    cases hp : (L.take i).any fun y => nm y == nm x
    · rw [hp] at hstep
      simp only [h9, e1, eES, Nat.reduceBEq, ↓reduceIte]
      exact ⟨L.length - (i + 1), by omega, _, _, i + 1, rfl, rfl, hstep, (by first | rfl | exact h0 | simp only [h0, eES, eEX, Nat.reduceBEq, ↓reduceIte, reduceCtorEq, Nat.reduceEqDiff]), (by first | rfl | exact h3 | simp only [h3, eES, eEX, Nat.reduceBEq, ↓reduceIte, reduceCtorEq, Nat.reduceEqDiff]), (by first | rfl | exact h7 | simp only [h7, eES, eEX, Nat.reduceBEq, ↓reduceIte, reduceCtorEq, Nat.reduceEqDiff]), (by first | rfl | exact h8 | simp only [h8, eES, eEX, Nat.reduceBEq, ↓reduceIte, reduceCtorEq, Nat.reduceEqDiff]), (by first | rfl | simp only [eES, eEX, Nat.reduceBEq, ↓reduceIte, reduceCtorEq, Nat.reduceEqDiff]), (by first | rfl | exact m3 | simp only [m3, eES, eEX, Nat.reduceBEq, ↓reduceIte, reduceCtorEq, Nat.reduceEqDiff]), by simp <;> rfl⟩
    · rw [hp] at hstep
      have hf : once L nm = false := by
        rw [Bool.eq_false_iff]
        intro h'
        rw [allU_iff.2 fun k hk => allU_iff.1 h' k (by omega)] at hstep
        cases hstep
      simp only [hf, Bool.not_false, eES, Nat.reduceBEq]
  · have hf : once L nm = true := allU_iff.2 fun k hk => allU_iff.1 hx k (by omega)
    simp only [lt_f hlt, hf, Bool.not_true, eES, Nat.reduceBEq, ↓reduceIte]

end

theorem z155 (nm : PI → List UInt8) (c : Nat) (hn : ∀ x, Fn1 Tryz.prog c [iav x] (.str (nm x))) (y x : PI) (fr : Nat → Ob) (m : Mem) (h3 : fr 3 = .cells [.fn (.func c) [] []]) (h6 : fr 6 = .cells x.cells) :
    ACalls Tryz.prog 155 [iav y, .ptr 3 3 0, .ptr 3 6 0] (noObs :: noObs :: noObs :: fr :: m) fun r m1 => r = .bool (nm y == nm x) ∧ m1 = noObs :: noObs :: noObs :: fr :: m := by
  have hy := hn y
  have hx := hn x
  have g3 : ∀ n, AV.shN n (.fn (.func c) [] []) = .fn (.func c) [] [] := fun n => sh_fn n c
  simp only [iav, PI.cells] at hy hx h6
  refine acalls_of_awp (rc := r155) (rs := o155) Tryz.func155 rfl rfl Tryz.ntmps155 k155 q155 (by simp) ?_
  simp only [g155_0, g155_1, r155, o155, iav, PI.cells, h3, g3, eES, eEX, Nat.reduceBEq, ↓reduceIte, Nat.reduceAdd, Nat.reduceLeDiff]
  refine aops_callW (fa := []) (fb := []) (by first | rfl | simp only [eES, eEX, Nat.reduceBEq, ↓reduceIte, reduceCtorEq, Nat.reduceEqDiff]) hy rfl rfl rfl (.inl rfl) ?_
  simp only [h3, h6, g3, eES, eEX, Nat.reduceBEq, ↓reduceIte, Nat.reduceAdd, Nat.reduceLeDiff]
  refine aops_callW (fa := []) (fb := []) (by first | rfl | simp only [eES, eEX, Nat.reduceBEq, ↓reduceIte, reduceCtorEq, Nat.reduceEqDiff]) hx rfl rfl rfl (.inl rfl) ?_
  simp only [astr, eES, Nat.reduceBEq]

section
variable (L : List PI) (hl : L.length ≤ maxLen) (nm : PI → List UInt8) (c : Nat) (m : Mem)

def ReI (k : Nat) (st : St) : Prop :=
  ∃ f fr i, st = ⟨f, fr :: m, []⟩ ∧ k = L.length - i ∧ allU (uniq L nm) i = true ∧ f 0 = .list (L.map iav) ∧ f 3 = .ptr 0 3 0 ∧ f 7 = .list (L.map iav) ∧ f 8 = .int .i64 (L.length : Nat) ∧ f 9 = .int .i64 (i : Nat) ∧ fr 3 = .cells [.fn (.func c) [] []] ∧ ∀ s ∈ [6], (fr s).isRow = false

include hl in
theorem z92 (hn : ∀ x, Fn1 Tryz.prog c [iav x] (.str (nm x))) :
    ACalls Tryz.prog 92 [.list (L.map iav), .fn (.func c) [] []] m fun y m1 => y = .bool (!once L nm) ∧ m1 = m := by
  refine acalls_of_awp (rc := r92) (rs := o92) Tryz.func92 rfl rfl Tryz.ntmps92 k92 q92 (by simp) ?_
  simp only [g92_0, g92_1, g92_7, r92, o92, List.length_map, eES, eEX, Nat.reduceBEq]
  refine awp_loop (ReI L nm c m) _ ⟨_, _, 0, rfl, rfl, rfl, (by first | rfl | simp only [eES, eEX, Nat.reduceBEq, ↓reduceIte, reduceCtorEq, Nat.reduceEqDiff]), (by first | rfl | simp only [eES, eEX, Nat.reduceBEq, ↓reduceIte, reduceCtorEq, Nat.reduceEqDiff]), (by first | rfl | simp only [eES, eEX, Nat.reduceBEq, ↓reduceIte, reduceCtorEq, Nat.reduceEqDiff]), (by first | rfl | simp only [eES, eEX, Nat.reduceBEq, ↓reduceIte, reduceCtorEq, Nat.reduceEqDiff]), (by first | rfl | simp only [eES, eEX, Nat.reduceBEq, ↓reduceIte, reduceCtorEq, Nat.reduceEqDiff]), (by first | rfl | simp only [eES, eEX, Nat.reduceBEq, ↓reduceIte, reduceCtorEq, Nat.reduceEqDiff]), by simp <;> rfl⟩ ?_
  rintro _ st ⟨f0, fr0, i, rfl, rfl, hx, h00, h30, h70, h80, h90, m30, r6⟩
  refine awp_drops (a := _) [6] r6 ?_
  intro f fr hf hm hn6
  have h0 : f 0 = .list (L.map iav) := by rw [hf, h00] <;> rfl
  have h3 : f 3 = .ptr 0 3 0 := by rw [hf, h30] <;> rfl
  have h7 : f 7 = .list (L.map iav) := by rw [hf, h70] <;> rfl
  have h8 : f 8 = .int .i64 (L.length : Nat) := by rw [hf, h80] <;> rfl
  have h9 : f 9 = .int .i64 (i : Nat) := by rw [hf, h90] <;> rfl
  have m3 : fr 3 = .cells [.fn (.func c) [] []] := by rw [hm 3 (by decide), m30] <;> rfl
  have n6 := hn6 6 (by decide)
  clear hf hm hn6 h00 h30 h70 h80 h90 m30 r6
  simp only [g92_2, g92_3, g92_4, g92_5, g92_6, h8, h9, eES, Nat.reduceBEq, ↓reduceIte]
  by_cases hlt : i < L.length
  · obtain ⟨x, hi⟩ : ∃ x, L[i]? = some x := ⟨L[i], List.getElem?_eq_getElem hlt⟩
    have hg : (L.map iav)[i]? = some (iav x) := by simp [hi]
    have e1 := wi64_s i _ hlt hl
    have hle : (i ≤ L.length) = True := eq_true (by omega)
    have ht : ((L.map iav).drop 0).take (i - 0) = (L.take i).map iav := by simp
    have hstep : allU (uniq L nm) (i + 1) = !(L.take i).any fun y => nm y == nm x := by
      rw [allU, hx, Bool.true_and, uniq_at hi, all_not]
    have hcl := fun (fr : Nat → Ob) (h3 : fr 3 = .cells [.fn (.func c) [] []]) (h6 : fr 6 = .cells x.cells) => z75 (L.take i) (by simp; omega) (fun y => nm y == nm x) 155 [.ptr 0 3 0, .ptr 0 6 0] (fr :: m) fun y _ => z155 nm c hn y x fr m h3 h6
    simp only [lt_t hlt, nneg, Int.toNat_natCast, aiaddr, hg, iav, PI.cells, n6, splice, List.take_succ_cons, List.take_zero, List.drop_succ_cons, List.drop_zero, List.drop_nil, List.append_nil, List.nil_append, List.length_cons, List.length_nil, h0, h7, h9, bnd, lenA, aslice, Option.getD_none, List.length_map, Nat.zero_le, Nat.le_refl, hle, true_or, Nat.sub_zero, ← List.map_take, eES, eEX, Nat.reduceBEq, ↓reduceIte, Nat.reduceAdd]
    refine aops_callF (hcl _ (by first | rfl | exact m3 | simp only [m3, eES, eEX, Nat.reduceBEq, ↓reduceIte, reduceCtorEq, Nat.reduceEqDiff]) (by first | rfl | simp only [eES, eEX, Nat.reduceBEq, ↓reduceIte, reduceCtorEq, Nat.reduceEqDiff])) (by simp only [List.map_cons, List.map_nil, h3, eES, Nat.reduceBEq] <;> rfl) ?_
    cases hp : (L.take i).any fun y => nm y == nm x
    · rw [hp] at hstep
      simp only [h9, e1, eES, Nat.reduceBEq, ↓reduceIte]
      exact ⟨L.length - (i + 1), by omega, _, _, i + 1, rfl, rfl, hstep, (by first | rfl | exact h0 | simp only [h0, eES, eEX, Nat.reduceBEq, ↓reduceIte, reduceCtorEq, Nat.reduceEqDiff]), (by first | rfl | exact h3 | simp only [h3, eES, eEX, Nat.reduceBEq, ↓reduceIte, reduceCtorEq, Nat.reduceEqDiff]), (by first | rfl | exact h7 | simp only [h7, eES, eEX, Nat.reduceBEq, ↓reduceIte, reduceCtorEq, Nat.reduceEqDiff]), (by first | rfl | exact h8 | simp only [h8, eES, eEX, Nat.reduceBEq, ↓reduceIte, reduceCtorEq, Nat.reduceEqDiff]), (by first | rfl | simp only [eES, eEX, Nat.reduceBEq, ↓reduceIte, reduceCtorEq, Nat.reduceEqDiff]), (by first | rfl | exact m3 | simp only [m3, eES, eEX, Nat.reduceBEq, ↓reduceIte, reduceCtorEq, Nat.reduceEqDiff]), by simp <;> rfl⟩
    · rw [hp] at hstep
      have hf : once L nm = false := by
        rw [Bool.eq_false_iff]
        intro h'
        rw [allU_iff.2 fun k hk => allU_iff.1 h' k (by omega)] at hstep
        cases hstep
      simp only [hf, Bool.not_false, eES, Nat.reduceBEq]
  · have hf : once L nm = true := allU_iff.2 fun k hk => allU_iff.1 hx k (by omega)
    simp only [lt_f hlt, hf, Bool.not_true, eES, Nat.reduceBEq, ↓reduceIte]

end

theorem z90 (o : PO) : Fn1 Tryz.prog 90 [oav o] (.str o.name) := by
  refine fn1_of_awp (rc := r90) (rs := o90) Tryz.func90 rfl rfl Tryz.ntmps90 k90 q90 (by simp) ?_
  simp only [g90_0, g90_1, r90, o90, oav, PO.cells, eES, eEX, Nat.reduceBEq, Nat.reduceAdd]

theorem z93 (o : PI) : Fn1 Tryz.prog 93 [iav o] (.str o.name) := by
  refine fn1_of_awp (rc := r93) (rs := o93) Tryz.func93 rfl rfl Tryz.ntmps93 k93 q93 (by simp) ?_
  simp only [g93_0, g93_1, r93, o93, iav, PI.cells, eES, eEX, Nat.reduceBEq, Nat.reduceAdd]

theorem z88 (x : PE) (g : PG) (fr : Nat → Ob) (m : Mem) (h2 : fr 2 = .cells g.cells) : ACalls Tryz.prog 88 [eav x, .ptr 3 2 0] (noObs :: noObs :: noObs :: fr :: m) fun y m1 => y = .bool (x.name == g.name) ∧ m1 = noObs :: noObs :: noObs :: fr :: m := by
  simp only [PG.cells] at h2
  refine acalls_of_awp (rc := r88) (rs := o88) Tryz.func88 rfl rfl Tryz.ntmps88 k88 q88 (by simp) ?_
  simp only [g88_0, g88_1, r88, o88, eav, PE.cells, h2, astr, eES, eEX, Nat.reduceBEq, Nat.reduceAdd]

theorem z91 (x : PE) (hl : x.items.length ≤ maxLen) (m : Mem) : ACalls Tryz.prog 91 [eav x] m fun y m1 => y = .bool (!sin2 x) ∧ m1 = m := by
  refine acalls_of_awp (rc := r91) (rs := o91) Tryz.func91 rfl rfl Tryz.ntmps91 k91 q91 (by simp) ?_
  simp only [g91_0, g91_1, r91, o91, eav, PE.cells, sin2, eES, eEX, Nat.reduceBEq, Nat.reduceAdd]
  refine aops_callF (z92 x.items hl PI.name 93 _ z93) (by simp only [List.map_cons, List.map_nil, eES, Nat.reduceBEq] <;> rfl) ?_
  simp only [eES, Nat.reduceBEq]

section
variable {M : Nat} (P : PL) (hP : P.ok M)
include hP

theorem z87 (g : PG) (hl : g.ops.length ≤ maxLen) (fr : Nat → Ob) (h1 : fr 1 = .cells [.list (P.progs.map gav), .list (P.enums.map eav)]) :
    ACalls Tryz.prog 87 [gav g, .ptr 3 1 0] [noObs, noObs, noObs, fr] fun y m1 => y = .bool (!sin1 P g) ∧ m1 = [noObs, noObs, noObs, fr] := by
  have e : sin1 P g = (!(P.enums.any fun e => e.name == g.name) && once g.ops PO.name) := by rw [sin1, all_not]
  refine acalls_of_awp (rc := r87) (rs := o87) Tryz.func87 rfl rfl Tryz.ntmps87 k87 q87 (by simp) ?_
  simp only [g87_0, g87_1, r87, o87, gav, PG.cells, h1, e, eES, eEX, Nat.reduceBEq, Nat.reduceAdd]
  refine aops_callF (z67 P.enums hP.len2 (fun e => e.name == g.name) 88 [.ptr 0 2 0] _ fun o _ => z88 o g _ _ (by first | rfl | simp only [eES, eEX, Nat.reduceBEq, ↓reduceIte, reduceCtorEq, Nat.reduceEqDiff])) (by simp only [List.map_cons, List.map_nil, eES, Nat.reduceBEq] <;> rfl) ?_
  cases P.enums.any fun e => e.name == g.name
  · simp only [Bool.not_false, Bool.true_and, eES, eEX, Nat.reduceBEq, Nat.reduceAdd]
    refine aops_callF (z89 g.ops hl PO.name 90 _ z90) (by simp only [List.map_cons, List.map_nil, eES, Nat.reduceBEq] <;> rfl) ?_
    simp only [eES, Nat.reduceBEq, Nat.reduceAdd]
  · simp only [Bool.not_true, Bool.false_and, Bool.not_false, eES, Nat.reduceBEq, Nat.reduceAdd]

theorem z26 : Fn1 Tryz.prog 26 [P.av] (.bool (!sin P)) := by
  have e0 : P.av = .agg [.list (P.progs.map gav), .list (P.enums.map eav)] := rfl
  refine fn1_of_awp (rc := r26) (rs := o26) Tryz.func26 rfl rfl Tryz.ntmps26 k26 q26 (by simp) ?_
  simp only [g26_0, g26_1, r26, o26, e0, sin, eES, eEX, Nat.reduceBEq, Nat.reduceAdd]
  refine aops_callF (z65 P.progs hP.len1 (fun g => !sin1 P g) 87 [.ptr 0 1 0] _ fun o ho => z87 P hP o (hP.progs o ho).len _ (by first | rfl | simp only [eES, eEX, Nat.reduceBEq, ↓reduceIte, reduceCtorEq, Nat.reduceEqDiff])) (by simp only [List.map_cons, List.map_nil, eES, Nat.reduceBEq] <;> rfl) ?_
  simp only [any_not, eES, Nat.reduceBEq]
  cases P.progs.all (sin1 P)
  · simp only [Bool.not_false, Bool.false_and, eES, Nat.reduceBEq]
  simp only [Bool.not_true, Bool.true_and, eES, eEX, Nat.reduceBEq, Nat.reduceAdd]
  refine aops_callF (z67 P.enums hP.len2 (fun g => !sin2 g) 91 [] _ fun o ho => z91 o (hP.enums o ho).len1 _) (by simp only [List.map_cons, List.map_nil, eES, Nat.reduceBEq] <;> rfl) ?_
  simp only [any_not, eES, Nat.reduceBEq]

end

theorem z214 (x : PS) (n : Int) (fr : Nat → Ob) (m : Mem) (h3 : fr 3 = .cells [.int .i64 n]) : ACalls Tryz.prog 214 [spav x, .ptr 2 3 0] (noObs :: noObs :: fr :: m) fun y m1 => y = .bool (decide (x.lo ≤ n) && decide (n ≤ x.hi)) ∧ m1 = noObs :: noObs :: fr :: m := by
  refine acalls_of_awp (rc := r214) (rs := o214) Tryz.func214 rfl rfl Tryz.ntmps214 k214 q214 (by simp) ?_
  simp only [g214_0, g214_1, r214, o214, spav, PS.cells, h3, eES, eEX, Nat.reduceBEq, ↓reduceIte, Nat.reduceAdd]
  cases h : decide (x.lo ≤ n) <;> simp only [h3, Bool.true_and, Bool.false_and, eES, eEX, Nat.reduceBEq, ↓reduceIte, Nat.reduceAdd]

theorem z157 (L : List PS) (hl : L.length ≤ maxLen) (n : Int) : Fn1 Tryz.prog 157 [.list (L.map spav), .int .i64 n] (.bool (kept L n)) := by
  refine fn1_of_awp (rc := r157) (rs := o157) Tryz.func157 rfl rfl Tryz.ntmps157 k157 q157 (by simp) ?_
  simp only [g157_0, g157_1, r157, o157, eES, eEX, Nat.reduceBEq]
  refine aops_callF (z213 L hl (fun x => decide (x.lo ≤ n) && decide (n ≤ x.hi)) 214 [.ptr 0 3 0] _ fun o _ => z214 o n _ _ (by first | rfl | simp only [eES, eEX, Nat.reduceBEq, ↓reduceIte, reduceCtorEq, Nat.reduceEqDiff])) (by simp only [List.map_cons, List.map_nil, eES, Nat.reduceBEq] <;> rfl) ?_
  simp only [kept, eES, Nat.reduceBEq]

theorem z95 (o : PO) (m : Mem) : ACalls Tryz.prog 95 [oav o] m fun y m1 => y = .bool (!rngO o) ∧ m1 = m := by
  refine acalls_of_awp (rc := r95) (rs := o95) Tryz.func95 rfl rfl Tryz.ntmps95 k95 q95 (by simp) ?_
  have e1 : decide (o.num < 1) = !decide (o.num ≥ 1) := (by rw [Bool.eq_iff_iff]; simp only [decide_eq_true_eq, Bool.not_eq_true', decide_eq_false_iff_not]; omega)
  have e2 : decide (o.num > 65535) = !decide (o.num ≤ 65535) := (by rw [Bool.eq_iff_iff]; simp only [decide_eq_true_eq, Bool.not_eq_true', decide_eq_false_iff_not]; omega)
  simp only [g95_0, g95_1, r95, o95, oav, PO.cells, rngO, e1, eES, eEX, Nat.reduceBEq, ↓reduceIte, Nat.reduceAdd]
  cases decide (o.num ≥ 1) <;> simp only [Bool.not_true, Bool.not_false, Bool.true_and, Bool.false_and, e2, eES, eEX, Nat.reduceBEq, ↓reduceIte, Nat.reduceAdd]

theorem z94 (g : PG) (hl : g.ops.length ≤ maxLen) (m : Mem) : ACalls Tryz.prog 94 [gav g] m fun y m1 => y = .bool (!g.ops.all rngO) ∧ m1 = m := by
  refine acalls_of_awp (rc := r94) (rs := o94) Tryz.func94 rfl rfl Tryz.ntmps94 k94 q94 (by simp) ?_
  simp only [g94_0, g94_1, r94, o94, gav, PG.cells, eES, eEX, Nat.reduceBEq, Nat.reduceAdd]
  refine aops_callF (z71 g.ops hl (fun o => !rngO o) 95 [] _ fun o _ => z95 o _) (by simp only [List.map_cons, List.map_nil, eES, Nat.reduceBEq] <;> rfl) ?_
  simp only [any_not, eES, Nat.reduceBEq]

theorem z156 (o : PI) (x : PE) (hl : x.free.length ≤ maxLen) (fr : Nat → Ob) (m : Mem) (h1 : fr 1 = .cells x.cells) : ACalls Tryz.prog 156 [iav o, .ptr 3 1 0] (noObs :: noObs :: noObs :: fr :: m) fun y m1 => y = .bool (!rngI x o) ∧ m1 = noObs :: noObs :: noObs :: fr :: m := by
  have hr : Fn1 Tryz.prog 157 [.list (x.free.map fun n => AV.agg n.cells), .int .i64 o.num] (.bool (kept x.free o.num)) := z157 x.free hl o.num
  simp only [PE.cells] at h1
  refine acalls_of_awp (rc := r156) (rs := o156) Tryz.func156 rfl rfl Tryz.ntmps156 k156 q156 (by simp) ?_
  have e2 : decide (o.num > 2147483647) = !decide (o.num ≤ 2147483647) := (by rw [Bool.eq_iff_iff]; simp only [decide_eq_true_eq, Bool.not_eq_true', decide_eq_false_iff_not]; omega)
  simp only [g156_0, g156_1, r156, o156, iav, PI.cells, rngI, e2, eES, eEX, Nat.reduceBEq, ↓reduceIte, Nat.reduceAdd]
  cases decide (o.num ≤ 2147483647)
  · simp only [Bool.not_false, Bool.false_and, eES, Nat.reduceBEq]
  · simp only [Bool.not_true, Bool.true_and, h1, eES, eEX, Nat.reduceBEq, Nat.reduceAdd]
    refine aops_call hr rfl rfl rfl (.inl rfl) ?_
    simp only [Bool.not_not, eES, Nat.reduceBEq]

def spq (l : List PS) (i : Nat) : Bool := ask l spn i && two l spt i
theorem spq_all (l : List PS) : allU (spq l) l.length = (l.all spn && adj l spt) := by
  unfold spq adj
  rw [allU_and, allU_ask]

def OuI (x : PE) (m : Mem) (k : Nat) (st : St) : Prop :=
  ∃ f fr i, st = ⟨f, fr :: m, []⟩ ∧ k = x.free.length - i ∧ allU (spq x.free) i = true ∧ f 1 = .ptr 0 1 0 ∧ f 6 = .list (x.free.map spav) ∧ f 7 = .int .i64 (x.free.length : Nat) ∧ f 8 = .int .i64 (i : Nat) ∧ fr 1 = .cells x.cells ∧ ∀ s ∈ [4], (fr s).isRow = false

theorem z96 (x : PE) (h0 : x.items ≠ []) (hl1 : x.items.length ≤ maxLen) (hl : x.free.length ≤ maxLen) (m : Mem) : ACalls Tryz.prog 96 [eav x] m fun y m1 => y = .bool (!rng2 x) ∧ m1 = m := by
  have hsp := spq_all x.free
  have z1 : Int.toNat 0 = 0 := rfl
  have z0 : (0 ≤ (0 : Int)) = True := by simp
  refine acalls_of_awp (rc := r96) (rs := o96) Tryz.func96 rfl rfl Tryz.ntmps96 k96 q96 (by simp) ?_
  simp only [g96_0, g96_1, g96_7, r96, o96, eav, PE.cells, List.length_map, eES, eEX, Nat.reduceBEq, Nat.reduceAdd]
  refine awp_loop (OuI x m) _ ⟨_, _, 0, rfl, rfl, rfl, (by first | rfl | simp only [eES, eEX, Nat.reduceBEq, ↓reduceIte, reduceCtorEq, Nat.reduceEqDiff]), (by first | rfl | simp only [eES, eEX, Nat.reduceBEq, ↓reduceIte, reduceCtorEq, Nat.reduceEqDiff]), (by first | rfl | simp only [eES, eEX, Nat.reduceBEq, ↓reduceIte, reduceCtorEq, Nat.reduceEqDiff]), (by first | rfl | simp only [eES, eEX, Nat.reduceBEq, ↓reduceIte, reduceCtorEq, Nat.reduceEqDiff]), (by first | rfl | simp only [eES, eEX, Nat.reduceBEq, ↓reduceIte, reduceCtorEq, Nat.reduceEqDiff]), by simp <;> rfl⟩ ?_
  rintro _ st ⟨f0, fr0, i, rfl, rfl, hx, h10, h60, h70, h80, m10, r4⟩
  refine awp_drops (a := _) [4] r4 ?_
  intro f fr hf hm hn4
  have h1 : f 1 = .ptr 0 1 0 := by rw [hf, h10] <;> rfl
  have h6 : f 6 = .list (x.free.map spav) := by rw [hf, h60] <;> rfl
  have h7 : f 7 = .int .i64 (x.free.length : Nat) := by rw [hf, h70] <;> rfl
  have h8 : f 8 = .int .i64 (i : Nat) := by rw [hf, h80] <;> rfl
  have m1 : fr 1 = .cells x.cells := by rw [hm 1 (by decide), m10] <;> rfl
  have n4 := hn4 4 (by decide)
  clear hf hm hn4 h10 h60 h70 h80 m10 r4
  simp only [PE.cells] at m1
  simp only [g96_2, g96_3, g96_4, g96_5, g96_6, h7, h8, eES, Nat.reduceBEq, ↓reduceIte]
  by_cases hlt : i < x.free.length
  · obtain ⟨y, hi⟩ : ∃ y, x.free[i]? = some y := ⟨x.free[i], List.getElem?_eq_getElem hlt⟩
    have hg : (x.free.map spav)[i]? = some (spav y) := by simp [hi]
    have e1 := wi64_s i _ hlt hl
    have hstep : allU (spq x.free) (i + 1) = (spn y && two x.free spt i) := by
      rw [allU, hx, Bool.true_and, spq, ask_at hi]
    have hend : allU (spq x.free) (i + 1) = false → rng2 x = false := by
      intro h
      unfold rng2
      rw [← hsp]
      have : allU (spq x.free) x.free.length = false := by
        rw [Bool.eq_false_iff]
        intro h'
        rw [allU_iff.2 fun k hk => allU_iff.1 h' k (by omega)] at h
        cases h
      rw [this]; rfl
    have fin : ∀ (f' : Fr) (fr' : Nat → Ob), allU (spq x.free) (i + 1) = true → f' 1 = .ptr 0 1 0 → f' 6 = .list (x.free.map spav) → f' 7 = .int .i64 (x.free.length : Nat) → f' 8 = .int .i64 ((i + 1 : Nat) : Int) → fr' 1 = .cells x.cells → (∀ s ∈ [4], (fr' s).isRow = false) → ∃ k, k < x.free.length - i ∧ OuI x m k ⟨f', fr' :: m, []⟩ := by
      intro f' fr' a b c d e g h
      exact ⟨x.free.length - (i + 1), by omega, f', fr', i + 1, rfl, rfl, a, b, c, d, e, g, h⟩
    have s1 : spn y = (!decide (y.lo < 0) && !decide (y.hi > 2147483647) && !decide (y.hi < y.lo)) := by
      unfold spn; exact (by rw [Bool.eq_iff_iff]; simp only [decide_eq_true_eq, Bool.not_eq_true', decide_eq_false_iff_not, Bool.and_eq_true]; omega)
    rw [s1] at hstep
    simp only [lt_t hlt, nneg, Int.toNat_natCast, aiaddr, hg, spav, PS.cells, n4, splice, List.take_succ_cons, List.take_zero, List.drop_succ_cons, List.drop_zero, List.drop_nil, List.append_nil, List.nil_append, List.length_cons, List.length_nil, h6, h8, eES, eEX, Nat.reduceBEq, ↓reduceIte, Nat.reduceAdd, Nat.reduceLeDiff]
    cases a1 : decide (y.lo < 0)
    case true =>
      rw [a1, Bool.not_true, Bool.false_and, Bool.false_and, Bool.false_and] at hstep
      simp only [hend hstep, Bool.not_false, eES, Nat.reduceBEq]
    cases a2 : decide (y.hi > 2147483647)
    case true =>
      rw [a1, a2, Bool.not_true, Bool.and_false, Bool.false_and, Bool.false_and] at hstep
      simp only [a2, hend hstep, Bool.not_false, eES, eEX, Nat.reduceBEq, ↓reduceIte, Nat.reduceAdd]
    cases a3 : decide (y.hi < y.lo)
    case true =>
      rw [a1, a2, a3, Bool.not_true, Bool.and_false, Bool.false_and] at hstep
      simp only [a2, a3, hend hstep, Bool.not_false, eES, eEX, Nat.reduceBEq, ↓reduceIte, Nat.reduceAdd]
    rw [a1, a2, a3] at hstep
    simp only [Bool.not_false, Bool.true_and] at hstep
    cases i with
    | zero =>
      have d0 : decide (((0 : Nat) : Int) > 0) = false := rfl
      rw [two_zero] at hstep
      simp only [a2, a3, d0, h8, e1, eES, eEX, Nat.reduceBEq, ↓reduceIte, Nat.reduceAdd]
      exact fin _ _ hstep (by first | rfl | exact h1 | simp only [h1, eES, eEX, Nat.reduceBEq, ↓reduceIte, reduceCtorEq, Nat.reduceEqDiff]) (by first | rfl | exact h6 | simp only [h6, eES, eEX, Nat.reduceBEq, ↓reduceIte, reduceCtorEq, Nat.reduceEqDiff]) (by first | rfl | exact h7 | simp only [h7, eES, eEX, Nat.reduceBEq, ↓reduceIte, reduceCtorEq, Nat.reduceEqDiff]) (by first | rfl | simp only [eES, eEX, Nat.reduceBEq, ↓reduceIte, reduceCtorEq, Nat.reduceEqDiff]) (by first | rfl | exact m1 | simp only [m1, eES, eEX, Nat.reduceBEq, ↓reduceIte, reduceCtorEq, Nat.reduceEqDiff]) (by simp <;> rfl)
    | succ j =>
      have d0 : decide (((j + 1 : Nat) : Int) > 0) = true := decide_eq_true (by omega)
      obtain ⟨z, hj⟩ : ∃ z, x.free[j]? = some z := ⟨x.free[j]'(by omega), List.getElem?_eq_getElem (by omega)⟩
      have hgj : (x.free.map fun n => AV.agg n.cells)[j]? = some (.agg z.cells) := by simp [hj]
      simp only [PS.cells] at hgj
      rw [two_at hj hi] at hstep
      have w := wp64 j _ hlt hl
      have s2 : spt z y = !decide (y.lo ≤ z.hi) := by unfold spt; exact (by rw [Bool.eq_iff_iff]; simp only [decide_eq_true_eq, Bool.not_eq_true', decide_eq_false_iff_not]; omega)
      rw [s2] at hstep
      simp only [a2, a3, d0, w, nneg, Int.toNat_natCast, aiaddr, hgj, PS.cells, h1, m1, eES, eEX, Nat.reduceBEq, ↓reduceIte, Nat.reduceAdd]
      cases a4 : decide (y.lo ≤ z.hi)
      · rw [a4] at hstep
        simp only [h8, e1, eES, Nat.reduceBEq, ↓reduceIte]
        exact fin _ _ hstep (by first | rfl | exact h1 | simp only [h1, eES, eEX, Nat.reduceBEq, ↓reduceIte, reduceCtorEq, Nat.reduceEqDiff]) (by first | rfl | exact h6 | simp only [h6, eES, eEX, Nat.reduceBEq, ↓reduceIte, reduceCtorEq, Nat.reduceEqDiff]) (by first | rfl | exact h7 | simp only [h7, eES, eEX, Nat.reduceBEq, ↓reduceIte, reduceCtorEq, Nat.reduceEqDiff]) (by first | rfl | simp only [eES, eEX, Nat.reduceBEq, ↓reduceIte, reduceCtorEq, Nat.reduceEqDiff]) (by first | rfl | exact m1 | simp only [m1, eES, eEX, Nat.reduceBEq, ↓reduceIte, reduceCtorEq, Nat.reduceEqDiff]) (by simp <;> rfl)
      · rw [a4] at hstep
        simp only [hend hstep, Bool.not_false, eES, Nat.reduceBEq]
  · have hfr : allU (spq x.free) x.free.length = true := allU_iff.2 fun k hk => allU_iff.1 hx k (by omega)
    obtain ⟨it, its, hits⟩ : ∃ it its, x.items = it :: its := by
      cases h : x.items with
      | nil => exact absurd h h0
      | cons a b => exact ⟨a, b, rfl⟩
    have hr : rng2 x = (it.num == 0 && x.items.all (rngI x)) := by
      unfold rng2
      rw [← hsp, hfr, Bool.true_and, frst, hits]
    have hg0 : (x.items.map fun n => AV.agg n.cells)[0]? = some (.agg it.cells) := by simp [hits]
    have hne : (it.num != 0) = !(it.num == 0) := rfl
    simp only [PI.cells] at hg0
    simp only [lt_f hlt, aiaddr, z0, z1, hg0, PI.cells, hr, hne, List.length_cons, List.length_nil, h1, m1, eES, eEX, Nat.reduceBEq, ↓reduceIte, Nat.reduceAdd]
    cases it.num == 0
    · simp only [Bool.not_false, Bool.false_and, eES, Nat.reduceBEq]
    · simp only [Bool.not_true, Bool.true_and, m1, h1, eES, eEX, Nat.reduceBEq, Nat.reduceAdd]
      refine aops_callF (z75 x.items hl1 (fun o => !rngI x o) 156 [.ptr 0 1 0] _ fun o _ => z156 o x hl _ _ (by first | rfl | exact m1 | simp only [m1, eES, eEX, Nat.reduceBEq, ↓reduceIte, reduceCtorEq, Nat.reduceEqDiff])) (by simp only [List.map_cons, List.map_nil, h1, eES, Nat.reduceBEq] <;> rfl) ?_
      simp only [any_not, eES, Nat.reduceBEq]

theorem z27 {M : Nat} (P : PL) (hP : P.ok M) (hi : ∀ e ∈ P.enums, e.items ≠ []) : Fn1 Tryz.prog 27 [P.av] (.bool (!rng P)) := by
  have e0 : P.av = .agg [.list (P.progs.map gav), .list (P.enums.map eav)] := rfl
  refine fn1_of_awp (rc := r27) (rs := o27) Tryz.func27 rfl rfl Tryz.ntmps27 k27 q27 (by simp) ?_
  simp only [g27_0, g27_1, r27, o27, e0, rng, eES, eEX, Nat.reduceBEq, Nat.reduceAdd]
  refine aops_callF (z65 P.progs hP.len1 (fun g => !g.ops.all rngO) 94 [] _ fun o ho => z94 o (hP.progs o ho).len _) (by simp only [List.map_cons, List.map_nil, eES, Nat.reduceBEq] <;> rfl) ?_
  simp only [any_not, eES, Nat.reduceBEq]
  cases P.progs.all fun g => g.ops.all rngO
  · simp only [Bool.not_false, Bool.false_and, eES, Nat.reduceBEq]
  simp only [Bool.not_true, Bool.true_and, eES, eEX, Nat.reduceBEq, Nat.reduceAdd]
  refine aops_callF (z67 P.enums hP.len2 (fun g => !rng2 g) 96 [] _ fun o ho => z96 o (hi o ho) (hP.enums o ho).len1 (hP.enums o ho).len2 _) (by simp only [List.map_cons, List.map_nil, eES, Nat.reduceBEq] <;> rfl) ?_
  simp only [any_not, eES, Nat.reduceBEq]

end Go.Proofs.YtelhohgmmhbahaaGreatDoor.Va

set_option linter.unusedSimpArgs false
namespace Go.Proofs.YtelhohgmmhbahaaGreatDoor.Va
open Go Am Rc Bt

def bt (s : List UInt8) (i lo hi : Nat) : Bool :=
  match s[i]? with
  | some b => decide (lo ≤ b.toNat) && decide (b.toNat ≤ hi)
  | none => false
def tl (s : List UInt8) : Nat → Nat → Bool
  | _, 0 => true
  | i, n + 1 => bt s i 128 191 && tl s (i + 1) n
def szb (s : List UInt8) (i b : Nat) : Nat :=
  if b < 128 then 1
  else if 194 ≤ b ∧ b ≤ 223 ∧ tl s (i + 1) 1 = true then 2
  else if b = 224 ∧ bt s (i + 1) 160 191 = true ∧ tl s (i + 2) 1 = true then 3
  else if b = 237 ∧ bt s (i + 1) 128 159 = true ∧ tl s (i + 2) 1 = true then 3
  else if 225 ≤ b ∧ b ≤ 239 ∧ b ≠ 237 ∧ tl s (i + 1) 2 = true then 3
  else if b = 240 ∧ bt s (i + 1) 144 191 = true ∧ tl s (i + 2) 2 = true then 4
  else if 241 ≤ b ∧ b ≤ 243 ∧ tl s (i + 1) 3 = true then 4
  else if b = 244 ∧ bt s (i + 1) 128 143 = true ∧ tl s (i + 2) 2 = true then 4
  else 0
def sz (s : List UInt8) (i : Nat) : Nat :=
  match s[i]? with
  | none => 0
  | some c => szb s i c.toNat
def bad (s : List UInt8) : Nat → Nat → Int
  | 0, _ => -1
  | k + 1, i => if i < s.length then (if sz s i = 0 then (i : Int) else bad s k (i + sz s i)) else -1
def vld (s : List UInt8) : Bool := decide (bad s s.length 0 < 0)

theorem geu8 (c : UInt8) (n : Nat) : decide ((c.toNat : Int) ≥ (n : Int)) = decide (n ≤ c.toNat) := by simp
theorem leu8 (c : UInt8) (n : Nat) : decide ((c.toNat : Int) ≤ (n : Int)) = decide (c.toNat ≤ n) := by simp

theorem c290 (s : List UInt8) (i lo hi : Nat) : Fn1 Tryz.prog 290 [.str s, .int .i64 (i : Nat), .int .u8 (lo : Nat), .int .u8 (hi : Nat)] (.bool (bt s i lo hi)) := by
  refine fn1_of_awp (rc := r290) (rs := o290) Tryz.func290 rfl rfl Tryz.ntmps290 k290 q290 (by simp) ?_
  by_cases hlt : i < s.length
  · obtain ⟨c, hc⟩ : ∃ c, s[i]? = some c := ⟨s[i], List.getElem?_eq_getElem hlt⟩
    have hb : bt s i lo hi = (decide (lo ≤ c.toNat) && decide (c.toNat ≤ hi)) := by simp only [bt, hc]
    simp only [g290_0, g290_1, r290, o290, lt_t hlt, nneg, Int.toNat_natCast, hc, geu8, eES, Nat.reduceBEq, ↓reduceIte]
    by_cases h1 : lo ≤ c.toNat
    · have d1 : decide (lo ≤ c.toNat) = true := by simpa using h1
      simp only [d1, nneg, Int.toNat_natCast, hc, hb, leu8, Bool.true_and, eES, Nat.reduceBEq, ↓reduceIte]
    · have d1 : decide (lo ≤ c.toNat) = false := by simpa using h1
      simp only [d1, hb, Bool.false_and, eES, Nat.reduceBEq]
  · have hb : bt s i lo hi = false := by simp only [bt, List.getElem?_eq_none (Nat.le_of_not_lt hlt)]
    simp only [g290_0, g290_1, r290, o290, lt_f hlt, hb, eES, Nat.reduceBEq, ↓reduceIte]

def TailI (s : List UInt8) (i n : Nat) (k : Nat) (st : St) : Prop :=
  ∃ f j, st = ⟨f, [noObs], []⟩ ∧ k = n - j ∧ j ≤ n ∧ tl s i n = tl s (i + j) (n - j) ∧ f 0 = .str s ∧ f 1 = .int .i64 (i : Nat) ∧ f 2 = .int .i64 (n : Nat) ∧ f 7 = .int .i64 (j : Nat)

theorem wadd (a b : Nat) (h : a + b ≤ maxLen) : IntKind.i64.wrap ((a : Int) + (b : Int)) = ((a + b : Nat) : Int) := by
  simp only [maxLen] at h
  rw [wi64]; omega

theorem c289 (s : List UInt8) (i n : Nat) (hi : i + n ≤ maxLen) : Fn1 Tryz.prog 289 [.str s, .int .i64 (i : Nat), .int .i64 (n : Nat)] (.bool (tl s i n)) := by
  refine fn1_of_awp (rc := r289) (rs := o289) Tryz.func289 rfl rfl Tryz.ntmps289 k289 q289 (by simp) ?_
  simp only [g289_0, g289_1, g289_6, r289, o289, eES]
  refine awp_loop (TailI s i n) _ ⟨_, 0, rfl, rfl, Nat.zero_le _, rfl, rfl, rfl, rfl, rfl⟩ ?_
  rintro _ st ⟨f, j, rfl, rfl, hj, ht, h0, h1, h2, h7⟩
  simp only [l289_0, g289_2, g289_4, g289_5, g289_3, h2, h7, eES, Nat.reduceBEq, ↓reduceIte]
  by_cases hlt : j < n
  · have e0 := wadd i j (by omega)
    have e1 := wi64_s j _ hlt (by omega)
    simp only [lt_t hlt, h0, h1, h7, e0, eES, Nat.reduceBEq, ↓reduceIte]
    refine aops_call (c290 s (i + j) 128 191) rfl rfl rfl (.inl rfl) ?_
    have hs : tl s i n = (bt s (i + j) 128 191 && tl s (i + (j + 1)) (n - (j + 1))) := by
      rw [ht]
      obtain ⟨m, hm⟩ : ∃ m, n - j = m + 1 := ⟨n - j - 1, by omega⟩
      rw [hm, show n - (j + 1) = m by omega]
      rfl
    cases hb : bt s (i + j) 128 191
    · rw [hb] at hs
      simp only [hs, Bool.false_and, eES, Nat.reduceBEq]
    · rw [hb, Bool.true_and] at hs
      simp only [h7, e1, eES, Nat.reduceBEq, ↓reduceIte]
      exact ⟨n - (j + 1), by omega, _, j + 1, rfl, rfl, by omega, hs, (by first | rfl | exact h0 | simp only [h0, eES, eEX, Nat.reduceBEq, ↓reduceIte, reduceCtorEq, Nat.reduceEqDiff]), (by first | rfl | exact h1 | simp only [h1, eES, eEX, Nat.reduceBEq, ↓reduceIte, reduceCtorEq, Nat.reduceEqDiff]), (by first | rfl | exact h2 | simp only [h2, eES, eEX, Nat.reduceBEq, ↓reduceIte, reduceCtorEq, Nat.reduceEqDiff]), (by first | rfl | simp only [eES, eEX, Nat.reduceBEq, ↓reduceIte, reduceCtorEq, Nat.reduceEqDiff])⟩
  · have hs : tl s i n = true := by
      rw [ht, show n - j = 0 by omega]
      rfl
    simp only [lt_f hlt, hs, eES, Nat.reduceBEq, ↓reduceIte]

def Stg (s : List UInt8) (i : Nat) (c : UInt8) (D : Nat) (cond : Prop) (g : List Am.Item) : Prop :=
  ∀ Q : St → Prop, (∀ f' B, (B = true ↔ cond) → f' 0 = .str s → f' 1 = .int .i64 (i : Nat) → f' 5 = .int .u8 (c.toNat : Nat) → f' D = .bool B → Q ⟨f', [noObs], []⟩) →
    ∀ f, f 0 = .str s → f 1 = .int .i64 (i : Nat) → f 5 = .int .u8 (c.toNat : Nat) → aops Tryz.prog g ⟨f, [noObs], []⟩ Q

section
variable {s : List UInt8} {i : Nat} {c : UInt8} (hi : i < s.length) (hs : s.length + 8 ≤ maxLen)
include hi hs

theorem stg4 : Stg s i c 12 (194 ≤ c.toNat ∧ c.toNat ≤ 223 ∧ tl s (i + 1) 1 = true) g264_4 := by
  intro Q hQ f h0 h1 h5
  have e1 : IntKind.i64.wrap ((i : Int) + 1) = ((i + 1 : Nat) : Int) := wadd i 1 (by omega)
  have e2 : IntKind.i64.wrap ((i : Int) + 2) = ((i + 2 : Nat) : Int) := wadd i 2 (by omega)
  simp only [g264_4, h5, eES, Nat.reduceBEq, ↓reduceIte]
  repeat' (first | (refine csel_of (fun h => ?_) (fun h => ?_) <;> simp only [h, h0, h1, h5, e1, e2, eES, eEX, Nat.reduceBEq, Int.reduceLE, Int.reduceLT, Int.reduceToNat, Int.reduceEq, ↓reduceIte, reduceCtorEq, Nat.reducePow, Nat.reduceAdd, Nat.reduceLeDiff, Nat.reduceLT, Nat.reduceSub, Nat.reduceEqDiff]) | (refine gsel_t (fun h => ?_) (fun h => ?_) <;> simp only [h, updO, h0, h1, h5, e1, eES, Nat.reduceBEq, ↓reduceIte]) | (refine gsel_f (fun h => ?_) (fun h => ?_) <;> simp only [h, updO, h0, h1, h5, e1, e2, eES, eEX, Nat.reduceBEq, Int.reduceLE, Int.reduceLT, Int.reduceToNat, Int.reduceEq, ↓reduceIte, reduceCtorEq, Nat.reducePow, Nat.reduceAdd, Nat.reduceLeDiff, Nat.reduceLT, Nat.reduceSub, Nat.reduceEqDiff]) | ((with_reducible apply aops_call (k := 289)); (case hy => rfl); (case h1 => rfl); (case hk => exact c289 s (i + 1) 1 (by omega)); (case h2 => rfl); (case h3 => first | exact .inl rfl | exact .inr rfl); simp only [eES, Nat.reduceBEq]))
  all_goals (refine hQ _ _ ?_ (by first | rfl | exact h0 | simp only [h0, eES, eEX, Nat.reduceBEq, ↓reduceIte, reduceCtorEq, Nat.reduceEqDiff]) (by first | rfl | exact h1 | simp only [h1, eES, eEX, Nat.reduceBEq, ↓reduceIte, reduceCtorEq, Nat.reduceEqDiff]) (by first | rfl | exact h5 | simp only [h5, eES, eEX, Nat.reduceBEq, ↓reduceIte, reduceCtorEq, Nat.reduceEqDiff]) rfl)
  all_goals simp only [decide_eq_true_eq, decide_eq_false_iff_not] at *
  all_goals
    constructor
    · intro hh
      first
        | cases hh
        | (refine ⟨by omega, ?_⟩; first | exact hh | (refine ⟨by omega, ?_⟩; first | exact hh | (refine ⟨by omega, ?_⟩; exact hh)) | exact ⟨by assumption, hh⟩)
    · intro hh
      first
        | exact hh.2.2.2
        | exact hh.2.2
        | (exfalso; omega)
        | (exfalso; simp_all; done)

theorem stg6 : Stg s i c 25 (c.toNat = 224 ∧ bt s (i + 1) 160 191 = true ∧ tl s (i + 2) 1 = true) g264_6 := by
  intro Q hQ f h0 h1 h5
  have e1 : IntKind.i64.wrap ((i : Int) + 1) = ((i + 1 : Nat) : Int) := wadd i 1 (by omega)
  have e2 : IntKind.i64.wrap ((i : Int) + 2) = ((i + 2 : Nat) : Int) := wadd i 2 (by omega)
  simp only [g264_6, h5, eES, Nat.reduceBEq, ↓reduceIte]
  repeat' (first | (refine csel_of (fun h => ?_) (fun h => ?_) <;> simp only [h, h0, h1, h5, e1, e2, eES, eEX, Nat.reduceBEq, Int.reduceLE, Int.reduceLT, Int.reduceToNat, Int.reduceEq, ↓reduceIte, reduceCtorEq, Nat.reducePow, Nat.reduceAdd, Nat.reduceLeDiff, Nat.reduceLT, Nat.reduceSub, Nat.reduceEqDiff]) | (refine gsel_t (fun h => ?_) (fun h => ?_) <;> simp only [h, updO, h0, h1, e1, e2, eES, Nat.reduceBEq, ↓reduceIte]) | (refine gsel_f (fun h => ?_) (fun h => ?_) <;> simp only [h, updO, h0, h1, h5, e1, e2, eES, eEX, Nat.reduceBEq, Int.reduceLE, Int.reduceLT, Int.reduceToNat, Int.reduceEq, ↓reduceIte, reduceCtorEq, Nat.reducePow, Nat.reduceAdd, Nat.reduceLeDiff, Nat.reduceLT, Nat.reduceSub, Nat.reduceEqDiff]) | ((with_reducible apply aops_call (k := 290)); (case hy => rfl); (case h1 => rfl); (case hk => exact c290 s (i + 1) 160 191); (case h2 => rfl); (case h3 => first | exact .inl rfl | exact .inr rfl); simp only [eES, Nat.reduceBEq]) | ((with_reducible apply aops_call (k := 289)); (case hy => rfl); (case h1 => rfl); (case hk => exact c289 s (i + 2) 1 (by omega)); (case h2 => rfl); (case h3 => first | exact .inl rfl | exact .inr rfl); simp only [eES, Nat.reduceBEq]))
  all_goals (refine hQ _ _ ?_ (by first | rfl | exact h0 | simp only [h0, eES, eEX, Nat.reduceBEq, ↓reduceIte, reduceCtorEq, Nat.reduceEqDiff]) (by first | rfl | exact h1 | simp only [h1, eES, eEX, Nat.reduceBEq, ↓reduceIte, reduceCtorEq, Nat.reduceEqDiff]) (by first | rfl | exact h5 | simp only [h5, eES, eEX, Nat.reduceBEq, ↓reduceIte, reduceCtorEq, Nat.reduceEqDiff]) rfl)
  all_goals simp only [beq_iff_eq, beq_eq_false_iff_ne, ne_eq] at *
  all_goals
    constructor
    · intro hh
      first
        | cases hh
        | (refine ⟨by omega, ?_⟩; first | exact hh | (refine ⟨by omega, ?_⟩; first | exact hh | (refine ⟨by omega, ?_⟩; exact hh)) | exact ⟨by assumption, hh⟩)
    · intro hh
      first
        | exact hh.2.2.2
        | exact hh.2.2
        | (exfalso; omega)
        | (exfalso; simp_all; done)

theorem stg8 : Stg s i c 40 (c.toNat = 237 ∧ bt s (i + 1) 128 159 = true ∧ tl s (i + 2) 1 = true) g264_8 := by
  intro Q hQ f h0 h1 h5
  have e1 : IntKind.i64.wrap ((i : Int) + 1) = ((i + 1 : Nat) : Int) := wadd i 1 (by omega)
  have e2 : IntKind.i64.wrap ((i : Int) + 2) = ((i + 2 : Nat) : Int) := wadd i 2 (by omega)
  simp only [g264_8, h5, eES, Nat.reduceBEq, ↓reduceIte]
  repeat' (first | (refine csel_of (fun h => ?_) (fun h => ?_) <;> simp only [h, h0, h1, h5, e1, e2, eES, eEX, Nat.reduceBEq, Int.reduceLE, Int.reduceLT, Int.reduceToNat, Int.reduceEq, ↓reduceIte, reduceCtorEq, Nat.reducePow, Nat.reduceAdd, Nat.reduceLeDiff, Nat.reduceLT, Nat.reduceSub, Nat.reduceEqDiff]) | (refine gsel_t (fun h => ?_) (fun h => ?_) <;> simp only [h, updO, h0, h1, e1, e2, eES, Nat.reduceBEq, ↓reduceIte]) | (refine gsel_f (fun h => ?_) (fun h => ?_) <;> simp only [h, updO, h0, h1, h5, e1, e2, eES, eEX, Nat.reduceBEq, Int.reduceLE, Int.reduceLT, Int.reduceToNat, Int.reduceEq, ↓reduceIte, reduceCtorEq, Nat.reducePow, Nat.reduceAdd, Nat.reduceLeDiff, Nat.reduceLT, Nat.reduceSub, Nat.reduceEqDiff]) | ((with_reducible apply aops_call (k := 290)); (case hy => rfl); (case h1 => rfl); (case hk => exact c290 s (i + 1) 128 159); (case h2 => rfl); (case h3 => first | exact .inl rfl | exact .inr rfl); simp only [eES, Nat.reduceBEq]) | ((with_reducible apply aops_call (k := 289)); (case hy => rfl); (case h1 => rfl); (case hk => exact c289 s (i + 2) 1 (by omega)); (case h2 => rfl); (case h3 => first | exact .inl rfl | exact .inr rfl); simp only [eES, Nat.reduceBEq]))
  all_goals (refine hQ _ _ ?_ (by first | rfl | exact h0 | simp only [h0, eES, eEX, Nat.reduceBEq, ↓reduceIte, reduceCtorEq, Nat.reduceEqDiff]) (by first | rfl | exact h1 | simp only [h1, eES, eEX, Nat.reduceBEq, ↓reduceIte, reduceCtorEq, Nat.reduceEqDiff]) (by first | rfl | exact h5 | simp only [h5, eES, eEX, Nat.reduceBEq, ↓reduceIte, reduceCtorEq, Nat.reduceEqDiff]) rfl)
  all_goals simp only [beq_iff_eq, beq_eq_false_iff_ne, ne_eq] at *
  all_goals
    constructor
    · intro hh
      first
        | cases hh
        | (refine ⟨by omega, ?_⟩; first | exact hh | (refine ⟨by omega, ?_⟩; first | exact hh | (refine ⟨by omega, ?_⟩; exact hh)) | exact ⟨by assumption, hh⟩)
    · intro hh
      first
        | exact hh.2.2.2
        | exact hh.2.2
        | (exfalso; omega)
        | (exfalso; simp_all; done)

theorem stg10 : Stg s i c 55 (225 ≤ c.toNat ∧ c.toNat ≤ 239 ∧ c.toNat ≠ 237 ∧ tl s (i + 1) 2 = true) g264_10 := by
  intro Q hQ f h0 h1 h5
  have e1 : IntKind.i64.wrap ((i : Int) + 1) = ((i + 1 : Nat) : Int) := wadd i 1 (by omega)
  have e2 : IntKind.i64.wrap ((i : Int) + 2) = ((i + 2 : Nat) : Int) := wadd i 2 (by omega)
  simp only [g264_10, h5, eES, Nat.reduceBEq, ↓reduceIte]
  repeat' (first | (refine csel_of (fun h => ?_) (fun h => ?_) <;> simp only [h, h0, h1, h5, e1, e2, eES, eEX, Nat.reduceBEq, Int.reduceLE, Int.reduceLT, Int.reduceToNat, Int.reduceEq, ↓reduceIte, reduceCtorEq, Nat.reducePow, Nat.reduceAdd, Nat.reduceLeDiff, Nat.reduceLT, Nat.reduceSub, Nat.reduceEqDiff]) | (refine gsel_t (fun h => ?_) (fun h => ?_) <;> simp only [h, updO, h0, h1, h5, e1, eES, Nat.reduceBEq, ↓reduceIte]) | (refine gsel_f (fun h => ?_) (fun h => ?_) <;> simp only [h, updO, h0, h1, h5, e1, e2, eES, eEX, Nat.reduceBEq, Int.reduceLE, Int.reduceLT, Int.reduceToNat, Int.reduceEq, ↓reduceIte, reduceCtorEq, Nat.reducePow, Nat.reduceAdd, Nat.reduceLeDiff, Nat.reduceLT, Nat.reduceSub, Nat.reduceEqDiff]) | ((with_reducible apply aops_call (k := 289)); (case hy => rfl); (case h1 => rfl); (case hk => exact c289 s (i + 1) 2 (by omega)); (case h2 => rfl); (case h3 => first | exact .inl rfl | exact .inr rfl); simp only [eES, Nat.reduceBEq]))
  all_goals (refine hQ _ _ ?_ (by first | rfl | exact h0 | simp only [h0, eES, eEX, Nat.reduceBEq, ↓reduceIte, reduceCtorEq, Nat.reduceEqDiff]) (by first | rfl | exact h1 | simp only [h1, eES, eEX, Nat.reduceBEq, ↓reduceIte, reduceCtorEq, Nat.reduceEqDiff]) (by first | rfl | exact h5 | simp only [h5, eES, eEX, Nat.reduceBEq, ↓reduceIte, reduceCtorEq, Nat.reduceEqDiff]) rfl)
  all_goals simp only [decide_eq_true_eq, decide_eq_false_iff_not, bne_iff_ne, bne_eq_false_iff_eq, ne_eq] at *
  all_goals
    constructor
    · intro hh
      first
        | cases hh
        | (refine ⟨by omega, ?_⟩; first | exact hh | (refine ⟨by omega, ?_⟩; first | exact hh | (refine ⟨by omega, ?_⟩; exact hh)) | exact ⟨by assumption, hh⟩)
    · intro hh
      first
        | exact hh.2.2.2
        | exact hh.2.2
        | (exfalso; omega)
        | (exfalso; simp_all; done)

theorem stg12 : Stg s i c 72 (c.toNat = 240 ∧ bt s (i + 1) 144 191 = true ∧ tl s (i + 2) 2 = true) g264_12 := by
  intro Q hQ f h0 h1 h5
  have e1 : IntKind.i64.wrap ((i : Int) + 1) = ((i + 1 : Nat) : Int) := wadd i 1 (by omega)
  have e2 : IntKind.i64.wrap ((i : Int) + 2) = ((i + 2 : Nat) : Int) := wadd i 2 (by omega)
  simp only [g264_12, h5, eES, Nat.reduceBEq, ↓reduceIte]
  repeat' (first | (refine csel_of (fun h => ?_) (fun h => ?_) <;> simp only [h, h0, h1, h5, e1, e2, eES, eEX, Nat.reduceBEq, Int.reduceLE, Int.reduceLT, Int.reduceToNat, Int.reduceEq, ↓reduceIte, reduceCtorEq, Nat.reducePow, Nat.reduceAdd, Nat.reduceLeDiff, Nat.reduceLT, Nat.reduceSub, Nat.reduceEqDiff]) | (refine gsel_t (fun h => ?_) (fun h => ?_) <;> simp only [h, updO, h0, h1, e1, e2, eES, Nat.reduceBEq, ↓reduceIte]) | (refine gsel_f (fun h => ?_) (fun h => ?_) <;> simp only [h, updO, h0, h1, h5, e1, e2, eES, eEX, Nat.reduceBEq, Int.reduceLE, Int.reduceLT, Int.reduceToNat, Int.reduceEq, ↓reduceIte, reduceCtorEq, Nat.reducePow, Nat.reduceAdd, Nat.reduceLeDiff, Nat.reduceLT, Nat.reduceSub, Nat.reduceEqDiff]) | ((with_reducible apply aops_call (k := 290)); (case hy => rfl); (case h1 => rfl); (case hk => exact c290 s (i + 1) 144 191); (case h2 => rfl); (case h3 => first | exact .inl rfl | exact .inr rfl); simp only [eES, Nat.reduceBEq]) | ((with_reducible apply aops_call (k := 289)); (case hy => rfl); (case h1 => rfl); (case hk => exact c289 s (i + 2) 2 (by omega)); (case h2 => rfl); (case h3 => first | exact .inl rfl | exact .inr rfl); simp only [eES, Nat.reduceBEq]))
  all_goals (refine hQ _ _ ?_ (by first | rfl | exact h0 | simp only [h0, eES, eEX, Nat.reduceBEq, ↓reduceIte, reduceCtorEq, Nat.reduceEqDiff]) (by first | rfl | exact h1 | simp only [h1, eES, eEX, Nat.reduceBEq, ↓reduceIte, reduceCtorEq, Nat.reduceEqDiff]) (by first | rfl | exact h5 | simp only [h5, eES, eEX, Nat.reduceBEq, ↓reduceIte, reduceCtorEq, Nat.reduceEqDiff]) rfl)
  all_goals simp only [beq_iff_eq, beq_eq_false_iff_ne, ne_eq] at *
  all_goals
    constructor
    · intro hh
      first
        | cases hh
        | (refine ⟨by omega, ?_⟩; first | exact hh | (refine ⟨by omega, ?_⟩; first | exact hh | (refine ⟨by omega, ?_⟩; exact hh)) | exact ⟨by assumption, hh⟩)
    · intro hh
      first
        | exact hh.2.2.2
        | exact hh.2.2
        | (exfalso; omega)
        | (exfalso; simp_all; done)

theorem stg14 : Stg s i c 87 (241 ≤ c.toNat ∧ c.toNat ≤ 243 ∧ tl s (i + 1) 3 = true) g264_14 := by
  intro Q hQ f h0 h1 h5
  have e1 : IntKind.i64.wrap ((i : Int) + 1) = ((i + 1 : Nat) : Int) := wadd i 1 (by omega)
  have e2 : IntKind.i64.wrap ((i : Int) + 2) = ((i + 2 : Nat) : Int) := wadd i 2 (by omega)
  simp only [g264_14, h5, eES, Nat.reduceBEq, ↓reduceIte]
  repeat' (first | (refine csel_of (fun h => ?_) (fun h => ?_) <;> simp only [h, h0, h1, h5, e1, e2, eES, eEX, Nat.reduceBEq, Int.reduceLE, Int.reduceLT, Int.reduceToNat, Int.reduceEq, ↓reduceIte, reduceCtorEq, Nat.reducePow, Nat.reduceAdd, Nat.reduceLeDiff, Nat.reduceLT, Nat.reduceSub, Nat.reduceEqDiff]) | (refine gsel_t (fun h => ?_) (fun h => ?_) <;> simp only [h, updO, h0, h1, h5, e1, eES, Nat.reduceBEq, ↓reduceIte]) | (refine gsel_f (fun h => ?_) (fun h => ?_) <;> simp only [h, updO, h0, h1, h5, e1, e2, eES, eEX, Nat.reduceBEq, Int.reduceLE, Int.reduceLT, Int.reduceToNat, Int.reduceEq, ↓reduceIte, reduceCtorEq, Nat.reducePow, Nat.reduceAdd, Nat.reduceLeDiff, Nat.reduceLT, Nat.reduceSub, Nat.reduceEqDiff]) | ((with_reducible apply aops_call (k := 289)); (case hy => rfl); (case h1 => rfl); (case hk => exact c289 s (i + 1) 3 (by omega)); (case h2 => rfl); (case h3 => first | exact .inl rfl | exact .inr rfl); simp only [eES, Nat.reduceBEq]))
  all_goals (refine hQ _ _ ?_ (by first | rfl | exact h0 | simp only [h0, eES, eEX, Nat.reduceBEq, ↓reduceIte, reduceCtorEq, Nat.reduceEqDiff]) (by first | rfl | exact h1 | simp only [h1, eES, eEX, Nat.reduceBEq, ↓reduceIte, reduceCtorEq, Nat.reduceEqDiff]) (by first | rfl | exact h5 | simp only [h5, eES, eEX, Nat.reduceBEq, ↓reduceIte, reduceCtorEq, Nat.reduceEqDiff]) rfl)
  all_goals simp only [decide_eq_true_eq, decide_eq_false_iff_not] at *
  all_goals
    constructor
    · intro hh
      first
        | cases hh
        | (refine ⟨by omega, ?_⟩; first | exact hh | (refine ⟨by omega, ?_⟩; first | exact hh | (refine ⟨by omega, ?_⟩; exact hh)) | exact ⟨by assumption, hh⟩)
    · intro hh
      first
        | exact hh.2.2.2
        | exact hh.2.2
        | (exfalso; omega)
        | (exfalso; simp_all; done)

theorem stg16 : Stg s i c 100 (c.toNat = 244 ∧ bt s (i + 1) 128 143 = true ∧ tl s (i + 2) 2 = true) g264_16 := by
  intro Q hQ f h0 h1 h5
  have e1 : IntKind.i64.wrap ((i : Int) + 1) = ((i + 1 : Nat) : Int) := wadd i 1 (by omega)
  have e2 : IntKind.i64.wrap ((i : Int) + 2) = ((i + 2 : Nat) : Int) := wadd i 2 (by omega)
  simp only [g264_16, h5, eES, Nat.reduceBEq, ↓reduceIte]
  repeat' (first | (refine csel_of (fun h => ?_) (fun h => ?_) <;> simp only [h, h0, h1, h5, e1, e2, eES, eEX, Nat.reduceBEq, Int.reduceLE, Int.reduceLT, Int.reduceToNat, Int.reduceEq, ↓reduceIte, reduceCtorEq, Nat.reducePow, Nat.reduceAdd, Nat.reduceLeDiff, Nat.reduceLT, Nat.reduceSub, Nat.reduceEqDiff]) | (refine gsel_t (fun h => ?_) (fun h => ?_) <;> simp only [h, updO, h0, h1, e1, e2, eES, Nat.reduceBEq, ↓reduceIte]) | (refine gsel_f (fun h => ?_) (fun h => ?_) <;> simp only [h, updO, h0, h1, h5, e1, e2, eES, eEX, Nat.reduceBEq, Int.reduceLE, Int.reduceLT, Int.reduceToNat, Int.reduceEq, ↓reduceIte, reduceCtorEq, Nat.reducePow, Nat.reduceAdd, Nat.reduceLeDiff, Nat.reduceLT, Nat.reduceSub, Nat.reduceEqDiff]) | ((with_reducible apply aops_call (k := 290)); (case hy => rfl); (case h1 => rfl); (case hk => exact c290 s (i + 1) 128 143); (case h2 => rfl); (case h3 => first | exact .inl rfl | exact .inr rfl); simp only [eES, Nat.reduceBEq]) | ((with_reducible apply aops_call (k := 289)); (case hy => rfl); (case h1 => rfl); (case hk => exact c289 s (i + 2) 2 (by omega)); (case h2 => rfl); (case h3 => first | exact .inl rfl | exact .inr rfl); simp only [eES, Nat.reduceBEq]))
  all_goals (refine hQ _ _ ?_ (by first | rfl | exact h0 | simp only [h0, eES, eEX, Nat.reduceBEq, ↓reduceIte, reduceCtorEq, Nat.reduceEqDiff]) (by first | rfl | exact h1 | simp only [h1, eES, eEX, Nat.reduceBEq, ↓reduceIte, reduceCtorEq, Nat.reduceEqDiff]) (by first | rfl | exact h5 | simp only [h5, eES, eEX, Nat.reduceBEq, ↓reduceIte, reduceCtorEq, Nat.reduceEqDiff]) rfl)
  all_goals simp only [beq_iff_eq, beq_eq_false_iff_ne, ne_eq] at *
  all_goals
    constructor
    · intro hh
      first
        | cases hh
        | (refine ⟨by omega, ?_⟩; first | exact hh | (refine ⟨by omega, ?_⟩; first | exact hh | (refine ⟨by omega, ?_⟩; exact hh)) | exact ⟨by assumption, hh⟩)
    · intro hh
      first
        | exact hh.2.2.2
        | exact hh.2.2
        | (exfalso; omega)
        | (exfalso; simp_all; done)

end

theorem c264 (s : List UInt8) (i : Nat) (hi : i < s.length) (hs : s.length + 8 ≤ maxLen) : Fn1 Tryz.prog 264 [.str s, .int .i64 (i : Nat)] (.int .i64 (sz s i : Nat)) := by
  refine fn1_of_awp (rc := r264) (rs := o264) Tryz.func264 rfl rfl Tryz.ntmps264 k264 q264 (by simp) ?_
  obtain ⟨c, hc⟩ : ∃ c, s[i]? = some c := ⟨s[i], List.getElem?_eq_getElem hi⟩
  have hz : sz s i = szb s i c.toNat := by simp only [sz, hc]
  unfold szb at hz
  simp only [g264_0, g264_1, g264_2, g264_3, g264_5, g264_7, g264_9, g264_11, g264_13, g264_15, g264_17, g264_18, r264, o264, nneg, Int.toNat_natCast, hc, eES, Nat.reduceBEq, ↓reduceIte]
  refine csel_of (fun h => ?_) (fun h => ?_)
  · have h : c.toNat < 128 := by simp at h; omega
    rw [hz, if_pos h]
    simp only [eES, Nat.reduceBEq]
    rfl
  have h : ¬ c.toNat < 128 := by simp at h; omega
  rw [hz, if_neg h]
  simp only [eES]
  refine stg4 hi hs _ (fun f B hB h0 h1 h5 hd => ?_) _ (by first | rfl | simp only [eES, eEX, Nat.reduceBEq, ↓reduceIte, reduceCtorEq, Nat.reduceEqDiff]) (by first | rfl | simp only [eES, eEX, Nat.reduceBEq, ↓reduceIte, reduceCtorEq, Nat.reduceEqDiff]) (by first | rfl | simp only [eES, eEX, Nat.reduceBEq, ↓reduceIte, reduceCtorEq, Nat.reduceEqDiff])
  by_cases hB1 : B = true
  · rw [if_pos (hB.1 hB1)]
    subst hB1
    simp only [hd, eES, Nat.reduceBEq]
    rfl
  rw [if_neg (fun hh => hB1 (hB.2 hh))]
  have hB2 : B = false := by simpa using hB1
  subst hB2
  simp only [hd, eES]
  refine stg6 hi hs _ (fun f B hB h0 h1 h5 hd => ?_) _ (by first | rfl | exact h0 | simp only [h0, eES, eEX, Nat.reduceBEq, ↓reduceIte, reduceCtorEq, Nat.reduceEqDiff]) (by first | rfl | exact h1 | simp only [h1, eES, eEX, Nat.reduceBEq, ↓reduceIte, reduceCtorEq, Nat.reduceEqDiff]) (by first | rfl | exact h5 | simp only [h5, eES, eEX, Nat.reduceBEq, ↓reduceIte, reduceCtorEq, Nat.reduceEqDiff])
  by_cases hB1 : B = true
  · rw [if_pos (hB.1 hB1)]
    subst hB1
    simp only [hd, eES, Nat.reduceBEq]
    rfl
  rw [if_neg (fun hh => hB1 (hB.2 hh))]
  have hB2 : B = false := by simpa using hB1
  subst hB2
  simp only [hd, eES]
  refine stg8 hi hs _ (fun f B hB h0 h1 h5 hd => ?_) _ (by first | rfl | exact h0 | simp only [h0, eES, eEX, Nat.reduceBEq, ↓reduceIte, reduceCtorEq, Nat.reduceEqDiff]) (by first | rfl | exact h1 | simp only [h1, eES, eEX, Nat.reduceBEq, ↓reduceIte, reduceCtorEq, Nat.reduceEqDiff]) (by first | rfl | exact h5 | simp only [h5, eES, eEX, Nat.reduceBEq, ↓reduceIte, reduceCtorEq, Nat.reduceEqDiff])
  by_cases hB1 : B = true
  · rw [if_pos (hB.1 hB1)]
    subst hB1
    simp only [hd, eES, Nat.reduceBEq]
    rfl
  rw [if_neg (fun hh => hB1 (hB.2 hh))]
  have hB2 : B = false := by simpa using hB1
  subst hB2
  simp only [hd, eES]
  refine stg10 hi hs _ (fun f B hB h0 h1 h5 hd => ?_) _ (by first | rfl | exact h0 | simp only [h0, eES, eEX, Nat.reduceBEq, ↓reduceIte, reduceCtorEq, Nat.reduceEqDiff]) (by first | rfl | exact h1 | simp only [h1, eES, eEX, Nat.reduceBEq, ↓reduceIte, reduceCtorEq, Nat.reduceEqDiff]) (by first | rfl | exact h5 | simp only [h5, eES, eEX, Nat.reduceBEq, ↓reduceIte, reduceCtorEq, Nat.reduceEqDiff])
  by_cases hB1 : B = true
  · rw [if_pos (hB.1 hB1)]
    subst hB1
    simp only [hd, eES, Nat.reduceBEq]
    rfl
  rw [if_neg (fun hh => hB1 (hB.2 hh))]
  have hB2 : B = false := by simpa using hB1
  subst hB2
  simp only [hd, eES]
  refine stg12 hi hs _ (fun f B hB h0 h1 h5 hd => ?_) _ (by first | rfl | exact h0 | simp only [h0, eES, eEX, Nat.reduceBEq, ↓reduceIte, reduceCtorEq, Nat.reduceEqDiff]) (by first | rfl | exact h1 | simp only [h1, eES, eEX, Nat.reduceBEq, ↓reduceIte, reduceCtorEq, Nat.reduceEqDiff]) (by first | rfl | exact h5 | simp only [h5, eES, eEX, Nat.reduceBEq, ↓reduceIte, reduceCtorEq, Nat.reduceEqDiff])
  by_cases hB1 : B = true
  · rw [if_pos (hB.1 hB1)]
    subst hB1
    simp only [hd, eES, Nat.reduceBEq]
    rfl
  rw [if_neg (fun hh => hB1 (hB.2 hh))]
  have hB2 : B = false := by simpa using hB1
  subst hB2
  simp only [hd, eES]
  refine stg14 hi hs _ (fun f B hB h0 h1 h5 hd => ?_) _ (by first | rfl | exact h0 | simp only [h0, eES, eEX, Nat.reduceBEq, ↓reduceIte, reduceCtorEq, Nat.reduceEqDiff]) (by first | rfl | exact h1 | simp only [h1, eES, eEX, Nat.reduceBEq, ↓reduceIte, reduceCtorEq, Nat.reduceEqDiff]) (by first | rfl | exact h5 | simp only [h5, eES, eEX, Nat.reduceBEq, ↓reduceIte, reduceCtorEq, Nat.reduceEqDiff])
  by_cases hB1 : B = true
  · rw [if_pos (hB.1 hB1)]
    subst hB1
    simp only [hd, eES, Nat.reduceBEq]
    rfl
  rw [if_neg (fun hh => hB1 (hB.2 hh))]
  have hB2 : B = false := by simpa using hB1
  subst hB2
  simp only [hd, eES]
  refine stg16 hi hs _ (fun f B hB h0 h1 h5 hd => ?_) _ (by first | rfl | exact h0 | simp only [h0, eES, eEX, Nat.reduceBEq, ↓reduceIte, reduceCtorEq, Nat.reduceEqDiff]) (by first | rfl | exact h1 | simp only [h1, eES, eEX, Nat.reduceBEq, ↓reduceIte, reduceCtorEq, Nat.reduceEqDiff]) (by first | rfl | exact h5 | simp only [h5, eES, eEX, Nat.reduceBEq, ↓reduceIte, reduceCtorEq, Nat.reduceEqDiff])
  by_cases hB1 : B = true
  · rw [if_pos (hB.1 hB1)]
    subst hB1
    simp only [hd, eES, Nat.reduceBEq]
    rfl
  rw [if_neg (fun hh => hB1 (hB.2 hh))]
  have hB2 : B = false := by simpa using hB1
  subst hB2
  simp only [hd, eES, Nat.reduceBEq]
  rfl

end Go.Proofs.YtelhohgmmhbahaaGreatDoor.Va

set_option linter.unusedSimpArgs false
namespace Go.Proofs.YtelhohgmmhbahaaGreatDoor.Va
open Go Am Rc Bt

theorem sz_le (s : List UInt8) (i : Nat) (hi : i < s.length) (_h : sz s i ≠ 0) : i + sz s i ≤ s.length := by
  have tl1 : ∀ n j, tl s j n = true → n ≠ 0 → j + n ≤ s.length := by
    intro n
    induction n with
    | zero => intro j _ h; exact absurd rfl h
    | succ n ih =>
      intro j hj _
      simp only [tl, Bool.and_eq_true] at hj
      have hb : j < s.length := by
        have h1 := hj.1
        unfold bt at h1
        split at h1
        · rename_i b hb
          exact (List.getElem?_eq_some_iff.1 hb).1
        · cases h1
      by_cases h0 : n = 0
      · subst h0; omega
      · have := ih (j + 1) hj.2 h0
        omega
  obtain ⟨c, hc⟩ : ∃ c, s[i]? = some c := ⟨s[i], List.getElem?_eq_getElem hi⟩
  simp only [sz, hc] at _h ⊢
  unfold szb at _h ⊢
  (repeat' split) <;> first
    | omega
    | (rename_i hh; have := tl1 _ _ hh.2.2 (by decide); omega)
    | (rename_i hh; have := tl1 _ _ hh.2.2.2 (by decide); omega)
    | simp_all

def BadI (s : List UInt8) (k : Nat) (st : St) : Prop :=
  ∃ f i, st = ⟨f, [noObs], []⟩ ∧ i ≤ s.length ∧ s.length - i ≤ k ∧ bad s s.length 0 = bad s k i ∧ f 0 = .str s ∧ f 3 = .int .i64 (i : Nat)

theorem c221 (s : List UInt8) (hs : s.length + 8 ≤ maxLen) : Fn1 Tryz.prog 221 [.str s] (.int .i64 (bad s s.length 0)) := by
  refine fn1_of_awp (rc := r221) (rs := o221) Tryz.func221 rfl rfl Tryz.ntmps221 k221 q221 (by simp) ?_
  simp only [g221_0, g221_1, g221_7, r221, o221, eES]
  refine awp_loop (BadI s) s.length ⟨_, 0, rfl, Nat.zero_le _, Nat.le_refl _, rfl, rfl, rfl⟩ ?_
  rintro k st ⟨f, i, rfl, hi, hk, hb, h0, h3⟩
  simp only [l221_0, g221_2, g221_3, g221_4, g221_5, g221_6, h0, h3, eES, Nat.reduceBEq, ↓reduceIte]
  by_cases hlt : i < s.length
  · simp only [lt_t hlt, h0, h3, eES, Nat.reduceBEq]
    refine aops_call (c264 s i hlt hs) rfl rfl rfl (.inl rfl) ?_
    obtain ⟨k, rfl⟩ : ∃ n, k = n + 1 := ⟨k - 1, by omega⟩
    have hbk : bad s (k + 1) i = if sz s i = 0 then (i : Int) else bad s k (i + sz s i) := by
      show (if i < s.length then _ else _) = _
      rw [if_pos hlt]
    by_cases hz : sz s i = 0
    · have b0 : ((sz s i : Int) == 0) = true := by simp [hz]
      simp only [b0, h3, hb, hbk, if_pos hz, eES, Nat.reduceBEq, ↓reduceIte]
    · have b0 : ((sz s i : Int) == 0) = false := by simp; omega
      have hle := sz_le s i hlt hz
      have e0 := wadd i (sz s i) (by omega)
      simp only [b0, h3, e0, eES, Nat.reduceBEq, ↓reduceIte]
      exact ⟨k, by omega, _, i + sz s i, rfl, hle, by omega, by rw [hb, hbk, if_neg hz], (by first | rfl | exact h0 | simp only [h0, eES, eEX, Nat.reduceBEq, ↓reduceIte, reduceCtorEq, Nat.reduceEqDiff]), (by first | rfl | simp only [eES, eEX, Nat.reduceBEq, ↓reduceIte, reduceCtorEq, Nat.reduceEqDiff])⟩
  · have hbk : bad s k i = -1 := by
      cases k with
      | zero => rfl
      | succ k =>
        show (if i < s.length then _ else _) = _
        rw [if_neg hlt]
    simp only [lt_f hlt, hb, hbk, eES, Nat.reduceBEq, ↓reduceIte]

theorem c169 (s : List UInt8) (hs : s.length + 8 ≤ maxLen) : Fn1 Tryz.prog 169 [.str s] (.bool (vld s)) := by
  refine fn1_of_awp (rc := r169) (rs := o169) Tryz.func169 rfl rfl Tryz.ntmps169 k169 q169 (by simp) ?_
  simp only [g169_0, g169_1, r169, o169, eES, Nat.reduceBEq]
  refine aops_call (c221 s hs) rfl rfl rfl (.inl rfl) ?_
  simp only [eES, Nat.reduceBEq, ↓reduceIte]
  rfl

def repl (s : List UInt8) (i : Nat) : Bool := (s.drop i).take 3 == [239, 191, 189]

theorem c287 (s t : List UInt8) : Fn1 Tryz.prog 287 [.str s, .str t] (.bool (s.take t.length == t)) := by
  refine fn1_of_awp (rc := r287) (rs := o287) Tryz.func287 rfl rfl Tryz.ntmps287 k287 q287 (by simp) ?_
  by_cases h : t.length ≤ s.length
  · have d0 : decide ((s.length : Int) ≥ (t.length : Int)) = true := by simp; omega
    have s1 : (0 ≤ t.length ∧ t.length ≤ s.length) = True := by simp; omega
    simp only [g287_0, g287_1, r287, o287, d0, nneg, s1, Int.toNat_natCast, astr, Nat.sub_zero, List.drop_zero, eES, Nat.reduceBEq, ↓reduceIte]
  · have d0 : decide ((s.length : Int) ≥ (t.length : Int)) = false := by simp; omega
    have e0 : (s.take t.length == t) = false := by
      rw [beq_eq_false_iff_ne]
      intro hh
      have := congrArg List.length hh
      simp at this
      omega
    simp only [g287_0, g287_1, r287, o287, d0, e0, eES, Nat.reduceBEq, ↓reduceIte]

theorem c261 (s t : List UInt8) : Fn1 Tryz.prog 261 [.str s, .str t] (.bool (s.take t.length == t)) := by
  refine fn1_of_awp (rc := r261) (rs := o261) Tryz.func261 rfl rfl Tryz.ntmps261 k261 q261 (by simp) ?_
  simp only [g261_0, g261_1, r261, o261, eES, Nat.reduceBEq]
  refine aops_call (c287 s t) rfl rfl rfl (.inl rfl) ?_
  simp only [eES, Nat.reduceBEq]

theorem c215 (s : List UInt8) (i : Nat) (hi : i ≤ s.length) (c : Nat) : Fn1 Tryz.prog 215 [.str s, .int .i64 (i : Nat), .int .i32 (c : Nat)] (.bool (decide (c = 65533) && !repl s i)) := by
  refine fn1_of_awp (rc := r215) (rs := o215) Tryz.func215 rfl rfl Tryz.ntmps215 k215 q215 (by simp) ?_
  by_cases hc : c = 65533
  · have b0 : ((c : Int) == 65533) = true := by simp [hc]
    have s1 : (i ≤ s.length ∧ s.length ≤ s.length) = True := by simp; omega
    simp only [g215_0, g215_1, r215, o215, b0, nneg, s1, Int.toNat_natCast, eES, Nat.reduceBEq, ↓reduceIte]
    refine aops_call (c261 (List.take (s.length - i) (List.drop i s)) [239, 191, 189]) rfl rfl rfl (.inl rfl) ?_
    have ht : List.take (s.length - i) (List.drop i s) = List.drop i s := List.take_of_length_le (by simp)
    simp only [ht, repl, hc, eES, Nat.reduceBEq, Nat.reduceAdd]
  · have b0 : ((c : Int) == 65533) = false := by simp; omega
    simp only [g215_0, g215_1, r215, o215, b0, hc, eES, Nat.reduceBEq, ↓reduceIte]
    simp

end Go.Proofs.YtelhohgmmhbahaaGreatDoor.Va

namespace Go.Proofs.YtelhohgmmhbahaaGreatDoor.Vp

def vput : Nat → Nat → List UInt8
  | 0, u => [UInt8.ofNat u]
  | k + 1, u => if u < 128 then [UInt8.ofNat u] else UInt8.ofNat (u % 128 + 128) :: vput k (u / 128)

def put (u : Nat) : List UInt8 := vput 9 u

def vtk : Nat → Nat → List UInt8 → Nat × Nat × Nat
  | _, _, [] => (0, 0, 4)
  | i, acc, c :: t =>
    if i = 9 ∧ 1 < c.toNat then (0, 0, 6)
    else if c.toNat < 128 then (acc + c.toNat * 128 ^ i, i + 1, 0)
    else vtk (i + 1) (acc + (c.toNat - 128) * 128 ^ i) t

def take (s : List UInt8) : Nat × Nat × Nat := vtk 0 0 s

theorem toNat_ofNat (n : Nat) (h : n < 256) : (UInt8.ofNat n).toNat = n := by
  simp [UInt8.toNat_ofNat']; omega

theorem vtk_append (i acc : Nat) (s t : List UInt8) (h : (vtk i acc s).2.2 ≠ 4) : vtk i acc (s ++ t) = vtk i acc s := by
  induction s generalizing i acc with
  | nil => simp [vtk] at h
  | cons c r ih =>
    simp only [List.cons_append]
    unfold vtk at h ⊢
    split
    · rfl
    · rename_i h1
      rw [if_neg h1] at h
      split
      · rfl
      · rename_i h2
        rw [if_neg h2] at h
        exact ih _ _ h

theorem vtk_ten (i acc : Nat) (s : List UInt8) (hi : i ≤ 9) (hl : 10 ≤ i + s.length) : (vtk i acc s).2.2 ≠ 4 := by
  induction s generalizing i acc with
  | nil => simp at hl; omega
  | cons c r ih =>
    unfold vtk
    split
    · simp
    · rename_i h1
      split
      · simp
      · rename_i h2
        exact ih _ _ (by omega) (by simp at hl; omega)

theorem take_take (s : List UInt8) : take (s.take 10) = take s := by
  rcases Nat.lt_or_ge s.length 10 with h | h
  · rw [List.take_of_length_le (by omega)]
  · have := vtk_append 0 0 (s.take 10) (s.drop 10) (vtk_ten 0 0 _ (by omega) (by simp; omega))
    rw [List.take_append_drop] at this
    exact this.symm

end Go.Proofs.YtelhohgmmhbahaaGreatDoor.Vp

set_option linter.unusedSimpArgs false
namespace Go.Proofs.YtelhohgmmhbahaaGreatDoor.Va
open Go Am Rc Bt Vp

theorem get_at (s : List UInt8) (j : Nat) (c : UInt8) (h : s[j]? = some c) : (⟨⟨s⟩⟩ : ByteArray).get! j = c := by
  show (⟨s⟩ : Array UInt8)[j]! = c
  simp [h]

theorem u8eq (a : UInt8) (n : Nat) (hn : n < 256) : (a == UInt8.ofNat n) = decide (a.toNat = n) := by
  rw [Bool.eq_iff_iff, beq_iff_eq, decide_eq_true_eq]
  constructor
  · rintro rfl
    rw [toNat_ofNat _ hn]
  · intro h
    rw [← UInt8.toNat_inj, toNat_ofNat _ hn, h]

set_option maxHeartbeats 4000000 in
theorem dec4 (s : List UInt8) (i : Nat) (a b c d : UInt8) (t : List UInt8) (hr : s.drop i = a :: b :: c :: d :: t) : (decide ((udec s i).1 = 65533) && !repl s i) = decide (sz s i = 0) ∧ (sz s i ≠ 0 → (udec s i).2 = sz s i) := by
  have hsz : ∀ j, (s[i + j]? = (a :: b :: c :: d :: t)[j]?) := fun j => by rw [← hr, List.getElem?_drop]
  have hn : ByteArray.size ⟨⟨s⟩⟩ = s.length := rfl
  have hl : s.length = i + (a :: b :: c :: d :: t).length := by
    have h := congrArg List.length hr
    simp at h ⊢
    omega
  have h0 := hsz 0
  have h1 := hsz 1
  have h2 := hsz 2
  have h3 := hsz 3
  simp only [Nat.add_zero] at h0
  have g0 := get_at s i a h0
  have g1 := get_at s (i + 1) b h1
  have g2 := get_at s (i + 2) c h2
  have g3 := get_at s (i + 3) d h3
  have l1 : (i + 1 < s.length) = True := by simp at hl ⊢; omega
  have l2 : (i + 2 < s.length) = True := by simp at hl ⊢; omega
  have l3 : (i + 3 < s.length) = True := by simp at hl ⊢; omega
  have wa := a.toNat_lt
  have wb := b.toNat_lt
  have wc := c.toNat_lt
  have wd := d.toNat_lt
  have hrep : repl s i = (decide (a.toNat = 239) && (decide (b.toNat = 191) && decide (c.toNat = 189))) := by
    rw [← u8eq a 239 (by decide), ← u8eq b 191 (by decide), ← u8eq c 189 (by decide)]
    simp [repl, hr]
  simp only [List.getElem?_cons_succ, List.getElem?_nil, List.getElem?_cons_zero] at h0 h1 h2 h3
  generalize hD : udec s i = D
  generalize hS : sz s i = S
  rw [hrep]
  simp only [udec, Utf8.decode, Utf8.valid, Utf8.runeError, hn, l1, l2, l3, Nat.add_zero, g0, g1, g2, g3, sz, h0, szb, tl, bt, Nat.add_assoc, Nat.reduceAdd, h1, h2, h3, hrep, decide_false, decide_true, Bool.false_and, Bool.and_false, Bool.true_and, Bool.and_true, Bool.false_eq_true, if_false, false_and, and_false, Bool.and_eq_true, Bool.or_eq_true, decide_eq_true_eq, beq_iff_eq, ge_iff_le] at hD hS
  clear hsz hr hl h0 h1 h2 h3 g0 g1 g2 g3 l1 l2 l3 hrep hn
  generalize a.toNat = x at *
  generalize b.toNat = y at *
  generalize c.toNat = z at *
  generalize d.toNat = u at *
  (repeat' split at hD) <;> subst hD <;> (repeat' split at hS) <;> subst hS <;> refine ⟨?_, ?_⟩ <;> (try rw [Bool.eq_iff_iff]) <;> (try simp only [Bool.and_eq_true, decide_eq_true_eq, Bool.not_eq_true', Bool.and_eq_false_iff, decide_eq_false_iff_not]) <;> first | omega | (intro _; rfl) | (simp; done) | (simp; omega)

theorem dec_case (s : List UInt8) (i : Nat) (hi : i < s.length) : (decide ((udec s i).1 = 65533) && !repl s i) = decide (sz s i = 0) ∧ (sz s i ≠ 0 → (udec s i).2 = sz s i) := by
  have hsz : ∀ j, (s[i + j]? = (s.drop i)[j]?) := fun j => by rw [List.getElem?_drop]
  have hn : ByteArray.size ⟨⟨s⟩⟩ = s.length := rfl
  have hl : s.length = i + (s.drop i).length := by simp; omega
  generalize hr : s.drop i = r at hsz hl
  have h0 := hsz 0
  have h1 := hsz 1
  have h2 := hsz 2
  have h3 := hsz 3
  simp only [Nat.add_zero] at h0
  match r, hl with
  | [], hl => simp at hl; omega
  | [a], hl =>
    have g0 := get_at s i a h0
    have l1 : (i + 1 < s.length) = False := by simp at hl ⊢; omega
    have l2 : (i + 2 < s.length) = False := by simp at hl ⊢; omega
    have l3 : (i + 3 < s.length) = False := by simp at hl ⊢; omega
    have wa := a.toNat_lt
    have hrep : repl s i = false := by simp [repl, hr]
    simp only [List.getElem?_cons_succ, List.getElem?_nil, List.getElem?_cons_zero] at h0 h1 h2 h3
    simp only [udec, Utf8.decode, Utf8.valid, Utf8.runeError, hn, l1, l2, l3, Nat.add_zero, g0, sz, h0, szb, tl, bt, Nat.add_assoc, Nat.reduceAdd, h1, h2, h3, hrep, decide_false, decide_true, Bool.false_and, Bool.and_false, Bool.true_and, Bool.and_true, Bool.false_eq_true, if_false, false_and, and_false, Bool.and_eq_true, Bool.or_eq_true, decide_eq_true_eq, beq_iff_eq, ge_iff_le]
    (repeat' split) <;> refine ⟨?_, ?_⟩ <;> (try rw [Bool.eq_iff_iff]) <;> (try simp only [Bool.and_eq_true, decide_eq_true_eq, Bool.not_eq_true', decide_eq_false_iff_not, Bool.not_false, Bool.and_true, Bool.and_eq_false_iff, Bool.and_eq_false_imp]) <;> first | omega | (intro _; rfl) | (intro _; omega) | (simp; done) | (simp; omega)
  | [a, b], hl =>
    have g0 := get_at s i a h0
    have g1 := get_at s (i + 1) b h1
    have l1 : (i + 1 < s.length) = True := by simp at hl ⊢; omega
    have l2 : (i + 2 < s.length) = False := by simp at hl ⊢; omega
    have l3 : (i + 3 < s.length) = False := by simp at hl ⊢; omega
    have wa := a.toNat_lt
    have wb := b.toNat_lt
    have hrep : repl s i = false := by simp [repl, hr]
    simp only [List.getElem?_cons_succ, List.getElem?_nil, List.getElem?_cons_zero] at h0 h1 h2 h3
    simp only [udec, Utf8.decode, Utf8.valid, Utf8.runeError, hn, l1, l2, l3, Nat.add_zero, g0, g1, sz, h0, szb, tl, bt, Nat.add_assoc, Nat.reduceAdd, h1, h2, h3, hrep, decide_false, decide_true, Bool.false_and, Bool.and_false, Bool.true_and, Bool.and_true, Bool.false_eq_true, if_false, false_and, and_false, Bool.and_eq_true, Bool.or_eq_true, decide_eq_true_eq, beq_iff_eq, ge_iff_le]
    (repeat' split) <;> refine ⟨?_, ?_⟩ <;> (try rw [Bool.eq_iff_iff]) <;> (try simp only [Bool.and_eq_true, decide_eq_true_eq, Bool.not_eq_true', decide_eq_false_iff_not, Bool.not_false, Bool.and_true, Bool.and_eq_false_iff, Bool.and_eq_false_imp]) <;> first | omega | (intro _; rfl) | (intro _; omega) | (simp; done) | (simp; omega)
  | [a, b, c], hl =>
    have g0 := get_at s i a h0
    have g1 := get_at s (i + 1) b h1
    have g2 := get_at s (i + 2) c h2
    have l1 : (i + 1 < s.length) = True := by simp at hl ⊢; omega
    have l2 : (i + 2 < s.length) = True := by simp at hl ⊢; omega
    have l3 : (i + 3 < s.length) = False := by simp at hl ⊢; omega
    have wa := a.toNat_lt
    have wb := b.toNat_lt
    have wc := c.toNat_lt
    have hrep : repl s i = (decide (a.toNat = 239) && (decide (b.toNat = 191) && decide (c.toNat = 189))) := by
      rw [← u8eq a 239 (by decide), ← u8eq b 191 (by decide), ← u8eq c 189 (by decide)]
      simp [repl, hr]
    simp only [List.getElem?_cons_succ, List.getElem?_nil, List.getElem?_cons_zero] at h0 h1 h2 h3
    simp only [udec, Utf8.decode, Utf8.valid, Utf8.runeError, hn, l1, l2, l3, Nat.add_zero, g0, g1, g2, sz, h0, szb, tl, bt, Nat.add_assoc, Nat.reduceAdd, h1, h2, h3, hrep, decide_false, decide_true, Bool.false_and, Bool.and_false, Bool.true_and, Bool.and_true, Bool.false_eq_true, if_false, false_and, and_false, Bool.and_eq_true, Bool.or_eq_true, decide_eq_true_eq, beq_iff_eq, ge_iff_le]
    (repeat' split) <;> refine ⟨?_, ?_⟩ <;> (try rw [Bool.eq_iff_iff]) <;> (try simp only [Bool.and_eq_true, decide_eq_true_eq, Bool.not_eq_true', decide_eq_false_iff_not, Bool.not_false, Bool.and_true, Bool.and_eq_false_iff, Bool.and_eq_false_imp]) <;> first | omega | (intro _; rfl) | (intro _; omega) | (simp; done) | (simp; omega)
  | a :: b :: c :: d :: t, hl => exact dec4 s i a b c d t hr

end Go.Proofs.YtelhohgmmhbahaaGreatDoor.Va

set_option linter.unusedSimpArgs false
namespace Go.Proofs.YtelhohgmmhbahaaGreatDoor.Va
open Go Am Rc Bt Vp

def BadP (s : List UInt8) (k : Nat) (st : St) : Prop :=
  ∃ f fr i, st = ⟨f, [fr], []⟩ ∧ i ≤ s.length ∧ s.length - i ≤ k ∧ bad s s.length 0 = bad s k i ∧ f 0 = .str s ∧ f 6 = .ptr 0 6 0 ∧ fr 6 = .iter (.str s) i

theorem x158 (s : List UInt8) : Fn1 Tryz.prog 158 [.str s] (.int .i64 (bad s s.length 0)) := by
  refine fn1_of_awp (rc := r158) (rs := o158) Tryz.func158 rfl rfl Tryz.ntmps158 k158 q158 (by simp) ?_
  simp only [g158_0, g158_1, g158_6, r158, o158, eES, Nat.reduceBEq]
  refine aops_rngs rfl rfl ?_
  simp only [eES]
  refine awp_loop (BadP s) s.length ⟨_, _, 0, rfl, Nat.zero_le _, Nat.le_refl _, rfl, (by first | rfl | simp only [eES, eEX, Nat.reduceBEq, ↓reduceIte, reduceCtorEq, Nat.reduceEqDiff]), (by first | rfl | simp only [eES, eEX, Nat.reduceBEq, ↓reduceIte, reduceCtorEq, Nat.reduceEqDiff]), (by first | rfl | simp only [eES, eEX, Nat.reduceBEq, ↓reduceIte, reduceCtorEq, Nat.reduceEqDiff])⟩ ?_
  rintro k st ⟨f, fr, i, rfl, hi, hk, hb, h0, h6, m6⟩
  simp only [l158_0, g158_2, g158_3, g158_4, g158_5, eES]
  refine aops_nxts (by first | rfl | exact h6 | simp only [h6, eES, eEX, Nat.reduceBEq, ↓reduceIte, reduceCtorEq, Nat.reduceEqDiff]) m6 (fun hlt => ?_) (fun hge => ?_)
  · obtain ⟨hd, hw⟩ := dec_case s i hlt
    obtain ⟨k, rfl⟩ : ∃ n, k = n + 1 := ⟨k - 1, by omega⟩
    have hbk : bad s (k + 1) i = if sz s i = 0 then (i : Int) else bad s k (i + sz s i) := by
      show (if i < s.length then _ else _) = _
      rw [if_pos hlt]
    have hwr := c215 s i hi (udec s i).1
    rw [hd] at hwr
    generalize udec s i = cw at hw hwr
    obtain ⟨c, w⟩ := cw
    simp only [h0, eES, Nat.reduceBEq]
    refine aops_call hwr rfl rfl rfl (.inl rfl) ?_
    by_cases hz : sz s i = 0
    · simp only [hz, decide_true, hb, hbk, eES, Nat.reduceBEq, ↓reduceIte]
    · have hw := hw hz
      simp only at hw
      have hle := sz_le s i hlt hz
      simp only [hz, decide_false, eES, Nat.reduceBEq]
      exact ⟨k, by omega, _, _, i + sz s i, rfl, hle, by omega, by rw [hb, hbk, if_neg hz], (by first | rfl | exact h0 | simp only [h0, eES, eEX, Nat.reduceBEq, ↓reduceIte, reduceCtorEq, Nat.reduceEqDiff]), (by first | rfl | exact h6 | simp only [h6, eES, eEX, Nat.reduceBEq, ↓reduceIte, reduceCtorEq, Nat.reduceEqDiff]), by rw [← hw] <;> first | rfl | simp only [eES, eEX, Nat.reduceBEq, ↓reduceIte, reduceCtorEq, Nat.reduceEqDiff]⟩
  · have hbk : bad s k i = -1 := by
      cases k with
      | zero => rfl
      | succ k =>
        show (if i < s.length then _ else _) = _
        rw [if_neg (by omega)]
    simp only [hb, hbk, eES, Nat.reduceBEq, ↓reduceIte]

theorem x100 (s : List UInt8) : Fn1 Tryz.prog 100 [.str s] (.bool (vld s)) := by
  refine fn1_of_awp (rc := r100) (rs := o100) Tryz.func100 rfl rfl Tryz.ntmps100 k100 q100 (by simp) ?_
  simp only [g100_0, g100_1, r100, o100, eES, Nat.reduceBEq]
  refine aops_call (x158 s) rfl rfl rfl (.inl rfl) ?_
  simp only [eES, Nat.reduceBEq, ↓reduceIte]
  rfl

end Go.Proofs.YtelhohgmmhbahaaGreatDoor.Va

set_option linter.unusedSimpArgs false
namespace Go.Proofs.YtelhohgmmhbahaaGreatDoor.Va
open Go Am Rc Bt

def fitn (k : Int) (b : Nat) : Bool :=
  if k = 1 then decide ((b : Int) ≤ 1) else if k = 2 then decide (IntKind.i64.wrap (b : Int) ≥ -2147483648) && decide (IntKind.i64.wrap (b : Int) ≤ 2147483647)
  else if k = 4 then decide ((b : Int) < 4294967296) else if k = 9 then decide ((b : Int) < 2147483648) else true

theorem x288 (k : Int) (b : Nat) : Fn1 Tryz.prog 288 [.int .i64 k, .int .u64 (b : Nat)] (.bool (fitn k b)) := by
  have e1 : decide ((b : Int) ≤ 4294967295) = decide ((b : Int) < 4294967296) := by rw [decide_eq_decide]; omega
  have e2 : decide ((b : Int) ≤ 2147483647) = decide ((b : Int) < 2147483648) := by rw [decide_eq_decide]; omega
  refine fn1_of_awp (rc := r288) (rs := o288) Tryz.func288 rfl rfl Tryz.ntmps288 k288 q288 (by simp) ?_
  simp only [g288_0, g288_1, g288_2, g288_3, g288_4, g288_5, g288_6, g288_7, g288_8, g288_9, g288_10, g288_11, r288, o288, eES, Nat.reduceBEq, ↓reduceIte]
  unfold fitn
  by_cases h1 : k = 1
  · subst h1
    have b1 : ((1 : Int) == 1) = true := rfl
    simp only [b1, eES, Nat.reduceBEq, ↓reduceIte]
  · have b1 : (k == 1) = false := by simp [h1]
    by_cases h2 : k = 2
    · subst h2
      have b2 : ((2 : Int) == 2) = true := rfl
      simp only [b1, b2, h1, eES, Nat.reduceBEq, ↓reduceIte, Nat.reduceEqDiff]
      cases hd : decide (IntKind.i64.wrap (b : Int) ≥ -2147483648) <;> simp only [Bool.true_and, Bool.false_and, eES, Nat.reduceBEq, ↓reduceIte]
    · have b2 : (k == 2) = false := by simp [h2]
      by_cases h9 : k = 9
      · subst h9
        have b9 : ((9 : Int) == 9) = true := rfl
        simp only [b1, b2, b9, h1, h2, e2, eES, Nat.reduceBEq, Int.reduceEq, ↓reduceIte, Nat.reduceEqDiff]
      · have b9 : (k == 9) = false := by simp [h9]
        by_cases h4 : k = 4
        · subst h4
          have b4 : ((4 : Int) == 4) = true := rfl
          simp only [b1, b2, b9, b4, h1, h2, e1, eES, Nat.reduceBEq, ↓reduceIte, Nat.reduceEqDiff]
        · have b4 : (k == 4) = false := by simp [h4]
          simp only [b1, b2, b9, b4, h1, h2, h4, h9, eES, Nat.reduceBEq, ↓reduceIte, reduceCtorEq]

end Go.Proofs.YtelhohgmmhbahaaGreatDoor.Va

namespace Go.Proofs.YtelhohgmmhbahaaGreatDoor.Ev
open Go Am Rc

def tab : Tab := fun k => match k with
  | 22 => some (r22, o22, 27)
  | 64 => some (r64, o64, 21)
  | 10 => some (r10, o10, 40)
  | 21 => some (r21, o21, 45)
  | 8 => some (r8, o8, 32)
  | 61 => some (r61, o61, 7)
  | 62 => some (r62, o62, 68)
  | 18 => some (r18, o18, 77)
  | 138 => some (r138, o138, 99)
  | 139 => some (r139, o139, 12)
  | 140 => some (r140, o140, 19)
  | 141 => some (r141, o141, 9)
  | 142 => some (r142, o142, 19)
  | 144 => some (r144, o144, 18)
  | 49 => some (r49, o49, 74)
  | 51 => some (r51, o51, 9)
  | 195 => some (r195, o195, 56)
  | 196 => some (r196, o196, 27)
  | 197 => some (r197, o197, 20)
  | 198 => some (r198, o198, 19)
  | 199 => some (r199, o199, 42)
  | 200 => some (r200, o200, 79)
  | 203 => some (r203, o203, 19)
  | 207 => some (r207, o207, 8)
  | 132 => some (r132, o132, 19)
  | 148 => some (r148, o148, 9)
  | 244 => some (r244, o244, 19)
  | 245 => some (r245, o245, 30)
  | 247 => some (r247, o247, 11)
  | 248 => some (r248, o248, 112)
  | 249 => some (r249, o249, 52)
  | 250 => some (r250, o250, 15)
  | 251 => some (r251, o251, 11)
  | 252 => some (r252, o252, 10)
  | 157 => some (r157, o157, 8)
  | 255 => some (r255, o255, 19)
  | 209 => some (r209, o209, 19)
  | 274 => some (r274, o274, 8)
  | 147 => some (r147, o147, 19)
  | 149 => some (r149, o149, 8)
  | 150 => some (r150, o150, 27)
  | 275 => some (r275, o275, 12)
  | 277 => some (r277, o277, 19)
  | 278 => some (r278, o278, 57)
  | 279 => some (r279, o279, 50)
  | 280 => some (r280, o280, 59)
  | 105 => some (r105, o105, 31)
  | 152 => some (r152, o152, 36)
  | 213 => some (r213, o213, 9)
  | 210 => some (r210, o210, 66)
  | 295 => some (r295, o295, 9)
  | 300 => some (r300, o300, 34)
  | 211 => some (r211, o211, 27)
  | 260 => some (r260, o260, 19)
  | 258 => some (r258, o258, 34)
  | 308 => some (r308, o308, 19)
  | _ => none

theorem tab_ok : TabOk Tryz.prog tab := by
  intro k c rs N h
  unfold tab at h
  split at h
  · cases h; exact ⟨Tryz.f22, _, Tryz.func22, rfl, rfl, Tryz.ntmps22, k22, q22⟩
  · cases h; exact ⟨Tryz.f64, _, Tryz.func64, rfl, rfl, Tryz.ntmps64, k64, q64⟩
  · cases h; exact ⟨Tryz.f10, _, Tryz.func10, rfl, rfl, Tryz.ntmps10, k10, q10⟩
  · cases h; exact ⟨Tryz.f21, _, Tryz.func21, rfl, rfl, Tryz.ntmps21, k21, q21⟩
  · cases h; exact ⟨Tryz.f8, _, Tryz.func8, rfl, rfl, Tryz.ntmps8, k8, q8⟩
  · cases h; exact ⟨Tryz.f61, _, Tryz.func61, rfl, rfl, Tryz.ntmps61, k61, q61⟩
  · cases h; exact ⟨Tryz.f62, _, Tryz.func62, rfl, rfl, Tryz.ntmps62, k62, q62⟩
  · cases h; exact ⟨Tryz.f18, _, Tryz.func18, rfl, rfl, Tryz.ntmps18, k18, q18⟩
  · cases h; exact ⟨Tryz.f138, _, Tryz.func138, rfl, rfl, Tryz.ntmps138, k138, q138⟩
  · cases h; exact ⟨Tryz.f139, _, Tryz.func139, rfl, rfl, Tryz.ntmps139, k139, q139⟩
  · cases h; exact ⟨Tryz.f140, _, Tryz.func140, rfl, rfl, Tryz.ntmps140, k140, q140⟩
  · cases h; exact ⟨Tryz.f141, _, Tryz.func141, rfl, rfl, Tryz.ntmps141, k141, q141⟩
  · cases h; exact ⟨Tryz.f142, _, Tryz.func142, rfl, rfl, Tryz.ntmps142, k142, q142⟩
  · cases h; exact ⟨Tryz.f144, _, Tryz.func144, rfl, rfl, Tryz.ntmps144, k144, q144⟩
  · cases h; exact ⟨Tryz.f49, _, Tryz.func49, rfl, rfl, Tryz.ntmps49, k49, q49⟩
  · cases h; exact ⟨Tryz.f51, _, Tryz.func51, rfl, rfl, Tryz.ntmps51, k51, q51⟩
  · cases h; exact ⟨Tryz.f195, _, Tryz.func195, rfl, rfl, Tryz.ntmps195, k195, q195⟩
  · cases h; exact ⟨Tryz.f196, _, Tryz.func196, rfl, rfl, Tryz.ntmps196, k196, q196⟩
  · cases h; exact ⟨Tryz.f197, _, Tryz.func197, rfl, rfl, Tryz.ntmps197, k197, q197⟩
  · cases h; exact ⟨Tryz.f198, _, Tryz.func198, rfl, rfl, Tryz.ntmps198, k198, q198⟩
  · cases h; exact ⟨Tryz.f199, _, Tryz.func199, rfl, rfl, Tryz.ntmps199, k199, q199⟩
  · cases h; exact ⟨Tryz.f200, _, Tryz.func200, rfl, rfl, Tryz.ntmps200, k200, q200⟩
  · cases h; exact ⟨Tryz.f203, _, Tryz.func203, rfl, rfl, Tryz.ntmps203, k203, q203⟩
  · cases h; exact ⟨Tryz.f207, _, Tryz.func207, rfl, rfl, Tryz.ntmps207, k207, q207⟩
  · cases h; exact ⟨Tryz.f132, _, Tryz.func132, rfl, rfl, Tryz.ntmps132, k132, q132⟩
  · cases h; exact ⟨Tryz.f148, _, Tryz.func148, rfl, rfl, Tryz.ntmps148, k148, q148⟩
  · cases h; exact ⟨Tryz.f244, _, Tryz.func244, rfl, rfl, Tryz.ntmps244, k244, q244⟩
  · cases h; exact ⟨Tryz.f245, _, Tryz.func245, rfl, rfl, Tryz.ntmps245, k245, q245⟩
  · cases h; exact ⟨Tryz.f247, _, Tryz.func247, rfl, rfl, Tryz.ntmps247, k247, q247⟩
  · cases h; exact ⟨Tryz.f248, _, Tryz.func248, rfl, rfl, Tryz.ntmps248, k248, q248⟩
  · cases h; exact ⟨Tryz.f249, _, Tryz.func249, rfl, rfl, Tryz.ntmps249, k249, q249⟩
  · cases h; exact ⟨Tryz.f250, _, Tryz.func250, rfl, rfl, Tryz.ntmps250, k250, q250⟩
  · cases h; exact ⟨Tryz.f251, _, Tryz.func251, rfl, rfl, Tryz.ntmps251, k251, q251⟩
  · cases h; exact ⟨Tryz.f252, _, Tryz.func252, rfl, rfl, Tryz.ntmps252, k252, q252⟩
  · cases h; exact ⟨Tryz.f157, _, Tryz.func157, rfl, rfl, Tryz.ntmps157, k157, q157⟩
  · cases h; exact ⟨Tryz.f255, _, Tryz.func255, rfl, rfl, Tryz.ntmps255, k255, q255⟩
  · cases h; exact ⟨Tryz.f209, _, Tryz.func209, rfl, rfl, Tryz.ntmps209, k209, q209⟩
  · cases h; exact ⟨Tryz.f274, _, Tryz.func274, rfl, rfl, Tryz.ntmps274, k274, q274⟩
  · cases h; exact ⟨Tryz.f147, _, Tryz.func147, rfl, rfl, Tryz.ntmps147, k147, q147⟩
  · cases h; exact ⟨Tryz.f149, _, Tryz.func149, rfl, rfl, Tryz.ntmps149, k149, q149⟩
  · cases h; exact ⟨Tryz.f150, _, Tryz.func150, rfl, rfl, Tryz.ntmps150, k150, q150⟩
  · cases h; exact ⟨Tryz.f275, _, Tryz.func275, rfl, rfl, Tryz.ntmps275, k275, q275⟩
  · cases h; exact ⟨Tryz.f277, _, Tryz.func277, rfl, rfl, Tryz.ntmps277, k277, q277⟩
  · cases h; exact ⟨Tryz.f278, _, Tryz.func278, rfl, rfl, Tryz.ntmps278, k278, q278⟩
  · cases h; exact ⟨Tryz.f279, _, Tryz.func279, rfl, rfl, Tryz.ntmps279, k279, q279⟩
  · cases h; exact ⟨Tryz.f280, _, Tryz.func280, rfl, rfl, Tryz.ntmps280, k280, q280⟩
  · cases h; exact ⟨Tryz.f105, _, Tryz.func105, rfl, rfl, Tryz.ntmps105, k105, q105⟩
  · cases h; exact ⟨Tryz.f152, _, Tryz.func152, rfl, rfl, Tryz.ntmps152, k152, q152⟩
  · cases h; exact ⟨Tryz.f213, _, Tryz.func213, rfl, rfl, Tryz.ntmps213, k213, q213⟩
  · cases h; exact ⟨Tryz.f210, _, Tryz.func210, rfl, rfl, Tryz.ntmps210, k210, q210⟩
  · cases h; exact ⟨Tryz.f295, _, Tryz.func295, rfl, rfl, Tryz.ntmps295, k295, q295⟩
  · cases h; exact ⟨Tryz.f300, _, Tryz.func300, rfl, rfl, Tryz.ntmps300, k300, q300⟩
  · cases h; exact ⟨Tryz.f211, _, Tryz.func211, rfl, rfl, Tryz.ntmps211, k211, q211⟩
  · cases h; exact ⟨Tryz.f260, _, Tryz.func260, rfl, rfl, Tryz.ntmps260, k260, q260⟩
  · cases h; exact ⟨Tryz.f258, _, Tryz.func258, rfl, rfl, Tryz.ntmps258, k258, q258⟩
  · cases h; exact ⟨Tryz.f308, _, Tryz.func308, rfl, rfl, Tryz.ntmps308, k308, q308⟩
  · cases h

end Go.Proofs.YtelhohgmmhbahaaGreatDoor.Ev

namespace Go.Proofs.YtelhohgmmhbahaaGreatDoor.Ev
open Go Am Rc

def nat : Cal := fun _ _ _ => none

theorem nat_ok : CalOk Tryz.prog nat := by
  intro k args m v m' h
  cases h

end Go.Proofs.YtelhohgmmhbahaaGreatDoor.Ev

namespace Go.Proofs.YtelhohgmmhbahaaGreatDoor.Ev
open Go Am Rc

theorem awake_run : evT nat tab 3000 10 [] = true := by decide +kernel

theorem awake_ok : Fn1 Tryz.prog 10 [] (.bool true) := fn1_of_evT nat_ok tab_ok awake_run

end Go.Proofs.YtelhohgmmhbahaaGreatDoor.Ev

set_option linter.unusedSimpArgs false
namespace Go.Proofs.YtelhohgmmhbahaaGreatDoor.Va
open Go Am Rc Bt

def vo (k : Int) (b : Nat) (t : List UInt8) (l p s r : List AV) : AV := .agg [.int .i64 k, .int .u64 (b : Nat), .str t, .list l, .list p, .list s, .list r]

section
variable (k : Int) (b : Nat) (t : List UInt8) (l p s r : List AV)

def lon : Bool := (l.length : Int) == 0 && (p.length : Int) == 0 && (s.length : Int) == 0 && (r.length : Int) == 0
theorem y190 : Fn1 Tryz.prog 190 [vo k b t l p s r] (.bool (lon l p s r)) := by
  refine fn1_of_awp (rc := r190) (rs := o190) Tryz.func190 rfl rfl Tryz.ntmps190 k190 q190 (by simp) ?_
  simp only [g190_0, g190_1, r190, o190, vo, lon, eES, eEX, Nat.reduceBEq, ↓reduceIte, Nat.reduceAdd]
  cases h0 : ((l.length : Int) == 0) <;> cases h1 : ((p.length : Int) == 0) <;> cases h2 : ((s.length : Int) == 0) <;> simp only [h1, h2, Bool.true_and, Bool.false_and, eES, eEX, Nat.reduceBEq, ↓reduceIte, Nat.reduceAdd]

theorem y179 (hl : l.length ≤ 140737488351232) (hp : p.length ≤ 140737488351232) (hs : s.length ≤ 140737488351232) (hr : r.length ≤ 140737488351232) :
    Fn1 Tryz.prog 179 [vo k b t l p s r] (.bool (lon l p s r && (if txk k = true then (b : Int) == 0 else t == []))) := by
  refine fn1_of_awp (rc := r179) (rs := o179) Tryz.func179 rfl rfl Tryz.ntmps179 k179 q179 (by simp) ?_
  have w : IntKind.i64.wrap (IntKind.i64.wrap (IntKind.i64.wrap ((l.length : Int) + (p.length : Int)) + (s.length : Int)) + (r.length : Int)) = (l.length + p.length + s.length + r.length : Nat) := by
    simp only [wi64]; omega
  simp only [g179_0, g179_1, g179_2, g179_3, g179_4, g179_5, r179, o179, vo, w, eES, eEX, Nat.reduceBEq, ↓reduceIte, Nat.reduceAdd]
  by_cases h : l.length + p.length + s.length + r.length = 0
  · have d : decide (((l.length + p.length + s.length + r.length : Nat) : Int) > 0) = false := decide_eq_false (by omega)
    have e : lon l p s r = true := by
      unfold lon
      simp only [Bool.and_eq_true, beq_iff_eq]
      omega
    simp only [d, e, Bool.true_and, eES, eEX, Nat.reduceBEq, Nat.reduceAdd]
    refine aops_call (x235 k) rfl rfl rfl (.inl rfl) ?_
    cases txk k
    · simp only [Bool.false_eq_true, astr, eES, eEX, Nat.reduceBEq, ↓reduceIte, Nat.reduceAdd]
    · simp only [eES, eEX, Nat.reduceBEq, ↓reduceIte, Nat.reduceAdd]
  · have d : decide (((l.length + p.length + s.length + r.length : Nat) : Int) > 0) = true := decide_eq_true (by omega)
    have e : lon l p s r = false := by
      unfold lon
      rw [Bool.eq_false_iff]
      simp only [ne_eq, Bool.and_eq_true, beq_iff_eq]
      omega
    simp only [d, e, Bool.false_and, eES, Nat.reduceBEq]

end

end Go.Proofs.YtelhohgmmhbahaaGreatDoor.Va

set_option linter.unusedSimpArgs false
namespace Go.Proofs.YtelhohgmmhbahaaGreatDoor.Va
open Go Am Rc Bt Br

def key (o : PO) : Bool := if o.card = 5 then decide (o.key ≥ 1) && decide (o.key ≤ 7) && o.key != 6 else o.key == 0
def aim (P : PL) (o : PO) : Bool :=
  if o.kind = 10 then decide (o.target ≥ 0) && decide (o.target < (P.progs.length : Int)) && o.card != 3
  else if o.kind = 9 then decide (o.target ≥ 0) && decide (o.target < (P.enums.length : Int)) else isk o.kind && o.target == -1
def arg1 (P : PL) (o : PO) : Bool := vld o.alias && decide ((o.alias.length : Int) ≤ 4096) && decide (o.card ≥ 1) && decide (o.card ≤ 5) && key o && aim P o
def uok (o : PO) : Bool := o.union == -1 || o.card == 2
def joinU : List PO → Int → Int → Option Int
  | [], n, _ => some n
  | o :: l, n, b => if o.union = n then joinU l (n + 1) n else if o.union = -1 ∨ o.union = b then joinU l n o.union else none
def uniB (g : PG) : Bool := match joinU g.ops 0 (-1) with
  | some n => g.unions == n
  | none => false
def fitv (k kd : Int) (b : Nat) (t : List UInt8) (l p s r : List AV) : Bool :=
  isk k && kd == k && lon l p s r && (if txk kd = true then (b : Int) == 0 else t == []) && fitn k b && decide ((t.length : Int) ≤ 4096) && (k != 7 || vld t)
def alias : List UInt8 := [97, 108, 105, 97, 115]
def nok : List AV → Bool
  | [.int _ kd, .int _ b, .str t, .list l, .list p, .list s, .list r] => fitv 7 kd b.toNat t l p s r
  | _ => false
def nte (i : PI) : Bool := match i.notes with
  | [] => true
  | [n] => n.name == alias && nok n.val
  | _ => false
def argG (P : PL) (g : PG) : Bool := uniB g && g.ops.all fun o => arg1 P o && uok o
def argE (x : PE) : Bool := x.notes.isEmpty && x.items.all nte
def args (P : PL) : Bool := P.progs.all (argG P) && P.enums.all argE

theorem all_and {α : Type} (l : List α) (p q : α → Bool) : (l.all fun x => p x && q x) = (l.all p && l.all q) := by
  induction l with
  | nil => rfl
  | cons x l ih =>
    simp only [List.all_cons, ih]
    cases p x <;> cases q x <;> cases l.all p <;> cases l.all q <;> rfl

theorem z263 (k kd : Int) (b : Nat) (t : List UInt8) (l p s r : List AV) (hl : l.length ≤ 140737488351232) (hp : p.length ≤ 140737488351232) (hs : s.length ≤ 140737488351232) (hr : r.length ≤ 140737488351232) :
    Fn1 Tryz.prog 263 [.int .i64 k, vo kd b t l p s r] (.bool (fitv k kd b t l p s r)) := by
  have hle := y179 kd b t l p s r hl hp hs hr
  have hw := x288 k b
  simp only [vo] at hle
  have n1 : (kd != k) = !(kd == k) := rfl
  have n2 : (k != 7) = !(k == 7) := rfl
  have n3 : decide ((t.length : Int) > 4096) = !decide ((t.length : Int) ≤ 4096) := (by rw [Bool.eq_iff_iff]; simp only [decide_eq_true_eq, Bool.not_eq_true', decide_eq_false_iff_not]; omega)
  refine fn1_of_awp (rc := r263) (rs := o263) Tryz.func263 rfl rfl Tryz.ntmps263 k263 q263 (by simp) ?_
  simp only [g263_0, g263_1, g263_2, g263_3, r263, o263, vo, fitv, n2, eES, eEX, Nat.reduceBEq]
  refine aops_call (x159 k) rfl rfl rfl (.inl rfl) ?_
  cases isk k
  · simp only [Bool.false_and, Bool.not_false, eES, Nat.reduceBEq]
  simp only [Bool.true_and, Bool.not_true, n1, eES, eEX, Nat.reduceBEq, ↓reduceIte, Nat.reduceAdd]
  cases a1 : (kd == k)
  · simp only [Bool.false_and, Bool.not_false, eES, Nat.reduceBEq]
  simp only [Bool.true_and, Bool.not_true, eES, eEX, Nat.reduceBEq, ↓reduceIte, Nat.reduceAdd, Nat.reduceLeDiff]
  refine aops_call hle rfl rfl rfl (.inl rfl) ?_
  cases (lon l p s r && (if txk kd = true then (b : Int) == 0 else t == []))
  · simp only [Bool.false_and, Bool.not_false, eES, Nat.reduceBEq]
  simp only [Bool.true_and, Bool.not_true, eES, eEX, Nat.reduceBEq, Nat.reduceAdd]
  refine aops_call hw rfl rfl rfl (.inl rfl) ?_
  cases fitn k b
  · simp only [Bool.false_and, Bool.not_false, eES, Nat.reduceBEq]
  simp only [Bool.true_and, Bool.not_true, n3, eES, eEX, Nat.reduceBEq, ↓reduceIte, Nat.reduceAdd]
  cases a2 : decide ((t.length : Int) ≤ 4096)
  · simp only [Bool.false_and, Bool.not_false, eES, Nat.reduceBEq]
  simp only [Bool.true_and, Bool.not_true, n2, eES, Nat.reduceBEq, ↓reduceIte]
  cases a3 : (k == 7)
  · simp only [Bool.not_false, Bool.true_or, eES, Nat.reduceBEq]
  · simp only [Bool.not_true, Bool.false_or, eES, eEX, Nat.reduceBEq, Nat.reduceAdd]
    refine aops_call (x100 t) rfl rfl rfl (.inl rfl) ?_
    simp only [eES, Nat.reduceBEq]

theorem z101 (o : PO) : Fn1 Tryz.prog 101 [oav o] (.bool (key o)) := by
  refine fn1_of_awp (rc := r101) (rs := o101) Tryz.func101 rfl rfl Tryz.ntmps101 k101 q101 (by simp) ?_
  simp only [g101_0, g101_1, g101_2, g101_3, r101, o101, oav, PO.cells, key, eES, eEX, Nat.reduceBEq, ↓reduceIte, Nat.reduceAdd]
  by_cases h : o.card = 5
  · have b0 : (o.card != 5) = false := by simp [h]
    simp only [b0, if_pos h, eES, eEX, Nat.reduceBEq, ↓reduceIte, Nat.reduceAdd]
    cases a1 : decide (o.key ≥ 1) <;> cases a2 : decide (o.key ≤ 7) <;> simp only [a2, Bool.true_and, Bool.false_and, eES, eEX, Nat.reduceBEq, ↓reduceIte, Nat.reduceAdd]
  · have b0 : (o.card != 5) = true := by simp [h]
    simp only [b0, if_neg h, eES, eEX, Nat.reduceBEq, ↓reduceIte, Nat.reduceAdd]

section
variable (P : PL)

theorem z102 (o : PO) : Fn1 Tryz.prog 102 [P.av, oav o] (.bool (aim P o)) := by
  have e0 : P.av = .agg [.list (P.progs.map gav), .list (P.enums.map eav)] := rfl
  refine fn1_of_awp (rc := r102) (rs := o102) Tryz.func102 rfl rfl Tryz.ntmps102 k102 q102 (by simp) ?_
  simp only [g102_0, g102_1, g102_2, g102_3, g102_4, g102_5, g102_6, r102, o102, e0, oav, PO.cells, aim, eES, eEX, Nat.reduceBEq, ↓reduceIte, Nat.reduceAdd]
  by_cases h : o.kind = 10
  · have b0 : (o.kind == 10) = true := by simp [h]
    simp only [b0, if_pos h, eES, eEX, Nat.reduceBEq, ↓reduceIte, Nat.reduceAdd]
    cases a1 : decide (o.target ≥ 0) <;> cases a2 : decide (o.target < (P.progs.length : Int)) <;> simp only [a2, Bool.true_and, Bool.false_and, List.length_map, eES, eEX, Nat.reduceBEq, ↓reduceIte, Nat.reduceAdd]
  · have b0 : (o.kind == 10) = false := by simp [h]
    by_cases h9 : o.kind = 9
    · have b1 : (o.kind == 9) = true := by simp [h9]
      simp only [b0, b1, if_neg h, if_pos h9, eES, eEX, Nat.reduceBEq, ↓reduceIte, Nat.reduceAdd]
      cases a1 : decide (o.target ≥ 0) <;> simp only [Bool.true_and, Bool.false_and, List.length_map, eES, eEX, Nat.reduceBEq, ↓reduceIte, Nat.reduceAdd]
    · have b1 : (o.kind == 9) = false := by simp [h9]
      simp only [b0, b1, if_neg h, if_neg h9, eES, eEX, Nat.reduceBEq, ↓reduceIte, Nat.reduceAdd]
      refine aops_call (x159 o.kind) rfl rfl rfl (.inl rfl) ?_
      cases isk o.kind <;> simp only [Bool.true_and, Bool.false_and, eES, eEX, Nat.reduceBEq, ↓reduceIte, Nat.reduceAdd]

def UnI (g : PG) (k : Nat) (st : St) : Prop :=
  ∃ f fr i n b, st = ⟨f, [fr], []⟩ ∧ k = g.ops.length - i ∧ i ≤ g.ops.length ∧ (g.ops.take i).all uok = true ∧ joinU g.ops 0 (-1) = joinU (g.ops.drop i) n b ∧ 0 ≤ n ∧ n ≤ i ∧ -1 ≤ b ∧ b < n ∧ f 1 = .ptr 0 1 0 ∧ f 3 = .int .i64 (n - 1) ∧ f 4 = .int .i64 b ∧
    f 8 = .list (g.ops.map fun o => .agg o.cells) ∧ f 9 = .int .i64 (g.ops.length : Nat) ∧ f 10 = .int .i64 (i : Nat) ∧ fr 1 = .cells g.cells ∧ ∀ s ∈ [6], (fr s).isRow = false

theorem joinU_drop {l : List PO} {i : Nat} {o : PO} (h : l[i]? = some o) (n b : Int) : joinU (l.drop i) n b = if o.union = n then joinU (l.drop (i + 1)) (n + 1) n else if o.union = -1 ∨ o.union = b then joinU (l.drop (i + 1)) n o.union else none := by
  have hlt : i < l.length := (List.getElem?_eq_some_iff.1 h).1
  rw [List.drop_eq_getElem_cons hlt, show l[i] = o from (List.getElem?_eq_some_iff.1 h).2]
  rfl

theorem z98 (g : PG) (hl : g.ops.length ≤ 9223372036854775000) : Fn1 Tryz.prog 98 [gav g] (.bool (g.ops.all uok && uniB g)) := by
  refine fn1_of_awp (rc := r98) (rs := o98) Tryz.func98 rfl rfl Tryz.ntmps98 k98 q98 (by simp) ?_
  simp only [g98_0, g98_1, g98_2, g98_9, r98, o98, gav, PG.cells, List.length_map, eES, eEX, Nat.reduceBEq, Nat.reduceAdd]
  refine awp_loop (UnI g) _ ⟨_, _, 0, 0, -1, rfl, rfl, Nat.zero_le _, rfl, rfl, by decide, by decide, by decide, by decide, (by first | rfl | simp only [eES, eEX, Nat.reduceBEq, ↓reduceIte, reduceCtorEq, Nat.reduceEqDiff]), (by first | rfl | simp only [eES, eEX, Nat.reduceBEq, ↓reduceIte, reduceCtorEq, Nat.reduceEqDiff]), (by first | rfl | simp only [eES, eEX, Nat.reduceBEq, ↓reduceIte, reduceCtorEq, Nat.reduceEqDiff]), (by first | rfl | simp only [eES, eEX, Nat.reduceBEq, ↓reduceIte, reduceCtorEq, Nat.reduceEqDiff]), (by first | rfl | simp only [eES, eEX, Nat.reduceBEq, ↓reduceIte, reduceCtorEq, Nat.reduceEqDiff]), (by first | rfl | simp only [eES, eEX, Nat.reduceBEq, ↓reduceIte, reduceCtorEq, Nat.reduceEqDiff]), (by first | rfl | simp only [eES, eEX, Nat.reduceBEq, ↓reduceIte, reduceCtorEq, Nat.reduceEqDiff]), by simp <;> rfl⟩ ?_
  rintro _ st ⟨f0, fr0, i, n, b, rfl, rfl, hil, hu, hj, hn0, hni, hb1, hbn, h10, h30, h40, h80, h90, hA0, m10, r6⟩
  refine awp_drops (a := _) [6] r6 ?_
  intro f fr hf hm hn6
  have h1 : f 1 = .ptr 0 1 0 := by rw [hf, h10] <;> rfl
  have h3 : f 3 = .int .i64 (n - 1) := by rw [hf, h30] <;> rfl
  have h4 : f 4 = .int .i64 b := by rw [hf, h40] <;> rfl
  have h8 : f 8 = .list (g.ops.map fun o => .agg o.cells) := by rw [hf, h80] <;> rfl
  have h9 : f 9 = .int .i64 (g.ops.length : Nat) := by rw [hf, h90] <;> rfl
  have hA : f 10 = .int .i64 (i : Nat) := by rw [hf, hA0] <;> rfl
  have m1 : fr 1 = .cells g.cells := by rw [hm 1 (by decide), m10] <;> rfl
  have n6 := hn6 6 (by decide)
  clear hf hm hn6 h10 h30 h40 h80 h90 hA0 m10 r6
  simp only [PG.cells] at m1
  have w0 : IntKind.i64.wrap (n - 1 + 1) = n := by rw [wi64]; omega
  simp only [g98_3, g98_4, g98_5, g98_6, g98_7, g98_8, h9, hA, eES, Nat.reduceBEq, ↓reduceIte]
  by_cases hlt : i < g.ops.length
  · obtain ⟨o, hi⟩ : ∃ o, g.ops[i]? = some o := ⟨g.ops[i], List.getElem?_eq_getElem hlt⟩
    have hg : (g.ops.map fun o => AV.agg o.cells)[i]? = some (.agg o.cells) := by simp [hi]
    have e1 := wi64_s i _ hlt (by simp only [maxLen]; omega)
    have ht := take_all (q := uok) hi
    rw [hu, Bool.true_and] at ht
    have hbad : uok o = false → g.ops.all uok = false := fun h => by
      rw [Bool.eq_false_iff]
      intro h'
      rw [List.all_eq_true.1 h' o (List.mem_of_getElem? hi)] at h
      cases h
    rw [joinU_drop hi] at hj
    have fin : ∀ (f' : Fr) (fr' : Nat → Ob) (n' : Int), uok o = true → (if o.union = n then n' = n + 1 else n' = n) → joinU g.ops 0 (-1) = joinU (g.ops.drop (i + 1)) n' o.union → (o.union = n ∨ o.union = -1 ∨ o.union = b) → f' 1 = .ptr 0 1 0 → f' 3 = .int .i64 (n' - 1) → f' 4 = .int .i64 o.union →
        f' 8 = .list (g.ops.map fun o => .agg o.cells) → f' 9 = .int .i64 (g.ops.length : Nat) → f' 10 = .int .i64 ((i + 1 : Nat) : Int) → fr' 1 = .cells g.cells → (∀ s ∈ [6], (fr' s).isRow = false) → ∃ k, k < g.ops.length - i ∧ UnI g k ⟨f', [fr'], []⟩ := by
      intro f' fr' n' a b' c d e1 e3 e4 e8 e9 eA em er
      refine ⟨g.ops.length - (i + 1), by omega, f', fr', i + 1, n', o.union, rfl, rfl, by omega, by rw [ht, a], c, ?_, ?_, ?_, ?_, e1, e3, e4, e8, e9, eA, em, er⟩ <;> split at b' <;> omega
    simp only [PO.cells] at hg
    simp only [lt_t hlt, nneg, Int.toNat_natCast, aiaddr, hg, PO.cells, n6, splice, List.take_succ_cons, List.take_zero, List.drop_succ_cons, List.drop_zero, List.drop_nil, List.append_nil, List.nil_append, List.length_cons, List.length_nil, h8, hA, eES, eEX, Nat.reduceBEq, ↓reduceIte, Nat.reduceAdd, Nat.reduceLeDiff]
    by_cases a1 : o.union = -1
    · have b1 : (o.union != -1) = false := by simp [a1]
      have hk : uok o = true := by simp [uok, a1]
      rw [if_neg (by omega), if_pos (.inl a1)] at hj
      have mx : (if n - 1 < o.union then o.union else n - 1) = n - 1 := if_neg (by omega)
      simp only [b1, h3, hA, mx, e1, eES, eEX, Nat.reduceBEq, ↓reduceIte, Nat.reduceAdd]
      exact fin _ _ n hk (by rw [if_neg (by omega)]) hj (.inr (.inl a1)) (by first | rfl | exact h1 | simp only [h1, eES, eEX, Nat.reduceBEq, ↓reduceIte, reduceCtorEq, Nat.reduceEqDiff]) (by first | rfl | simp only [eES, eEX, Nat.reduceBEq, ↓reduceIte, reduceCtorEq, Nat.reduceEqDiff]) (by first | rfl | simp only [eES, eEX, Nat.reduceBEq, ↓reduceIte, reduceCtorEq, Nat.reduceEqDiff]) (by first | rfl | exact h8 | simp only [h8, eES, eEX, Nat.reduceBEq, ↓reduceIte, reduceCtorEq, Nat.reduceEqDiff]) (by first | rfl | exact h9 | simp only [h9, eES, eEX, Nat.reduceBEq, ↓reduceIte, reduceCtorEq, Nat.reduceEqDiff]) (by first | rfl | simp only [eES, eEX, Nat.reduceBEq, ↓reduceIte, reduceCtorEq, Nat.reduceEqDiff]) (by first | rfl | exact m1 | simp only [m1, eES, eEX, Nat.reduceBEq, ↓reduceIte, reduceCtorEq, Nat.reduceEqDiff]) (by simp <;> rfl)
    have b1 : (o.union != -1) = true := by simp [a1]
    by_cases a2 : o.card = 2
    case neg =>
      have b2 : (o.card != 2) = true := by simp [a2]
      have hk : uok o = false := by simp [uok, a1, a2]
      simp only [b1, b2, hbad hk, Bool.false_and, eES, eEX, Nat.reduceBEq, ↓reduceIte, Nat.reduceAdd]
    have b2 : (o.card != 2) = false := by simp [a2]
    have hk : uok o = true := by simp [uok, a2]
    by_cases a3 : o.union = n
    · have b3 : (o.union != n) = false := by simp [a3]
      rw [if_pos a3, ← a3] at hj
      have mx : (if n - 1 < o.union then o.union else n - 1) = o.union := if_pos (by omega)
      simp only [b1, b2, b3, h3, hA, w0, mx, e1, eES, eEX, Nat.reduceBEq, ↓reduceIte, Nat.reduceAdd]
      exact fin _ _ (o.union + 1) hk (by rw [if_pos a3, a3]) hj (.inl a3) (by first | rfl | exact h1 | simp only [h1, eES, eEX, Nat.reduceBEq, ↓reduceIte, reduceCtorEq, Nat.reduceEqDiff]) (by simp only [eES, Nat.reduceBEq]; congr 1; omega) (by first | rfl | simp only [eES, eEX, Nat.reduceBEq, ↓reduceIte, reduceCtorEq, Nat.reduceEqDiff]) (by first | rfl | exact h8 | simp only [h8, eES, eEX, Nat.reduceBEq, ↓reduceIte, reduceCtorEq, Nat.reduceEqDiff]) (by first | rfl | exact h9 | simp only [h9, eES, eEX, Nat.reduceBEq, ↓reduceIte, reduceCtorEq, Nat.reduceEqDiff]) (by first | rfl | simp only [eES, eEX, Nat.reduceBEq, ↓reduceIte, reduceCtorEq, Nat.reduceEqDiff]) (by first | rfl | exact m1 | simp only [m1, eES, eEX, Nat.reduceBEq, ↓reduceIte, reduceCtorEq, Nat.reduceEqDiff]) (by simp <;> rfl)
    have b3 : (o.union != n) = true := by simp [a3]
    by_cases a4 : o.union = b
    · have b4 : (o.union != b) = false := by simp [a4]
      rw [if_neg a3, if_pos (.inr a4)] at hj
      have mx : (if n - 1 < o.union then o.union else n - 1) = n - 1 := if_neg (by omega)
      simp only [b1, b2, b3, b4, h3, h4, hA, w0, mx, e1, eES, eEX, Nat.reduceBEq, ↓reduceIte, Nat.reduceAdd]
      exact fin _ _ n hk (by rw [if_neg a3]) hj (.inr (.inr a4)) (by first | rfl | exact h1 | simp only [h1, eES, eEX, Nat.reduceBEq, ↓reduceIte, reduceCtorEq, Nat.reduceEqDiff]) (by first | rfl | simp only [eES, eEX, Nat.reduceBEq, ↓reduceIte, reduceCtorEq, Nat.reduceEqDiff]) (by first | rfl | simp only [eES, eEX, Nat.reduceBEq, ↓reduceIte, reduceCtorEq, Nat.reduceEqDiff]) (by first | rfl | exact h8 | simp only [h8, eES, eEX, Nat.reduceBEq, ↓reduceIte, reduceCtorEq, Nat.reduceEqDiff]) (by first | rfl | exact h9 | simp only [h9, eES, eEX, Nat.reduceBEq, ↓reduceIte, reduceCtorEq, Nat.reduceEqDiff]) (by first | rfl | simp only [eES, eEX, Nat.reduceBEq, ↓reduceIte, reduceCtorEq, Nat.reduceEqDiff]) (by first | rfl | exact m1 | simp only [m1, eES, eEX, Nat.reduceBEq, ↓reduceIte, reduceCtorEq, Nat.reduceEqDiff]) (by simp <;> rfl)
    · have b4 : (o.union != b) = true := by simp [a4]
      rw [if_neg a3, if_neg (by omega)] at hj
      have hun : uniB g = false := by unfold uniB; rw [hj]
      simp only [b1, b2, b3, b4, hun, Bool.and_false, h3, h4, w0, eES, eEX, Nat.reduceBEq, ↓reduceIte, Nat.reduceAdd]
  · rw [List.take_of_length_le (by omega)] at hu
    rw [List.drop_of_length_le (by omega)] at hj
    have hun : uniB g = (g.unions == n) := by unfold uniB; rw [hj]; rfl
    simp only [lt_f hlt, h1, h3, m1, w0, hu, hun, Bool.true_and, eES, eEX, Nat.reduceBEq, ↓reduceIte, Nat.reduceAdd]

theorem z99 (o : PO) (fr2 fr : Nat → Ob) (h1 : fr 1 = .cells [.list (P.progs.map gav), .list (P.enums.map eav)]) : ACalls Tryz.prog 99 [oav o, .ptr 7 1 0] [noObs, noObs, noObs, fr2, noObs, noObs, noObs, fr] fun y m1 => y = .bool (!arg1 P o) ∧ m1 = [noObs, noObs, noObs, fr2, noObs, noObs, noObs, fr] := by
  have n1 : decide ((o.alias.length : Int) > 4096) = !decide ((o.alias.length : Int) ≤ 4096) := (by rw [Bool.eq_iff_iff]; simp only [decide_eq_true_eq, Bool.not_eq_true', decide_eq_false_iff_not]; omega)
  have n2 : decide (o.card < 1) = !decide (o.card ≥ 1) := (by rw [Bool.eq_iff_iff]; simp only [decide_eq_true_eq, Bool.not_eq_true', decide_eq_false_iff_not]; omega)
  have n3 : decide (o.card > 5) = !decide (o.card ≤ 5) := (by rw [Bool.eq_iff_iff]; simp only [decide_eq_true_eq, Bool.not_eq_true', decide_eq_false_iff_not]; omega)
  have hk := z101 o
  have ha : Fn1 Tryz.prog 102 [.agg [.list (P.progs.map gav), .list (P.enums.map eav)], oav o] (.bool (aim P o)) := z102 P o
  simp only [oav, PO.cells] at hk ha
  refine acalls_of_awp (rc := r99) (rs := o99) Tryz.func99 rfl rfl Tryz.ntmps99 k99 q99 (by simp) ?_
  simp only [g99_0, g99_1, r99, o99, oav, PO.cells, arg1, eES, eEX, Nat.reduceBEq, Nat.reduceAdd]
  refine aops_call (x100 o.alias) rfl rfl rfl (.inl rfl) ?_
  cases vld o.alias
  · simp only [Bool.false_and, Bool.not_false, eES, Nat.reduceBEq, Nat.reduceAdd]
  simp only [Bool.true_and, Bool.not_true, n1, eES, eEX, Nat.reduceBEq, ↓reduceIte, Nat.reduceAdd]
  cases a1 : decide ((o.alias.length : Int) ≤ 4096)
  · simp only [Bool.false_and, Bool.not_false, eES, Nat.reduceBEq, Nat.reduceAdd]
  simp only [n2, Bool.true_and, Bool.not_true, eES, eEX, Nat.reduceBEq, ↓reduceIte, Nat.reduceAdd]
  cases a2 : decide (o.card ≥ 1)
  · simp only [Bool.false_and, Bool.not_false, eES, Nat.reduceBEq, Nat.reduceAdd]
  simp only [n3, Bool.true_and, Bool.not_true, eES, eEX, Nat.reduceBEq, ↓reduceIte, Nat.reduceAdd]
  cases a3 : decide (o.card ≤ 5)
  · simp only [Bool.false_and, Bool.not_false, eES, Nat.reduceBEq, Nat.reduceAdd]
  simp only [Bool.true_and, Bool.not_true, eES, eEX, Nat.reduceBEq, ↓reduceIte, Nat.reduceAdd, Nat.reduceLeDiff]
  refine aops_call hk rfl rfl rfl (.inl rfl) ?_
  cases key o
  · simp only [Bool.false_and, Bool.not_false, eES, Nat.reduceBEq, Nat.reduceAdd]
  simp only [Bool.true_and, Bool.not_true, h1, eES, eEX, Nat.reduceBEq, ↓reduceIte, Nat.reduceAdd, Nat.reduceLeDiff]
  refine aops_call ha rfl rfl rfl (.inl rfl) ?_
  simp only [eES, Nat.reduceBEq, Nat.reduceAdd]

theorem z97 (g : PG) (hl : g.ops.length ≤ 9223372036854775000) (fr : Nat → Ob) (h1 : fr 1 = .cells [.list (P.progs.map gav), .list (P.enums.map eav)]) :
    ACalls Tryz.prog 97 [gav g, .ptr 3 1 0] [noObs, noObs, noObs, fr] fun y m1 => y = .bool (!argG P g) ∧ m1 = [noObs, noObs, noObs, fr] := by
  have hu := z98 g hl
  have e : argG P g = ((g.ops.all uok && uniB g) && g.ops.all (arg1 P)) := by
    unfold argG
    rw [show (g.ops.all fun o => arg1 P o && uok o) = (g.ops.all (arg1 P) && g.ops.all uok) from all_and ..]
    cases uniB g <;> cases g.ops.all (arg1 P) <;> cases g.ops.all uok <;> rfl
  simp only [gav, PG.cells] at hu
  refine acalls_of_awp (rc := r97) (rs := o97) Tryz.func97 rfl rfl Tryz.ntmps97 k97 q97 (by simp) ?_
  simp only [g97_0, g97_1, r97, o97, gav, PG.cells, e, eES, eEX, Nat.reduceBEq, ↓reduceIte, Nat.reduceAdd, Nat.reduceLeDiff]
  refine aops_call hu rfl rfl rfl (.inl rfl) ?_
  cases (g.ops.all uok && uniB g)
  · simp only [Bool.false_and, Bool.not_false, eES, Nat.reduceBEq, Nat.reduceAdd]
  simp only [Bool.true_and, Bool.not_true, eES, eEX, Nat.reduceBEq, Nat.reduceAdd]
  refine aops_callF (z71 g.ops (by simp only [maxLen]; omega) (fun o => !arg1 P o) 99 [.ptr 4 1 0] _ fun o _ => z99 P o _ fr h1) (by simp only [List.map_cons, List.map_nil, eES, Nat.reduceBEq] <;> rfl) ?_
  simp only [any_not, eES, Nat.reduceBEq, Nat.reduceAdd]

end

def tabK : Tab := fun k => match k with
  | 216 => some (r216, o216, 16)
  | _ => none
theorem tabK_ok : TabOk Tryz.prog tabK := by
  intro k c rs N h
  unfold tabK at h
  split at h
  · cases h; exact ⟨Tryz.f216, _, Tryz.func216, rfl, rfl, Tryz.ntmps216, k216, q216⟩
  · cases h
def pKnown : Option (AV × Mem) → Bool
  | some (.mp ks vs, _) => match mpget alias ks vs with
    | some (.agg [.int .i64 a, .int .i64 b]) => a == 7 && b == 84
    | _ => false
  | _ => false
theorem known_run : pKnown (evcall Ev.nat tabK (evC Ev.nat tabK 300) 216 [] []) = true := by decide +kernel
theorem z216 : ∃ ks vs, Fn1 Tryz.prog 216 [] (.mp ks vs) ∧ mpget alias ks vs = some (.agg [.int .i64 7, .int .i64 84]) := by
  have h := known_run
  unfold pKnown at h
  split at h
  · rename_i ks vs m' h1
    split at h
    · rename_i a b h2
      simp only [Bool.and_eq_true, beq_iff_eq] at h
      obtain ⟨rfl, rfl⟩ := h
      exact ⟨ks, vs, (evcall_ok Ev.nat_ok tabK_ok (evC_ok Ev.nat_ok tabK_ok 300) _ _ _ _ _ h1).mono fun _ _ e => e.1, h2⟩
    · cases h
  · cases h

theorem z262 : Fn1 Tryz.prog 262 [.str alias] (.int .i64 7) := by
  obtain ⟨ks, vs, h1, h2⟩ := z216
  have hg : AV.gr (.agg [.int .i64 7, .int .i64 84]) = true := rfl
  refine fn1_of_awp (rc := r262) (rs := o262) Tryz.func262 rfl rfl Tryz.ntmps262 k262 q262 (by simp) ?_
  simp only [g262_0, g262_1, r262, o262, eES]
  refine aops_call h1 rfl rfl rfl (.inl rfl) ?_
  simp only [entriesOf, h2, hg, eES, Nat.reduceBEq]

section
variable (kd : Int) (b : Nat) (t : List UInt8) (l p s r : List AV) (hl : l.length ≤ 140737488351232) (hp : p.length ≤ 140737488351232) (hs : s.length ≤ 140737488351232) (hr : r.length ≤ 140737488351232)

def nv : AV := .agg [.str alias, .int .i64 kd, .int .u64 (b : Nat), .str t, .list l, .list p, .list s, .list r]

include hl hp hs hr in
theorem z217 : Fn1 Tryz.prog 217 [nv kd b t l p s r] (.bool (fitv 7 kd b t l p s r)) := by
  have hf := z263 7 kd b t l p s r hl hp hs hr
  have b0 : ((7 : Int) != 0) = true := rfl
  simp only [vo] at hf
  refine fn1_of_awp (rc := r217) (rs := o217) Tryz.func217 rfl rfl Tryz.ntmps217 k217 q217 (by simp) ?_
  simp only [g217_0, g217_1, g217_2, r217, o217, nv, eES, eEX, Nat.reduceBEq, Nat.reduceAdd]
  refine aops_call z262 rfl rfl rfl (.inl rfl) ?_
  simp only [b0, eES, eEX, Nat.reduceBEq, ↓reduceIte, Nat.reduceAdd, Nat.reduceLeDiff]
  refine aops_call hf rfl rfl rfl (.inl rfl) ?_
  simp only [eES, Nat.reduceBEq]

include hl hp hs hr in
theorem z160 (last : List UInt8) : Fn1 Tryz.prog 160 [nv kd b t l p s r, .int .i64 4, .str last, .bool false] (.int .i64 (if fitv 7 kd b t l p s r = true then 0 else 12)) := by
  have hf := z217 kd b t l p s r hl hp hs hr
  obtain ⟨ks, vs, h1, h2⟩ := z216
  have hg : AV.gr (.agg [.int .i64 7, .int .i64 84]) = true := rfl
  have b0 : decide ((4 : Int) < 1) = false := rfl
  have b1 : decide ((4 : Int) > 6) = false := rfl
  have b2 : (0 ≤ (4 : Int)) = True := by simp
  have b3 : (bits .and .i64 (Int.fdiv 84 (2 ^ min 4 64)) 1 == 0) = false := by decide
  have b4 : (bits .and .i64 ((84 : Int).fdiv (2 ^ (min (4 : Int).toNat IntKind.i64.bits))) 1 == 0) = false := by decide
  simp only [nv] at hf
  refine fn1_of_awp (rc := r160) (rs := o160) Tryz.func160 rfl rfl Tryz.ntmps160 k160 q160 (by simp) ?_
  simp only [g160_0, g160_1, g160_2, g160_3, g160_4, g160_5, g160_6, g160_7, g160_8, g160_9, g160_10, g160_11, g160_12, r160, o160, nv, eES, eEX]
  refine aops_call h1 rfl rfl rfl (.inl rfl) ?_
  simp only [h2, hg, b2, b3, splice, List.take_succ_cons, List.take_zero, List.drop_succ_cons, List.drop_zero, List.drop_nil, List.append_nil, List.nil_append, List.length_cons, List.length_nil, eES, eEX, Nat.reduceBEq, Int.reduceLT, Int.reduceToNat, ↓reduceIte, Nat.reduceAdd, Nat.reduceLeDiff]
  refine aops_call hf rfl rfl rfl (.inl rfl) ?_
  cases fitv 7 kd b t l p s r
  · simp only [Bool.not_false, Bool.false_eq_true, eES, Nat.reduceBEq, ↓reduceIte]
  · simp only [Bool.not_true, eES, Nat.reduceBEq, ↓reduceIte]

def NcI (k : Nat) (st : St) : Prop :=
  ∃ f fr i, st = ⟨f, [fr], []⟩ ∧ k = 1 - i ∧ i ≤ 1 ∧ (i = 0 → ∃ last, f 5 = .str last) ∧ (i = 1 → fitv 7 kd b t l p s r = true) ∧ f 1 = .int .i64 4 ∧ f 12 = .list [nv kd b t l p s r] ∧ f 13 = .int .i64 1 ∧ f 14 = .int .i64 (i : Nat) ∧ ∀ s ∈ [7], (fr s).isRow = false

include hl hp hs hr in
theorem z105 : Fn1 Tryz.prog 105 [.list [nv kd b t l p s r], .int .i64 4] (.int .i64 (if fitv 7 kd b t l p s r = true then 0 else 12)) := by
  have b0 : decide (((1 : Nat) : Int) > 8) = false := rfl
  refine fn1_of_awp (rc := r105) (rs := o105) Tryz.func105 rfl rfl Tryz.ntmps105 k105 q105 (by simp) ?_
  simp only [g105_0, g105_1, g105_2, g105_3, g105_4, g105_12, r105, o105, List.length_cons, List.length_nil, Nat.zero_add, b0, eES, Nat.reduceBEq, ↓reduceIte]
  refine awp_loop (NcI kd b t l p s r) 1 ⟨_, _, 0, rfl, rfl, Nat.zero_le _, fun _ => ⟨[], (by first | rfl | simp only [eES, eEX, Nat.reduceBEq, ↓reduceIte, reduceCtorEq, Nat.reduceEqDiff])⟩, (fun h => by cases h), (by first | rfl | simp only [eES, eEX, Nat.reduceBEq, ↓reduceIte, reduceCtorEq, Nat.reduceEqDiff]), (by first | rfl | simp only [eES, eEX, Nat.reduceBEq, ↓reduceIte, reduceCtorEq, Nat.reduceEqDiff]), (by first | rfl | simp only [eES, eEX, Nat.reduceBEq, ↓reduceIte, reduceCtorEq, Nat.reduceEqDiff]), (by first | rfl | simp only [eES, eEX, Nat.reduceBEq, ↓reduceIte, reduceCtorEq, Nat.reduceEqDiff]), by simp <;> rfl⟩ ?_
  rintro _ st ⟨f0, fr0, i, rfl, rfl, hi, hl5, hf, h10, h120, h130, h140, r7⟩
  refine awp_drops (a := _) [7] r7 ?_
  intro f fr hff hm hn7
  have h1 : f 1 = .int .i64 4 := by rw [hff, h10] <;> rfl
  have h12 : f 12 = .list [nv kd b t l p s r] := by rw [hff, h120] <;> rfl
  have h13 : f 13 = .int .i64 1 := by rw [hff, h130] <;> rfl
  have h14 : f 14 = .int .i64 (i : Nat) := by rw [hff, h140] <;> rfl
  have h5 : i = 0 → ∃ last, f 5 = .str last := fun h => by
    obtain ⟨la, e⟩ := hl5 h
    exact ⟨la, by rw [hff, e] <;> rfl⟩
  have n7 := hn7 7 (by decide)
  clear hff hm hn7 h10 h120 h130 h140 r7 hl5
  have ho := fun la => z160 kd b t l p s r hl hp hs hr la
  simp only [nv] at ho h12
  simp only [g105_5, g105_6, g105_7, g105_8, g105_9, g105_10, g105_11, h13, h14, eES, Nat.reduceBEq, ↓reduceIte]
  rcases Nat.le_one_iff_eq_zero_or_eq_one.1 hi with rfl | rfl
  · obtain ⟨la, h5⟩ := h5 rfl
    have c0 : decide (((0 : Nat) : Int) < 1) = true := rfl
    have c1 : decide (((0 : Nat) : Int) > 0) = false := rfl
    have e1 : IntKind.i64.wrap (((0 : Nat) : Int) + 1) = ((1 : Nat) : Int) := rfl
    have z0 : (0 ≤ ((0 : Nat) : Int)) = True := by simp
    have z1 : Int.toNat ((0 : Nat) : Int) = 0 := rfl
    simp only [c0, c1, z0, z1, aiaddr, n7, splice, List.take_succ_cons, List.take_zero, List.drop_succ_cons, List.drop_zero, List.drop_nil, List.append_nil, List.nil_append, List.length_cons, List.length_nil, h1, h5, h12, h14, eES, eEX, Nat.reduceBEq, ↓reduceIte, Nat.reduceAdd, Nat.reduceLeDiff, Nat.reduceSub]
    refine aops_call (ho la) rfl rfl rfl (.inl rfl) ?_
    cases hfv : fitv 7 kd b t l p s r
    · have d0 : ((12 : Int) != 0) = true := rfl
      simp only [d0, Bool.false_eq_true, eES, Nat.reduceBEq, ↓reduceIte]
    · have d0 : ((0 : Int) != 0) = false := rfl
      simp only [d0, h14, e1, eES, eEX, Nat.reduceBEq, ↓reduceIte, Nat.reduceAdd]
      exact ⟨0, by omega, _, _, 1, rfl, rfl, Nat.le_refl _, (fun h => by cases h), fun _ => hfv, (by first | rfl | exact h1 | simp only [h1, eES, eEX, Nat.reduceBEq, ↓reduceIte, reduceCtorEq, Nat.reduceEqDiff]), (by first | rfl | exact h12 | simp only [h12, eES, eEX, Nat.reduceBEq, ↓reduceIte, reduceCtorEq, Nat.reduceEqDiff]), (by first | rfl | exact h13 | simp only [h13, eES, eEX, Nat.reduceBEq, ↓reduceIte, reduceCtorEq, Nat.reduceEqDiff]), (by first | rfl | simp only [eES, eEX, Nat.reduceBEq, ↓reduceIte, reduceCtorEq, Nat.reduceEqDiff]), by simp <;> rfl⟩
  · have c0 : decide (((1 : Nat) : Int) < 1) = false := rfl
    simp only [c0, hf rfl, eES, Nat.reduceBEq, ↓reduceIte, Nat.reduceSub]

end

theorem v0_of {M : Nat} {n : PN} (h : n.ok Tryz.prog M 32) (hM : M ≤ 140737488351232) : ∃ kd b t l p s r, n.val = [.int .i64 kd, .int .u64 ((b : Nat) : Int), .str t, .list l, .list p, .list s, .list r] ∧ t.length ≤ M ∧ l.length ≤ 140737488351232 ∧ p.length ≤ 140737488351232 ∧ s.length ≤ 140737488351232 ∧ r.length ≤ 140737488351232 := by
  obtain ⟨_, k, hk⟩ := h
  obtain ⟨k, h⟩ := has_struct Tryz.underlying32 hk
  simp only [Has.HasL] at h
  obtain ⟨_, _, e, h0, _, _, rfl, h1, _, _, rfl, h2, _, _, rfl, h3, _, _, rfl, h4, _, _, rfl, h5, _, _, rfl, h6, rfl⟩ := h
  obtain ⟨a0, rfl, w0⟩ := has_int Tryz.underlying3 h0
  obtain ⟨a1, rfl, w1⟩ := has_int Tryz.underlying26 h1
  obtain ⟨a2, rfl, w2⟩ := has_str Tryz.underlying9 h2
  obtain ⟨_, l3, rfl, w3, _⟩ := has_sliceM Tryz.underlying27 h3
  obtain ⟨_, l4, rfl, w4, _⟩ := has_sliceM Tryz.underlying28 h4
  obtain ⟨_, l5, rfl, w5, _⟩ := has_sliceM Tryz.underlying29 h5
  obtain ⟨_, l6, rfl, w6, _⟩ := has_sliceM Tryz.underlying30 h6
  have hb : 0 ≤ a1 := u64_lo w1
  obtain ⟨b, rfl⟩ := Int.eq_ofNat_of_zero_le hb
  exact ⟨a0, b, a2, _, _, _, _, e, w2, by simp; omega, by simp; omega, by simp; omega, by simp; omega⟩

theorem z104 {M : Nat} (hM : M ≤ 140737488351232) (x : PI) (hx : x.ok M) (m : Mem) : ACalls Tryz.prog 104 [iav x] m fun y m1 => y = .bool (!nte x) ∧ m1 = m := by
  have z0 : (0 ≤ (0 : Int)) = True := by simp
  have z1 : Int.toNat 0 = 0 := rfl
  refine acalls_of_awp (rc := r104) (rs := o104) Tryz.func104 rfl rfl Tryz.ntmps104 k104 q104 (by simp) ?_
  simp only [g104_0, g104_1, r104, o104, iav, PI.cells, List.length_map, eES, eEX, Nat.reduceBEq, ↓reduceIte, Nat.reduceAdd]
  rcases hn : x.notes with _ | ⟨n, _ | ⟨n2, ns⟩⟩
  · have c0 : decide (((0 : Nat) : Int) > 1) = false := rfl
    have c1 : (((0 : Nat) : Int) == 1) = false := rfl
    have e : nte x = true := by unfold nte; rw [hn]
    simp only [List.length_nil, List.map_nil, c0, c1, e, Bool.not_true, eES, eEX, Nat.reduceBEq, ↓reduceIte, Nat.reduceAdd]
  · obtain ⟨kd, b, t, l, p, s, r, hv, ht, h3, h4, h5, h6⟩ := v0_of (hx.notes n (by rw [hn]; simp)) hM
    have c0 : decide (((1 : Nat) : Int) > 1) = false := rfl
    have c1 : (((1 : Nat) : Int) == 1) = true := rfl
    have e : nte x = (n.name == alias && fitv 7 kd b t l p s r) := by
      unfold nte
      rw [hn]
      show (n.name == alias && nok n.val) = _
      rw [hv]
      rfl
    have en : elemV n.cells = .agg [.str n.name, .int .i64 kd, .int .u64 ((b : Nat) : Int), .str t, .list l, .list p, .list s, .list r] := by
      rw [PN.cells, hv]; rfl
    have hne : (!(n.name == [97, 108, 105, 97, 115])) = !(n.name == alias) := rfl
    have hc := z105 kd b t l p s r h3 h4 h5 h6
    simp only [nv] at hc
    simp only [List.length_cons, List.length_nil, List.map_cons, List.map_nil, Nat.zero_add, c0, c1, en, aiaddr, z0, z1, List.getElem?_cons_zero, astr, hne, e, eES, eEX, Nat.reduceBEq, ↓reduceIte, Nat.reduceAdd]
    by_cases ha : n.name = alias
    · have b0 : (n.name == alias) = true := by simp [ha]
      rw [← ha] at hc
      simp only [b0, Bool.not_true, Bool.true_and, eES, eEX, Nat.reduceBEq, Nat.reduceAdd]
      refine aops_call hc rfl rfl rfl (.inl rfl) ?_
      cases fitv 7 kd b t l p s r
      · have d0 : ((12 : Int) != 0) = true := rfl
        simp only [Bool.false_eq_true, d0, Bool.not_false, eES, Nat.reduceBEq, ↓reduceIte]
      · have d0 : ((0 : Int) != 0) = false := rfl
        simp only [d0, Bool.not_true, eES, Nat.reduceBEq, ↓reduceIte]
    · have b0 : (n.name == alias) = false := by simp [ha]
      simp only [b0, Bool.not_false, Bool.false_and, eES, Nat.reduceBEq]
  · have c0 : decide ((((ns.length + 1 + 1 : Nat)) : Int) > 1) = true := decide_eq_true (by omega)
    have e : nte x = false := by unfold nte; rw [hn]
    simp only [List.length_cons, c0, e, Bool.not_false, eES, Nat.reduceBEq]

theorem z103 {M : Nat} (hM : M ≤ 140737488351232) (x : PE) (hx : x.ok M) (m : Mem) : ACalls Tryz.prog 103 [eav x] m fun y m1 => y = .bool (!argE x) ∧ m1 = m := by
  have n1 : decide ((x.notes.length : Int) > 0) = !x.notes.isEmpty := by
    cases x.notes with
    | nil => rfl
    | cons a l => simp
  refine acalls_of_awp (rc := r103) (rs := o103) Tryz.func103 rfl rfl Tryz.ntmps103 k103 q103 (by simp) ?_
  simp only [g103_0, g103_1, r103, o103, eav, PE.cells, List.length_map, argE, n1, eES, eEX, Nat.reduceBEq, ↓reduceIte, Nat.reduceAdd]
  cases a1 : x.notes.isEmpty
  · simp only [Bool.not_false, Bool.false_and, eES, Nat.reduceBEq]
  simp only [Bool.not_true, Bool.true_and, eES, eEX, Nat.reduceBEq, Nat.reduceAdd]
  refine aops_callF (z75 x.items hx.len1 (fun o => !nte o) 104 [] _ fun o ho => z104 hM o (hx.items o ho) _) (by simp only [List.map_cons, List.map_nil, eES, Nat.reduceBEq] <;> rfl) ?_
  simp only [any_not, eES, Nat.reduceBEq]

theorem z28 {M : Nat} (hM : M ≤ 140737488351232) (P : PL) (hP : P.ok M) (hl : ∀ g ∈ P.progs, g.ops.length ≤ 64) : Fn1 Tryz.prog 28 [P.av] (.bool (!args P)) := by
  have e0 : P.av = .agg [.list (P.progs.map gav), .list (P.enums.map eav)] := rfl
  refine fn1_of_awp (rc := r28) (rs := o28) Tryz.func28 rfl rfl Tryz.ntmps28 k28 q28 (by simp) ?_
  simp only [g28_0, g28_1, r28, o28, e0, args, eES, eEX, Nat.reduceBEq, Nat.reduceAdd]
  refine aops_callF (z65 P.progs hP.len1 (fun g => !argG P g) 97 [.ptr 0 1 0] _ fun o ho => z97 P o (Nat.le_trans (hl o ho) (by decide)) _ (by first | rfl | simp only [eES, eEX, Nat.reduceBEq, ↓reduceIte, reduceCtorEq, Nat.reduceEqDiff])) (by simp only [List.map_cons, List.map_nil, eES, Nat.reduceBEq] <;> rfl) ?_
  simp only [any_not, eES, Nat.reduceBEq]
  cases P.progs.all (argG P)
  · simp only [Bool.not_false, Bool.false_and, eES, Nat.reduceBEq]
  simp only [Bool.not_true, Bool.true_and, eES, eEX, Nat.reduceBEq, Nat.reduceAdd]
  refine aops_callF (z67 P.enums hP.len2 (fun g => !argE g) 103 [] _ fun o ho => z103 hM o (hP.enums o ho) _) (by simp only [List.map_cons, List.map_nil, eES, Nat.reduceBEq] <;> rfl) ?_
  simp only [any_not, eES, Nat.reduceBEq]

end Go.Proofs.YtelhohgmmhbahaaGreatDoor.Va

set_option linter.unusedSimpArgs false
namespace Go.Proofs.YtelhohgmmhbahaaGreatDoor.Va
open Go Am Rc Bt Br

def need (B : List Bool) (o : PO) : Bool := o.card == 1 && o.kind == 10 && !(B[o.target.toNat]?.getD false)
def stp (G : List PG) (B : List Bool) (i : Nat) : List Bool := match G[i]? with
  | some g => B.set i (!g.ops.any (need B))
  | none => B
def rnd (G : List PG) (B : List Bool) : Nat → List Bool
  | 0 => B
  | i + 1 => stp G (rnd G B i) i
def its (G : List PG) : Nat → List Bool
  | 0 => List.replicate G.length false
  | c + 1 => rnd G (its G c) G.length
def fin (P : PL) : Bool := (its P.progs P.progs.length).all id

def Tgt (P : PL) : Prop := ∀ g ∈ P.progs, ∀ o ∈ g.ops, o.kind = 10 → 0 ≤ o.target ∧ o.target < (P.progs.length : Int)

theorem stp_len (G : List PG) (B : List Bool) (i : Nat) : (stp G B i).length = B.length := by
  unfold stp
  split <;> simp
theorem rnd_len (G : List PG) (B : List Bool) : ∀ i, (rnd G B i).length = B.length
  | 0 => rfl
  | i + 1 => by rw [rnd, stp_len, rnd_len G B i]
theorem its_len (G : List PG) : ∀ c, (its G c).length = G.length
  | 0 => by simp [its]
  | c + 1 => by rw [its, rnd_len, its_len G c]

def Kno (G : List PG) (B : List Bool) : Prop := ∀ (i : Nat) (g : PG), G[i]? = some g → B[i]? = some true → g.ops.any (need B) = false

theorem need_mono {B B' : List Bool} (h : ∀ k : Nat, B[k]?.getD false = true → B'[k]?.getD false = true) {o : PO} (hn : need B o = false) : need B' o = false := by
  unfold need at *
  cases hc : (o.card == 1 && o.kind == 10)
  · rfl
  · rw [hc] at hn
    simp only [Bool.true_and, Bool.not_eq_false'] at hn ⊢
    rw [h _ hn]

theorem kno_stp {G : List PG} {B : List Bool} (h : Kno G B) (i : Nat) : Kno G (stp G B i) ∧ ∀ k : Nat, B[k]?.getD false = true → (stp G B i)[k]?.getD false = true := by
  have mono : ∀ k : Nat, B[k]?.getD false = true → (stp G B i)[k]?.getD false = true := by
    intro k hk
    unfold stp
    split
    · rename_i g hg
      by_cases hki : i = k
      · subst hki
        have hb : B[i]? = some true := by
          cases hB : B[i]? with
          | none => rw [hB] at hk; cases hk
          | some b => rw [hB] at hk; simp at hk; rw [hk]
        have hlt := (List.getElem?_eq_some_iff.1 hb).1
        rw [List.getElem?_set_self hlt, h i g hg hb]; rfl
      · rw [List.getElem?_set_ne hki]; exact hk
    · exact hk
  refine ⟨fun j g hg hb => ?_, mono⟩
  rw [List.any_eq_false]
  intro o ho
  rw [Bool.not_eq_true]
  have hB : B[j]? = some true ∨ g.ops.any (need B) = false := by
    unfold stp at hb
    split at hb
    · rename_i g' hg'
      by_cases hij : i = j
      · subst hij
        rw [hg] at hg'; cases hg'
        right
        by_cases hlt : i < B.length
        · rw [List.getElem?_set_self hlt] at hb
          simpa using hb
        · rw [List.getElem?_eq_none (by simp; omega)] at hb; cases hb
      · rw [List.getElem?_set_ne hij] at hb
        exact .inl hb
    · exact .inl hb
  have ha : g.ops.any (need B) = false := hB.elim (h j g hg) id
  rw [List.any_eq_false] at ha
  exact need_mono mono (by simpa using ha o ho)

theorem kno_rnd {G : List PG} {B : List Bool} (h : Kno G B) : ∀ i, Kno G (rnd G B i)
  | 0 => h
  | i + 1 => (kno_stp (kno_rnd h i) i).1
theorem kno_its (G : List PG) : ∀ c, Kno G (its G c)
  | 0 => by
    intro i g _ hb
    rw [its, List.getElem?_replicate] at hb
    split at hb <;> cases hb
  | c + 1 => kno_rnd (kno_its G c) _

theorem stp_or {G : List PG} {B : List Bool} (h : Kno G B) {i : Nat} {g : PG} {b : Bool} (hg : G[i]? = some g) (hb : B[i]? = some b) : stp G B i = B.set i (b || !g.ops.any (need B)) := by
  unfold stp
  rw [hg]
  cases b with
  | false => rfl
  | true =>
    show B.set i _ = B.set i (true || _)
    rw [h i g hg hb]; rfl

theorem aops_callK {P : Program} {f : Fr} {d : Nat} {its : List Am.Item} {m : Mem} {ds : List DF} {K : St → Prop} {k l s : Nat} {args : List RA} {ys : List AV} {v : AV} (hk : ACalls P k ys m fun x m1 => x = v ∧ m1 = m) (hy : args.map (RA.ev f) = ys) (h : aops P its ⟨upd f d v, m, ds⟩ K) :
    aops P (⟨some d, .callK l s (.f k) args, none⟩ :: its) ⟨f, m, ds⟩ K := by
  refine ⟨k, [], [], v, m, rfl, ?_, rfl, h⟩
  show ACalls P k (args.map (RA.ev f) ++ []) m fun x m1 => x = v ∧ m1 = m
  rw [List.append_nil, hy]
  exact hk

theorem z161 (B : List Bool) (hl : B.length ≤ maxLen) : Fn1 Tryz.prog 161 [.list (B.map AV.bool), .bool false] (.int .i64 (fxi (fun b => !b) B 0)) := by
  let I : Nat → St → Prop := fun k st => ∃ f i, st = ⟨f, [noObs], []⟩ ∧ k = B.length - i ∧ fxi (fun b => !b) B 0 = fxi (fun b => !b) (B.drop i) i ∧ f 0 = .list (B.map AV.bool) ∧ f 1 = .bool false ∧ f 7 = .int .i64 (B.length : Nat) ∧ f 8 = .int .i64 (i : Nat)
  refine fn1_of_awp (rc := r161) (rs := o161) Tryz.func161 rfl rfl Tryz.ntmps161 k161 q161 (by simp) ?_
  simp only [g161_0, g161_1, g161_7, r161, o161, List.length_map, eES, Nat.reduceBEq]
  refine awp_loop I _ ⟨_, 0, rfl, rfl, rfl, (by first | rfl | simp only [eES, eEX, Nat.reduceBEq, ↓reduceIte, reduceCtorEq, Nat.reduceEqDiff]), (by first | rfl | simp only [eES, eEX, Nat.reduceBEq, ↓reduceIte, reduceCtorEq, Nat.reduceEqDiff]), (by first | rfl | simp only [eES, eEX, Nat.reduceBEq, ↓reduceIte, reduceCtorEq, Nat.reduceEqDiff]), (by first | rfl | simp only [eES, eEX, Nat.reduceBEq, ↓reduceIte, reduceCtorEq, Nat.reduceEqDiff])⟩ ?_
  rintro _ st ⟨f, i, rfl, rfl, hx, h0, h1, h7, h8⟩
  simp only [l161_0, g161_2, g161_3, g161_4, g161_5, g161_6, h7, h8, eES, Nat.reduceBEq, ↓reduceIte]
  by_cases hlt : i < B.length
  · obtain ⟨x, hi⟩ : ∃ x, B[i]? = some x := ⟨B[i], List.getElem?_eq_getElem hlt⟩
    have hg : (B.map AV.bool)[i]? = some (.bool x) := by simp [hi]
    have e1 := wi64_s i _ hlt hl
    rw [fxi_drop _ hi] at hx
    cases x
    · rw [if_pos (show (!false) = true from rfl)] at hx
      have b0 : (false == false) = true := rfl
      simp only [lt_t hlt, nneg, Int.toNat_natCast, aiaddr, hg, b0, h0, h1, h8, hx, eES, eEX, Nat.reduceBEq, ↓reduceIte, Nat.reduceAdd]
    · rw [if_neg (by decide)] at hx
      have b0 : (false == true) = false := rfl
      simp only [lt_t hlt, nneg, Int.toNat_natCast, aiaddr, hg, b0, h0, h1, h8, e1, eES, eEX, Nat.reduceBEq, ↓reduceIte, Nat.reduceAdd]
      exact ⟨B.length - (i + 1), by omega, _, i + 1, rfl, rfl, hx, (by first | rfl | exact h0 | simp only [h0, eES, eEX, Nat.reduceBEq, ↓reduceIte, reduceCtorEq, Nat.reduceEqDiff]), (by first | rfl | exact h1 | simp only [h1, eES, eEX, Nat.reduceBEq, ↓reduceIte, reduceCtorEq, Nat.reduceEqDiff]), (by first | rfl | exact h7 | simp only [h7, eES, eEX, Nat.reduceBEq, ↓reduceIte, reduceCtorEq, Nat.reduceEqDiff]), (by first | rfl | simp only [eES, eEX, Nat.reduceBEq, ↓reduceIte, reduceCtorEq, Nat.reduceEqDiff])⟩
  · have hx' : fxi (fun b => !b) B 0 = -1 := by rw [hx, List.drop_of_length_le (by omega)]; rfl
    simp only [lt_f hlt, hx', eES, Nat.reduceBEq, ↓reduceIte]

theorem z107 (B : List Bool) (hl : B.length ≤ maxLen) : Fn1 Tryz.prog 107 [.list (B.map AV.bool), .bool false] (.bool (!B.all id)) := by
  have e : (!B.all id) = B.any fun b => !b := by rw [any_not]; rfl
  refine fn1_of_awp (rc := r107) (rs := o107) Tryz.func107 rfl rfl Tryz.ntmps107 k107 q107 (by simp) ?_
  simp only [g107_0, g107_1, r107, o107, eES, Nat.reduceBEq]
  refine aops_call (z161 B hl) rfl rfl rfl (.inl rfl) ?_
  simp only [fxi_any0, e, eES, Nat.reduceBEq, ↓reduceIte]

theorem z106 (o : PO) (n : Nat) (B : List Bool) (hB : B.length = n) (ht : o.kind = 10 → 0 ≤ o.target ∧ o.target < (n : Int)) (fr : Nat → Ob) (m : Mem) (h3 : fr 3 = .cells [.vec 0 9 1 0 n false]) (h9 : fr 9 = .vec 1 1 (B.map AV.bool)) :
    ACalls Tryz.prog 106 [oav o, .ptr 3 3 0] (noObs :: noObs :: noObs :: fr :: m) fun y m1 => y = .bool (need B o) ∧ m1 = noObs :: noObs :: noObs :: fr :: m := by
  refine acalls_of_awp (rc := r106) (rs := o106) Tryz.func106 rfl rfl Tryz.ntmps106 k106 q106 (by simp) ?_
  simp only [g106_0, g106_1, r106, o106, oav, PO.cells, need, eES, eEX, Nat.reduceBEq, ↓reduceIte, Nat.reduceAdd]
  cases a1 : (o.card == 1)
  · simp only [Bool.false_and, eES, Nat.reduceBEq]
  cases a2 : (o.kind == 10)
  · simp only [a2, Bool.false_and, Bool.and_false, eES, eEX, Nat.reduceBEq, ↓reduceIte, Nat.reduceAdd]
  obtain ⟨t1, t2⟩ := ht (by simpa using a2)
  obtain ⟨t, hte⟩ := Int.eq_ofNat_of_zero_le t1
  obtain ⟨y, hy⟩ : ∃ y, B[t]? = some y := ⟨B[t]'(by omega), List.getElem?_eq_getElem (by omega)⟩
  have hg : (B.map AV.bool)[t]? = some (.bool y) := by simp [hy]
  have hlt : (t < n) = True := eq_true (by omega)
  simp only [a2, hte, hy, hg, hlt, h3, h9, aiaddr, nneg, Int.toNat_natCast, Option.getD_some, Bool.true_and, Nat.zero_add, eES, eEX, Nat.reduceBEq, ↓reduceIte, Nat.reduceAdd]

structure En (P : PL) (c : Nat) (B : List Bool) (f : Fr) (fr : Nat → Ob) : Prop where
  h1 : f 1 = .ptr 0 1 0
  m1 : fr 1 = .cells [.list (P.progs.map gav), .list (P.enums.map eav)]
  h3 : f 3 = .ptr 0 3 0
  m3 : fr 3 = .cells [.vec 0 9 1 0 P.progs.length false]
  m9 : fr 9 = .vec 1 1 (B.map AV.bool)
  h12 : f 12 = .int .i64 (P.progs.length : Nat)
  h13 : f 13 = .int .i64 (c : Nat)
  r5 : ∀ s ∈ [5], (fr s).isRow = false

theorem En.drop {P : PL} {c : Nat} {B : List Bool} {f f' : Fr} {fr fr' : Nat → Ob} (h : En P c B f fr) (hf : ∀ i, f' i = scrs [5] (f i)) (hm : ∀ i, i ∉ [5] → fr' i = oscrs [5] (fr i)) (hn : ∀ i ∈ [5], fr' i = .none) : En P c B f' fr' where
  h1 := by rw [hf, h.h1] <;> rfl
  m1 := by rw [hm 1 (by decide), h.m1] <;> rfl
  h3 := by rw [hf, h.h3] <;> rfl
  m3 := by rw [hm 3 (by decide), h.m3] <;> rfl
  m9 := by rw [hm 9 (by decide), h.m9] <;> rfl
  h12 := by rw [hf, h.h12] <;> rfl
  h13 := by rw [hf, h.h13] <;> rfl
  r5 := fun s hs => by rw [hn s hs] <;> rfl

def EnA (P : PL) (k : Nat) (st : St) : Prop := ∃ f fr c, st = ⟨f, [fr], []⟩ ∧ k = P.progs.length - c ∧ c ≤ P.progs.length ∧ En P c (its P.progs c) f fr
def EnB (P : PL) (c : Nat) (k : Nat) (st : St) : Prop := ∃ f fr i, st = ⟨f, [fr], []⟩ ∧ k = P.progs.length - i ∧ i ≤ P.progs.length ∧ En P c (rnd P.progs (its P.progs c) i) f fr ∧ f 16 = .list (P.progs.map gav) ∧ f 17 = .int .i64 (P.progs.length : Nat) ∧ f 18 = .int .i64 (i : Nat)

theorem z29 {M : Nat} (P : PL) (hP : P.ok M) (hl : P.progs.length ≤ 64) (hT : Tgt P) : Fn1 Tryz.prog 29 [P.av] (.bool (!fin P)) := by
  have e0 : P.av = .agg [.list (P.progs.map gav), .list (P.enums.map eav)] := rfl
  have hmx : P.progs.length ≤ maxLen := by simp only [maxLen]; omega
  have hz : zeroE 1 [AV.bool false] = .bool false := rfl
  have hr0 : (List.replicate P.progs.length (AV.bool false)) = (its P.progs 0).map AV.bool := by simp [its]
  refine fn1_of_awp (rc := r29) (rs := o29) Tryz.func29 rfl rfl Tryz.ntmps29 k29 q29 (by simp) ?_
  simp only [g29_0, g29_1, g29_2, g29_10, r29, o29, e0, List.length_map, eES, eEX, Nat.reduceBEq, Nat.reduceAdd]
  refine aops_mk (n := P.progs.length) (k := P.progs.length) rfl rfl (Nat.le_refl _) (by omega) (by omega) rfl ?_
  simp only [hz, hr0, splice, List.take_zero, List.drop_succ_cons, List.drop_nil, List.append_nil, List.nil_append, List.length_cons, List.length_nil, List.length_map, eES, eEX, Nat.reduceBEq, ↓reduceIte, Nat.reduceAdd, Nat.reduceLeDiff]
  refine awp_loop (EnA P) _ ⟨_, _, 0, rfl, rfl, Nat.zero_le _, ⟨(by first | rfl | simp only [eES, eEX, Nat.reduceBEq, ↓reduceIte, reduceCtorEq, Nat.reduceEqDiff]), (by first | rfl | simp only [eES, eEX, Nat.reduceBEq, ↓reduceIte, reduceCtorEq, Nat.reduceEqDiff]), (by first | rfl | simp only [eES, eEX, Nat.reduceBEq, ↓reduceIte, reduceCtorEq, Nat.reduceEqDiff]), (by first | rfl | simp only [eES, eEX, Nat.reduceBEq, ↓reduceIte, reduceCtorEq, Nat.reduceEqDiff]), (by first | rfl | simp only [eES, eEX, Nat.reduceBEq, ↓reduceIte, reduceCtorEq, Nat.reduceEqDiff]), (by first | rfl | simp only [eES, eEX, Nat.reduceBEq, ↓reduceIte, reduceCtorEq, Nat.reduceEqDiff]), (by first | rfl | simp only [eES, eEX, Nat.reduceBEq, ↓reduceIte, reduceCtorEq, Nat.reduceEqDiff]), by simp <;> rfl⟩⟩ ?_
  rintro _ st ⟨f0, fr0, c, rfl, rfl, hc, H0⟩
  refine awp_drops (a := _) [5] H0.r5 ?_
  intro f fr hf hm hn
  have H := H0.drop hf hm hn
  clear hf hm hn
  obtain ⟨h1, m1, h3, m3, m9, h12, h13, r5⟩ := id H
  simp only [g29_3, g29_4, g29_9, h12, h13, eES, Nat.reduceBEq, ↓reduceIte]
  by_cases hlt : c < P.progs.length
  · have e1 := wi64_s c _ hlt hmx
    simp only [lt_t hlt, h1, m1, List.length_map, eES, eEX, Nat.reduceBEq, Nat.reduceAdd]
    refine awp_loop (EnB P c) _ ⟨_, _, 0, rfl, rfl, Nat.zero_le _, ⟨(by first | rfl | exact h1 | simp only [h1, eES, eEX, Nat.reduceBEq, ↓reduceIte, reduceCtorEq, Nat.reduceEqDiff]), (by first | rfl | exact m1 | simp only [m1, eES, eEX, Nat.reduceBEq, ↓reduceIte, reduceCtorEq, Nat.reduceEqDiff]), (by first | rfl | exact h3 | simp only [h3, eES, eEX, Nat.reduceBEq, ↓reduceIte, reduceCtorEq, Nat.reduceEqDiff]), (by first | rfl | exact m3 | simp only [m3, eES, eEX, Nat.reduceBEq, ↓reduceIte, reduceCtorEq, Nat.reduceEqDiff]), (by first | rfl | exact m9 | simp only [m9, eES, eEX, Nat.reduceBEq, ↓reduceIte, reduceCtorEq, Nat.reduceEqDiff]), (by first | rfl | exact h12 | simp only [h12, eES, eEX, Nat.reduceBEq, ↓reduceIte, reduceCtorEq, Nat.reduceEqDiff]), (by first | rfl | exact h13 | simp only [h13, eES, eEX, Nat.reduceBEq, ↓reduceIte, reduceCtorEq, Nat.reduceEqDiff]), r5⟩, (by first | rfl | simp only [eES, eEX, Nat.reduceBEq, ↓reduceIte, reduceCtorEq, Nat.reduceEqDiff]), (by first | rfl | simp only [eES, eEX, Nat.reduceBEq, ↓reduceIte, reduceCtorEq, Nat.reduceEqDiff]), (by first | rfl | simp only [eES, eEX, Nat.reduceBEq, ↓reduceIte, reduceCtorEq, Nat.reduceEqDiff])⟩ ?_
    rintro _ st ⟨f0, fr0, i, rfl, rfl, hi, H0, h160, h170, h180⟩
    refine awp_drops (a := _) [5] H0.r5 ?_
    intro f fr hf hm hn
    have H := H0.drop hf hm hn
    have h16 : f 16 = .list (P.progs.map gav) := by rw [hf, h160] <;> rfl
    have h17 : f 17 = .int .i64 (P.progs.length : Nat) := by rw [hf, h170] <;> rfl
    have h18 : f 18 = .int .i64 (i : Nat) := by rw [hf, h180] <;> rfl
    have n5 := hn 5 (by decide)
    clear hf hm hn
    obtain ⟨h1, m1, h3, m3, m9, h12, h13, r5⟩ := id H
    simp only [g29_5, g29_6, g29_7, g29_8, h17, h18, eES, Nat.reduceBEq, ↓reduceIte]
    by_cases hli : i < P.progs.length
    · obtain ⟨g, hg⟩ : ∃ g, P.progs[i]? = some g := ⟨P.progs[i], List.getElem?_eq_getElem hli⟩
      have hgm : (P.progs.map gav)[i]? = some (gav g) := by simp [hg]
      have hBl : (rnd P.progs (its P.progs c) i).length = P.progs.length := by rw [rnd_len, its_len]
      obtain ⟨b, hb⟩ : ∃ b, (rnd P.progs (its P.progs c) i)[i]? = some b := ⟨_, List.getElem?_eq_getElem (by omega)⟩
      have hbm : ((rnd P.progs (its P.progs c) i).map AV.bool)[i]? = some (.bool b) := by simp [hb]
      have hst := stp_or (kno_rnd (kno_its P.progs c) i) hg hb
      have e2 := wi64_s i _ hli hmx
      have s1 : (i < P.progs.length) = True := eq_true hli
      have hTg := hT g (List.mem_of_getElem? hg)
      generalize hBB : rnd P.progs (its P.progs c) i = B at *
      have fin2 : ∀ (f' : Fr) (fr' : Nat → Ob) (v : Bool), (b || !g.ops.any (need B)) = v → f' 1 = .ptr 0 1 0 → fr' 1 = .cells [.list (P.progs.map gav), .list (P.enums.map eav)] → f' 3 = .ptr 0 3 0 → fr' 3 = .cells [.vec 0 9 1 0 P.progs.length false] →
          fr' 9 = .vec 1 1 ((B.map AV.bool).set i (.bool v)) → f' 12 = .int .i64 (P.progs.length : Nat) → f' 13 = .int .i64 (c : Nat) → (∀ s ∈ [5], (fr' s).isRow = false) → f' 16 = .list (P.progs.map gav) → f' 17 = .int .i64 (P.progs.length : Nat) → f' 18 = .int .i64 ((i + 1 : Nat) : Int) → ∃ k, k < P.progs.length - i ∧ EnB P c k ⟨f', [fr'], []⟩ := by
        intro f' fr' v hv a1 a2 a3 a4 a5 a6 a7 a8 a9 a10 a11
        have hB' : rnd P.progs (its P.progs c) (i + 1) = B.set i v := by rw [rnd, hBB, hst, hv]
        exact ⟨P.progs.length - (i + 1), by omega, f', fr', i + 1, rfl, rfl, by omega, ⟨a1, a2, a3, a4, by rw [hB', a5, List.map_set], a6, a7, a8⟩, a9, a10, a11⟩
      have ist : ∀ (fr' : Nat → Ob) (v : Bool), fr' 9 = .vec 1 1 (B.map AV.bool) → astore [fr'] (.vptr 0 9 1 i 0) [.bool v] = some [upd fr' 9 (.vec 1 1 ((B.map AV.bool).set i (.bool v)))] := by
        intro fr' v h9
        have e : Am.look [fr'] 0 9 = .vec 1 1 (B.map AV.bool) := h9
        simp only [astore, e, hbm]
        simp [AV.cells, AV.rfL, AV.rf, Am.put, newElem]
      have ia : ∀ fr' : Nat → Ob, fr' 9 = .vec 1 1 (B.map AV.bool) → aiaddr [fr'] 1 none (.vec 0 9 1 0 P.progs.length false) (i : Int) = some (.vptr 0 9 1 i 0) := by
        intro fr' h9
        have e : Am.look [fr'] 0 9 = .vec 1 1 (B.map AV.bool) := h9
        simp only [aiaddr, e, nneg, if_true, Int.toNat_natCast]
        simp; omega
      have hcl := fun (fr' : Nat → Ob) (h3 : fr' 3 = .cells [.vec 0 9 1 0 P.progs.length false]) (h9 : fr' 9 = .vec 1 1 (B.map AV.bool)) => z71 g.ops (hP.progs g (List.mem_of_getElem? hg)).len (need B) 106 [.ptr 0 3 0] [fr'] fun o ho => z106 o P.progs.length B hBl (hTg o ho) fr' _ h3 h9
      simp only [lt_t hli, nneg, Int.toNat_natCast, aiaddr, hgm, gav, PG.cells, n5, hbm, s1, Nat.zero_add, splice, List.take_succ_cons, List.take_zero, List.drop_succ_cons, List.drop_zero, List.drop_nil, List.append_nil, List.nil_append, List.length_cons, List.length_nil, h3, h16, h18, m3, m9, eES, eEX, Nat.reduceBEq, ↓reduceIte, Nat.reduceAdd, Nat.reduceLeDiff]
      cases b
      · simp only [eES, eEX, Nat.reduceBEq, ↓reduceIte, Nat.reduceAdd]
        refine aops_callK (hcl _ (by first | rfl | exact m3 | simp only [m3, eES, eEX, Nat.reduceBEq, ↓reduceIte, reduceCtorEq, Nat.reduceEqDiff]) (by first | rfl | exact m9 | simp only [m9, eES, eEX, Nat.reduceBEq, ↓reduceIte, reduceCtorEq, Nat.reduceEqDiff])) (by simp only [List.map_cons, List.map_nil, h3, eES, Nat.reduceBEq] <;> rfl) ?_
        generalize hav : g.ops.any (need B) = av
        rw [hav] at fin2
        simp only [ia, ist, h18, m9, e2, eES, eEX, Nat.reduceBEq, ↓reduceIte, Nat.reduceAdd]
        exact fin2 _ _ _ rfl (by first | rfl | exact h1 | simp only [h1, eES, eEX, Nat.reduceBEq, ↓reduceIte, reduceCtorEq, Nat.reduceEqDiff]) (by first | rfl | exact m1 | simp only [m1, eES, eEX, Nat.reduceBEq, ↓reduceIte, reduceCtorEq, Nat.reduceEqDiff]) (by first | rfl | exact h3 | simp only [h3, eES, eEX, Nat.reduceBEq, ↓reduceIte, reduceCtorEq, Nat.reduceEqDiff]) (by first | rfl | exact m3 | simp only [m3, eES, eEX, Nat.reduceBEq, ↓reduceIte, reduceCtorEq, Nat.reduceEqDiff]) (by first | rfl | simp only [eES, eEX, Nat.reduceBEq, ↓reduceIte, reduceCtorEq, Nat.reduceEqDiff]) (by first | rfl | exact h12 | simp only [h12, eES, eEX, Nat.reduceBEq, ↓reduceIte, reduceCtorEq, Nat.reduceEqDiff]) (by first | rfl | exact h13 | simp only [h13, eES, eEX, Nat.reduceBEq, ↓reduceIte, reduceCtorEq, Nat.reduceEqDiff]) (by simp <;> rfl) (by first | rfl | exact h16 | simp only [h16, eES, eEX, Nat.reduceBEq, ↓reduceIte, reduceCtorEq, Nat.reduceEqDiff]) (by first | rfl | exact h17 | simp only [h17, eES, eEX, Nat.reduceBEq, ↓reduceIte, reduceCtorEq, Nat.reduceEqDiff]) (by first | rfl | simp only [eES, eEX, Nat.reduceBEq, ↓reduceIte, reduceCtorEq, Nat.reduceEqDiff])
      · simp only [ia, ist, h18, m9, e2, eES, eEX, Nat.reduceBEq, ↓reduceIte, Nat.reduceAdd]
        exact fin2 _ _ _ rfl (by first | rfl | exact h1 | simp only [h1, eES, eEX, Nat.reduceBEq, ↓reduceIte, reduceCtorEq, Nat.reduceEqDiff]) (by first | rfl | exact m1 | simp only [m1, eES, eEX, Nat.reduceBEq, ↓reduceIte, reduceCtorEq, Nat.reduceEqDiff]) (by first | rfl | exact h3 | simp only [h3, eES, eEX, Nat.reduceBEq, ↓reduceIte, reduceCtorEq, Nat.reduceEqDiff]) (by first | rfl | exact m3 | simp only [m3, eES, eEX, Nat.reduceBEq, ↓reduceIte, reduceCtorEq, Nat.reduceEqDiff]) (by first | rfl | simp only [eES, eEX, Nat.reduceBEq, ↓reduceIte, reduceCtorEq, Nat.reduceEqDiff]) (by first | rfl | exact h12 | simp only [h12, eES, eEX, Nat.reduceBEq, ↓reduceIte, reduceCtorEq, Nat.reduceEqDiff]) (by first | rfl | exact h13 | simp only [h13, eES, eEX, Nat.reduceBEq, ↓reduceIte, reduceCtorEq, Nat.reduceEqDiff]) (by simp <;> rfl) (by first | rfl | exact h16 | simp only [h16, eES, eEX, Nat.reduceBEq, ↓reduceIte, reduceCtorEq, Nat.reduceEqDiff]) (by first | rfl | exact h17 | simp only [h17, eES, eEX, Nat.reduceBEq, ↓reduceIte, reduceCtorEq, Nat.reduceEqDiff]) (by first | rfl | simp only [eES, eEX, Nat.reduceBEq, ↓reduceIte, reduceCtorEq, Nat.reduceEqDiff])
    · have hii : i = P.progs.length := by omega
      subst hii
      simp only [lt_f hli, h13, e1, eES, Nat.reduceBEq, ↓reduceIte]
      exact ⟨P.progs.length - (c + 1), by omega, _, _, c + 1, rfl, rfl, by omega, ⟨(by first | rfl | exact h1 | simp only [h1, eES, eEX, Nat.reduceBEq, ↓reduceIte, reduceCtorEq, Nat.reduceEqDiff]), (by first | rfl | exact m1 | simp only [m1, eES, eEX, Nat.reduceBEq, ↓reduceIte, reduceCtorEq, Nat.reduceEqDiff]), (by first | rfl | exact h3 | simp only [h3, eES, eEX, Nat.reduceBEq, ↓reduceIte, reduceCtorEq, Nat.reduceEqDiff]), (by first | rfl | exact m3 | simp only [m3, eES, eEX, Nat.reduceBEq, ↓reduceIte, reduceCtorEq, Nat.reduceEqDiff]), m9, (by first | rfl | exact h12 | simp only [h12, eES, eEX, Nat.reduceBEq, ↓reduceIte, reduceCtorEq, Nat.reduceEqDiff]), (by first | rfl | simp only [eES, eEX, Nat.reduceBEq, ↓reduceIte, reduceCtorEq, Nat.reduceEqDiff]), r5⟩⟩
  · have hcc : c = P.progs.length := by omega
    subst hcc
    have hBl := its_len P.progs P.progs.length
    simp only [lt_f hlt, h3, m3, eES, eEX, Nat.reduceBEq, ↓reduceIte]
    refine aops_call (z107 (its P.progs P.progs.length) (by omega)) ?_ rfl rfl (.inr rfl) ?_
    · have el : Am.look [fr] 0 9 = .vec 1 1 ((its P.progs P.progs.length).map AV.bool) := m9
      simp only [List.map_cons, List.map_nil, AV.stillL, AV.still, el, eES, Nat.reduceBEq]
      have hle : (0 + P.progs.length ≤ ((its P.progs P.progs.length).map AV.bool).length) = True := eq_true (by simp; omega)
      have ht : ((its P.progs P.progs.length).map AV.bool).take P.progs.length = (its P.progs P.progs.length).map AV.bool := List.take_of_length_le (by simp; omega)
      simp only [Bool.false_and, Bool.false_eq_true, if_false, hle, if_true, ht]
    · simp only [fin, eES, Nat.reduceBEq]

def ck (P : PL) : Int :=
  if lim P = false then 3 else if nam P = false then 8 else if ord P = false then 11 else if sin P = false then 9 else if rng P = false then 6 else if args P = false then 1 else if fin P = false then 19 else 0

theorem lim_progs {P : PL} (h : lim P = true) : P.progs.length ≤ 64 ∧ P.enums.length ≤ 64 ∧ (∀ g ∈ P.progs, g.ops.length ≤ 64) ∧ ∀ e ∈ P.enums, 1 ≤ e.items.length ∧ e.items.length ≤ 64 ∧ e.free.length ≤ 16 := by
  unfold lim at h
  simp only [Bool.and_eq_true, decide_eq_true_eq, List.all_eq_true] at h
  obtain ⟨⟨⟨h1, h2⟩, h3⟩, h4⟩ := h
  refine ⟨h1, h2, fun g hg => ?_, fun e he => ?_⟩
  · have := h3 g hg
    unfold lim1 at this
    exact of_decide_eq_true this
  · have := h4 e he
    unfold lim2 at this
    simp only [Bool.and_eq_true, decide_eq_true_eq] at this
    exact ⟨this.1.1, this.1.2, this.2⟩

theorem args_tgt {P : PL} (h : args P = true) : Tgt P := by
  intro g hg o ho hk
  unfold args at h
  simp only [Bool.and_eq_true, List.all_eq_true] at h
  have h1 := h.1 g hg
  unfold argG at h1
  simp only [Bool.and_eq_true, List.all_eq_true] at h1
  have h2 := (h1.2 o ho).1
  unfold arg1 at h2
  simp only [Bool.and_eq_true] at h2
  have h3 := h2.2
  unfold aim at h3
  rw [if_pos hk] at h3
  simp only [Bool.and_eq_true, decide_eq_true_eq] at h3
  exact ⟨h3.1.1, h3.1.2⟩

theorem z12 {M : Nat} (P : PL) (hP : P.ok M) (hM : M ≤ 17592186044000) : Fn1 Tryz.prog 12 [P.av] (.int .i64 (ck P)) := by
  have e0 : P.av = .agg [.list (P.progs.map gav), .list (P.enums.map eav)] := rfl
  have c1 := z23 P hP
  have c2 := z24 P hP hM
  have c3 := z25 P hP
  have c4 := z26 P hP
  refine fn1_of_awp (rc := r12) (rs := o12) Tryz.func12 rfl rfl Tryz.ntmps12 k12 q12 (by simp) ?_
  simp only [g12_0, g12_1, g12_2, g12_3, g12_4, g12_5, g12_6, g12_7, g12_8, g12_9, g12_10, g12_11, g12_12, g12_13, g12_14, g12_15, r12, o12, e0, ck, eES, eEX, Nat.reduceBEq, ↓reduceIte, Nat.reduceAdd, Nat.reduceLeDiff]
  refine aops_call c1 rfl rfl rfl (.inl rfl) ?_
  cases hl : lim P
  · simp only [Bool.not_false, eES, Nat.reduceBEq, ↓reduceIte]
  obtain ⟨l1, l2, l3, l4⟩ := lim_progs hl
  have c5 := z27 P hP fun e he h => by have := (l4 e he).1; rw [h] at this; simp at this
  have c6 := z28 (Nat.le_trans hM (by decide)) P hP l3
  simp only [Bool.not_true, Bool.true_eq_false, eES, eEX, Nat.reduceBEq, ↓reduceIte, Nat.reduceAdd, Nat.reduceLeDiff]
  refine aops_call c2 rfl rfl rfl (.inl rfl) ?_
  cases nam P
  · simp only [Bool.not_false, eES, Nat.reduceBEq, ↓reduceIte]
  simp only [Bool.not_true, Bool.true_eq_false, eES, eEX, Nat.reduceBEq, ↓reduceIte, Nat.reduceAdd, Nat.reduceLeDiff]
  refine aops_call c3 rfl rfl rfl (.inl rfl) ?_
  cases ord P
  · simp only [Bool.not_false, eES, Nat.reduceBEq, ↓reduceIte]
  simp only [Bool.not_true, Bool.true_eq_false, eES, eEX, Nat.reduceBEq, ↓reduceIte, Nat.reduceAdd, Nat.reduceLeDiff]
  refine aops_call c4 rfl rfl rfl (.inl rfl) ?_
  cases sin P
  · simp only [Bool.not_false, eES, Nat.reduceBEq, ↓reduceIte]
  simp only [Bool.not_true, Bool.true_eq_false, eES, eEX, Nat.reduceBEq, ↓reduceIte, Nat.reduceAdd, Nat.reduceLeDiff]
  refine aops_call c5 rfl rfl rfl (.inl rfl) ?_
  cases rng P
  · simp only [Bool.not_false, eES, Nat.reduceBEq, ↓reduceIte]
  simp only [Bool.not_true, Bool.true_eq_false, eES, eEX, Nat.reduceBEq, ↓reduceIte, Nat.reduceAdd, Nat.reduceLeDiff]
  refine aops_call c6 rfl rfl rfl (.inl rfl) ?_
  cases ha : args P
  · simp only [Bool.not_false, eES, Nat.reduceBEq, ↓reduceIte]
  have c7 := z29 P hP l1 (args_tgt ha)
  simp only [Bool.not_true, Bool.true_eq_false, eES, eEX, Nat.reduceBEq, ↓reduceIte, Nat.reduceAdd, Nat.reduceLeDiff]
  refine aops_call c7 rfl rfl rfl (.inl rfl) ?_
  cases fin P
  · simp only [Bool.not_false, eES, Nat.reduceBEq, ↓reduceIte]
  · simp only [Bool.not_true, Bool.true_eq_false, eES, Nat.reduceBEq, ↓reduceIte]

end Go.Proofs.YtelhohgmmhbahaaGreatDoor.Va

set_option linter.unusedSimpArgs false
namespace Go.Proofs.YtelhohgmmhbahaaGreatDoor.Va
open Go Am Rc Bt Br

def Pc (P : PL) : List AV := [.list (P.progs.map gav), .list (P.enums.map eav)]

theorem acc_step (b : Bool) (q : Nat → Bool) (i : Nat) : (b && allU q (i + 1)) = ((b && allU q i) && q i) := by rw [allU, Bool.and_assoc]

section
variable {M : Nat} (P : PL) (hP : P.ok M) (fr : Nat → Ob) (m1 : fr 1 = .cells (Pc P)) (f : Fr) (b : Bool) (h1 : f 1 = .ptr 0 1 0) (h3 : f 3 = .bool b) (Q : Exit → St → Prop)
include hP m1 h1 h3

theorem lims_progs (ha : f 4 = .int .i64 0) (hx : ∀ f, f 1 = .ptr 0 1 0 → f 3 = .bool (b && P.progs.all lim1) → Q (.exit 0) (⟨f, [fr], []⟩ : St)) : awp Tryz.prog (.loop l30_0) ⟨f, [fr], []⟩ Q := by
  let I : Nat → St → Prop := fun k st => ∃ f i, st = ⟨f, [fr], []⟩ ∧ k = P.progs.length - i ∧ i ≤ P.progs.length ∧ f 1 = .ptr 0 1 0 ∧ f 3 = .bool (b && (P.progs.take i).all lim1) ∧ f 4 = .int .i64 (i : Nat)
  refine awp_loop I _ ⟨f, 0, rfl, rfl, Nat.zero_le _, h1, by rw [h3]; simp, ha⟩ ?_
  clear h1 h3 ha
  simp only [Pc] at m1
  rintro _ st ⟨f, i, rfl, rfl, hi, h1, h3, ha⟩
  simp only [l30_0, g30_3, g30_5, g30_4, List.length_map, h1, m1, ha, eES, eEX, Nat.reduceBEq, ↓reduceIte, Nat.reduceAdd]
  by_cases hlt : i < P.progs.length
  · obtain ⟨x, hg⟩ : ∃ x, P.progs[i]? = some x := ⟨P.progs[i], List.getElem?_eq_getElem hlt⟩
    have hgm : (P.progs.map gav)[i]? = some (.agg x.cells) := by simp [hg, gav]
    have e1 := wi64_s i _ hlt hP.len1
    have ht := take_all (q := lim1) hg
    have e3 : decide ((x.ops.length : Int) ≤ 64) = lim1 x := by unfold lim1 ; exact (by rw [Bool.eq_iff_iff]; simp only [decide_eq_true_eq]; omega)
    have fin : ∀ f' : Fr, f' 1 = .ptr 0 1 0 → f' 3 = .bool ((b && (P.progs.take i).all lim1) && lim1 x) → f' 4 = .int .i64 ((i + 1 : Nat) : Int) → ∃ k, k < P.progs.length - i ∧ I k ⟨f', [fr], []⟩ := by
      intro f' a1 a3 a4
      exact ⟨P.progs.length - (i + 1), by omega, f', i + 1, rfl, rfl, by omega, a1, by rw [a3, ht, Bool.and_assoc], a4⟩
    simp only [PG.cells] at hgm
    cases hb : (b && (P.progs.take i).all lim1)
    · rw [hb] at fin h3
      simp only [lt_t hlt, h3, ha, e1, eES, Nat.reduceBEq, ↓reduceIte]
      exact fin _ (by first | rfl | exact h1 | simp only [h1, eES, eEX, Nat.reduceBEq, ↓reduceIte, reduceCtorEq, Nat.reduceEqDiff]) (by first | rfl | simp only [eES, eEX, Nat.reduceBEq, ↓reduceIte, reduceCtorEq, Nat.reduceEqDiff]) (by first | rfl | simp only [eES, eEX, Nat.reduceBEq, ↓reduceIte, reduceCtorEq, Nat.reduceEqDiff])
    · rw [hb, Bool.true_and] at fin
      rw [hb] at h3
      skip
      all_goals
        try rw [c1] at e3
        try rw [c2] at e3
        simp only [lt_t hlt, nneg, Int.toNat_natCast, aiaddr, hgm, List.length_map, h1, m1, h3, ha, e1, e3, eES, eEX, Nat.reduceBEq, ↓reduceIte, Nat.reduceAdd]
        exact fin _ (by first | rfl | exact h1 | simp only [h1, eES, eEX, Nat.reduceBEq, ↓reduceIte, reduceCtorEq, Nat.reduceEqDiff]) (by rw [← e3] <;> first | rfl | simp only [eES, eEX, Nat.reduceBEq, ↓reduceIte, reduceCtorEq, Nat.reduceEqDiff]) (by first | rfl | simp only [eES, eEX, Nat.reduceBEq, ↓reduceIte, reduceCtorEq, Nat.reduceEqDiff])
  · have hf : (P.progs.take i).all lim1 = P.progs.all lim1 := by rw [List.take_of_length_le (by omega)]
    rw [hf] at h3
    simp only [lt_f hlt, eES]
    exact hx _ (by first | rfl | exact h1 | simp only [h1, eES, eEX, Nat.reduceBEq, ↓reduceIte, reduceCtorEq, Nat.reduceEqDiff]) (by first | rfl | exact h3 | simp only [h3, eES, eEX, Nat.reduceBEq, ↓reduceIte, reduceCtorEq, Nat.reduceEqDiff])

theorem lims_enums (ha : f 5 = .int .i64 0) (hx : ∀ f, f 1 = .ptr 0 1 0 → f 3 = .bool (b && P.enums.all lim2) → Q (.exit 2) (⟨f, [fr], []⟩ : St)) : awp Tryz.prog (.loop l30_1) ⟨f, [fr], []⟩ Q := by
  let I : Nat → St → Prop := fun k st => ∃ f i, st = ⟨f, [fr], []⟩ ∧ k = P.enums.length - i ∧ i ≤ P.enums.length ∧ f 1 = .ptr 0 1 0 ∧ f 3 = .bool (b && (P.enums.take i).all lim2) ∧ f 5 = .int .i64 (i : Nat)
  refine awp_loop I _ ⟨f, 0, rfl, rfl, Nat.zero_le _, h1, by rw [h3]; simp, ha⟩ ?_
  clear h1 h3 ha
  simp only [Pc] at m1
  rintro _ st ⟨f, i, rfl, rfl, hi, h1, h3, ha⟩
  simp only [l30_1, g30_7, g30_9, g30_10, g30_8, List.length_map, h1, m1, ha, eES, eEX, Nat.reduceBEq, ↓reduceIte, Nat.reduceAdd]
  by_cases hlt : i < P.enums.length
  · obtain ⟨x, hg⟩ : ∃ x, P.enums[i]? = some x := ⟨P.enums[i], List.getElem?_eq_getElem hlt⟩
    have hgm : (P.enums.map eav)[i]? = some (.agg x.cells) := by simp [hg, eav]
    have e1 := wi64_s i _ hlt hP.len2
    have ht := take_all (q := lim2) hg
    have e3 : (decide ((x.items.length : Int) ≥ 1) && (decide ((x.items.length : Int) ≤ 64) && decide ((x.free.length : Int) ≤ 16))) = lim2 x := by unfold lim2 ; exact (by rw [Bool.eq_iff_iff]; simp only [decide_eq_true_eq, Bool.and_eq_true]; omega)
    have fin : ∀ f' : Fr, f' 1 = .ptr 0 1 0 → f' 3 = .bool ((b && (P.enums.take i).all lim2) && lim2 x) → f' 5 = .int .i64 ((i + 1 : Nat) : Int) → ∃ k, k < P.enums.length - i ∧ I k ⟨f', [fr], []⟩ := by
      intro f' a1 a3 a4
      exact ⟨P.enums.length - (i + 1), by omega, f', i + 1, rfl, rfl, by omega, a1, by rw [a3, ht, Bool.and_assoc], a4⟩
    simp only [PE.cells] at hgm
    cases hb : (b && (P.enums.take i).all lim2)
    · rw [hb] at fin h3
      simp only [lt_t hlt, nneg, Int.toNat_natCast, aiaddr, hgm, List.length_map, h1, m1, h3, ha, e1, eES, eEX, Nat.reduceBEq, ↓reduceIte, Nat.reduceAdd]
      exact fin _ (by first | rfl | exact h1 | simp only [h1, eES, eEX, Nat.reduceBEq, ↓reduceIte, reduceCtorEq, Nat.reduceEqDiff]) (by first | rfl | simp only [eES, eEX, Nat.reduceBEq, ↓reduceIte, reduceCtorEq, Nat.reduceEqDiff]) (by first | rfl | simp only [eES, eEX, Nat.reduceBEq, ↓reduceIte, reduceCtorEq, Nat.reduceEqDiff])
    · rw [hb, Bool.true_and] at fin
      rw [hb] at h3
      (cases c1 : decide ((x.items.length : Int) ≥ 1) <;> cases c2 : decide ((x.items.length : Int) ≤ 64))
      all_goals
        try rw [c1] at e3
        try rw [c2] at e3
        simp only [lt_t hlt, nneg, Int.toNat_natCast, aiaddr, hgm, List.length_map, h1, m1, h3, ha, e1, c1, c2, eES, eEX, Nat.reduceBEq, ↓reduceIte, Nat.reduceAdd]
        exact fin _ (by first | rfl | exact h1 | simp only [h1, eES, eEX, Nat.reduceBEq, ↓reduceIte, reduceCtorEq, Nat.reduceEqDiff]) (by rw [← e3] <;> first | rfl | simp only [eES, eEX, Nat.reduceBEq, ↓reduceIte, reduceCtorEq, Nat.reduceEqDiff]) (by first | rfl | simp only [eES, eEX, Nat.reduceBEq, ↓reduceIte, reduceCtorEq, Nat.reduceEqDiff])
  · have hf : (P.enums.take i).all lim2 = P.enums.all lim2 := by rw [List.take_of_length_le (by omega)]
    rw [hf] at h3
    simp only [lt_f hlt, eES]
    exact hx _ (by first | rfl | exact h1 | simp only [h1, eES, eEX, Nat.reduceBEq, ↓reduceIte, reduceCtorEq, Nat.reduceEqDiff]) (by first | rfl | exact h3 | simp only [h3, eES, eEX, Nat.reduceBEq, ↓reduceIte, reduceCtorEq, Nat.reduceEqDiff])

theorem nami_progs (j : Nat) (x : PG) (hj : P.progs[j]? = some x) (ha : f 4 = .int .i64 (j : Nat)) (hc : f 5 = .int .i64 0) (hx : ∀ f, f 1 = .ptr 0 1 0 → f 3 = .bool (b && x.ops.all fun o => usab o.name) → f 4 = .int .i64 (j : Nat) → Q (.exit 2) (⟨f, [fr], []⟩ : St)) : awp Tryz.prog (.loop l31_0) ⟨f, [fr], []⟩ Q := by
  let I : Nat → St → Prop := fun k st => ∃ f i, st = ⟨f, [fr], []⟩ ∧ k = x.ops.length - i ∧ i ≤ x.ops.length ∧ f 1 = .ptr 0 1 0 ∧ f 3 = .bool (b && (x.ops.take i).all fun o => usab o.name) ∧ f 4 = .int .i64 (j : Nat) ∧ f 5 = .int .i64 (i : Nat)
  have hjm : (P.progs.map gav)[j]? = some (.agg x.cells) := by simp [hj, gav]
  have hsl : x.ops.length ≤ maxLen := (hP.progs x (List.mem_of_getElem? hj)).len
  refine awp_loop I _ ⟨f, 0, rfl, rfl, Nat.zero_le _, h1, by rw [h3]; simp, ha, hc⟩ ?_
  clear h1 h3 ha hc
  simp only [Pc] at m1
  simp only [PG.cells] at hjm
  rintro _ st ⟨f, i, rfl, rfl, hi, h1, h3, ha, hc⟩
  simp only [l31_0, g31_7, g31_9, g31_8, nneg, Int.toNat_natCast, aiaddr, hjm, List.length_map, h1, m1, ha, hc, eES, eEX, Nat.reduceBEq, ↓reduceIte, Nat.reduceAdd]
  by_cases hlt : i < x.ops.length
  · obtain ⟨o, hg⟩ : ∃ o, x.ops[i]? = some o := ⟨x.ops[i], List.getElem?_eq_getElem hlt⟩
    have hgm : (x.ops.map fun o => AV.agg o.cells)[i]? = some (.agg o.cells) := by simp [hg]
    have e1 := wi64_s i _ hlt hsl
    have ht := take_all (q := fun o => usab o.name) hg
    have fin : ∀ f' : Fr, f' 1 = .ptr 0 1 0 → f' 3 = .bool ((b && (x.ops.take i).all fun o => usab o.name) && usab o.name) → f' 4 = .int .i64 (j : Nat) → f' 5 = .int .i64 ((i + 1 : Nat) : Int) → ∃ k, k < x.ops.length - i ∧ I k ⟨f', [fr], []⟩ := by
      intro f' a1 a3 a4 a5
      exact ⟨x.ops.length - (i + 1), by omega, f', i + 1, rfl, rfl, by omega, a1, by rw [a3, ht, Bool.and_assoc], a4, a5⟩
    simp only [PO.cells] at hgm
    cases hb : (b && (x.ops.take i).all fun o => usab o.name)
    · rw [hb] at fin h3
      simp only [lt_t hlt, PO.cells, h3, hc, e1, eES, Nat.reduceBEq, ↓reduceIte]
      exact fin _ (by first | rfl | exact h1 | simp only [h1, eES, eEX, Nat.reduceBEq, ↓reduceIte, reduceCtorEq, Nat.reduceEqDiff]) (by first | rfl | simp only [eES, eEX, Nat.reduceBEq, ↓reduceIte, reduceCtorEq, Nat.reduceEqDiff]) (by first | rfl | exact ha | simp only [ha, eES, eEX, Nat.reduceBEq, ↓reduceIte, reduceCtorEq, Nat.reduceEqDiff]) (by first | rfl | simp only [eES, eEX, Nat.reduceBEq, ↓reduceIte, reduceCtorEq, Nat.reduceEqDiff])
    · rw [hb, Bool.true_and] at fin
      rw [hb] at h3
      simp only [lt_t hlt, nneg, Int.toNat_natCast, aiaddr, hjm, hgm, PO.cells, h1, m1, h3, ha, hc, eES, eEX, Nat.reduceBEq, ↓reduceIte, Nat.reduceAdd]
      refine aops_call (z109 o.name) rfl rfl rfl (.inl rfl) ?_
      simp only [hc, e1, eES, Nat.reduceBEq, ↓reduceIte]
      exact fin _ (by first | rfl | exact h1 | simp only [h1, eES, eEX, Nat.reduceBEq, ↓reduceIte, reduceCtorEq, Nat.reduceEqDiff]) (by first | rfl | simp only [eES, eEX, Nat.reduceBEq, ↓reduceIte, reduceCtorEq, Nat.reduceEqDiff]) (by first | rfl | exact ha | simp only [ha, eES, eEX, Nat.reduceBEq, ↓reduceIte, reduceCtorEq, Nat.reduceEqDiff]) (by first | rfl | simp only [eES, eEX, Nat.reduceBEq, ↓reduceIte, reduceCtorEq, Nat.reduceEqDiff])
  · have hf : (x.ops.take i).all (fun o => usab o.name) = x.ops.all fun o => usab o.name := by rw [List.take_of_length_le (by omega)]
    rw [hf] at h3
    simp only [lt_f hlt, eES]
    exact hx _ (by first | rfl | exact h1 | simp only [h1, eES, eEX, Nat.reduceBEq, ↓reduceIte, reduceCtorEq, Nat.reduceEqDiff]) (by first | rfl | exact h3 | simp only [h3, eES, eEX, Nat.reduceBEq, ↓reduceIte, reduceCtorEq, Nat.reduceEqDiff]) (by first | rfl | exact ha | simp only [ha, eES, eEX, Nat.reduceBEq, ↓reduceIte, reduceCtorEq, Nat.reduceEqDiff])

theorem namo_progs (ha : f 4 = .int .i64 0) (hx : ∀ f, f 1 = .ptr 0 1 0 → f 3 = .bool (b && P.progs.all nam1) → Q (.exit 0) (⟨f, [fr], []⟩ : St)) : awp Tryz.prog (.loop l31_1) ⟨f, [fr], []⟩ Q := by
  let I : Nat → St → Prop := fun k st => ∃ f i, st = ⟨f, [fr], []⟩ ∧ k = P.progs.length - i ∧ i ≤ P.progs.length ∧ f 1 = .ptr 0 1 0 ∧ f 3 = .bool (b && (P.progs.take i).all nam1) ∧ f 4 = .int .i64 (i : Nat)
  have m1' := m1
  refine awp_loop I _ ⟨f, 0, rfl, rfl, Nat.zero_le _, h1, by rw [h3]; simp, ha⟩ ?_
  clear h1 h3 ha
  simp only [Pc] at m1
  rintro _ st ⟨f, i, rfl, rfl, hi, h1, h3, ha⟩
  simp only [l31_1, g31_3, g31_5, g31_6, g31_4, List.length_map, h1, m1, ha, eES, eEX, Nat.reduceBEq, ↓reduceIte, Nat.reduceAdd]
  by_cases hlt : i < P.progs.length
  · obtain ⟨x, hg⟩ : ∃ x, P.progs[i]? = some x := ⟨P.progs[i], List.getElem?_eq_getElem hlt⟩
    have hgm : (P.progs.map gav)[i]? = some (.agg x.cells) := by simp [hg, gav]
    have e1 := wi64_s i _ hlt hP.len1
    have ht := take_all (q := nam1) hg
    have hq : nam1 x = (full x.name && x.ops.all fun o => usab o.name) := rfl
    have fin : ∀ f' : Fr, f' 1 = .ptr 0 1 0 → f' 3 = .bool (((b && (P.progs.take i).all nam1) && full x.name) && x.ops.all fun o => usab o.name) → f' 4 = .int .i64 ((i + 1 : Nat) : Int) → ∃ k, k < P.progs.length - i ∧ I k ⟨f', [fr], []⟩ := by
      intro f' a1 a3 a4
      exact ⟨P.progs.length - (i + 1), by omega, f', i + 1, rfl, rfl, by omega, a1, by rw [a3, ht, hq, Bool.and_assoc, Bool.and_assoc], a4⟩
    simp only [PG.cells] at hgm
    cases hb : (b && (P.progs.take i).all nam1)
    · rw [hb, Bool.false_and] at fin
      rw [hb] at h3
      simp only [lt_t hlt, h3, eES, Nat.reduceBEq]
      refine nami_progs P hP fr m1' _ false (by first | rfl | exact h1 | simp only [h1, eES, eEX, Nat.reduceBEq, ↓reduceIte, reduceCtorEq, Nat.reduceEqDiff]) (by first | rfl | simp only [eES, eEX, Nat.reduceBEq, ↓reduceIte, reduceCtorEq, Nat.reduceEqDiff]) _ i x hg (by first | rfl | exact ha | simp only [ha, eES, eEX, Nat.reduceBEq, ↓reduceIte, reduceCtorEq, Nat.reduceEqDiff]) (by first | rfl | simp only [eES, eEX, Nat.reduceBEq, ↓reduceIte, reduceCtorEq, Nat.reduceEqDiff]) (fun f h1 h3 ha => ?_)
      simp only [ha, e1, eES, Nat.reduceBEq, ↓reduceIte]
      exact fin _ (by first | rfl | exact h1 | simp only [h1, eES, eEX, Nat.reduceBEq, ↓reduceIte, reduceCtorEq, Nat.reduceEqDiff]) (by first | rfl | exact h3 | simp only [h3, eES, eEX, Nat.reduceBEq, ↓reduceIte, reduceCtorEq, Nat.reduceEqDiff]) (by first | rfl | simp only [eES, eEX, Nat.reduceBEq, ↓reduceIte, reduceCtorEq, Nat.reduceEqDiff])
    · rw [hb, Bool.true_and] at fin
      rw [hb] at h3
      simp only [lt_t hlt, nneg, Int.toNat_natCast, aiaddr, hgm, h1, m1, h3, ha, eES, eEX, Nat.reduceBEq, ↓reduceIte, Nat.reduceAdd]
      refine aops_call (z108 x.name) rfl rfl rfl (.inl rfl) ?_
      simp only [eES, Nat.reduceBEq]
      refine nami_progs P hP fr m1' _ (full x.name) (by first | rfl | exact h1 | simp only [h1, eES, eEX, Nat.reduceBEq, ↓reduceIte, reduceCtorEq, Nat.reduceEqDiff]) (by first | rfl | simp only [eES, eEX, Nat.reduceBEq, ↓reduceIte, reduceCtorEq, Nat.reduceEqDiff]) _ i x hg (by first | rfl | exact ha | simp only [ha, eES, eEX, Nat.reduceBEq, ↓reduceIte, reduceCtorEq, Nat.reduceEqDiff]) (by first | rfl | simp only [eES, eEX, Nat.reduceBEq, ↓reduceIte, reduceCtorEq, Nat.reduceEqDiff]) (fun f h1 h3 ha => ?_)
      simp only [ha, e1, eES, Nat.reduceBEq, ↓reduceIte]
      exact fin _ (by first | rfl | exact h1 | simp only [h1, eES, eEX, Nat.reduceBEq, ↓reduceIte, reduceCtorEq, Nat.reduceEqDiff]) (by first | rfl | exact h3 | simp only [h3, eES, eEX, Nat.reduceBEq, ↓reduceIte, reduceCtorEq, Nat.reduceEqDiff]) (by first | rfl | simp only [eES, eEX, Nat.reduceBEq, ↓reduceIte, reduceCtorEq, Nat.reduceEqDiff])
  · have hf : (P.progs.take i).all nam1 = P.progs.all nam1 := by rw [List.take_of_length_le (by omega)]
    rw [hf] at h3
    simp only [lt_f hlt, eES]
    exact hx _ (by first | rfl | exact h1 | simp only [h1, eES, eEX, Nat.reduceBEq, ↓reduceIte, reduceCtorEq, Nat.reduceEqDiff]) (by first | rfl | exact h3 | simp only [h3, eES, eEX, Nat.reduceBEq, ↓reduceIte, reduceCtorEq, Nat.reduceEqDiff])

theorem nami_enums (j : Nat) (x : PE) (hj : P.enums[j]? = some x) (ha : f 6 = .int .i64 (j : Nat)) (hc : f 7 = .int .i64 0) (hx : ∀ f, f 1 = .ptr 0 1 0 → f 3 = .bool (b && x.items.all fun o => usab o.name) → f 6 = .int .i64 (j : Nat) → Q (.exit 6) (⟨f, [fr], []⟩ : St)) : awp Tryz.prog (.loop l31_2) ⟨f, [fr], []⟩ Q := by
  let I : Nat → St → Prop := fun k st => ∃ f i, st = ⟨f, [fr], []⟩ ∧ k = x.items.length - i ∧ i ≤ x.items.length ∧ f 1 = .ptr 0 1 0 ∧ f 3 = .bool (b && (x.items.take i).all fun o => usab o.name) ∧ f 6 = .int .i64 (j : Nat) ∧ f 7 = .int .i64 (i : Nat)
  have hjm : (P.enums.map eav)[j]? = some (.agg x.cells) := by simp [hj, eav]
  have hsl : x.items.length ≤ maxLen := (hP.enums x (List.mem_of_getElem? hj)).len1
  refine awp_loop I _ ⟨f, 0, rfl, rfl, Nat.zero_le _, h1, by rw [h3]; simp, ha, hc⟩ ?_
  clear h1 h3 ha hc
  simp only [Pc] at m1
  simp only [PE.cells] at hjm
  rintro _ st ⟨f, i, rfl, rfl, hi, h1, h3, ha, hc⟩
  simp only [l31_2, g31_15, g31_17, g31_16, nneg, Int.toNat_natCast, aiaddr, hjm, List.length_map, h1, m1, ha, hc, eES, eEX, Nat.reduceBEq, ↓reduceIte, Nat.reduceAdd]
  by_cases hlt : i < x.items.length
  · obtain ⟨o, hg⟩ : ∃ o, x.items[i]? = some o := ⟨x.items[i], List.getElem?_eq_getElem hlt⟩
    have hgm : (x.items.map fun o => AV.agg o.cells)[i]? = some (.agg o.cells) := by simp [hg]
    have e1 := wi64_s i _ hlt hsl
    have ht := take_all (q := fun o => usab o.name) hg
    have fin : ∀ f' : Fr, f' 1 = .ptr 0 1 0 → f' 3 = .bool ((b && (x.items.take i).all fun o => usab o.name) && usab o.name) → f' 6 = .int .i64 (j : Nat) → f' 7 = .int .i64 ((i + 1 : Nat) : Int) → ∃ k, k < x.items.length - i ∧ I k ⟨f', [fr], []⟩ := by
      intro f' a1 a3 a4 a5
      exact ⟨x.items.length - (i + 1), by omega, f', i + 1, rfl, rfl, by omega, a1, by rw [a3, ht, Bool.and_assoc], a4, a5⟩
    simp only [PI.cells] at hgm
    cases hb : (b && (x.items.take i).all fun o => usab o.name)
    · rw [hb] at fin h3
      simp only [lt_t hlt, PI.cells, h3, hc, e1, eES, Nat.reduceBEq, ↓reduceIte]
      exact fin _ (by first | rfl | exact h1 | simp only [h1, eES, eEX, Nat.reduceBEq, ↓reduceIte, reduceCtorEq, Nat.reduceEqDiff]) (by first | rfl | simp only [eES, eEX, Nat.reduceBEq, ↓reduceIte, reduceCtorEq, Nat.reduceEqDiff]) (by first | rfl | exact ha | simp only [ha, eES, eEX, Nat.reduceBEq, ↓reduceIte, reduceCtorEq, Nat.reduceEqDiff]) (by first | rfl | simp only [eES, eEX, Nat.reduceBEq, ↓reduceIte, reduceCtorEq, Nat.reduceEqDiff])
    · rw [hb, Bool.true_and] at fin
      rw [hb] at h3
      simp only [lt_t hlt, nneg, Int.toNat_natCast, aiaddr, hjm, hgm, PI.cells, h1, m1, h3, ha, hc, eES, eEX, Nat.reduceBEq, ↓reduceIte, Nat.reduceAdd]
      refine aops_call (z109 o.name) rfl rfl rfl (.inl rfl) ?_
      simp only [hc, e1, eES, Nat.reduceBEq, ↓reduceIte]
      exact fin _ (by first | rfl | exact h1 | simp only [h1, eES, eEX, Nat.reduceBEq, ↓reduceIte, reduceCtorEq, Nat.reduceEqDiff]) (by first | rfl | simp only [eES, eEX, Nat.reduceBEq, ↓reduceIte, reduceCtorEq, Nat.reduceEqDiff]) (by first | rfl | exact ha | simp only [ha, eES, eEX, Nat.reduceBEq, ↓reduceIte, reduceCtorEq, Nat.reduceEqDiff]) (by first | rfl | simp only [eES, eEX, Nat.reduceBEq, ↓reduceIte, reduceCtorEq, Nat.reduceEqDiff])
  · have hf : (x.items.take i).all (fun o => usab o.name) = x.items.all fun o => usab o.name := by rw [List.take_of_length_le (by omega)]
    rw [hf] at h3
    simp only [lt_f hlt, eES]
    exact hx _ (by first | rfl | exact h1 | simp only [h1, eES, eEX, Nat.reduceBEq, ↓reduceIte, reduceCtorEq, Nat.reduceEqDiff]) (by first | rfl | exact h3 | simp only [h3, eES, eEX, Nat.reduceBEq, ↓reduceIte, reduceCtorEq, Nat.reduceEqDiff]) (by first | rfl | exact ha | simp only [ha, eES, eEX, Nat.reduceBEq, ↓reduceIte, reduceCtorEq, Nat.reduceEqDiff])

theorem namo_enums (ha : f 6 = .int .i64 0) (hx : ∀ f, f 1 = .ptr 0 1 0 → f 3 = .bool (b && P.enums.all nam2) → Q (.exit 4) (⟨f, [fr], []⟩ : St)) : awp Tryz.prog (.loop l31_3) ⟨f, [fr], []⟩ Q := by
  let I : Nat → St → Prop := fun k st => ∃ f i, st = ⟨f, [fr], []⟩ ∧ k = P.enums.length - i ∧ i ≤ P.enums.length ∧ f 1 = .ptr 0 1 0 ∧ f 3 = .bool (b && (P.enums.take i).all nam2) ∧ f 6 = .int .i64 (i : Nat)
  have m1' := m1
  refine awp_loop I _ ⟨f, 0, rfl, rfl, Nat.zero_le _, h1, by rw [h3]; simp, ha⟩ ?_
  clear h1 h3 ha
  simp only [Pc] at m1
  rintro _ st ⟨f, i, rfl, rfl, hi, h1, h3, ha⟩
  simp only [l31_3, g31_11, g31_13, g31_14, g31_12, List.length_map, h1, m1, ha, eES, eEX, Nat.reduceBEq, ↓reduceIte, Nat.reduceAdd]
  by_cases hlt : i < P.enums.length
  · obtain ⟨x, hg⟩ : ∃ x, P.enums[i]? = some x := ⟨P.enums[i], List.getElem?_eq_getElem hlt⟩
    have hgm : (P.enums.map eav)[i]? = some (.agg x.cells) := by simp [hg, eav]
    have e1 := wi64_s i _ hlt hP.len2
    have ht := take_all (q := nam2) hg
    have hq : nam2 x = (full x.name && x.items.all fun o => usab o.name) := rfl
    have fin : ∀ f' : Fr, f' 1 = .ptr 0 1 0 → f' 3 = .bool (((b && (P.enums.take i).all nam2) && full x.name) && x.items.all fun o => usab o.name) → f' 6 = .int .i64 ((i + 1 : Nat) : Int) → ∃ k, k < P.enums.length - i ∧ I k ⟨f', [fr], []⟩ := by
      intro f' a1 a3 a4
      exact ⟨P.enums.length - (i + 1), by omega, f', i + 1, rfl, rfl, by omega, a1, by rw [a3, ht, hq, Bool.and_assoc, Bool.and_assoc], a4⟩
    simp only [PE.cells] at hgm
    cases hb : (b && (P.enums.take i).all nam2)
    · rw [hb, Bool.false_and] at fin
      rw [hb] at h3
      simp only [lt_t hlt, h3, eES, Nat.reduceBEq]
      refine nami_enums P hP fr m1' _ false (by first | rfl | exact h1 | simp only [h1, eES, eEX, Nat.reduceBEq, ↓reduceIte, reduceCtorEq, Nat.reduceEqDiff]) (by first | rfl | simp only [eES, eEX, Nat.reduceBEq, ↓reduceIte, reduceCtorEq, Nat.reduceEqDiff]) _ i x hg (by first | rfl | exact ha | simp only [ha, eES, eEX, Nat.reduceBEq, ↓reduceIte, reduceCtorEq, Nat.reduceEqDiff]) (by first | rfl | simp only [eES, eEX, Nat.reduceBEq, ↓reduceIte, reduceCtorEq, Nat.reduceEqDiff]) (fun f h1 h3 ha => ?_)
      simp only [ha, e1, eES, Nat.reduceBEq, ↓reduceIte]
      exact fin _ (by first | rfl | exact h1 | simp only [h1, eES, eEX, Nat.reduceBEq, ↓reduceIte, reduceCtorEq, Nat.reduceEqDiff]) (by first | rfl | exact h3 | simp only [h3, eES, eEX, Nat.reduceBEq, ↓reduceIte, reduceCtorEq, Nat.reduceEqDiff]) (by first | rfl | simp only [eES, eEX, Nat.reduceBEq, ↓reduceIte, reduceCtorEq, Nat.reduceEqDiff])
    · rw [hb, Bool.true_and] at fin
      rw [hb] at h3
      simp only [lt_t hlt, nneg, Int.toNat_natCast, aiaddr, hgm, h1, m1, h3, ha, eES, eEX, Nat.reduceBEq, ↓reduceIte, Nat.reduceAdd]
      refine aops_call (z108 x.name) rfl rfl rfl (.inl rfl) ?_
      simp only [eES, Nat.reduceBEq]
      refine nami_enums P hP fr m1' _ (full x.name) (by first | rfl | exact h1 | simp only [h1, eES, eEX, Nat.reduceBEq, ↓reduceIte, reduceCtorEq, Nat.reduceEqDiff]) (by first | rfl | simp only [eES, eEX, Nat.reduceBEq, ↓reduceIte, reduceCtorEq, Nat.reduceEqDiff]) _ i x hg (by first | rfl | exact ha | simp only [ha, eES, eEX, Nat.reduceBEq, ↓reduceIte, reduceCtorEq, Nat.reduceEqDiff]) (by first | rfl | simp only [eES, eEX, Nat.reduceBEq, ↓reduceIte, reduceCtorEq, Nat.reduceEqDiff]) (fun f h1 h3 ha => ?_)
      simp only [ha, e1, eES, Nat.reduceBEq, ↓reduceIte]
      exact fin _ (by first | rfl | exact h1 | simp only [h1, eES, eEX, Nat.reduceBEq, ↓reduceIte, reduceCtorEq, Nat.reduceEqDiff]) (by first | rfl | exact h3 | simp only [h3, eES, eEX, Nat.reduceBEq, ↓reduceIte, reduceCtorEq, Nat.reduceEqDiff]) (by first | rfl | simp only [eES, eEX, Nat.reduceBEq, ↓reduceIte, reduceCtorEq, Nat.reduceEqDiff])
  · have hf : (P.enums.take i).all nam2 = P.enums.all nam2 := by rw [List.take_of_length_le (by omega)]
    rw [hf] at h3
    simp only [lt_f hlt, eES]
    exact hx _ (by first | rfl | exact h1 | simp only [h1, eES, eEX, Nat.reduceBEq, ↓reduceIte, reduceCtorEq, Nat.reduceEqDiff]) (by first | rfl | exact h3 | simp only [h3, eES, eEX, Nat.reduceBEq, ↓reduceIte, reduceCtorEq, Nat.reduceEqDiff])

theorem ordi_progs (j : Nat) (x : PG) (hj : P.progs[j]? = some x) (ha : f 4 = .int .i64 (j : Nat)) (hc : f 5 = .int .i64 1) (hx : ∀ f, f 1 = .ptr 0 1 0 → f 3 = .bool (b && ord1 x) → f 4 = .int .i64 (j : Nat) → Q (.exit 2) (⟨f, [fr], []⟩ : St)) : awp Tryz.prog (.loop l32_0) ⟨f, [fr], []⟩ Q := by
  let I : Nat → St → Prop := fun k st => ∃ f i, st = ⟨f, [fr], []⟩ ∧ k = x.ops.length - i ∧ f 1 = .ptr 0 1 0 ∧ f 3 = .bool (b && allU (two x.ops (ordn PO.num)) (i + 1)) ∧ f 4 = .int .i64 (j : Nat) ∧ f 5 = .int .i64 ((i + 1 : Nat) : Int) ∧ (i + 1 ≤ x.ops.length ∨ i = 0)
  have hjm : (P.progs.map gav)[j]? = some (.agg x.cells) := by simp [hj, gav]
  have hsl : x.ops.length ≤ maxLen := (hP.progs x (List.mem_of_getElem? hj)).len
  refine awp_loop I _ ⟨f, 0, rfl, rfl, h1, by rw [h3]; simp [allU, two], ha, hc, .inr rfl⟩ ?_
  clear h1 h3 ha hc
  simp only [Pc] at m1
  simp only [PG.cells] at hjm
  rintro _ st ⟨f, i, rfl, rfl, h1, h3, ha, hc, hi⟩
  simp only [l32_0, g32_7, g32_9, g32_8, nneg, Int.toNat_natCast, aiaddr, hjm, List.length_map, h1, m1, ha, hc, eES, eEX, Nat.reduceBEq, ↓reduceIte, Nat.reduceAdd]
  by_cases hlt : i + 1 < x.ops.length
  · obtain ⟨o, hg⟩ : ∃ o, x.ops[i]? = some o := ⟨x.ops[i]'(by omega), List.getElem?_eq_getElem (by omega)⟩
    obtain ⟨o2, hg2⟩ : ∃ o, x.ops[i + 1]? = some o := ⟨x.ops[i + 1], List.getElem?_eq_getElem hlt⟩
    have hgm : (x.ops.map fun o => AV.agg o.cells)[i]? = some (.agg o.cells) := by simp [hg]
    have hgm2 : (x.ops.map fun o => AV.agg o.cells)[i + 1]? = some (.agg o2.cells) := by simp [hg2]
    have e1 := wi64_s (i + 1) _ hlt hsl
    have e2 := wp64 i _ hlt hsl
    have ht := acc_step b (two x.ops (ordn PO.num)) (i + 1)
    rw [two_at hg hg2] at ht
    have hq : (ordn PO.num) o o2 = decide (o.num < o2.num) := rfl
    rw [hq] at ht
    have fin : ∀ f' : Fr, f' 1 = .ptr 0 1 0 → f' 3 = .bool ((b && allU (two x.ops (ordn PO.num)) (i + 1)) && decide (o.num < o2.num)) → f' 4 = .int .i64 (j : Nat) → f' 5 = .int .i64 ((i + 1 + 1 : Nat) : Int) → ∃ k, k < x.ops.length - i ∧ I k ⟨f', [fr], []⟩ := by
      intro f' a1 a3 a4 a5
      exact ⟨x.ops.length - (i + 1), by omega, f', i + 1, rfl, rfl, a1, by rw [a3, ht], a4, a5, .inl (by omega)⟩
    simp only [PO.cells] at hgm hgm2
    cases hb : (b && allU (two x.ops (ordn PO.num)) (i + 1))
    · rw [hb] at fin h3
      simp only [lt_t hlt, PO.cells, h3, hc, e1, eES, Nat.reduceBEq, ↓reduceIte]
      exact fin _ (by first | rfl | exact h1 | simp only [h1, eES, eEX, Nat.reduceBEq, ↓reduceIte, reduceCtorEq, Nat.reduceEqDiff]) (by first | rfl | simp only [eES, eEX, Nat.reduceBEq, ↓reduceIte, reduceCtorEq, Nat.reduceEqDiff]) (by first | rfl | exact ha | simp only [ha, eES, eEX, Nat.reduceBEq, ↓reduceIte, reduceCtorEq, Nat.reduceEqDiff]) (by first | rfl | simp only [eES, eEX, Nat.reduceBEq, ↓reduceIte, reduceCtorEq, Nat.reduceEqDiff])
    · rw [hb, Bool.true_and] at fin
      rw [hb] at h3
      simp only [lt_t hlt, nneg, Int.toNat_natCast, aiaddr, hjm, hgm, hgm2, PO.cells, h1, m1, h3, ha, hc, e1, e2, eES, eEX, Nat.reduceBEq, ↓reduceIte, Nat.reduceAdd]
      exact fin _ (by first | rfl | exact h1 | simp only [h1, eES, eEX, Nat.reduceBEq, ↓reduceIte, reduceCtorEq, Nat.reduceEqDiff]) (by first | rfl | simp only [eES, eEX, Nat.reduceBEq, ↓reduceIte, reduceCtorEq, Nat.reduceEqDiff]) (by first | rfl | exact ha | simp only [ha, eES, eEX, Nat.reduceBEq, ↓reduceIte, reduceCtorEq, Nat.reduceEqDiff]) (by first | rfl | simp only [eES, eEX, Nat.reduceBEq, ↓reduceIte, reduceCtorEq, Nat.reduceEqDiff])
  · have hf : allU (two x.ops (ordn PO.num)) (i + 1) = ord1 x := by
      show _ = allU (two x.ops (ordn PO.num)) x.ops.length
      rcases hi with h | h
      · rw [show i + 1 = x.ops.length by omega]
      · subst h
        rcases Nat.eq_zero_or_pos x.ops.length with h0 | h0
        · rw [h0]; rfl
        · rw [show x.ops.length = 1 by omega]
    rw [hf] at h3
    simp only [lt_f hlt, eES]
    exact hx _ (by first | rfl | exact h1 | simp only [h1, eES, eEX, Nat.reduceBEq, ↓reduceIte, reduceCtorEq, Nat.reduceEqDiff]) (by first | rfl | exact h3 | simp only [h3, eES, eEX, Nat.reduceBEq, ↓reduceIte, reduceCtorEq, Nat.reduceEqDiff]) (by first | rfl | exact ha | simp only [ha, eES, eEX, Nat.reduceBEq, ↓reduceIte, reduceCtorEq, Nat.reduceEqDiff])

theorem ordo_progs (ha : f 4 = .int .i64 0) (hx : ∀ f, f 1 = .ptr 0 1 0 → f 3 = .bool (b && (adj P.progs (ords PG.name) && P.progs.all ord1)) → Q (.exit 0) (⟨f, [fr], []⟩ : St)) : awp Tryz.prog (.loop l32_1) ⟨f, [fr], []⟩ Q := by
  let q : Nat → Bool := fun i => two P.progs (ords PG.name) i && ask P.progs ord1 i
  let I : Nat → St → Prop := fun k st => ∃ f i, st = ⟨f, [fr], []⟩ ∧ k = P.progs.length - i ∧ i ≤ P.progs.length ∧ f 1 = .ptr 0 1 0 ∧ f 3 = .bool (b && allU q i) ∧ f 4 = .int .i64 (i : Nat)
  have m1' := m1
  have hqa : allU q P.progs.length = (adj P.progs (ords PG.name) && P.progs.all ord1) := by
    show allU (fun i => two P.progs (ords PG.name) i && ask P.progs ord1 i) _ = _
    rw [allU_and, allU_ask]; rfl
  refine awp_loop I _ ⟨f, 0, rfl, rfl, Nat.zero_le _, h1, by rw [h3]; simp [allU], ha⟩ ?_
  clear h1 h3 ha
  simp only [Pc] at m1
  rintro _ st ⟨f, i, rfl, rfl, hi, h1, h3, ha⟩
  simp only [l32_1, g32_3, g32_5, g32_6, g32_4, List.length_map, h1, m1, ha, eES, eEX, Nat.reduceBEq, ↓reduceIte, Nat.reduceAdd]
  by_cases hlt : i < P.progs.length
  · obtain ⟨x, hg⟩ : ∃ x, P.progs[i]? = some x := ⟨P.progs[i], List.getElem?_eq_getElem hlt⟩
    have hgm : (P.progs.map gav)[i]? = some (.agg x.cells) := by simp [hg, gav]
    have e1 := wi64_s i _ hlt hP.len1
    have ht := acc_step b q i
    have hq : q i = (two P.progs (ords PG.name) i && ord1 x) := by show (_ && ask P.progs ord1 i) = _; rw [ask_at hg]
    rw [hq, ← Bool.and_assoc] at ht
    have fin : ∀ f' : Fr, f' 1 = .ptr 0 1 0 → f' 3 = .bool (((b && allU q i) && two P.progs (ords PG.name) i) && ord1 x) → f' 4 = .int .i64 ((i + 1 : Nat) : Int) → ∃ k, k < P.progs.length - i ∧ I k ⟨f', [fr], []⟩ := by
      intro f' a1 a3 a4
      exact ⟨P.progs.length - (i + 1), by omega, f', i + 1, rfl, rfl, by omega, a1, by rw [a3, ht], a4⟩
    simp only [PG.cells] at hgm
    cases hb : (b && allU q i)
    · rw [hb, Bool.false_and] at fin
      rw [hb] at h3
      simp only [lt_t hlt, h3, eES, Nat.reduceBEq]
      refine ordi_progs P hP fr m1' _ false (by first | rfl | exact h1 | simp only [h1, eES, eEX, Nat.reduceBEq, ↓reduceIte, reduceCtorEq, Nat.reduceEqDiff]) (by first | rfl | simp only [eES, eEX, Nat.reduceBEq, ↓reduceIte, reduceCtorEq, Nat.reduceEqDiff]) _ i x hg (by first | rfl | exact ha | simp only [ha, eES, eEX, Nat.reduceBEq, ↓reduceIte, reduceCtorEq, Nat.reduceEqDiff]) (by first | rfl | simp only [eES, eEX, Nat.reduceBEq, ↓reduceIte, reduceCtorEq, Nat.reduceEqDiff]) (fun f h1 h3 ha => ?_)
      simp only [ha, e1, eES, Nat.reduceBEq, ↓reduceIte]
      exact fin _ (by first | rfl | exact h1 | simp only [h1, eES, eEX, Nat.reduceBEq, ↓reduceIte, reduceCtorEq, Nat.reduceEqDiff]) (by first | rfl | exact h3 | simp only [h3, eES, eEX, Nat.reduceBEq, ↓reduceIte, reduceCtorEq, Nat.reduceEqDiff]) (by first | rfl | simp only [eES, eEX, Nat.reduceBEq, ↓reduceIte, reduceCtorEq, Nat.reduceEqDiff])
    · rw [hb, Bool.true_and] at fin
      rw [hb] at h3
      cases i with
      | zero =>
        have b0 : (((0 : Nat) : Int) == 0) = true := rfl
        rw [two_zero] at fin
        simp only [lt_t hlt, b0, h3, ha, eES, Nat.reduceBEq, ↓reduceIte]
        refine ordi_progs P hP fr m1' _ true (by first | rfl | exact h1 | simp only [h1, eES, eEX, Nat.reduceBEq, ↓reduceIte, reduceCtorEq, Nat.reduceEqDiff]) (by first | rfl | simp only [eES, eEX, Nat.reduceBEq, ↓reduceIte, reduceCtorEq, Nat.reduceEqDiff]) _ 0 x hg (by first | rfl | exact ha | simp only [ha, eES, eEX, Nat.reduceBEq, ↓reduceIte, reduceCtorEq, Nat.reduceEqDiff]) (by first | rfl | simp only [eES, eEX, Nat.reduceBEq, ↓reduceIte, reduceCtorEq, Nat.reduceEqDiff]) (fun f h1 h3 ha => ?_)
        simp only [ha, e1, eES, Nat.reduceBEq, ↓reduceIte, Nat.reduceAdd]
        exact fin _ (by first | rfl | exact h1 | simp only [h1, eES, eEX, Nat.reduceBEq, ↓reduceIte, reduceCtorEq, Nat.reduceEqDiff]) (by first | rfl | exact h3 | simp only [h3, eES, eEX, Nat.reduceBEq, ↓reduceIte, reduceCtorEq, Nat.reduceEqDiff]) (by first | rfl | simp only [eES, eEX, Nat.reduceBEq, ↓reduceIte, reduceCtorEq, Nat.reduceEqDiff])
      | succ j =>
        obtain ⟨y, hgj⟩ : ∃ y, P.progs[j]? = some y := ⟨P.progs[j]'(by omega), List.getElem?_eq_getElem (by omega)⟩
        have hgjm : (P.progs.map gav)[j]? = some (.agg y.cells) := by simp [hgj, gav]
        have b0 : (((j + 1 : Nat) : Int) == 0) = false := by rw [beq_eq_false_iff_ne]; omega
        have e2 := wp64 j _ hlt hP.len1
        rw [two_at hgj hg] at fin
        have hq2 : (ords PG.name) y x = Op.bytesLess y.name x.name := rfl
        rw [hq2] at fin
        simp only [PG.cells] at hgjm
        simp only [lt_t hlt, nneg, Int.toNat_natCast, aiaddr, hgm, hgjm, b0, e2, astr, h1, m1, h3, ha, eES, eEX, Nat.reduceBEq, ↓reduceIte, Nat.reduceAdd]
        refine ordi_progs P hP fr m1' _ (Op.bytesLess y.name x.name) (by first | rfl | exact h1 | simp only [h1, eES, eEX, Nat.reduceBEq, ↓reduceIte, reduceCtorEq, Nat.reduceEqDiff]) (by first | rfl | simp only [eES, eEX, Nat.reduceBEq, ↓reduceIte, reduceCtorEq, Nat.reduceEqDiff]) _ (j + 1) x hg (by first | rfl | exact ha | simp only [ha, eES, eEX, Nat.reduceBEq, ↓reduceIte, reduceCtorEq, Nat.reduceEqDiff]) (by first | rfl | simp only [eES, eEX, Nat.reduceBEq, ↓reduceIte, reduceCtorEq, Nat.reduceEqDiff]) (fun f h1 h3 ha => ?_)
        simp only [ha, e1, eES, Nat.reduceBEq, ↓reduceIte]
        exact fin _ (by first | rfl | exact h1 | simp only [h1, eES, eEX, Nat.reduceBEq, ↓reduceIte, reduceCtorEq, Nat.reduceEqDiff]) (by first | rfl | exact h3 | simp only [h3, eES, eEX, Nat.reduceBEq, ↓reduceIte, reduceCtorEq, Nat.reduceEqDiff]) (by first | rfl | simp only [eES, eEX, Nat.reduceBEq, ↓reduceIte, reduceCtorEq, Nat.reduceEqDiff])
  · have hf : allU q i = (adj P.progs (ords PG.name) && P.progs.all ord1) := by rw [show i = P.progs.length by omega, hqa]
    rw [hf] at h3
    simp only [lt_f hlt, eES]
    exact hx _ (by first | rfl | exact h1 | simp only [h1, eES, eEX, Nat.reduceBEq, ↓reduceIte, reduceCtorEq, Nat.reduceEqDiff]) (by first | rfl | exact h3 | simp only [h3, eES, eEX, Nat.reduceBEq, ↓reduceIte, reduceCtorEq, Nat.reduceEqDiff])

theorem ordi_enums (j : Nat) (x : PE) (hj : P.enums[j]? = some x) (ha : f 6 = .int .i64 (j : Nat)) (hc : f 7 = .int .i64 1) (hx : ∀ f, f 1 = .ptr 0 1 0 → f 3 = .bool (b && ord2 x) → f 6 = .int .i64 (j : Nat) → Q (.exit 6) (⟨f, [fr], []⟩ : St)) : awp Tryz.prog (.loop l32_2) ⟨f, [fr], []⟩ Q := by
  let I : Nat → St → Prop := fun k st => ∃ f i, st = ⟨f, [fr], []⟩ ∧ k = x.items.length - i ∧ f 1 = .ptr 0 1 0 ∧ f 3 = .bool (b && allU (two x.items (ordn PI.num)) (i + 1)) ∧ f 6 = .int .i64 (j : Nat) ∧ f 7 = .int .i64 ((i + 1 : Nat) : Int) ∧ (i + 1 ≤ x.items.length ∨ i = 0)
  have hjm : (P.enums.map eav)[j]? = some (.agg x.cells) := by simp [hj, eav]
  have hsl : x.items.length ≤ maxLen := (hP.enums x (List.mem_of_getElem? hj)).len1
  refine awp_loop I _ ⟨f, 0, rfl, rfl, h1, by rw [h3]; simp [allU, two], ha, hc, .inr rfl⟩ ?_
  clear h1 h3 ha hc
  simp only [Pc] at m1
  simp only [PE.cells] at hjm
  rintro _ st ⟨f, i, rfl, rfl, h1, h3, ha, hc, hi⟩
  simp only [l32_2, g32_15, g32_17, g32_16, nneg, Int.toNat_natCast, aiaddr, hjm, List.length_map, h1, m1, ha, hc, eES, eEX, Nat.reduceBEq, ↓reduceIte, Nat.reduceAdd]
  by_cases hlt : i + 1 < x.items.length
  · obtain ⟨o, hg⟩ : ∃ o, x.items[i]? = some o := ⟨x.items[i]'(by omega), List.getElem?_eq_getElem (by omega)⟩
    obtain ⟨o2, hg2⟩ : ∃ o, x.items[i + 1]? = some o := ⟨x.items[i + 1], List.getElem?_eq_getElem hlt⟩
    have hgm : (x.items.map fun o => AV.agg o.cells)[i]? = some (.agg o.cells) := by simp [hg]
    have hgm2 : (x.items.map fun o => AV.agg o.cells)[i + 1]? = some (.agg o2.cells) := by simp [hg2]
    have e1 := wi64_s (i + 1) _ hlt hsl
    have e2 := wp64 i _ hlt hsl
    have ht := acc_step b (two x.items (ordn PI.num)) (i + 1)
    rw [two_at hg hg2] at ht
    have hq : (ordn PI.num) o o2 = decide (o.num < o2.num) := rfl
    rw [hq] at ht
    have fin : ∀ f' : Fr, f' 1 = .ptr 0 1 0 → f' 3 = .bool ((b && allU (two x.items (ordn PI.num)) (i + 1)) && decide (o.num < o2.num)) → f' 6 = .int .i64 (j : Nat) → f' 7 = .int .i64 ((i + 1 + 1 : Nat) : Int) → ∃ k, k < x.items.length - i ∧ I k ⟨f', [fr], []⟩ := by
      intro f' a1 a3 a4 a5
      exact ⟨x.items.length - (i + 1), by omega, f', i + 1, rfl, rfl, a1, by rw [a3, ht], a4, a5, .inl (by omega)⟩
    simp only [PI.cells] at hgm hgm2
    cases hb : (b && allU (two x.items (ordn PI.num)) (i + 1))
    · rw [hb] at fin h3
      simp only [lt_t hlt, PI.cells, h3, hc, e1, eES, Nat.reduceBEq, ↓reduceIte]
      exact fin _ (by first | rfl | exact h1 | simp only [h1, eES, eEX, Nat.reduceBEq, ↓reduceIte, reduceCtorEq, Nat.reduceEqDiff]) (by first | rfl | simp only [eES, eEX, Nat.reduceBEq, ↓reduceIte, reduceCtorEq, Nat.reduceEqDiff]) (by first | rfl | exact ha | simp only [ha, eES, eEX, Nat.reduceBEq, ↓reduceIte, reduceCtorEq, Nat.reduceEqDiff]) (by first | rfl | simp only [eES, eEX, Nat.reduceBEq, ↓reduceIte, reduceCtorEq, Nat.reduceEqDiff])
    · rw [hb, Bool.true_and] at fin
      rw [hb] at h3
      simp only [lt_t hlt, nneg, Int.toNat_natCast, aiaddr, hjm, hgm, hgm2, PI.cells, h1, m1, h3, ha, hc, e1, e2, eES, eEX, Nat.reduceBEq, ↓reduceIte, Nat.reduceAdd]
      exact fin _ (by first | rfl | exact h1 | simp only [h1, eES, eEX, Nat.reduceBEq, ↓reduceIte, reduceCtorEq, Nat.reduceEqDiff]) (by first | rfl | simp only [eES, eEX, Nat.reduceBEq, ↓reduceIte, reduceCtorEq, Nat.reduceEqDiff]) (by first | rfl | exact ha | simp only [ha, eES, eEX, Nat.reduceBEq, ↓reduceIte, reduceCtorEq, Nat.reduceEqDiff]) (by first | rfl | simp only [eES, eEX, Nat.reduceBEq, ↓reduceIte, reduceCtorEq, Nat.reduceEqDiff])
  · have hf : allU (two x.items (ordn PI.num)) (i + 1) = ord2 x := by
      show _ = allU (two x.items (ordn PI.num)) x.items.length
      rcases hi with h | h
      · rw [show i + 1 = x.items.length by omega]
      · subst h
        rcases Nat.eq_zero_or_pos x.items.length with h0 | h0
        · rw [h0]; rfl
        · rw [show x.items.length = 1 by omega]
    rw [hf] at h3
    simp only [lt_f hlt, eES]
    exact hx _ (by first | rfl | exact h1 | simp only [h1, eES, eEX, Nat.reduceBEq, ↓reduceIte, reduceCtorEq, Nat.reduceEqDiff]) (by first | rfl | exact h3 | simp only [h3, eES, eEX, Nat.reduceBEq, ↓reduceIte, reduceCtorEq, Nat.reduceEqDiff]) (by first | rfl | exact ha | simp only [ha, eES, eEX, Nat.reduceBEq, ↓reduceIte, reduceCtorEq, Nat.reduceEqDiff])

theorem ordo_enums (ha : f 6 = .int .i64 0) (hx : ∀ f, f 1 = .ptr 0 1 0 → f 3 = .bool (b && (adj P.enums (ords PE.name) && P.enums.all ord2)) → Q (.exit 4) (⟨f, [fr], []⟩ : St)) : awp Tryz.prog (.loop l32_3) ⟨f, [fr], []⟩ Q := by
  let q : Nat → Bool := fun i => two P.enums (ords PE.name) i && ask P.enums ord2 i
  let I : Nat → St → Prop := fun k st => ∃ f i, st = ⟨f, [fr], []⟩ ∧ k = P.enums.length - i ∧ i ≤ P.enums.length ∧ f 1 = .ptr 0 1 0 ∧ f 3 = .bool (b && allU q i) ∧ f 6 = .int .i64 (i : Nat)
  have m1' := m1
  have hqa : allU q P.enums.length = (adj P.enums (ords PE.name) && P.enums.all ord2) := by
    show allU (fun i => two P.enums (ords PE.name) i && ask P.enums ord2 i) _ = _
    rw [allU_and, allU_ask]; rfl
  refine awp_loop I _ ⟨f, 0, rfl, rfl, Nat.zero_le _, h1, by rw [h3]; simp [allU], ha⟩ ?_
  clear h1 h3 ha
  simp only [Pc] at m1
  rintro _ st ⟨f, i, rfl, rfl, hi, h1, h3, ha⟩
  simp only [l32_3, g32_11, g32_13, g32_14, g32_12, List.length_map, h1, m1, ha, eES, eEX, Nat.reduceBEq, ↓reduceIte, Nat.reduceAdd]
  by_cases hlt : i < P.enums.length
  · obtain ⟨x, hg⟩ : ∃ x, P.enums[i]? = some x := ⟨P.enums[i], List.getElem?_eq_getElem hlt⟩
    have hgm : (P.enums.map eav)[i]? = some (.agg x.cells) := by simp [hg, eav]
    have e1 := wi64_s i _ hlt hP.len2
    have ht := acc_step b q i
    have hq : q i = (two P.enums (ords PE.name) i && ord2 x) := by show (_ && ask P.enums ord2 i) = _; rw [ask_at hg]
    rw [hq, ← Bool.and_assoc] at ht
    have fin : ∀ f' : Fr, f' 1 = .ptr 0 1 0 → f' 3 = .bool (((b && allU q i) && two P.enums (ords PE.name) i) && ord2 x) → f' 6 = .int .i64 ((i + 1 : Nat) : Int) → ∃ k, k < P.enums.length - i ∧ I k ⟨f', [fr], []⟩ := by
      intro f' a1 a3 a4
      exact ⟨P.enums.length - (i + 1), by omega, f', i + 1, rfl, rfl, by omega, a1, by rw [a3, ht], a4⟩
    simp only [PE.cells] at hgm
    cases hb : (b && allU q i)
    · rw [hb, Bool.false_and] at fin
      rw [hb] at h3
      simp only [lt_t hlt, h3, eES, Nat.reduceBEq]
      refine ordi_enums P hP fr m1' _ false (by first | rfl | exact h1 | simp only [h1, eES, eEX, Nat.reduceBEq, ↓reduceIte, reduceCtorEq, Nat.reduceEqDiff]) (by first | rfl | simp only [eES, eEX, Nat.reduceBEq, ↓reduceIte, reduceCtorEq, Nat.reduceEqDiff]) _ i x hg (by first | rfl | exact ha | simp only [ha, eES, eEX, Nat.reduceBEq, ↓reduceIte, reduceCtorEq, Nat.reduceEqDiff]) (by first | rfl | simp only [eES, eEX, Nat.reduceBEq, ↓reduceIte, reduceCtorEq, Nat.reduceEqDiff]) (fun f h1 h3 ha => ?_)
      simp only [ha, e1, eES, Nat.reduceBEq, ↓reduceIte]
      exact fin _ (by first | rfl | exact h1 | simp only [h1, eES, eEX, Nat.reduceBEq, ↓reduceIte, reduceCtorEq, Nat.reduceEqDiff]) (by first | rfl | exact h3 | simp only [h3, eES, eEX, Nat.reduceBEq, ↓reduceIte, reduceCtorEq, Nat.reduceEqDiff]) (by first | rfl | simp only [eES, eEX, Nat.reduceBEq, ↓reduceIte, reduceCtorEq, Nat.reduceEqDiff])
    · rw [hb, Bool.true_and] at fin
      rw [hb] at h3
      cases i with
      | zero =>
        have b0 : (((0 : Nat) : Int) == 0) = true := rfl
        rw [two_zero] at fin
        simp only [lt_t hlt, b0, h3, ha, eES, Nat.reduceBEq, ↓reduceIte]
        refine ordi_enums P hP fr m1' _ true (by first | rfl | exact h1 | simp only [h1, eES, eEX, Nat.reduceBEq, ↓reduceIte, reduceCtorEq, Nat.reduceEqDiff]) (by first | rfl | simp only [eES, eEX, Nat.reduceBEq, ↓reduceIte, reduceCtorEq, Nat.reduceEqDiff]) _ 0 x hg (by first | rfl | exact ha | simp only [ha, eES, eEX, Nat.reduceBEq, ↓reduceIte, reduceCtorEq, Nat.reduceEqDiff]) (by first | rfl | simp only [eES, eEX, Nat.reduceBEq, ↓reduceIte, reduceCtorEq, Nat.reduceEqDiff]) (fun f h1 h3 ha => ?_)
        simp only [ha, e1, eES, Nat.reduceBEq, ↓reduceIte, Nat.reduceAdd]
        exact fin _ (by first | rfl | exact h1 | simp only [h1, eES, eEX, Nat.reduceBEq, ↓reduceIte, reduceCtorEq, Nat.reduceEqDiff]) (by first | rfl | exact h3 | simp only [h3, eES, eEX, Nat.reduceBEq, ↓reduceIte, reduceCtorEq, Nat.reduceEqDiff]) (by first | rfl | simp only [eES, eEX, Nat.reduceBEq, ↓reduceIte, reduceCtorEq, Nat.reduceEqDiff])
      | succ j =>
        obtain ⟨y, hgj⟩ : ∃ y, P.enums[j]? = some y := ⟨P.enums[j]'(by omega), List.getElem?_eq_getElem (by omega)⟩
        have hgjm : (P.enums.map eav)[j]? = some (.agg y.cells) := by simp [hgj, eav]
        have b0 : (((j + 1 : Nat) : Int) == 0) = false := by rw [beq_eq_false_iff_ne]; omega
        have e2 := wp64 j _ hlt hP.len2
        rw [two_at hgj hg] at fin
        have hq2 : (ords PE.name) y x = Op.bytesLess y.name x.name := rfl
        rw [hq2] at fin
        simp only [PE.cells] at hgjm
        simp only [lt_t hlt, nneg, Int.toNat_natCast, aiaddr, hgm, hgjm, b0, e2, astr, h1, m1, h3, ha, eES, eEX, Nat.reduceBEq, ↓reduceIte, Nat.reduceAdd]
        refine ordi_enums P hP fr m1' _ (Op.bytesLess y.name x.name) (by first | rfl | exact h1 | simp only [h1, eES, eEX, Nat.reduceBEq, ↓reduceIte, reduceCtorEq, Nat.reduceEqDiff]) (by first | rfl | simp only [eES, eEX, Nat.reduceBEq, ↓reduceIte, reduceCtorEq, Nat.reduceEqDiff]) _ (j + 1) x hg (by first | rfl | exact ha | simp only [ha, eES, eEX, Nat.reduceBEq, ↓reduceIte, reduceCtorEq, Nat.reduceEqDiff]) (by first | rfl | simp only [eES, eEX, Nat.reduceBEq, ↓reduceIte, reduceCtorEq, Nat.reduceEqDiff]) (fun f h1 h3 ha => ?_)
        simp only [ha, e1, eES, Nat.reduceBEq, ↓reduceIte]
        exact fin _ (by first | rfl | exact h1 | simp only [h1, eES, eEX, Nat.reduceBEq, ↓reduceIte, reduceCtorEq, Nat.reduceEqDiff]) (by first | rfl | exact h3 | simp only [h3, eES, eEX, Nat.reduceBEq, ↓reduceIte, reduceCtorEq, Nat.reduceEqDiff]) (by first | rfl | simp only [eES, eEX, Nat.reduceBEq, ↓reduceIte, reduceCtorEq, Nat.reduceEqDiff])
  · have hf : allU q i = (adj P.enums (ords PE.name) && P.enums.all ord2) := by rw [show i = P.enums.length by omega, hqa]
    rw [hf] at h3
    simp only [lt_f hlt, eES]
    exact hx _ (by first | rfl | exact h1 | simp only [h1, eES, eEX, Nat.reduceBEq, ↓reduceIte, reduceCtorEq, Nat.reduceEqDiff]) (by first | rfl | exact h3 | simp only [h3, eES, eEX, Nat.reduceBEq, ↓reduceIte, reduceCtorEq, Nat.reduceEqDiff])

end

section
variable {M : Nat} (P : PL) (hP : P.ok M)
include hP

theorem z30 : Fn1 Tryz.prog 30 [P.av] (.bool (lim P)) := by
  have e0 : P.av = .agg [.list (P.progs.map gav), .list (P.enums.map eav)] := rfl
  have e1 : decide ((P.progs.length : Int) ≤ 64) = decide (P.progs.length ≤ 64) := by rw [decide_eq_decide]; omega
  have e2 : decide ((P.enums.length : Int) ≤ 64) = decide (P.enums.length ≤ 64) := by rw [decide_eq_decide]; omega
  refine fn1_of_awp (rc := r30) (rs := o30) Tryz.func30 rfl rfl Tryz.ntmps30 k30 q30 (by simp) ?_
  simp only [g30_0, g30_1, g30_2, g30_6, g30_11, r30, o30, e0, List.length_map, e1, eES, eEX, Nat.reduceBEq, ↓reduceIte, Nat.reduceAdd]
  have hl : lim P = ((decide (P.progs.length ≤ 64) && decide (P.enums.length ≤ 64) && P.progs.all lim1) && P.enums.all lim2) := rfl
  cases a1 : decide (P.progs.length ≤ 64) <;> simp only [e2, List.length_map, eES, eEX, Nat.reduceBEq, ↓reduceIte, Nat.reduceAdd]
  all_goals
    refine lims_progs P hP _ (by first | rfl | simp only [eES, eEX, Nat.reduceBEq, ↓reduceIte, reduceCtorEq, Nat.reduceEqDiff]) _ _ (by first | rfl | simp only [eES, eEX, Nat.reduceBEq, ↓reduceIte, reduceCtorEq, Nat.reduceEqDiff]) (by first | rfl | simp only [eES, eEX, Nat.reduceBEq, ↓reduceIte, reduceCtorEq, Nat.reduceEqDiff]) _ (by first | rfl | simp only [eES, eEX, Nat.reduceBEq, ↓reduceIte, reduceCtorEq, Nat.reduceEqDiff]) (fun f h1 h3 => ?_)
    simp only [eES, ↓reduceIte]
    refine lims_enums P hP _ (by first | rfl | simp only [eES, eEX, Nat.reduceBEq, ↓reduceIte, reduceCtorEq, Nat.reduceEqDiff]) _ _ (by first | rfl | exact h1 | simp only [h1, eES, eEX, Nat.reduceBEq, ↓reduceIte, reduceCtorEq, Nat.reduceEqDiff]) (by first | rfl | exact h3 | simp only [h3, eES, eEX, Nat.reduceBEq, ↓reduceIte, reduceCtorEq, Nat.reduceEqDiff]) _ (by first | rfl | simp only [eES, eEX, Nat.reduceBEq, ↓reduceIte, reduceCtorEq, Nat.reduceEqDiff]) (fun f h1 h3 => ?_)
    simp only [h3, hl, a1, Bool.false_and, Bool.true_and, eES, Nat.reduceBEq, ↓reduceIte]

theorem z31 : Fn1 Tryz.prog 31 [P.av] (.bool (nam P)) := by
  have e0 : P.av = .agg [.list (P.progs.map gav), .list (P.enums.map eav)] := rfl
  refine fn1_of_awp (rc := r31) (rs := o31) Tryz.func31 rfl rfl Tryz.ntmps31 k31 q31 (by simp) ?_
  simp only [g31_0, g31_1, g31_2, g31_10, g31_18, r31, o31, e0, eES, eEX]
  refine namo_progs P hP _ (by first | rfl | simp only [eES, eEX, Nat.reduceBEq, ↓reduceIte, reduceCtorEq, Nat.reduceEqDiff]) _ true (by first | rfl | simp only [eES, eEX, Nat.reduceBEq, ↓reduceIte, reduceCtorEq, Nat.reduceEqDiff]) (by first | rfl | simp only [eES, eEX, Nat.reduceBEq, ↓reduceIte, reduceCtorEq, Nat.reduceEqDiff]) _ (by first | rfl | simp only [eES, eEX, Nat.reduceBEq, ↓reduceIte, reduceCtorEq, Nat.reduceEqDiff]) (fun f h1 h3 => ?_)
  simp only [eES, ↓reduceIte]
  refine namo_enums P hP _ (by first | rfl | simp only [eES, eEX, Nat.reduceBEq, ↓reduceIte, reduceCtorEq, Nat.reduceEqDiff]) _ _ (by first | rfl | exact h1 | simp only [h1, eES, eEX, Nat.reduceBEq, ↓reduceIte, reduceCtorEq, Nat.reduceEqDiff]) (by first | rfl | exact h3 | simp only [h3, eES, eEX, Nat.reduceBEq, ↓reduceIte, reduceCtorEq, Nat.reduceEqDiff]) _ (by first | rfl | simp only [eES, eEX, Nat.reduceBEq, ↓reduceIte, reduceCtorEq, Nat.reduceEqDiff]) (fun f h1 h3 => ?_)
  simp only [h3, nam, Bool.true_and, eES, Nat.reduceBEq, ↓reduceIte]

theorem z32 : Fn1 Tryz.prog 32 [P.av] (.bool (ord P)) := by
  have e0 : P.av = .agg [.list (P.progs.map gav), .list (P.enums.map eav)] := rfl
  have e : ord P = ((adj P.progs (ords PG.name) && P.progs.all ord1) && (adj P.enums (ords PE.name) && P.enums.all ord2)) := by
    unfold ord
    cases adj P.progs (ords PG.name) <;> cases P.progs.all ord1 <;> cases adj P.enums (ords PE.name) <;> rfl
  refine fn1_of_awp (rc := r32) (rs := o32) Tryz.func32 rfl rfl Tryz.ntmps32 k32 q32 (by simp) ?_
  simp only [g32_0, g32_1, g32_2, g32_10, g32_18, r32, o32, e0, eES, eEX]
  refine ordo_progs P hP _ (by first | rfl | simp only [eES, eEX, Nat.reduceBEq, ↓reduceIte, reduceCtorEq, Nat.reduceEqDiff]) _ true (by first | rfl | simp only [eES, eEX, Nat.reduceBEq, ↓reduceIte, reduceCtorEq, Nat.reduceEqDiff]) (by first | rfl | simp only [eES, eEX, Nat.reduceBEq, ↓reduceIte, reduceCtorEq, Nat.reduceEqDiff]) _ (by first | rfl | simp only [eES, eEX, Nat.reduceBEq, ↓reduceIte, reduceCtorEq, Nat.reduceEqDiff]) (fun f h1 h3 => ?_)
  simp only [eES, ↓reduceIte]
  refine ordo_enums P hP _ (by first | rfl | simp only [eES, eEX, Nat.reduceBEq, ↓reduceIte, reduceCtorEq, Nat.reduceEqDiff]) _ _ (by first | rfl | exact h1 | simp only [h1, eES, eEX, Nat.reduceBEq, ↓reduceIte, reduceCtorEq, Nat.reduceEqDiff]) (by first | rfl | exact h3 | simp only [h3, eES, eEX, Nat.reduceBEq, ↓reduceIte, reduceCtorEq, Nat.reduceEqDiff]) _ (by first | rfl | simp only [eES, eEX, Nat.reduceBEq, ↓reduceIte, reduceCtorEq, Nat.reduceEqDiff]) (fun f h1 h3 => ?_)
  simp only [h3, e, Bool.true_and, eES, Nat.reduceBEq, ↓reduceIte]

end

end Go.Proofs.YtelhohgmmhbahaaGreatDoor.Va

set_option linter.unusedSimpArgs false
namespace Go.Proofs.YtelhohgmmhbahaaGreatDoor.Va
open Go Am Rc Bt Br

theorem z110 (L : List PS) (hl : L.length ≤ maxLen) (n : Int) : Fn1 Tryz.prog 110 [.list (L.map spav), .int .i64 n] (.bool (kept L n)) := by
  let I : Nat → St → Prop := fun k st => ∃ f i, st = ⟨f, [noObs], []⟩ ∧ k = L.length - i ∧ kept L n = kept (L.drop i) n ∧ f 0 = .list (L.map spav) ∧ f 1 = .int .i64 n ∧ f 5 = .int .i64 (i : Nat)
  refine fn1_of_awp (rc := r110) (rs := o110) Tryz.func110 rfl rfl Tryz.ntmps110 k110 q110 (by simp) ?_
  simp only [g110_0, g110_1, g110_6, r110, o110, eES]
  refine awp_loop I _ ⟨_, 0, rfl, rfl, rfl, (by first | rfl | simp only [eES, eEX, Nat.reduceBEq, ↓reduceIte, reduceCtorEq, Nat.reduceEqDiff]), (by first | rfl | simp only [eES, eEX, Nat.reduceBEq, ↓reduceIte, reduceCtorEq, Nat.reduceEqDiff]), (by first | rfl | simp only [eES, eEX, Nat.reduceBEq, ↓reduceIte, reduceCtorEq, Nat.reduceEqDiff])⟩ ?_
  rintro _ st ⟨f, i, rfl, rfl, hx, h0, h1, h5⟩
  simp only [l110_0, g110_2, g110_4, g110_5, g110_3, List.length_map, h0, h5, eES, Nat.reduceBEq, ↓reduceIte]
  by_cases hlt : i < L.length
  · obtain ⟨x, hi⟩ : ∃ x, L[i]? = some x := ⟨L[i], List.getElem?_eq_getElem hlt⟩
    have hg : (L.map spav)[i]? = some (spav x) := by simp [hi]
    have e1 := wi64_s i _ hlt hl
    have hd : kept (L.drop i) n = ((decide (x.lo ≤ n) && decide (n ≤ x.hi)) || kept (L.drop (i + 1)) n) := by
      unfold kept
      rw [List.drop_eq_getElem_cons hlt, show L[i] = x from (List.getElem?_eq_some_iff.1 hi).2]
      rfl
    rw [hd] at hx
    simp only [lt_t hlt, nneg, Int.toNat_natCast, aiaddr, hg, spav, PS.cells, h0, h1, h5, eES, eEX, Nat.reduceBEq, ↓reduceIte, Nat.reduceAdd]
    cases a1 : decide (x.lo ≤ n)
    · rw [a1, Bool.false_and, Bool.false_or] at hx
      simp only [h5, e1, eES, Nat.reduceBEq, ↓reduceIte]
      exact ⟨L.length - (i + 1), by omega, _, i + 1, rfl, rfl, hx, (by first | rfl | exact h0 | simp only [h0, eES, eEX, Nat.reduceBEq, ↓reduceIte, reduceCtorEq, Nat.reduceEqDiff]), (by first | rfl | exact h1 | simp only [h1, eES, eEX, Nat.reduceBEq, ↓reduceIte, reduceCtorEq, Nat.reduceEqDiff]), (by first | rfl | simp only [eES, eEX, Nat.reduceBEq, ↓reduceIte, reduceCtorEq, Nat.reduceEqDiff])⟩
    · cases a2 : decide (n ≤ x.hi)
      · rw [a1, a2, Bool.and_false, Bool.false_or] at hx
        simp only [a2, nneg, Int.toNat_natCast, aiaddr, hg, spav, PS.cells, h0, h1, h5, e1, eES, eEX, Nat.reduceBEq, ↓reduceIte, Nat.reduceAdd]
        exact ⟨L.length - (i + 1), by omega, _, i + 1, rfl, rfl, hx, (by first | rfl | exact h0 | simp only [h0, eES, eEX, Nat.reduceBEq, ↓reduceIte, reduceCtorEq, Nat.reduceEqDiff]), (by first | rfl | exact h1 | simp only [h1, eES, eEX, Nat.reduceBEq, ↓reduceIte, reduceCtorEq, Nat.reduceEqDiff]), (by first | rfl | simp only [eES, eEX, Nat.reduceBEq, ↓reduceIte, reduceCtorEq, Nat.reduceEqDiff])⟩
      · rw [a1, a2, Bool.and_true, Bool.true_or] at hx
        simp only [a2, nneg, Int.toNat_natCast, aiaddr, hg, spav, PS.cells, h0, h1, h5, hx, eES, eEX, Nat.reduceBEq, ↓reduceIte, Nat.reduceAdd]
  · have hx' : kept L n = false := by rw [hx, List.drop_of_length_le (by omega)]; rfl
    simp only [lt_f hlt, hx', eES, Nat.reduceBEq, ↓reduceIte]

section
variable {M : Nat} (P : PL) (hP : P.ok M) (fr : Nat → Ob) (m1 : fr 1 = .cells (Pc P)) (f : Fr) (b : Bool) (h1 : f 1 = .ptr 0 1 0) (h3 : f 3 = .bool b) (Q : Exit → St → Prop)

include h1 h3 in
theorem sini_ops (L : List PO) (hl : L.length ≤ maxLen) (j : Nat) (x : PO) (hj : L[j]? = some x) (n : Nat) (hr : f 4 = .int .i64 (n : Nat)) (hL : f 6 = .list (L.map fun o => .agg o.cells)) (hc : f 7 = .int .i64 (j : Nat)) (hd : f 8 = .int .i64 0)
    (hx : ∀ f, f 1 = .ptr 0 1 0 → f 3 = .bool (b && (L.take j).all fun y => !(y.name == x.name)) → f 4 = .int .i64 (n : Nat) → f 6 = .list (L.map fun o => .agg o.cells) → f 7 = .int .i64 (j : Nat) → Q (.exit 6) (⟨f, [fr], []⟩ : St)) :
    awp Tryz.prog (.loop l33_1) ⟨f, [fr], []⟩ Q := by
  let I : Nat → St → Prop := fun k st => ∃ f i, st = ⟨f, [fr], []⟩ ∧ k = j - i ∧ i ≤ j ∧ f 1 = .ptr 0 1 0 ∧ f 3 = .bool (b && (L.take i).all fun y => !(y.name == x.name)) ∧ f 4 = .int .i64 (n : Nat) ∧ f 6 = .list (L.map fun o => .agg o.cells) ∧ f 7 = .int .i64 (j : Nat) ∧ f 8 = .int .i64 (i : Nat)
  have hjl : j < L.length := (List.getElem?_eq_some_iff.1 hj).1
  have hjm : (L.map fun o => AV.agg o.cells)[j]? = some (.agg x.cells) := by simp [hj]
  refine awp_loop I _ ⟨f, 0, rfl, rfl, Nat.zero_le _, h1, by rw [h3]; simp, hr, hL, hc, hd⟩ ?_
  clear h1 h3 hr hL hc hd
  simp only [PO.cells] at hjm
  rintro _ st ⟨f, i, rfl, rfl, hi, h1, h3, hr, hL, hc, hd⟩
  simp only [l33_1, g33_14, g33_16, g33_15, hc, hd, eES, Nat.reduceBEq, ↓reduceIte]
  by_cases hlt : i < j
  · obtain ⟨o, hg⟩ : ∃ o, L[i]? = some o := ⟨L[i]'(by omega), List.getElem?_eq_getElem (by omega)⟩
    have hgm : (L.map fun o => AV.agg o.cells)[i]? = some (.agg o.cells) := by simp [hg]
    have e1 := wi64_s i _ (show i < L.length by omega) hl
    have ht := take_all (q := fun y : PO => !(y.name == x.name)) hg
    have fin : ∀ f' : Fr, f' 1 = .ptr 0 1 0 → f' 3 = .bool ((b && (L.take i).all fun y => !(y.name == x.name)) && !(o.name == x.name)) → f' 4 = .int .i64 (n : Nat) → f' 6 = .list (L.map fun o => .agg o.cells) → f' 7 = .int .i64 (j : Nat) → f' 8 = .int .i64 ((i + 1 : Nat) : Int) → ∃ k, k < j - i ∧ I k ⟨f', [fr], []⟩ := by
      intro f' a1 a3 a4 a5 a6 a7
      exact ⟨j - (i + 1), by omega, f', i + 1, rfl, rfl, by omega, a1, by rw [a3, ht, Bool.and_assoc], a4, a5, a6, a7⟩
    simp only [PO.cells] at hgm
    cases hb : (b && (L.take i).all fun y => !(y.name == x.name))
    · rw [hb] at fin h3
      simp only [lt_t hlt, h3, hd, e1, eES, Nat.reduceBEq, ↓reduceIte]
      exact fin _ (by first | rfl | exact h1 | simp only [h1, eES, eEX, Nat.reduceBEq, ↓reduceIte, reduceCtorEq, Nat.reduceEqDiff]) (by first | rfl | simp only [eES, eEX, Nat.reduceBEq, ↓reduceIte, reduceCtorEq, Nat.reduceEqDiff]) (by first | rfl | exact hr | simp only [hr, eES, eEX, Nat.reduceBEq, ↓reduceIte, reduceCtorEq, Nat.reduceEqDiff]) (by first | rfl | exact hL | simp only [hL, eES, eEX, Nat.reduceBEq, ↓reduceIte, reduceCtorEq, Nat.reduceEqDiff]) (by first | rfl | exact hc | simp only [hc, eES, eEX, Nat.reduceBEq, ↓reduceIte, reduceCtorEq, Nat.reduceEqDiff]) (by first | rfl | simp only [eES, eEX, Nat.reduceBEq, ↓reduceIte, reduceCtorEq, Nat.reduceEqDiff])
    · rw [hb, Bool.true_and] at fin
      rw [hb] at h3
      simp only [lt_t hlt, nneg, Int.toNat_natCast, aiaddr, hgm, hjm, PO.cells, astr, h3, hL, hc, hd, e1, eES, eEX, Nat.reduceBEq, ↓reduceIte, Nat.reduceAdd]
      exact fin _ (by first | rfl | exact h1 | simp only [h1, eES, eEX, Nat.reduceBEq, ↓reduceIte, reduceCtorEq, Nat.reduceEqDiff]) (by first | rfl | simp only [eES, eEX, Nat.reduceBEq, ↓reduceIte, reduceCtorEq, Nat.reduceEqDiff]) (by first | rfl | exact hr | simp only [hr, eES, eEX, Nat.reduceBEq, ↓reduceIte, reduceCtorEq, Nat.reduceEqDiff]) (by first | rfl | exact hL | simp only [hL, eES, eEX, Nat.reduceBEq, ↓reduceIte, reduceCtorEq, Nat.reduceEqDiff]) (by first | rfl | exact hc | simp only [hc, eES, eEX, Nat.reduceBEq, ↓reduceIte, reduceCtorEq, Nat.reduceEqDiff]) (by first | rfl | simp only [eES, eEX, Nat.reduceBEq, ↓reduceIte, reduceCtorEq, Nat.reduceEqDiff])
  · rw [show i = j by omega] at h3
    simp only [lt_f hlt, eES]
    exact hx _ (by first | rfl | exact h1 | simp only [h1, eES, eEX, Nat.reduceBEq, ↓reduceIte, reduceCtorEq, Nat.reduceEqDiff]) (by first | rfl | exact h3 | simp only [h3, eES, eEX, Nat.reduceBEq, ↓reduceIte, reduceCtorEq, Nat.reduceEqDiff]) (by first | rfl | exact hr | simp only [hr, eES, eEX, Nat.reduceBEq, ↓reduceIte, reduceCtorEq, Nat.reduceEqDiff]) (by first | rfl | exact hL | simp only [hL, eES, eEX, Nat.reduceBEq, ↓reduceIte, reduceCtorEq, Nat.reduceEqDiff]) (by first | rfl | exact hc | simp only [hc, eES, eEX, Nat.reduceBEq, ↓reduceIte, reduceCtorEq, Nat.reduceEqDiff])

include h1 h3 in
theorem sino_ops (L : List PO) (hl : L.length ≤ maxLen) (n : Nat) (hr : f 4 = .int .i64 (n : Nat)) (hL : f 6 = .list (L.map fun o => .agg o.cells)) (hc : f 7 = .int .i64 0)
    (hx : ∀ f, f 1 = .ptr 0 1 0 → f 3 = .bool (b && once L PO.name) → f 4 = .int .i64 (n : Nat) → Q (.exit 4) (⟨f, [fr], []⟩ : St)) :
    awp Tryz.prog (.loop l33_2) ⟨f, [fr], []⟩ Q := by
  let I : Nat → St → Prop := fun k st => ∃ f i, st = ⟨f, [fr], []⟩ ∧ k = L.length - i ∧ i ≤ L.length ∧ f 1 = .ptr 0 1 0 ∧ f 3 = .bool (b && allU (uniq L PO.name) i) ∧ f 4 = .int .i64 (n : Nat) ∧ f 6 = .list (L.map fun o => .agg o.cells) ∧ f 7 = .int .i64 (i : Nat)
  refine awp_loop I _ ⟨f, 0, rfl, rfl, Nat.zero_le _, h1, by rw [h3]; simp [allU], hr, hL, hc⟩ ?_
  clear h1 h3 hr hL hc
  rintro _ st ⟨f, i, rfl, rfl, hi, h1, h3, hr, hL, hc⟩
  simp only [l33_2, g33_11, g33_13, g33_12, List.length_map, hL, hc, eES, Nat.reduceBEq, ↓reduceIte]
  by_cases hlt : i < L.length
  · obtain ⟨o, hg⟩ : ∃ o, L[i]? = some o := ⟨L[i], List.getElem?_eq_getElem hlt⟩
    have e1 := wi64_s i _ hlt hl
    have ht := acc_step b (uniq L PO.name) i
    rw [uniq_at hg] at ht
    simp only [lt_t hlt, eES]
    refine sini_ops fr _ (b && allU (uniq L PO.name) i) (by first | rfl | exact h1 | simp only [h1, eES, eEX, Nat.reduceBEq, ↓reduceIte, reduceCtorEq, Nat.reduceEqDiff]) (by first | rfl | exact h3 | simp only [h3, eES, eEX, Nat.reduceBEq, ↓reduceIte, reduceCtorEq, Nat.reduceEqDiff]) _ L hl i o hg n (by first | rfl | exact hr | simp only [hr, eES, eEX, Nat.reduceBEq, ↓reduceIte, reduceCtorEq, Nat.reduceEqDiff]) (by first | rfl | exact hL | simp only [hL, eES, eEX, Nat.reduceBEq, ↓reduceIte, reduceCtorEq, Nat.reduceEqDiff]) (by first | rfl | exact hc | simp only [hc, eES, eEX, Nat.reduceBEq, ↓reduceIte, reduceCtorEq, Nat.reduceEqDiff]) (by first | rfl | simp only [eES, eEX, Nat.reduceBEq, ↓reduceIte, reduceCtorEq, Nat.reduceEqDiff]) (fun f h1 h3 hr hL hc => ?_)
    simp only [hc, e1, eES, Nat.reduceBEq, ↓reduceIte]
    exact ⟨L.length - (i + 1), by omega, _, i + 1, rfl, rfl, by omega, (by first | rfl | exact h1 | simp only [h1, eES, eEX, Nat.reduceBEq, ↓reduceIte, reduceCtorEq, Nat.reduceEqDiff]), by rw [ht] <;> first | exact h3 | simp only [h3, eES, eEX, Nat.reduceBEq, ↓reduceIte, reduceCtorEq, Nat.reduceEqDiff], (by first | rfl | exact hr | simp only [hr, eES, eEX, Nat.reduceBEq, ↓reduceIte, reduceCtorEq, Nat.reduceEqDiff]), (by first | rfl | exact hL | simp only [hL, eES, eEX, Nat.reduceBEq, ↓reduceIte, reduceCtorEq, Nat.reduceEqDiff]), (by first | rfl | simp only [eES, eEX, Nat.reduceBEq, ↓reduceIte, reduceCtorEq, Nat.reduceEqDiff])⟩
  · rw [show i = L.length by omega] at h3
    simp only [lt_f hlt, eES]
    exact hx _ (by first | rfl | exact h1 | simp only [h1, eES, eEX, Nat.reduceBEq, ↓reduceIte, reduceCtorEq, Nat.reduceEqDiff]) (by first | rfl | exact h3 | simp only [h3, eES, eEX, Nat.reduceBEq, ↓reduceIte, reduceCtorEq, Nat.reduceEqDiff]) (by first | rfl | exact hr | simp only [hr, eES, eEX, Nat.reduceBEq, ↓reduceIte, reduceCtorEq, Nat.reduceEqDiff])

include h1 h3 in
theorem sini_items (L : List PI) (hl : L.length ≤ maxLen) (j : Nat) (x : PI) (hj : L[j]? = some x) (n : Nat) (hr : f 9 = .int .i64 (n : Nat)) (hL : f 10 = .list (L.map fun o => .agg o.cells)) (hc : f 11 = .int .i64 (j : Nat)) (hd : f 12 = .int .i64 0)
    (hx : ∀ f, f 1 = .ptr 0 1 0 → f 3 = .bool (b && (L.take j).all fun y => !(y.name == x.name)) → f 9 = .int .i64 (n : Nat) → f 10 = .list (L.map fun o => .agg o.cells) → f 11 = .int .i64 (j : Nat) → Q (.exit 12) (⟨f, [fr], []⟩ : St)) :
    awp Tryz.prog (.loop l33_4) ⟨f, [fr], []⟩ Q := by
  let I : Nat → St → Prop := fun k st => ∃ f i, st = ⟨f, [fr], []⟩ ∧ k = j - i ∧ i ≤ j ∧ f 1 = .ptr 0 1 0 ∧ f 3 = .bool (b && (L.take i).all fun y => !(y.name == x.name)) ∧ f 9 = .int .i64 (n : Nat) ∧ f 10 = .list (L.map fun o => .agg o.cells) ∧ f 11 = .int .i64 (j : Nat) ∧ f 12 = .int .i64 (i : Nat)
  have hjl : j < L.length := (List.getElem?_eq_some_iff.1 hj).1
  have hjm : (L.map fun o => AV.agg o.cells)[j]? = some (.agg x.cells) := by simp [hj]
  refine awp_loop I _ ⟨f, 0, rfl, rfl, Nat.zero_le _, h1, by rw [h3]; simp, hr, hL, hc, hd⟩ ?_
  clear h1 h3 hr hL hc hd
  simp only [PI.cells] at hjm
  rintro _ st ⟨f, i, rfl, rfl, hi, h1, h3, hr, hL, hc, hd⟩
  simp only [l33_4, g33_25, g33_27, g33_26, hc, hd, eES, Nat.reduceBEq, ↓reduceIte]
  by_cases hlt : i < j
  · obtain ⟨o, hg⟩ : ∃ o, L[i]? = some o := ⟨L[i]'(by omega), List.getElem?_eq_getElem (by omega)⟩
    have hgm : (L.map fun o => AV.agg o.cells)[i]? = some (.agg o.cells) := by simp [hg]
    have e1 := wi64_s i _ (show i < L.length by omega) hl
    have ht := take_all (q := fun y : PI => !(y.name == x.name)) hg
    have fin : ∀ f' : Fr, f' 1 = .ptr 0 1 0 → f' 3 = .bool ((b && (L.take i).all fun y => !(y.name == x.name)) && !(o.name == x.name)) → f' 9 = .int .i64 (n : Nat) → f' 10 = .list (L.map fun o => .agg o.cells) → f' 11 = .int .i64 (j : Nat) → f' 12 = .int .i64 ((i + 1 : Nat) : Int) → ∃ k, k < j - i ∧ I k ⟨f', [fr], []⟩ := by
      intro f' a1 a3 a4 a5 a6 a7
      exact ⟨j - (i + 1), by omega, f', i + 1, rfl, rfl, by omega, a1, by rw [a3, ht, Bool.and_assoc], a4, a5, a6, a7⟩
    simp only [PI.cells] at hgm
    cases hb : (b && (L.take i).all fun y => !(y.name == x.name))
    · rw [hb] at fin h3
      simp only [lt_t hlt, h3, hd, e1, eES, Nat.reduceBEq, ↓reduceIte]
      exact fin _ (by first | rfl | exact h1 | simp only [h1, eES, eEX, Nat.reduceBEq, ↓reduceIte, reduceCtorEq, Nat.reduceEqDiff]) (by first | rfl | simp only [eES, eEX, Nat.reduceBEq, ↓reduceIte, reduceCtorEq, Nat.reduceEqDiff]) (by first | rfl | exact hr | simp only [hr, eES, eEX, Nat.reduceBEq, ↓reduceIte, reduceCtorEq, Nat.reduceEqDiff]) (by first | rfl | exact hL | simp only [hL, eES, eEX, Nat.reduceBEq, ↓reduceIte, reduceCtorEq, Nat.reduceEqDiff]) (by first | rfl | exact hc | simp only [hc, eES, eEX, Nat.reduceBEq, ↓reduceIte, reduceCtorEq, Nat.reduceEqDiff]) (by first | rfl | simp only [eES, eEX, Nat.reduceBEq, ↓reduceIte, reduceCtorEq, Nat.reduceEqDiff])
    · rw [hb, Bool.true_and] at fin
      rw [hb] at h3
      simp only [lt_t hlt, nneg, Int.toNat_natCast, aiaddr, hgm, hjm, PI.cells, astr, h3, hL, hc, hd, e1, eES, eEX, Nat.reduceBEq, ↓reduceIte, Nat.reduceAdd]
      exact fin _ (by first | rfl | exact h1 | simp only [h1, eES, eEX, Nat.reduceBEq, ↓reduceIte, reduceCtorEq, Nat.reduceEqDiff]) (by first | rfl | simp only [eES, eEX, Nat.reduceBEq, ↓reduceIte, reduceCtorEq, Nat.reduceEqDiff]) (by first | rfl | exact hr | simp only [hr, eES, eEX, Nat.reduceBEq, ↓reduceIte, reduceCtorEq, Nat.reduceEqDiff]) (by first | rfl | exact hL | simp only [hL, eES, eEX, Nat.reduceBEq, ↓reduceIte, reduceCtorEq, Nat.reduceEqDiff]) (by first | rfl | exact hc | simp only [hc, eES, eEX, Nat.reduceBEq, ↓reduceIte, reduceCtorEq, Nat.reduceEqDiff]) (by first | rfl | simp only [eES, eEX, Nat.reduceBEq, ↓reduceIte, reduceCtorEq, Nat.reduceEqDiff])
  · rw [show i = j by omega] at h3
    simp only [lt_f hlt, eES]
    exact hx _ (by first | rfl | exact h1 | simp only [h1, eES, eEX, Nat.reduceBEq, ↓reduceIte, reduceCtorEq, Nat.reduceEqDiff]) (by first | rfl | exact h3 | simp only [h3, eES, eEX, Nat.reduceBEq, ↓reduceIte, reduceCtorEq, Nat.reduceEqDiff]) (by first | rfl | exact hr | simp only [hr, eES, eEX, Nat.reduceBEq, ↓reduceIte, reduceCtorEq, Nat.reduceEqDiff]) (by first | rfl | exact hL | simp only [hL, eES, eEX, Nat.reduceBEq, ↓reduceIte, reduceCtorEq, Nat.reduceEqDiff]) (by first | rfl | exact hc | simp only [hc, eES, eEX, Nat.reduceBEq, ↓reduceIte, reduceCtorEq, Nat.reduceEqDiff])

include h1 h3 in
theorem sino_items (L : List PI) (hl : L.length ≤ maxLen) (n : Nat) (hr : f 9 = .int .i64 (n : Nat)) (hL : f 10 = .list (L.map fun o => .agg o.cells)) (hc : f 11 = .int .i64 0)
    (hx : ∀ f, f 1 = .ptr 0 1 0 → f 3 = .bool (b && once L PI.name) → f 9 = .int .i64 (n : Nat) → Q (.exit 10) (⟨f, [fr], []⟩ : St)) :
    awp Tryz.prog (.loop l33_5) ⟨f, [fr], []⟩ Q := by
  let I : Nat → St → Prop := fun k st => ∃ f i, st = ⟨f, [fr], []⟩ ∧ k = L.length - i ∧ i ≤ L.length ∧ f 1 = .ptr 0 1 0 ∧ f 3 = .bool (b && allU (uniq L PI.name) i) ∧ f 9 = .int .i64 (n : Nat) ∧ f 10 = .list (L.map fun o => .agg o.cells) ∧ f 11 = .int .i64 (i : Nat)
  refine awp_loop I _ ⟨f, 0, rfl, rfl, Nat.zero_le _, h1, by rw [h3]; simp [allU], hr, hL, hc⟩ ?_
  clear h1 h3 hr hL hc
  rintro _ st ⟨f, i, rfl, rfl, hi, h1, h3, hr, hL, hc⟩
  simp only [l33_5, g33_22, g33_24, g33_23, List.length_map, hL, hc, eES, Nat.reduceBEq, ↓reduceIte]
  by_cases hlt : i < L.length
  · obtain ⟨o, hg⟩ : ∃ o, L[i]? = some o := ⟨L[i], List.getElem?_eq_getElem hlt⟩
    have e1 := wi64_s i _ hlt hl
    have ht := acc_step b (uniq L PI.name) i
    rw [uniq_at hg] at ht
    simp only [lt_t hlt, eES]
    refine sini_items fr _ (b && allU (uniq L PI.name) i) (by first | rfl | exact h1 | simp only [h1, eES, eEX, Nat.reduceBEq, ↓reduceIte, reduceCtorEq, Nat.reduceEqDiff]) (by first | rfl | exact h3 | simp only [h3, eES, eEX, Nat.reduceBEq, ↓reduceIte, reduceCtorEq, Nat.reduceEqDiff]) _ L hl i o hg n (by first | rfl | exact hr | simp only [hr, eES, eEX, Nat.reduceBEq, ↓reduceIte, reduceCtorEq, Nat.reduceEqDiff]) (by first | rfl | exact hL | simp only [hL, eES, eEX, Nat.reduceBEq, ↓reduceIte, reduceCtorEq, Nat.reduceEqDiff]) (by first | rfl | exact hc | simp only [hc, eES, eEX, Nat.reduceBEq, ↓reduceIte, reduceCtorEq, Nat.reduceEqDiff]) (by first | rfl | simp only [eES, eEX, Nat.reduceBEq, ↓reduceIte, reduceCtorEq, Nat.reduceEqDiff]) (fun f h1 h3 hr hL hc => ?_)
    simp only [hc, e1, eES, Nat.reduceBEq, ↓reduceIte]
    exact ⟨L.length - (i + 1), by omega, _, i + 1, rfl, rfl, by omega, (by first | rfl | exact h1 | simp only [h1, eES, eEX, Nat.reduceBEq, ↓reduceIte, reduceCtorEq, Nat.reduceEqDiff]), by rw [ht] <;> first | exact h3 | simp only [h3, eES, eEX, Nat.reduceBEq, ↓reduceIte, reduceCtorEq, Nat.reduceEqDiff], (by first | rfl | exact hr | simp only [hr, eES, eEX, Nat.reduceBEq, ↓reduceIte, reduceCtorEq, Nat.reduceEqDiff]), (by first | rfl | exact hL | simp only [hL, eES, eEX, Nat.reduceBEq, ↓reduceIte, reduceCtorEq, Nat.reduceEqDiff]), (by first | rfl | simp only [eES, eEX, Nat.reduceBEq, ↓reduceIte, reduceCtorEq, Nat.reduceEqDiff])⟩
  · rw [show i = L.length by omega] at h3
    simp only [lt_f hlt, eES]
    exact hx _ (by first | rfl | exact h1 | simp only [h1, eES, eEX, Nat.reduceBEq, ↓reduceIte, reduceCtorEq, Nat.reduceEqDiff]) (by first | rfl | exact h3 | simp only [h3, eES, eEX, Nat.reduceBEq, ↓reduceIte, reduceCtorEq, Nat.reduceEqDiff]) (by first | rfl | exact hr | simp only [hr, eES, eEX, Nat.reduceBEq, ↓reduceIte, reduceCtorEq, Nat.reduceEqDiff])

include hP m1 h1 h3

theorem sinp (j : Nat) (x : PG) (hj : P.progs[j]? = some x) (ha : f 4 = .int .i64 (j : Nat)) (hc : f 5 = .int .i64 0) (hx : ∀ f, f 1 = .ptr 0 1 0 → f 3 = .bool (b && P.enums.all fun e => !(e.name == x.name)) → f 4 = .int .i64 (j : Nat) → Q (.exit 2) (⟨f, [fr], []⟩ : St)) : awp Tryz.prog (.loop l33_0) ⟨f, [fr], []⟩ Q := by
  let I : Nat → St → Prop := fun k st => ∃ f i, st = ⟨f, [fr], []⟩ ∧ k = P.enums.length - i ∧ i ≤ P.enums.length ∧ f 1 = .ptr 0 1 0 ∧ f 3 = .bool (b && (P.enums.take i).all fun e => !(e.name == x.name)) ∧ f 4 = .int .i64 (j : Nat) ∧ f 5 = .int .i64 (i : Nat)
  have hjm : (P.progs.map gav)[j]? = some (.agg x.cells) := by simp [hj, gav]
  refine awp_loop I _ ⟨f, 0, rfl, rfl, Nat.zero_le _, h1, by rw [h3]; simp, ha, hc⟩ ?_
  clear h1 h3 ha hc
  simp only [Pc] at m1
  simp only [PG.cells] at hjm
  rintro _ st ⟨f, i, rfl, rfl, hi, h1, h3, ha, hc⟩
  simp only [l33_0, g33_6, g33_8, g33_7, List.length_map, h1, m1, hc, eES, eEX, Nat.reduceBEq, ↓reduceIte, Nat.reduceAdd]
  by_cases hlt : i < P.enums.length
  · obtain ⟨o, hg⟩ : ∃ o, P.enums[i]? = some o := ⟨P.enums[i], List.getElem?_eq_getElem hlt⟩
    have hgm : (P.enums.map eav)[i]? = some (.agg o.cells) := by simp [hg, eav]
    have e1 := wi64_s i _ hlt hP.len2
    have ht := take_all (q := fun y : PE => !(y.name == x.name)) hg
    have hcm : (x.name == o.name) = (o.name == x.name) := by rw [Bool.eq_iff_iff, beq_iff_eq, beq_iff_eq]; exact ⟨Eq.symm, Eq.symm⟩
    have fin : ∀ f' : Fr, f' 1 = .ptr 0 1 0 → f' 3 = .bool ((b && (P.enums.take i).all fun y => !(y.name == x.name)) && !(o.name == x.name)) → f' 4 = .int .i64 (j : Nat) → f' 5 = .int .i64 ((i + 1 : Nat) : Int) → ∃ k, k < P.enums.length - i ∧ I k ⟨f', [fr], []⟩ := by
      intro f' a1 a3 a4 a5
      exact ⟨P.enums.length - (i + 1), by omega, f', i + 1, rfl, rfl, by omega, a1, by rw [a3, ht, Bool.and_assoc], a4, a5⟩
    simp only [PE.cells] at hgm
    cases hb : (b && (P.enums.take i).all fun y => !(y.name == x.name))
    · rw [hb] at fin h3
      simp only [lt_t hlt, h3, hc, e1, eES, Nat.reduceBEq, ↓reduceIte]
      exact fin _ (by first | rfl | exact h1 | simp only [h1, eES, eEX, Nat.reduceBEq, ↓reduceIte, reduceCtorEq, Nat.reduceEqDiff]) (by first | rfl | simp only [eES, eEX, Nat.reduceBEq, ↓reduceIte, reduceCtorEq, Nat.reduceEqDiff]) (by first | rfl | exact ha | simp only [ha, eES, eEX, Nat.reduceBEq, ↓reduceIte, reduceCtorEq, Nat.reduceEqDiff]) (by first | rfl | simp only [eES, eEX, Nat.reduceBEq, ↓reduceIte, reduceCtorEq, Nat.reduceEqDiff])
    · rw [hb, Bool.true_and] at fin
      rw [hb] at h3
      simp only [lt_t hlt, nneg, Int.toNat_natCast, aiaddr, hjm, hgm, astr, hcm, h1, m1, h3, ha, hc, e1, eES, eEX, Nat.reduceBEq, ↓reduceIte, Nat.reduceAdd]
      exact fin _ (by first | rfl | exact h1 | simp only [h1, eES, eEX, Nat.reduceBEq, ↓reduceIte, reduceCtorEq, Nat.reduceEqDiff]) (by first | rfl | simp only [eES, eEX, Nat.reduceBEq, ↓reduceIte, reduceCtorEq, Nat.reduceEqDiff]) (by first | rfl | exact ha | simp only [ha, eES, eEX, Nat.reduceBEq, ↓reduceIte, reduceCtorEq, Nat.reduceEqDiff]) (by first | rfl | simp only [eES, eEX, Nat.reduceBEq, ↓reduceIte, reduceCtorEq, Nat.reduceEqDiff])
  · have hf : (P.enums.take i).all (fun e => !(e.name == x.name)) = P.enums.all fun e => !(e.name == x.name) := by rw [List.take_of_length_le (by omega)]
    rw [hf] at h3
    simp only [lt_f hlt, eES]
    exact hx _ (by first | rfl | exact h1 | simp only [h1, eES, eEX, Nat.reduceBEq, ↓reduceIte, reduceCtorEq, Nat.reduceEqDiff]) (by first | rfl | exact h3 | simp only [h3, eES, eEX, Nat.reduceBEq, ↓reduceIte, reduceCtorEq, Nat.reduceEqDiff]) (by first | rfl | exact ha | simp only [ha, eES, eEX, Nat.reduceBEq, ↓reduceIte, reduceCtorEq, Nat.reduceEqDiff])

theorem sinP (ha : f 4 = .int .i64 0) (hx : ∀ f, f 1 = .ptr 0 1 0 → f 3 = .bool (b && P.progs.all (sin1 P)) → Q (.exit 0) (⟨f, [fr], []⟩ : St)) : awp Tryz.prog (.loop l33_3) ⟨f, [fr], []⟩ Q := by
  let I : Nat → St → Prop := fun k st => ∃ f i, st = ⟨f, [fr], []⟩ ∧ k = P.progs.length - i ∧ i ≤ P.progs.length ∧ f 1 = .ptr 0 1 0 ∧ f 3 = .bool (b && (P.progs.take i).all (sin1 P)) ∧ f 4 = .int .i64 (i : Nat)
  have m1' := m1
  refine awp_loop I _ ⟨f, 0, rfl, rfl, Nat.zero_le _, h1, by rw [h3]; simp, ha⟩ ?_
  clear h1 h3 ha
  simp only [Pc] at m1
  rintro _ st ⟨f, i, rfl, rfl, hi, h1, h3, ha⟩
  simp only [l33_3, g33_3, g33_5, g33_9, g33_10, g33_4, List.length_map, h1, m1, ha, eES, eEX, Nat.reduceBEq, ↓reduceIte, Nat.reduceAdd]
  by_cases hlt : i < P.progs.length
  · obtain ⟨x, hg⟩ : ∃ x, P.progs[i]? = some x := ⟨P.progs[i], List.getElem?_eq_getElem hlt⟩
    have hgm : (P.progs.map gav)[i]? = some (.agg x.cells) := by simp [hg, gav]
    have e1 := wi64_s i _ hlt hP.len1
    have ht := take_all (q := sin1 P) hg
    have hq : sin1 P x = ((P.enums.all fun e => !(e.name == x.name)) && once x.ops PO.name) := rfl
    simp only [PG.cells] at hgm
    simp only [lt_t hlt, eES]
    refine sinp P hP fr m1' _ (b && (P.progs.take i).all (sin1 P)) (by first | rfl | exact h1 | simp only [h1, eES, eEX, Nat.reduceBEq, ↓reduceIte, reduceCtorEq, Nat.reduceEqDiff]) (by first | rfl | exact h3 | simp only [h3, eES, eEX, Nat.reduceBEq, ↓reduceIte, reduceCtorEq, Nat.reduceEqDiff]) _ i x hg (by first | rfl | exact ha | simp only [ha, eES, eEX, Nat.reduceBEq, ↓reduceIte, reduceCtorEq, Nat.reduceEqDiff]) (by first | rfl | simp only [eES, eEX, Nat.reduceBEq, ↓reduceIte, reduceCtorEq, Nat.reduceEqDiff]) (fun f h1 h3 ha => ?_)
    simp only [nneg, Int.toNat_natCast, aiaddr, hgm, h1, m1, ha, eES, eEX, Nat.reduceBEq, ↓reduceIte, Nat.reduceAdd]
    refine sino_ops fr _ _ (by first | rfl | exact h1 | simp only [h1, eES, eEX, Nat.reduceBEq, ↓reduceIte, reduceCtorEq, Nat.reduceEqDiff]) (by first | rfl | exact h3 | simp only [h3, eES, eEX, Nat.reduceBEq, ↓reduceIte, reduceCtorEq, Nat.reduceEqDiff]) _ x.ops (hP.progs x (List.mem_of_getElem? hg)).len i (by first | rfl | exact ha | simp only [ha, eES, eEX, Nat.reduceBEq, ↓reduceIte, reduceCtorEq, Nat.reduceEqDiff]) (by first | rfl | simp only [eES, eEX, Nat.reduceBEq, ↓reduceIte, reduceCtorEq, Nat.reduceEqDiff]) (by first | rfl | simp only [eES, eEX, Nat.reduceBEq, ↓reduceIte, reduceCtorEq, Nat.reduceEqDiff]) (fun f h1 h3 ha => ?_)
    simp only [ha, e1, eES, Nat.reduceBEq, ↓reduceIte]
    exact ⟨P.progs.length - (i + 1), by omega, _, i + 1, rfl, rfl, by omega, (by first | rfl | exact h1 | simp only [h1, eES, eEX, Nat.reduceBEq, ↓reduceIte, reduceCtorEq, Nat.reduceEqDiff]), by rw [ht, hq, ← Bool.and_assoc, ← Bool.and_assoc] <;> first | exact h3 | simp only [h3, eES, eEX, Nat.reduceBEq, ↓reduceIte, reduceCtorEq, Nat.reduceEqDiff], (by first | rfl | simp only [eES, eEX, Nat.reduceBEq, ↓reduceIte, reduceCtorEq, Nat.reduceEqDiff])⟩
  · have hf : (P.progs.take i).all (sin1 P) = P.progs.all (sin1 P) := by rw [List.take_of_length_le (by omega)]
    rw [hf] at h3
    simp only [lt_f hlt, eES]
    exact hx _ (by first | rfl | exact h1 | simp only [h1, eES, eEX, Nat.reduceBEq, ↓reduceIte, reduceCtorEq, Nat.reduceEqDiff]) (by first | rfl | exact h3 | simp only [h3, eES, eEX, Nat.reduceBEq, ↓reduceIte, reduceCtorEq, Nat.reduceEqDiff])

theorem sinE (ha : f 9 = .int .i64 0) (hx : ∀ f, f 1 = .ptr 0 1 0 → f 3 = .bool (b && P.enums.all sin2) → Q (.exit 8) (⟨f, [fr], []⟩ : St)) : awp Tryz.prog (.loop l33_6) ⟨f, [fr], []⟩ Q := by
  let I : Nat → St → Prop := fun k st => ∃ f i, st = ⟨f, [fr], []⟩ ∧ k = P.enums.length - i ∧ i ≤ P.enums.length ∧ f 1 = .ptr 0 1 0 ∧ f 3 = .bool (b && (P.enums.take i).all sin2) ∧ f 9 = .int .i64 (i : Nat)
  refine awp_loop I _ ⟨f, 0, rfl, rfl, Nat.zero_le _, h1, by rw [h3]; simp, ha⟩ ?_
  clear h1 h3 ha
  simp only [Pc] at m1
  rintro _ st ⟨f, i, rfl, rfl, hi, h1, h3, ha⟩
  simp only [l33_6, g33_18, g33_20, g33_21, g33_19, List.length_map, h1, m1, ha, eES, eEX, Nat.reduceBEq, ↓reduceIte, Nat.reduceAdd]
  by_cases hlt : i < P.enums.length
  · obtain ⟨x, hg⟩ : ∃ x, P.enums[i]? = some x := ⟨P.enums[i], List.getElem?_eq_getElem hlt⟩
    have hgm : (P.enums.map eav)[i]? = some (.agg x.cells) := by simp [hg, eav]
    have e1 := wi64_s i _ hlt hP.len2
    have ht := take_all (q := sin2) hg
    have hq : sin2 x = once x.items PI.name := rfl
    simp only [PE.cells] at hgm
    simp only [lt_t hlt, nneg, Int.toNat_natCast, aiaddr, hgm, h1, m1, ha, eES, eEX, Nat.reduceBEq, ↓reduceIte, Nat.reduceAdd]
    refine sino_items fr _ (b && (P.enums.take i).all sin2) (by first | rfl | exact h1 | simp only [h1, eES, eEX, Nat.reduceBEq, ↓reduceIte, reduceCtorEq, Nat.reduceEqDiff]) (by first | rfl | exact h3 | simp only [h3, eES, eEX, Nat.reduceBEq, ↓reduceIte, reduceCtorEq, Nat.reduceEqDiff]) _ x.items (hP.enums x (List.mem_of_getElem? hg)).len1 i (by first | rfl | exact ha | simp only [ha, eES, eEX, Nat.reduceBEq, ↓reduceIte, reduceCtorEq, Nat.reduceEqDiff]) (by first | rfl | simp only [eES, eEX, Nat.reduceBEq, ↓reduceIte, reduceCtorEq, Nat.reduceEqDiff]) (by first | rfl | simp only [eES, eEX, Nat.reduceBEq, ↓reduceIte, reduceCtorEq, Nat.reduceEqDiff]) (fun f h1 h3 ha => ?_)
    simp only [ha, e1, eES, Nat.reduceBEq, ↓reduceIte]
    exact ⟨P.enums.length - (i + 1), by omega, _, i + 1, rfl, rfl, by omega, (by first | rfl | exact h1 | simp only [h1, eES, eEX, Nat.reduceBEq, ↓reduceIte, reduceCtorEq, Nat.reduceEqDiff]), by rw [ht, hq, ← Bool.and_assoc] <;> first | exact h3 | simp only [h3, eES, eEX, Nat.reduceBEq, ↓reduceIte, reduceCtorEq, Nat.reduceEqDiff], (by first | rfl | simp only [eES, eEX, Nat.reduceBEq, ↓reduceIte, reduceCtorEq, Nat.reduceEqDiff])⟩
  · have hf : (P.enums.take i).all sin2 = P.enums.all sin2 := by rw [List.take_of_length_le (by omega)]
    rw [hf] at h3
    simp only [lt_f hlt, eES]
    exact hx _ (by first | rfl | exact h1 | simp only [h1, eES, eEX, Nat.reduceBEq, ↓reduceIte, reduceCtorEq, Nat.reduceEqDiff]) (by first | rfl | exact h3 | simp only [h3, eES, eEX, Nat.reduceBEq, ↓reduceIte, reduceCtorEq, Nat.reduceEqDiff])

end

theorem z33 {M : Nat} (P : PL) (hP : P.ok M) : Fn1 Tryz.prog 33 [P.av] (.bool (sin P)) := by
  have e0 : P.av = .agg [.list (P.progs.map gav), .list (P.enums.map eav)] := rfl
  refine fn1_of_awp (rc := r33) (rs := o33) Tryz.func33 rfl rfl Tryz.ntmps33 k33 q33 (by simp) ?_
  simp only [g33_0, g33_1, g33_2, g33_17, g33_28, r33, o33, e0, eES, eEX]
  refine sinP P hP _ (by first | rfl | simp only [eES, eEX, Nat.reduceBEq, ↓reduceIte, reduceCtorEq, Nat.reduceEqDiff]) _ true (by first | rfl | simp only [eES, eEX, Nat.reduceBEq, ↓reduceIte, reduceCtorEq, Nat.reduceEqDiff]) (by first | rfl | simp only [eES, eEX, Nat.reduceBEq, ↓reduceIte, reduceCtorEq, Nat.reduceEqDiff]) _ (by first | rfl | simp only [eES, eEX, Nat.reduceBEq, ↓reduceIte, reduceCtorEq, Nat.reduceEqDiff]) (fun f h1 h3 => ?_)
  simp only [eES, ↓reduceIte]
  refine sinE P hP _ (by first | rfl | simp only [eES, eEX, Nat.reduceBEq, ↓reduceIte, reduceCtorEq, Nat.reduceEqDiff]) _ _ (by first | rfl | exact h1 | simp only [h1, eES, eEX, Nat.reduceBEq, ↓reduceIte, reduceCtorEq, Nat.reduceEqDiff]) (by first | rfl | exact h3 | simp only [h3, eES, eEX, Nat.reduceBEq, ↓reduceIte, reduceCtorEq, Nat.reduceEqDiff]) _ (by first | rfl | simp only [eES, eEX, Nat.reduceBEq, ↓reduceIte, reduceCtorEq, Nat.reduceEqDiff]) (fun f h1 h3 => ?_)
  simp only [h3, sin, Bool.true_and, eES, Nat.reduceBEq, ↓reduceIte]

end Go.Proofs.YtelhohgmmhbahaaGreatDoor.Va

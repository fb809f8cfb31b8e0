/- Parts of the proof, in order. -/
import Derived.Test.YtdgbidbkcigkhaaGreatDoorMRowreadNeeds2

set_option linter.unusedSimpArgs false
namespace Go.Proofs.YtdgbidbkcigkhaaGreatDoor.Va
open Go Am Rc Bt Br

def sml (c : UInt8) : Bool := decide (97 ≤ c.toNat) && decide (c.toNat ≤ 122)
def cpt (c : UInt8) : Bool := decide (65 ≤ c.toNat) && decide (c.toNat ≤ 90)

theorem z133 (c : UInt8) : Fn1 Tryz.prog 133 [.int .u8 (c.toNat : Nat)] (.bool (sml c)) := by
  refine wF Tryz.func133 ?_; simp only [eK, Tryz.f133, seval]
  have e1 : decide ((c.toNat : Int) ≥ 97) = decide (97 ≤ c.toNat) := by rw [decide_eq_decide]; omega
  have e2 : decide ((c.toNat : Int) ≤ 122) = decide (c.toNat ≤ 122) := by rw [decide_eq_decide]; omega
  simp only [e1, e2, sml, eES, eEX, seval]
  cases h : decide (97 ≤ c.toNat) <;> simp only [h, e2, Bool.true_and, Bool.false_and, eES, eEX, seval]

theorem z134 (c : UInt8) : Fn1 Tryz.prog 134 [.int .u8 (c.toNat : Nat)] (.bool (cpt c)) := by
  refine wF Tryz.func134 ?_; simp only [eK, Tryz.f134, seval]
  have e1 : decide ((c.toNat : Int) ≥ 65) = decide (65 ≤ c.toNat) := by rw [decide_eq_decide]; omega
  have e2 : decide ((c.toNat : Int) ≤ 90) = decide (c.toNat ≤ 90) := by rw [decide_eq_decide]; omega
  simp only [e1, e2, cpt, eES, eEX, seval]
  cases h : decide (65 ≤ c.toNat) <;> simp only [h, e2, Bool.true_and, Bool.false_and, eES, eEX, seval]

theorem pchar_eq (c : UInt8) : pchar c = (sml c || cpt c || !((c.toNat : Int) != 95) || !(decide ((c.toNat : Int) < 48) || decide ((c.toNat : Int) > 57))) := by
  unfold pchar letter sml cpt
  generalize c.toNat = x
  rw [Bool.eq_iff_iff]
  simp only [Bool.or_eq_true, Bool.and_eq_true, decide_eq_true_eq, beq_iff_eq, Bool.not_eq_true', bne_eq_false_iff_eq, Bool.or_eq_false_iff, decide_eq_false_iff_not]
  omega

def PrI (s : List UInt8) (k : Nat) (st : St) : Prop :=
  ∃ f i, st = ⟨f, [noObs], []⟩ ∧ k = s.length - i ∧ 1 ≤ i ∧ allU (pq s) i = true ∧ f 0 = .str s ∧ f 3 = .int .i64 (i : Nat)

theorem z59 (s : List UInt8) : Fn1 Tryz.prog 59 [.str s] (.bool (isPart s)) := by
  refine k59.fn (by simp) ?_
  simp only [eES, eEX, seval]
  by_cases hl : s.length = 0
  · have d0 : ((s.length : Int) == 0) = true := by rw [hl]; rfl
    have e : isPart s = false := by rw [isPart_pq, hl]; rfl
    simp only [d0, e, eES, eEX, seval]
  have d0 : ((s.length : Int) == 0) = false := by rw [beq_eq_false_iff_ne]; omega
  by_cases hm : s.length ≤ 40
  case neg =>
    have d1 : decide ((s.length : Int) > 40) = true := decide_eq_true (by omega)
    have e : isPart s = false := by rw [isPart_pq, decide_eq_false hm, Bool.and_false, Bool.false_and]
    simp only [d0, d1, e, eES, eEX, seval]
  have d1 : decide ((s.length : Int) > 40) = false := decide_eq_false (by omega)
  have hp : isPart s = allU (pq s) s.length := by rw [isPart_pq, decide_eq_true hm, decide_eq_true (by omega : 1 ≤ s.length)]; rfl
  obtain ⟨c, hc⟩ : ∃ c, s[0]? = some c := ⟨s[0]'(by omega), List.getElem?_eq_getElem (by omega)⟩
  have hq0 : allU (pq s) 1 = (sml c || cpt c) := by
    show (true && pq s 0) = _
    rw [pq_at hc, if_pos rfl]; rfl
  have h1 := z133 c
  have h2 := z134 c
  have hn : allU (pq s) 1 = false → isPart s = false := fun h => by
    rw [hp, Bool.eq_false_iff]
    intro h'
    rw [allU_iff.2 fun k hk => allU_iff.1 h' k (by omega)] at h
    cases h
  have z1 : Int.toNat 0 = 0 := rfl
  have go : allU (pq s) 1 = true → ∀ (f : Fr), f 0 = .str s → f 3 = .int .i64 1 → ∀ Q : Exit → St → Prop, (∀ f, allU (pq s) s.length = true → Q (.exit 0) ⟨f, [noObs], []⟩) → (∀ f, f 2 = .bool false → allU (pq s) s.length = false → Q .ret ⟨f, [noObs], []⟩) → awp Tryz.prog (.loop l59_0) ⟨f, [noObs], []⟩ Q := by
    intro hq1 f h0 h3 Q hx hr
    refine awp_loop (PrI s) _ ⟨_, 1, rfl, rfl, Nat.le_refl _, hq1, h0, h3⟩ ?_
    clear h0 h3 hc hq0 h1 h2 hn
    rintro _ st ⟨f, i, rfl, rfl, h1i, hx1, h0, h3⟩
    simp only [h0, h3, eES, eEX, seval]
    by_cases hlt : i < s.length
    · obtain ⟨c, hc⟩ : ∃ c, s[i]? = some c := ⟨s[i], List.getElem?_eq_getElem hlt⟩
      have e1 := wi64_s i _ hlt (by simp only [maxLen]; omega)
      have hs1 := z133 c
      have hs2 := z134 c
      have hstep : allU (pq s) (i + 1) = pchar c := by
        rw [allU, hx1, Bool.true_and, pq_at hc, if_neg (by omega)]
      have hend : pchar c = false → allU (pq s) s.length = false := fun h => by
        rw [Bool.eq_false_iff]
        intro h'
        rw [allU_iff.2 fun k hk => allU_iff.1 h' k (by omega)] at hstep
        rw [h] at hstep; cases hstep
      have fin : ∀ f' : Fr, pchar c = true → f' 0 = .str s → f' 3 = .int .i64 ((i + 1 : Nat) : Int) → ∃ k, k < s.length - i ∧ PrI s k ⟨f', [noObs], []⟩ := by
        intro f' hp h0 h3
        exact ⟨s.length - (i + 1), by omega, f', i + 1, rfl, rfl, by omega, by rw [hstep, hp], h0, h3⟩
      have hpc := pchar_eq c
      simp only [lt_t hlt, nneg, Int.toNat_natCast, hc, h0, h3, eES, eEX, seval]
      refine aops_call hs1 rfl rfl rfl (.inl rfl) ?_
      cases a1 : sml c
      · simp only [nneg, Int.toNat_natCast, hc, h0, h3, Bool.not_false, eES, eEX, seval]
        refine aops_call hs2 rfl rfl rfl (.inl rfl) ?_
        cases a2 : cpt c
        · cases a3 : ((c.toNat : Int) != 95)
          · rw [a1, a2, a3] at hpc
            simp only [a3, nneg, Int.toNat_natCast, hc, h0, h3, e1, Bool.not_false, eES, eEX, seval]
            exact fin _ (by rw [hpc]; rfl) (by first | rfl | exact h0 | simp only [h0, eES, eEX, seval]) (by first | rfl | simp only [eES, eEX, seval])
          · cases a4 : decide ((c.toNat : Int) < 48)
            · cases a5 : decide ((c.toNat : Int) > 57)
              · rw [a1, a2, a3, a4, a5] at hpc
                simp only [a3, a4, a5, nneg, Int.toNat_natCast, hc, h0, h3, e1, Bool.not_false, eES, eEX, seval]
                exact fin _ (by rw [hpc]; rfl) (by first | rfl | exact h0 | simp only [h0, eES, eEX, seval]) (by first | rfl | simp only [eES, eEX, seval])
              · rw [a1, a2, a3, a4, a5] at hpc
                simp only [a3, a4, a5, nneg, Int.toNat_natCast, hc, h0, h3, e1, Bool.not_false, eES, eEX, seval]
                exact hr _ (by first | rfl | simp only [eES, eEX, seval]) (hend (by rw [hpc]; rfl))
            · rw [a1, a2, a3, a4] at hpc
              simp only [a3, a4, nneg, Int.toNat_natCast, hc, h0, h3, e1, Bool.not_false, eES, eEX, seval]
              exact hr _ (by first | rfl | simp only [eES, eEX, seval]) (hend (by rw [hpc]; rfl))
        · rw [a1, a2] at hpc
          simp only [nneg, Int.toNat_natCast, hc, h0, h3, e1, Bool.not_true, eES, eEX, seval]
          exact fin _ (by rw [hpc]; rfl) (by first | rfl | exact h0 | simp only [h0, eES, eEX, seval]) (by first | rfl | simp only [eES, eEX, seval])
      · rw [a1] at hpc
        simp only [nneg, Int.toNat_natCast, hc, h0, h3, e1, Bool.not_true, eES, eEX, seval]
        exact fin _ (by rw [hpc]; rfl) (by first | rfl | exact h0 | simp only [h0, eES, eEX, seval]) (by first | rfl | simp only [eES, eEX, seval])
    · simp only [lt_f hlt, h0, h3, eES, eEX, seval]
      exact hx _ (allU_iff.2 fun k hk => allU_iff.1 hx1 k (by omega))
  simp only [d0, d1, z1, hc, eES, eEX, seval]
  refine aops_call h1 rfl rfl rfl (.inl rfl) ?_
  cases a1 : sml c
  · simp only [z1, hc, Bool.not_false, eES, eEX, seval]
    refine aops_call h2 rfl rfl rfl (.inl rfl) ?_
    cases a2 : cpt c
    · rw [a1, a2] at hq0
      simp only [hn hq0, Bool.not_false, eES, eEX, seval]
    · rw [a1, a2] at hq0
      simp only [Bool.not_true, eES, eEX, seval]
      refine go hq0 _ (by first | rfl | simp only [eES, eEX, seval]) (by first | rfl | simp only [eES, eEX, seval]) _ (fun f h => ?_) (fun f h2 h => ?_)
      · simp only [hp, h, eES, eEX, seval]
      · simp only [hp, h, h2, eES, eEX, seval]
  · rw [a1, Bool.true_or] at hq0
    simp only [Bool.not_true, eES, eEX, seval]
    refine go hq0 _ (by first | rfl | simp only [eES, eEX, seval]) (by first | rfl | simp only [eES, eEX, seval]) _ (fun f h => ?_) (fun f h2 h => ?_)
    · simp only [hp, h, eES, eEX, seval]
    · simp only [hp, h, h2, eES, eEX, seval]

theorem z58 (s : List UInt8) : Fn1 Tryz.prog 58 [.str s] (.bool (isWord s)) := by
  refine wF Tryz.func58 ?_; simp only [eK, Tryz.f58, seval]
  simp only [astr, eES, eEX, seval]
  have e : isWord s = words.any fun w => s == w := rfl
  simp only [words, List.any_cons, List.any_nil, Bool.or_false] at e
  repeat' (first | (refine csel_of (fun h => ?_) (fun h => ?_) <;> simp only [h, astr, eES, eEX, seval]) | (refine gsel_t (fun h => ?_) (fun h => ?_) <;> simp only [h, updO, astr, eES, eEX, seval]) | (refine gsel_f (fun h => ?_) (fun h => ?_) <;> simp only [h, updO, astr, eES, eEX, seval]))
  all_goals (simp only [*, Bool.true_or, Bool.or_true, Bool.false_or, Bool.or_false] at e; simp only [e])

theorem z33 (s : List UInt8) : Fn1 Tryz.prog 33 [.str s] (.bool (usab s)) := by
  refine wF Tryz.func33 ?_; simp only [eK, Tryz.f33, seval]
  simp only [usab, eES, eEX, seval]
  refine aops_call (z59 s) rfl rfl rfl (.inl rfl) ?_
  cases isPart s
  · simp only [Bool.false_and, eES, eEX, seval]
  · simp only [Bool.true_and, eES, eEX, seval]
    refine aops_call (z58 s) rfl rfl rfl (.inl rfl) ?_
    simp only [eES, eEX, seval]

def FuI (s : List UInt8) (k : Nat) (st : St) : Prop :=
  ∃ f i p, st = ⟨f, [noObs], []⟩ ∧ k = s.length - i ∧ i ≤ s.length ∧ p.length ≤ i ∧ (∀ c ∈ p, c ≠ (46 : UInt8)) ∧ (parts s).all isPart = (parts (p ++ s.drop i)).all isPart ∧ f 0 = .str s ∧ f 3 = .str p ∧ f 4 = .int .i64 (i : Nat)

theorem z56 (s : List UInt8) : Fn1 Tryz.prog 56 [.str s] (.bool (decide (s.length ≤ 120) && (parts s).all isPart)) := by
  refine wF Tryz.func56 ?_; simp only [eK, Tryz.f56, seval]
  simp only [eES, eEX, seval]
  by_cases hm : s.length ≤ 120
  case neg =>
    have d1 : decide ((s.length : Int) > 120) = true := decide_eq_true (by omega)
    simp only [d1, decide_eq_false hm, Bool.false_and, eES, eEX, seval]
  have d1 : decide ((s.length : Int) > 120) = false := decide_eq_false (by omega)
  simp only [d1, decide_eq_true hm, Bool.true_and, eES, eEX, seval]
  refine awp_loop (FuI s) _ ⟨_, 0, [], rfl, rfl, Nat.zero_le _, Nat.le_refl _, by simp, rfl, (by first | rfl | simp only [eES, eEX, seval]), (by first | rfl | simp only [eES, eEX, seval]), (by first | rfl | simp only [eES, eEX, seval])⟩ ?_
  rintro _ st ⟨f, i, p, rfl, rfl, hi, hpl, hpd, hx, h0, h3, h4⟩
  simp only [h0, h3, h4, eES, eEX, seval]
  by_cases hlt : i < s.length
  · obtain ⟨c, hc⟩ : ∃ c, s[i]? = some c := ⟨s[i], List.getElem?_eq_getElem hlt⟩
    have e1 := wi64_s i _ hlt (by simp only [maxLen]; omega)
    have hd : s.drop i = c :: s.drop (i + 1) := by
      rw [List.drop_eq_getElem_cons hlt]
      congr 1
      exact (List.getElem?_eq_some_iff.1 hc).2
    have hts : (s.drop i).take (i + 1 - i) = [c] := by
      rw [hd, show i + 1 - i = 1 by omega]; rfl
    simp only [lt_t hlt, nneg, Int.toNat_natCast, hc, h0, h3, h4, eES, eEX, seval]
    by_cases hdot : c = 46
    · subst hdot
      have b0 : ((((46 : UInt8).toNat : Nat) : Int) != 46) = false := rfl
      have hs : (parts s).all isPart = (isPart p && (parts (s.drop (i + 1))).all isPart) := by
        rw [hx, hd, parts_cons hpd]; rfl
      simp only [b0, h0, h3, h4, eES, eEX, seval]
      refine aops_call (z59 p) rfl rfl rfl (.inl rfl) ?_
      cases hp : isPart p
      · rw [hp, Bool.false_and] at hs
        simp only [hs, Bool.not_false, eES, eEX, seval]
      · rw [hp, Bool.true_and] at hs
        simp only [h0, h3, h4, e1, Bool.not_true, eES, eEX, seval]
        exact ⟨s.length - (i + 1), by omega, _, i + 1, [], rfl, rfl, by omega, Nat.zero_le _, by simp, by rw [hs]; rfl, (by first | rfl | exact h0 | simp only [h0, eES, eEX, seval]), (by first | rfl | simp only [eES, eEX, seval]), (by first | rfl | simp only [eES, eEX, seval])⟩
    · have b0 : (((c.toNat : Nat) : Int) != 46) = true := by
        rw [bne_iff_ne]
        intro h
        apply hdot
        rw [← UInt8.toNat_inj]
        have : c.toNat = 46 := by omega
        rw [this]; rfl
      have hle : (i ≤ i + 1 ∧ i + 1 ≤ s.length) = True := eq_true ⟨by omega, by omega⟩
      have hsum : (p.length ≤ 9223372036854775806) = True := eq_true (by omega)
      simp only [b0, h0, h3, h4, e1, bnd, lenA, aslice, nneg, Int.toNat_natCast, if_true, hle, hts, astr, hsum, eES, eEX, seval]
      exact ⟨s.length - (i + 1), by omega, _, i + 1, p ++ [c], rfl, rfl, by omega, by simp; omega, fun x hx => by
        rcases List.mem_append.1 hx with h | h
        · exact hpd x h
        · simp at h; subst h; exact hdot, by rw [hx, hd]; simp, (by first | rfl | exact h0 | simp only [h0, eES, eEX, seval]), (by first | rfl | simp only [eES, eEX, seval]), (by first | rfl | simp only [eES, eEX, seval])⟩
  · have hx' : (parts s).all isPart = isPart p := by
      rw [hx, List.drop_of_length_le (by omega), List.append_nil, parts_one hpd]
      simp
    simp only [lt_f hlt, h0, h3, h4, hx', eES, eEX, seval]
    refine aops_call (z59 p) rfl rfl rfl (.inl rfl) ?_
    simp only [eES, eEX, seval]

def ldot (s : List UInt8) : Nat → Option Nat
  | 0 => none
  | j + 1 => if s[j]? = some 46 then some j else ldot s j

theorem ldot_spec (s : List UInt8) : ∀ n, match ldot s n with
    | none => ∀ k, k < n → s[k]? ≠ some 46
    | some j => j < n ∧ s[j]? = some 46 ∧ ∀ k, j < k → k < n → s[k]? ≠ some 46
  | 0 => by simp [ldot]
  | n + 1 => by
    unfold ldot
    split
    · rename_i h
      split at h
      · cases h
      · rename_i h'
        have := ldot_spec s n
        rw [h] at this
        intro k hk
        rcases Nat.lt_succ_iff_lt_or_eq.1 hk with h1 | rfl
        · exact this k h1
        · exact h'
    · rename_i j h
      split at h
      · rename_i h'
        cases h
        exact ⟨by omega, h', fun k h1 h2 => by omega⟩
      · rename_i h'
        have := ldot_spec s n
        rw [h] at this
        exact ⟨by omega, this.2.1, fun k h1 h2 => by
          rcases Nat.lt_succ_iff_lt_or_eq.1 h2 with h3 | rfl
          · exact this.2.2 k h1 h3
          · exact h'⟩

def spl (s : List UInt8) : List UInt8 × List UInt8 := match ldot s s.length with
  | none => ([], s)
  | some j => (s.take j, s.drop (j + 1))

theorem spl_spec (s : List UInt8) : ((spl s).1 = [] ∧ (spl s).2 = s ∧ ∀ c ∈ s, c ≠ 46) ∨ (s = (spl s).1 ++ 46 :: (spl s).2 ∧ ∀ c ∈ (spl s).2, c ≠ 46) := by
  have h := ldot_spec s s.length
  unfold spl
  cases hl : ldot s s.length with
  | none =>
    rw [hl] at h
    refine .inl ⟨rfl, rfl, fun c hc e => ?_⟩
    subst e
    obtain ⟨k, hk⟩ := List.mem_iff_getElem?.1 hc
    exact h k (List.getElem?_eq_some_iff.1 hk).1 hk
  | some j =>
    rw [hl] at h
    obtain ⟨h1, h2, h3⟩ := h
    refine .inr ⟨?_, fun c hc e => ?_⟩
    · have : s[j] = 46 := (List.getElem?_eq_some_iff.1 h2).2
      show s = s.take j ++ 46 :: s.drop (j + 1)
      rw [← this, ← List.drop_eq_getElem_cons h1, List.take_append_drop]
    · subst e
      obtain ⟨k, hk⟩ := List.mem_iff_getElem?.1 hc
      rw [List.getElem?_drop] at hk
      exact h3 (j + 1 + k) (by omega) (List.getElem?_eq_some_iff.1 hk).1 hk

def SdI (s : List UInt8) (k : Nat) (st : St) : Prop :=
  ∃ f, st = ⟨f, [noObs], []⟩ ∧ k ≤ s.length ∧ ldot s s.length = ldot s k ∧ f 0 = .str s ∧ f 4 = .int .i64 ((k : Int) - 1)

theorem z57 (s : List UInt8) (hs : s.length ≤ 120) : Fn1 Tryz.prog 57 [.str s] (.tup [.str (spl s).1, .str (spl s).2]) := by
  refine wF Tryz.func57 ?_; simp only [eK, Tryz.f57, seval]
  have w0 : IntKind.i64.wrap ((s.length : Int) - 1) = (s.length : Int) - 1 := by rw [wi64]; omega
  simp only [w0, eES, eEX, seval]
  refine awp_loop (SdI s) _ ⟨_, rfl, Nat.le_refl _, rfl, (by first | rfl | simp only [eES, eEX, seval]), (by first | rfl | simp only [eES, eEX, seval])⟩ ?_
  rintro k st ⟨f, rfl, hk, hx, h0, h4⟩
  simp only [h0, h4, eES, eEX, seval]
  cases k with
  | zero =>
    have d0 : decide (((0 : Nat) : Int) - 1 ≥ 0) = false := rfl
    have e : spl s = ([], s) := by unfold spl; rw [hx]; rfl
    simp only [d0, e, h0, h4, eES, eEX, seval]
  | succ j =>
    have j1 : ((j + 1 : Nat) : Int) - 1 = (j : Int) := by omega
    have d0 : decide (((j : Nat) : Int) ≥ 0) = true := decide_eq_true (by omega)
    have w1 : IntKind.i64.wrap ((j : Int) - 1) = (j : Int) - 1 := by rw [wi64]; omega
    have w2 : IntKind.i64.wrap ((j : Int) + 1) = ((j + 1 : Nat) : Int) := by rw [wi64]; omega
    obtain ⟨c, hc⟩ : ∃ c, s[j]? = some c := ⟨s[j]'(by omega), List.getElem?_eq_getElem (by omega)⟩
    simp only [j1, d0, nneg, Int.toNat_natCast, hc, h0, h4, eES, eEX, seval]
    by_cases hdot : c = 46
    · subst hdot
      have b0 : ((((46 : UInt8).toNat : Nat) : Int) == 46) = true := rfl
      have e : spl s = (s.take j, s.drop (j + 1)) := by
        unfold spl
        rw [hx]
        show (match (if s[j]? = some 46 then some j else ldot s j) with | none => ([], s) | some j => (s.take j, s.drop (j + 1))) = _
        rw [if_pos hc]
      have hle : (0 ≤ j ∧ j ≤ s.length) = True := eq_true ⟨by omega, by omega⟩
      have hle2 : (j + 1 ≤ s.length ∧ s.length ≤ s.length) = True := eq_true ⟨by omega, Nat.le_refl _⟩
      have ht : ((s.drop 0).take j) = s.take j := by simp
      have ht2 : ((s.drop (j + 1)).take (s.length - (j + 1))) = s.drop (j + 1) := List.take_of_length_le (by simp)
      simp only [b0, w2, j1, e, bnd, lenA, aslice, Nat.sub_zero, nneg, Int.toNat_natCast, if_true, hle, hle2, ht, ht2, h0, h4, eES, eEX, seval]
    · have b0 : (((c.toNat : Nat) : Int) == 46) = false := by
        rw [beq_eq_false_iff_ne]
        intro h
        apply hdot
        rw [← UInt8.toNat_inj]
        have : c.toNat = 46 := by omega
        rw [this]; rfl
      have hne : ¬ s[j]? = some 46 := fun h => by rw [hc] at h; cases h; exact hdot rfl
      simp only [b0, j1, w1, h0, h4, eES, eEX, seval]
      exact ⟨j, by omega, _, rfl, by omega, by rw [hx]; show (if s[j]? = some 46 then some j else ldot s j) = _; rw [if_neg hne], (by first | rfl | exact h0 | simp only [h0, eES, eEX, seval]), (by first | rfl | simp only [eES, eEX, seval])⟩

def wrd (u : List UInt8) : Bool := if u = [] then false else (parts u).any isWord

def DfI (s : List UInt8) (k : Nat) (st : St) : Prop :=
  ∃ f u, st = ⟨f, [noObs], []⟩ ∧ k = u.length ∧ u.length ≤ 120 ∧ (u ≠ [] → (parts u).all isPart = true) ∧ (parts s).any isWord = wrd u ∧ f 0 = .str u

theorem z32 (s : List UInt8) : Fn1 Tryz.prog 32 [.str s] (.bool (full s)) := by
  refine wF Tryz.func32 ?_; simp only [eK, Tryz.f32, seval]
  simp only [full, eES, eEX, seval]
  refine aops_call (z56 s) rfl rfl rfl (.inl rfl) ?_
  cases hf : (decide (s.length ≤ 120) && (parts s).all isPart)
  · simp only [Bool.false_and, Bool.not_false, eES, eEX, seval]
  simp only [Bool.true_and, Bool.not_true, eES, eEX, seval]
  obtain ⟨hl, ha⟩ := Bool.and_eq_true_iff.1 hf
  have hl := of_decide_eq_true hl
  have hne : s ≠ [] := by
    rintro rfl
    cases ha
  refine awp_loop (DfI s) _ ⟨_, s, rfl, rfl, hl, fun _ => ha, by unfold wrd; rw [if_neg hne], (by first | rfl | simp only [eES, eEX, seval])⟩ ?_
  rintro _ st ⟨f, u, rfl, rfl, hul, hua, hx, h0⟩
  simp only [h0, astr, eES, eEX, seval]
  by_cases hu : u = []
  · subst hu
    have b0 : (!(([] : List UInt8) == [])) = false := rfl
    have e : (parts s).any isWord = false := hx
    simp only [b0, e, Bool.not_false, eES, eEX, seval]
  · have b0 : (!(u == [])) = true := by simp [hu]
    simp only [b0, h0, eES, eEX, seval]
    refine aops_call (z57 u hul) rfl rfl rfl (.inl rfl) ?_
    simp only [eES, eEX, seval]
    refine aops_call (z58 (spl u).2) rfl rfl rfl (.inl rfl) ?_
    have hw : wrd u = (wrd (spl u).1 || isWord (spl u).2) := by
      unfold wrd
      rw [if_neg hu]
      rcases spl_spec u with ⟨h1, h2, h3⟩ | ⟨h1, h2⟩
      · rw [h1, h2, if_pos rfl, parts_one h3]; simp
      · have hp : parts u = parts (spl u).1 ++ [(spl u).2] := by
          conv => lhs; rw [h1]
          exact parts_snoc h2
        have ha' := hua hu
        rw [hp, List.all_append, Bool.and_eq_true] at ha'
        have hn : (spl u).1 ≠ [] := by
          intro h
          rw [h] at ha'
          cases ha'.1
        rw [if_neg hn, hp]
        simp
    cases hq : isWord (spl u).2
    · rw [hq, Bool.or_false] at hw
      simp only [h0, eES, eEX, seval]
      have hlen : (spl u).1.length < u.length ∧ ((spl u).1 ≠ [] → (parts (spl u).1).all isPart = true) := by
        rcases spl_spec u with ⟨h1, h2, h3⟩ | ⟨h1, h2⟩
        · rw [h1]
          exact ⟨List.length_pos_iff.2 hu, fun h => absurd rfl h⟩
        · have hp : parts u = parts (spl u).1 ++ [(spl u).2] := by
            conv => lhs; rw [h1]
            exact parts_snoc h2
          have ha' := hua hu
          rw [hp, List.all_append, Bool.and_eq_true] at ha'
          refine ⟨?_, fun _ => ha'.1⟩
          have := congrArg List.length h1
          simp at this
          omega
      exact ⟨(spl u).1.length, hlen.1, _, (spl u).1, rfl, rfl, by omega, hlen.2, by rw [hx, hw], (by first | rfl | simp only [eES, eEX, seval])⟩
    · rw [hq, Bool.or_true] at hw
      have e : (parts s).any isWord = true := hx.trans hw
      simp only [e, Bool.not_true, eES, eEX, seval]

end Go.Proofs.YtdgbidbkcigkhaaGreatDoor.Va

set_option linter.unusedSimpArgs false
namespace Go.Proofs.YtdgbidbkcigkhaaGreatDoor.Va
open Go Am Rc Bt Br

theorem any_not {α : Type} {l : List α} {q : α → Bool} : (l.any fun x => !q x) = !l.all q := by
  induction l with
  | nil => rfl
  | cons x l ih => simp [ih]

theorem z141 (s : List UInt8) (hs : s.length ≤ 17592186044000) : Fn1 Tryz.prog 141 [.str s, .str [46]] (.list ((parts s).map rav)) := by
  refine wF Tryz.func141 ?_; simp only [eK, Tryz.f141, seval]
  simp only [eES, eEX, seval]
  refine aops_call (z196 s hs) rfl rfl rfl (.inl rfl) ?_
  simp only [eES, eEX, seval]

def IfI (s : List UInt8) (k : Nat) (st : St) : Prop :=
  ∃ f i, st = ⟨f, [noObs], []⟩ ∧ k = (parts s).length - i ∧ ((parts s).take i).all isPart = true ∧ f 0 = .str s ∧ f 6 = .list ((parts s).map rav) ∧ f 7 = .int .i64 ((parts s).length : Nat) ∧ f 8 = .int .i64 (i : Nat)

theorem z139 (s : List UInt8) (hs : s.length ≤ 17592186044000) : Fn1 Tryz.prog 139 [.str s] (.bool (decide (s.length ≤ 120) && (parts s).all isPart)) := by
  have hl := parts_len s
  have hc : s.count 46 ≤ s.length := List.count_le_length
  refine wF Tryz.func139 ?_; simp only [eK, Tryz.f139, seval]
  simp only [eES, eEX, seval]
  refine aops_call (z141 s hs) rfl rfl rfl (.inl rfl) ?_
  simp only [List.length_map, eES, eEX, seval]
  refine awp_loop (IfI s) _ ⟨_, 0, rfl, rfl, rfl, (by first | rfl | simp only [eES, eEX, seval]), (by first | rfl | simp only [eES, eEX, seval]), (by first | rfl | simp only [eES, eEX, seval]), (by first | rfl | simp only [eES, eEX, seval])⟩ ?_
  rintro _ st ⟨f, i, rfl, rfl, hx, h0, h6, h7, h8⟩
  simp only [h0, h6, h7, h8, eES, eEX, seval]
  by_cases hlt : i < (parts s).length
  · obtain ⟨x, hi⟩ : ∃ x, (parts s)[i]? = some x := ⟨(parts s)[i], List.getElem?_eq_getElem hlt⟩
    have hg : ((parts s).map rav)[i]? = some (.str x) := by simp [hi, rav]
    have e1 := wi64_s i _ hlt (by simp only [maxLen]; omega)
    have ht := take_all (q := isPart) hi
    rw [hx, Bool.true_and] at ht
    simp only [lt_t hlt, nneg, Int.toNat_natCast, aiaddr, hg, h0, h6, h7, h8, eES, eEX, seval]
    refine aops_call (z144 x) rfl rfl rfl (.inl rfl) ?_
    cases hp : isPart x
    · have hf : (parts s).all isPart = false := by
        rw [Bool.eq_false_iff]
        intro h'
        rw [List.all_eq_true.1 h' x (List.mem_of_getElem? hi)] at hp
        cases hp
      simp only [h0, h6, h7, h8, hf, Bool.not_false, Bool.and_false, eES, eEX, seval]
    · rw [hp] at ht
      simp only [h0, h6, h7, h8, e1, Bool.not_true, eES, eEX, seval]
      exact ⟨(parts s).length - (i + 1), by omega, _, i + 1, rfl, rfl, ht, (by first | rfl | exact h0 | simp only [h0, eES, eEX, seval]), (by first | rfl | exact h6 | simp only [h6, eES, eEX, seval]), (by first | rfl | exact h7 | simp only [h7, eES, eEX, seval]), (by first | rfl | simp only [eES, eEX, seval])⟩
  · rw [List.take_of_length_le (by omega)] at hx
    have e : decide ((s.length : Int) ≤ 120) = decide (s.length ≤ 120) := by rw [decide_eq_decide]; omega
    simp only [lt_f hlt, h0, h6, h7, h8, hx, e, Bool.and_true, eES, eEX, seval]

theorem za142 (s : List UInt8) (m : Mem) : ACalls Tryz.prog 142 [rav s] m fun y m1 => y = .bool (isWord s) ∧ m1 = m := by
  refine wG Tryz.func142 ?_; simp only [eK, Tryz.f142, seval]
  simp only [rav, astr, eES, eEX, seval]
  have e : isWord s = words.any fun w => s == w := rfl
  simp only [words, List.any_cons, List.any_nil, Bool.or_false] at e
  repeat' (first | (refine csel_of (fun h => ?_) (fun h => ?_) <;> simp only [h, astr, eES, eEX, seval]) | (refine gsel_t (fun h => ?_) (fun h => ?_) <;> simp only [h, updO, astr, eES, eEX, seval]) | (refine gsel_f (fun h => ?_) (fun h => ?_) <;> simp only [h, updO, astr, eES, eEX, seval]))
  all_goals (simp only [*, Bool.true_or, Bool.or_true, Bool.false_or, Bool.or_false] at e; simp only [e])

theorem z73 (s : List UInt8) : Fn1 Tryz.prog 73 [.str s] (.bool (usab s)) := by
  refine wF Tryz.func73 ?_; simp only [eK, Tryz.f73, seval]
  simp only [usab, eES, eEX, seval]
  refine aops_call (z144 s) rfl rfl rfl (.inl rfl) ?_
  cases isPart s
  · simp only [Bool.false_and, eES, eEX, seval]
  · simp only [Bool.true_and, eES, eEX, seval]
    refine aops_call (z142 s) rfl rfl rfl (.inl rfl) ?_
    simp only [eES, eEX, seval]

theorem z70 (s : List UInt8) (hs : s.length ≤ 17592186044000) : Fn1 Tryz.prog 70 [.str s] (.bool (full s)) := by
  have hl := parts_len s
  have hc : s.count 46 ≤ s.length := List.count_le_length
  refine wF Tryz.func70 ?_; simp only [eK, Tryz.f70, seval]
  simp only [full, eES, eEX, seval]
  refine aops_call (z139 s hs) rfl rfl rfl (.inl rfl) ?_
  cases hf : (decide (s.length ≤ 120) && (parts s).all isPart)
  · simp only [Bool.false_and, eES, eEX, seval]
  · simp only [Bool.true_and, eES, eEX, seval]
    refine aops_call (z141 s hs) rfl rfl rfl (.inl rfl) ?_
    simp only [eES, eEX, seval]
    refine aops_callF (z140 (parts s) (by simp only [maxLen]; omega) isWord 142 [] _ fun o _ => za142 o _) (by simp only [List.map_cons, List.map_nil, eES, eEX, seval] <;> rfl) ?_
    simp only [eES, eEX, seval]

section
variable (m : Mem)

theorem z66 (g : PG) : ACalls Tryz.prog 66 [gav g] m fun y m1 => y = .bool (!lim1 g) ∧ m1 = m := by
  refine wG Tryz.func66 ?_; simp only [eK, Tryz.f66, seval]
  have e : decide ((g.ops.length : Int) > 64) = !lim1 g := by unfold lim1; exact (by rw [Bool.eq_iff_iff]; simp only [decide_eq_true_eq, Bool.not_eq_true', decide_eq_false_iff_not, Bool.and_eq_true, Bool.or_eq_true, beq_iff_eq, bne_iff_ne, ne_eq]; omega)
  simp only [gav, PG.cells, List.length_map, e, eES, eEX, seval]

theorem z68 (x : PE) : ACalls Tryz.prog 68 [eav x] m fun y m1 => y = .bool (!lim2 x) ∧ m1 = m := by
  refine wG Tryz.func68 ?_; simp only [eK, Tryz.f68, seval]
  have e1 : decide ((x.items.length : Int) < 1) = !decide (1 ≤ x.items.length) := (by rw [Bool.eq_iff_iff]; simp only [decide_eq_true_eq, Bool.not_eq_true', decide_eq_false_iff_not, Bool.and_eq_true, Bool.or_eq_true, beq_iff_eq, bne_iff_ne, ne_eq]; omega)
  have e2 : decide ((x.items.length : Int) > 64) = !decide (x.items.length ≤ 64) := (by rw [Bool.eq_iff_iff]; simp only [decide_eq_true_eq, Bool.not_eq_true', decide_eq_false_iff_not, Bool.and_eq_true, Bool.or_eq_true, beq_iff_eq, bne_iff_ne, ne_eq]; omega)
  have e3 : decide ((x.free.length : Int) > 16) = !decide (x.free.length ≤ 16) := (by rw [Bool.eq_iff_iff]; simp only [decide_eq_true_eq, Bool.not_eq_true', decide_eq_false_iff_not, Bool.and_eq_true, Bool.or_eq_true, beq_iff_eq, bne_iff_ne, ne_eq]; omega)
  simp only [eav, PE.cells, List.length_map, e1, e2, e3, lim2, eES, eEX, seval]
  cases a1 : decide (1 ≤ x.items.length) <;> cases a2 : decide (x.items.length ≤ 64) <;> cases a3 : decide (x.free.length ≤ 16) <;> simp only [a1, a2, a3, Bool.not_true, Bool.not_false, Bool.and_true, Bool.and_false, List.length_map, e1, e2, e3, eES, eEX, seval]

theorem z72 (o : PO) : ACalls Tryz.prog 72 [oav o] m fun y m1 => y = .bool (!usab o.name) ∧ m1 = m := by
  refine wG Tryz.func72 ?_; simp only [eK, Tryz.f72, seval]
  simp only [oav, PO.cells, eES, eEX, seval]
  refine aops_call (z73 o.name) rfl rfl rfl (.inl rfl) ?_
  simp only [eES, eEX, seval]

theorem z76 (o : PI) : ACalls Tryz.prog 76 [iav o] m fun y m1 => y = .bool (!usab o.name) ∧ m1 = m := by
  refine wG Tryz.func76 ?_; simp only [eK, Tryz.f76, seval]
  simp only [iav, PI.cells, eES, eEX, seval]
  refine aops_call (z73 o.name) rfl rfl rfl (.inl rfl) ?_
  simp only [eES, eEX, seval]

theorem z69 (g : PG) (hs : g.name.length ≤ 17592186044000) (hl : g.ops.length ≤ maxLen) : ACalls Tryz.prog 69 [gav g] m fun y m1 => y = .bool (!nam1 g) ∧ m1 = m := by
  refine wG Tryz.func69 ?_; simp only [eK, Tryz.f69, seval]
  simp only [gav, PG.cells, nam1, eES, eEX, seval]
  refine aops_call (z70 g.name hs) rfl rfl rfl (.inl rfl) ?_
  cases full g.name
  · simp only [Bool.false_and, Bool.not_false, eES, eEX, seval]
  · simp only [Bool.true_and, Bool.not_true, eES, eEX, seval]
    refine aops_callF (z71 g.ops hl (fun o => !usab o.name) 72 [] _ fun o _ => z72 _ o) (by simp only [List.map_cons, List.map_nil, oav, eES, eEX, seval] <;> rfl) ?_
    simp only [any_not, eES, eEX, seval]

theorem z74 (x : PE) (hs : x.name.length ≤ 17592186044000) (hl : x.items.length ≤ maxLen) : ACalls Tryz.prog 74 [eav x] m fun y m1 => y = .bool (!nam2 x) ∧ m1 = m := by
  refine wG Tryz.func74 ?_; simp only [eK, Tryz.f74, seval]
  simp only [eav, PE.cells, nam2, eES, eEX, seval]
  refine aops_call (z70 x.name hs) rfl rfl rfl (.inl rfl) ?_
  cases full x.name
  · simp only [Bool.false_and, Bool.not_false, eES, eEX, seval]
  · simp only [Bool.true_and, Bool.not_true, eES, eEX, seval]
    refine aops_callF (z75 x.items hl (fun o => !usab o.name) 76 [] _ fun o _ => z76 _ o) (by simp only [List.map_cons, List.map_nil, iav, eES, eEX, seval] <;> rfl) ?_
    simp only [any_not, eES, eEX, seval]

theorem z78 (x y : PG) : ACalls Tryz.prog 78 [gav x, gav y] m fun r m1 => r = .bool ((ords PG.name) x y) ∧ m1 = m := by
  refine wG Tryz.func78 ?_; simp only [eK, Tryz.f78, seval]
  simp only [gav, PG.cells, astr, ords, ordn, eES, eEX, seval]

theorem z80 (x y : PE) : ACalls Tryz.prog 80 [eav x, eav y] m fun r m1 => r = .bool ((ords PE.name) x y) ∧ m1 = m := by
  refine wG Tryz.func80 ?_; simp only [eK, Tryz.f80, seval]
  simp only [eav, PE.cells, astr, ords, ordn, eES, eEX, seval]

theorem z83 (x y : PO) : ACalls Tryz.prog 83 [oav x, oav y] m fun r m1 => r = .bool ((ordn PO.num) x y) ∧ m1 = m := by
  refine wG Tryz.func83 ?_; simp only [eK, Tryz.f83, seval]
  simp only [oav, PO.cells, astr, ords, ordn, eES, eEX, seval]

theorem z86 (x y : PI) : ACalls Tryz.prog 86 [iav x, iav y] m fun r m1 => r = .bool ((ordn PI.num) x y) ∧ m1 = m := by
  refine wG Tryz.func86 ?_; simp only [eK, Tryz.f86, seval]
  simp only [iav, PI.cells, astr, ords, ordn, eES, eEX, seval]

theorem z81 (g : PG) (hl : g.ops.length ≤ maxLen) : ACalls Tryz.prog 81 [gav g] m fun y m1 => y = .bool (!ord1 g) ∧ m1 = m := by
  refine wG Tryz.func81 ?_; simp only [eK, Tryz.f81, seval]
  simp only [gav, PG.cells, ord1, eES, eEX, seval]
  refine aops_callF (z82 g.ops hl (ordn PO.num) 83 [] _ fun x _ y _ => z83 _ x y) (by simp only [List.map_cons, List.map_nil, oav, eES, eEX, seval] <;> rfl) ?_
  simp only [eES, eEX, seval]

theorem z84 (x : PE) (hl : x.items.length ≤ maxLen) : ACalls Tryz.prog 84 [eav x] m fun y m1 => y = .bool (!ord2 x) ∧ m1 = m := by
  refine wG Tryz.func84 ?_; simp only [eK, Tryz.f84, seval]
  simp only [eav, PE.cells, ord2, eES, eEX, seval]
  refine aops_callF (z85 x.items hl (ordn PI.num) 86 [] _ fun x _ y _ => z86 _ x y) (by simp only [List.map_cons, List.map_nil, iav, eES, eEX, seval] <;> rfl) ?_
  simp only [eES, eEX, seval]

end

section
variable {M : Nat} (P : PL) (hP : P.ok M) (hM : M ≤ 17592186044000)
include hP hM

omit hM in
theorem z38 : Fn1 Tryz.prog 38 [P.av] (.bool (!lim P)) := by
  have e0 : P.av = .agg [.list (P.progs.map gav), .list (P.enums.map eav)] := rfl
  have e1 : decide ((if (P.progs.length : Int) < (P.enums.length : Int) then (P.enums.length : Int) else (P.progs.length : Int)) > 64) = !(decide (P.progs.length ≤ 64) && decide (P.enums.length ≤ 64)) := by
    rw [Bool.not_and]
    split <;> exact (by rw [Bool.eq_iff_iff]; simp only [decide_eq_true_eq, Bool.not_eq_true', decide_eq_false_iff_not, Bool.and_eq_true, Bool.or_eq_true, beq_iff_eq, bne_iff_ne, ne_eq]; omega)
  refine wF Tryz.func38 ?_; simp only [eK, Tryz.f38, seval]
  simp only [e0, List.length_map, e1, lim, eES, eEX, seval]
  cases (decide (P.progs.length ≤ 64) && decide (P.enums.length ≤ 64))
  · simp only [Bool.not_false, Bool.false_and, eES, eEX, seval]
  simp only [Bool.not_true, Bool.true_and, eES, eEX, seval]
  refine aops_callF (z65 P.progs hP.len1 (fun g => !lim1 g) 66 [] _ fun o _ => z66 _ o) (by simp only [List.map_cons, List.map_nil, eES, eEX, seval] <;> rfl) ?_
  simp only [any_not, eES, eEX, seval]
  cases P.progs.all lim1
  · simp only [Bool.not_false, Bool.false_and, eES, eEX, seval]
  simp only [Bool.not_true, Bool.true_and, eES, eEX, seval]
  refine aops_callF (z67 P.enums hP.len2 (fun g => !lim2 g) 68 [] _ fun o _ => z68 _ o) (by simp only [List.map_cons, List.map_nil, eES, eEX, seval] <;> rfl) ?_
  simp only [any_not, eES, eEX, seval]

omit hM in
theorem zn39 (hN1 : ∀ g ∈ P.progs, g.name.length ≤ 17592186044000) (hN2 : ∀ g ∈ P.enums, g.name.length ≤ 17592186044000) : Fn1 Tryz.prog 39 [P.av] (.bool (!nam P)) := by
  have e0 : P.av = .agg [.list (P.progs.map gav), .list (P.enums.map eav)] := rfl
  refine wF Tryz.func39 ?_; simp only [eK, Tryz.f39, seval]
  simp only [e0, nam, eES, eEX, seval]
  refine aops_callF (z65 P.progs hP.len1 (fun g => !nam1 g) 69 [] _ fun o ho => z69 _ o (hN1 o ho) (hP.progs o ho).len) (by simp only [List.map_cons, List.map_nil, eES, eEX, seval] <;> rfl) ?_
  simp only [any_not, eES, eEX, seval]
  cases P.progs.all nam1
  · simp only [Bool.not_false, Bool.false_and, eES, eEX, seval]
  simp only [Bool.not_true, Bool.true_and, eES, eEX, seval]
  refine aops_callF (z67 P.enums hP.len2 (fun g => !nam2 g) 74 [] _ fun o ho => z74 _ o (hN2 o ho) (hP.enums o ho).len1) (by simp only [List.map_cons, List.map_nil, eES, eEX, seval] <;> rfl) ?_
  simp only [any_not, eES, eEX, seval]

omit hM in
theorem z40 : Fn1 Tryz.prog 40 [P.av] (.bool (!ord P)) := by
  have e0 : P.av = .agg [.list (P.progs.map gav), .list (P.enums.map eav)] := rfl
  refine wF Tryz.func40 ?_; simp only [eK, Tryz.f40, seval]
  simp only [e0, ord, eES, eEX, seval]
  refine aops_callF (z77 P.progs hP.len1 (ords PG.name) 78 [] _ fun x _ y _ => z78 _ x y) (by simp only [List.map_cons, List.map_nil, eES, eEX, seval] <;> rfl) ?_
  simp only [eES, eEX, seval]
  cases adj P.progs (ords PG.name)
  · simp only [Bool.not_false, Bool.false_and, eES, eEX, seval]
  simp only [Bool.not_true, Bool.true_and, eES, eEX, seval]
  refine aops_callF (z79 P.enums hP.len2 (ords PE.name) 80 [] _ fun x _ y _ => z80 _ x y) (by simp only [List.map_cons, List.map_nil, eES, eEX, seval] <;> rfl) ?_
  simp only [eES, eEX, seval]
  cases adj P.enums (ords PE.name)
  · simp only [Bool.not_false, Bool.false_and, eES, eEX, seval]
  simp only [Bool.not_true, Bool.true_and, eES, eEX, seval]
  refine aops_callF (z65 P.progs hP.len1 (fun g => !ord1 g) 81 [] _ fun o ho => z81 _ o (hP.progs o ho).len) (by simp only [List.map_cons, List.map_nil, eES, eEX, seval] <;> rfl) ?_
  simp only [any_not, eES, eEX, seval]
  cases P.progs.all ord1
  · simp only [Bool.not_false, Bool.false_and, eES, eEX, seval]
  simp only [Bool.not_true, Bool.true_and, eES, eEX, seval]
  refine aops_callF (z67 P.enums hP.len2 (fun g => !ord2 g) 84 [] _ fun o ho => z84 _ o (hP.enums o ho).len1) (by simp only [List.map_cons, List.map_nil, eES, eEX, seval] <;> rfl) ?_
  simp only [any_not, eES, eEX, seval]

end

end Go.Proofs.YtdgbidbkcigkhaaGreatDoor.Va

set_option linter.unusedSimpArgs false
namespace Go.Proofs.YtdgbidbkcigkhaaGreatDoor.Va
open Go Am Rc Bt Br

theorem sh_fn (n c : Nat) : AV.shN n (.fn (.func c) [] []) = .fn (.func c) [] [] := by
  induction n with
  | zero => rfl
  | succ n ih => rw [AV.shN, ih]; rfl

theorem z146 (nm : PO → List UInt8) (c : Nat) (hn : ∀ x, Fn1 Tryz.prog c [oav x] (.str (nm x))) (y x : PO) (fr : Nat → Ob) (m : Mem) (h3 : fr 3 = .cells [.fn (.func c) [] []]) (h6 : fr 6 = .cells x.cells) :
    ACalls Tryz.prog 146 [oav y, .ptr 3 3 0, .ptr 3 6 0] (noObs :: noObs :: noObs :: fr :: m) fun r m1 => r = .bool (nm y == nm x) ∧ m1 = noObs :: noObs :: noObs :: fr :: m := by
  have hy := hn y
  have hx := hn x
  have g3 : ∀ n, AV.shN n (.fn (.func c) [] []) = .fn (.func c) [] [] := fun n => sh_fn n c
  simp only [oav, PO.cells] at hy hx h6
  refine wG Tryz.func146 ?_; simp only [eK, Tryz.f146, seval]
  simp only [oav, PO.cells, h3, h6, g3, eES, eEX, seval]
  refine aops_callW (fa := []) (fb := []) (by first | rfl | simp only [eES, eEX, seval]) hy rfl rfl rfl (.inl rfl) ?_
  simp only [h3, h6, g3, eES, eEX, seval]
  refine aops_callW (fa := []) (fb := []) (by first | rfl | simp only [eES, eEX, seval]) hx rfl rfl rfl (.inl rfl) ?_
  simp only [astr, eES, eEX, seval]

section
variable (L : List PO) (hl : L.length ≤ maxLen) (nm : PO → List UInt8) (c : Nat) (m : Mem)

def ReO (k : Nat) (st : St) : Prop :=
  ∃ f fr i, st = ⟨f, fr :: m, []⟩ ∧ k = L.length - i ∧ allU (uniq L nm) i = true ∧ f 0 = .list (L.map oav) ∧ f 3 = .ptr 0 3 0 ∧ f 7 = .list (L.map oav) ∧ f 8 = .int .i64 (L.length : Nat) ∧ f 9 = .int .i64 (i : Nat) ∧ fr 3 = .cells [.fn (.func c) [] []] ∧ ∀ s ∈ [6], (fr s).isRow = false

include hl in
theorem z89 (hn : ∀ x, Fn1 Tryz.prog c [oav x] (.str (nm x))) :
    ACalls Tryz.prog 89 [.list (L.map oav), .fn (.func c) [] []] m fun y m1 => y = .bool (!once L nm) ∧ m1 = m := by
  refine wG Tryz.func89 ?_; simp only [eK, Tryz.f89, seval]
  simp only [List.length_map, eES, eEX, seval]
  refine awp_loop (ReO L nm c m) _ ⟨_, _, 0, rfl, rfl, rfl, (by first | rfl | simp only [eES, eEX, seval]), (by first | rfl | simp only [eES, eEX, seval]), (by first | rfl | simp only [eES, eEX, seval]), (by first | rfl | simp only [eES, eEX, seval]), (by first | rfl | simp only [eES, eEX, seval]), (by first | rfl | simp only [eES, eEX, seval]), by simp <;> rfl⟩ ?_
  rintro _ st ⟨f0, fr0, i, rfl, rfl, hx, h00, h30, h70, h80, h90, m30, r6⟩
  refine awp_drops (a := _) [6] r6 ?_
  intro f fr hf hm hn6
  have h0 : f 0 = .list (L.map oav) := by rw [hf, h00] <;> rfl
  have h3 : f 3 = .ptr 0 3 0 := by rw [hf, h30] <;> rfl
  have h7 : f 7 = .list (L.map oav) := by rw [hf, h70] <;> rfl
  have h8 : f 8 = .int .i64 (L.length : Nat) := by rw [hf, h80] <;> rfl
  have h9 : f 9 = .int .i64 (i : Nat) := by rw [hf, h90] <;> rfl
  have m3 : fr 3 = .cells [.fn (.func c) [] []] := by rw [hm 3 (by decide), m30] <;> rfl
  have n6 := hn6 6 (by decide)
  clear hf hm hn6 h00 h30 h70 h80 h90 m30 r6
  simp only [h0, h3, h7, h8, h9, eES, eEX, seval]
  by_cases hlt : i < L.length
  · obtain ⟨x, hi⟩ : ∃ x, L[i]? = some x := ⟨L[i], List.getElem?_eq_getElem hlt⟩
    have hg : (L.map oav)[i]? = some (oav x) := by simp [hi]
    have e1 := wi64_s i _ hlt hl
    have hle : (i ≤ L.length) = True := eq_true (by omega)
    have ht : ((L.map oav).drop 0).take (i - 0) = (L.take i).map oav := by simp
    have hstep : allU (uniq L nm) (i + 1) = !(L.take i).any fun y => nm y == nm x := by
      rw [allU, hx, Bool.true_and, uniq_at hi, all_not]
    have hcl := fun (fr : Nat → Ob) (h3 : fr 3 = .cells [.fn (.func c) [] []]) (h6 : fr 6 = .cells x.cells) => z71 (L.take i) (by simp; omega) (fun y => nm y == nm x) 146 [.ptr 0 3 0, .ptr 0 6 0] (fr :: m) fun y _ => z146 nm c hn y x fr m h3 h6
    simp only [lt_t hlt, nneg, Int.toNat_natCast, aiaddr, hg, oav, PO.cells, n6, h0, h3, h7, h8, h9, m3, bnd, lenA, aslice, Option.getD_none, List.length_map, Nat.zero_le, Nat.le_refl, hle, true_or, Nat.sub_zero, ← List.map_take, eES, eEX, seval]
    refine aops_callF (hcl _ (by first | rfl | exact m3 | simp only [m3, eES, eEX, seval]) (by first | rfl | simp only [eES, eEX, seval])) (by simp only [List.map_cons, List.map_nil, oav, PO.cells, h3, eES, eEX, seval] <;> rfl) ?_
    cases hp : (L.take i).any fun y => nm y == nm x
    · rw [hp] at hstep
      simp only [h0, h3, h7, h8, h9, e1, eES, eEX, seval]
      exact ⟨L.length - (i + 1), by omega, _, _, i + 1, rfl, rfl, hstep, (by first | rfl | exact h0 | simp only [h0, eES, eEX, seval]), (by first | rfl | exact h3 | simp only [h3, eES, eEX, seval]), (by first | rfl | exact h7 | simp only [h7, eES, eEX, seval]), (by first | rfl | exact h8 | simp only [h8, eES, eEX, seval]), (by first | rfl | simp only [eES, eEX, seval]), (by first | rfl | exact m3 | simp only [m3, eES, eEX, seval]), by simp <;> rfl⟩
    · rw [hp] at hstep
      have hf : once L nm = false := by
        rw [Bool.eq_false_iff]
        intro h'
        rw [allU_iff.2 fun k hk => allU_iff.1 h' k (by omega)] at hstep
        cases hstep
      simp only [h0, h3, h7, h8, h9, hf, Bool.not_false, eES, eEX, seval]
  · have hf : once L nm = true := allU_iff.2 fun k hk => allU_iff.1 hx k (by omega)
    simp only [lt_f hlt, h0, h3, h7, h8, h9, hf, Bool.not_true, eES, eEX, seval]

end

theorem z147 (nm : PI → List UInt8) (c : Nat) (hn : ∀ x, Fn1 Tryz.prog c [iav x] (.str (nm x))) (y x : PI) (fr : Nat → Ob) (m : Mem) (h3 : fr 3 = .cells [.fn (.func c) [] []]) (h6 : fr 6 = .cells x.cells) :
    ACalls Tryz.prog 147 [iav y, .ptr 3 3 0, .ptr 3 6 0] (noObs :: noObs :: noObs :: fr :: m) fun r m1 => r = .bool (nm y == nm x) ∧ m1 = noObs :: noObs :: noObs :: fr :: m := by
  have hy := hn y
  have hx := hn x
  have g3 : ∀ n, AV.shN n (.fn (.func c) [] []) = .fn (.func c) [] [] := fun n => sh_fn n c
  simp only [iav, PI.cells] at hy hx h6
  refine wG Tryz.func147 ?_; simp only [eK, Tryz.f147, seval]
  simp only [iav, PI.cells, h3, h6, g3, eES, eEX, seval]
  refine aops_callW (fa := []) (fb := []) (by first | rfl | simp only [eES, eEX, seval]) hy rfl rfl rfl (.inl rfl) ?_
  simp only [h3, h6, g3, eES, eEX, seval]
  refine aops_callW (fa := []) (fb := []) (by first | rfl | simp only [eES, eEX, seval]) hx rfl rfl rfl (.inl rfl) ?_
  simp only [astr, eES, eEX, seval]

section
variable (L : List PI) (hl : L.length ≤ maxLen) (nm : PI → List UInt8) (c : Nat) (m : Mem)

def ReI (k : Nat) (st : St) : Prop :=
  ∃ f fr i, st = ⟨f, fr :: m, []⟩ ∧ k = L.length - i ∧ allU (uniq L nm) i = true ∧ f 0 = .list (L.map iav) ∧ f 3 = .ptr 0 3 0 ∧ f 7 = .list (L.map iav) ∧ f 8 = .int .i64 (L.length : Nat) ∧ f 9 = .int .i64 (i : Nat) ∧ fr 3 = .cells [.fn (.func c) [] []] ∧ ∀ s ∈ [6], (fr s).isRow = false

include hl in
theorem z92 (hn : ∀ x, Fn1 Tryz.prog c [iav x] (.str (nm x))) :
    ACalls Tryz.prog 92 [.list (L.map iav), .fn (.func c) [] []] m fun y m1 => y = .bool (!once L nm) ∧ m1 = m := by
  refine wG Tryz.func92 ?_; simp only [eK, Tryz.f92, seval]
  simp only [List.length_map, eES, eEX, seval]
  refine awp_loop (ReI L nm c m) _ ⟨_, _, 0, rfl, rfl, rfl, (by first | rfl | simp only [eES, eEX, seval]), (by first | rfl | simp only [eES, eEX, seval]), (by first | rfl | simp only [eES, eEX, seval]), (by first | rfl | simp only [eES, eEX, seval]), (by first | rfl | simp only [eES, eEX, seval]), (by first | rfl | simp only [eES, eEX, seval]), by simp <;> rfl⟩ ?_
  rintro _ st ⟨f0, fr0, i, rfl, rfl, hx, h00, h30, h70, h80, h90, m30, r6⟩
  refine awp_drops (a := _) [6] r6 ?_
  intro f fr hf hm hn6
  have h0 : f 0 = .list (L.map iav) := by rw [hf, h00] <;> rfl
  have h3 : f 3 = .ptr 0 3 0 := by rw [hf, h30] <;> rfl
  have h7 : f 7 = .list (L.map iav) := by rw [hf, h70] <;> rfl
  have h8 : f 8 = .int .i64 (L.length : Nat) := by rw [hf, h80] <;> rfl
  have h9 : f 9 = .int .i64 (i : Nat) := by rw [hf, h90] <;> rfl
  have m3 : fr 3 = .cells [.fn (.func c) [] []] := by rw [hm 3 (by decide), m30] <;> rfl
  have n6 := hn6 6 (by decide)
  clear hf hm hn6 h00 h30 h70 h80 h90 m30 r6
  simp only [h0, h3, h7, h8, h9, eES, eEX, seval]
  by_cases hlt : i < L.length
  · obtain ⟨x, hi⟩ : ∃ x, L[i]? = some x := ⟨L[i], List.getElem?_eq_getElem hlt⟩
    have hg : (L.map iav)[i]? = some (iav x) := by simp [hi]
    have e1 := wi64_s i _ hlt hl
    have hle : (i ≤ L.length) = True := eq_true (by omega)
    have ht : ((L.map iav).drop 0).take (i - 0) = (L.take i).map iav := by simp
    have hstep : allU (uniq L nm) (i + 1) = !(L.take i).any fun y => nm y == nm x := by
      rw [allU, hx, Bool.true_and, uniq_at hi, all_not]
    have hcl := fun (fr : Nat → Ob) (h3 : fr 3 = .cells [.fn (.func c) [] []]) (h6 : fr 6 = .cells x.cells) => z75 (L.take i) (by simp; omega) (fun y => nm y == nm x) 147 [.ptr 0 3 0, .ptr 0 6 0] (fr :: m) fun y _ => z147 nm c hn y x fr m h3 h6
    simp only [lt_t hlt, nneg, Int.toNat_natCast, aiaddr, hg, iav, PI.cells, n6, h0, h3, h7, h8, h9, m3, bnd, lenA, aslice, Option.getD_none, List.length_map, Nat.zero_le, Nat.le_refl, hle, true_or, Nat.sub_zero, ← List.map_take, eES, eEX, seval]
    refine aops_callF (hcl _ (by first | rfl | exact m3 | simp only [m3, eES, eEX, seval]) (by first | rfl | simp only [eES, eEX, seval])) (by simp only [List.map_cons, List.map_nil, iav, PI.cells, h3, eES, eEX, seval] <;> rfl) ?_
    cases hp : (L.take i).any fun y => nm y == nm x
    · rw [hp] at hstep
      simp only [h0, h3, h7, h8, h9, e1, eES, eEX, seval]
      exact ⟨L.length - (i + 1), by omega, _, _, i + 1, rfl, rfl, hstep, (by first | rfl | exact h0 | simp only [h0, eES, eEX, seval]), (by first | rfl | exact h3 | simp only [h3, eES, eEX, seval]), (by first | rfl | exact h7 | simp only [h7, eES, eEX, seval]), (by first | rfl | exact h8 | simp only [h8, eES, eEX, seval]), (by first | rfl | simp only [eES, eEX, seval]), (by first | rfl | exact m3 | simp only [m3, eES, eEX, seval]), by simp <;> rfl⟩
    · rw [hp] at hstep
      have hf : once L nm = false := by
        rw [Bool.eq_false_iff]
        intro h'
        rw [allU_iff.2 fun k hk => allU_iff.1 h' k (by omega)] at hstep
        cases hstep
      simp only [h0, h3, h7, h8, h9, hf, Bool.not_false, eES, eEX, seval]
  · have hf : once L nm = true := allU_iff.2 fun k hk => allU_iff.1 hx k (by omega)
    simp only [lt_f hlt, h0, h3, h7, h8, h9, hf, Bool.not_true, eES, eEX, seval]

end

theorem z90 (o : PO) : Fn1 Tryz.prog 90 [oav o] (.str o.name) := by
  refine wF Tryz.func90 ?_; simp only [eK, Tryz.f90, seval]
  simp only [oav, PO.cells, eES, eEX, seval]

theorem z93 (o : PI) : Fn1 Tryz.prog 93 [iav o] (.str o.name) := by
  refine wF Tryz.func93 ?_; simp only [eK, Tryz.f93, seval]
  simp only [iav, PI.cells, eES, eEX, seval]

theorem z88 (x : PE) (g : PG) (fr : Nat → Ob) (m : Mem) (h2 : fr 2 = .cells g.cells) : ACalls Tryz.prog 88 [eav x, .ptr 3 2 0] (noObs :: noObs :: noObs :: fr :: m) fun y m1 => y = .bool (x.name == g.name) ∧ m1 = noObs :: noObs :: noObs :: fr :: m := by
  simp only [PG.cells] at h2
  refine wG Tryz.func88 ?_; simp only [eK, Tryz.f88, seval]
  simp only [eav, PE.cells, h2, astr, eES, eEX, seval]

theorem z91 (x : PE) (hl : x.items.length ≤ maxLen) (m : Mem) : ACalls Tryz.prog 91 [eav x] m fun y m1 => y = .bool (!sin2 x) ∧ m1 = m := by
  refine wG Tryz.func91 ?_; simp only [eK, Tryz.f91, seval]
  simp only [eav, PE.cells, sin2, eES, eEX, seval]
  refine aops_callF (z92 x.items hl PI.name 93 _ z93) (by simp only [List.map_cons, List.map_nil, iav, eES, eEX, seval] <;> rfl) ?_
  simp only [eES, eEX, seval]

section
variable {M : Nat} (P : PL) (hP : P.ok M)
include hP

theorem z87 (g : PG) (hl : g.ops.length ≤ maxLen) (fr : Nat → Ob) (h1 : fr 1 = .cells [.list (P.progs.map gav), .list (P.enums.map eav)]) :
    ACalls Tryz.prog 87 [gav g, .ptr 3 1 0] [noObs, noObs, noObs, fr] fun y m1 => y = .bool (!sin1 P g) ∧ m1 = [noObs, noObs, noObs, fr] := by
  have e : sin1 P g = (!(P.enums.any fun e => e.name == g.name) && once g.ops PO.name) := by rw [sin1, all_not]
  refine wG Tryz.func87 ?_; simp only [eK, Tryz.f87, seval]
  simp only [gav, PG.cells, h1, e, eES, eEX, seval]
  refine aops_callF (z67 P.enums hP.len2 (fun e => e.name == g.name) 88 [.ptr 0 2 0] _ fun o _ => z88 o g _ _ (by first | rfl | simp only [eES, eEX, seval])) (by simp only [List.map_cons, List.map_nil, eES, eEX, seval] <;> rfl) ?_
  cases P.enums.any fun e => e.name == g.name
  · simp only [Bool.not_false, Bool.true_and, eES, eEX, seval]
    refine aops_callF (z89 g.ops hl PO.name 90 _ z90) (by simp only [List.map_cons, List.map_nil, oav, eES, eEX, seval] <;> rfl) ?_
    simp only [eES, eEX, seval]
  · simp only [Bool.not_true, Bool.false_and, Bool.not_false, eES, eEX, seval]

theorem z41 : Fn1 Tryz.prog 41 [P.av] (.bool (!sin P)) := by
  have e0 : P.av = .agg [.list (P.progs.map gav), .list (P.enums.map eav)] := rfl
  refine wF Tryz.func41 ?_; simp only [eK, Tryz.f41, seval]
  simp only [e0, sin, eES, eEX, seval]
  refine aops_callF (z65 P.progs hP.len1 (fun g => !sin1 P g) 87 [.ptr 0 1 0] _ fun o ho => z87 P hP o (hP.progs o ho).len _ (by first | rfl | simp only [eES, eEX, seval])) (by simp only [List.map_cons, List.map_nil, eES, eEX, seval] <;> rfl) ?_
  simp only [any_not, eES, eEX, seval]
  cases P.progs.all (sin1 P)
  · simp only [Bool.not_false, Bool.false_and, eES, eEX, seval]
  simp only [Bool.not_true, Bool.true_and, eES, eEX, seval]
  refine aops_callF (z67 P.enums hP.len2 (fun g => !sin2 g) 91 [] _ fun o ho => z91 o (hP.enums o ho).len1 _) (by simp only [List.map_cons, List.map_nil, eES, eEX, seval] <;> rfl) ?_
  simp only [any_not, eES, eEX, seval]

end

theorem z200 (x : PS) (n : Int) (fr : Nat → Ob) (m : Mem) (h3 : fr 3 = .cells [.int .i64 n]) : ACalls Tryz.prog 200 [spav x, .ptr 2 3 0] (noObs :: noObs :: fr :: m) fun y m1 => y = .bool (decide (x.lo ≤ n) && decide (n ≤ x.hi)) ∧ m1 = noObs :: noObs :: fr :: m := by
  refine wG Tryz.func200 ?_; simp only [eK, Tryz.f200, seval]
  simp only [spav, PS.cells, h3, eES, eEX, seval]
  cases h : decide (x.lo ≤ n) <;> simp only [h, h3, Bool.true_and, Bool.false_and, eES, eEX, seval]

theorem z149 (L : List PS) (hl : L.length ≤ maxLen) (n : Int) : Fn1 Tryz.prog 149 [.list (L.map spav), .int .i64 n] (.bool (kept L n)) := by
  refine wF Tryz.func149 ?_; simp only [eK, Tryz.f149, seval]
  simp only [eES, eEX, seval]
  refine aops_callF (z199 L hl (fun x => decide (x.lo ≤ n) && decide (n ≤ x.hi)) 200 [.ptr 0 3 0] _ fun o _ => z200 o n _ _ (by first | rfl | simp only [eES, eEX, seval])) (by simp only [List.map_cons, List.map_nil, eES, eEX, seval] <;> rfl) ?_
  simp only [kept, eES, eEX, seval]

theorem z95 (o : PO) (m : Mem) : ACalls Tryz.prog 95 [oav o] m fun y m1 => y = .bool (!rngO o) ∧ m1 = m := by
  refine wG Tryz.func95 ?_; simp only [eK, Tryz.f95, seval]
  have e1 : decide (o.num < 1) = !decide (o.num ≥ 1) := (by rw [Bool.eq_iff_iff]; simp only [decide_eq_true_eq, Bool.not_eq_true', decide_eq_false_iff_not, Bool.and_eq_true, Bool.or_eq_true, beq_iff_eq, bne_iff_ne, ne_eq]; omega)
  have e2 : decide (o.num > 65535) = !decide (o.num ≤ 65535) := (by rw [Bool.eq_iff_iff]; simp only [decide_eq_true_eq, Bool.not_eq_true', decide_eq_false_iff_not, Bool.and_eq_true, Bool.or_eq_true, beq_iff_eq, bne_iff_ne, ne_eq]; omega)
  simp only [oav, PO.cells, rngO, e1, e2, eES, eEX, seval]
  cases decide (o.num ≥ 1) <;> simp only [Bool.not_true, Bool.not_false, Bool.true_and, Bool.false_and, e2, eES, eEX, seval]

theorem z94 (g : PG) (hl : g.ops.length ≤ maxLen) (m : Mem) : ACalls Tryz.prog 94 [gav g] m fun y m1 => y = .bool (!g.ops.all rngO) ∧ m1 = m := by
  refine wG Tryz.func94 ?_; simp only [eK, Tryz.f94, seval]
  simp only [gav, PG.cells, eES, eEX, seval]
  refine aops_callF (z71 g.ops hl (fun o => !rngO o) 95 [] _ fun o _ => z95 o _) (by simp only [List.map_cons, List.map_nil, oav, eES, eEX, seval] <;> rfl) ?_
  simp only [any_not, eES, eEX, seval]

theorem z148 (o : PI) (x : PE) (hl : x.free.length ≤ maxLen) (fr : Nat → Ob) (m : Mem) (h1 : fr 1 = .cells x.cells) : ACalls Tryz.prog 148 [iav o, .ptr 3 1 0] (noObs :: noObs :: noObs :: fr :: m) fun y m1 => y = .bool (!rngI x o) ∧ m1 = noObs :: noObs :: noObs :: fr :: m := by
  have hr : Fn1 Tryz.prog 149 [.list (x.free.map fun n => AV.agg n.cells), .int .i64 o.num] (.bool (kept x.free o.num)) := z149 x.free hl o.num
  simp only [PE.cells] at h1
  refine wG Tryz.func148 ?_; simp only [eK, Tryz.f148, seval]
  have e2 : decide (o.num > 2147483647) = !decide (o.num ≤ 2147483647) := (by rw [Bool.eq_iff_iff]; simp only [decide_eq_true_eq, Bool.not_eq_true', decide_eq_false_iff_not, Bool.and_eq_true, Bool.or_eq_true, beq_iff_eq, bne_iff_ne, ne_eq]; omega)
  simp only [iav, PI.cells, rngI, h1, e2, eES, eEX, seval]
  cases decide (o.num ≤ 2147483647)
  · simp only [Bool.not_false, Bool.false_and, eES, eEX, seval]
  · simp only [Bool.not_true, Bool.true_and, h1, eES, eEX, seval]
    refine aops_call hr rfl rfl rfl (.inl rfl) ?_
    simp only [Bool.not_not, eES, eEX, seval]

def spq (l : List PS) (i : Nat) : Bool := ask l spn i && two l spt i
theorem spq_all (l : List PS) : allU (spq l) l.length = (l.all spn && adj l spt) := by
  unfold spq adj
  rw [allU_and, allU_ask]

def OuI (x : PE) (m : Mem) (k : Nat) (st : St) : Prop :=
  ∃ f fr i, st = ⟨f, fr :: m, []⟩ ∧ k = x.free.length - i ∧ allU (spq x.free) i = true ∧ f 1 = .ptr 0 1 0 ∧ f 6 = .list (x.free.map spav) ∧ f 7 = .int .i64 (x.free.length : Nat) ∧ f 8 = .int .i64 (i : Nat) ∧ fr 1 = .cells x.cells ∧ ∀ s ∈ [4], (fr s).isRow = false

theorem z96 (x : PE) (h0 : x.items ≠ []) (hl1 : x.items.length ≤ maxLen) (hl : x.free.length ≤ maxLen) (m : Mem) : ACalls Tryz.prog 96 [eav x] m fun y m1 => y = .bool (!rng2 x) ∧ m1 = m := by
  have hsp := spq_all x.free
  have z1 : Int.toNat 0 = 0 := rfl
  have z0 : (0 ≤ (0 : Int)) = True := by simp
  refine wG Tryz.func96 ?_; simp only [eK, Tryz.f96, seval]
  simp only [eav, PE.cells, List.length_map, eES, eEX, seval]
  refine awp_loop (OuI x m) _ ⟨_, _, 0, rfl, rfl, rfl, (by first | rfl | simp only [eES, eEX, seval]), (by first | rfl | simp only [eES, eEX, seval]), (by first | rfl | simp only [eES, eEX, seval]), (by first | rfl | simp only [eES, eEX, seval]), (by first | rfl | simp only [eES, eEX, seval]), by simp <;> rfl⟩ ?_
  rintro _ st ⟨f0, fr0, i, rfl, rfl, hx, h10, h60, h70, h80, m10, r4⟩
  refine awp_drops (a := _) [4] r4 ?_
  intro f fr hf hm hn4
  have h1 : f 1 = .ptr 0 1 0 := by rw [hf, h10] <;> rfl
  have h6 : f 6 = .list (x.free.map spav) := by rw [hf, h60] <;> rfl
  have h7 : f 7 = .int .i64 (x.free.length : Nat) := by rw [hf, h70] <;> rfl
  have h8 : f 8 = .int .i64 (i : Nat) := by rw [hf, h80] <;> rfl
  have m1 : fr 1 = .cells x.cells := by rw [hm 1 (by decide), m10] <;> rfl
  have n4 := hn4 4 (by decide)
  clear hf hm hn4 h10 h60 h70 h80 m10 r4
  simp only [PE.cells] at m1
  simp only [h1, h6, h7, h8, eES, eEX, seval]
  by_cases hlt : i < x.free.length
  · obtain ⟨y, hi⟩ : ∃ y, x.free[i]? = some y := ⟨x.free[i], List.getElem?_eq_getElem hlt⟩
    have hg : (x.free.map spav)[i]? = some (spav y) := by simp [hi]
    have e1 := wi64_s i _ hlt hl
    have hstep : allU (spq x.free) (i + 1) = (spn y && two x.free spt i) := by
      rw [allU, hx, Bool.true_and, spq, ask_at hi]
    have hend : allU (spq x.free) (i + 1) = false → rng2 x = false := by
      intro h
      unfold rng2
      rw [← hsp]
      have : allU (spq x.free) x.free.length = false := by
        rw [Bool.eq_false_iff]
        intro h'
        rw [allU_iff.2 fun k hk => allU_iff.1 h' k (by omega)] at h
        cases h
      rw [this]; rfl
    have fin : ∀ (f' : Fr) (fr' : Nat → Ob), allU (spq x.free) (i + 1) = true → f' 1 = .ptr 0 1 0 → f' 6 = .list (x.free.map spav) → f' 7 = .int .i64 (x.free.length : Nat) → f' 8 = .int .i64 ((i + 1 : Nat) : Int) → fr' 1 = .cells x.cells → (∀ s ∈ [4], (fr' s).isRow = false) → ∃ k, k < x.free.length - i ∧ OuI x m k ⟨f', fr' :: m, []⟩ := by
      intro f' fr' a b c d e g h
      exact ⟨x.free.length - (i + 1), by omega, f', fr', i + 1, rfl, rfl, a, b, c, d, e, g, h⟩
    have s1 : spn y = (!decide (y.lo < 0) && !decide (y.hi > 2147483647) && !decide (y.hi < y.lo)) := by
      unfold spn; exact (by rw [Bool.eq_iff_iff]; simp only [decide_eq_true_eq, Bool.not_eq_true', decide_eq_false_iff_not, Bool.and_eq_true, Bool.or_eq_true, beq_iff_eq, bne_iff_ne, ne_eq]; omega)
    rw [s1] at hstep
    simp only [lt_t hlt, nneg, Int.toNat_natCast, aiaddr, hg, spav, PS.cells, n4, h1, h6, h7, h8, m1, eES, eEX, seval]
    cases a1 : decide (y.lo < 0)
    case true =>
      rw [a1, Bool.not_true, Bool.false_and, Bool.false_and, Bool.false_and] at hstep
      simp only [a1, hend hstep, Bool.not_false, eES, eEX, seval]
    cases a2 : decide (y.hi > 2147483647)
    case true =>
      rw [a1, a2, Bool.not_true, Bool.and_false, Bool.false_and, Bool.false_and] at hstep
      simp only [a1, a2, hend hstep, Bool.not_false, h1, h8, m1, eES, eEX, seval]
    cases a3 : decide (y.hi < y.lo)
    case true =>
      rw [a1, a2, a3, Bool.not_true, Bool.and_false, Bool.false_and] at hstep
      simp only [a1, a2, a3, hend hstep, Bool.not_false, h1, h8, m1, eES, eEX, seval]
    rw [a1, a2, a3] at hstep
    simp only [Bool.not_false, Bool.true_and] at hstep
    cases i with
    | zero =>
      have d0 : decide (((0 : Nat) : Int) > 0) = false := rfl
      rw [two_zero] at hstep
      simp only [a1, a2, a3, d0, h1, h6, h7, h8, m1, e1, eES, eEX, seval]
      exact fin _ _ hstep (by first | rfl | exact h1 | simp only [h1, eES, eEX, seval]) (by first | rfl | exact h6 | simp only [h6, eES, eEX, seval]) (by first | rfl | exact h7 | simp only [h7, eES, eEX, seval]) (by first | rfl | simp only [eES, eEX, seval]) (by first | rfl | exact m1 | simp only [m1, eES, eEX, seval]) (by simp <;> rfl)
    | succ j =>
      have d0 : decide (((j + 1 : Nat) : Int) > 0) = true := decide_eq_true (by omega)
      obtain ⟨z, hj⟩ : ∃ z, x.free[j]? = some z := ⟨x.free[j]'(by omega), List.getElem?_eq_getElem (by omega)⟩
      have hgj : (x.free.map fun n => AV.agg n.cells)[j]? = some (.agg z.cells) := by simp [hj]
      simp only [PS.cells] at hgj
      rw [two_at hj hi] at hstep
      have w := wp64 j _ hlt hl
      have s2 : spt z y = !decide (y.lo ≤ z.hi) := by unfold spt; exact (by rw [Bool.eq_iff_iff]; simp only [decide_eq_true_eq, Bool.not_eq_true', decide_eq_false_iff_not, Bool.and_eq_true, Bool.or_eq_true, beq_iff_eq, bne_iff_ne, ne_eq]; omega)
      rw [s2] at hstep
      simp only [a1, a2, a3, d0, w, nneg, Int.toNat_natCast, aiaddr, hgj, PS.cells, h1, h6, h7, h8, m1, eES, eEX, seval]
      cases a4 : decide (y.lo ≤ z.hi)
      · rw [a4] at hstep
        simp only [a4, h1, h6, h7, h8, m1, e1, eES, eEX, seval]
        exact fin _ _ hstep (by first | rfl | exact h1 | simp only [h1, eES, eEX, seval]) (by first | rfl | exact h6 | simp only [h6, eES, eEX, seval]) (by first | rfl | exact h7 | simp only [h7, eES, eEX, seval]) (by first | rfl | simp only [eES, eEX, seval]) (by first | rfl | exact m1 | simp only [m1, eES, eEX, seval]) (by simp <;> rfl)
      · rw [a4] at hstep
        simp only [a4, hend hstep, Bool.not_false, h1, h6, h7, h8, m1, eES, eEX, seval]
  · have hfr : allU (spq x.free) x.free.length = true := allU_iff.2 fun k hk => allU_iff.1 hx k (by omega)
    obtain ⟨it, its, hits⟩ : ∃ it its, x.items = it :: its := by
      cases h : x.items with
      | nil => exact absurd h h0
      | cons a b => exact ⟨a, b, rfl⟩
    have hr : rng2 x = (it.num == 0 && x.items.all (rngI x)) := by
      unfold rng2
      rw [← hsp, hfr, Bool.true_and, frst, hits]
    have hg0 : (x.items.map fun n => AV.agg n.cells)[0]? = some (.agg it.cells) := by simp [hits]
    have hne : (it.num != 0) = !(it.num == 0) := rfl
    simp only [PI.cells] at hg0
    simp only [lt_f hlt, aiaddr, z0, z1, hg0, PI.cells, hr, hne, List.length_cons, List.length_nil, h1, h6, h7, h8, m1, eES, eEX, seval]
    cases it.num == 0
    · simp only [Bool.not_false, Bool.false_and, eES, eEX, seval]
    · simp only [Bool.not_true, Bool.true_and, m1, h1, eES, eEX, seval]
      refine aops_callF (z75 x.items hl1 (fun o => !rngI x o) 148 [.ptr 0 1 0] _ fun o _ => z148 o x hl _ _ (by first | rfl | exact m1 | simp only [m1, eES, eEX, seval])) (by simp only [List.map_cons, List.map_nil, h1, eES, eEX, seval] <;> rfl) ?_
      simp only [any_not, eES, eEX, seval]

theorem z42 {M : Nat} (P : PL) (hP : P.ok M) (hi : ∀ e ∈ P.enums, e.items ≠ []) : Fn1 Tryz.prog 42 [P.av] (.bool (!rng P)) := by
  have e0 : P.av = .agg [.list (P.progs.map gav), .list (P.enums.map eav)] := rfl
  refine wF Tryz.func42 ?_; simp only [eK, Tryz.f42, seval]
  simp only [e0, rng, eES, eEX, seval]
  refine aops_callF (z65 P.progs hP.len1 (fun g => !g.ops.all rngO) 94 [] _ fun o ho => z94 o (hP.progs o ho).len _) (by simp only [List.map_cons, List.map_nil, eES, eEX, seval] <;> rfl) ?_
  simp only [any_not, eES, eEX, seval]
  cases P.progs.all fun g => g.ops.all rngO
  · simp only [Bool.not_false, Bool.false_and, eES, eEX, seval]
  simp only [Bool.not_true, Bool.true_and, eES, eEX, seval]
  refine aops_callF (z67 P.enums hP.len2 (fun g => !rng2 g) 96 [] _ fun o ho => z96 o (hi o ho) (hP.enums o ho).len1 (hP.enums o ho).len2 _) (by simp only [List.map_cons, List.map_nil, eES, eEX, seval] <;> rfl) ?_
  simp only [any_not, eES, eEX, seval]

end Go.Proofs.YtdgbidbkcigkhaaGreatDoor.Va

set_option linter.unusedSimpArgs false
namespace Go.Proofs.YtdgbidbkcigkhaaGreatDoor.Va
open Go Am Rc Bt

def bt (s : List UInt8) (i lo hi : Nat) : Bool :=
  match s[i]? with
  | some b => decide (lo ≤ b.toNat) && decide (b.toNat ≤ hi)
  | none => false
def tl (s : List UInt8) : Nat → Nat → Bool
  | _, 0 => true
  | i, n + 1 => bt s i 128 191 && tl s (i + 1) n
def szb (s : List UInt8) (i b : Nat) : Nat :=
  if b < 128 then 1
  else if 194 ≤ b ∧ b ≤ 223 ∧ tl s (i + 1) 1 = true then 2
  else if b = 224 ∧ bt s (i + 1) 160 191 = true ∧ tl s (i + 2) 1 = true then 3
  else if b = 237 ∧ bt s (i + 1) 128 159 = true ∧ tl s (i + 2) 1 = true then 3
  else if 225 ≤ b ∧ b ≤ 239 ∧ b ≠ 237 ∧ tl s (i + 1) 2 = true then 3
  else if b = 240 ∧ bt s (i + 1) 144 191 = true ∧ tl s (i + 2) 2 = true then 4
  else if 241 ≤ b ∧ b ≤ 243 ∧ tl s (i + 1) 3 = true then 4
  else if b = 244 ∧ bt s (i + 1) 128 143 = true ∧ tl s (i + 2) 2 = true then 4
  else 0
def sz (s : List UInt8) (i : Nat) : Nat :=
  match s[i]? with
  | none => 0
  | some c => szb s i c.toNat
def bad (s : List UInt8) : Nat → Nat → Int
  | 0, _ => -1
  | k + 1, i => if i < s.length then (if sz s i = 0 then (i : Int) else bad s k (i + sz s i)) else -1
def vld (s : List UInt8) : Bool := decide (bad s s.length 0 < 0)

theorem geu8 (c : UInt8) (n : Nat) : decide ((c.toNat : Int) ≥ (n : Int)) = decide (n ≤ c.toNat) := by simp
theorem leu8 (c : UInt8) (n : Nat) : decide ((c.toNat : Int) ≤ (n : Int)) = decide (c.toNat ≤ n) := by simp

theorem c254 (s : List UInt8) (i lo hi : Nat) : Fn1 Tryz.prog 254 [.str s, .int .i64 (i : Nat), .int .u8 (lo : Nat), .int .u8 (hi : Nat)] (.bool (bt s i lo hi)) := by
  refine wF Tryz.func254 ?_; simp only [eK, Tryz.f254, seval]
  by_cases hlt : i < s.length
  · obtain ⟨c, hc⟩ : ∃ c, s[i]? = some c := ⟨s[i], List.getElem?_eq_getElem hlt⟩
    have hb : bt s i lo hi = (decide (lo ≤ c.toNat) && decide (c.toNat ≤ hi)) := by simp only [bt, hc]
    simp only [lt_t hlt, nneg, Int.toNat_natCast, hc, geu8, leu8, eES, eEX, seval]
    by_cases h1 : lo ≤ c.toNat
    · have d1 : decide (lo ≤ c.toNat) = true := by simpa using h1
      simp only [d1, lt_t hlt, nneg, Int.toNat_natCast, hc, hb, geu8, leu8, Bool.true_and, eES, eEX, seval]
    · have d1 : decide (lo ≤ c.toNat) = false := by simpa using h1
      simp only [d1, lt_t hlt, nneg, Int.toNat_natCast, hc, hb, geu8, leu8, Bool.false_and, eES, eEX, seval]
  · have hb : bt s i lo hi = false := by simp only [bt, List.getElem?_eq_none (Nat.le_of_not_lt hlt)]
    simp only [lt_f hlt, hb, eES, eEX, seval]

def TailI (s : List UInt8) (i n : Nat) (k : Nat) (st : St) : Prop :=
  ∃ f j, st = ⟨f, [noObs], []⟩ ∧ k = n - j ∧ j ≤ n ∧ tl s i n = tl s (i + j) (n - j) ∧ f 0 = .str s ∧ f 1 = .int .i64 (i : Nat) ∧ f 2 = .int .i64 (n : Nat) ∧ f 7 = .int .i64 (j : Nat)

theorem wadd (a b : Nat) (h : a + b ≤ maxLen) : IntKind.i64.wrap ((a : Int) + (b : Int)) = ((a + b : Nat) : Int) := by
  simp only [maxLen] at h
  rw [wi64]; omega

theorem c253 (s : List UInt8) (i n : Nat) (hi : i + n ≤ maxLen) : Fn1 Tryz.prog 253 [.str s, .int .i64 (i : Nat), .int .i64 (n : Nat)] (.bool (tl s i n)) := by
  refine wF Tryz.func253 ?_; simp only [eK, Tryz.f253, seval]
  simp only [eES, eEX, seval]
  refine awp_loop (TailI s i n) _ ⟨_, 0, rfl, rfl, Nat.zero_le _, rfl, rfl, rfl, rfl, rfl⟩ ?_
  rintro _ st ⟨f, j, rfl, rfl, hj, ht, h0, h1, h2, h7⟩
  simp only [h0, h1, h2, h7, eES, eEX, seval]
  by_cases hlt : j < n
  · have e0 := wadd i j (by omega)
    have e1 := wi64_s j _ hlt (by omega)
    simp only [lt_t hlt, h0, h1, h2, h7, e0, eES, eEX, seval]
    refine aops_call (c254 s (i + j) 128 191) rfl rfl rfl (.inl rfl) ?_
    have hs : tl s i n = (bt s (i + j) 128 191 && tl s (i + (j + 1)) (n - (j + 1))) := by
      rw [ht]
      obtain ⟨m, hm⟩ : ∃ m, n - j = m + 1 := ⟨n - j - 1, by omega⟩
      rw [hm, show n - (j + 1) = m by omega]
      rfl
    cases hb : bt s (i + j) 128 191
    · rw [hb] at hs
      simp only [hs, Bool.false_and, eES, eEX, seval]
    · rw [hb, Bool.true_and] at hs
      simp only [h0, h1, h2, h7, e1, eES, eEX, seval]
      exact ⟨n - (j + 1), by omega, _, j + 1, rfl, rfl, by omega, hs, (by first | rfl | exact h0 | simp only [h0, eES, eEX, seval]), (by first | rfl | exact h1 | simp only [h1, eES, eEX, seval]), (by first | rfl | exact h2 | simp only [h2, eES, eEX, seval]), (by first | rfl | simp only [eES, eEX, seval])⟩
  · have hs : tl s i n = true := by
      rw [ht, show n - j = 0 by omega]
      rfl
    simp only [lt_f hlt, h0, h1, h2, h7, hs, eES, eEX, seval]

def Stg (s : List UInt8) (i : Nat) (c : UInt8) (D : Nat) (cond : Prop) (g : List Am.Item) : Prop :=
  ∀ Q : St → Prop, (∀ f' B, (B = true ↔ cond) → f' 0 = .str s → f' 1 = .int .i64 (i : Nat) → f' 5 = .int .u8 (c.toNat : Nat) → f' D = .bool B → Q ⟨f', [noObs], []⟩) →
    ∀ f, f 0 = .str s → f 1 = .int .i64 (i : Nat) → f 5 = .int .u8 (c.toNat : Nat) → aops Tryz.prog g ⟨f, [noObs], []⟩ Q

section
variable {s : List UInt8} {i : Nat} {c : UInt8} (hi : i < s.length) (hs : s.length + 8 ≤ maxLen)
include hi hs

theorem stg4 : Stg s i c 12 (194 ≤ c.toNat ∧ c.toNat ≤ 223 ∧ tl s (i + 1) 1 = true) g193_4 := by
  intro Q hQ f h0 h1 h5
  have e1 : IntKind.i64.wrap ((i : Int) + 1) = ((i + 1 : Nat) : Int) := wadd i 1 (by omega)
  have e2 : IntKind.i64.wrap ((i : Int) + 2) = ((i + 2 : Nat) : Int) := wadd i 2 (by omega)
  simp only [g193_0, g193_1, g193_2, g193_3, g193_4, g193_5, g193_6, g193_7, g193_8, g193_9, g193_10, g193_11, g193_12, g193_13, g193_14, g193_15, g193_16, g193_17, g193_18, r193, o193, h0, h1, h5, eES, eEX, seval]
  repeat' (first | (refine csel_of (fun h => ?_) (fun h => ?_) <;> simp only [h, h0, h1, h5, e1, e2, eES, eEX, seval]) | (refine gsel_t (fun h => ?_) (fun h => ?_) <;> simp only [h, updO, h0, h1, h5, e1, e2, eES, eEX, seval]) | (refine gsel_f (fun h => ?_) (fun h => ?_) <;> simp only [h, updO, h0, h1, h5, e1, e2, eES, eEX, seval]) | ((with_reducible apply aops_call (k := 253)); (case hy => rfl); (case h1 => rfl); (case hk => exact c253 s (i + 1) 1 (by omega)); (case h2 => rfl); (case h3 => first | exact .inl rfl | exact .inr rfl); simp only [h0, h1, h5, e1, e2, eES, eEX, seval]))
  all_goals (refine hQ _ _ ?_ (by first | rfl | exact h0 | simp only [h0, eES, eEX, seval]) (by first | rfl | exact h1 | simp only [h1, eES, eEX, seval]) (by first | rfl | exact h5 | simp only [h5, eES, eEX, seval]) rfl)
  all_goals simp only [decide_eq_true_eq, decide_eq_false_iff_not, beq_iff_eq, bne_iff_ne, beq_eq_false_iff_ne, bne_eq_false_iff_eq, ne_eq, ge_iff_le] at *
  all_goals
    constructor
    · intro hh
      first
        | cases hh
        | (refine ⟨by omega, ?_⟩; first | exact hh | (refine ⟨by omega, ?_⟩; first | exact hh | (refine ⟨by omega, ?_⟩; exact hh)) | exact ⟨by assumption, hh⟩)
    · intro hh
      first
        | exact hh.2.2.2
        | exact hh.2.2
        | (exfalso; omega)
        | (exfalso; simp_all; done)

theorem stg6 : Stg s i c 25 (c.toNat = 224 ∧ bt s (i + 1) 160 191 = true ∧ tl s (i + 2) 1 = true) g193_6 := by
  intro Q hQ f h0 h1 h5
  have e1 : IntKind.i64.wrap ((i : Int) + 1) = ((i + 1 : Nat) : Int) := wadd i 1 (by omega)
  have e2 : IntKind.i64.wrap ((i : Int) + 2) = ((i + 2 : Nat) : Int) := wadd i 2 (by omega)
  simp only [g193_0, g193_1, g193_2, g193_3, g193_4, g193_5, g193_6, g193_7, g193_8, g193_9, g193_10, g193_11, g193_12, g193_13, g193_14, g193_15, g193_16, g193_17, g193_18, r193, o193, h0, h1, h5, eES, eEX, seval]
  repeat' (first | (refine csel_of (fun h => ?_) (fun h => ?_) <;> simp only [h, h0, h1, h5, e1, e2, eES, eEX, seval]) | (refine gsel_t (fun h => ?_) (fun h => ?_) <;> simp only [h, updO, h0, h1, h5, e1, e2, eES, eEX, seval]) | (refine gsel_f (fun h => ?_) (fun h => ?_) <;> simp only [h, updO, h0, h1, h5, e1, e2, eES, eEX, seval]) | ((with_reducible apply aops_call (k := 254)); (case hy => rfl); (case h1 => rfl); (case hk => exact c254 s (i + 1) 160 191); (case h2 => rfl); (case h3 => first | exact .inl rfl | exact .inr rfl); simp only [h0, h1, h5, e1, e2, eES, eEX, seval]) | ((with_reducible apply aops_call (k := 253)); (case hy => rfl); (case h1 => rfl); (case hk => exact c253 s (i + 2) 1 (by omega)); (case h2 => rfl); (case h3 => first | exact .inl rfl | exact .inr rfl); simp only [h0, h1, h5, e1, e2, eES, eEX, seval]))
  all_goals (refine hQ _ _ ?_ (by first | rfl | exact h0 | simp only [h0, eES, eEX, seval]) (by first | rfl | exact h1 | simp only [h1, eES, eEX, seval]) (by first | rfl | exact h5 | simp only [h5, eES, eEX, seval]) rfl)
  all_goals simp only [decide_eq_true_eq, decide_eq_false_iff_not, beq_iff_eq, bne_iff_ne, beq_eq_false_iff_ne, bne_eq_false_iff_eq, ne_eq, ge_iff_le] at *
  all_goals
    constructor
    · intro hh
      first
        | cases hh
        | (refine ⟨by omega, ?_⟩; first | exact hh | (refine ⟨by omega, ?_⟩; first | exact hh | (refine ⟨by omega, ?_⟩; exact hh)) | exact ⟨by assumption, hh⟩)
    · intro hh
      first
        | exact hh.2.2.2
        | exact hh.2.2
        | (exfalso; omega)
        | (exfalso; simp_all; done)

theorem stg8 : Stg s i c 40 (c.toNat = 237 ∧ bt s (i + 1) 128 159 = true ∧ tl s (i + 2) 1 = true) g193_8 := by
  intro Q hQ f h0 h1 h5
  have e1 : IntKind.i64.wrap ((i : Int) + 1) = ((i + 1 : Nat) : Int) := wadd i 1 (by omega)
  have e2 : IntKind.i64.wrap ((i : Int) + 2) = ((i + 2 : Nat) : Int) := wadd i 2 (by omega)
  simp only [g193_0, g193_1, g193_2, g193_3, g193_4, g193_5, g193_6, g193_7, g193_8, g193_9, g193_10, g193_11, g193_12, g193_13, g193_14, g193_15, g193_16, g193_17, g193_18, r193, o193, h0, h1, h5, eES, eEX, seval]
  repeat' (first | (refine csel_of (fun h => ?_) (fun h => ?_) <;> simp only [h, h0, h1, h5, e1, e2, eES, eEX, seval]) | (refine gsel_t (fun h => ?_) (fun h => ?_) <;> simp only [h, updO, h0, h1, h5, e1, e2, eES, eEX, seval]) | (refine gsel_f (fun h => ?_) (fun h => ?_) <;> simp only [h, updO, h0, h1, h5, e1, e2, eES, eEX, seval]) | ((with_reducible apply aops_call (k := 254)); (case hy => rfl); (case h1 => rfl); (case hk => exact c254 s (i + 1) 128 159); (case h2 => rfl); (case h3 => first | exact .inl rfl | exact .inr rfl); simp only [h0, h1, h5, e1, e2, eES, eEX, seval]) | ((with_reducible apply aops_call (k := 253)); (case hy => rfl); (case h1 => rfl); (case hk => exact c253 s (i + 2) 1 (by omega)); (case h2 => rfl); (case h3 => first | exact .inl rfl | exact .inr rfl); simp only [h0, h1, h5, e1, e2, eES, eEX, seval]))
  all_goals (refine hQ _ _ ?_ (by first | rfl | exact h0 | simp only [h0, eES, eEX, seval]) (by first | rfl | exact h1 | simp only [h1, eES, eEX, seval]) (by first | rfl | exact h5 | simp only [h5, eES, eEX, seval]) rfl)
  all_goals simp only [decide_eq_true_eq, decide_eq_false_iff_not, beq_iff_eq, bne_iff_ne, beq_eq_false_iff_ne, bne_eq_false_iff_eq, ne_eq, ge_iff_le] at *
  all_goals
    constructor
    · intro hh
      first
        | cases hh
        | (refine ⟨by omega, ?_⟩; first | exact hh | (refine ⟨by omega, ?_⟩; first | exact hh | (refine ⟨by omega, ?_⟩; exact hh)) | exact ⟨by assumption, hh⟩)
    · intro hh
      first
        | exact hh.2.2.2
        | exact hh.2.2
        | (exfalso; omega)
        | (exfalso; simp_all; done)

theorem stg10 : Stg s i c 55 (225 ≤ c.toNat ∧ c.toNat ≤ 239 ∧ c.toNat ≠ 237 ∧ tl s (i + 1) 2 = true) g193_10 := by
  intro Q hQ f h0 h1 h5
  have e1 : IntKind.i64.wrap ((i : Int) + 1) = ((i + 1 : Nat) : Int) := wadd i 1 (by omega)
  have e2 : IntKind.i64.wrap ((i : Int) + 2) = ((i + 2 : Nat) : Int) := wadd i 2 (by omega)
  simp only [g193_0, g193_1, g193_2, g193_3, g193_4, g193_5, g193_6, g193_7, g193_8, g193_9, g193_10, g193_11, g193_12, g193_13, g193_14, g193_15, g193_16, g193_17, g193_18, r193, o193, h0, h1, h5, eES, eEX, seval]
  repeat' (first | (refine csel_of (fun h => ?_) (fun h => ?_) <;> simp only [h, h0, h1, h5, e1, e2, eES, eEX, seval]) | (refine gsel_t (fun h => ?_) (fun h => ?_) <;> simp only [h, updO, h0, h1, h5, e1, e2, eES, eEX, seval]) | (refine gsel_f (fun h => ?_) (fun h => ?_) <;> simp only [h, updO, h0, h1, h5, e1, e2, eES, eEX, seval]) | ((with_reducible apply aops_call (k := 253)); (case hy => rfl); (case h1 => rfl); (case hk => exact c253 s (i + 1) 2 (by omega)); (case h2 => rfl); (case h3 => first | exact .inl rfl | exact .inr rfl); simp only [h0, h1, h5, e1, e2, eES, eEX, seval]))
  all_goals (refine hQ _ _ ?_ (by first | rfl | exact h0 | simp only [h0, eES, eEX, seval]) (by first | rfl | exact h1 | simp only [h1, eES, eEX, seval]) (by first | rfl | exact h5 | simp only [h5, eES, eEX, seval]) rfl)
  all_goals simp only [decide_eq_true_eq, decide_eq_false_iff_not, beq_iff_eq, bne_iff_ne, beq_eq_false_iff_ne, bne_eq_false_iff_eq, ne_eq, ge_iff_le] at *
  all_goals
    constructor
    · intro hh
      first
        | cases hh
        | (refine ⟨by omega, ?_⟩; first | exact hh | (refine ⟨by omega, ?_⟩; first | exact hh | (refine ⟨by omega, ?_⟩; exact hh)) | exact ⟨by assumption, hh⟩)
    · intro hh
      first
        | exact hh.2.2.2
        | exact hh.2.2
        | (exfalso; omega)
        | (exfalso; simp_all; done)

theorem stg12 : Stg s i c 72 (c.toNat = 240 ∧ bt s (i + 1) 144 191 = true ∧ tl s (i + 2) 2 = true) g193_12 := by
  intro Q hQ f h0 h1 h5
  have e1 : IntKind.i64.wrap ((i : Int) + 1) = ((i + 1 : Nat) : Int) := wadd i 1 (by omega)
  have e2 : IntKind.i64.wrap ((i : Int) + 2) = ((i + 2 : Nat) : Int) := wadd i 2 (by omega)
  simp only [g193_0, g193_1, g193_2, g193_3, g193_4, g193_5, g193_6, g193_7, g193_8, g193_9, g193_10, g193_11, g193_12, g193_13, g193_14, g193_15, g193_16, g193_17, g193_18, r193, o193, h0, h1, h5, eES, eEX, seval]
  repeat' (first | (refine csel_of (fun h => ?_) (fun h => ?_) <;> simp only [h, h0, h1, h5, e1, e2, eES, eEX, seval]) | (refine gsel_t (fun h => ?_) (fun h => ?_) <;> simp only [h, updO, h0, h1, h5, e1, e2, eES, eEX, seval]) | (refine gsel_f (fun h => ?_) (fun h => ?_) <;> simp only [h, updO, h0, h1, h5, e1, e2, eES, eEX, seval]) | ((with_reducible apply aops_call (k := 254)); (case hy => rfl); (case h1 => rfl); (case hk => exact c254 s (i + 1) 144 191); (case h2 => rfl); (case h3 => first | exact .inl rfl | exact .inr rfl); simp only [h0, h1, h5, e1, e2, eES, eEX, seval]) | ((with_reducible apply aops_call (k := 253)); (case hy => rfl); (case h1 => rfl); (case hk => exact c253 s (i + 2) 2 (by omega)); (case h2 => rfl); (case h3 => first | exact .inl rfl | exact .inr rfl); simp only [h0, h1, h5, e1, e2, eES, eEX, seval]))
  all_goals (refine hQ _ _ ?_ (by first | rfl | exact h0 | simp only [h0, eES, eEX, seval]) (by first | rfl | exact h1 | simp only [h1, eES, eEX, seval]) (by first | rfl | exact h5 | simp only [h5, eES, eEX, seval]) rfl)
  all_goals simp only [decide_eq_true_eq, decide_eq_false_iff_not, beq_iff_eq, bne_iff_ne, beq_eq_false_iff_ne, bne_eq_false_iff_eq, ne_eq, ge_iff_le] at *
  all_goals
    constructor
    · intro hh
      first
        | cases hh
        | (refine ⟨by omega, ?_⟩; first | exact hh | (refine ⟨by omega, ?_⟩; first | exact hh | (refine ⟨by omega, ?_⟩; exact hh)) | exact ⟨by assumption, hh⟩)
    · intro hh
      first
        | exact hh.2.2.2
        | exact hh.2.2
        | (exfalso; omega)
        | (exfalso; simp_all; done)

theorem stg14 : Stg s i c 87 (241 ≤ c.toNat ∧ c.toNat ≤ 243 ∧ tl s (i + 1) 3 = true) g193_14 := by
  intro Q hQ f h0 h1 h5
  have e1 : IntKind.i64.wrap ((i : Int) + 1) = ((i + 1 : Nat) : Int) := wadd i 1 (by omega)
  have e2 : IntKind.i64.wrap ((i : Int) + 2) = ((i + 2 : Nat) : Int) := wadd i 2 (by omega)
  simp only [g193_0, g193_1, g193_2, g193_3, g193_4, g193_5, g193_6, g193_7, g193_8, g193_9, g193_10, g193_11, g193_12, g193_13, g193_14, g193_15, g193_16, g193_17, g193_18, r193, o193, h0, h1, h5, eES, eEX, seval]
  repeat' (first | (refine csel_of (fun h => ?_) (fun h => ?_) <;> simp only [h, h0, h1, h5, e1, e2, eES, eEX, seval]) | (refine gsel_t (fun h => ?_) (fun h => ?_) <;> simp only [h, updO, h0, h1, h5, e1, e2, eES, eEX, seval]) | (refine gsel_f (fun h => ?_) (fun h => ?_) <;> simp only [h, updO, h0, h1, h5, e1, e2, eES, eEX, seval]) | ((with_reducible apply aops_call (k := 253)); (case hy => rfl); (case h1 => rfl); (case hk => exact c253 s (i + 1) 3 (by omega)); (case h2 => rfl); (case h3 => first | exact .inl rfl | exact .inr rfl); simp only [h0, h1, h5, e1, e2, eES, eEX, seval]))
  all_goals (refine hQ _ _ ?_ (by first | rfl | exact h0 | simp only [h0, eES, eEX, seval]) (by first | rfl | exact h1 | simp only [h1, eES, eEX, seval]) (by first | rfl | exact h5 | simp only [h5, eES, eEX, seval]) rfl)
  all_goals simp only [decide_eq_true_eq, decide_eq_false_iff_not, beq_iff_eq, bne_iff_ne, beq_eq_false_iff_ne, bne_eq_false_iff_eq, ne_eq, ge_iff_le] at *
  all_goals
    constructor
    · intro hh
      first
        | cases hh
        | (refine ⟨by omega, ?_⟩; first | exact hh | (refine ⟨by omega, ?_⟩; first | exact hh | (refine ⟨by omega, ?_⟩; exact hh)) | exact ⟨by assumption, hh⟩)
    · intro hh
      first
        | exact hh.2.2.2
        | exact hh.2.2
        | (exfalso; omega)
        | (exfalso; simp_all; done)

theorem stg16 : Stg s i c 100 (c.toNat = 244 ∧ bt s (i + 1) 128 143 = true ∧ tl s (i + 2) 2 = true) g193_16 := by
  intro Q hQ f h0 h1 h5
  have e1 : IntKind.i64.wrap ((i : Int) + 1) = ((i + 1 : Nat) : Int) := wadd i 1 (by omega)
  have e2 : IntKind.i64.wrap ((i : Int) + 2) = ((i + 2 : Nat) : Int) := wadd i 2 (by omega)
  simp only [g193_0, g193_1, g193_2, g193_3, g193_4, g193_5, g193_6, g193_7, g193_8, g193_9, g193_10, g193_11, g193_12, g193_13, g193_14, g193_15, g193_16, g193_17, g193_18, r193, o193, h0, h1, h5, eES, eEX, seval]
  repeat' (first | (refine csel_of (fun h => ?_) (fun h => ?_) <;> simp only [h, h0, h1, h5, e1, e2, eES, eEX, seval]) | (refine gsel_t (fun h => ?_) (fun h => ?_) <;> simp only [h, updO, h0, h1, h5, e1, e2, eES, eEX, seval]) | (refine gsel_f (fun h => ?_) (fun h => ?_) <;> simp only [h, updO, h0, h1, h5, e1, e2, eES, eEX, seval]) | ((with_reducible apply aops_call (k := 254)); (case hy => rfl); (case h1 => rfl); (case hk => exact c254 s (i + 1) 128 143); (case h2 => rfl); (case h3 => first | exact .inl rfl | exact .inr rfl); simp only [h0, h1, h5, e1, e2, eES, eEX, seval]) | ((with_reducible apply aops_call (k := 253)); (case hy => rfl); (case h1 => rfl); (case hk => exact c253 s (i + 2) 2 (by omega)); (case h2 => rfl); (case h3 => first | exact .inl rfl | exact .inr rfl); simp only [h0, h1, h5, e1, e2, eES, eEX, seval]))
  all_goals (refine hQ _ _ ?_ (by first | rfl | exact h0 | simp only [h0, eES, eEX, seval]) (by first | rfl | exact h1 | simp only [h1, eES, eEX, seval]) (by first | rfl | exact h5 | simp only [h5, eES, eEX, seval]) rfl)
  all_goals simp only [decide_eq_true_eq, decide_eq_false_iff_not, beq_iff_eq, bne_iff_ne, beq_eq_false_iff_ne, bne_eq_false_iff_eq, ne_eq, ge_iff_le] at *
  all_goals
    constructor
    · intro hh
      first
        | cases hh
        | (refine ⟨by omega, ?_⟩; first | exact hh | (refine ⟨by omega, ?_⟩; first | exact hh | (refine ⟨by omega, ?_⟩; exact hh)) | exact ⟨by assumption, hh⟩)
    · intro hh
      first
        | exact hh.2.2.2
        | exact hh.2.2
        | (exfalso; omega)
        | (exfalso; simp_all; done)

end

theorem c193 (s : List UInt8) (i : Nat) (hi : i < s.length) (hs : s.length + 8 ≤ maxLen) : Fn1 Tryz.prog 193 [.str s, .int .i64 (i : Nat)] (.int .i64 (sz s i : Nat)) := by
  refine k193.fn (by simp) ?_
  obtain ⟨c, hc⟩ : ∃ c, s[i]? = some c := ⟨s[i], List.getElem?_eq_getElem hi⟩
  have hz : sz s i = szb s i c.toNat := by simp only [sz, hc]
  unfold szb at hz
  simp only [g193_0, g193_1, g193_2, g193_3, g193_5, g193_7, g193_9, g193_11, g193_13, g193_15, g193_17, g193_18, r193, o193, nneg, Int.toNat_natCast, hc, eES, eEX, seval]
  refine csel_of (fun h => ?_) (fun h => ?_)
  · have h : c.toNat < 128 := by simp at h; omega
    rw [hz, if_pos h]
    simp only [eES, eEX, seval]
    try rfl
  have h : ¬ c.toNat < 128 := by simp at h; omega
  rw [hz, if_neg h]
  simp only [eES, eEX, seval]
  refine stg4 hi hs _ (fun f B hB h0 h1 h5 hd => ?_) _ (by first | rfl | simp only [eES, eEX, seval]) (by first | rfl | simp only [eES, eEX, seval]) (by first | rfl | simp only [eES, eEX, seval])
  by_cases hB1 : B = true
  · rw [if_pos (hB.1 hB1)]
    subst hB1
    simp only [hd, h0, h1, h5, eES, eEX, seval]
    try rfl
  rw [if_neg (fun hh => hB1 (hB.2 hh))]
  have hB2 : B = false := by simpa using hB1
  subst hB2
  simp only [hd, h0, h1, h5, eES, eEX, seval]
  refine stg6 hi hs _ (fun f B hB h0 h1 h5 hd => ?_) _ (by first | rfl | exact h0 | simp only [h0, eES, eEX, seval]) (by first | rfl | exact h1 | simp only [h1, eES, eEX, seval]) (by first | rfl | exact h5 | simp only [h5, eES, eEX, seval])
  by_cases hB1 : B = true
  · rw [if_pos (hB.1 hB1)]
    subst hB1
    simp only [hd, h0, h1, h5, eES, eEX, seval]
    try rfl
  rw [if_neg (fun hh => hB1 (hB.2 hh))]
  have hB2 : B = false := by simpa using hB1
  subst hB2
  simp only [hd, h0, h1, h5, eES, eEX, seval]
  refine stg8 hi hs _ (fun f B hB h0 h1 h5 hd => ?_) _ (by first | rfl | exact h0 | simp only [h0, eES, eEX, seval]) (by first | rfl | exact h1 | simp only [h1, eES, eEX, seval]) (by first | rfl | exact h5 | simp only [h5, eES, eEX, seval])
  by_cases hB1 : B = true
  · rw [if_pos (hB.1 hB1)]
    subst hB1
    simp only [hd, h0, h1, h5, eES, eEX, seval]
    try rfl
  rw [if_neg (fun hh => hB1 (hB.2 hh))]
  have hB2 : B = false := by simpa using hB1
  subst hB2
  simp only [hd, h0, h1, h5, eES, eEX, seval]
  refine stg10 hi hs _ (fun f B hB h0 h1 h5 hd => ?_) _ (by first | rfl | exact h0 | simp only [h0, eES, eEX, seval]) (by first | rfl | exact h1 | simp only [h1, eES, eEX, seval]) (by first | rfl | exact h5 | simp only [h5, eES, eEX, seval])
  by_cases hB1 : B = true
  · rw [if_pos (hB.1 hB1)]
    subst hB1
    simp only [hd, h0, h1, h5, eES, eEX, seval]
    try rfl
  rw [if_neg (fun hh => hB1 (hB.2 hh))]
  have hB2 : B = false := by simpa using hB1
  subst hB2
  simp only [hd, h0, h1, h5, eES, eEX, seval]
  refine stg12 hi hs _ (fun f B hB h0 h1 h5 hd => ?_) _ (by first | rfl | exact h0 | simp only [h0, eES, eEX, seval]) (by first | rfl | exact h1 | simp only [h1, eES, eEX, seval]) (by first | rfl | exact h5 | simp only [h5, eES, eEX, seval])
  by_cases hB1 : B = true
  · rw [if_pos (hB.1 hB1)]
    subst hB1
    simp only [hd, h0, h1, h5, eES, eEX, seval]
    try rfl
  rw [if_neg (fun hh => hB1 (hB.2 hh))]
  have hB2 : B = false := by simpa using hB1
  subst hB2
  simp only [hd, h0, h1, h5, eES, eEX, seval]
  refine stg14 hi hs _ (fun f B hB h0 h1 h5 hd => ?_) _ (by first | rfl | exact h0 | simp only [h0, eES, eEX, seval]) (by first | rfl | exact h1 | simp only [h1, eES, eEX, seval]) (by first | rfl | exact h5 | simp only [h5, eES, eEX, seval])
  by_cases hB1 : B = true
  · rw [if_pos (hB.1 hB1)]
    subst hB1
    simp only [hd, h0, h1, h5, eES, eEX, seval]
    try rfl
  rw [if_neg (fun hh => hB1 (hB.2 hh))]
  have hB2 : B = false := by simpa using hB1
  subst hB2
  simp only [hd, h0, h1, h5, eES, eEX, seval]
  refine stg16 hi hs _ (fun f B hB h0 h1 h5 hd => ?_) _ (by first | rfl | exact h0 | simp only [h0, eES, eEX, seval]) (by first | rfl | exact h1 | simp only [h1, eES, eEX, seval]) (by first | rfl | exact h5 | simp only [h5, eES, eEX, seval])
  by_cases hB1 : B = true
  · rw [if_pos (hB.1 hB1)]
    subst hB1
    simp only [hd, h0, h1, h5, eES, eEX, seval]
    try rfl
  rw [if_neg (fun hh => hB1 (hB.2 hh))]
  have hB2 : B = false := by simpa using hB1
  subst hB2
  simp only [hd, h0, h1, h5, eES, eEX, seval]
  try rfl

end Go.Proofs.YtdgbidbkcigkhaaGreatDoor.Va

set_option linter.unusedSimpArgs false
namespace Go.Proofs.YtdgbidbkcigkhaaGreatDoor.Va
open Go Am Rc Bt

theorem sz_le (s : List UInt8) (i : Nat) (hi : i < s.length) (_h : sz s i ≠ 0) : i + sz s i ≤ s.length := by
  have tl1 : ∀ n j, tl s j n = true → n ≠ 0 → j + n ≤ s.length := by
    intro n
    induction n with
    | zero => intro j _ h; exact absurd rfl h
    | succ n ih =>
      intro j hj _
      simp only [tl, Bool.and_eq_true] at hj
      have hb : j < s.length := by
        have h1 := hj.1
        unfold bt at h1
        split at h1
        · rename_i b hb
          exact (List.getElem?_eq_some_iff.1 hb).1
        · cases h1
      by_cases h0 : n = 0
      · subst h0; omega
      · have := ih (j + 1) hj.2 h0
        omega
  obtain ⟨c, hc⟩ : ∃ c, s[i]? = some c := ⟨s[i], List.getElem?_eq_getElem hi⟩
  simp only [sz, hc] at _h ⊢
  unfold szb at _h ⊢
  (repeat' split) <;> first
    | omega
    | (rename_i hh; have := tl1 _ _ hh.2.2 (by decide); omega)
    | (rename_i hh; have := tl1 _ _ hh.2.2.2 (by decide); omega)
    | simp_all

def BadI (s : List UInt8) (k : Nat) (st : St) : Prop :=
  ∃ f i, st = ⟨f, [noObs], []⟩ ∧ i ≤ s.length ∧ s.length - i ≤ k ∧ bad s s.length 0 = bad s k i ∧ f 0 = .str s ∧ f 3 = .int .i64 (i : Nat)

theorem c136 (s : List UInt8) (hs : s.length + 8 ≤ maxLen) : Fn1 Tryz.prog 136 [.str s] (.int .i64 (bad s s.length 0)) := by
  refine wF Tryz.func136 ?_; simp only [eK, Tryz.f136, seval]
  simp only [eES, eEX, seval]
  refine awp_loop (BadI s) s.length ⟨_, 0, rfl, Nat.zero_le _, Nat.le_refl _, rfl, rfl, rfl⟩ ?_
  rintro k st ⟨f, i, rfl, hi, hk, hb, h0, h3⟩
  simp only [h0, h3, eES, eEX, seval]
  by_cases hlt : i < s.length
  · simp only [lt_t hlt, h0, h3, eES, eEX, seval]
    refine aops_call (c193 s i hlt hs) rfl rfl rfl (.inl rfl) ?_
    obtain ⟨k, rfl⟩ : ∃ n, k = n + 1 := ⟨k - 1, by omega⟩
    have hbk : bad s (k + 1) i = if sz s i = 0 then (i : Int) else bad s k (i + sz s i) := by
      show (if i < s.length then _ else _) = _
      rw [if_pos hlt]
    by_cases hz : sz s i = 0
    · have b0 : ((sz s i : Int) == 0) = true := by simp [hz]
      simp only [b0, h0, h3, hb, hbk, if_pos hz, eES, eEX, seval]
    · have b0 : ((sz s i : Int) == 0) = false := by simp; omega
      have hle := sz_le s i hlt hz
      have e0 := wadd i (sz s i) (by omega)
      simp only [b0, h0, h3, e0, eES, eEX, seval]
      exact ⟨k, by omega, _, i + sz s i, rfl, hle, by omega, by rw [hb, hbk, if_neg hz], (by first | rfl | exact h0 | simp only [h0, eES, eEX, seval]), (by first | rfl | simp only [eES, eEX, seval])⟩
  · have hbk : bad s k i = -1 := by
      cases k with
      | zero => rfl
      | succ k =>
        show (if i < s.length then _ else _) = _
        rw [if_neg hlt]
    simp only [lt_f hlt, h0, h3, hb, hbk, eES, eEX, seval]

theorem c63 (s : List UInt8) (hs : s.length + 8 ≤ maxLen) : Fn1 Tryz.prog 63 [.str s] (.bool (vld s)) := by
  refine wF Tryz.func63 ?_; simp only [eK, Tryz.f63, seval]
  simp only [eES, eEX, seval]
  refine aops_call (c136 s hs) rfl rfl rfl (.inl rfl) ?_
  simp only [eES, eEX, seval]
  try rfl

def repl (s : List UInt8) (i : Nat) : Bool := (s.drop i).take 3 == [239, 191, 189]

theorem c308 (s t : List UInt8) : Fn1 Tryz.prog 308 [.str s, .str t] (.bool (s.take t.length == t)) := by
  refine wF Tryz.func308 ?_; simp only [eK, Tryz.f308, seval]
  by_cases h : t.length ≤ s.length
  · have d0 : decide ((s.length : Int) ≥ (t.length : Int)) = true := by simp; omega
    have s1 : (0 ≤ t.length ∧ t.length ≤ s.length) = True := by simp; omega
    simp only [d0, nneg, s1, Int.toNat_natCast, astr, Nat.sub_zero, List.drop_zero, eES, eEX, seval]
  · have d0 : decide ((s.length : Int) ≥ (t.length : Int)) = false := by simp; omega
    have e0 : (s.take t.length == t) = false := by
      rw [beq_eq_false_iff_ne]
      intro hh
      have := congrArg List.length hh
      simp at this
      omega
    simp only [d0, e0, eES, eEX, seval]

theorem c259 (s t : List UInt8) : Fn1 Tryz.prog 259 [.str s, .str t] (.bool (s.take t.length == t)) := by
  refine wF Tryz.func259 ?_; simp only [eK, Tryz.f259, seval]
  simp only [eES, eEX, seval]
  refine aops_call (c308 s t) rfl rfl rfl (.inl rfl) ?_
  simp only [eES, eEX, seval]

theorem c201 (s : List UInt8) (i : Nat) (hi : i ≤ s.length) (c : Nat) : Fn1 Tryz.prog 201 [.str s, .int .i64 (i : Nat), .int .i32 (c : Nat)] (.bool (decide (c = 65533) && !repl s i)) := by
  refine wF Tryz.func201 ?_; simp only [eK, Tryz.f201, seval]
  by_cases hc : c = 65533
  · have b0 : ((c : Int) == 65533) = true := by simp [hc]
    have s1 : (i ≤ s.length ∧ s.length ≤ s.length) = True := by simp; omega
    simp only [b0, nneg, s1, Int.toNat_natCast, eES, eEX, seval]
    refine aops_call (c259 (List.take (s.length - i) (List.drop i s)) [239, 191, 189]) rfl rfl rfl (.inl rfl) ?_
    have ht : List.take (s.length - i) (List.drop i s) = List.drop i s := List.take_of_length_le (by simp)
    simp only [ht, repl, hc, eES, eEX, seval]
  · have b0 : ((c : Int) == 65533) = false := by simp; omega
    simp only [b0, hc, eES, eEX, seval]
    simp

end Go.Proofs.YtdgbidbkcigkhaaGreatDoor.Va

namespace Go.Proofs.YtdgbidbkcigkhaaGreatDoor.Vp

def vput : Nat → Nat → List UInt8
  | 0, u => [UInt8.ofNat u]
  | k + 1, u => if u < 128 then [UInt8.ofNat u] else UInt8.ofNat (u % 128 + 128) :: vput k (u / 128)

def put (u : Nat) : List UInt8 := vput 9 u

def vtk : Nat → Nat → List UInt8 → Nat × Nat × Nat
  | _, _, [] => (0, 0, 4)
  | i, acc, c :: t =>
    if i = 9 ∧ 1 < c.toNat then (0, 0, 6)
    else if c.toNat < 128 then (acc + c.toNat * 128 ^ i, i + 1, 0)
    else vtk (i + 1) (acc + (c.toNat - 128) * 128 ^ i) t

def take (s : List UInt8) : Nat × Nat × Nat := vtk 0 0 s

theorem toNat_ofNat (n : Nat) (h : n < 256) : (UInt8.ofNat n).toNat = n := by
  simp [UInt8.toNat_ofNat']; omega

theorem vtk_append (i acc : Nat) (s t : List UInt8) (h : (vtk i acc s).2.2 ≠ 4) : vtk i acc (s ++ t) = vtk i acc s := by
  induction s generalizing i acc with
  | nil => simp [vtk] at h
  | cons c r ih =>
    simp only [List.cons_append]
    unfold vtk at h ⊢
    split
    · rfl
    · rename_i h1
      rw [if_neg h1] at h
      split
      · rfl
      · rename_i h2
        rw [if_neg h2] at h
        exact ih _ _ h

theorem vtk_ten (i acc : Nat) (s : List UInt8) (hi : i ≤ 9) (hl : 10 ≤ i + s.length) : (vtk i acc s).2.2 ≠ 4 := by
  induction s generalizing i acc with
  | nil => simp at hl; omega
  | cons c r ih =>
    unfold vtk
    split
    · simp
    · rename_i h1
      split
      · simp
      · rename_i h2
        exact ih _ _ (by omega) (by simp at hl; omega)

theorem take_take (s : List UInt8) : take (s.take 10) = take s := by
  rcases Nat.lt_or_ge s.length 10 with h | h
  · rw [List.take_of_length_le (by omega)]
  · have := vtk_append 0 0 (s.take 10) (s.drop 10) (vtk_ten 0 0 _ (by omega) (by simp; omega))
    rw [List.take_append_drop] at this
    exact this.symm

end Go.Proofs.YtdgbidbkcigkhaaGreatDoor.Vp

set_option linter.unusedSimpArgs false
namespace Go.Proofs.YtdgbidbkcigkhaaGreatDoor.Va
open Go Am Rc Bt Vp

theorem get_at (s : List UInt8) (j : Nat) (c : UInt8) (h : s[j]? = some c) : (⟨⟨s⟩⟩ : ByteArray).get! j = c := by
  show (⟨s⟩ : Array UInt8)[j]! = c
  simp [h]

theorem u8eq (a : UInt8) (n : Nat) (hn : n < 256) : (a == UInt8.ofNat n) = decide (a.toNat = n) := by
  rw [Bool.eq_iff_iff, beq_iff_eq, decide_eq_true_eq]
  constructor
  · rintro rfl
    rw [toNat_ofNat _ hn]
  · intro h
    rw [← UInt8.toNat_inj, toNat_ofNat _ hn, h]

set_option maxHeartbeats 4000000 in
theorem dec4 (s : List UInt8) (i : Nat) (a b c d : UInt8) (t : List UInt8) (hr : s.drop i = a :: b :: c :: d :: t) : (decide ((udec s i).1 = 65533) && !repl s i) = decide (sz s i = 0) ∧ (sz s i ≠ 0 → (udec s i).2 = sz s i) := by
  have hsz : ∀ j, (s[i + j]? = (a :: b :: c :: d :: t)[j]?) := fun j => by rw [← hr, List.getElem?_drop]
  have hn : ByteArray.size ⟨⟨s⟩⟩ = s.length := rfl
  have hl : s.length = i + (a :: b :: c :: d :: t).length := by
    have h := congrArg List.length hr
    simp at h ⊢
    omega
  have h0 := hsz 0
  have h1 := hsz 1
  have h2 := hsz 2
  have h3 := hsz 3
  simp only [Nat.add_zero] at h0
  have g0 := get_at s i a h0
  have g1 := get_at s (i + 1) b h1
  have g2 := get_at s (i + 2) c h2
  have g3 := get_at s (i + 3) d h3
  have l1 : (i + 1 < s.length) = True := by simp at hl ⊢; omega
  have l2 : (i + 2 < s.length) = True := by simp at hl ⊢; omega
  have l3 : (i + 3 < s.length) = True := by simp at hl ⊢; omega
  have wa := a.toNat_lt
  have wb := b.toNat_lt
  have wc := c.toNat_lt
  have wd := d.toNat_lt
  have hrep : repl s i = (decide (a.toNat = 239) && (decide (b.toNat = 191) && decide (c.toNat = 189))) := by
    rw [← u8eq a 239 (by decide), ← u8eq b 191 (by decide), ← u8eq c 189 (by decide)]
    simp [repl, hr]
  simp only [List.getElem?_cons_succ, List.getElem?_nil, List.getElem?_cons_zero] at h0 h1 h2 h3
  generalize hD : udec s i = D
  generalize hS : sz s i = S
  rw [hrep]
  simp only [udec, Utf8.decode, Utf8.valid, Utf8.runeError, hn, l1, l2, l3, Nat.add_zero, g0, g1, g2, g3, sz, h0, szb, tl, bt, Nat.add_assoc, seval, h1, h2, h3, hrep, decide_false, decide_true, Bool.false_and, Bool.and_false, Bool.true_and, Bool.and_true, Bool.false_eq_true, if_false, false_and, and_false, Bool.and_eq_true, Bool.or_eq_true, decide_eq_true_eq, beq_iff_eq, ge_iff_le] at hD hS
  clear hsz hr hl h0 h1 h2 h3 g0 g1 g2 g3 l1 l2 l3 hrep hn
  generalize a.toNat = x at *
  generalize b.toNat = y at *
  generalize c.toNat = z at *
  generalize d.toNat = u at *
  (repeat' split at hD) <;> subst hD <;> (repeat' split at hS) <;> subst hS <;> refine ⟨?_, ?_⟩ <;> (try rw [Bool.eq_iff_iff]) <;> (try simp only [Bool.and_eq_true, decide_eq_true_eq, Bool.not_eq_true', Bool.and_eq_false_iff, decide_eq_false_iff_not]) <;> first | omega | (intro _; rfl) | (simp; done) | (simp; omega)

theorem dec_case (s : List UInt8) (i : Nat) (hi : i < s.length) : (decide ((udec s i).1 = 65533) && !repl s i) = decide (sz s i = 0) ∧ (sz s i ≠ 0 → (udec s i).2 = sz s i) := by
  have hsz : ∀ j, (s[i + j]? = (s.drop i)[j]?) := fun j => by rw [List.getElem?_drop]
  have hn : ByteArray.size ⟨⟨s⟩⟩ = s.length := rfl
  have hl : s.length = i + (s.drop i).length := by simp; omega
  generalize hr : s.drop i = r at hsz hl
  have h0 := hsz 0
  have h1 := hsz 1
  have h2 := hsz 2
  have h3 := hsz 3
  simp only [Nat.add_zero] at h0
  match r, hl with
  | [], hl => simp at hl; omega
  | [a], hl =>
    have g0 := get_at s i a h0
    have l1 : (i + 1 < s.length) = False := by simp at hl ⊢; omega
    have l2 : (i + 2 < s.length) = False := by simp at hl ⊢; omega
    have l3 : (i + 3 < s.length) = False := by simp at hl ⊢; omega
    have wa := a.toNat_lt
    have hrep : repl s i = false := by simp [repl, hr]
    simp only [List.getElem?_cons_succ, List.getElem?_nil, List.getElem?_cons_zero] at h0 h1 h2 h3
    simp only [udec, Utf8.decode, Utf8.valid, Utf8.runeError, hn, l1, l2, l3, Nat.add_zero, g0, sz, h0, szb, tl, bt, Nat.add_assoc, seval, h1, h2, h3, hrep, decide_false, decide_true, Bool.false_and, Bool.and_false, Bool.true_and, Bool.and_true, Bool.false_eq_true, if_false, false_and, and_false, Bool.and_eq_true, Bool.or_eq_true, decide_eq_true_eq, beq_iff_eq, ge_iff_le]
    (repeat' split) <;> refine ⟨?_, ?_⟩ <;> (try rw [Bool.eq_iff_iff]) <;> (try simp only [Bool.and_eq_true, decide_eq_true_eq, Bool.not_eq_true', decide_eq_false_iff_not, Bool.not_false, Bool.and_true, Bool.and_eq_false_iff, Bool.and_eq_false_imp]) <;> first | omega | (intro _; rfl) | (intro _; omega) | (simp; done) | (simp; omega)
  | [a, b], hl =>
    have g0 := get_at s i a h0
    have g1 := get_at s (i + 1) b h1
    have l1 : (i + 1 < s.length) = True := by simp at hl ⊢; omega
    have l2 : (i + 2 < s.length) = False := by simp at hl ⊢; omega
    have l3 : (i + 3 < s.length) = False := by simp at hl ⊢; omega
    have wa := a.toNat_lt
    have wb := b.toNat_lt
    have hrep : repl s i = false := by simp [repl, hr]
    simp only [List.getElem?_cons_succ, List.getElem?_nil, List.getElem?_cons_zero] at h0 h1 h2 h3
    simp only [udec, Utf8.decode, Utf8.valid, Utf8.runeError, hn, l1, l2, l3, Nat.add_zero, g0, g1, sz, h0, szb, tl, bt, Nat.add_assoc, seval, h1, h2, h3, hrep, decide_false, decide_true, Bool.false_and, Bool.and_false, Bool.true_and, Bool.and_true, Bool.false_eq_true, if_false, false_and, and_false, Bool.and_eq_true, Bool.or_eq_true, decide_eq_true_eq, beq_iff_eq, ge_iff_le]
    (repeat' split) <;> refine ⟨?_, ?_⟩ <;> (try rw [Bool.eq_iff_iff]) <;> (try simp only [Bool.and_eq_true, decide_eq_true_eq, Bool.not_eq_true', decide_eq_false_iff_not, Bool.not_false, Bool.and_true, Bool.and_eq_false_iff, Bool.and_eq_false_imp]) <;> first | omega | (intro _; rfl) | (intro _; omega) | (simp; done) | (simp; omega)
  | [a, b, c], hl =>
    have g0 := get_at s i a h0
    have g1 := get_at s (i + 1) b h1
    have g2 := get_at s (i + 2) c h2
    have l1 : (i + 1 < s.length) = True := by simp at hl ⊢; omega
    have l2 : (i + 2 < s.length) = True := by simp at hl ⊢; omega
    have l3 : (i + 3 < s.length) = False := by simp at hl ⊢; omega
    have wa := a.toNat_lt
    have wb := b.toNat_lt
    have wc := c.toNat_lt
    have hrep : repl s i = (decide (a.toNat = 239) && (decide (b.toNat = 191) && decide (c.toNat = 189))) := by
      rw [← u8eq a 239 (by decide), ← u8eq b 191 (by decide), ← u8eq c 189 (by decide)]
      simp [repl, hr]
    simp only [List.getElem?_cons_succ, List.getElem?_nil, List.getElem?_cons_zero] at h0 h1 h2 h3
    simp only [udec, Utf8.decode, Utf8.valid, Utf8.runeError, hn, l1, l2, l3, Nat.add_zero, g0, g1, g2, sz, h0, szb, tl, bt, Nat.add_assoc, seval, h1, h2, h3, hrep, decide_false, decide_true, Bool.false_and, Bool.and_false, Bool.true_and, Bool.and_true, Bool.false_eq_true, if_false, false_and, and_false, Bool.and_eq_true, Bool.or_eq_true, decide_eq_true_eq, beq_iff_eq, ge_iff_le]
    (repeat' split) <;> refine ⟨?_, ?_⟩ <;> (try rw [Bool.eq_iff_iff]) <;> (try simp only [Bool.and_eq_true, decide_eq_true_eq, Bool.not_eq_true', decide_eq_false_iff_not, Bool.not_false, Bool.and_true, Bool.and_eq_false_iff, Bool.and_eq_false_imp]) <;> first | omega | (intro _; rfl) | (intro _; omega) | (simp; done) | (simp; omega)
  | a :: b :: c :: d :: t, hl => exact dec4 s i a b c d t hr

end Go.Proofs.YtdgbidbkcigkhaaGreatDoor.Va

set_option linter.unusedSimpArgs false
namespace Go.Proofs.YtdgbidbkcigkhaaGreatDoor.Va
open Go Am Rc Bt Vp

def BadP (s : List UInt8) (k : Nat) (st : St) : Prop :=
  ∃ f fr i, st = ⟨f, [fr], []⟩ ∧ i ≤ s.length ∧ s.length - i ≤ k ∧ bad s s.length 0 = bad s k i ∧ f 0 = .str s ∧ f 6 = .ptr 0 6 0 ∧ fr 6 = .iter (.str s) i

theorem x150 (s : List UInt8) : Fn1 Tryz.prog 150 [.str s] (.int .i64 (bad s s.length 0)) := by
  refine wF Tryz.func150 ?_; simp only [eK, Tryz.f150, seval]
  simp only [eES, eEX, seval]
  refine aops_rngs rfl rfl ?_
  simp only [eES, eEX, seval]
  refine awp_loop (BadP s) s.length ⟨_, _, 0, rfl, Nat.zero_le _, Nat.le_refl _, rfl, (by first | rfl | simp only [eES, eEX, seval]), (by first | rfl | simp only [eES, eEX, seval]), (by first | rfl | simp only [eES, eEX, seval])⟩ ?_
  rintro k st ⟨f, fr, i, rfl, hi, hk, hb, h0, h6, m6⟩
  simp only [h0, h6, eES, eEX, seval]
  refine aops_nxts (by first | rfl | exact h6 | simp only [h6, eES, eEX, seval]) m6 (fun hlt => ?_) (fun hge => ?_)
  · obtain ⟨hd, hw⟩ := dec_case s i hlt
    obtain ⟨k, rfl⟩ : ∃ n, k = n + 1 := ⟨k - 1, by omega⟩
    have hbk : bad s (k + 1) i = if sz s i = 0 then (i : Int) else bad s k (i + sz s i) := by
      show (if i < s.length then _ else _) = _
      rw [if_pos hlt]
    have hwr := c201 s i hi (udec s i).1
    rw [hd] at hwr
    generalize udec s i = cw at hw hwr
    obtain ⟨c, w⟩ := cw
    simp only [h0, h6, eES, eEX, seval]
    refine aops_call hwr rfl rfl rfl (.inl rfl) ?_
    by_cases hz : sz s i = 0
    · simp only [hz, decide_true, h0, h6, hb, hbk, eES, eEX, seval]
    · have hw := hw hz
      simp only at hw
      have hle := sz_le s i hlt hz
      simp only [hz, decide_false, h0, h6, eES, eEX, seval]
      exact ⟨k, by omega, _, _, i + sz s i, rfl, hle, by omega, by rw [hb, hbk, if_neg hz], (by first | rfl | exact h0 | simp only [h0, eES, eEX, seval]), (by first | rfl | exact h6 | simp only [h6, eES, eEX, seval]), by rw [← hw] <;> first | rfl | simp only [eES, eEX, seval]⟩
  · have hbk : bad s k i = -1 := by
      cases k with
      | zero => rfl
      | succ k =>
        show (if i < s.length then _ else _) = _
        rw [if_neg (by omega)]
    simp only [h0, h6, hb, hbk, eES, eEX, seval]

theorem x100 (s : List UInt8) : Fn1 Tryz.prog 100 [.str s] (.bool (vld s)) := by
  refine wF Tryz.func100 ?_; simp only [eK, Tryz.f100, seval]
  simp only [eES, eEX, seval]
  refine aops_call (x150 s) rfl rfl rfl (.inl rfl) ?_
  simp only [eES, eEX, seval]
  try rfl

end Go.Proofs.YtdgbidbkcigkhaaGreatDoor.Va

set_option linter.unusedSimpArgs false
namespace Go.Proofs.YtdgbidbkcigkhaaGreatDoor.Va
open Go Am Rc Bt

def fitn (k : Int) (b : Nat) : Bool :=
  if k = 1 then decide ((b : Int) ≤ 1) else if k = 2 then decide (IntKind.i64.wrap (b : Int) ≥ -2147483648) && decide (IntKind.i64.wrap (b : Int) ≤ 2147483647)
  else if k = 4 then decide ((b : Int) < 4294967296) else if k = 9 then decide ((b : Int) < 2147483648) else true

theorem x269 (k : Int) (b : Nat) : Fn1 Tryz.prog 269 [.int .i64 k, .int .u64 (b : Nat)] (.bool (fitn k b)) := by
  have e1 : decide ((b : Int) ≤ 4294967295) = decide ((b : Int) < 4294967296) := by rw [decide_eq_decide]; omega
  have e2 : decide ((b : Int) ≤ 2147483647) = decide ((b : Int) < 2147483648) := by rw [decide_eq_decide]; omega
  refine wF Tryz.func269 ?_; simp only [eK, Tryz.f269, seval]
  simp only [eES, eEX, seval]
  unfold fitn
  by_cases h1 : k = 1
  · subst h1
    have b1 : ((1 : Int) == 1) = true := rfl
    simp only [b1, if_true, eES, eEX, seval]
  · have b1 : (k == 1) = false := by simp [h1]
    by_cases h2 : k = 2
    · subst h2
      have b2 : ((2 : Int) == 2) = true := rfl
      simp only [b1, b2, h1, if_false, eES, eEX, seval]
      cases hd : decide (IntKind.i64.wrap (b : Int) ≥ -2147483648) <;> simp only [hd, Bool.true_and, Bool.false_and, eES, eEX, seval]
    · have b2 : (k == 2) = false := by simp [h2]
      by_cases h9 : k = 9
      · subst h9
        have b9 : ((9 : Int) == 9) = true := rfl
        simp only [b1, b2, b9, h1, h2, e2, if_false, eES, eEX, seval]
      · have b9 : (k == 9) = false := by simp [h9]
        by_cases h4 : k = 4
        · subst h4
          have b4 : ((4 : Int) == 4) = true := rfl
          simp only [b1, b2, b9, b4, h1, h2, e1, if_false, eES, eEX, seval]
        · have b4 : (k == 4) = false := by simp [h4]
          simp only [b1, b2, b9, b4, h1, h2, h4, h9, if_false, eES, eEX, seval]

end Go.Proofs.YtdgbidbkcigkhaaGreatDoor.Va

/- The table of the functions that are run. -/
namespace Go.Proofs.YtdgbidbkcigkhaaGreatDoor.Ev
open Go Am Rc

noncomputable def tab : Tab := fun k => match k with
  | 126 => some (r126, o126, 8)
  | 182 => some (r182, o182, 8)
  | 244 => some (r244, o244, 8)
  | 246 => some (r246, o246, 8)
  | 307 => some (r307, o307, 143)
  | k => ct k

theorem tab_ok : TabOk Tryz.prog tab := by
  intro k c rs N h
  unfold tab at h
  split at h
  · cases h; exact k126
  · cases h; exact k182
  · cases h; exact k244
  · cases h; exact k246
  · cases h; exact k307
  · exact ct_ok h

end Go.Proofs.YtdgbidbkcigkhaaGreatDoor.Ev

namespace Go.Proofs.YtdgbidbkcigkhaaGreatDoor.Ev
open Go Am Rc

def nat : Cal := fun _ _ _ => none

theorem nat_ok : CalOk Tryz.prog nat := by
  intro k args m v m' h
  cases h

end Go.Proofs.YtdgbidbkcigkhaaGreatDoor.Ev

namespace Go.Proofs.YtdgbidbkcigkhaaGreatDoor.Ev
open Go Am Rc

end Go.Proofs.YtdgbidbkcigkhaaGreatDoor.Ev

set_option linter.unusedSimpArgs false
namespace Go.Proofs.YtdgbidbkcigkhaaGreatDoor.Va
open Go Am Rc Bt

def vo (k : Int) (b : Nat) (t : List UInt8) (l p s r : List AV) : AV := .agg [.int .i64 k, .int .u64 (b : Nat), .str t, .list l, .list p, .list s, .list r]

section
variable (k : Int) (b : Nat) (t : List UInt8) (l p s r : List AV)

def lon : Bool := (l.length : Int) == 0 && (p.length : Int) == 0 && (s.length : Int) == 0 && (r.length : Int) == 0
theorem y191 : Fn1 Tryz.prog 191 [vo k b t l p s r] (.bool (lon l p s r)) := by
  refine wF Tryz.func191 ?_; simp only [eK, Tryz.f191, seval]
  simp only [vo, lon, eES, eEX, seval]
  cases h0 : ((l.length : Int) == 0) <;> cases h1 : ((p.length : Int) == 0) <;> cases h2 : ((s.length : Int) == 0) <;> simp only [h0, h1, h2, Bool.true_and, Bool.false_and, eES, eEX, seval]

theorem y223 (hl : l.length ≤ 140737488351232) (hp : p.length ≤ 140737488351232) (hs : s.length ≤ 140737488351232) (hr : r.length ≤ 140737488351232) :
    Fn1 Tryz.prog 223 [vo k b t l p s r] (.bool (lon l p s r && (if txk k = true then (b : Int) == 0 else t == []))) := by
  refine wF Tryz.func223 ?_; simp only [eK, Tryz.f223, seval]
  have w : IntKind.i64.wrap (IntKind.i64.wrap (IntKind.i64.wrap ((l.length : Int) + (p.length : Int)) + (s.length : Int)) + (r.length : Int)) = (l.length + p.length + s.length + r.length : Nat) := by
    simp only [wi64]; omega
  simp only [vo, w, astr, eES, eEX, seval]
  by_cases h : l.length + p.length + s.length + r.length = 0
  · have d : decide (((l.length + p.length + s.length + r.length : Nat) : Int) > 0) = false := decide_eq_false (by omega)
    have e : lon l p s r = true := by
      unfold lon
      simp only [Bool.and_eq_true, beq_iff_eq]
      omega
    simp only [d, e, Bool.true_and, astr, eES, eEX, seval]
    refine aops_call (x271 k) rfl rfl rfl (.inl rfl) ?_
    cases txk k
    · simp only [Bool.false_eq_true, if_false, astr, eES, eEX, seval]
    · simp only [if_true, astr, eES, eEX, seval]
  · have d : decide (((l.length + p.length + s.length + r.length : Nat) : Int) > 0) = true := decide_eq_true (by omega)
    have e : lon l p s r = false := by
      unfold lon
      rw [Bool.eq_false_iff]
      simp only [ne_eq, Bool.and_eq_true, beq_iff_eq]
      omega
    simp only [d, e, Bool.false_and, astr, eES, eEX, seval]

end

end Go.Proofs.YtdgbidbkcigkhaaGreatDoor.Va

set_option linter.unusedSimpArgs false
namespace Go.Proofs.YtdgbidbkcigkhaaGreatDoor.Va
open Go Am Rc Bt Br

def key (o : PO) : Bool := if o.card = 5 then decide (o.key ≥ 1) && decide (o.key ≤ 7) && o.key != 6 else o.key == 0
def aim (P : PL) (o : PO) : Bool :=
  if o.kind = 10 then decide (o.target ≥ 0) && decide (o.target < (P.progs.length : Int)) && o.card != 3
  else if o.kind = 9 then decide (o.target ≥ 0) && decide (o.target < (P.enums.length : Int)) else isk o.kind && o.target == -1
def arg1 (P : PL) (o : PO) : Bool := vld o.alias && decide ((o.alias.length : Int) ≤ 4096) && decide (o.card ≥ 1) && decide (o.card ≤ 5) && key o && aim P o
def uok (o : PO) : Bool := o.union == -1 || o.card == 2
def joinU : List PO → Int → Int → Option Int
  | [], n, _ => some n
  | o :: l, n, b => if o.union = n then joinU l (n + 1) n else if o.union = -1 ∨ o.union = b then joinU l n o.union else none
def uniB (g : PG) : Bool := match joinU g.ops 0 (-1) with
  | some n => g.unions == n
  | none => false
def fitv (k kd : Int) (b : Nat) (t : List UInt8) (l p s r : List AV) : Bool :=
  isk k && kd == k && lon l p s r && (if txk kd = true then (b : Int) == 0 else t == []) && fitn k b && decide ((t.length : Int) ≤ 4096) && (k != 7 || vld t)
def alias : List UInt8 := [97, 108, 105, 97, 115]
def nok : List AV → Bool
  | [.int _ kd, .int _ b, .str t, .list l, .list p, .list s, .list r] => fitv 7 kd b.toNat t l p s r
  | _ => false
def nte (i : PI) : Bool := match i.notes with
  | [] => true
  | [n] => n.name == alias && nok n.val
  | _ => false
def argG (P : PL) (g : PG) : Bool := uniB g && g.ops.all fun o => arg1 P o && uok o
def argE (x : PE) : Bool := x.notes.isEmpty && x.items.all nte
def args (P : PL) : Bool := P.progs.all (argG P) && P.enums.all argE

theorem all_and {α : Type} (l : List α) (p q : α → Bool) : (l.all fun x => p x && q x) = (l.all p && l.all q) := by
  induction l with
  | nil => rfl
  | cons x l ih =>
    simp only [List.all_cons, ih]
    cases p x <;> cases q x <;> cases l.all p <;> cases l.all q <;> rfl

theorem z210 (k kd : Int) (b : Nat) (t : List UInt8) (l p s r : List AV) (hl : l.length ≤ 140737488351232) (hp : p.length ≤ 140737488351232) (hs : s.length ≤ 140737488351232) (hr : r.length ≤ 140737488351232) :
    Fn1 Tryz.prog 210 [.int .i64 k, vo kd b t l p s r] (.bool (fitv k kd b t l p s r)) := by
  have hle := y223 kd b t l p s r hl hp hs hr
  have hw := x269 k b
  simp only [vo] at hle
  have n1 : (kd != k) = !(kd == k) := rfl
  have n2 : (k != 7) = !(k == 7) := rfl
  have n3 : decide ((t.length : Int) > 4096) = !decide ((t.length : Int) ≤ 4096) := (by rw [Bool.eq_iff_iff]; simp only [decide_eq_true_eq, Bool.not_eq_true', decide_eq_false_iff_not, Bool.and_eq_true, Bool.or_eq_true, beq_iff_eq, bne_iff_ne, ne_eq]; omega)
  refine wF Tryz.func210 ?_; simp only [eK, Tryz.f210, seval]
  simp only [vo, fitv, n1, n2, n3, eES, eEX, seval]
  refine aops_call (x151 k) rfl rfl rfl (.inl rfl) ?_
  cases isk k
  · simp only [Bool.false_and, Bool.not_false, eES, eEX, seval]
  simp only [Bool.true_and, Bool.not_true, n1, eES, eEX, seval]
  cases a1 : (kd == k)
  · simp only [a1, Bool.false_and, Bool.not_false, eES, eEX, seval]
  simp only [a1, Bool.true_and, Bool.not_true, eES, eEX, seval]
  refine aops_call hle rfl rfl rfl (.inl rfl) ?_
  cases (lon l p s r && (if txk kd = true then (b : Int) == 0 else t == []))
  · simp only [Bool.false_and, Bool.not_false, eES, eEX, seval]
  simp only [Bool.true_and, Bool.not_true, eES, eEX, seval]
  refine aops_call hw rfl rfl rfl (.inl rfl) ?_
  cases fitn k b
  · simp only [Bool.false_and, Bool.not_false, eES, eEX, seval]
  simp only [Bool.true_and, Bool.not_true, n2, n3, eES, eEX, seval]
  cases a2 : decide ((t.length : Int) ≤ 4096)
  · simp only [a2, n3, Bool.false_and, Bool.not_false, eES, eEX, seval]
  simp only [a2, n3, Bool.true_and, Bool.not_true, n2, eES, eEX, seval]
  cases a3 : (k == 7)
  · simp only [a3, n2, Bool.not_false, Bool.true_or, eES, eEX, seval]
  · simp only [a3, n2, Bool.not_true, Bool.false_or, eES, eEX, seval]
    refine aops_call (x100 t) rfl rfl rfl (.inl rfl) ?_
    simp only [eES, eEX, seval]

theorem z101 (o : PO) : Fn1 Tryz.prog 101 [oav o] (.bool (key o)) := by
  refine wF Tryz.func101 ?_; simp only [eK, Tryz.f101, seval]
  simp only [oav, PO.cells, key, eES, eEX, seval]
  by_cases h : o.card = 5
  · have b0 : (o.card != 5) = false := by simp [h]
    simp only [b0, if_pos h, eES, eEX, seval]
    cases a1 : decide (o.key ≥ 1) <;> cases a2 : decide (o.key ≤ 7) <;> simp only [a1, a2, Bool.true_and, Bool.false_and, eES, eEX, seval]
  · have b0 : (o.card != 5) = true := by simp [h]
    simp only [b0, if_neg h, eES, eEX, seval]

section
variable (P : PL)

theorem z102 (o : PO) : Fn1 Tryz.prog 102 [P.av, oav o] (.bool (aim P o)) := by
  have e0 : P.av = .agg [.list (P.progs.map gav), .list (P.enums.map eav)] := rfl
  refine wF Tryz.func102 ?_; simp only [eK, Tryz.f102, seval]
  simp only [e0, oav, PO.cells, aim, eES, eEX, seval]
  by_cases h : o.kind = 10
  · have b0 : (o.kind == 10) = true := by simp [h]
    simp only [b0, if_pos h, List.length_map, eES, eEX, seval]
    cases a1 : decide (o.target ≥ 0) <;> cases a2 : decide (o.target < (P.progs.length : Int)) <;> simp only [a1, a2, Bool.true_and, Bool.false_and, List.length_map, eES, eEX, seval]
  · have b0 : (o.kind == 10) = false := by simp [h]
    by_cases h9 : o.kind = 9
    · have b1 : (o.kind == 9) = true := by simp [h9]
      simp only [b0, b1, if_neg h, if_pos h9, List.length_map, eES, eEX, seval]
      cases a1 : decide (o.target ≥ 0) <;> simp only [a1, Bool.true_and, Bool.false_and, List.length_map, eES, eEX, seval]
    · have b1 : (o.kind == 9) = false := by simp [h9]
      simp only [b0, b1, if_neg h, if_neg h9, eES, eEX, seval]
      refine aops_call (x151 o.kind) rfl rfl rfl (.inl rfl) ?_
      cases isk o.kind <;> simp only [Bool.true_and, Bool.false_and, eES, eEX, seval]

def UnI (g : PG) (k : Nat) (st : St) : Prop :=
  ∃ f fr i n b, st = ⟨f, [fr], []⟩ ∧ k = g.ops.length - i ∧ i ≤ g.ops.length ∧ (g.ops.take i).all uok = true ∧ joinU g.ops 0 (-1) = joinU (g.ops.drop i) n b ∧ 0 ≤ n ∧ n ≤ i ∧ -1 ≤ b ∧ b < n ∧ f 1 = .ptr 0 1 0 ∧ f 3 = .int .i64 (n - 1) ∧ f 4 = .int .i64 b ∧
    f 8 = .list (g.ops.map fun o => .agg o.cells) ∧ f 9 = .int .i64 (g.ops.length : Nat) ∧ f 10 = .int .i64 (i : Nat) ∧ fr 1 = .cells g.cells ∧ ∀ s ∈ [6], (fr s).isRow = false

theorem joinU_drop {l : List PO} {i : Nat} {o : PO} (h : l[i]? = some o) (n b : Int) : joinU (l.drop i) n b = if o.union = n then joinU (l.drop (i + 1)) (n + 1) n else if o.union = -1 ∨ o.union = b then joinU (l.drop (i + 1)) n o.union else none := by
  have hlt : i < l.length := (List.getElem?_eq_some_iff.1 h).1
  rw [List.drop_eq_getElem_cons hlt, show l[i] = o from (List.getElem?_eq_some_iff.1 h).2]
  rfl

theorem z98 (g : PG) (hl : g.ops.length ≤ 9223372036854775000) : Fn1 Tryz.prog 98 [gav g] (.bool (g.ops.all uok && uniB g)) := by
  refine wF Tryz.func98 ?_; simp only [eK, Tryz.f98, seval]
  simp only [gav, PG.cells, List.length_map, eES, eEX, seval]
  refine awp_loop (UnI g) _ ⟨_, _, 0, 0, -1, rfl, rfl, Nat.zero_le _, rfl, rfl, by decide, by decide, by decide, by decide, (by first | rfl | simp only [eES, eEX, seval]), (by first | rfl | simp only [eES, eEX, seval]), (by first | rfl | simp only [eES, eEX, seval]), (by first | rfl | simp only [eES, eEX, seval]), (by first | rfl | simp only [eES, eEX, seval]), (by first | rfl | simp only [eES, eEX, seval]), (by first | rfl | simp only [eES, eEX, seval]), by simp <;> rfl⟩ ?_
  rintro _ st ⟨f0, fr0, i, n, b, rfl, rfl, hil, hu, hj, hn0, hni, hb1, hbn, h10, h30, h40, h80, h90, hA0, m10, r6⟩
  refine awp_drops (a := _) [6] r6 ?_
  intro f fr hf hm hn6
  have h1 : f 1 = .ptr 0 1 0 := by rw [hf, h10] <;> rfl
  have h3 : f 3 = .int .i64 (n - 1) := by rw [hf, h30] <;> rfl
  have h4 : f 4 = .int .i64 b := by rw [hf, h40] <;> rfl
  have h8 : f 8 = .list (g.ops.map fun o => .agg o.cells) := by rw [hf, h80] <;> rfl
  have h9 : f 9 = .int .i64 (g.ops.length : Nat) := by rw [hf, h90] <;> rfl
  have hA : f 10 = .int .i64 (i : Nat) := by rw [hf, hA0] <;> rfl
  have m1 : fr 1 = .cells g.cells := by rw [hm 1 (by decide), m10] <;> rfl
  have n6 := hn6 6 (by decide)
  clear hf hm hn6 h10 h30 h40 h80 h90 hA0 m10 r6
  simp only [PG.cells] at m1
  have w0 : IntKind.i64.wrap (n - 1 + 1) = n := by rw [wi64]; omega
  simp only [h1, h3, h4, h8, h9, hA, eES, eEX, seval]
  by_cases hlt : i < g.ops.length
  · obtain ⟨o, hi⟩ : ∃ o, g.ops[i]? = some o := ⟨g.ops[i], List.getElem?_eq_getElem hlt⟩
    have hg : (g.ops.map fun o => AV.agg o.cells)[i]? = some (.agg o.cells) := by simp [hi]
    have e1 := wi64_s i _ hlt (by simp only [maxLen]; omega)
    have ht := take_all (q := uok) hi
    rw [hu, Bool.true_and] at ht
    have hbad : uok o = false → g.ops.all uok = false := fun h => by
      rw [Bool.eq_false_iff]
      intro h'
      rw [List.all_eq_true.1 h' o (List.mem_of_getElem? hi)] at h
      cases h
    rw [joinU_drop hi] at hj
    have fin : ∀ (f' : Fr) (fr' : Nat → Ob) (n' : Int), uok o = true → (if o.union = n then n' = n + 1 else n' = n) → joinU g.ops 0 (-1) = joinU (g.ops.drop (i + 1)) n' o.union → (o.union = n ∨ o.union = -1 ∨ o.union = b) → f' 1 = .ptr 0 1 0 → f' 3 = .int .i64 (n' - 1) → f' 4 = .int .i64 o.union →
        f' 8 = .list (g.ops.map fun o => .agg o.cells) → f' 9 = .int .i64 (g.ops.length : Nat) → f' 10 = .int .i64 ((i + 1 : Nat) : Int) → fr' 1 = .cells g.cells → (∀ s ∈ [6], (fr' s).isRow = false) → ∃ k, k < g.ops.length - i ∧ UnI g k ⟨f', [fr'], []⟩ := by
      intro f' fr' n' a b' c d e1 e3 e4 e8 e9 eA em er
      refine ⟨g.ops.length - (i + 1), by omega, f', fr', i + 1, n', o.union, rfl, rfl, by omega, by rw [ht, a], c, ?_, ?_, ?_, ?_, e1, e3, e4, e8, e9, eA, em, er⟩ <;> split at b' <;> omega
    simp only [PO.cells] at hg
    simp only [lt_t hlt, nneg, Int.toNat_natCast, aiaddr, hg, PO.cells, n6, h1, h3, h4, h8, h9, hA, m1, w0, eES, eEX, seval]
    by_cases a1 : o.union = -1
    · have b1 : (o.union != -1) = false := by simp [a1]
      have hk : uok o = true := by simp [uok, a1]
      rw [if_neg (by omega), if_pos (.inl a1)] at hj
      have mx : (if n - 1 < o.union then o.union else n - 1) = n - 1 := if_neg (by omega)
      simp only [b1, h1, h3, h4, h8, h9, hA, m1, mx, e1, eES, eEX, seval]
      exact fin _ _ n hk (by rw [if_neg (by omega)]) hj (.inr (.inl a1)) (by first | rfl | exact h1 | simp only [h1, eES, eEX, seval]) (by first | rfl | simp only [eES, eEX, seval]) (by first | rfl | simp only [eES, eEX, seval]) (by first | rfl | exact h8 | simp only [h8, eES, eEX, seval]) (by first | rfl | exact h9 | simp only [h9, eES, eEX, seval]) (by first | rfl | simp only [eES, eEX, seval]) (by first | rfl | exact m1 | simp only [m1, eES, eEX, seval]) (by simp <;> rfl)
    have b1 : (o.union != -1) = true := by simp [a1]
    by_cases a2 : o.card = 2
    case neg =>
      have b2 : (o.card != 2) = true := by simp [a2]
      have hk : uok o = false := by simp [uok, a1, a2]
      simp only [b1, b2, hbad hk, Bool.false_and, h1, h3, h4, h8, h9, hA, m1, eES, eEX, seval]
    have b2 : (o.card != 2) = false := by simp [a2]
    have hk : uok o = true := by simp [uok, a2]
    by_cases a3 : o.union = n
    · have b3 : (o.union != n) = false := by simp [a3]
      rw [if_pos a3, ← a3] at hj
      have mx : (if n - 1 < o.union then o.union else n - 1) = o.union := if_pos (by omega)
      simp only [b1, b2, b3, h1, h3, h4, h8, h9, hA, m1, w0, mx, e1, eES, eEX, seval]
      exact fin _ _ (o.union + 1) hk (by rw [if_pos a3, a3]) hj (.inl a3) (by first | rfl | exact h1 | simp only [h1, eES, eEX, seval]) (by simp only [eES, eEX, seval]; congr 1; omega) (by first | rfl | simp only [eES, eEX, seval]) (by first | rfl | exact h8 | simp only [h8, eES, eEX, seval]) (by first | rfl | exact h9 | simp only [h9, eES, eEX, seval]) (by first | rfl | simp only [eES, eEX, seval]) (by first | rfl | exact m1 | simp only [m1, eES, eEX, seval]) (by simp <;> rfl)
    have b3 : (o.union != n) = true := by simp [a3]
    by_cases a4 : o.union = b
    · have b4 : (o.union != b) = false := by simp [a4]
      rw [if_neg a3, if_pos (.inr a4)] at hj
      have mx : (if n - 1 < o.union then o.union else n - 1) = n - 1 := if_neg (by omega)
      simp only [b1, b2, b3, b4, h1, h3, h4, h8, h9, hA, m1, w0, mx, e1, eES, eEX, seval]
      exact fin _ _ n hk (by rw [if_neg a3]) hj (.inr (.inr a4)) (by first | rfl | exact h1 | simp only [h1, eES, eEX, seval]) (by first | rfl | simp only [eES, eEX, seval]) (by first | rfl | simp only [eES, eEX, seval]) (by first | rfl | exact h8 | simp only [h8, eES, eEX, seval]) (by first | rfl | exact h9 | simp only [h9, eES, eEX, seval]) (by first | rfl | simp only [eES, eEX, seval]) (by first | rfl | exact m1 | simp only [m1, eES, eEX, seval]) (by simp <;> rfl)
    · have b4 : (o.union != b) = true := by simp [a4]
      rw [if_neg a3, if_neg (by omega)] at hj
      have hun : uniB g = false := by unfold uniB; rw [hj]
      simp only [b1, b2, b3, b4, hun, Bool.and_false, h1, h3, h4, h8, h9, hA, m1, w0, eES, eEX, seval]
  · rw [List.take_of_length_le (by omega)] at hu
    rw [List.drop_of_length_le (by omega)] at hj
    have hun : uniB g = (g.unions == n) := by unfold uniB; rw [hj]; rfl
    simp only [lt_f hlt, h1, h3, h4, h8, h9, hA, m1, w0, hu, hun, Bool.true_and, eES, eEX, seval]

theorem z99 (o : PO) (fr2 fr : Nat → Ob) (h1 : fr 1 = .cells [.list (P.progs.map gav), .list (P.enums.map eav)]) : ACalls Tryz.prog 99 [oav o, .ptr 7 1 0] [noObs, noObs, noObs, fr2, noObs, noObs, noObs, fr] fun y m1 => y = .bool (!arg1 P o) ∧ m1 = [noObs, noObs, noObs, fr2, noObs, noObs, noObs, fr] := by
  have n1 : decide ((o.alias.length : Int) > 4096) = !decide ((o.alias.length : Int) ≤ 4096) := (by rw [Bool.eq_iff_iff]; simp only [decide_eq_true_eq, Bool.not_eq_true', decide_eq_false_iff_not, Bool.and_eq_true, Bool.or_eq_true, beq_iff_eq, bne_iff_ne, ne_eq]; omega)
  have n2 : decide (o.card < 1) = !decide (o.card ≥ 1) := (by rw [Bool.eq_iff_iff]; simp only [decide_eq_true_eq, Bool.not_eq_true', decide_eq_false_iff_not, Bool.and_eq_true, Bool.or_eq_true, beq_iff_eq, bne_iff_ne, ne_eq]; omega)
  have n3 : decide (o.card > 5) = !decide (o.card ≤ 5) := (by rw [Bool.eq_iff_iff]; simp only [decide_eq_true_eq, Bool.not_eq_true', decide_eq_false_iff_not, Bool.and_eq_true, Bool.or_eq_true, beq_iff_eq, bne_iff_ne, ne_eq]; omega)
  have hk := z101 o
  have ha : Fn1 Tryz.prog 102 [.agg [.list (P.progs.map gav), .list (P.enums.map eav)], oav o] (.bool (aim P o)) := z102 P o
  simp only [oav, PO.cells] at hk ha
  refine wG Tryz.func99 ?_; simp only [eK, Tryz.f99, seval]
  simp only [oav, PO.cells, arg1, h1, n1, n2, n3, eES, eEX, seval]
  refine aops_call (x100 o.alias) rfl rfl rfl (.inl rfl) ?_
  cases vld o.alias
  · simp only [Bool.false_and, Bool.not_false, eES, eEX, seval]
  simp only [Bool.true_and, Bool.not_true, n1, eES, eEX, seval]
  cases a1 : decide ((o.alias.length : Int) ≤ 4096)
  · simp only [a1, n1, Bool.false_and, Bool.not_false, eES, eEX, seval]
  simp only [a1, n1, n2, Bool.true_and, Bool.not_true, eES, eEX, seval]
  cases a2 : decide (o.card ≥ 1)
  · simp only [a2, n2, Bool.false_and, Bool.not_false, eES, eEX, seval]
  simp only [a2, n2, n3, Bool.true_and, Bool.not_true, eES, eEX, seval]
  cases a3 : decide (o.card ≤ 5)
  · simp only [a3, n3, Bool.false_and, Bool.not_false, eES, eEX, seval]
  simp only [a3, n3, Bool.true_and, Bool.not_true, eES, eEX, seval]
  refine aops_call hk rfl rfl rfl (.inl rfl) ?_
  cases key o
  · simp only [Bool.false_and, Bool.not_false, eES, eEX, seval]
  simp only [Bool.true_and, Bool.not_true, h1, eES, eEX, seval]
  refine aops_call ha rfl rfl rfl (.inl rfl) ?_
  simp only [eES, eEX, seval]

theorem z97 (g : PG) (hl : g.ops.length ≤ 9223372036854775000) (fr : Nat → Ob) (h1 : fr 1 = .cells [.list (P.progs.map gav), .list (P.enums.map eav)]) :
    ACalls Tryz.prog 97 [gav g, .ptr 3 1 0] [noObs, noObs, noObs, fr] fun y m1 => y = .bool (!argG P g) ∧ m1 = [noObs, noObs, noObs, fr] := by
  have hu := z98 g hl
  have e : argG P g = ((g.ops.all uok && uniB g) && g.ops.all (arg1 P)) := by
    unfold argG
    rw [show (g.ops.all fun o => arg1 P o && uok o) = (g.ops.all (arg1 P) && g.ops.all uok) from all_and ..]
    cases uniB g <;> cases g.ops.all (arg1 P) <;> cases g.ops.all uok <;> rfl
  simp only [gav, PG.cells] at hu
  refine wG Tryz.func97 ?_; simp only [eK, Tryz.f97, seval]
  simp only [gav, PG.cells, e, h1, eES, eEX, seval]
  refine aops_call hu rfl rfl rfl (.inl rfl) ?_
  cases (g.ops.all uok && uniB g)
  · simp only [Bool.false_and, Bool.not_false, eES, eEX, seval]
  simp only [Bool.true_and, Bool.not_true, h1, eES, eEX, seval]
  refine aops_callF (z71 g.ops (by simp only [maxLen]; omega) (fun o => !arg1 P o) 99 [.ptr 4 1 0] _ fun o _ => z99 P o _ fr h1) (by simp only [List.map_cons, List.map_nil, oav, eES, eEX, seval] <;> rfl) ?_
  simp only [any_not, eES, eEX, seval]

end

noncomputable def tabK : Tab := fun k => match k with
  | 202 => some (rk 202 Tryz.f202, Cg.rs Tryz.f202, Tryz.f202.ntmps)
  | _ => none
theorem tabK_ok : TabOk Tryz.prog tabK := by
  intro k c rs N h
  unfold tabK at h
  split at h
  · cases h; exact kc Tryz.func202 rfl (by decide)
  · cases h
def pKnown : Option (AV × Mem) → Bool
  | some (.mp ks vs, _) => match mpget (.s alias) ks vs with
    | some (.agg [.int .i64 a, .int .i64 b]) => a == 7 && b == 84 && keys true ks
    | _ => false
  | _ => false
theorem known_run : pKnown (evcall Ev.nat tabK (evC Ev.nat tabK 300) 202 [] []) = true := by decide +kernel
theorem z202 : ∃ ks vs, Fn1 Tryz.prog 202 [] (.mp ks vs) ∧ mpget (.s alias) ks vs = some (.agg [.int .i64 7, .int .i64 84]) ∧ keys true ks = true := by
  have h := known_run
  unfold pKnown at h
  split at h
  · rename_i ks vs m' h1
    split at h
    · rename_i a b h2
      simp only [Bool.and_eq_true, beq_iff_eq] at h
      obtain ⟨⟨rfl, rfl⟩, h3⟩ := h
      exact ⟨ks, vs, (evcall_ok Ev.nat_ok tabK_ok (evC_ok Ev.nat_ok tabK_ok 300) _ _ _ _ _ h1).mono fun _ _ e => e.1, h2, h3⟩
    · cases h
  · cases h

theorem z260 : Fn1 Tryz.prog 260 [.str alias] (.int .i64 7) := by
  obtain ⟨ks, vs, h1, h2, h3⟩ := z202
  have hg : AV.gr (.agg [.int .i64 7, .int .i64 84]) = true := rfl
  refine wF Tryz.func260 ?_; simp only [eK, Tryz.f260, seval]
  simp only [eES, eEX, seval]
  refine aops_call h1 rfl rfl rfl (.inl rfl) ?_
  simp only [entriesOf, Am.keyOf, h3, cond_true, h2, hg, eES, eEX, seval]

section
variable (kd : Int) (b : Nat) (t : List UInt8) (l p s r : List AV) (hl : l.length ≤ 140737488351232) (hp : p.length ≤ 140737488351232) (hs : s.length ≤ 140737488351232) (hr : r.length ≤ 140737488351232)

def nv : AV := .agg [.str alias, .int .i64 kd, .int .u64 (b : Nat), .str t, .list l, .list p, .list s, .list r]

include hl hp hs hr in
theorem z203 : Fn1 Tryz.prog 203 [nv kd b t l p s r] (.bool (fitv 7 kd b t l p s r)) := by
  have hf := z210 7 kd b t l p s r hl hp hs hr
  have b0 : ((7 : Int) != 0) = true := rfl
  simp only [vo] at hf
  refine wF Tryz.func203 ?_; simp only [eK, Tryz.f203, seval]
  simp only [nv, eES, eEX, seval]
  refine aops_call z260 rfl rfl rfl (.inl rfl) ?_
  simp only [b0, eES, eEX, seval]
  refine aops_call hf rfl rfl rfl (.inl rfl) ?_
  simp only [eES, eEX, seval]

include hl hp hs hr in
theorem z152 (last : List UInt8) : Fn1 Tryz.prog 152 [nv kd b t l p s r, .int .i64 4, .str last, .bool false] (.int .i64 (if fitv 7 kd b t l p s r = true then 0 else 12)) := by
  have hf := z203 kd b t l p s r hl hp hs hr
  obtain ⟨ks, vs, h1, h2, h3⟩ := z202
  have hg : AV.gr (.agg [.int .i64 7, .int .i64 84]) = true := rfl
  have b0 : decide ((4 : Int) < 1) = false := rfl
  have b1 : decide ((4 : Int) > 6) = false := rfl
  have b2 : (0 ≤ (4 : Int)) = True := by simp
  have b3 : (bits .and .i64 (Int.fdiv 84 (2 ^ min 4 64)) 1 == 0) = false := by decide
  have b4 : (bits .and .i64 ((84 : Int).fdiv (2 ^ (min (4 : Int).toNat IntKind.i64.bits))) 1 == 0) = false := by decide
  simp only [nv] at hf
  refine wF Tryz.func152 ?_; simp only [eK, Tryz.f152, seval]
  simp only [nv, eES, eEX, seval]
  refine aops_call h1 rfl rfl rfl (.inl rfl) ?_
  simp only [Am.keyOf, h3, cond_true, h2, hg, b0, b1, b2, b3, b4, if_true, eES, eEX, seval]
  refine aops_call hf rfl rfl rfl (.inl rfl) ?_
  cases fitv 7 kd b t l p s r
  · simp only [Bool.not_false, Bool.false_eq_true, if_false, eES, eEX, seval]
  · simp only [Bool.not_true, if_true, eES, eEX, seval]

def NcI (k : Nat) (st : St) : Prop :=
  ∃ f fr i, st = ⟨f, [fr], []⟩ ∧ k = 1 - i ∧ i ≤ 1 ∧ (i = 0 → ∃ last, f 5 = .str last) ∧ (i = 1 → fitv 7 kd b t l p s r = true) ∧ f 1 = .int .i64 4 ∧ f 12 = .list [nv kd b t l p s r] ∧ f 13 = .int .i64 1 ∧ f 14 = .int .i64 (i : Nat) ∧ ∀ s ∈ [7], (fr s).isRow = false

include hl hp hs hr in
theorem z105 : Fn1 Tryz.prog 105 [.list [nv kd b t l p s r], .int .i64 4] (.int .i64 (if fitv 7 kd b t l p s r = true then 0 else 12)) := by
  have b0 : decide (((1 : Nat) : Int) > 8) = false := rfl
  refine wF Tryz.func105 ?_; simp only [eK, Tryz.f105, seval]
  simp only [List.length_cons, List.length_nil, Nat.zero_add, b0, eES, eEX, seval]
  refine awp_loop (NcI kd b t l p s r) 1 ⟨_, _, 0, rfl, rfl, Nat.zero_le _, fun _ => ⟨[], (by first | rfl | simp only [eES, eEX, seval])⟩, (fun h => by cases h), (by first | rfl | simp only [eES, eEX, seval]), (by first | rfl | simp only [eES, eEX, seval]), (by first | rfl | simp only [eES, eEX, seval]), (by first | rfl | simp only [eES, eEX, seval]), by simp <;> rfl⟩ ?_
  rintro _ st ⟨f0, fr0, i, rfl, rfl, hi, hl5, hf, h10, h120, h130, h140, r7⟩
  refine awp_drops (a := _) [7] r7 ?_
  intro f fr hff hm hn7
  have h1 : f 1 = .int .i64 4 := by rw [hff, h10] <;> rfl
  have h12 : f 12 = .list [nv kd b t l p s r] := by rw [hff, h120] <;> rfl
  have h13 : f 13 = .int .i64 1 := by rw [hff, h130] <;> rfl
  have h14 : f 14 = .int .i64 (i : Nat) := by rw [hff, h140] <;> rfl
  have h5 : i = 0 → ∃ last, f 5 = .str last := fun h => by
    obtain ⟨la, e⟩ := hl5 h
    exact ⟨la, by rw [hff, e] <;> rfl⟩
  have n7 := hn7 7 (by decide)
  clear hff hm hn7 h10 h120 h130 h140 r7 hl5
  have ho := fun la => z152 kd b t l p s r hl hp hs hr la
  simp only [nv] at ho h12
  simp only [h1, h12, h13, h14, eES, eEX, seval]
  rcases Nat.le_one_iff_eq_zero_or_eq_one.1 hi with rfl | rfl
  · obtain ⟨la, h5⟩ := h5 rfl
    have c0 : decide (((0 : Nat) : Int) < 1) = true := rfl
    have c1 : decide (((0 : Nat) : Int) > 0) = false := rfl
    have e1 : IntKind.i64.wrap (((0 : Nat) : Int) + 1) = ((1 : Nat) : Int) := rfl
    have z0 : (0 ≤ ((0 : Nat) : Int)) = True := by simp
    have z1 : Int.toNat ((0 : Nat) : Int) = 0 := rfl
    simp only [c0, c1, z0, z1, aiaddr, n7, h1, h5, h12, h13, h14, eES, eEX, seval]
    refine aops_call (ho la) rfl rfl rfl (.inl rfl) ?_
    cases hfv : fitv 7 kd b t l p s r
    · have d0 : ((12 : Int) != 0) = true := rfl
      simp only [d0, Bool.false_eq_true, if_false, eES, eEX, seval]
    · have d0 : ((0 : Int) != 0) = false := rfl
      simp only [d0, if_true, h1, h5, h12, h13, h14, e1, eES, eEX, seval]
      exact ⟨0, by omega, _, _, 1, rfl, rfl, Nat.le_refl _, (fun h => by cases h), fun _ => hfv, (by first | rfl | exact h1 | simp only [h1, eES, eEX, seval]), (by first | rfl | exact h12 | simp only [h12, eES, eEX, seval]), (by first | rfl | exact h13 | simp only [h13, eES, eEX, seval]), (by first | rfl | simp only [eES, eEX, seval]), by simp <;> rfl⟩
  · have c0 : decide (((1 : Nat) : Int) < 1) = false := rfl
    simp only [c0, hf rfl, if_true, h1, h12, h13, h14, eES, eEX, seval]

end

theorem v0_of {M : Nat} {n : PN} (h : n.ok Tryz.prog M 58) (hM : M ≤ 140737488351232) : ∃ kd b t l p s r, n.val = [.int .i64 kd, .int .u64 ((b : Nat) : Int), .str t, .list l, .list p, .list s, .list r] ∧ t.length ≤ M ∧ l.length ≤ 140737488351232 ∧ p.length ≤ 140737488351232 ∧ s.length ≤ 140737488351232 ∧ r.length ≤ 140737488351232 := by
  obtain ⟨_, k, hk⟩ := h
  obtain ⟨k, h⟩ := has_struct Tryz.underlying58 hk
  simp only [Has.HasL] at h
  obtain ⟨_, _, e, h0, _, _, rfl, h1, _, _, rfl, h2, _, _, rfl, h3, _, _, rfl, h4, _, _, rfl, h5, _, _, rfl, h6, rfl⟩ := h
  obtain ⟨a0, rfl, w0⟩ := has_int Tryz.underlying3 h0
  obtain ⟨a1, rfl, w1⟩ := has_int Tryz.underlying52 h1
  obtain ⟨a2, rfl, w2⟩ := has_str Tryz.underlying9 h2
  obtain ⟨_, l3, rfl, w3, _⟩ := has_sliceM Tryz.underlying53 h3
  obtain ⟨_, l4, rfl, w4, _⟩ := has_sliceM Tryz.underlying54 h4
  obtain ⟨_, l5, rfl, w5, _⟩ := has_sliceM Tryz.underlying55 h5
  obtain ⟨_, l6, rfl, w6, _⟩ := has_sliceM Tryz.underlying56 h6
  have hb : 0 ≤ a1 := u64_lo w1
  obtain ⟨b, rfl⟩ := Int.eq_ofNat_of_zero_le hb
  exact ⟨a0, b, a2, _, _, _, _, e, w2, by simp; omega, by simp; omega, by simp; omega, by simp; omega⟩

theorem z104 {M : Nat} (hM : M ≤ 140737488351232) (x : PI) (hx : x.ok M) (m : Mem) : ACalls Tryz.prog 104 [iav x] m fun y m1 => y = .bool (!nte x) ∧ m1 = m := by
  have z0 : (0 ≤ (0 : Int)) = True := by simp
  have z1 : Int.toNat 0 = 0 := rfl
  refine wG Tryz.func104 ?_; simp only [eK, Tryz.f104, seval]
  simp only [iav, PI.cells, List.length_map, eES, eEX, seval]
  rcases hn : x.notes with _ | ⟨n, _ | ⟨n2, ns⟩⟩
  · have c0 : decide (((0 : Nat) : Int) > 1) = false := rfl
    have c1 : (((0 : Nat) : Int) == 1) = false := rfl
    have e : nte x = true := by unfold nte; rw [hn]
    simp only [hn, List.length_nil, List.map_nil, c0, c1, e, Bool.not_true, eES, eEX, seval]
  · obtain ⟨kd, b, t, l, p, s, r, hv, ht, h3, h4, h5, h6⟩ := v0_of (hx.notes n (by rw [hn]; simp)) hM
    have c0 : decide (((1 : Nat) : Int) > 1) = false := rfl
    have c1 : (((1 : Nat) : Int) == 1) = true := rfl
    have e : nte x = (n.name == alias && fitv 7 kd b t l p s r) := by
      unfold nte
      rw [hn]
      show (n.name == alias && nok n.val) = _
      rw [hv]
      rfl
    have en : elemV n.cells = .agg [.str n.name, .int .i64 kd, .int .u64 ((b : Nat) : Int), .str t, .list l, .list p, .list s, .list r] := by
      rw [PN.cells, hv]; rfl
    have hne : (!(n.name == [97, 108, 105, 97, 115])) = !(n.name == alias) := rfl
    have hc := z105 kd b t l p s r h3 h4 h5 h6
    simp only [nv] at hc
    simp only [hn, List.length_cons, List.length_nil, List.map_cons, List.map_nil, Nat.zero_add, c0, c1, en, aiaddr, z0, z1, List.getElem?_cons_zero, astr, hne, e, eES, eEX, seval]
    by_cases ha : n.name = alias
    · have b0 : (n.name == alias) = true := by simp [ha]
      rw [← ha] at hc
      simp only [b0, Bool.not_true, Bool.true_and, hn, List.map_cons, List.map_nil, en, eES, eEX, seval]
      refine aops_call hc rfl rfl rfl (.inl rfl) ?_
      cases fitv 7 kd b t l p s r
      · have d0 : ((12 : Int) != 0) = true := rfl
        simp only [Bool.false_eq_true, if_false, d0, Bool.not_false, eES, eEX, seval]
      · have d0 : ((0 : Int) != 0) = false := rfl
        simp only [if_true, d0, Bool.not_true, eES, eEX, seval]
    · have b0 : (n.name == alias) = false := by simp [ha]
      simp only [b0, Bool.not_false, Bool.false_and, eES, eEX, seval]
  · have c0 : decide ((((ns.length + 1 + 1 : Nat)) : Int) > 1) = true := decide_eq_true (by omega)
    have e : nte x = false := by unfold nte; rw [hn]
    simp only [hn, List.length_cons, c0, e, Bool.not_false, eES, eEX, seval]

theorem z103 {M : Nat} (hM : M ≤ 140737488351232) (x : PE) (hx : x.ok M) (m : Mem) : ACalls Tryz.prog 103 [eav x] m fun y m1 => y = .bool (!argE x) ∧ m1 = m := by
  have n1 : decide ((x.notes.length : Int) > 0) = !x.notes.isEmpty := by
    cases x.notes with
    | nil => rfl
    | cons a l => simp
  refine wG Tryz.func103 ?_; simp only [eK, Tryz.f103, seval]
  simp only [eav, PE.cells, List.length_map, argE, n1, eES, eEX, seval]
  cases a1 : x.notes.isEmpty
  · simp only [a1, n1, Bool.not_false, Bool.false_and, List.length_map, eES, eEX, seval]
  simp only [a1, n1, Bool.not_true, Bool.true_and, List.length_map, eES, eEX, seval]
  refine aops_callF (z75 x.items hx.len1 (fun o => !nte o) 104 [] _ fun o ho => z104 hM o (hx.items o ho) _) (by simp only [List.map_cons, List.map_nil, eES, eEX, seval] <;> rfl) ?_
  simp only [any_not, eES, eEX, seval]

theorem z43 {M : Nat} (hM : M ≤ 140737488351232) (P : PL) (hP : P.ok M) (hl : ∀ g ∈ P.progs, g.ops.length ≤ 64) : Fn1 Tryz.prog 43 [P.av] (.bool (!args P)) := by
  have e0 : P.av = .agg [.list (P.progs.map gav), .list (P.enums.map eav)] := rfl
  refine wF Tryz.func43 ?_; simp only [eK, Tryz.f43, seval]
  simp only [e0, args, eES, eEX, seval]
  refine aops_callF (z65 P.progs hP.len1 (fun g => !argG P g) 97 [.ptr 0 1 0] _ fun o ho => z97 P o (Nat.le_trans (hl o ho) (by decide)) _ (by first | rfl | simp only [eES, eEX, seval])) (by simp only [List.map_cons, List.map_nil, eES, eEX, seval] <;> rfl) ?_
  simp only [any_not, eES, eEX, seval]
  cases P.progs.all (argG P)
  · simp only [Bool.not_false, Bool.false_and, eES, eEX, seval]
  simp only [Bool.not_true, Bool.true_and, eES, eEX, seval]
  refine aops_callF (z67 P.enums hP.len2 (fun g => !argE g) 103 [] _ fun o ho => z103 hM o (hP.enums o ho) _) (by simp only [List.map_cons, List.map_nil, eES, eEX, seval] <;> rfl) ?_
  simp only [any_not, eES, eEX, seval]

end Go.Proofs.YtdgbidbkcigkhaaGreatDoor.Va

set_option linter.unusedSimpArgs false
namespace Go.Proofs.YtdgbidbkcigkhaaGreatDoor.Va
open Go Am Rc Bt Br

def need (B : List Bool) (o : PO) : Bool := o.card == 1 && o.kind == 10 && !(B[o.target.toNat]?.getD false)
def stp (G : List PG) (B : List Bool) (i : Nat) : List Bool := match G[i]? with
  | some g => B.set i (!g.ops.any (need B))
  | none => B
def rnd (G : List PG) (B : List Bool) : Nat → List Bool
  | 0 => B
  | i + 1 => stp G (rnd G B i) i
def its (G : List PG) : Nat → List Bool
  | 0 => List.replicate G.length false
  | c + 1 => rnd G (its G c) G.length
def fin (P : PL) : Bool := (its P.progs P.progs.length).all id

def Tgt (P : PL) : Prop := ∀ g ∈ P.progs, ∀ o ∈ g.ops, o.kind = 10 → 0 ≤ o.target ∧ o.target < (P.progs.length : Int)

theorem stp_len (G : List PG) (B : List Bool) (i : Nat) : (stp G B i).length = B.length := by
  unfold stp
  split <;> simp
theorem rnd_len (G : List PG) (B : List Bool) : ∀ i, (rnd G B i).length = B.length
  | 0 => rfl
  | i + 1 => by rw [rnd, stp_len, rnd_len G B i]
theorem its_len (G : List PG) : ∀ c, (its G c).length = G.length
  | 0 => by simp [its]
  | c + 1 => by rw [its, rnd_len, its_len G c]

def Kno (G : List PG) (B : List Bool) : Prop := ∀ (i : Nat) (g : PG), G[i]? = some g → B[i]? = some true → g.ops.any (need B) = false

theorem need_mono {B B' : List Bool} (h : ∀ k : Nat, B[k]?.getD false = true → B'[k]?.getD false = true) {o : PO} (hn : need B o = false) : need B' o = false := by
  unfold need at *
  cases hc : (o.card == 1 && o.kind == 10)
  · rfl
  · rw [hc] at hn
    simp only [Bool.true_and, Bool.not_eq_false'] at hn ⊢
    rw [h _ hn]

theorem kno_stp {G : List PG} {B : List Bool} (h : Kno G B) (i : Nat) : Kno G (stp G B i) ∧ ∀ k : Nat, B[k]?.getD false = true → (stp G B i)[k]?.getD false = true := by
  have mono : ∀ k : Nat, B[k]?.getD false = true → (stp G B i)[k]?.getD false = true := by
    intro k hk
    unfold stp
    split
    · rename_i g hg
      by_cases hki : i = k
      · subst hki
        have hb : B[i]? = some true := by
          cases hB : B[i]? with
          | none => rw [hB] at hk; cases hk
          | some b => rw [hB] at hk; simp at hk; rw [hk]
        have hlt := (List.getElem?_eq_some_iff.1 hb).1
        rw [List.getElem?_set_self hlt, h i g hg hb]; rfl
      · rw [List.getElem?_set_ne hki]; exact hk
    · exact hk
  refine ⟨fun j g hg hb => ?_, mono⟩
  rw [List.any_eq_false]
  intro o ho
  rw [Bool.not_eq_true]
  have hB : B[j]? = some true ∨ g.ops.any (need B) = false := by
    unfold stp at hb
    split at hb
    · rename_i g' hg'
      by_cases hij : i = j
      · subst hij
        rw [hg] at hg'; cases hg'
        right
        by_cases hlt : i < B.length
        · rw [List.getElem?_set_self hlt] at hb
          simpa using hb
        · rw [List.getElem?_eq_none (by simp; omega)] at hb; cases hb
      · rw [List.getElem?_set_ne hij] at hb
        exact .inl hb
    · exact .inl hb
  have ha : g.ops.any (need B) = false := hB.elim (h j g hg) id
  rw [List.any_eq_false] at ha
  exact need_mono mono (by simpa using ha o ho)

theorem kno_rnd {G : List PG} {B : List Bool} (h : Kno G B) : ∀ i, Kno G (rnd G B i)
  | 0 => h
  | i + 1 => (kno_stp (kno_rnd h i) i).1
theorem kno_its (G : List PG) : ∀ c, Kno G (its G c)
  | 0 => by
    intro i g _ hb
    rw [its, List.getElem?_replicate] at hb
    split at hb <;> cases hb
  | c + 1 => kno_rnd (kno_its G c) _

theorem stp_or {G : List PG} {B : List Bool} (h : Kno G B) {i : Nat} {g : PG} {b : Bool} (hg : G[i]? = some g) (hb : B[i]? = some b) : stp G B i = B.set i (b || !g.ops.any (need B)) := by
  unfold stp
  rw [hg]
  cases b with
  | false => rfl
  | true =>
    show B.set i _ = B.set i (true || _)
    rw [h i g hg hb]; rfl

theorem aops_callK {P : Program} {f : Fr} {d : Nat} {its : List Am.Item} {m : Mem} {ds : List DF} {K : St → Prop} {k l s : Nat} {args : List RA} {ys : List AV} {v : AV} (hk : ACalls P k ys m fun x m1 => x = v ∧ m1 = m) (hy : args.map (RA.ev f) = ys) (h : aops P its ⟨upd f d v, m, ds⟩ K) :
    aops P (⟨some d, .callK l s (.f k) args, none⟩ :: its) ⟨f, m, ds⟩ K := by
  refine ⟨k, [], [], v, m, rfl, ?_, rfl, h⟩
  show ACalls P k (args.map (RA.ev f) ++ []) m fun x m1 => x = v ∧ m1 = m
  rw [List.append_nil, hy]
  exact hk

theorem z153 (B : List Bool) (hl : B.length ≤ maxLen) : Fn1 Tryz.prog 153 [.list (B.map AV.bool), .bool false] (.int .i64 (fxi (fun b => !b) B 0)) := by
  let I : Nat → St → Prop := fun k st => ∃ f i, st = ⟨f, [noObs], []⟩ ∧ k = B.length - i ∧ fxi (fun b => !b) B 0 = fxi (fun b => !b) (B.drop i) i ∧ f 0 = .list (B.map AV.bool) ∧ f 1 = .bool false ∧ f 7 = .int .i64 (B.length : Nat) ∧ f 8 = .int .i64 (i : Nat)
  refine wF Tryz.func153 ?_; simp only [eK, Tryz.f153, seval]
  simp only [List.length_map, eES, eEX, seval]
  refine awp_loop I _ ⟨_, 0, rfl, rfl, rfl, (by first | rfl | simp only [eES, eEX, seval]), (by first | rfl | simp only [eES, eEX, seval]), (by first | rfl | simp only [eES, eEX, seval]), (by first | rfl | simp only [eES, eEX, seval])⟩ ?_
  rintro _ st ⟨f, i, rfl, rfl, hx, h0, h1, h7, h8⟩
  simp only [h0, h1, h7, h8, eES, eEX, seval]
  by_cases hlt : i < B.length
  · obtain ⟨x, hi⟩ : ∃ x, B[i]? = some x := ⟨B[i], List.getElem?_eq_getElem hlt⟩
    have hg : (B.map AV.bool)[i]? = some (.bool x) := by simp [hi]
    have e1 := wi64_s i _ hlt hl
    rw [fxi_drop _ hi] at hx
    cases x
    · rw [if_pos (show (!false) = true from rfl)] at hx
      have b0 : (false == false) = true := rfl
      simp only [lt_t hlt, nneg, Int.toNat_natCast, aiaddr, hg, b0, h0, h1, h7, h8, hx, eES, eEX, seval]
    · rw [if_neg (by decide)] at hx
      have b0 : (false == true) = false := rfl
      simp only [lt_t hlt, nneg, Int.toNat_natCast, aiaddr, hg, b0, h0, h1, h7, h8, e1, eES, eEX, seval]
      exact ⟨B.length - (i + 1), by omega, _, i + 1, rfl, rfl, hx, (by first | rfl | exact h0 | simp only [h0, eES, eEX, seval]), (by first | rfl | exact h1 | simp only [h1, eES, eEX, seval]), (by first | rfl | exact h7 | simp only [h7, eES, eEX, seval]), (by first | rfl | simp only [eES, eEX, seval])⟩
  · have hx' : fxi (fun b => !b) B 0 = -1 := by rw [hx, List.drop_of_length_le (by omega)]; rfl
    simp only [lt_f hlt, h0, h1, h7, h8, hx', eES, eEX, seval]

theorem z107 (B : List Bool) (hl : B.length ≤ maxLen) : Fn1 Tryz.prog 107 [.list (B.map AV.bool), .bool false] (.bool (!B.all id)) := by
  have e : (!B.all id) = B.any fun b => !b := by rw [any_not]; rfl
  refine wF Tryz.func107 ?_; simp only [eK, Tryz.f107, seval]
  simp only [eES, eEX, seval]
  refine aops_call (z153 B hl) rfl rfl rfl (.inl rfl) ?_
  simp only [fxi_any0, e, eES, eEX, seval]

theorem z106 (o : PO) (n : Nat) (B : List Bool) (hB : B.length = n) (ht : o.kind = 10 → 0 ≤ o.target ∧ o.target < (n : Int)) (fr : Nat → Ob) (m : Mem) (h3 : fr 3 = .cells [.vec 0 9 1 0 n false]) (h9 : fr 9 = .vec 1 1 (B.map AV.bool)) :
    ACalls Tryz.prog 106 [oav o, .ptr 3 3 0] (noObs :: noObs :: noObs :: fr :: m) fun y m1 => y = .bool (need B o) ∧ m1 = noObs :: noObs :: noObs :: fr :: m := by
  refine wG Tryz.func106 ?_; simp only [eK, Tryz.f106, seval]
  simp only [oav, PO.cells, need, h3, eES, eEX, seval]
  cases a1 : (o.card == 1)
  · simp only [a1, Bool.false_and, eES, eEX, seval]
  cases a2 : (o.kind == 10)
  · simp only [a1, a2, Bool.false_and, Bool.and_false, eES, eEX, seval]
  obtain ⟨t1, t2⟩ := ht (by simpa using a2)
  obtain ⟨t, hte⟩ := Int.eq_ofNat_of_zero_le t1
  obtain ⟨y, hy⟩ : ∃ y, B[t]? = some y := ⟨B[t]'(by omega), List.getElem?_eq_getElem (by omega)⟩
  have hg : (B.map AV.bool)[t]? = some (.bool y) := by simp [hy]
  have hlt : (t < n) = True := eq_true (by omega)
  simp only [a1, a2, hte, hy, hg, hlt, h3, h9, aiaddr, nneg, Int.toNat_natCast, Option.getD_some, Bool.true_and, Nat.zero_add, eES, eEX, seval]

structure En (P : PL) (c : Nat) (B : List Bool) (f : Fr) (fr : Nat → Ob) : Prop where
  h1 : f 1 = .ptr 0 1 0
  m1 : fr 1 = .cells [.list (P.progs.map gav), .list (P.enums.map eav)]
  h3 : f 3 = .ptr 0 3 0
  m3 : fr 3 = .cells [.vec 0 9 1 0 P.progs.length false]
  m9 : fr 9 = .vec 1 1 (B.map AV.bool)
  h12 : f 12 = .int .i64 (P.progs.length : Nat)
  h13 : f 13 = .int .i64 (c : Nat)
  r5 : ∀ s ∈ [5], (fr s).isRow = false

theorem En.drop {P : PL} {c : Nat} {B : List Bool} {f f' : Fr} {fr fr' : Nat → Ob} (h : En P c B f fr) (hf : ∀ i, f' i = scrs [5] (f i)) (hm : ∀ i, i ∉ [5] → fr' i = oscrs [5] (fr i)) (hn : ∀ i ∈ [5], fr' i = .none) : En P c B f' fr' where
  h1 := by rw [hf, h.h1] <;> rfl
  m1 := by rw [hm 1 (by decide), h.m1] <;> rfl
  h3 := by rw [hf, h.h3] <;> rfl
  m3 := by rw [hm 3 (by decide), h.m3] <;> rfl
  m9 := by rw [hm 9 (by decide), h.m9] <;> rfl
  h12 := by rw [hf, h.h12] <;> rfl
  h13 := by rw [hf, h.h13] <;> rfl
  r5 := fun s hs => by rw [hn s hs] <;> rfl

def EnA (P : PL) (k : Nat) (st : St) : Prop := ∃ f fr c, st = ⟨f, [fr], []⟩ ∧ k = P.progs.length - c ∧ c ≤ P.progs.length ∧ En P c (its P.progs c) f fr
def EnB (P : PL) (c : Nat) (k : Nat) (st : St) : Prop := ∃ f fr i, st = ⟨f, [fr], []⟩ ∧ k = P.progs.length - i ∧ i ≤ P.progs.length ∧ En P c (rnd P.progs (its P.progs c) i) f fr ∧ f 16 = .list (P.progs.map gav) ∧ f 17 = .int .i64 (P.progs.length : Nat) ∧ f 18 = .int .i64 (i : Nat)

theorem z44 {M : Nat} (P : PL) (hP : P.ok M) (hl : P.progs.length ≤ 64) (hT : Tgt P) : Fn1 Tryz.prog 44 [P.av] (.bool (!fin P)) := by
  have e0 : P.av = .agg [.list (P.progs.map gav), .list (P.enums.map eav)] := rfl
  have hmx : P.progs.length ≤ maxLen := by simp only [maxLen]; omega
  have hz : zeroE 1 [AV.bool false] = .bool false := rfl
  have hr0 : (List.replicate P.progs.length (AV.bool false)) = (its P.progs 0).map AV.bool := by simp [its]
  refine wF Tryz.func44 ?_; simp only [eK, Tryz.f44, seval]
  simp only [e0, List.length_map, eES, eEX, seval]
  refine aops_mk (n := P.progs.length) (k := P.progs.length) rfl rfl (Nat.le_refl _) (by omega) (by omega) rfl ?_
  simp only [hz, hr0, List.length_map, eES, eEX, seval]
  refine awp_loop (EnA P) _ ⟨_, _, 0, rfl, rfl, Nat.zero_le _, ⟨(by first | rfl | simp only [eES, eEX, seval]), (by first | rfl | simp only [eES, eEX, seval]), (by first | rfl | simp only [eES, eEX, seval]), (by first | rfl | simp only [eES, eEX, seval]), (by first | rfl | simp only [eES, eEX, seval]), (by first | rfl | simp only [eES, eEX, seval]), (by first | rfl | simp only [eES, eEX, seval]), by simp <;> rfl⟩⟩ ?_
  rintro _ st ⟨f0, fr0, c, rfl, rfl, hc, H0⟩
  refine awp_drops (a := _) [5] H0.r5 ?_
  intro f fr hf hm hn
  have H := H0.drop hf hm hn
  clear hf hm hn
  obtain ⟨h1, m1, h3, m3, m9, h12, h13, r5⟩ := id H
  simp only [h1, h3, h12, h13, m1, m3, eES, eEX, seval]
  by_cases hlt : c < P.progs.length
  · have e1 := wi64_s c _ hlt hmx
    simp only [lt_t hlt, h1, h3, h12, h13, m1, m3, List.length_map, eES, eEX, seval]
    refine awp_loop (EnB P c) _ ⟨_, _, 0, rfl, rfl, Nat.zero_le _, ⟨(by first | rfl | exact h1 | simp only [h1, eES, eEX, seval]), (by first | rfl | exact m1 | simp only [m1, eES, eEX, seval]), (by first | rfl | exact h3 | simp only [h3, eES, eEX, seval]), (by first | rfl | exact m3 | simp only [m3, eES, eEX, seval]), (by first | rfl | exact m9 | simp only [m9, eES, eEX, seval]), (by first | rfl | exact h12 | simp only [h12, eES, eEX, seval]), (by first | rfl | exact h13 | simp only [h13, eES, eEX, seval]), r5⟩, (by first | rfl | simp only [eES, eEX, seval]), (by first | rfl | simp only [eES, eEX, seval]), (by first | rfl | simp only [eES, eEX, seval])⟩ ?_
    rintro _ st ⟨f0, fr0, i, rfl, rfl, hi, H0, h160, h170, h180⟩
    refine awp_drops (a := _) [5] H0.r5 ?_
    intro f fr hf hm hn
    have H := H0.drop hf hm hn
    have h16 : f 16 = .list (P.progs.map gav) := by rw [hf, h160] <;> rfl
    have h17 : f 17 = .int .i64 (P.progs.length : Nat) := by rw [hf, h170] <;> rfl
    have h18 : f 18 = .int .i64 (i : Nat) := by rw [hf, h180] <;> rfl
    have n5 := hn 5 (by decide)
    clear hf hm hn
    obtain ⟨h1, m1, h3, m3, m9, h12, h13, r5⟩ := id H
    simp only [h1, h3, h12, h13, h16, h17, h18, m1, m3, eES, eEX, seval]
    by_cases hli : i < P.progs.length
    · obtain ⟨g, hg⟩ : ∃ g, P.progs[i]? = some g := ⟨P.progs[i], List.getElem?_eq_getElem hli⟩
      have hgm : (P.progs.map gav)[i]? = some (gav g) := by simp [hg]
      have hBl : (rnd P.progs (its P.progs c) i).length = P.progs.length := by rw [rnd_len, its_len]
      obtain ⟨b, hb⟩ : ∃ b, (rnd P.progs (its P.progs c) i)[i]? = some b := ⟨_, List.getElem?_eq_getElem (by omega)⟩
      have hbm : ((rnd P.progs (its P.progs c) i).map AV.bool)[i]? = some (.bool b) := by simp [hb]
      have hst := stp_or (kno_rnd (kno_its P.progs c) i) hg hb
      have e2 := wi64_s i _ hli hmx
      have s1 : (i < P.progs.length) = True := eq_true hli
      have hTg := hT g (List.mem_of_getElem? hg)
      generalize hBB : rnd P.progs (its P.progs c) i = B at *
      have fin2 : ∀ (f' : Fr) (fr' : Nat → Ob) (v : Bool), (b || !g.ops.any (need B)) = v → f' 1 = .ptr 0 1 0 → fr' 1 = .cells [.list (P.progs.map gav), .list (P.enums.map eav)] → f' 3 = .ptr 0 3 0 → fr' 3 = .cells [.vec 0 9 1 0 P.progs.length false] →
          fr' 9 = .vec 1 1 ((B.map AV.bool).set i (.bool v)) → f' 12 = .int .i64 (P.progs.length : Nat) → f' 13 = .int .i64 (c : Nat) → (∀ s ∈ [5], (fr' s).isRow = false) → f' 16 = .list (P.progs.map gav) → f' 17 = .int .i64 (P.progs.length : Nat) → f' 18 = .int .i64 ((i + 1 : Nat) : Int) → ∃ k, k < P.progs.length - i ∧ EnB P c k ⟨f', [fr'], []⟩ := by
        intro f' fr' v hv a1 a2 a3 a4 a5 a6 a7 a8 a9 a10 a11
        have hB' : rnd P.progs (its P.progs c) (i + 1) = B.set i v := by rw [rnd, hBB, hst, hv]
        exact ⟨P.progs.length - (i + 1), by omega, f', fr', i + 1, rfl, rfl, by omega, ⟨a1, a2, a3, a4, by rw [hB', a5, List.map_set], a6, a7, a8⟩, a9, a10, a11⟩
      have ist : ∀ (fr' : Nat → Ob) (v : Bool), fr' 9 = .vec 1 1 (B.map AV.bool) → astore [fr'] (.vptr 0 9 1 i 0) [.bool v] = some [upd fr' 9 (.vec 1 1 ((B.map AV.bool).set i (.bool v)))] := by
        intro fr' v h9
        have e : Am.look [fr'] 0 9 = .vec 1 1 (B.map AV.bool) := h9
        simp only [astore, e, hbm]
        simp [AV.cells, AV.rfL, AV.rf, Am.put, newElem]
      have ia : ∀ fr' : Nat → Ob, fr' 9 = .vec 1 1 (B.map AV.bool) → aiaddr [fr'] 1 none (.vec 0 9 1 0 P.progs.length false) (i : Int) = some (.vptr 0 9 1 i 0) := by
        intro fr' h9
        have e : Am.look [fr'] 0 9 = .vec 1 1 (B.map AV.bool) := h9
        simp only [aiaddr, e, nneg, if_true, Int.toNat_natCast]
        simp; omega
      have hcl := fun (fr' : Nat → Ob) (h3 : fr' 3 = .cells [.vec 0 9 1 0 P.progs.length false]) (h9 : fr' 9 = .vec 1 1 (B.map AV.bool)) => z71 g.ops (hP.progs g (List.mem_of_getElem? hg)).len (need B) 106 [.ptr 0 3 0] [fr'] fun o ho => z106 o P.progs.length B hBl (hTg o ho) fr' _ h3 h9
      simp only [lt_t hli, nneg, Int.toNat_natCast, aiaddr, hgm, gav, PG.cells, n5, hbm, s1, Nat.zero_add, h1, h3, h12, h13, h16, h17, h18, m1, m3, m9, eES, eEX, seval]
      cases b
      · simp only [h1, h3, h12, h13, h16, h17, h18, m1, m3, m9, eES, eEX, seval]
        refine aops_callK (hcl _ (by first | rfl | exact m3 | simp only [m3, eES, eEX, seval]) (by first | rfl | exact m9 | simp only [m9, eES, eEX, seval])) (by simp only [List.map_cons, List.map_nil, h3, eES, eEX, seval] <;> rfl) ?_
        generalize hav : g.ops.any (need B) = av
        rw [hav] at fin2
        simp only [ia, ist, h1, h3, h12, h13, h16, h17, h18, m1, m3, m9, e2, eES, eEX, seval]
        exact fin2 _ _ _ rfl (by first | rfl | exact h1 | simp only [h1, eES, eEX, seval]) (by first | rfl | exact m1 | simp only [m1, eES, eEX, seval]) (by first | rfl | exact h3 | simp only [h3, eES, eEX, seval]) (by first | rfl | exact m3 | simp only [m3, eES, eEX, seval]) (by first | rfl | simp only [eES, eEX, seval]) (by first | rfl | exact h12 | simp only [h12, eES, eEX, seval]) (by first | rfl | exact h13 | simp only [h13, eES, eEX, seval]) (by simp <;> rfl) (by first | rfl | exact h16 | simp only [h16, eES, eEX, seval]) (by first | rfl | exact h17 | simp only [h17, eES, eEX, seval]) (by first | rfl | simp only [eES, eEX, seval])
      · simp only [ia, ist, h1, h3, h12, h13, h16, h17, h18, m1, m3, m9, e2, eES, eEX, seval]
        exact fin2 _ _ _ rfl (by first | rfl | exact h1 | simp only [h1, eES, eEX, seval]) (by first | rfl | exact m1 | simp only [m1, eES, eEX, seval]) (by first | rfl | exact h3 | simp only [h3, eES, eEX, seval]) (by first | rfl | exact m3 | simp only [m3, eES, eEX, seval]) (by first | rfl | simp only [eES, eEX, seval]) (by first | rfl | exact h12 | simp only [h12, eES, eEX, seval]) (by first | rfl | exact h13 | simp only [h13, eES, eEX, seval]) (by simp <;> rfl) (by first | rfl | exact h16 | simp only [h16, eES, eEX, seval]) (by first | rfl | exact h17 | simp only [h17, eES, eEX, seval]) (by first | rfl | simp only [eES, eEX, seval])
    · have hii : i = P.progs.length := by omega
      subst hii
      simp only [lt_f hli, h1, h3, h12, h13, h16, h17, h18, m1, m3, m9, e1, eES, eEX, seval]
      exact ⟨P.progs.length - (c + 1), by omega, _, _, c + 1, rfl, rfl, by omega, ⟨(by first | rfl | exact h1 | simp only [h1, eES, eEX, seval]), (by first | rfl | exact m1 | simp only [m1, eES, eEX, seval]), (by first | rfl | exact h3 | simp only [h3, eES, eEX, seval]), (by first | rfl | exact m3 | simp only [m3, eES, eEX, seval]), m9, (by first | rfl | exact h12 | simp only [h12, eES, eEX, seval]), (by first | rfl | simp only [eES, eEX, seval]), r5⟩⟩
  · have hcc : c = P.progs.length := by omega
    subst hcc
    have hBl := its_len P.progs P.progs.length
    simp only [lt_f hlt, h1, h3, h12, h13, m1, m3, eES, eEX, seval]
    refine aops_call (z107 (its P.progs P.progs.length) (by omega)) ?_ rfl rfl (.inr rfl) ?_
    · have el : Am.look [fr] 0 9 = .vec 1 1 ((its P.progs P.progs.length).map AV.bool) := m9
      simp only [List.map_cons, List.map_nil, AV.stillL, AV.still, el, eES, eEX, seval]
      have hle : (0 + P.progs.length ≤ ((its P.progs P.progs.length).map AV.bool).length) = True := eq_true (by simp; omega)
      have ht : ((its P.progs P.progs.length).map AV.bool).take P.progs.length = (its P.progs P.progs.length).map AV.bool := List.take_of_length_le (by simp; omega)
      simp only [Bool.false_and, Bool.false_eq_true, if_false, hle, if_true, ht]
    · simp only [fin, eES, eEX, seval]

def ck (P : PL) : Int :=
  if lim P = false then 3 else if nam P = false then 8 else if ord P = false then 11 else if sin P = false then 9 else if rng P = false then 6 else if args P = false then 1 else if fin P = false then 19 else 0

theorem lim_progs {P : PL} (h : lim P = true) : P.progs.length ≤ 64 ∧ P.enums.length ≤ 64 ∧ (∀ g ∈ P.progs, g.ops.length ≤ 64) ∧ ∀ e ∈ P.enums, 1 ≤ e.items.length ∧ e.items.length ≤ 64 ∧ e.free.length ≤ 16 := by
  unfold lim at h
  simp only [Bool.and_eq_true, decide_eq_true_eq, List.all_eq_true] at h
  obtain ⟨⟨⟨h1, h2⟩, h3⟩, h4⟩ := h
  refine ⟨h1, h2, fun g hg => ?_, fun e he => ?_⟩
  · have := h3 g hg
    unfold lim1 at this
    exact of_decide_eq_true this
  · have := h4 e he
    unfold lim2 at this
    simp only [Bool.and_eq_true, decide_eq_true_eq] at this
    exact ⟨this.1.1, this.1.2, this.2⟩

theorem args_tgt {P : PL} (h : args P = true) : Tgt P := by
  intro g hg o ho hk
  unfold args at h
  simp only [Bool.and_eq_true, List.all_eq_true] at h
  have h1 := h.1 g hg
  unfold argG at h1
  simp only [Bool.and_eq_true, List.all_eq_true] at h1
  have h2 := (h1.2 o ho).1
  unfold arg1 at h2
  simp only [Bool.and_eq_true] at h2
  have h3 := h2.2
  unfold aim at h3
  rw [if_pos hk] at h3
  simp only [Bool.and_eq_true, decide_eq_true_eq] at h3
  exact ⟨h3.1.1, h3.1.2⟩

theorem zn27 {M : Nat} (P : PL) (hP : P.ok M) (hM : M ≤ 140737488351232) (hN1 : ∀ g ∈ P.progs, g.name.length ≤ 17592186044000) (hN2 : ∀ g ∈ P.enums, g.name.length ≤ 17592186044000) : Fn1 Tryz.prog 27 [P.av] (.int .i64 (ck P)) := by
  have e0 : P.av = .agg [.list (P.progs.map gav), .list (P.enums.map eav)] := rfl
  have c1 := z38 P hP
  have c2 := zn39 P hP hN1 hN2
  have c3 := z40 P hP
  have c4 := z41 P hP
  refine wF Tryz.func27 ?_; simp only [eK, Tryz.f27, seval]
  simp only [e0, ck, eES, eEX, seval]
  refine aops_call c1 rfl rfl rfl (.inl rfl) ?_
  cases hl : lim P
  · simp only [Bool.not_false, if_true, eES, eEX, seval]
  obtain ⟨l1, l2, l3, l4⟩ := lim_progs hl
  have c5 := z42 P hP fun e he h => by have := (l4 e he).1; rw [h] at this; simp at this
  have c6 := z43 hM P hP l3
  simp only [Bool.not_true, Bool.true_eq_false, if_false, eES, eEX, seval]
  refine aops_call c2 rfl rfl rfl (.inl rfl) ?_
  cases nam P
  · simp only [Bool.not_false, if_true, eES, eEX, seval]
  simp only [Bool.not_true, Bool.true_eq_false, if_false, eES, eEX, seval]
  refine aops_call c3 rfl rfl rfl (.inl rfl) ?_
  cases ord P
  · simp only [Bool.not_false, if_true, eES, eEX, seval]
  simp only [Bool.not_true, Bool.true_eq_false, if_false, eES, eEX, seval]
  refine aops_call c4 rfl rfl rfl (.inl rfl) ?_
  cases sin P
  · simp only [Bool.not_false, if_true, eES, eEX, seval]
  simp only [Bool.not_true, Bool.true_eq_false, if_false, eES, eEX, seval]
  refine aops_call c5 rfl rfl rfl (.inl rfl) ?_
  cases rng P
  · simp only [Bool.not_false, if_true, eES, eEX, seval]
  simp only [Bool.not_true, Bool.true_eq_false, if_false, eES, eEX, seval]
  refine aops_call c6 rfl rfl rfl (.inl rfl) ?_
  cases ha : args P
  · simp only [Bool.not_false, if_true, eES, eEX, seval]
  have c7 := z44 P hP l1 (args_tgt ha)
  simp only [Bool.not_true, Bool.true_eq_false, if_false, eES, eEX, seval]
  refine aops_call c7 rfl rfl rfl (.inl rfl) ?_
  cases fin P
  · simp only [Bool.not_false, if_true, eES, eEX, seval]
  · simp only [Bool.not_true, Bool.true_eq_false, if_false, eES, eEX, seval]

end Go.Proofs.YtdgbidbkcigkhaaGreatDoor.Va

set_option linter.unusedSimpArgs false
namespace Go.Proofs.YtdgbidbkcigkhaaGreatDoor.Va
open Go Am Rc Bt Br

def Pc (P : PL) : List AV := [.list (P.progs.map gav), .list (P.enums.map eav)]

theorem acc_step (b : Bool) (q : Nat → Bool) (i : Nat) : (b && allU q (i + 1)) = ((b && allU q i) && q i) := by rw [allU, Bool.and_assoc]

section
variable {M : Nat} (P : PL) (hP : P.ok M) (fr : Nat → Ob) (m1 : fr 1 = .cells (Pc P)) (f : Fr) (b : Bool) (h1 : f 1 = .ptr 0 1 0) (h3 : f 3 = .bool b) (Q : Exit → St → Prop)
include hP m1 h1 h3

theorem lims_progs (ha : f 4 = .int .i64 0) (hx : ∀ f, f 1 = .ptr 0 1 0 → f 3 = .bool (b && P.progs.all lim1) → Q (.exit 0) (⟨f, [fr], []⟩ : St)) : awp Tryz.prog (.loop l18_0) ⟨f, [fr], []⟩ Q := by
  let I : Nat → St → Prop := fun k st => ∃ f i, st = ⟨f, [fr], []⟩ ∧ k = P.progs.length - i ∧ i ≤ P.progs.length ∧ f 1 = .ptr 0 1 0 ∧ f 3 = .bool (b && (P.progs.take i).all lim1) ∧ f 4 = .int .i64 (i : Nat)
  refine awp_loop I _ ⟨f, 0, rfl, rfl, Nat.zero_le _, h1, by rw [h3]; simp, ha⟩ ?_
  clear h1 h3 ha
  simp only [Pc] at m1
  rintro _ st ⟨f, i, rfl, rfl, hi, h1, h3, ha⟩
  simp only [List.length_map, h1, m1, h3, ha, eES, eEX, seval]
  by_cases hlt : i < P.progs.length
  · obtain ⟨x, hg⟩ : ∃ x, P.progs[i]? = some x := ⟨P.progs[i], List.getElem?_eq_getElem hlt⟩
    have hgm : (P.progs.map gav)[i]? = some (.agg x.cells) := by simp [hg, gav]
    have e1 := wi64_s i _ hlt hP.len1
    have ht := take_all (q := lim1) hg
    have e3 : decide ((x.ops.length : Int) ≤ 64) = lim1 x := by unfold lim1 ; exact (by rw [Bool.eq_iff_iff]; simp only [decide_eq_true_eq, Bool.not_eq_true', decide_eq_false_iff_not, Bool.and_eq_true, Bool.or_eq_true, beq_iff_eq, bne_iff_ne, ne_eq]; omega)
    have fin : ∀ f' : Fr, f' 1 = .ptr 0 1 0 → f' 3 = .bool ((b && (P.progs.take i).all lim1) && lim1 x) → f' 4 = .int .i64 ((i + 1 : Nat) : Int) → ∃ k, k < P.progs.length - i ∧ I k ⟨f', [fr], []⟩ := by
      intro f' a1 a3 a4
      exact ⟨P.progs.length - (i + 1), by omega, f', i + 1, rfl, rfl, by omega, a1, by rw [a3, ht, Bool.and_assoc], a4⟩
    simp only [PG.cells] at hgm
    cases hb : (b && (P.progs.take i).all lim1)
    · rw [hb] at fin h3
      simp only [lt_t hlt, nneg, Int.toNat_natCast, aiaddr, hgm, PG.cells, List.length_map, h1, m1, h3, ha, e1, eES, eEX, seval]
      exact fin _ (by first | rfl | exact h1 | simp only [h1, eES, eEX, seval]) (by first | rfl | simp only [eES, eEX, seval]) (by first | rfl | simp only [eES, eEX, seval])
    · rw [hb, Bool.true_and] at fin
      rw [hb] at h3
      skip
      all_goals
        try rw [c1] at e3
        try rw [c2] at e3
        simp only [lt_t hlt, nneg, Int.toNat_natCast, aiaddr, hgm, PG.cells, List.length_map, h1, m1, h3, ha, e1, e3, eES, eEX, seval]
        exact fin _ (by first | rfl | exact h1 | simp only [h1, eES, eEX, seval]) (by rw [← e3] <;> first | rfl | simp only [eES, eEX, seval]) (by first | rfl | simp only [eES, eEX, seval])
  · have hf : (P.progs.take i).all lim1 = P.progs.all lim1 := by rw [List.take_of_length_le (by omega)]
    rw [hf] at h3
    simp only [lt_f hlt, List.length_map, h1, m1, h3, ha, eES, eEX, seval]
    exact hx _ (by first | rfl | exact h1 | simp only [h1, eES, eEX, seval]) (by first | rfl | exact h3 | simp only [h3, eES, eEX, seval])

theorem lims_enums (ha : f 5 = .int .i64 0) (hx : ∀ f, f 1 = .ptr 0 1 0 → f 3 = .bool (b && P.enums.all lim2) → Q (.exit 2) (⟨f, [fr], []⟩ : St)) : awp Tryz.prog (.loop l18_1) ⟨f, [fr], []⟩ Q := by
  let I : Nat → St → Prop := fun k st => ∃ f i, st = ⟨f, [fr], []⟩ ∧ k = P.enums.length - i ∧ i ≤ P.enums.length ∧ f 1 = .ptr 0 1 0 ∧ f 3 = .bool (b && (P.enums.take i).all lim2) ∧ f 5 = .int .i64 (i : Nat)
  refine awp_loop I _ ⟨f, 0, rfl, rfl, Nat.zero_le _, h1, by rw [h3]; simp, ha⟩ ?_
  clear h1 h3 ha
  simp only [Pc] at m1
  rintro _ st ⟨f, i, rfl, rfl, hi, h1, h3, ha⟩
  simp only [List.length_map, h1, m1, h3, ha, eES, eEX, seval]
  by_cases hlt : i < P.enums.length
  · obtain ⟨x, hg⟩ : ∃ x, P.enums[i]? = some x := ⟨P.enums[i], List.getElem?_eq_getElem hlt⟩
    have hgm : (P.enums.map eav)[i]? = some (.agg x.cells) := by simp [hg, eav]
    have e1 := wi64_s i _ hlt hP.len2
    have ht := take_all (q := lim2) hg
    have e3 : (decide ((x.items.length : Int) ≥ 1) && (decide ((x.items.length : Int) ≤ 64) && decide ((x.free.length : Int) ≤ 16))) = lim2 x := by unfold lim2 ; exact (by rw [Bool.eq_iff_iff]; simp only [decide_eq_true_eq, Bool.not_eq_true', decide_eq_false_iff_not, Bool.and_eq_true, Bool.or_eq_true, beq_iff_eq, bne_iff_ne, ne_eq]; omega)
    have fin : ∀ f' : Fr, f' 1 = .ptr 0 1 0 → f' 3 = .bool ((b && (P.enums.take i).all lim2) && lim2 x) → f' 5 = .int .i64 ((i + 1 : Nat) : Int) → ∃ k, k < P.enums.length - i ∧ I k ⟨f', [fr], []⟩ := by
      intro f' a1 a3 a4
      exact ⟨P.enums.length - (i + 1), by omega, f', i + 1, rfl, rfl, by omega, a1, by rw [a3, ht, Bool.and_assoc], a4⟩
    simp only [PE.cells] at hgm
    cases hb : (b && (P.enums.take i).all lim2)
    · rw [hb] at fin h3
      simp only [lt_t hlt, nneg, Int.toNat_natCast, aiaddr, hgm, PE.cells, List.length_map, h1, m1, h3, ha, e1, eES, eEX, seval]
      exact fin _ (by first | rfl | exact h1 | simp only [h1, eES, eEX, seval]) (by first | rfl | simp only [eES, eEX, seval]) (by first | rfl | simp only [eES, eEX, seval])
    · rw [hb, Bool.true_and] at fin
      rw [hb] at h3
      (cases c1 : decide ((x.items.length : Int) ≥ 1) <;> cases c2 : decide ((x.items.length : Int) ≤ 64))
      all_goals
        try rw [c1] at e3
        try rw [c2] at e3
        simp only [lt_t hlt, nneg, Int.toNat_natCast, aiaddr, hgm, PE.cells, List.length_map, h1, m1, h3, ha, e1, c1, c2, e3, eES, eEX, seval]
        exact fin _ (by first | rfl | exact h1 | simp only [h1, eES, eEX, seval]) (by rw [← e3] <;> first | rfl | simp only [eES, eEX, seval]) (by first | rfl | simp only [eES, eEX, seval])
  · have hf : (P.enums.take i).all lim2 = P.enums.all lim2 := by rw [List.take_of_length_le (by omega)]
    rw [hf] at h3
    simp only [lt_f hlt, List.length_map, h1, m1, h3, ha, eES, eEX, seval]
    exact hx _ (by first | rfl | exact h1 | simp only [h1, eES, eEX, seval]) (by first | rfl | exact h3 | simp only [h3, eES, eEX, seval])

theorem nami_progs (j : Nat) (x : PG) (hj : P.progs[j]? = some x) (ha : f 4 = .int .i64 (j : Nat)) (hc : f 5 = .int .i64 0) (hx : ∀ f, f 1 = .ptr 0 1 0 → f 3 = .bool (b && x.ops.all fun o => usab o.name) → f 4 = .int .i64 (j : Nat) → Q (.exit 2) (⟨f, [fr], []⟩ : St)) : awp Tryz.prog (.loop l19_0) ⟨f, [fr], []⟩ Q := by
  let I : Nat → St → Prop := fun k st => ∃ f i, st = ⟨f, [fr], []⟩ ∧ k = x.ops.length - i ∧ i ≤ x.ops.length ∧ f 1 = .ptr 0 1 0 ∧ f 3 = .bool (b && (x.ops.take i).all fun o => usab o.name) ∧ f 4 = .int .i64 (j : Nat) ∧ f 5 = .int .i64 (i : Nat)
  have hjm : (P.progs.map gav)[j]? = some (.agg x.cells) := by simp [hj, gav]
  have hsl : x.ops.length ≤ maxLen := (hP.progs x (List.mem_of_getElem? hj)).len
  refine awp_loop I _ ⟨f, 0, rfl, rfl, Nat.zero_le _, h1, by rw [h3]; simp, ha, hc⟩ ?_
  clear h1 h3 ha hc
  simp only [Pc] at m1
  simp only [PG.cells] at hjm
  rintro _ st ⟨f, i, rfl, rfl, hi, h1, h3, ha, hc⟩
  simp only [nneg, Int.toNat_natCast, aiaddr, hjm, List.length_map, h1, m1, h3, ha, hc, eES, eEX, seval]
  by_cases hlt : i < x.ops.length
  · obtain ⟨o, hg⟩ : ∃ o, x.ops[i]? = some o := ⟨x.ops[i], List.getElem?_eq_getElem hlt⟩
    have hgm : (x.ops.map fun o => AV.agg o.cells)[i]? = some (.agg o.cells) := by simp [hg]
    have e1 := wi64_s i _ hlt hsl
    have ht := take_all (q := fun o => usab o.name) hg
    have fin : ∀ f' : Fr, f' 1 = .ptr 0 1 0 → f' 3 = .bool ((b && (x.ops.take i).all fun o => usab o.name) && usab o.name) → f' 4 = .int .i64 (j : Nat) → f' 5 = .int .i64 ((i + 1 : Nat) : Int) → ∃ k, k < x.ops.length - i ∧ I k ⟨f', [fr], []⟩ := by
      intro f' a1 a3 a4 a5
      exact ⟨x.ops.length - (i + 1), by omega, f', i + 1, rfl, rfl, by omega, a1, by rw [a3, ht, Bool.and_assoc], a4, a5⟩
    simp only [PO.cells] at hgm
    cases hb : (b && (x.ops.take i).all fun o => usab o.name)
    · rw [hb] at fin h3
      simp only [lt_t hlt, nneg, Int.toNat_natCast, aiaddr, hjm, hgm, PO.cells, h1, m1, h3, ha, hc, e1, eES, eEX, seval]
      exact fin _ (by first | rfl | exact h1 | simp only [h1, eES, eEX, seval]) (by first | rfl | simp only [eES, eEX, seval]) (by first | rfl | exact ha | simp only [ha, eES, eEX, seval]) (by first | rfl | simp only [eES, eEX, seval])
    · rw [hb, Bool.true_and] at fin
      rw [hb] at h3
      simp only [lt_t hlt, nneg, Int.toNat_natCast, aiaddr, hjm, hgm, PO.cells, h1, m1, h3, ha, hc, e1, eES, eEX, seval]
      refine aops_call (z33 o.name) rfl rfl rfl (.inl rfl) ?_
      simp only [h1, m1, h3, ha, hc, e1, eES, eEX, seval]
      exact fin _ (by first | rfl | exact h1 | simp only [h1, eES, eEX, seval]) (by first | rfl | simp only [eES, eEX, seval]) (by first | rfl | exact ha | simp only [ha, eES, eEX, seval]) (by first | rfl | simp only [eES, eEX, seval])
  · have hf : (x.ops.take i).all (fun o => usab o.name) = x.ops.all fun o => usab o.name := by rw [List.take_of_length_le (by omega)]
    rw [hf] at h3
    simp only [lt_f hlt, h1, m1, h3, ha, hc, eES, eEX, seval]
    exact hx _ (by first | rfl | exact h1 | simp only [h1, eES, eEX, seval]) (by first | rfl | exact h3 | simp only [h3, eES, eEX, seval]) (by first | rfl | exact ha | simp only [ha, eES, eEX, seval])

theorem namo_progs (ha : f 4 = .int .i64 0) (hx : ∀ f, f 1 = .ptr 0 1 0 → f 3 = .bool (b && P.progs.all nam1) → Q (.exit 0) (⟨f, [fr], []⟩ : St)) : awp Tryz.prog (.loop l19_1) ⟨f, [fr], []⟩ Q := by
  let I : Nat → St → Prop := fun k st => ∃ f i, st = ⟨f, [fr], []⟩ ∧ k = P.progs.length - i ∧ i ≤ P.progs.length ∧ f 1 = .ptr 0 1 0 ∧ f 3 = .bool (b && (P.progs.take i).all nam1) ∧ f 4 = .int .i64 (i : Nat)
  have m1' := m1
  refine awp_loop I _ ⟨f, 0, rfl, rfl, Nat.zero_le _, h1, by rw [h3]; simp, ha⟩ ?_
  clear h1 h3 ha
  simp only [Pc] at m1
  rintro _ st ⟨f, i, rfl, rfl, hi, h1, h3, ha⟩
  simp only [List.length_map, h1, m1, h3, ha, eES, eEX, seval]
  by_cases hlt : i < P.progs.length
  · obtain ⟨x, hg⟩ : ∃ x, P.progs[i]? = some x := ⟨P.progs[i], List.getElem?_eq_getElem hlt⟩
    have hgm : (P.progs.map gav)[i]? = some (.agg x.cells) := by simp [hg, gav]
    have e1 := wi64_s i _ hlt hP.len1
    have ht := take_all (q := nam1) hg
    have hq : nam1 x = (full x.name && x.ops.all fun o => usab o.name) := rfl
    have fin : ∀ f' : Fr, f' 1 = .ptr 0 1 0 → f' 3 = .bool (((b && (P.progs.take i).all nam1) && full x.name) && x.ops.all fun o => usab o.name) → f' 4 = .int .i64 ((i + 1 : Nat) : Int) → ∃ k, k < P.progs.length - i ∧ I k ⟨f', [fr], []⟩ := by
      intro f' a1 a3 a4
      exact ⟨P.progs.length - (i + 1), by omega, f', i + 1, rfl, rfl, by omega, a1, by rw [a3, ht, hq, Bool.and_assoc, Bool.and_assoc], a4⟩
    simp only [PG.cells] at hgm
    cases hb : (b && (P.progs.take i).all nam1)
    · rw [hb, Bool.false_and] at fin
      rw [hb] at h3
      simp only [lt_t hlt, nneg, Int.toNat_natCast, aiaddr, hgm, PG.cells, h1, m1, h3, ha, e1, eES, eEX, seval]
      refine nami_progs P hP fr m1' _ false (by first | rfl | exact h1 | simp only [h1, eES, eEX, seval]) (by first | rfl | simp only [eES, eEX, seval]) _ i x hg (by first | rfl | exact ha | simp only [ha, eES, eEX, seval]) (by first | rfl | simp only [eES, eEX, seval]) (fun f h1 h3 ha => ?_)
      simp only [h1, m1, h3, ha, e1, eES, eEX, seval]
      exact fin _ (by first | rfl | exact h1 | simp only [h1, eES, eEX, seval]) (by first | rfl | exact h3 | simp only [h3, eES, eEX, seval]) (by first | rfl | simp only [eES, eEX, seval])
    · rw [hb, Bool.true_and] at fin
      rw [hb] at h3
      simp only [lt_t hlt, nneg, Int.toNat_natCast, aiaddr, hgm, PG.cells, h1, m1, h3, ha, e1, eES, eEX, seval]
      refine aops_call (z32 x.name) rfl rfl rfl (.inl rfl) ?_
      simp only [h1, m1, h3, ha, e1, eES, eEX, seval]
      refine nami_progs P hP fr m1' _ (full x.name) (by first | rfl | exact h1 | simp only [h1, eES, eEX, seval]) (by first | rfl | simp only [eES, eEX, seval]) _ i x hg (by first | rfl | exact ha | simp only [ha, eES, eEX, seval]) (by first | rfl | simp only [eES, eEX, seval]) (fun f h1 h3 ha => ?_)
      simp only [h1, m1, h3, ha, e1, eES, eEX, seval]
      exact fin _ (by first | rfl | exact h1 | simp only [h1, eES, eEX, seval]) (by first | rfl | exact h3 | simp only [h3, eES, eEX, seval]) (by first | rfl | simp only [eES, eEX, seval])
  · have hf : (P.progs.take i).all nam1 = P.progs.all nam1 := by rw [List.take_of_length_le (by omega)]
    rw [hf] at h3
    simp only [lt_f hlt, List.length_map, h1, m1, h3, ha, eES, eEX, seval]
    exact hx _ (by first | rfl | exact h1 | simp only [h1, eES, eEX, seval]) (by first | rfl | exact h3 | simp only [h3, eES, eEX, seval])

theorem nami_enums (j : Nat) (x : PE) (hj : P.enums[j]? = some x) (ha : f 6 = .int .i64 (j : Nat)) (hc : f 7 = .int .i64 0) (hx : ∀ f, f 1 = .ptr 0 1 0 → f 3 = .bool (b && x.items.all fun o => usab o.name) → f 6 = .int .i64 (j : Nat) → Q (.exit 6) (⟨f, [fr], []⟩ : St)) : awp Tryz.prog (.loop l19_2) ⟨f, [fr], []⟩ Q := by
  let I : Nat → St → Prop := fun k st => ∃ f i, st = ⟨f, [fr], []⟩ ∧ k = x.items.length - i ∧ i ≤ x.items.length ∧ f 1 = .ptr 0 1 0 ∧ f 3 = .bool (b && (x.items.take i).all fun o => usab o.name) ∧ f 6 = .int .i64 (j : Nat) ∧ f 7 = .int .i64 (i : Nat)
  have hjm : (P.enums.map eav)[j]? = some (.agg x.cells) := by simp [hj, eav]
  have hsl : x.items.length ≤ maxLen := (hP.enums x (List.mem_of_getElem? hj)).len1
  refine awp_loop I _ ⟨f, 0, rfl, rfl, Nat.zero_le _, h1, by rw [h3]; simp, ha, hc⟩ ?_
  clear h1 h3 ha hc
  simp only [Pc] at m1
  simp only [PE.cells] at hjm
  rintro _ st ⟨f, i, rfl, rfl, hi, h1, h3, ha, hc⟩
  simp only [nneg, Int.toNat_natCast, aiaddr, hjm, List.length_map, h1, m1, h3, ha, hc, eES, eEX, seval]
  by_cases hlt : i < x.items.length
  · obtain ⟨o, hg⟩ : ∃ o, x.items[i]? = some o := ⟨x.items[i], List.getElem?_eq_getElem hlt⟩
    have hgm : (x.items.map fun o => AV.agg o.cells)[i]? = some (.agg o.cells) := by simp [hg]
    have e1 := wi64_s i _ hlt hsl
    have ht := take_all (q := fun o => usab o.name) hg
    have fin : ∀ f' : Fr, f' 1 = .ptr 0 1 0 → f' 3 = .bool ((b && (x.items.take i).all fun o => usab o.name) && usab o.name) → f' 6 = .int .i64 (j : Nat) → f' 7 = .int .i64 ((i + 1 : Nat) : Int) → ∃ k, k < x.items.length - i ∧ I k ⟨f', [fr], []⟩ := by
      intro f' a1 a3 a4 a5
      exact ⟨x.items.length - (i + 1), by omega, f', i + 1, rfl, rfl, by omega, a1, by rw [a3, ht, Bool.and_assoc], a4, a5⟩
    simp only [PI.cells] at hgm
    cases hb : (b && (x.items.take i).all fun o => usab o.name)
    · rw [hb] at fin h3
      simp only [lt_t hlt, nneg, Int.toNat_natCast, aiaddr, hjm, hgm, PI.cells, h1, m1, h3, ha, hc, e1, eES, eEX, seval]
      exact fin _ (by first | rfl | exact h1 | simp only [h1, eES, eEX, seval]) (by first | rfl | simp only [eES, eEX, seval]) (by first | rfl | exact ha | simp only [ha, eES, eEX, seval]) (by first | rfl | simp only [eES, eEX, seval])
    · rw [hb, Bool.true_and] at fin
      rw [hb] at h3
      simp only [lt_t hlt, nneg, Int.toNat_natCast, aiaddr, hjm, hgm, PI.cells, h1, m1, h3, ha, hc, e1, eES, eEX, seval]
      refine aops_call (z33 o.name) rfl rfl rfl (.inl rfl) ?_
      simp only [h1, m1, h3, ha, hc, e1, eES, eEX, seval]
      exact fin _ (by first | rfl | exact h1 | simp only [h1, eES, eEX, seval]) (by first | rfl | simp only [eES, eEX, seval]) (by first | rfl | exact ha | simp only [ha, eES, eEX, seval]) (by first | rfl | simp only [eES, eEX, seval])
  · have hf : (x.items.take i).all (fun o => usab o.name) = x.items.all fun o => usab o.name := by rw [List.take_of_length_le (by omega)]
    rw [hf] at h3
    simp only [lt_f hlt, h1, m1, h3, ha, hc, eES, eEX, seval]
    exact hx _ (by first | rfl | exact h1 | simp only [h1, eES, eEX, seval]) (by first | rfl | exact h3 | simp only [h3, eES, eEX, seval]) (by first | rfl | exact ha | simp only [ha, eES, eEX, seval])

theorem namo_enums (ha : f 6 = .int .i64 0) (hx : ∀ f, f 1 = .ptr 0 1 0 → f 3 = .bool (b && P.enums.all nam2) → Q (.exit 4) (⟨f, [fr], []⟩ : St)) : awp Tryz.prog (.loop l19_3) ⟨f, [fr], []⟩ Q := by
  let I : Nat → St → Prop := fun k st => ∃ f i, st = ⟨f, [fr], []⟩ ∧ k = P.enums.length - i ∧ i ≤ P.enums.length ∧ f 1 = .ptr 0 1 0 ∧ f 3 = .bool (b && (P.enums.take i).all nam2) ∧ f 6 = .int .i64 (i : Nat)
  have m1' := m1
  refine awp_loop I _ ⟨f, 0, rfl, rfl, Nat.zero_le _, h1, by rw [h3]; simp, ha⟩ ?_
  clear h1 h3 ha
  simp only [Pc] at m1
  rintro _ st ⟨f, i, rfl, rfl, hi, h1, h3, ha⟩
  simp only [List.length_map, h1, m1, h3, ha, eES, eEX, seval]
  by_cases hlt : i < P.enums.length
  · obtain ⟨x, hg⟩ : ∃ x, P.enums[i]? = some x := ⟨P.enums[i], List.getElem?_eq_getElem hlt⟩
    have hgm : (P.enums.map eav)[i]? = some (.agg x.cells) := by simp [hg, eav]
    have e1 := wi64_s i _ hlt hP.len2
    have ht := take_all (q := nam2) hg
    have hq : nam2 x = (full x.name && x.items.all fun o => usab o.name) := rfl
    have fin : ∀ f' : Fr, f' 1 = .ptr 0 1 0 → f' 3 = .bool (((b && (P.enums.take i).all nam2) && full x.name) && x.items.all fun o => usab o.name) → f' 6 = .int .i64 ((i + 1 : Nat) : Int) → ∃ k, k < P.enums.length - i ∧ I k ⟨f', [fr], []⟩ := by
      intro f' a1 a3 a4
      exact ⟨P.enums.length - (i + 1), by omega, f', i + 1, rfl, rfl, by omega, a1, by rw [a3, ht, hq, Bool.and_assoc, Bool.and_assoc], a4⟩
    simp only [PE.cells] at hgm
    cases hb : (b && (P.enums.take i).all nam2)
    · rw [hb, Bool.false_and] at fin
      rw [hb] at h3
      simp only [lt_t hlt, nneg, Int.toNat_natCast, aiaddr, hgm, PE.cells, h1, m1, h3, ha, e1, eES, eEX, seval]
      refine nami_enums P hP fr m1' _ false (by first | rfl | exact h1 | simp only [h1, eES, eEX, seval]) (by first | rfl | simp only [eES, eEX, seval]) _ i x hg (by first | rfl | exact ha | simp only [ha, eES, eEX, seval]) (by first | rfl | simp only [eES, eEX, seval]) (fun f h1 h3 ha => ?_)
      simp only [h1, m1, h3, ha, e1, eES, eEX, seval]
      exact fin _ (by first | rfl | exact h1 | simp only [h1, eES, eEX, seval]) (by first | rfl | exact h3 | simp only [h3, eES, eEX, seval]) (by first | rfl | simp only [eES, eEX, seval])
    · rw [hb, Bool.true_and] at fin
      rw [hb] at h3
      simp only [lt_t hlt, nneg, Int.toNat_natCast, aiaddr, hgm, PE.cells, h1, m1, h3, ha, e1, eES, eEX, seval]
      refine aops_call (z32 x.name) rfl rfl rfl (.inl rfl) ?_
      simp only [h1, m1, h3, ha, e1, eES, eEX, seval]
      refine nami_enums P hP fr m1' _ (full x.name) (by first | rfl | exact h1 | simp only [h1, eES, eEX, seval]) (by first | rfl | simp only [eES, eEX, seval]) _ i x hg (by first | rfl | exact ha | simp only [ha, eES, eEX, seval]) (by first | rfl | simp only [eES, eEX, seval]) (fun f h1 h3 ha => ?_)
      simp only [h1, m1, h3, ha, e1, eES, eEX, seval]
      exact fin _ (by first | rfl | exact h1 | simp only [h1, eES, eEX, seval]) (by first | rfl | exact h3 | simp only [h3, eES, eEX, seval]) (by first | rfl | simp only [eES, eEX, seval])
  · have hf : (P.enums.take i).all nam2 = P.enums.all nam2 := by rw [List.take_of_length_le (by omega)]
    rw [hf] at h3
    simp only [lt_f hlt, List.length_map, h1, m1, h3, ha, eES, eEX, seval]
    exact hx _ (by first | rfl | exact h1 | simp only [h1, eES, eEX, seval]) (by first | rfl | exact h3 | simp only [h3, eES, eEX, seval])

theorem ordi_progs (j : Nat) (x : PG) (hj : P.progs[j]? = some x) (ha : f 4 = .int .i64 (j : Nat)) (hc : f 5 = .int .i64 1) (hx : ∀ f, f 1 = .ptr 0 1 0 → f 3 = .bool (b && ord1 x) → f 4 = .int .i64 (j : Nat) → Q (.exit 2) (⟨f, [fr], []⟩ : St)) : awp Tryz.prog (.loop l20_0) ⟨f, [fr], []⟩ Q := by
  let I : Nat → St → Prop := fun k st => ∃ f i, st = ⟨f, [fr], []⟩ ∧ k = x.ops.length - i ∧ f 1 = .ptr 0 1 0 ∧ f 3 = .bool (b && allU (two x.ops (ordn PO.num)) (i + 1)) ∧ f 4 = .int .i64 (j : Nat) ∧ f 5 = .int .i64 ((i + 1 : Nat) : Int) ∧ (i + 1 ≤ x.ops.length ∨ i = 0)
  have hjm : (P.progs.map gav)[j]? = some (.agg x.cells) := by simp [hj, gav]
  have hsl : x.ops.length ≤ maxLen := (hP.progs x (List.mem_of_getElem? hj)).len
  refine awp_loop I _ ⟨f, 0, rfl, rfl, h1, by rw [h3]; simp [allU, two], ha, hc, .inr rfl⟩ ?_
  clear h1 h3 ha hc
  simp only [Pc] at m1
  simp only [PG.cells] at hjm
  rintro _ st ⟨f, i, rfl, rfl, h1, h3, ha, hc, hi⟩
  simp only [nneg, Int.toNat_natCast, aiaddr, hjm, List.length_map, h1, m1, h3, ha, hc, eES, eEX, seval]
  by_cases hlt : i + 1 < x.ops.length
  · obtain ⟨o, hg⟩ : ∃ o, x.ops[i]? = some o := ⟨x.ops[i]'(by omega), List.getElem?_eq_getElem (by omega)⟩
    obtain ⟨o2, hg2⟩ : ∃ o, x.ops[i + 1]? = some o := ⟨x.ops[i + 1], List.getElem?_eq_getElem hlt⟩
    have hgm : (x.ops.map fun o => AV.agg o.cells)[i]? = some (.agg o.cells) := by simp [hg]
    have hgm2 : (x.ops.map fun o => AV.agg o.cells)[i + 1]? = some (.agg o2.cells) := by simp [hg2]
    have e1 := wi64_s (i + 1) _ hlt hsl
    have e2 := wp64 i _ hlt hsl
    have ht := acc_step b (two x.ops (ordn PO.num)) (i + 1)
    rw [two_at hg hg2] at ht
    have hq : (ordn PO.num) o o2 = decide (o.num < o2.num) := rfl
    rw [hq] at ht
    have fin : ∀ f' : Fr, f' 1 = .ptr 0 1 0 → f' 3 = .bool ((b && allU (two x.ops (ordn PO.num)) (i + 1)) && decide (o.num < o2.num)) → f' 4 = .int .i64 (j : Nat) → f' 5 = .int .i64 ((i + 1 + 1 : Nat) : Int) → ∃ k, k < x.ops.length - i ∧ I k ⟨f', [fr], []⟩ := by
      intro f' a1 a3 a4 a5
      exact ⟨x.ops.length - (i + 1), by omega, f', i + 1, rfl, rfl, a1, by rw [a3, ht], a4, a5, .inl (by omega)⟩
    simp only [PO.cells] at hgm hgm2
    cases hb : (b && allU (two x.ops (ordn PO.num)) (i + 1))
    · rw [hb] at fin h3
      simp only [lt_t hlt, nneg, Int.toNat_natCast, aiaddr, hjm, hgm, hgm2, PO.cells, h1, m1, h3, ha, hc, e1, e2, eES, eEX, seval]
      exact fin _ (by first | rfl | exact h1 | simp only [h1, eES, eEX, seval]) (by first | rfl | simp only [eES, eEX, seval]) (by first | rfl | exact ha | simp only [ha, eES, eEX, seval]) (by first | rfl | simp only [eES, eEX, seval])
    · rw [hb, Bool.true_and] at fin
      rw [hb] at h3
      simp only [lt_t hlt, nneg, Int.toNat_natCast, aiaddr, hjm, hgm, hgm2, PO.cells, h1, m1, h3, ha, hc, e1, e2, eES, eEX, seval]
      exact fin _ (by first | rfl | exact h1 | simp only [h1, eES, eEX, seval]) (by first | rfl | simp only [eES, eEX, seval]) (by first | rfl | exact ha | simp only [ha, eES, eEX, seval]) (by first | rfl | simp only [eES, eEX, seval])
  · have hf : allU (two x.ops (ordn PO.num)) (i + 1) = ord1 x := by
      show _ = allU (two x.ops (ordn PO.num)) x.ops.length
      rcases hi with h | h
      · rw [show i + 1 = x.ops.length by omega]
      · subst h
        rcases Nat.eq_zero_or_pos x.ops.length with h0 | h0
        · rw [h0]; rfl
        · rw [show x.ops.length = 1 by omega]
    rw [hf] at h3
    simp only [lt_f hlt, h1, m1, h3, ha, hc, eES, eEX, seval]
    exact hx _ (by first | rfl | exact h1 | simp only [h1, eES, eEX, seval]) (by first | rfl | exact h3 | simp only [h3, eES, eEX, seval]) (by first | rfl | exact ha | simp only [ha, eES, eEX, seval])

theorem ordo_progs (ha : f 4 = .int .i64 0) (hx : ∀ f, f 1 = .ptr 0 1 0 → f 3 = .bool (b && (adj P.progs (ords PG.name) && P.progs.all ord1)) → Q (.exit 0) (⟨f, [fr], []⟩ : St)) : awp Tryz.prog (.loop l20_1) ⟨f, [fr], []⟩ Q := by
  let q : Nat → Bool := fun i => two P.progs (ords PG.name) i && ask P.progs ord1 i
  let I : Nat → St → Prop := fun k st => ∃ f i, st = ⟨f, [fr], []⟩ ∧ k = P.progs.length - i ∧ i ≤ P.progs.length ∧ f 1 = .ptr 0 1 0 ∧ f 3 = .bool (b && allU q i) ∧ f 4 = .int .i64 (i : Nat)
  have m1' := m1
  have hqa : allU q P.progs.length = (adj P.progs (ords PG.name) && P.progs.all ord1) := by
    show allU (fun i => two P.progs (ords PG.name) i && ask P.progs ord1 i) _ = _
    rw [allU_and, allU_ask]; rfl
  refine awp_loop I _ ⟨f, 0, rfl, rfl, Nat.zero_le _, h1, by rw [h3]; simp [allU], ha⟩ ?_
  clear h1 h3 ha
  simp only [Pc] at m1
  rintro _ st ⟨f, i, rfl, rfl, hi, h1, h3, ha⟩
  simp only [List.length_map, h1, m1, h3, ha, eES, eEX, seval]
  by_cases hlt : i < P.progs.length
  · obtain ⟨x, hg⟩ : ∃ x, P.progs[i]? = some x := ⟨P.progs[i], List.getElem?_eq_getElem hlt⟩
    have hgm : (P.progs.map gav)[i]? = some (.agg x.cells) := by simp [hg, gav]
    have e1 := wi64_s i _ hlt hP.len1
    have ht := acc_step b q i
    have hq : q i = (two P.progs (ords PG.name) i && ord1 x) := by show (_ && ask P.progs ord1 i) = _; rw [ask_at hg]
    rw [hq, ← Bool.and_assoc] at ht
    have fin : ∀ f' : Fr, f' 1 = .ptr 0 1 0 → f' 3 = .bool (((b && allU q i) && two P.progs (ords PG.name) i) && ord1 x) → f' 4 = .int .i64 ((i + 1 : Nat) : Int) → ∃ k, k < P.progs.length - i ∧ I k ⟨f', [fr], []⟩ := by
      intro f' a1 a3 a4
      exact ⟨P.progs.length - (i + 1), by omega, f', i + 1, rfl, rfl, by omega, a1, by rw [a3, ht], a4⟩
    simp only [PG.cells] at hgm
    cases hb : (b && allU q i)
    · rw [hb, Bool.false_and] at fin
      rw [hb] at h3
      simp only [lt_t hlt, nneg, Int.toNat_natCast, aiaddr, hgm, PG.cells, h1, m1, h3, ha, e1, eES, eEX, seval]
      refine ordi_progs P hP fr m1' _ false (by first | rfl | exact h1 | simp only [h1, eES, eEX, seval]) (by first | rfl | simp only [eES, eEX, seval]) _ i x hg (by first | rfl | exact ha | simp only [ha, eES, eEX, seval]) (by first | rfl | simp only [eES, eEX, seval]) (fun f h1 h3 ha => ?_)
      simp only [h1, m1, h3, ha, e1, eES, eEX, seval]
      exact fin _ (by first | rfl | exact h1 | simp only [h1, eES, eEX, seval]) (by first | rfl | exact h3 | simp only [h3, eES, eEX, seval]) (by first | rfl | simp only [eES, eEX, seval])
    · rw [hb, Bool.true_and] at fin
      rw [hb] at h3
      cases i with
      | zero =>
        have b0 : (((0 : Nat) : Int) == 0) = true := rfl
        rw [two_zero] at fin
        simp only [lt_t hlt, nneg, Int.toNat_natCast, aiaddr, hgm, PG.cells, b0, h1, m1, h3, ha, e1, eES, eEX, Nat.reduceBEq, Int.reduceLE, Int.reduceLT, Int.reduceToNat, Int.reduceEq, ↓reduceIte, reduceCtorEq, Nat.reducePow, Nat.reduceAdd, Nat.reduceLeDiff, Nat.reduceLT, Nat.reduceSub, Nat.reduceEqDiff, Nat.reduceMul]
        refine ordi_progs P hP fr m1' _ true (by first | rfl | exact h1 | simp only [h1, eES, eEX, seval]) (by first | rfl | simp only [eES, eEX, seval]) _ 0 x hg (by first | rfl | exact ha | simp only [ha, eES, eEX, seval]) (by first | rfl | simp only [eES, eEX, seval]) (fun f h1 h3 ha => ?_)
        simp only [h1, m1, h3, ha, e1, eES, eEX, Nat.reduceBEq, Int.reduceLE, Int.reduceLT, Int.reduceToNat, Int.reduceEq, ↓reduceIte, reduceCtorEq, Nat.reducePow, Nat.reduceAdd, Nat.reduceLeDiff, Nat.reduceLT, Nat.reduceSub, Nat.reduceEqDiff, Nat.reduceMul]
        exact fin _ (by first | rfl | exact h1 | simp only [h1, eES, eEX, seval]) (by first | rfl | exact h3 | simp only [h3, eES, eEX, seval]) (by first | rfl | simp only [eES, eEX, seval])
      | succ j =>
        obtain ⟨y, hgj⟩ : ∃ y, P.progs[j]? = some y := ⟨P.progs[j]'(by omega), List.getElem?_eq_getElem (by omega)⟩
        have hgjm : (P.progs.map gav)[j]? = some (.agg y.cells) := by simp [hgj, gav]
        have b0 : (((j + 1 : Nat) : Int) == 0) = false := by rw [beq_eq_false_iff_ne]; omega
        have e2 := wp64 j _ hlt hP.len1
        rw [two_at hgj hg] at fin
        have hq2 : (ords PG.name) y x = Op.bytesLess y.name x.name := rfl
        rw [hq2] at fin
        simp only [PG.cells] at hgjm
        simp only [lt_t hlt, nneg, Int.toNat_natCast, aiaddr, hgm, hgjm, PG.cells, b0, e2, astr, h1, m1, h3, ha, e1, eES, eEX, seval]
        refine ordi_progs P hP fr m1' _ (Op.bytesLess y.name x.name) (by first | rfl | exact h1 | simp only [h1, eES, eEX, seval]) (by first | rfl | simp only [eES, eEX, seval]) _ (j + 1) x hg (by first | rfl | exact ha | simp only [ha, eES, eEX, seval]) (by first | rfl | simp only [eES, eEX, seval]) (fun f h1 h3 ha => ?_)
        simp only [h1, m1, h3, ha, e1, eES, eEX, seval]
        exact fin _ (by first | rfl | exact h1 | simp only [h1, eES, eEX, seval]) (by first | rfl | exact h3 | simp only [h3, eES, eEX, seval]) (by first | rfl | simp only [eES, eEX, seval])
  · have hf : allU q i = (adj P.progs (ords PG.name) && P.progs.all ord1) := by rw [show i = P.progs.length by omega, hqa]
    rw [hf] at h3
    simp only [lt_f hlt, List.length_map, h1, m1, h3, ha, eES, eEX, seval]
    exact hx _ (by first | rfl | exact h1 | simp only [h1, eES, eEX, seval]) (by first | rfl | exact h3 | simp only [h3, eES, eEX, seval])

theorem ordi_enums (j : Nat) (x : PE) (hj : P.enums[j]? = some x) (ha : f 6 = .int .i64 (j : Nat)) (hc : f 7 = .int .i64 1) (hx : ∀ f, f 1 = .ptr 0 1 0 → f 3 = .bool (b && ord2 x) → f 6 = .int .i64 (j : Nat) → Q (.exit 6) (⟨f, [fr], []⟩ : St)) : awp Tryz.prog (.loop l20_2) ⟨f, [fr], []⟩ Q := by
  let I : Nat → St → Prop := fun k st => ∃ f i, st = ⟨f, [fr], []⟩ ∧ k = x.items.length - i ∧ f 1 = .ptr 0 1 0 ∧ f 3 = .bool (b && allU (two x.items (ordn PI.num)) (i + 1)) ∧ f 6 = .int .i64 (j : Nat) ∧ f 7 = .int .i64 ((i + 1 : Nat) : Int) ∧ (i + 1 ≤ x.items.length ∨ i = 0)
  have hjm : (P.enums.map eav)[j]? = some (.agg x.cells) := by simp [hj, eav]
  have hsl : x.items.length ≤ maxLen := (hP.enums x (List.mem_of_getElem? hj)).len1
  refine awp_loop I _ ⟨f, 0, rfl, rfl, h1, by rw [h3]; simp [allU, two], ha, hc, .inr rfl⟩ ?_
  clear h1 h3 ha hc
  simp only [Pc] at m1
  simp only [PE.cells] at hjm
  rintro _ st ⟨f, i, rfl, rfl, h1, h3, ha, hc, hi⟩
  simp only [nneg, Int.toNat_natCast, aiaddr, hjm, List.length_map, h1, m1, h3, ha, hc, eES, eEX, seval]
  by_cases hlt : i + 1 < x.items.length
  · obtain ⟨o, hg⟩ : ∃ o, x.items[i]? = some o := ⟨x.items[i]'(by omega), List.getElem?_eq_getElem (by omega)⟩
    obtain ⟨o2, hg2⟩ : ∃ o, x.items[i + 1]? = some o := ⟨x.items[i + 1], List.getElem?_eq_getElem hlt⟩
    have hgm : (x.items.map fun o => AV.agg o.cells)[i]? = some (.agg o.cells) := by simp [hg]
    have hgm2 : (x.items.map fun o => AV.agg o.cells)[i + 1]? = some (.agg o2.cells) := by simp [hg2]
    have e1 := wi64_s (i + 1) _ hlt hsl
    have e2 := wp64 i _ hlt hsl
    have ht := acc_step b (two x.items (ordn PI.num)) (i + 1)
    rw [two_at hg hg2] at ht
    have hq : (ordn PI.num) o o2 = decide (o.num < o2.num) := rfl
    rw [hq] at ht
    have fin : ∀ f' : Fr, f' 1 = .ptr 0 1 0 → f' 3 = .bool ((b && allU (two x.items (ordn PI.num)) (i + 1)) && decide (o.num < o2.num)) → f' 6 = .int .i64 (j : Nat) → f' 7 = .int .i64 ((i + 1 + 1 : Nat) : Int) → ∃ k, k < x.items.length - i ∧ I k ⟨f', [fr], []⟩ := by
      intro f' a1 a3 a4 a5
      exact ⟨x.items.length - (i + 1), by omega, f', i + 1, rfl, rfl, a1, by rw [a3, ht], a4, a5, .inl (by omega)⟩
    simp only [PI.cells] at hgm hgm2
    cases hb : (b && allU (two x.items (ordn PI.num)) (i + 1))
    · rw [hb] at fin h3
      simp only [lt_t hlt, nneg, Int.toNat_natCast, aiaddr, hjm, hgm, hgm2, PI.cells, h1, m1, h3, ha, hc, e1, e2, eES, eEX, seval]
      exact fin _ (by first | rfl | exact h1 | simp only [h1, eES, eEX, seval]) (by first | rfl | simp only [eES, eEX, seval]) (by first | rfl | exact ha | simp only [ha, eES, eEX, seval]) (by first | rfl | simp only [eES, eEX, seval])
    · rw [hb, Bool.true_and] at fin
      rw [hb] at h3
      simp only [lt_t hlt, nneg, Int.toNat_natCast, aiaddr, hjm, hgm, hgm2, PI.cells, h1, m1, h3, ha, hc, e1, e2, eES, eEX, seval]
      exact fin _ (by first | rfl | exact h1 | simp only [h1, eES, eEX, seval]) (by first | rfl | simp only [eES, eEX, seval]) (by first | rfl | exact ha | simp only [ha, eES, eEX, seval]) (by first | rfl | simp only [eES, eEX, seval])
  · have hf : allU (two x.items (ordn PI.num)) (i + 1) = ord2 x := by
      show _ = allU (two x.items (ordn PI.num)) x.items.length
      rcases hi with h | h
      · rw [show i + 1 = x.items.length by omega]
      · subst h
        rcases Nat.eq_zero_or_pos x.items.length with h0 | h0
        · rw [h0]; rfl
        · rw [show x.items.length = 1 by omega]
    rw [hf] at h3
    simp only [lt_f hlt, h1, m1, h3, ha, hc, eES, eEX, seval]
    exact hx _ (by first | rfl | exact h1 | simp only [h1, eES, eEX, seval]) (by first | rfl | exact h3 | simp only [h3, eES, eEX, seval]) (by first | rfl | exact ha | simp only [ha, eES, eEX, seval])

theorem ordo_enums (ha : f 6 = .int .i64 0) (hx : ∀ f, f 1 = .ptr 0 1 0 → f 3 = .bool (b && (adj P.enums (ords PE.name) && P.enums.all ord2)) → Q (.exit 4) (⟨f, [fr], []⟩ : St)) : awp Tryz.prog (.loop l20_3) ⟨f, [fr], []⟩ Q := by
  let q : Nat → Bool := fun i => two P.enums (ords PE.name) i && ask P.enums ord2 i
  let I : Nat → St → Prop := fun k st => ∃ f i, st = ⟨f, [fr], []⟩ ∧ k = P.enums.length - i ∧ i ≤ P.enums.length ∧ f 1 = .ptr 0 1 0 ∧ f 3 = .bool (b && allU q i) ∧ f 6 = .int .i64 (i : Nat)
  have m1' := m1
  have hqa : allU q P.enums.length = (adj P.enums (ords PE.name) && P.enums.all ord2) := by
    show allU (fun i => two P.enums (ords PE.name) i && ask P.enums ord2 i) _ = _
    rw [allU_and, allU_ask]; rfl
  refine awp_loop I _ ⟨f, 0, rfl, rfl, Nat.zero_le _, h1, by rw [h3]; simp [allU], ha⟩ ?_
  clear h1 h3 ha
  simp only [Pc] at m1
  rintro _ st ⟨f, i, rfl, rfl, hi, h1, h3, ha⟩
  simp only [List.length_map, h1, m1, h3, ha, eES, eEX, seval]
  by_cases hlt : i < P.enums.length
  · obtain ⟨x, hg⟩ : ∃ x, P.enums[i]? = some x := ⟨P.enums[i], List.getElem?_eq_getElem hlt⟩
    have hgm : (P.enums.map eav)[i]? = some (.agg x.cells) := by simp [hg, eav]
    have e1 := wi64_s i _ hlt hP.len2
    have ht := acc_step b q i
    have hq : q i = (two P.enums (ords PE.name) i && ord2 x) := by show (_ && ask P.enums ord2 i) = _; rw [ask_at hg]
    rw [hq, ← Bool.and_assoc] at ht
    have fin : ∀ f' : Fr, f' 1 = .ptr 0 1 0 → f' 3 = .bool (((b && allU q i) && two P.enums (ords PE.name) i) && ord2 x) → f' 6 = .int .i64 ((i + 1 : Nat) : Int) → ∃ k, k < P.enums.length - i ∧ I k ⟨f', [fr], []⟩ := by
      intro f' a1 a3 a4
      exact ⟨P.enums.length - (i + 1), by omega, f', i + 1, rfl, rfl, by omega, a1, by rw [a3, ht], a4⟩
    simp only [PE.cells] at hgm
    cases hb : (b && allU q i)
    · rw [hb, Bool.false_and] at fin
      rw [hb] at h3
      simp only [lt_t hlt, nneg, Int.toNat_natCast, aiaddr, hgm, PE.cells, h1, m1, h3, ha, e1, eES, eEX, seval]
      refine ordi_enums P hP fr m1' _ false (by first | rfl | exact h1 | simp only [h1, eES, eEX, seval]) (by first | rfl | simp only [eES, eEX, seval]) _ i x hg (by first | rfl | exact ha | simp only [ha, eES, eEX, seval]) (by first | rfl | simp only [eES, eEX, seval]) (fun f h1 h3 ha => ?_)
      simp only [h1, m1, h3, ha, e1, eES, eEX, seval]
      exact fin _ (by first | rfl | exact h1 | simp only [h1, eES, eEX, seval]) (by first | rfl | exact h3 | simp only [h3, eES, eEX, seval]) (by first | rfl | simp only [eES, eEX, seval])
    · rw [hb, Bool.true_and] at fin
      rw [hb] at h3
      cases i with
      | zero =>
        have b0 : (((0 : Nat) : Int) == 0) = true := rfl
        rw [two_zero] at fin
        simp only [lt_t hlt, nneg, Int.toNat_natCast, aiaddr, hgm, PE.cells, b0, h1, m1, h3, ha, e1, eES, eEX, Nat.reduceBEq, Int.reduceLE, Int.reduceLT, Int.reduceToNat, Int.reduceEq, ↓reduceIte, reduceCtorEq, Nat.reducePow, Nat.reduceAdd, Nat.reduceLeDiff, Nat.reduceLT, Nat.reduceSub, Nat.reduceEqDiff, Nat.reduceMul]
        refine ordi_enums P hP fr m1' _ true (by first | rfl | exact h1 | simp only [h1, eES, eEX, seval]) (by first | rfl | simp only [eES, eEX, seval]) _ 0 x hg (by first | rfl | exact ha | simp only [ha, eES, eEX, seval]) (by first | rfl | simp only [eES, eEX, seval]) (fun f h1 h3 ha => ?_)
        simp only [h1, m1, h3, ha, e1, eES, eEX, Nat.reduceBEq, Int.reduceLE, Int.reduceLT, Int.reduceToNat, Int.reduceEq, ↓reduceIte, reduceCtorEq, Nat.reducePow, Nat.reduceAdd, Nat.reduceLeDiff, Nat.reduceLT, Nat.reduceSub, Nat.reduceEqDiff, Nat.reduceMul]
        exact fin _ (by first | rfl | exact h1 | simp only [h1, eES, eEX, seval]) (by first | rfl | exact h3 | simp only [h3, eES, eEX, seval]) (by first | rfl | simp only [eES, eEX, seval])
      | succ j =>
        obtain ⟨y, hgj⟩ : ∃ y, P.enums[j]? = some y := ⟨P.enums[j]'(by omega), List.getElem?_eq_getElem (by omega)⟩
        have hgjm : (P.enums.map eav)[j]? = some (.agg y.cells) := by simp [hgj, eav]
        have b0 : (((j + 1 : Nat) : Int) == 0) = false := by rw [beq_eq_false_iff_ne]; omega
        have e2 := wp64 j _ hlt hP.len2
        rw [two_at hgj hg] at fin
        have hq2 : (ords PE.name) y x = Op.bytesLess y.name x.name := rfl
        rw [hq2] at fin
        simp only [PE.cells] at hgjm
        simp only [lt_t hlt, nneg, Int.toNat_natCast, aiaddr, hgm, hgjm, PE.cells, b0, e2, astr, h1, m1, h3, ha, e1, eES, eEX, seval]
        refine ordi_enums P hP fr m1' _ (Op.bytesLess y.name x.name) (by first | rfl | exact h1 | simp only [h1, eES, eEX, seval]) (by first | rfl | simp only [eES, eEX, seval]) _ (j + 1) x hg (by first | rfl | exact ha | simp only [ha, eES, eEX, seval]) (by first | rfl | simp only [eES, eEX, seval]) (fun f h1 h3 ha => ?_)
        simp only [h1, m1, h3, ha, e1, eES, eEX, seval]
        exact fin _ (by first | rfl | exact h1 | simp only [h1, eES, eEX, seval]) (by first | rfl | exact h3 | simp only [h3, eES, eEX, seval]) (by first | rfl | simp only [eES, eEX, seval])
  · have hf : allU q i = (adj P.enums (ords PE.name) && P.enums.all ord2) := by rw [show i = P.enums.length by omega, hqa]
    rw [hf] at h3
    simp only [lt_f hlt, List.length_map, h1, m1, h3, ha, eES, eEX, seval]
    exact hx _ (by first | rfl | exact h1 | simp only [h1, eES, eEX, seval]) (by first | rfl | exact h3 | simp only [h3, eES, eEX, seval])

end

section
variable {M : Nat} (P : PL) (hP : P.ok M)
include hP

theorem z18 : Fn1 Tryz.prog 18 [P.av] (.bool (lim P)) := by
  have e0 : P.av = .agg [.list (P.progs.map gav), .list (P.enums.map eav)] := rfl
  have e1 : decide ((P.progs.length : Int) ≤ 64) = decide (P.progs.length ≤ 64) := by rw [decide_eq_decide]; omega
  have e2 : decide ((P.enums.length : Int) ≤ 64) = decide (P.enums.length ≤ 64) := by rw [decide_eq_decide]; omega
  refine k18.fn (by simp) ?_
  simp only [e0, List.length_map, e1, eES, eEX, seval]
  have hl : lim P = ((decide (P.progs.length ≤ 64) && decide (P.enums.length ≤ 64) && P.progs.all lim1) && P.enums.all lim2) := rfl
  cases a1 : decide (P.progs.length ≤ 64) <;> simp only [a1, e1, e2, List.length_map, eES, eEX, seval]
  all_goals
    refine lims_progs P hP _ (by first | rfl | simp only [eES, eEX, seval]) _ _ (by first | rfl | simp only [eES, eEX, seval]) (by first | rfl | simp only [eES, eEX, seval]) _ (by first | rfl | simp only [eES, eEX, seval]) (fun f h1 h3 => ?_)
    simp only [h1, h3, eES, eEX, seval]
    refine lims_enums P hP _ (by first | rfl | simp only [eES, eEX, seval]) _ _ (by first | rfl | exact h1 | simp only [h1, eES, eEX, seval]) (by first | rfl | exact h3 | simp only [h3, eES, eEX, seval]) _ (by first | rfl | simp only [eES, eEX, seval]) (fun f h1 h3 => ?_)
    simp only [h1, h3, hl, a1, Bool.false_and, Bool.true_and, eES, eEX, seval]

theorem z19 : Fn1 Tryz.prog 19 [P.av] (.bool (nam P)) := by
  have e0 : P.av = .agg [.list (P.progs.map gav), .list (P.enums.map eav)] := rfl
  refine k19.fn (by simp) ?_
  simp only [e0, eES, eEX, seval]
  refine namo_progs P hP _ (by first | rfl | simp only [eES, eEX, seval]) _ true (by first | rfl | simp only [eES, eEX, seval]) (by first | rfl | simp only [eES, eEX, seval]) _ (by first | rfl | simp only [eES, eEX, seval]) (fun f h1 h3 => ?_)
  simp only [h1, h3, eES, eEX, seval]
  refine namo_enums P hP _ (by first | rfl | simp only [eES, eEX, seval]) _ _ (by first | rfl | exact h1 | simp only [h1, eES, eEX, seval]) (by first | rfl | exact h3 | simp only [h3, eES, eEX, seval]) _ (by first | rfl | simp only [eES, eEX, seval]) (fun f h1 h3 => ?_)
  simp only [h1, h3, nam, Bool.true_and, eES, eEX, seval]

theorem z20 : Fn1 Tryz.prog 20 [P.av] (.bool (ord P)) := by
  have e0 : P.av = .agg [.list (P.progs.map gav), .list (P.enums.map eav)] := rfl
  have e : ord P = ((adj P.progs (ords PG.name) && P.progs.all ord1) && (adj P.enums (ords PE.name) && P.enums.all ord2)) := by
    unfold ord
    cases adj P.progs (ords PG.name) <;> cases P.progs.all ord1 <;> cases adj P.enums (ords PE.name) <;> rfl
  refine k20.fn (by simp) ?_
  simp only [e0, eES, eEX, seval]
  refine ordo_progs P hP _ (by first | rfl | simp only [eES, eEX, seval]) _ true (by first | rfl | simp only [eES, eEX, seval]) (by first | rfl | simp only [eES, eEX, seval]) _ (by first | rfl | simp only [eES, eEX, seval]) (fun f h1 h3 => ?_)
  simp only [h1, h3, eES, eEX, seval]
  refine ordo_enums P hP _ (by first | rfl | simp only [eES, eEX, seval]) _ _ (by first | rfl | exact h1 | simp only [h1, eES, eEX, seval]) (by first | rfl | exact h3 | simp only [h3, eES, eEX, seval]) _ (by first | rfl | simp only [eES, eEX, seval]) (fun f h1 h3 => ?_)
  simp only [h1, h3, e, Bool.true_and, eES, eEX, seval]

end

end Go.Proofs.YtdgbidbkcigkhaaGreatDoor.Va

set_option linter.unusedSimpArgs false
namespace Go.Proofs.YtdgbidbkcigkhaaGreatDoor.Va
open Go Am Rc Bt Br

theorem z34 (L : List PS) (hl : L.length ≤ maxLen) (n : Int) : Fn1 Tryz.prog 34 [.list (L.map spav), .int .i64 n] (.bool (kept L n)) := by
  let I : Nat → St → Prop := fun k st => ∃ f i, st = ⟨f, [noObs], []⟩ ∧ k = L.length - i ∧ kept L n = kept (L.drop i) n ∧ f 0 = .list (L.map spav) ∧ f 1 = .int .i64 n ∧ f 5 = .int .i64 (i : Nat)
  refine wF Tryz.func34 ?_; simp only [eK, Tryz.f34, seval]
  simp only [eES, eEX, seval]
  refine awp_loop I _ ⟨_, 0, rfl, rfl, rfl, (by first | rfl | simp only [eES, eEX, seval]), (by first | rfl | simp only [eES, eEX, seval]), (by first | rfl | simp only [eES, eEX, seval])⟩ ?_
  rintro _ st ⟨f, i, rfl, rfl, hx, h0, h1, h5⟩
  simp only [List.length_map, h0, h1, h5, eES, eEX, seval]
  by_cases hlt : i < L.length
  · obtain ⟨x, hi⟩ : ∃ x, L[i]? = some x := ⟨L[i], List.getElem?_eq_getElem hlt⟩
    have hg : (L.map spav)[i]? = some (spav x) := by simp [hi]
    have e1 := wi64_s i _ hlt hl
    have hd : kept (L.drop i) n = ((decide (x.lo ≤ n) && decide (n ≤ x.hi)) || kept (L.drop (i + 1)) n) := by
      unfold kept
      rw [List.drop_eq_getElem_cons hlt, show L[i] = x from (List.getElem?_eq_some_iff.1 hi).2]
      rfl
    rw [hd] at hx
    simp only [lt_t hlt, nneg, Int.toNat_natCast, aiaddr, hg, spav, PS.cells, h0, h1, h5, eES, eEX, seval]
    cases a1 : decide (x.lo ≤ n)
    · rw [a1, Bool.false_and, Bool.false_or] at hx
      simp only [a1, h0, h1, h5, e1, eES, eEX, seval]
      exact ⟨L.length - (i + 1), by omega, _, i + 1, rfl, rfl, hx, (by first | rfl | exact h0 | simp only [h0, eES, eEX, seval]), (by first | rfl | exact h1 | simp only [h1, eES, eEX, seval]), (by first | rfl | simp only [eES, eEX, seval])⟩
    · cases a2 : decide (n ≤ x.hi)
      · rw [a1, a2, Bool.and_false, Bool.false_or] at hx
        simp only [a1, a2, nneg, Int.toNat_natCast, aiaddr, hg, spav, PS.cells, h0, h1, h5, e1, eES, eEX, seval]
        exact ⟨L.length - (i + 1), by omega, _, i + 1, rfl, rfl, hx, (by first | rfl | exact h0 | simp only [h0, eES, eEX, seval]), (by first | rfl | exact h1 | simp only [h1, eES, eEX, seval]), (by first | rfl | simp only [eES, eEX, seval])⟩
      · rw [a1, a2, Bool.and_true, Bool.true_or] at hx
        simp only [a1, a2, nneg, Int.toNat_natCast, aiaddr, hg, spav, PS.cells, h0, h1, h5, e1, hx, eES, eEX, seval]
  · have hx' : kept L n = false := by rw [hx, List.drop_of_length_le (by omega)]; rfl
    simp only [lt_f hlt, h0, h1, h5, hx', eES, eEX, seval]

section
variable {M : Nat} (P : PL) (hP : P.ok M) (fr : Nat → Ob) (m1 : fr 1 = .cells (Pc P)) (f : Fr) (b : Bool) (h1 : f 1 = .ptr 0 1 0) (h3 : f 3 = .bool b) (Q : Exit → St → Prop)

include h1 h3 in
theorem sini_ops (L : List PO) (hl : L.length ≤ maxLen) (j : Nat) (x : PO) (hj : L[j]? = some x) (n : Nat) (hr : f 4 = .int .i64 (n : Nat)) (hL : f 6 = .list (L.map fun o => .agg o.cells)) (hc : f 7 = .int .i64 (j : Nat)) (hd : f 8 = .int .i64 0)
    (hx : ∀ f, f 1 = .ptr 0 1 0 → f 3 = .bool (b && (L.take j).all fun y => !(y.name == x.name)) → f 4 = .int .i64 (n : Nat) → f 6 = .list (L.map fun o => .agg o.cells) → f 7 = .int .i64 (j : Nat) → Q (.exit 6) (⟨f, [fr], []⟩ : St)) :
    awp Tryz.prog (.loop l21_1) ⟨f, [fr], []⟩ Q := by
  let I : Nat → St → Prop := fun k st => ∃ f i, st = ⟨f, [fr], []⟩ ∧ k = j - i ∧ i ≤ j ∧ f 1 = .ptr 0 1 0 ∧ f 3 = .bool (b && (L.take i).all fun y => !(y.name == x.name)) ∧ f 4 = .int .i64 (n : Nat) ∧ f 6 = .list (L.map fun o => .agg o.cells) ∧ f 7 = .int .i64 (j : Nat) ∧ f 8 = .int .i64 (i : Nat)
  have hjl : j < L.length := (List.getElem?_eq_some_iff.1 hj).1
  have hjm : (L.map fun o => AV.agg o.cells)[j]? = some (.agg x.cells) := by simp [hj]
  refine awp_loop I _ ⟨f, 0, rfl, rfl, Nat.zero_le _, h1, by rw [h3]; simp, hr, hL, hc, hd⟩ ?_
  clear h1 h3 hr hL hc hd
  simp only [PO.cells] at hjm
  rintro _ st ⟨f, i, rfl, rfl, hi, h1, h3, hr, hL, hc, hd⟩
  simp only [h1, h3, hr, hL, hc, hd, eES, eEX, seval]
  by_cases hlt : i < j
  · obtain ⟨o, hg⟩ : ∃ o, L[i]? = some o := ⟨L[i]'(by omega), List.getElem?_eq_getElem (by omega)⟩
    have hgm : (L.map fun o => AV.agg o.cells)[i]? = some (.agg o.cells) := by simp [hg]
    have e1 := wi64_s i _ (show i < L.length by omega) hl
    have ht := take_all (q := fun y : PO => !(y.name == x.name)) hg
    have fin : ∀ f' : Fr, f' 1 = .ptr 0 1 0 → f' 3 = .bool ((b && (L.take i).all fun y => !(y.name == x.name)) && !(o.name == x.name)) → f' 4 = .int .i64 (n : Nat) → f' 6 = .list (L.map fun o => .agg o.cells) → f' 7 = .int .i64 (j : Nat) → f' 8 = .int .i64 ((i + 1 : Nat) : Int) → ∃ k, k < j - i ∧ I k ⟨f', [fr], []⟩ := by
      intro f' a1 a3 a4 a5 a6 a7
      exact ⟨j - (i + 1), by omega, f', i + 1, rfl, rfl, by omega, a1, by rw [a3, ht, Bool.and_assoc], a4, a5, a6, a7⟩
    simp only [PO.cells] at hgm
    cases hb : (b && (L.take i).all fun y => !(y.name == x.name))
    · rw [hb] at fin h3
      simp only [lt_t hlt, nneg, Int.toNat_natCast, aiaddr, hgm, hjm, PO.cells, h1, h3, hr, hL, hc, hd, e1, eES, eEX, seval]
      exact fin _ (by first | rfl | exact h1 | simp only [h1, eES, eEX, seval]) (by first | rfl | simp only [eES, eEX, seval]) (by first | rfl | exact hr | simp only [hr, eES, eEX, seval]) (by first | rfl | exact hL | simp only [hL, eES, eEX, seval]) (by first | rfl | exact hc | simp only [hc, eES, eEX, seval]) (by first | rfl | simp only [eES, eEX, seval])
    · rw [hb, Bool.true_and] at fin
      rw [hb] at h3
      simp only [lt_t hlt, nneg, Int.toNat_natCast, aiaddr, hgm, hjm, PO.cells, astr, h1, h3, hr, hL, hc, hd, e1, eES, eEX, seval]
      exact fin _ (by first | rfl | exact h1 | simp only [h1, eES, eEX, seval]) (by first | rfl | simp only [eES, eEX, seval]) (by first | rfl | exact hr | simp only [hr, eES, eEX, seval]) (by first | rfl | exact hL | simp only [hL, eES, eEX, seval]) (by first | rfl | exact hc | simp only [hc, eES, eEX, seval]) (by first | rfl | simp only [eES, eEX, seval])
  · rw [show i = j by omega] at h3
    simp only [lt_f hlt, h1, h3, hr, hL, hc, hd, eES, eEX, seval]
    exact hx _ (by first | rfl | exact h1 | simp only [h1, eES, eEX, seval]) (by first | rfl | exact h3 | simp only [h3, eES, eEX, seval]) (by first | rfl | exact hr | simp only [hr, eES, eEX, seval]) (by first | rfl | exact hL | simp only [hL, eES, eEX, seval]) (by first | rfl | exact hc | simp only [hc, eES, eEX, seval])

include h1 h3 in
theorem sino_ops (L : List PO) (hl : L.length ≤ maxLen) (n : Nat) (hr : f 4 = .int .i64 (n : Nat)) (hL : f 6 = .list (L.map fun o => .agg o.cells)) (hc : f 7 = .int .i64 0)
    (hx : ∀ f, f 1 = .ptr 0 1 0 → f 3 = .bool (b && once L PO.name) → f 4 = .int .i64 (n : Nat) → Q (.exit 4) (⟨f, [fr], []⟩ : St)) :
    awp Tryz.prog (.loop l21_2) ⟨f, [fr], []⟩ Q := by
  let I : Nat → St → Prop := fun k st => ∃ f i, st = ⟨f, [fr], []⟩ ∧ k = L.length - i ∧ i ≤ L.length ∧ f 1 = .ptr 0 1 0 ∧ f 3 = .bool (b && allU (uniq L PO.name) i) ∧ f 4 = .int .i64 (n : Nat) ∧ f 6 = .list (L.map fun o => .agg o.cells) ∧ f 7 = .int .i64 (i : Nat)
  refine awp_loop I _ ⟨f, 0, rfl, rfl, Nat.zero_le _, h1, by rw [h3]; simp [allU], hr, hL, hc⟩ ?_
  clear h1 h3 hr hL hc
  rintro _ st ⟨f, i, rfl, rfl, hi, h1, h3, hr, hL, hc⟩
  simp only [List.length_map, h1, h3, hr, hL, hc, eES, eEX, seval]
  by_cases hlt : i < L.length
  · obtain ⟨o, hg⟩ : ∃ o, L[i]? = some o := ⟨L[i], List.getElem?_eq_getElem hlt⟩
    have e1 := wi64_s i _ hlt hl
    have ht := acc_step b (uniq L PO.name) i
    rw [uniq_at hg] at ht
    simp only [lt_t hlt, h1, h3, hr, hL, hc, eES, eEX, seval]
    refine sini_ops fr _ (b && allU (uniq L PO.name) i) (by first | rfl | exact h1 | simp only [h1, eES, eEX, seval]) (by first | rfl | exact h3 | simp only [h3, eES, eEX, seval]) _ L hl i o hg n (by first | rfl | exact hr | simp only [hr, eES, eEX, seval]) (by first | rfl | exact hL | simp only [hL, eES, eEX, seval]) (by first | rfl | exact hc | simp only [hc, eES, eEX, seval]) (by first | rfl | simp only [eES, eEX, seval]) (fun f h1 h3 hr hL hc => ?_)
    simp only [h1, h3, hr, hL, hc, e1, eES, eEX, seval]
    exact ⟨L.length - (i + 1), by omega, _, i + 1, rfl, rfl, by omega, (by first | rfl | exact h1 | simp only [h1, eES, eEX, seval]), by rw [ht] <;> first | exact h3 | simp only [h3, eES, eEX, seval], (by first | rfl | exact hr | simp only [hr, eES, eEX, seval]), (by first | rfl | exact hL | simp only [hL, eES, eEX, seval]), (by first | rfl | simp only [eES, eEX, seval])⟩
  · rw [show i = L.length by omega] at h3
    simp only [lt_f hlt, h1, h3, hr, hL, hc, eES, eEX, seval]
    exact hx _ (by first | rfl | exact h1 | simp only [h1, eES, eEX, seval]) (by first | rfl | exact h3 | simp only [h3, eES, eEX, seval]) (by first | rfl | exact hr | simp only [hr, eES, eEX, seval])

include h1 h3 in
theorem sini_items (L : List PI) (hl : L.length ≤ maxLen) (j : Nat) (x : PI) (hj : L[j]? = some x) (n : Nat) (hr : f 9 = .int .i64 (n : Nat)) (hL : f 10 = .list (L.map fun o => .agg o.cells)) (hc : f 11 = .int .i64 (j : Nat)) (hd : f 12 = .int .i64 0)
    (hx : ∀ f, f 1 = .ptr 0 1 0 → f 3 = .bool (b && (L.take j).all fun y => !(y.name == x.name)) → f 9 = .int .i64 (n : Nat) → f 10 = .list (L.map fun o => .agg o.cells) → f 11 = .int .i64 (j : Nat) → Q (.exit 12) (⟨f, [fr], []⟩ : St)) :
    awp Tryz.prog (.loop l21_4) ⟨f, [fr], []⟩ Q := by
  let I : Nat → St → Prop := fun k st => ∃ f i, st = ⟨f, [fr], []⟩ ∧ k = j - i ∧ i ≤ j ∧ f 1 = .ptr 0 1 0 ∧ f 3 = .bool (b && (L.take i).all fun y => !(y.name == x.name)) ∧ f 9 = .int .i64 (n : Nat) ∧ f 10 = .list (L.map fun o => .agg o.cells) ∧ f 11 = .int .i64 (j : Nat) ∧ f 12 = .int .i64 (i : Nat)
  have hjl : j < L.length := (List.getElem?_eq_some_iff.1 hj).1
  have hjm : (L.map fun o => AV.agg o.cells)[j]? = some (.agg x.cells) := by simp [hj]
  refine awp_loop I _ ⟨f, 0, rfl, rfl, Nat.zero_le _, h1, by rw [h3]; simp, hr, hL, hc, hd⟩ ?_
  clear h1 h3 hr hL hc hd
  simp only [PI.cells] at hjm
  rintro _ st ⟨f, i, rfl, rfl, hi, h1, h3, hr, hL, hc, hd⟩
  simp only [h1, h3, hr, hL, hc, hd, eES, eEX, seval]
  by_cases hlt : i < j
  · obtain ⟨o, hg⟩ : ∃ o, L[i]? = some o := ⟨L[i]'(by omega), List.getElem?_eq_getElem (by omega)⟩
    have hgm : (L.map fun o => AV.agg o.cells)[i]? = some (.agg o.cells) := by simp [hg]
    have e1 := wi64_s i _ (show i < L.length by omega) hl
    have ht := take_all (q := fun y : PI => !(y.name == x.name)) hg
    have fin : ∀ f' : Fr, f' 1 = .ptr 0 1 0 → f' 3 = .bool ((b && (L.take i).all fun y => !(y.name == x.name)) && !(o.name == x.name)) → f' 9 = .int .i64 (n : Nat) → f' 10 = .list (L.map fun o => .agg o.cells) → f' 11 = .int .i64 (j : Nat) → f' 12 = .int .i64 ((i + 1 : Nat) : Int) → ∃ k, k < j - i ∧ I k ⟨f', [fr], []⟩ := by
      intro f' a1 a3 a4 a5 a6 a7
      exact ⟨j - (i + 1), by omega, f', i + 1, rfl, rfl, by omega, a1, by rw [a3, ht, Bool.and_assoc], a4, a5, a6, a7⟩
    simp only [PI.cells] at hgm
    cases hb : (b && (L.take i).all fun y => !(y.name == x.name))
    · rw [hb] at fin h3
      simp only [lt_t hlt, nneg, Int.toNat_natCast, aiaddr, hgm, hjm, PI.cells, h1, h3, hr, hL, hc, hd, e1, eES, eEX, seval]
      exact fin _ (by first | rfl | exact h1 | simp only [h1, eES, eEX, seval]) (by first | rfl | simp only [eES, eEX, seval]) (by first | rfl | exact hr | simp only [hr, eES, eEX, seval]) (by first | rfl | exact hL | simp only [hL, eES, eEX, seval]) (by first | rfl | exact hc | simp only [hc, eES, eEX, seval]) (by first | rfl | simp only [eES, eEX, seval])
    · rw [hb, Bool.true_and] at fin
      rw [hb] at h3
      simp only [lt_t hlt, nneg, Int.toNat_natCast, aiaddr, hgm, hjm, PI.cells, astr, h1, h3, hr, hL, hc, hd, e1, eES, eEX, seval]
      exact fin _ (by first | rfl | exact h1 | simp only [h1, eES, eEX, seval]) (by first | rfl | simp only [eES, eEX, seval]) (by first | rfl | exact hr | simp only [hr, eES, eEX, seval]) (by first | rfl | exact hL | simp only [hL, eES, eEX, seval]) (by first | rfl | exact hc | simp only [hc, eES, eEX, seval]) (by first | rfl | simp only [eES, eEX, seval])
  · rw [show i = j by omega] at h3
    simp only [lt_f hlt, h1, h3, hr, hL, hc, hd, eES, eEX, seval]
    exact hx _ (by first | rfl | exact h1 | simp only [h1, eES, eEX, seval]) (by first | rfl | exact h3 | simp only [h3, eES, eEX, seval]) (by first | rfl | exact hr | simp only [hr, eES, eEX, seval]) (by first | rfl | exact hL | simp only [hL, eES, eEX, seval]) (by first | rfl | exact hc | simp only [hc, eES, eEX, seval])

include h1 h3 in
theorem sino_items (L : List PI) (hl : L.length ≤ maxLen) (n : Nat) (hr : f 9 = .int .i64 (n : Nat)) (hL : f 10 = .list (L.map fun o => .agg o.cells)) (hc : f 11 = .int .i64 0)
    (hx : ∀ f, f 1 = .ptr 0 1 0 → f 3 = .bool (b && once L PI.name) → f 9 = .int .i64 (n : Nat) → Q (.exit 10) (⟨f, [fr], []⟩ : St)) :
    awp Tryz.prog (.loop l21_5) ⟨f, [fr], []⟩ Q := by
  let I : Nat → St → Prop := fun k st => ∃ f i, st = ⟨f, [fr], []⟩ ∧ k = L.length - i ∧ i ≤ L.length ∧ f 1 = .ptr 0 1 0 ∧ f 3 = .bool (b && allU (uniq L PI.name) i) ∧ f 9 = .int .i64 (n : Nat) ∧ f 10 = .list (L.map fun o => .agg o.cells) ∧ f 11 = .int .i64 (i : Nat)
  refine awp_loop I _ ⟨f, 0, rfl, rfl, Nat.zero_le _, h1, by rw [h3]; simp [allU], hr, hL, hc⟩ ?_
  clear h1 h3 hr hL hc
  rintro _ st ⟨f, i, rfl, rfl, hi, h1, h3, hr, hL, hc⟩
  simp only [List.length_map, h1, h3, hr, hL, hc, eES, eEX, seval]
  by_cases hlt : i < L.length
  · obtain ⟨o, hg⟩ : ∃ o, L[i]? = some o := ⟨L[i], List.getElem?_eq_getElem hlt⟩
    have e1 := wi64_s i _ hlt hl
    have ht := acc_step b (uniq L PI.name) i
    rw [uniq_at hg] at ht
    simp only [lt_t hlt, h1, h3, hr, hL, hc, eES, eEX, seval]
    refine sini_items fr _ (b && allU (uniq L PI.name) i) (by first | rfl | exact h1 | simp only [h1, eES, eEX, seval]) (by first | rfl | exact h3 | simp only [h3, eES, eEX, seval]) _ L hl i o hg n (by first | rfl | exact hr | simp only [hr, eES, eEX, seval]) (by first | rfl | exact hL | simp only [hL, eES, eEX, seval]) (by first | rfl | exact hc | simp only [hc, eES, eEX, seval]) (by first | rfl | simp only [eES, eEX, seval]) (fun f h1 h3 hr hL hc => ?_)
    simp only [h1, h3, hr, hL, hc, e1, eES, eEX, seval]
    exact ⟨L.length - (i + 1), by omega, _, i + 1, rfl, rfl, by omega, (by first | rfl | exact h1 | simp only [h1, eES, eEX, seval]), by rw [ht] <;> first | exact h3 | simp only [h3, eES, eEX, seval], (by first | rfl | exact hr | simp only [hr, eES, eEX, seval]), (by first | rfl | exact hL | simp only [hL, eES, eEX, seval]), (by first | rfl | simp only [eES, eEX, seval])⟩
  · rw [show i = L.length by omega] at h3
    simp only [lt_f hlt, h1, h3, hr, hL, hc, eES, eEX, seval]
    exact hx _ (by first | rfl | exact h1 | simp only [h1, eES, eEX, seval]) (by first | rfl | exact h3 | simp only [h3, eES, eEX, seval]) (by first | rfl | exact hr | simp only [hr, eES, eEX, seval])

include hP m1 h1 h3

theorem sinp (j : Nat) (x : PG) (hj : P.progs[j]? = some x) (ha : f 4 = .int .i64 (j : Nat)) (hc : f 5 = .int .i64 0) (hx : ∀ f, f 1 = .ptr 0 1 0 → f 3 = .bool (b && P.enums.all fun e => !(e.name == x.name)) → f 4 = .int .i64 (j : Nat) → Q (.exit 2) (⟨f, [fr], []⟩ : St)) : awp Tryz.prog (.loop l21_0) ⟨f, [fr], []⟩ Q := by
  let I : Nat → St → Prop := fun k st => ∃ f i, st = ⟨f, [fr], []⟩ ∧ k = P.enums.length - i ∧ i ≤ P.enums.length ∧ f 1 = .ptr 0 1 0 ∧ f 3 = .bool (b && (P.enums.take i).all fun e => !(e.name == x.name)) ∧ f 4 = .int .i64 (j : Nat) ∧ f 5 = .int .i64 (i : Nat)
  have hjm : (P.progs.map gav)[j]? = some (.agg x.cells) := by simp [hj, gav]
  refine awp_loop I _ ⟨f, 0, rfl, rfl, Nat.zero_le _, h1, by rw [h3]; simp, ha, hc⟩ ?_
  clear h1 h3 ha hc
  simp only [Pc] at m1
  simp only [PG.cells] at hjm
  rintro _ st ⟨f, i, rfl, rfl, hi, h1, h3, ha, hc⟩
  simp only [List.length_map, h1, m1, h3, ha, hc, eES, eEX, seval]
  by_cases hlt : i < P.enums.length
  · obtain ⟨o, hg⟩ : ∃ o, P.enums[i]? = some o := ⟨P.enums[i], List.getElem?_eq_getElem hlt⟩
    have hgm : (P.enums.map eav)[i]? = some (.agg o.cells) := by simp [hg, eav]
    have e1 := wi64_s i _ hlt hP.len2
    have ht := take_all (q := fun y : PE => !(y.name == x.name)) hg
    have hcm : (x.name == o.name) = (o.name == x.name) := by rw [Bool.eq_iff_iff, beq_iff_eq, beq_iff_eq]; exact ⟨Eq.symm, Eq.symm⟩
    have fin : ∀ f' : Fr, f' 1 = .ptr 0 1 0 → f' 3 = .bool ((b && (P.enums.take i).all fun y => !(y.name == x.name)) && !(o.name == x.name)) → f' 4 = .int .i64 (j : Nat) → f' 5 = .int .i64 ((i + 1 : Nat) : Int) → ∃ k, k < P.enums.length - i ∧ I k ⟨f', [fr], []⟩ := by
      intro f' a1 a3 a4 a5
      exact ⟨P.enums.length - (i + 1), by omega, f', i + 1, rfl, rfl, by omega, a1, by rw [a3, ht, Bool.and_assoc], a4, a5⟩
    simp only [PE.cells] at hgm
    cases hb : (b && (P.enums.take i).all fun y => !(y.name == x.name))
    · rw [hb] at fin h3
      simp only [lt_t hlt, nneg, Int.toNat_natCast, aiaddr, hjm, hgm, h1, m1, h3, ha, hc, e1, eES, eEX, seval]
      exact fin _ (by first | rfl | exact h1 | simp only [h1, eES, eEX, seval]) (by first | rfl | simp only [eES, eEX, seval]) (by first | rfl | exact ha | simp only [ha, eES, eEX, seval]) (by first | rfl | simp only [eES, eEX, seval])
    · rw [hb, Bool.true_and] at fin
      rw [hb] at h3
      simp only [lt_t hlt, nneg, Int.toNat_natCast, aiaddr, hjm, hgm, astr, hcm, h1, m1, h3, ha, hc, e1, eES, eEX, seval]
      exact fin _ (by first | rfl | exact h1 | simp only [h1, eES, eEX, seval]) (by first | rfl | simp only [eES, eEX, seval]) (by first | rfl | exact ha | simp only [ha, eES, eEX, seval]) (by first | rfl | simp only [eES, eEX, seval])
  · have hf : (P.enums.take i).all (fun e => !(e.name == x.name)) = P.enums.all fun e => !(e.name == x.name) := by rw [List.take_of_length_le (by omega)]
    rw [hf] at h3
    simp only [lt_f hlt, h1, m1, h3, ha, hc, eES, eEX, seval]
    exact hx _ (by first | rfl | exact h1 | simp only [h1, eES, eEX, seval]) (by first | rfl | exact h3 | simp only [h3, eES, eEX, seval]) (by first | rfl | exact ha | simp only [ha, eES, eEX, seval])

theorem sinP (ha : f 4 = .int .i64 0) (hx : ∀ f, f 1 = .ptr 0 1 0 → f 3 = .bool (b && P.progs.all (sin1 P)) → Q (.exit 0) (⟨f, [fr], []⟩ : St)) : awp Tryz.prog (.loop l21_3) ⟨f, [fr], []⟩ Q := by
  let I : Nat → St → Prop := fun k st => ∃ f i, st = ⟨f, [fr], []⟩ ∧ k = P.progs.length - i ∧ i ≤ P.progs.length ∧ f 1 = .ptr 0 1 0 ∧ f 3 = .bool (b && (P.progs.take i).all (sin1 P)) ∧ f 4 = .int .i64 (i : Nat)
  have m1' := m1
  refine awp_loop I _ ⟨f, 0, rfl, rfl, Nat.zero_le _, h1, by rw [h3]; simp, ha⟩ ?_
  clear h1 h3 ha
  simp only [Pc] at m1
  rintro _ st ⟨f, i, rfl, rfl, hi, h1, h3, ha⟩
  simp only [List.length_map, h1, m1, h3, ha, eES, eEX, seval]
  by_cases hlt : i < P.progs.length
  · obtain ⟨x, hg⟩ : ∃ x, P.progs[i]? = some x := ⟨P.progs[i], List.getElem?_eq_getElem hlt⟩
    have hgm : (P.progs.map gav)[i]? = some (.agg x.cells) := by simp [hg, gav]
    have e1 := wi64_s i _ hlt hP.len1
    have ht := take_all (q := sin1 P) hg
    have hq : sin1 P x = ((P.enums.all fun e => !(e.name == x.name)) && once x.ops PO.name) := rfl
    simp only [PG.cells] at hgm
    simp only [lt_t hlt, h1, m1, h3, ha, eES, eEX, seval]
    refine sinp P hP fr m1' _ (b && (P.progs.take i).all (sin1 P)) (by first | rfl | exact h1 | simp only [h1, eES, eEX, seval]) (by first | rfl | exact h3 | simp only [h3, eES, eEX, seval]) _ i x hg (by first | rfl | exact ha | simp only [ha, eES, eEX, seval]) (by first | rfl | simp only [eES, eEX, seval]) (fun f h1 h3 ha => ?_)
    simp only [nneg, Int.toNat_natCast, aiaddr, hgm, h1, m1, h3, ha, eES, eEX, seval]
    refine sino_ops fr _ _ (by first | rfl | exact h1 | simp only [h1, eES, eEX, seval]) (by first | rfl | exact h3 | simp only [h3, eES, eEX, seval]) _ x.ops (hP.progs x (List.mem_of_getElem? hg)).len i (by first | rfl | exact ha | simp only [ha, eES, eEX, seval]) (by first | rfl | simp only [eES, eEX, seval]) (by first | rfl | simp only [eES, eEX, seval]) (fun f h1 h3 ha => ?_)
    simp only [h1, h3, ha, e1, eES, eEX, seval]
    exact ⟨P.progs.length - (i + 1), by omega, _, i + 1, rfl, rfl, by omega, (by first | rfl | exact h1 | simp only [h1, eES, eEX, seval]), by rw [ht, hq, ← Bool.and_assoc, ← Bool.and_assoc] <;> first | exact h3 | simp only [h3, eES, eEX, seval], (by first | rfl | simp only [eES, eEX, seval])⟩
  · have hf : (P.progs.take i).all (sin1 P) = P.progs.all (sin1 P) := by rw [List.take_of_length_le (by omega)]
    rw [hf] at h3
    simp only [lt_f hlt, h1, m1, h3, ha, eES, eEX, seval]
    exact hx _ (by first | rfl | exact h1 | simp only [h1, eES, eEX, seval]) (by first | rfl | exact h3 | simp only [h3, eES, eEX, seval])

theorem sinE (ha : f 9 = .int .i64 0) (hx : ∀ f, f 1 = .ptr 0 1 0 → f 3 = .bool (b && P.enums.all sin2) → Q (.exit 8) (⟨f, [fr], []⟩ : St)) : awp Tryz.prog (.loop l21_6) ⟨f, [fr], []⟩ Q := by
  let I : Nat → St → Prop := fun k st => ∃ f i, st = ⟨f, [fr], []⟩ ∧ k = P.enums.length - i ∧ i ≤ P.enums.length ∧ f 1 = .ptr 0 1 0 ∧ f 3 = .bool (b && (P.enums.take i).all sin2) ∧ f 9 = .int .i64 (i : Nat)
  refine awp_loop I _ ⟨f, 0, rfl, rfl, Nat.zero_le _, h1, by rw [h3]; simp, ha⟩ ?_
  clear h1 h3 ha
  simp only [Pc] at m1
  rintro _ st ⟨f, i, rfl, rfl, hi, h1, h3, ha⟩
  simp only [List.length_map, h1, m1, h3, ha, eES, eEX, seval]
  by_cases hlt : i < P.enums.length
  · obtain ⟨x, hg⟩ : ∃ x, P.enums[i]? = some x := ⟨P.enums[i], List.getElem?_eq_getElem hlt⟩
    have hgm : (P.enums.map eav)[i]? = some (.agg x.cells) := by simp [hg, eav]
    have e1 := wi64_s i _ hlt hP.len2
    have ht := take_all (q := sin2) hg
    have hq : sin2 x = once x.items PI.name := rfl
    simp only [PE.cells] at hgm
    simp only [lt_t hlt, nneg, Int.toNat_natCast, aiaddr, hgm, h1, m1, h3, ha, eES, eEX, seval]
    refine sino_items fr _ (b && (P.enums.take i).all sin2) (by first | rfl | exact h1 | simp only [h1, eES, eEX, seval]) (by first | rfl | exact h3 | simp only [h3, eES, eEX, seval]) _ x.items (hP.enums x (List.mem_of_getElem? hg)).len1 i (by first | rfl | exact ha | simp only [ha, eES, eEX, seval]) (by first | rfl | simp only [eES, eEX, seval]) (by first | rfl | simp only [eES, eEX, seval]) (fun f h1 h3 ha => ?_)
    simp only [h1, h3, ha, e1, eES, eEX, seval]
    exact ⟨P.enums.length - (i + 1), by omega, _, i + 1, rfl, rfl, by omega, (by first | rfl | exact h1 | simp only [h1, eES, eEX, seval]), by rw [ht, hq, ← Bool.and_assoc] <;> first | exact h3 | simp only [h3, eES, eEX, seval], (by first | rfl | simp only [eES, eEX, seval])⟩
  · have hf : (P.enums.take i).all sin2 = P.enums.all sin2 := by rw [List.take_of_length_le (by omega)]
    rw [hf] at h3
    simp only [lt_f hlt, h1, m1, h3, ha, eES, eEX, seval]
    exact hx _ (by first | rfl | exact h1 | simp only [h1, eES, eEX, seval]) (by first | rfl | exact h3 | simp only [h3, eES, eEX, seval])

end

theorem z21 {M : Nat} (P : PL) (hP : P.ok M) : Fn1 Tryz.prog 21 [P.av] (.bool (sin P)) := by
  have e0 : P.av = .agg [.list (P.progs.map gav), .list (P.enums.map eav)] := rfl
  refine k21.fn (by simp) ?_
  simp only [e0, eES, eEX, seval]
  refine sinP P hP _ (by first | rfl | simp only [eES, eEX, seval]) _ true (by first | rfl | simp only [eES, eEX, seval]) (by first | rfl | simp only [eES, eEX, seval]) _ (by first | rfl | simp only [eES, eEX, seval]) (fun f h1 h3 => ?_)
  simp only [h1, h3, eES, eEX, seval]
  refine sinE P hP _ (by first | rfl | simp only [eES, eEX, seval]) _ _ (by first | rfl | exact h1 | simp only [h1, eES, eEX, seval]) (by first | rfl | exact h3 | simp only [h3, eES, eEX, seval]) _ (by first | rfl | simp only [eES, eEX, seval]) (fun f h1 h3 => ?_)
  simp only [h1, h3, sin, Bool.true_and, eES, eEX, seval]

end Go.Proofs.YtdgbidbkcigkhaaGreatDoor.Va

set_option linter.unusedSimpArgs false
namespace Go.Proofs.YtdgbidbkcigkhaaGreatDoor.Va
open Go Am Rc Bt Br

theorem z60 : Fn1 Tryz.prog 60 [.str alias] (.int .i64 7) := by
  refine wF Tryz.func60 ?_; simp only [eK, Tryz.f60, seval]
  have b1 : (alias == ([100, 101, 112, 114, 101, 99, 97, 116, 101, 100] : List UInt8)) = false := by decide
  have b2 : (alias == ([115, 101, 99, 114, 101, 116] : List UInt8)) = false := by decide
  have b3 : (alias == ([105, 100, 101, 109, 112, 111, 116, 101, 110, 116] : List UInt8)) = false := by decide
  have b4 : (alias == ([100, 111, 99] : List UInt8)) = false := by decide
  have b5 : (alias == ([97, 108, 105, 97, 115] : List UInt8)) = true := by decide
  simp only [astr, b1, b2, b3, b4, b5, eES, eEX, seval]

theorem z61 : Fn1 Tryz.prog 61 [.str alias, .int .i64 4] (.bool true) := by
  refine wF Tryz.func61 ?_; simp only [eK, Tryz.f61, seval]
  have b1 : (alias == ([100, 101, 112, 114, 101, 99, 97, 116, 101, 100] : List UInt8)) = false := by decide
  have b4 : (alias == ([100, 111, 99] : List UInt8)) = false := by decide
  have b5 : (alias == ([97, 108, 105, 97, 115] : List UInt8)) = true := by decide
  have c2 : ((4 : Int) == 2) = false := rfl
  have c4 : ((4 : Int) == 4) = true := rfl
  simp only [astr, b1, b4, b5, c2, c4, eES, eEX, seval]

section
variable (kd : Int) (b : Nat) (t : List UInt8) (l p s r : List AV) (ht : t.length + 8 ≤ maxLen)
include ht

theorem z135 : Fn1 Tryz.prog 135 [.int .i64 7, vo kd b t l p s r] (.bool (fitv 7 kd b t l p s r)) := by
  have hl := y191 kd b t l p s r
  simp only [vo] at hl
  have n1 : (kd != 7) = !(kd == 7) := rfl
  have k7 : isk 7 = true := rfl
  have t7 : txk 7 = true := rfl
  have f7 : fitn 7 b = true := rfl
  have c8 : ((7 : Int) == 8) = false := rfl
  have c7 : ((7 : Int) != 7) = false := rfl
  refine wF Tryz.func135 ?_; simp only [eK, Tryz.f135, seval]
  simp only [vo, fitv, k7, f7, c7, Bool.true_and, Bool.and_true, Bool.false_or, eES, eEX, seval]
  refine aops_call (x190 7) rfl rfl rfl (.inl rfl) ?_
  simp only [k7, n1, Bool.not_true, eES, eEX, seval]
  by_cases hk : kd = 7
  · subst hk
    have a1 : ((7 : Int) == 7) = true := rfl
    simp only [a1, Bool.not_true, Bool.true_and, t7, if_true, eES, eEX, seval]
    refine aops_call hl rfl rfl rfl (.inl rfl) ?_
    cases lon l p s r
    · simp only [Bool.not_false, Bool.false_and, eES, eEX, seval]
    simp only [Bool.not_true, Bool.true_and, eES, eEX, seval]
    refine aops_call (x192 7) rfl rfl rfl (.inl rfl) ?_
    simp only [t7, eES, eEX, seval]
    cases a2 : ((b : Int) == 0)
    · simp only [a2, Bool.false_and, eES, eEX, seval]
    cases a3 : decide ((t.length : Int) ≤ 4096)
    · simp only [a2, a3, Bool.false_and, Bool.and_false, eES, eEX, seval]
    simp only [a2, a3, c8, Bool.true_and, eES, eEX, seval]
    refine aops_call (c63 t ht) rfl rfl rfl (.inl rfl) ?_
    simp only [eES, eEX, seval]
  · have a1 : (kd == 7) = false := by simp [hk]
    simp only [a1, Bool.not_false, Bool.false_and, eES, eEX, seval]

theorem z62 : Fn1 Tryz.prog 62 [nv kd b t l p s r] (.bool (fitv 7 kd b t l p s r)) := by
  have hf := z135 kd b t l p s r ht
  have b0 : ((7 : Int) != 0) = true := rfl
  simp only [vo] at hf
  refine wF Tryz.func62 ?_; simp only [eK, Tryz.f62, seval]
  simp only [nv, eES, eEX, seval]
  refine aops_call z60 rfl rfl rfl (.inl rfl) ?_
  simp only [b0, eES, eEX, seval]
  cases a1 : (kd == 7)
  · have e : fitv 7 kd b t l p s r = false := by unfold fitv; rw [a1]; rfl
    simp only [a1, e, eES, eEX, seval]
  · simp only [a1, eES, eEX, seval]
    refine aops_call hf rfl rfl rfl (.inl rfl) ?_
    simp only [eES, eEX, seval]

def RcI (k : Nat) (st : St) : Prop :=
  ∃ f i, st = ⟨f, [noObs], []⟩ ∧ k = 1 - i ∧ i ≤ 1 ∧ (i = 1 → fitv 7 kd b t l p s r = true) ∧ f 0 = .list [nv kd b t l p s r] ∧ f 1 = .int .i64 4 ∧ f 5 = .int .i64 (i : Nat)

theorem z35 : Fn1 Tryz.prog 35 [.list [nv kd b t l p s r], .int .i64 4] (.int .i64 (if fitv 7 kd b t l p s r = true then 0 else 12)) := by
  have b0 : decide (((1 : Nat) : Int) > 8) = false := rfl
  have hr := z62 kd b t l p s r ht
  simp only [nv] at hr
  refine wF Tryz.func35 ?_; simp only [eK, Tryz.f35, seval]
  simp only [List.length_cons, List.length_nil, Nat.zero_add, b0, eES, eEX, seval]
  refine awp_loop (RcI kd b t l p s r) 1 ⟨_, 0, rfl, rfl, Nat.zero_le _, (fun h => by cases h), (by first | rfl | simp only [eES, eEX, seval]), (by first | rfl | simp only [eES, eEX, seval]), (by first | rfl | simp only [eES, eEX, seval])⟩ ?_
  rintro _ st ⟨f, i, rfl, rfl, hi, hf, h0, h1, h5⟩
  simp only [nv] at h0
  simp only [h0, h1, h5, List.length_cons, List.length_nil, Nat.zero_add, eES, eEX, seval]
  rcases Nat.le_one_iff_eq_zero_or_eq_one.1 hi with rfl | rfl
  · have c0 : decide (((0 : Nat) : Int) < ((1 : Nat) : Int)) = true := rfl
    have c1 : decide (((0 : Nat) : Int) > 0) = false := rfl
    have d7 : ((7 : Int) == 0) = false := rfl
    have e1 : IntKind.i64.wrap (((0 : Nat) : Int) + 1) = ((1 : Nat) : Int) := rfl
    have z0 : (0 ≤ ((0 : Nat) : Int)) = True := by simp
    have z1 : Int.toNat ((0 : Nat) : Int) = 0 := rfl
    simp only [c0, c1, z0, z1, aiaddr, List.getElem?_cons_zero, h0, h1, h5, eES, eEX, seval]
    refine aops_call z60 rfl rfl rfl (.inl rfl) ?_
    simp only [d7, c0, c1, z0, z1, aiaddr, List.getElem?_cons_zero, h0, h1, h5, eES, eEX, seval]
    refine aops_call z61 rfl rfl rfl (.inl rfl) ?_
    simp only [Bool.not_true, c0, c1, z0, z1, aiaddr, List.getElem?_cons_zero, h0, h1, h5, eES, eEX, seval]
    refine aops_call hr rfl rfl rfl (.inl rfl) ?_
    cases hfv : fitv 7 kd b t l p s r
    · simp only [Bool.not_false, Bool.false_eq_true, if_false, eES, eEX, seval]
    · simp only [Bool.not_true, c1, h0, h1, h5, e1, eES, eEX, seval]
      exact ⟨0, by omega, _, 1, rfl, rfl, Nat.le_refl _, fun _ => hfv, (by first | rfl | exact h0 | simp only [h0, eES, eEX, seval]), (by first | rfl | exact h1 | simp only [h1, eES, eEX, seval]), (by first | rfl | simp only [eES, eEX, seval])⟩
  · have c0 : decide (((1 : Nat) : Int) < ((1 : Nat) : Int)) = false := rfl
    simp only [c0, hf rfl, if_true, h0, h1, h5, eES, eEX, seval]

end

section
variable (P : PL)

def aimR (P : PL) (o : PO) : Bool :=
  if o.kind = 10 then decide (o.target ≥ 0) && decide (o.target < (P.progs.length : Int)) && o.card != 3
  else if o.kind = 9 then decide (o.target ≥ 0) && decide (o.target < (P.enums.length : Int)) else o.target == -1

theorem z64 (o : PO) : Fn1 Tryz.prog 64 [P.av, oav o] (.bool (aimR P o)) := by
  have e0 : P.av = .agg [.list (P.progs.map gav), .list (P.enums.map eav)] := rfl
  refine wF Tryz.func64 ?_; simp only [eK, Tryz.f64, seval]
  simp only [e0, oav, PO.cells, aimR, eES, eEX, seval]
  by_cases h : o.kind = 10
  · have b0 : (o.kind == 10) = true := by simp [h]
    simp only [b0, if_pos h, List.length_map, eES, eEX, seval]
    cases a1 : decide (o.target ≥ 0) <;> cases a2 : decide (o.target < (P.progs.length : Int)) <;> simp only [a1, a2, Bool.true_and, Bool.false_and, List.length_map, eES, eEX, seval]
  · have b0 : (o.kind == 10) = false := by simp [h]
    by_cases h9 : o.kind = 9
    · have b1 : (o.kind == 9) = true := by simp [h9]
      simp only [b0, b1, if_neg h, if_pos h9, List.length_map, eES, eEX, seval]
      cases a1 : decide (o.target ≥ 0) <;> simp only [a1, Bool.true_and, Bool.false_and, List.length_map, eES, eEX, seval]
    · have b1 : (o.kind == 9) = false := by simp [h9]
      simp only [b0, b1, if_neg h, if_neg h9, eES, eEX, seval]

theorem opr_eq (o : PO) : (arg1 P o && uok o) = (vld o.alias && (decide ((o.alias.length : Int) ≤ 4096) && (decide (o.card ≥ 1) && (decide (o.card ≤ 5) && (decide (o.kind ≥ 1) && (decide (o.kind ≤ 10) && (key o && aimR P o && uok o))))))) := by
  have h : aim P o = (decide (o.kind ≥ 1) && decide (o.kind ≤ 10) && aimR P o) := by
    unfold aim aimR
    by_cases h : o.kind = 10
    · rw [if_pos h, if_pos h, h]; rfl
    · rw [if_neg h, if_neg h]
      by_cases h9 : o.kind = 9
      · rw [if_pos h9, if_pos h9, h9]; rfl
      · rw [if_neg h9, if_neg h9]
        congr 1
        unfold isk
        rw [Bool.eq_iff_iff, Bool.and_eq_true, Bool.and_eq_true]
        simp only [decide_eq_true_eq]
        omega
  unfold arg1
  rw [h]
  cases vld o.alias <;> cases decide ((o.alias.length : Int) ≤ 4096) <;> cases decide (o.card ≥ 1) <;> cases decide (o.card ≤ 5) <;> cases decide (o.kind ≥ 1) <;> cases decide (o.kind ≤ 10) <;> cases key o <;> cases aimR P o <;> cases uok o <;> rfl

theorem z37 (o : PO) (ha : o.alias.length + 8 ≤ maxLen) : Fn1 Tryz.prog 37 [P.av, oav o] (.bool (arg1 P o && uok o)) := by
  have e0 : P.av = .agg [.list (P.progs.map gav), .list (P.enums.map eav)] := rfl
  have n1 : decide ((o.alias.length : Int) > 4096) = !decide ((o.alias.length : Int) ≤ 4096) := (by rw [Bool.eq_iff_iff]; simp only [decide_eq_true_eq, Bool.not_eq_true', decide_eq_false_iff_not, Bool.and_eq_true, Bool.or_eq_true, beq_iff_eq, bne_iff_ne, ne_eq]; omega)
  have n2 : decide (o.card < 1) = !decide (o.card ≥ 1) := (by rw [Bool.eq_iff_iff]; simp only [decide_eq_true_eq, Bool.not_eq_true', decide_eq_false_iff_not, Bool.and_eq_true, Bool.or_eq_true, beq_iff_eq, bne_iff_ne, ne_eq]; omega)
  have n3 : decide (o.card > 5) = !decide (o.card ≤ 5) := (by rw [Bool.eq_iff_iff]; simp only [decide_eq_true_eq, Bool.not_eq_true', decide_eq_false_iff_not, Bool.and_eq_true, Bool.or_eq_true, beq_iff_eq, bne_iff_ne, ne_eq]; omega)
  have n4 : decide (o.kind < 1) = !decide (o.kind ≥ 1) := (by rw [Bool.eq_iff_iff]; simp only [decide_eq_true_eq, Bool.not_eq_true', decide_eq_false_iff_not, Bool.and_eq_true, Bool.or_eq_true, beq_iff_eq, bne_iff_ne, ne_eq]; omega)
  have n5 : decide (o.kind > 10) = !decide (o.kind ≤ 10) := (by rw [Bool.eq_iff_iff]; simp only [decide_eq_true_eq, Bool.not_eq_true', decide_eq_false_iff_not, Bool.and_eq_true, Bool.or_eq_true, beq_iff_eq, bne_iff_ne, ne_eq]; omega)
  have ht : Fn1 Tryz.prog 64 [.agg [.list (P.progs.map gav), .list (P.enums.map eav)], oav o] (.bool (aimR P o)) := z64 P o
  have hk1 : o.card ≠ 5 → key o = (o.key == 0) := fun h => by unfold key; rw [if_neg h]
  have hk2 : o.card = 5 → key o = ((decide (o.key ≥ 1) && decide (o.key ≤ 5)) || o.key == 7) := fun h => by
    unfold key
    rw [if_pos h, Bool.eq_iff_iff]
    simp only [Bool.and_eq_true, Bool.or_eq_true, decide_eq_true_eq, beq_iff_eq, bne_iff_ne, ne_eq]
    omega
  have hu : uok o = (o.union == -1 || o.card == 2) := rfl
  simp only [oav, PO.cells] at ht
  rw [opr_eq]
  refine k37.fn (by simp) ?_
  simp only [g37_0, g37_1, g37_2, g37_3, g37_4, g37_5, r37, o37, e0, oav, PO.cells, n1, n2, n3, n4, n5, eES, eEX, seval]
  refine aops_call (c63 o.alias ha) rfl rfl rfl (.inl rfl) ?_
  cases vld o.alias
  · simp only [Bool.not_false, Bool.false_and, eES, eEX, seval]
  cases a1 : decide ((o.alias.length : Int) ≤ 4096)
  · simp only [Bool.not_true, Bool.not_false, Bool.true_and, n1, a1, Bool.false_and, eES, eEX, seval]
  cases a2 : decide (o.card ≥ 1)
  · simp only [Bool.not_true, Bool.not_false, Bool.true_and, n1, n2, a1, a2, Bool.false_and, eES, eEX, seval]
  cases a3 : decide (o.card ≤ 5)
  · simp only [Bool.not_true, Bool.not_false, Bool.true_and, n1, n2, n3, a1, a2, a3, Bool.false_and, eES, eEX, seval]
  cases a4 : decide (o.kind ≥ 1)
  · simp only [Bool.not_true, Bool.not_false, Bool.true_and, n1, n2, n3, n4, a1, a2, a3, a4, Bool.false_and, eES, eEX, seval]
  cases a5 : decide (o.kind ≤ 10)
  · simp only [Bool.not_true, Bool.not_false, Bool.true_and, n1, n2, n3, n4, n5, a1, a2, a3, a4, a5, Bool.false_and, eES, eEX, seval]
  have fin : ∀ (f : Fr) (fr : Nat → Ob) (kb : Bool), kb = key o → f 2 = .ptr 0 2 0 → fr 2 = .cells [.list (P.progs.map gav), .list (P.enums.map eav)] → f 3 = .ptr 0 3 0 → fr 3 = .cells [.int .i64 o.num, .str o.name, .str o.alias, .int .i64 o.card, .int .i64 o.key, .int .i64 o.kind, .int .i64 o.target, .int .i64 o.union] → f 5 = .bool kb →
      aops Tryz.prog g37_6 ⟨f, [fr], []⟩ (Kc Tryz.prog .ret (AEnds [.tmp 4] 0 fun x _ => x = .bool (key o && aimR P o && uok o)) .normal) := by
    intro f fr kb hkb h2 m2 h3 m3 h5
    subst hkb
    simp only [g37_6, h2, m2, h3, m3, h5, eES, eEX, seval]
    cases key o
    · simp only [h2, m2, h3, m3, h5, Bool.false_and, eES, eEX, seval]
    simp only [h2, m2, h3, m3, h5, Bool.true_and, eES, eEX, seval]
    refine aops_call ht rfl rfl rfl (.inl rfl) ?_
    cases aimR P o
    · simp only [h2, m2, h3, m3, h5, Bool.false_and, eES, eEX, seval]
    rw [hu]
    cases c1 : (o.union == -1) <;> simp only [h2, m2, h3, m3, h5, c1, Bool.true_and, Bool.true_or, Bool.false_or, eES, eEX, seval]
  by_cases h5 : o.card = 5
  · have b5 : (o.card != 5) = false := by simp [h5]
    have hk := hk2 h5
    simp only [Bool.not_true, Bool.not_false, Bool.true_and, n1, n2, n3, n4, n5, a1, a2, a3, a4, a5, b5, g37_3, g37_4, eES, eEX, seval]
    cases c1 : decide (o.key ≥ 1) <;> cases c2 : decide (o.key ≤ 5) <;> cases c3 : (o.key == 7) <;> simp only [c1, c2, c3, b5, eES, eEX, seval]
    all_goals
      rw [c1, c2, c3] at hk
      exact fin _ _ _ hk.symm (by first | rfl | simp only [eES, eEX, seval]) (by first | rfl | simp only [eES, eEX, seval]) (by first | rfl | simp only [eES, eEX, seval]) (by first | rfl | simp only [eES, eEX, seval]) (by first | rfl | simp only [eES, eEX, seval])
  · have b5 : (o.card != 5) = true := by simp [h5]
    have hk := hk1 h5
    simp only [Bool.not_true, Bool.not_false, Bool.true_and, n1, n2, n3, n4, n5, a1, a2, a3, a4, a5, b5, g37_3, g37_4, eES, eEX, seval]
    cases c1 : decide (o.key ≥ 1) <;> cases c2 : decide (o.key ≤ 5) <;> cases c3 : (o.key == 7) <;> simp only [c1, c2, c3, b5, g37_5, eES, eEX, seval]
    all_goals exact fin _ _ _ hk.symm (by first | rfl | simp only [eES, eEX, seval]) (by first | rfl | simp only [eES, eEX, seval]) (by first | rfl | simp only [eES, eEX, seval]) (by first | rfl | simp only [eES, eEX, seval]) (by first | rfl | simp only [eES, eEX, seval])

end

end Go.Proofs.YtdgbidbkcigkhaaGreatDoor.Va

set_option linter.unusedSimpArgs false
namespace Go.Proofs.YtdgbidbkcigkhaaGreatDoor.Va
open Go Am Rc Bt Br

def JoI (g : PG) (k : Nat) (st : St) : Prop :=
  ∃ f fr i n b, st = ⟨f, [fr], []⟩ ∧ k = g.ops.length - i ∧ joinU g.ops 0 (-1) = joinU (g.ops.drop i) n b ∧ 0 ≤ n ∧ n ≤ (i : Int) ∧ ((i = 0 ∧ b = -1) ∨ ∃ j o, i = j + 1 ∧ g.ops[j]? = some o ∧ b = o.union) ∧ f 1 = .ptr 0 1 0 ∧ f 3 = .int .i64 n ∧ f 4 = .int .i64 (i : Nat) ∧ fr 1 = .cells g.cells

theorem z36 (g : PG) (hl : g.ops.length ≤ 9223372036854775000) : Fn1 Tryz.prog 36 [gav g] (.bool (uniB g)) := by
  refine wF Tryz.func36 ?_; simp only [eK, Tryz.f36, seval]
  simp only [gav, PG.cells, eES, eEX, seval]
  refine awp_loop (JoI g) _ ⟨_, _, 0, 0, -1, rfl, rfl, rfl, by decide, by decide, .inl ⟨rfl, rfl⟩, (by first | rfl | simp only [eES, eEX, seval]), (by first | rfl | simp only [eES, eEX, seval]), (by first | rfl | simp only [eES, eEX, seval]), (by first | rfl | simp only [eES, eEX, seval])⟩ ?_
  rintro _ st ⟨f, fr, i, n, b, rfl, rfl, hj, hn0, hni, hb, h1, h3, h4, m1⟩
  simp only [PG.cells] at m1
  simp only [List.length_map, h1, h3, h4, m1, eES, eEX, seval]
  by_cases hlt : i < g.ops.length
  · obtain ⟨o, hi⟩ : ∃ o, g.ops[i]? = some o := ⟨g.ops[i], List.getElem?_eq_getElem hlt⟩
    have hg : (g.ops.map fun o => AV.agg o.cells)[i]? = some (.agg o.cells) := by simp [hi]
    have e1 := wi64_s i _ hlt (by simp only [maxLen]; omega)
    have en : IntKind.i64.wrap (n + 1) = n + 1 := by rw [wi64]; omega
    rw [joinU_drop hi] at hj
    have fin : ∀ (f' : Fr) (n' : Int), (if o.union = n then n' = n + 1 else n' = n) → joinU g.ops 0 (-1) = joinU (g.ops.drop (i + 1)) n' o.union → f' 1 = .ptr 0 1 0 → f' 3 = .int .i64 n' → f' 4 = .int .i64 ((i + 1 : Nat) : Int) → ∃ k, k < g.ops.length - i ∧ JoI g k ⟨f', [fr], []⟩ := by
      intro f' n' a c d e f4
      refine ⟨g.ops.length - (i + 1), by omega, f', fr, i + 1, n', o.union, rfl, rfl, c, ?_, ?_, .inr ⟨i, o, rfl, hi, rfl⟩, d, e, f4, m1⟩ <;> split at a <;> omega
    simp only [PO.cells] at hg
    simp only [lt_t hlt, nneg, Int.toNat_natCast, aiaddr, hg, PO.cells, h1, h3, h4, m1, eES, eEX, seval]
    by_cases a1 : o.union = n
    · have b1 : (o.union == n) = true := by simp [a1]
      rw [if_pos a1, ← a1] at hj
      simp only [b1, h1, h3, h4, en, e1, eES, eEX, seval]
      exact fin _ (n + 1) (by rw [if_pos a1]) (by rw [hj, a1]) (by first | rfl | exact h1 | simp only [h1, eES, eEX, seval]) (by first | rfl | simp only [eES, eEX, seval]) (by first | rfl | simp only [eES, eEX, seval])
    have b1 : (o.union == n) = false := by simp [a1]
    rw [if_neg a1] at hj
    by_cases a2 : o.union = -1
    · have b2 : (o.union != -1) = false := by simp [a2]
      rw [if_pos (.inl a2)] at hj
      simp only [b1, b2, h1, h3, h4, e1, eES, eEX, seval]
      exact fin _ n (by rw [if_neg a1]) hj (by first | rfl | exact h1 | simp only [h1, eES, eEX, seval]) (by first | rfl | exact h3 | simp only [h3, eES, eEX, seval]) (by first | rfl | simp only [eES, eEX, seval])
    have b2 : (o.union != -1) = true := by simp [a2]
    rcases hb with ⟨rfl, rfl⟩ | ⟨j, p, rfl, hjp, rfl⟩
    · have b3 : (((0 : Nat) : Int) == 0) = true := rfl
      rw [if_neg (by omega)] at hj
      have hun : uniB g = false := by unfold uniB; rw [hj]
      simp only [b1, b2, b3, h1, h3, h4, hun, eES, eEX, seval]
    · have b3 : (((j + 1 : Nat) : Int) == 0) = false := by rw [beq_eq_false_iff_ne]; omega
      have hgj : (g.ops.map fun o => AV.agg o.cells)[j]? = some (.agg p.cells) := by simp [hjp]
      have e2 := wp64 j _ hlt (by simp only [maxLen]; omega)
      simp only [PO.cells] at hgj
      by_cases a4 : o.union = p.union
      · have b4 : (p.union != o.union) = false := by simp [a4]
        rw [if_pos (.inr a4)] at hj
        simp only [b1, b2, b3, b4, e2, nneg, Int.toNat_natCast, aiaddr, hgj, PO.cells, h1, h3, h4, m1, e1, eES, eEX, seval]
        exact fin _ n (by rw [if_neg a1]) hj (by first | rfl | exact h1 | simp only [h1, eES, eEX, seval]) (by first | rfl | exact h3 | simp only [h3, eES, eEX, seval]) (by first | rfl | simp only [eES, eEX, seval])
      · have b4 : (p.union != o.union) = true := by simp; exact fun h => a4 h.symm
        rw [if_neg (by omega)] at hj
        have hun : uniB g = false := by unfold uniB; rw [hj]
        simp only [b1, b2, b3, b4, e2, nneg, Int.toNat_natCast, aiaddr, hgj, PO.cells, h1, h3, h4, m1, hun, eES, eEX, seval]
  · rw [List.drop_of_length_le (by omega)] at hj
    have hun : uniB g = (g.unions == n) := by unfold uniB; rw [hj]; rfl
    simp only [lt_f hlt, h1, h3, h4, m1, hun, eES, eEX, seval]

section
variable {M : Nat} (hM : M ≤ 140737488351232) (P : PL) (hP : P.ok M) (fr : Nat → Ob) (m1 : fr 1 = .cells (Pc P)) (f : Fr) (b : Bool) (h1 : f 1 = .ptr 0 1 0) (h3 : f 3 = .bool b) (Q : Exit → St → Prop)
include hM hP m1 h1 h3

theorem argi (j : Nat) (x : PE) (hj : P.enums[j]? = some x) (ha : f 4 = .int .i64 (j : Nat)) (hc : f 5 = .int .i64 0) (hx : ∀ f, f 1 = .ptr 0 1 0 → f 3 = .bool (b && x.items.all nte) → f 4 = .int .i64 (j : Nat) → Q (.exit 2) (⟨f, [fr], []⟩ : St)) : awp Tryz.prog (.loop l23_0) ⟨f, [fr], []⟩ Q := by
  let I : Nat → St → Prop := fun k st => ∃ f i, st = ⟨f, [fr], []⟩ ∧ k = x.items.length - i ∧ i ≤ x.items.length ∧ f 1 = .ptr 0 1 0 ∧ f 3 = .bool (b && (x.items.take i).all nte) ∧ f 4 = .int .i64 (j : Nat) ∧ f 5 = .int .i64 (i : Nat)
  have hjm : (P.enums.map eav)[j]? = some (.agg x.cells) := by simp [hj, eav]
  have hxo := hP.enums x (List.mem_of_getElem? hj)
  have z0 : (0 ≤ (0 : Int)) = True := by simp
  have z1 : Int.toNat 0 = 0 := rfl
  refine awp_loop I _ ⟨f, 0, rfl, rfl, Nat.zero_le _, h1, by rw [h3]; simp, ha, hc⟩ ?_
  clear h1 h3 ha hc
  simp only [Pc] at m1
  simp only [PE.cells] at hjm
  rintro _ st ⟨f, i, rfl, rfl, hi, h1, h3, ha, hc⟩
  simp only [nneg, Int.toNat_natCast, aiaddr, hjm, List.length_map, h1, m1, h3, ha, hc, eES, eEX, seval]
  by_cases hlt : i < x.items.length
  · obtain ⟨o, hg⟩ : ∃ o, x.items[i]? = some o := ⟨x.items[i], List.getElem?_eq_getElem hlt⟩
    have hgm : (x.items.map fun o => AV.agg o.cells)[i]? = some (.agg o.cells) := by simp [hg]
    have e1 := wi64_s i _ hlt hxo.len1
    have ho := hxo.items o (List.mem_of_getElem? hg)
    have ht := take_all (q := nte) hg
    have fin : ∀ f' : Fr, f' 1 = .ptr 0 1 0 → f' 3 = .bool ((b && (x.items.take i).all nte) && nte o) → f' 4 = .int .i64 (j : Nat) → f' 5 = .int .i64 ((i + 1 : Nat) : Int) → ∃ k, k < x.items.length - i ∧ I k ⟨f', [fr], []⟩ := by
      intro f' a1 a3 a4 a5
      exact ⟨x.items.length - (i + 1), by omega, f', i + 1, rfl, rfl, by omega, a1, by rw [a3, ht, Bool.and_assoc], a4, a5⟩
    simp only [PI.cells] at hgm
    cases hb : (b && (x.items.take i).all nte)
    · rw [hb] at fin h3
      simp only [lt_t hlt, nneg, Int.toNat_natCast, aiaddr, hjm, hgm, PI.cells, h1, m1, h3, ha, hc, e1, eES, eEX, seval]
      exact fin _ (by first | rfl | exact h1 | simp only [h1, eES, eEX, seval]) (by first | rfl | simp only [eES, eEX, seval]) (by first | rfl | exact ha | simp only [ha, eES, eEX, seval]) (by first | rfl | simp only [eES, eEX, seval])
    · rw [hb, Bool.true_and] at fin
      rw [hb] at h3
      rcases hn : o.notes with _ | ⟨n, _ | ⟨n2, ns⟩⟩
      · have c0 : (((0 : Nat) : Int) == 0) = true := rfl
        have e : nte o = true := by unfold nte; rw [hn]
        rw [e] at fin
        rw [hn] at hgm
        simp only [lt_t hlt, nneg, Int.toNat_natCast, aiaddr, hjm, hgm, PI.cells, List.map_nil, List.length_nil, c0, h1, m1, h3, ha, hc, e1, eES, eEX, seval]
        exact fin _ (by first | rfl | exact h1 | simp only [h1, eES, eEX, seval]) (by first | rfl | simp only [eES, eEX, seval]) (by first | rfl | exact ha | simp only [ha, eES, eEX, seval]) (by first | rfl | simp only [eES, eEX, seval])
      · obtain ⟨kd, b', t, l, p, s, r, hv, htl, h3', h4', h5', h6'⟩ := v0_of (ho.notes n (by rw [hn]; simp)) hM
        have c0 : (((1 : Nat) : Int) == 0) = false := rfl
        have c1 : (((1 : Nat) : Int) == 1) = true := rfl
        have e : nte o = (n.name == alias && fitv 7 kd b' t l p s r) := by
          unfold nte
          rw [hn]
          show (n.name == alias && nok n.val) = _
          rw [hv]
          rfl
        have en : elemV n.cells = .agg [.str n.name, .int .i64 kd, .int .u64 ((b' : Nat) : Int), .str t, .list l, .list p, .list s, .list r] := by
          rw [PN.cells, hv]; rfl
        have hne : (n.name == [97, 108, 105, 97, 115]) = (n.name == alias) := rfl
        have hck := z35 kd b' t l p s r (by simp only [maxLen]; omega)
        simp only [nv] at hck
        rw [e] at fin
        rw [hn] at hgm
        simp only [List.map_cons, List.map_nil, en] at hgm
        simp only [lt_t hlt, nneg, Int.toNat_natCast, aiaddr, hjm, hgm, PI.cells, List.length_cons, List.length_nil, Nat.zero_add, c0, c1, z0, z1, List.getElem?_cons_zero, astr, hne, h1, m1, h3, ha, hc, e1, eES, eEX, seval]
        by_cases hal : n.name = alias
        · have b0 : (n.name == alias) = true := by simp [hal]
          rw [← hal] at hck
          rw [b0, Bool.true_and] at fin
          simp only [b0, h1, m1, h3, ha, hc, e1, eES, eEX, seval]
          refine aops_call hck rfl rfl rfl (.inl rfl) ?_
          cases hfv : fitv 7 kd b' t l p s r
          · rw [hfv] at fin
            have d0 : ((12 : Int) == 0) = false := rfl
            simp only [Bool.false_eq_true, if_false, d0, h1, m1, h3, ha, hc, e1, eES, eEX, seval]
            exact fin _ (by first | rfl | exact h1 | simp only [h1, eES, eEX, seval]) (by first | rfl | simp only [eES, eEX, seval]) (by first | rfl | exact ha | simp only [ha, eES, eEX, seval]) (by first | rfl | simp only [eES, eEX, seval])
          · rw [hfv] at fin
            have d0 : ((0 : Int) == 0) = true := rfl
            simp only [if_true, d0, h1, m1, h3, ha, hc, e1, eES, eEX, seval]
            exact fin _ (by first | rfl | exact h1 | simp only [h1, eES, eEX, seval]) (by first | rfl | simp only [eES, eEX, seval]) (by first | rfl | exact ha | simp only [ha, eES, eEX, seval]) (by first | rfl | simp only [eES, eEX, seval])
        · have b0 : (n.name == alias) = false := by simp [hal]
          rw [b0, Bool.false_and] at fin
          simp only [b0, h1, m1, h3, ha, hc, e1, eES, eEX, seval]
          exact fin _ (by first | rfl | exact h1 | simp only [h1, eES, eEX, seval]) (by first | rfl | simp only [eES, eEX, seval]) (by first | rfl | exact ha | simp only [ha, eES, eEX, seval]) (by first | rfl | simp only [eES, eEX, seval])
      · have c0 : ((((ns.length + 1 + 1 : Nat)) : Int) == 0) = false := by rw [beq_eq_false_iff_ne]; omega
        have c1 : ((((ns.length + 1 + 1 : Nat)) : Int) == 1) = false := by rw [beq_eq_false_iff_ne]; omega
        have e : nte o = false := by unfold nte; rw [hn]
        rw [e] at fin
        rw [hn] at hgm
        simp only [List.map_cons] at hgm
        simp only [lt_t hlt, nneg, Int.toNat_natCast, aiaddr, hjm, hgm, PI.cells, List.length_cons, List.length_map, c0, c1, h1, m1, h3, ha, hc, e1, eES, eEX, seval]
        exact fin _ (by first | rfl | exact h1 | simp only [h1, eES, eEX, seval]) (by first | rfl | simp only [eES, eEX, seval]) (by first | rfl | exact ha | simp only [ha, eES, eEX, seval]) (by first | rfl | simp only [eES, eEX, seval])
  · have hf : (x.items.take i).all nte = x.items.all nte := by rw [List.take_of_length_le (by omega)]
    rw [hf] at h3
    simp only [lt_f hlt, h1, m1, h3, ha, hc, eES, eEX, seval]
    exact hx _ (by first | rfl | exact h1 | simp only [h1, eES, eEX, seval]) (by first | rfl | exact h3 | simp only [h3, eES, eEX, seval]) (by first | rfl | exact ha | simp only [ha, eES, eEX, seval])

theorem argo (ha : f 4 = .int .i64 0) (hx : ∀ f, f 1 = .ptr 0 1 0 → f 3 = .bool (b && P.enums.all argE) → Q (.exit 0) (⟨f, [fr], []⟩ : St)) : awp Tryz.prog (.loop l23_1) ⟨f, [fr], []⟩ Q := by
  let I : Nat → St → Prop := fun k st => ∃ f i, st = ⟨f, [fr], []⟩ ∧ k = P.enums.length - i ∧ i ≤ P.enums.length ∧ f 1 = .ptr 0 1 0 ∧ f 3 = .bool (b && (P.enums.take i).all argE) ∧ f 4 = .int .i64 (i : Nat)
  have m1' := m1
  refine awp_loop I _ ⟨f, 0, rfl, rfl, Nat.zero_le _, h1, by rw [h3]; simp, ha⟩ ?_
  clear h1 h3 ha
  simp only [Pc] at m1
  rintro _ st ⟨f, i, rfl, rfl, hi, h1, h3, ha⟩
  simp only [List.length_map, h1, m1, h3, ha, eES, eEX, seval]
  by_cases hlt : i < P.enums.length
  · obtain ⟨x, hg⟩ : ∃ x, P.enums[i]? = some x := ⟨P.enums[i], List.getElem?_eq_getElem hlt⟩
    have hgm : (P.enums.map eav)[i]? = some (.agg x.cells) := by simp [hg, eav]
    have e1 := wi64_s i _ hlt hP.len2
    have ht := take_all (q := argE) hg
    have hq : argE x = (x.notes.isEmpty && x.items.all nte) := rfl
    have hie : ((x.notes.length : Int) == 0) = x.notes.isEmpty := by
      cases x.notes with
      | nil => rfl
      | cons a l => simp; omega
    have fin : ∀ f' : Fr, f' 1 = .ptr 0 1 0 → f' 3 = .bool (((b && (P.enums.take i).all argE) && x.notes.isEmpty) && x.items.all nte) → f' 4 = .int .i64 ((i + 1 : Nat) : Int) → ∃ k, k < P.enums.length - i ∧ I k ⟨f', [fr], []⟩ := by
      intro f' a1 a3 a4
      exact ⟨P.enums.length - (i + 1), by omega, f', i + 1, rfl, rfl, by omega, a1, by rw [a3, ht, hq, Bool.and_assoc, Bool.and_assoc], a4⟩
    simp only [PE.cells] at hgm
    cases hb : (b && (P.enums.take i).all argE)
    · rw [hb, Bool.false_and] at fin
      rw [hb] at h3
      simp only [lt_t hlt, nneg, Int.toNat_natCast, aiaddr, hgm, List.length_map, hie, h1, m1, h3, ha, e1, eES, eEX, seval]
      refine argi hM P hP fr m1' _ false (by first | rfl | exact h1 | simp only [h1, eES, eEX, seval]) (by first | rfl | simp only [eES, eEX, seval]) _ i x hg (by first | rfl | exact ha | simp only [ha, eES, eEX, seval]) (by first | rfl | simp only [eES, eEX, seval]) (fun f h1 h3 ha => ?_)
      simp only [h1, m1, h3, ha, e1, eES, eEX, seval]
      exact fin _ (by first | rfl | exact h1 | simp only [h1, eES, eEX, seval]) (by first | rfl | exact h3 | simp only [h3, eES, eEX, seval]) (by first | rfl | simp only [eES, eEX, seval])
    · rw [hb, Bool.true_and] at fin
      rw [hb] at h3
      simp only [lt_t hlt, nneg, Int.toNat_natCast, aiaddr, hgm, List.length_map, hie, h1, m1, h3, ha, e1, eES, eEX, seval]
      refine argi hM P hP fr m1' _ x.notes.isEmpty (by first | rfl | exact h1 | simp only [h1, eES, eEX, seval]) (by first | rfl | simp only [eES, eEX, seval]) _ i x hg (by first | rfl | exact ha | simp only [ha, eES, eEX, seval]) (by first | rfl | simp only [eES, eEX, seval]) (fun f h1 h3 ha => ?_)
      simp only [h1, m1, h3, ha, e1, eES, eEX, seval]
      exact fin _ (by first | rfl | exact h1 | simp only [h1, eES, eEX, seval]) (by first | rfl | exact h3 | simp only [h3, eES, eEX, seval]) (by first | rfl | simp only [eES, eEX, seval])
  · have hf : (P.enums.take i).all argE = P.enums.all argE := by rw [List.take_of_length_le (by omega)]
    rw [hf] at h3
    simp only [lt_f hlt, List.length_map, h1, m1, h3, ha, eES, eEX, seval]
    exact hx _ (by first | rfl | exact h1 | simp only [h1, eES, eEX, seval]) (by first | rfl | exact h3 | simp only [h3, eES, eEX, seval])

theorem argp (j : Nat) (x : PG) (hj : P.progs[j]? = some x) (ha : f 7 = .int .i64 (j : Nat)) (hc : f 8 = .int .i64 0) (hx : ∀ f, f 1 = .ptr 0 1 0 → f 3 = .bool (b && x.ops.all fun o => arg1 P o && uok o) → f 7 = .int .i64 (j : Nat) → Q (.exit 6) (⟨f, [fr], []⟩ : St)) : awp Tryz.prog (.loop l23_2) ⟨f, [fr], []⟩ Q := by
  let I : Nat → St → Prop := fun k st => ∃ f i, st = ⟨f, [fr], []⟩ ∧ k = x.ops.length - i ∧ i ≤ x.ops.length ∧ f 1 = .ptr 0 1 0 ∧ f 3 = .bool (b && (x.ops.take i).all fun o => arg1 P o && uok o) ∧ f 7 = .int .i64 (j : Nat) ∧ f 8 = .int .i64 (i : Nat)
  have hjm : (P.progs.map gav)[j]? = some (.agg x.cells) := by simp [hj, gav]
  have hxo := hP.progs x (List.mem_of_getElem? hj)
  refine awp_loop I _ ⟨f, 0, rfl, rfl, Nat.zero_le _, h1, by rw [h3]; simp, ha, hc⟩ ?_
  clear h1 h3 ha hc
  simp only [Pc] at m1
  simp only [PG.cells] at hjm
  rintro _ st ⟨f, i, rfl, rfl, hi, h1, h3, ha, hc⟩
  simp only [nneg, Int.toNat_natCast, aiaddr, hjm, List.length_map, h1, m1, h3, ha, hc, eES, eEX, seval]
  by_cases hlt : i < x.ops.length
  · obtain ⟨o, hg⟩ : ∃ o, x.ops[i]? = some o := ⟨x.ops[i], List.getElem?_eq_getElem hlt⟩
    have hgm : (x.ops.map fun o => AV.agg o.cells)[i]? = some (.agg o.cells) := by simp [hg]
    have e1 := wi64_s i _ hlt hxo.len
    have hal : o.alias.length + 8 ≤ maxLen := by have := (hxo.ops o (List.mem_of_getElem? hg)).alias; simp only [maxLen]; omega
    have hop : Fn1 Tryz.prog 37 [.agg [.list (P.progs.map gav), .list (P.enums.map eav)], oav o] (.bool (arg1 P o && uok o)) := z37 P o hal
    have ht := take_all (q := fun o => arg1 P o && uok o) hg
    have fin : ∀ f' : Fr, f' 1 = .ptr 0 1 0 → f' 3 = .bool ((b && (x.ops.take i).all fun o => arg1 P o && uok o) && (arg1 P o && uok o)) → f' 7 = .int .i64 (j : Nat) → f' 8 = .int .i64 ((i + 1 : Nat) : Int) → ∃ k, k < x.ops.length - i ∧ I k ⟨f', [fr], []⟩ := by
      intro f' a1 a3 a4 a5
      exact ⟨x.ops.length - (i + 1), by omega, f', i + 1, rfl, rfl, by omega, a1, by rw [a3, ht, Bool.and_assoc], a4, a5⟩
    simp only [oav, PO.cells] at hgm hop
    cases hb : (b && (x.ops.take i).all fun o => arg1 P o && uok o)
    · rw [hb] at fin h3
      simp only [lt_t hlt, nneg, Int.toNat_natCast, aiaddr, hjm, hgm, PO.cells, h1, m1, h3, ha, hc, e1, eES, eEX, seval]
      exact fin _ (by first | rfl | exact h1 | simp only [h1, eES, eEX, seval]) (by first | rfl | simp only [eES, eEX, seval]) (by first | rfl | exact ha | simp only [ha, eES, eEX, seval]) (by first | rfl | simp only [eES, eEX, seval])
    · rw [hb, Bool.true_and] at fin
      rw [hb] at h3
      simp only [lt_t hlt, nneg, Int.toNat_natCast, aiaddr, hjm, hgm, PO.cells, h1, m1, h3, ha, hc, e1, eES, eEX, seval]
      refine aops_call hop rfl rfl rfl (.inl rfl) ?_
      simp only [h1, m1, h3, ha, hc, e1, eES, eEX, seval]
      exact fin _ (by first | rfl | exact h1 | simp only [h1, eES, eEX, seval]) (by first | rfl | simp only [eES, eEX, seval]) (by first | rfl | exact ha | simp only [ha, eES, eEX, seval]) (by first | rfl | simp only [eES, eEX, seval])
  · have hf : (x.ops.take i).all (fun o => arg1 P o && uok o) = x.ops.all fun o => arg1 P o && uok o := by rw [List.take_of_length_le (by omega)]
    rw [hf] at h3
    simp only [lt_f hlt, h1, m1, h3, ha, hc, eES, eEX, seval]
    exact hx _ (by first | rfl | exact h1 | simp only [h1, eES, eEX, seval]) (by first | rfl | exact h3 | simp only [h3, eES, eEX, seval]) (by first | rfl | exact ha | simp only [ha, eES, eEX, seval])

theorem argP (hl : ∀ g ∈ P.progs, g.ops.length ≤ 64) (ha : f 7 = .int .i64 0) (hx : ∀ f, f 1 = .ptr 0 1 0 → f 3 = .bool (b && P.progs.all (argG P)) → Q (.exit 4) (⟨f, [fr], []⟩ : St)) : awp Tryz.prog (.loop l23_3) ⟨f, [fr], []⟩ Q := by
  let I : Nat → St → Prop := fun k st => ∃ f i, st = ⟨f, [fr], []⟩ ∧ k = P.progs.length - i ∧ i ≤ P.progs.length ∧ f 1 = .ptr 0 1 0 ∧ f 3 = .bool (b && (P.progs.take i).all (argG P)) ∧ f 7 = .int .i64 (i : Nat)
  have m1' := m1
  refine awp_loop I _ ⟨f, 0, rfl, rfl, Nat.zero_le _, h1, by rw [h3]; simp, ha⟩ ?_
  clear h1 h3 ha
  simp only [Pc] at m1
  rintro _ st ⟨f, i, rfl, rfl, hi, h1, h3, ha⟩
  simp only [List.length_map, h1, m1, h3, ha, eES, eEX, seval]
  by_cases hlt : i < P.progs.length
  · obtain ⟨x, hg⟩ : ∃ x, P.progs[i]? = some x := ⟨P.progs[i], List.getElem?_eq_getElem hlt⟩
    have hgm : (P.progs.map gav)[i]? = some (.agg x.cells) := by simp [hg, gav]
    have e1 := wi64_s i _ hlt hP.len1
    have ht := take_all (q := argG P) hg
    have hq : argG P x = (uniB x && x.ops.all fun o => arg1 P o && uok o) := rfl
    have hjo := z36 x (Nat.le_trans (hl x (List.mem_of_getElem? hg)) (by decide))
    have fin : ∀ f' : Fr, f' 1 = .ptr 0 1 0 → f' 3 = .bool (((b && (P.progs.take i).all (argG P)) && uniB x) && x.ops.all fun o => arg1 P o && uok o) → f' 7 = .int .i64 ((i + 1 : Nat) : Int) → ∃ k, k < P.progs.length - i ∧ I k ⟨f', [fr], []⟩ := by
      intro f' a1 a3 a4
      exact ⟨P.progs.length - (i + 1), by omega, f', i + 1, rfl, rfl, by omega, a1, by rw [a3, ht, hq, Bool.and_assoc, Bool.and_assoc], a4⟩
    simp only [gav, PG.cells] at hgm hjo
    cases hb : (b && (P.progs.take i).all (argG P))
    · rw [hb, Bool.false_and] at fin
      rw [hb] at h3
      simp only [lt_t hlt, nneg, Int.toNat_natCast, aiaddr, hgm, gav, PG.cells, h1, m1, h3, ha, e1, eES, eEX, seval]
      refine argp hM P hP fr m1' _ false (by first | rfl | exact h1 | simp only [h1, eES, eEX, seval]) (by first | rfl | simp only [eES, eEX, seval]) _ i x hg (by first | rfl | exact ha | simp only [ha, eES, eEX, seval]) (by first | rfl | simp only [eES, eEX, seval]) (fun f h1 h3 ha => ?_)
      simp only [h1, m1, h3, ha, e1, eES, eEX, seval]
      exact fin _ (by first | rfl | exact h1 | simp only [h1, eES, eEX, seval]) (by first | rfl | exact h3 | simp only [h3, eES, eEX, seval]) (by first | rfl | simp only [eES, eEX, seval])
    · rw [hb, Bool.true_and] at fin
      rw [hb] at h3
      simp only [lt_t hlt, nneg, Int.toNat_natCast, aiaddr, hgm, gav, PG.cells, h1, m1, h3, ha, e1, eES, eEX, seval]
      refine aops_call hjo rfl rfl rfl (.inl rfl) ?_
      simp only [h1, m1, h3, ha, e1, eES, eEX, seval]
      refine argp hM P hP fr m1' _ (uniB x) (by first | rfl | exact h1 | simp only [h1, eES, eEX, seval]) (by first | rfl | simp only [eES, eEX, seval]) _ i x hg (by first | rfl | exact ha | simp only [ha, eES, eEX, seval]) (by first | rfl | simp only [eES, eEX, seval]) (fun f h1 h3 ha => ?_)
      simp only [h1, m1, h3, ha, e1, eES, eEX, seval]
      exact fin _ (by first | rfl | exact h1 | simp only [h1, eES, eEX, seval]) (by first | rfl | exact h3 | simp only [h3, eES, eEX, seval]) (by first | rfl | simp only [eES, eEX, seval])
  · have hf : (P.progs.take i).all (argG P) = P.progs.all (argG P) := by rw [List.take_of_length_le (by omega)]
    rw [hf] at h3
    simp only [lt_f hlt, List.length_map, h1, m1, h3, ha, eES, eEX, seval]
    exact hx _ (by first | rfl | exact h1 | simp only [h1, eES, eEX, seval]) (by first | rfl | exact h3 | simp only [h3, eES, eEX, seval])

end

theorem z23 {M : Nat} (hM : M ≤ 140737488351232) (P : PL) (hP : P.ok M) (hl : ∀ g ∈ P.progs, g.ops.length ≤ 64) : Fn1 Tryz.prog 23 [P.av] (.bool (args P)) := by
  have e0 : P.av = .agg [.list (P.progs.map gav), .list (P.enums.map eav)] := rfl
  have e : args P = (P.enums.all argE && P.progs.all (argG P)) := Bool.and_comm _ _
  refine k23.fn (by simp) ?_
  simp only [e0, eES, eEX, seval]
  refine argo hM P hP _ (by first | rfl | simp only [eES, eEX, seval]) _ true (by first | rfl | simp only [eES, eEX, seval]) (by first | rfl | simp only [eES, eEX, seval]) _ (by first | rfl | simp only [eES, eEX, seval]) (fun f h1 h3 => ?_)
  simp only [h1, h3, eES, eEX, seval]
  refine argP hM P hP _ (by first | rfl | simp only [eES, eEX, seval]) _ _ (by first | rfl | exact h1 | simp only [h1, eES, eEX, seval]) (by first | rfl | exact h3 | simp only [h3, eES, eEX, seval]) _ hl (by first | rfl | simp only [eES, eEX, seval]) (fun f h1 h3 => ?_)
  simp only [h1, h3, e, Bool.true_and, eES, eEX, seval]

end Go.Proofs.YtdgbidbkcigkhaaGreatDoor.Va

/- Parts of the proof, in order. -/
import Derived.Lib.SmallJoins
import Derived.Deep.Slices
import Derived.DataShut
import Derived.Test.YtcmdlmcmefbkeaaMUnknownLists3

/- A row that is sorted: two ranges merged. -/
set_option linter.unusedSimpArgs false
namespace Go.Proofs.Ytcmdlmcmefbkeaa.Ta
open Go Am Rc Bt So

variable {E : AV → Prop}

/-- .. as a callee's frame sees it: rotating. -/
theorem ro_call (cmp : AV) {fr : Nat → Ob} {lv s g N a b n : Nat} (P X Y S : List AV) {m : Mem} (hlv : lv < m.length) (hX : 0 < X.length) (hY : 0 < Y.length) (he : ∀ x ∈ P ++ X ++ Y ++ S, Ez E 4 x)
    (hn : (P ++ X ++ Y ++ S).length < 4611686018427387904) (hN : N = (P ++ X ++ Y ++ S).length) (ha : a = P.length) (hb : b = P.length + X.length) (hc : n = P.length + X.length + Y.length) :
    ACalls Try.prog 72 [.vec (lv + 1) s g 0 N false, .int .i64 (a : Nat), .int .i64 (b : Nat), .int .i64 (n : Nat), cmp] (fr :: Am.put m lv s (.vec g 4 (P ++ X ++ Y ++ S)))
      (fun x m1 => x = .tup [] ∧ m1 = fr :: Am.put m lv s (.vec g 4 (P ++ Y ++ X ++ S))) := by
  subst hN ha hb hc
  refine (c72 cmp (lv + 1) s g P X Y S (fr :: Am.put m lv s (.vec g 4 (P ++ X ++ Y ++ S))) (look_put_same (m := m) hlv) hX hY he hn).mono fun x m1 h => ⟨h.1, ?_⟩
  rw [h.2]
  simp only [Am.put, put_put]

/-- What merging does, of so many elements. -/
def SymOk (E : AV → Prop) (kc : Nat) (c : AV → AV → Int) (n : Nat) : Prop :=
  ∀ (lv s g : Nat) (P X Y S : List AV) (m : Mem), X.length + Y.length = n → 0 < X.length → 0 < Y.length → Am.look m lv s = .vec g 4 (P ++ X ++ Y ++ S) → (∀ x ∈ P ++ X ++ Y ++ S, Ez E 4 x) →
    (P ++ X ++ Y ++ S).length < 4611686018427387904 → Srt (lt c) X → Srt (lt c) Y →
    ACalls Try.prog 71 [.vec lv s g 0 (P ++ X ++ Y ++ S).length false, .int .i64 (P.length : Nat), .int .i64 ((P.length + X.length : Nat) : Int), .int .i64 ((P.length + X.length + Y.length : Nat) : Int), .fn (.func kc) [] []] m
      (fun v m1 => v = .tup [] ∧ m1 = Am.put m lv s (.vec g 4 (P ++ mg (lt c) X Y ++ S)))

theorem sym_call {kc : Nat} {c : AV → AV → Int} {n : Nat} (h : SymOk E kc c n) {fr : Nat → Ob} {lv s g N a b e : Nat} (P X Y S : List AV) {m : Mem} (hlv : lv < m.length) (hXY : X.length + Y.length = n) (hX : 0 < X.length) (hY : 0 < Y.length) (he : ∀ x ∈ P ++ X ++ Y ++ S, Ez E 4 x)
    (hn : (P ++ X ++ Y ++ S).length < 4611686018427387904) (sX : Srt (lt c) X) (sY : Srt (lt c) Y) (hN : N = (P ++ X ++ Y ++ S).length) (ha : a = P.length) (hb : b = P.length + X.length) (hc : e = P.length + X.length + Y.length) :
    ACalls Try.prog 71 [.vec (lv + 1) s g 0 N false, .int .i64 (a : Nat), .int .i64 (b : Nat), .int .i64 (e : Nat), .fn (.func kc) [] []] (fr :: Am.put m lv s (.vec g 4 (P ++ X ++ Y ++ S)))
      (fun x m1 => x = .tup [] ∧ m1 = fr :: Am.put m lv s (.vec g 4 (P ++ mg (lt c) X Y ++ S))) := by
  subst hN ha hb hc
  refine (h (lv + 1) s g P X Y S (fr :: Am.put m lv s (.vec g 4 (P ++ X ++ Y ++ S))) hXY hX hY (look_put_same (m := m) hlv) he hn sX sY).mono fun x m1 h => ⟨h.1, ?_⟩
  rw [h.2]
  simp only [Am.put, put_put]

/-- The search of the place where both fall in two. -/
def ScS (m : Mem) (lv s g N mid s0 r0 : Nat) (kc : Nat) (c : AV → AV → Int) (P X Y S : List AV) (k : Nat) (st : St) : Prop :=
  ∃ f i j, st = ⟨f, [noObs] ++ Am.put m lv s (.vec g 4 (P ++ X ++ Y ++ S)), []⟩ ∧ k = j - i ∧ s0 ≤ i ∧ i ≤ j ∧ j ≤ r0 ∧
    (∀ k x y, s0 ≤ k → k < i → X[k - P.length]? = some x → Y[mid - 1 - k]? = some y → lt c y x = false) ∧ (∀ k x y, j ≤ k → k < r0 → X[k - P.length]? = some x → Y[mid - 1 - k]? = some y → lt c y x = true) ∧
    f 0 = .vec (lv + 1) s g 0 N false ∧ f 1 = .int .i64 (P.length : Nat) ∧ f 2 = .int .i64 ((P.length + X.length : Nat) : Int) ∧ f 3 = .int .i64 ((P.length + X.length + Y.length : Nat) : Int) ∧ f 4 = .fn (.func kc) [] [] ∧
    f 18 = .int .i64 (mid : Nat) ∧ f 19 = .int .i64 ((mid + (P.length + X.length) : Nat) : Int) ∧ f 22 = .int .i64 ((mid + (P.length + X.length) - 1 : Nat) : Int) ∧ f 20 = .int .i64 (i : Nat) ∧ f 21 = .int .i64 (j : Nat)

theorem two_fall {c : AV → AV → Int} (hsw : SW (lt c)) {X Y : List AV} {p mid t : Nat} {s0 r0 : Nat} (sX : Srt (lt c) X) (sY : Srt (lt c) Y) (h1 : s0 ≤ t) (h2 : t ≤ r0) (hp : p ≤ t) (htm : t ≤ mid) (hr : r0 = mid ∨ r0 = p + X.length) (hs : mid - s0 ≥ Y.length ∨ s0 = p) (hs2 : mid - s0 ≤ Y.length) (hr2 : r0 ≤ p + X.length)
    (hlow : ∀ k x y, s0 ≤ k → k < t → X[k - p]? = some x → Y[mid - 1 - k]? = some y → lt c y x = false) (hhigh : ∀ k x y, t ≤ k → k < r0 → X[k - p]? = some x → Y[mid - 1 - k]? = some y → lt c y x = true) :
    mg (lt c) X Y = mg (lt c) (X.take (t - p)) (Y.take (mid - t)) ++ mg (lt c) (X.drop (t - p)) (Y.drop (mid - t)) := by
  have key := mg_split (lt := lt c) _ (X.take (t - p)) (Y.take (mid - t)) (X.drop (t - p)) (Y.drop (mid - t)) rfl ?_ ?_
  · rwa [List.take_append_drop, List.take_append_drop] at key
  · intro y hy x hx
    obtain ⟨k, hk⟩ := List.getElem?_of_mem hy
    obtain ⟨l, hl⟩ := List.getElem?_of_mem hx
    rw [List.getElem?_take] at hk
    split at hk
    · rename_i hkt
      rw [List.getElem?_drop] at hl
      have hlX : t - p + l < X.length := (List.getElem?_eq_some_iff.1 hl).1
      have hkY : k < Y.length := (List.getElem?_eq_some_iff.1 hk).1
      have htr : t < r0 := by rcases hr with h | h <;> omega
      by_cases hY2 : mid - 1 - t < Y.length
      · obtain ⟨x0, hx0⟩ : ∃ x, X[t - p]? = some x := ⟨_, List.getElem?_eq_getElem (by omega)⟩
        obtain ⟨y0, hy0⟩ : ∃ y, Y[mid - 1 - t]? = some y := ⟨_, List.getElem?_eq_getElem hY2⟩
        have h0 := hhigh t x0 y0 (Nat.le_refl _) htr hx0 hy0
        have h3 := srt_mono hsw sY (show k ≤ mid - 1 - t by omega) hk hy0 h0
        have h4 := srt_le sX hsw (show t - p ≤ t - p + l by omega) hx0 hl
        cases hb : lt c y x with
        | true => rfl
        | false =>
          have := hsw.nt y x x0 hb h4
          rw [h3] at this; cases this
      · exfalso
        omega
    · cases hk
  · intro x hx y hy
    obtain ⟨k, hk⟩ := List.getElem?_of_mem hy
    obtain ⟨l, hl⟩ := List.getElem?_of_mem hx
    rw [List.getElem?_take] at hl
    split at hl
    · rename_i hlt
      rw [List.getElem?_drop] at hk
      have hkY : mid - t + k < Y.length := (List.getElem?_eq_some_iff.1 hk).1
      have hlX : l < X.length := (List.getElem?_eq_some_iff.1 hl).1
      have hst : s0 < t := by rcases hs with h | h <;> omega
      by_cases hX2 : t - 1 - p < X.length
      · obtain ⟨x0, hx0⟩ : ∃ x, X[t - 1 - p]? = some x := ⟨_, List.getElem?_eq_getElem hX2⟩
        obtain ⟨y0, hy0⟩ : ∃ y, Y[mid - 1 - (t - 1)]? = some y := ⟨_, List.getElem?_eq_getElem (by omega)⟩
        have h0 := hlow (t - 1) x0 y0 (by omega) (by omega) hx0 hy0
        have h3 := srt_le sX hsw (show l ≤ t - 1 - p by omega) hl hx0
        have h4 : lt c y x0 = false := by
          cases hb : lt c y x0 with
          | false => rfl
          | true =>
            have := srt_mono hsw sY (show mid - 1 - (t - 1) ≤ mid - t + k by omega) hy0 hk hb
            rw [h0] at this; cases this
        exact hsw.nt y x0 x h4 h3
      · exfalso
        omega
    · cases hl

section
variable {kc : Nat} {c : AV → AV → Int} {nn lv s g N : Nat} {P X1 X2 Y1 Y2 S : List AV} {m : Mem} {f : Fr}

/-- What is left to do: the second halves. -/
theorem tail3 (ih : ∀ n, n < nn → SymOk E kc c n) (hnn : X2.length + Y2.length < nn) (hlv : lv < m.length) (he : ∀ x ∈ P ++ X2 ++ Y2 ++ S, Ez E 4 x) (hN : N = (P ++ X2 ++ Y2 ++ S).length) (hn : N < 4611686018427387904)
    (sX : Srt (lt c) X2) (sY : Srt (lt c) Y2) (f0 : f 0 = .vec (lv + 1) s g 0 N false) (f3 : f 3 = .int .i64 ((P.length + X2.length + Y2.length : Nat) : Int)) (f4 : f 4 = .fn (.func kc) [] []) (f18 : f 18 = .int .i64 (P.length : Nat)) (f24 : f 24 = .int .i64 ((P.length + X2.length : Nat) : Int)) :
    awp Try.prog (.seq (.reg g71_43) (.cond (.t 213) (.reg g71_44) (.skip))) ⟨f, noObs :: Am.put m lv s (.vec g 4 (P ++ X2 ++ Y2 ++ S)), []⟩
      (AEnds o71 m.length (fun v m1 => v = .tup [] ∧ m1 = Am.put m lv s (.vec g 4 (P ++ mg (lt c) X2 Y2 ++ S)))) := by
  simp only [g71_0, g71_1, g71_2, g71_3, g71_4, g71_5, g71_6, g71_7, g71_8, g71_9, g71_11, g71_10, g71_12, g71_13, g71_14, g71_15, g71_16, g71_17, g71_18, g71_19, g71_20, g71_21, g71_23, g71_22, g71_24, g71_25, g71_26, g71_27, g71_28, g71_29, g71_30, g71_31, g71_32, g71_33, g71_34, g71_35, g71_36, g71_37, g71_38, g71_39, g71_40, g71_41, g71_42, g71_43, g71_44, r71, o71, f0, f3, f4, f18, f24, eES, Nat.reduceBEq, Int.reduceLE, Int.reduceLT, Int.reduceToNat, Int.reduceEq, ↓reduceIte, reduceCtorEq, Nat.reducePow, Nat.reduceAdd, Nat.reduceLeDiff, Nat.reduceLT, Nat.reduceSub, Nat.reduceEqDiff]
  by_cases h1 : 0 < X2.length
  · have d1 : decide ((P.length : Int) < ((P.length + X2.length : Nat) : Int)) = true := by simp only [decide_eq_true_eq]; omega
    by_cases h2 : 0 < Y2.length
    · have d2 : decide (((P.length + X2.length : Nat) : Int) < ((P.length + X2.length + Y2.length : Nat) : Int)) = true := by simp only [decide_eq_true_eq]; omega
      simp only [d1, d2, f0, f3, f4, f18, f24, eES, Nat.reduceBEq, Int.reduceLE, Int.reduceLT, Int.reduceToNat, Int.reduceEq, ↓reduceIte, reduceCtorEq, Nat.reducePow, Nat.reduceAdd, Nat.reduceLeDiff, Nat.reduceLT, Nat.reduceSub, Nat.reduceEqDiff]
      refine aops_callF (sym_call (ih _ hnn) P X2 Y2 S hlv rfl h1 h2 he (by omega) sX sY hN rfl rfl rfl) rfl ?_
      simp only [put_len, eES, Nat.reduceBEq, Int.reduceLE, Int.reduceLT, Int.reduceToNat, Int.reduceEq, ↓reduceIte, reduceCtorEq, Nat.reducePow, Nat.reduceAdd, Nat.reduceLeDiff, Nat.reduceLT, Nat.reduceSub, Nat.reduceEqDiff]
    · have d2 : decide (((P.length + X2.length : Nat) : Int) < ((P.length + X2.length + Y2.length : Nat) : Int)) = false := by simp only [decide_eq_false_iff_not]; omega
      have hy : Y2 = [] := List.eq_nil_of_length_eq_zero (by omega)
      have hfin : P ++ X2 ++ Y2 ++ S = P ++ mg (lt c) X2 Y2 ++ S := by rw [hy, mg_nil]; simp
      simp only [d1, d2, f0, f3, f4, f18, f24, hfin, put_len, eES, Nat.reduceBEq, Int.reduceLE, Int.reduceLT, Int.reduceToNat, Int.reduceEq, ↓reduceIte, reduceCtorEq, Nat.reducePow, Nat.reduceAdd, Nat.reduceLeDiff, Nat.reduceLT, Nat.reduceSub, Nat.reduceEqDiff]
  · have d1 : decide ((P.length : Int) < ((P.length + X2.length : Nat) : Int)) = false := by simp only [decide_eq_false_iff_not]; omega
    have hx : X2 = [] := List.eq_nil_of_length_eq_zero (by omega)
    have hfin : P ++ X2 ++ Y2 ++ S = P ++ mg (lt c) X2 Y2 ++ S := by rw [hx, nil_mg]; simp
    simp only [d1, f0, f3, f4, f18, f24, hfin, put_len, eES, Nat.reduceBEq, Int.reduceLE, Int.reduceLT, Int.reduceToNat, Int.reduceEq, ↓reduceIte, reduceCtorEq, Nat.reducePow, Nat.reduceAdd, Nat.reduceLeDiff, Nat.reduceLT, Nat.reduceSub, Nat.reduceEqDiff]

/-- .. both. -/
theorem tail2 (ih : ∀ n, n < nn → SymOk E kc c n) (hn1 : X1.length + Y1.length < nn) (hn2 : X2.length + Y2.length < nn) (hlv : lv < m.length) (he : ∀ x ∈ P ++ X1 ++ Y1 ++ (X2 ++ Y2 ++ S), Ez E 4 x) (hN : N = (P ++ X1 ++ Y1 ++ (X2 ++ Y2 ++ S)).length) (hn : N < 4611686018427387904)
    (sX1 : Srt (lt c) X1) (sY1 : Srt (lt c) Y1) (sX : Srt (lt c) X2) (sY : Srt (lt c) Y2) (f0 : f 0 = .vec (lv + 1) s g 0 N false) (f1 : f 1 = .int .i64 (P.length : Nat)) (f3 : f 3 = .int .i64 ((P.length + X1.length + Y1.length + X2.length + Y2.length : Nat) : Int)) (f4 : f 4 = .fn (.func kc) [] []) (f18 : f 18 = .int .i64 ((P.length + X1.length + Y1.length : Nat) : Int)) (f20 : f 20 = .int .i64 ((P.length + X1.length : Nat) : Int)) (f24 : f 24 = .int .i64 ((P.length + X1.length + Y1.length + X2.length : Nat) : Int)) :
    awp Try.prog (.seq (.seq (.reg g71_41) (.cond (.t 199) (.reg g71_42) (.skip))) (.seq (.reg g71_43) (.cond (.t 213) (.reg g71_44) (.skip)))) ⟨f, noObs :: Am.put m lv s (.vec g 4 (P ++ X1 ++ Y1 ++ (X2 ++ Y2 ++ S))), []⟩
      (AEnds o71 m.length (fun v m1 => v = .tup [] ∧ m1 = Am.put m lv s (.vec g 4 (P ++ (mg (lt c) X1 Y1 ++ mg (lt c) X2 Y2) ++ S)))) := by
  have hlm : (mg (lt c) X1 Y1).length = X1.length + Y1.length := len_mg _ _ _ rfl
  have hlen : N = P.length + X1.length + Y1.length + X2.length + Y2.length + S.length := by rw [hN]; simp only [List.length_append]; omega
  have hem : ∀ x ∈ P ++ mg (lt c) X1 Y1 ++ X2 ++ Y2 ++ S, Ez E 4 x := by
    intro x hx
    refine he x ?_
    simp only [List.mem_append] at hx ⊢
    rcases hx with (((hx | hx) | hx) | hx) | hx
    · exact .inl (.inl (.inl hx))
    · exact (mem_mg _ _ _ rfl hx).elim (fun h => .inl (.inl (.inr h))) (fun h => .inl (.inr h))
    · exact .inr (.inl (.inl hx))
    · exact .inr (.inl (.inr hx))
    · exact .inr (.inr hx)
  have go : ∀ f : Fr, f 0 = .vec (lv + 1) s g 0 N false → f 3 = .int .i64 ((P.length + X1.length + Y1.length + X2.length + Y2.length : Nat) : Int) → f 4 = .fn (.func kc) [] [] → f 18 = .int .i64 ((P.length + X1.length + Y1.length : Nat) : Int) → f 24 = .int .i64 ((P.length + X1.length + Y1.length + X2.length : Nat) : Int) →
      awp Try.prog (.seq (.reg g71_43) (.cond (.t 213) (.reg g71_44) (.skip))) ⟨f, noObs :: Am.put m lv s (.vec g 4 (P ++ mg (lt c) X1 Y1 ++ (X2 ++ Y2 ++ S))), []⟩
      (AEnds o71 m.length (fun v m1 => v = .tup [] ∧ m1 = Am.put m lv s (.vec g 4 (P ++ (mg (lt c) X1 Y1 ++ mg (lt c) X2 Y2) ++ S)))) := by
    intro f f0 f3 f4 f18 f24
    have hpl : (P ++ mg (lt c) X1 Y1).length = P.length + X1.length + Y1.length := by rw [List.length_append, hlm]; omega
    have := tail3 (P := P ++ mg (lt c) X1 Y1) (X2 := X2) (Y2 := Y2) (S := S) (m := m) (f := f) (g := g) (s := s) ih hn2 hlv hem (by rw [hlen]; simp only [List.length_append, hlm]; omega) hn sX sY f0 (by rw [hpl]; exact f3) f4 (by rw [hpl]; exact f18) (by rw [hpl]; exact f24)
    rw [show P ++ mg (lt c) X1 Y1 ++ (X2 ++ Y2 ++ S) = P ++ mg (lt c) X1 Y1 ++ X2 ++ Y2 ++ S by simp only [List.append_assoc], show P ++ (mg (lt c) X1 Y1 ++ mg (lt c) X2 Y2) ++ S = P ++ mg (lt c) X1 Y1 ++ mg (lt c) X2 Y2 ++ S by simp only [List.append_assoc]]
    exact this
  rw [e_seq, e_seq]
  simp only [g71_41, g71_42, f0, f1, f4, f18, f20, e_reg, e_kc_n, e_nil, e_val, e_vget, e_isV, e_upd, e_g, e_gsel_t, e_gsel_f, e_gsel_tf, e_gsel_ft, e_gsel_n, e_t, e_c, e_f, e_cond, e_csel_t, e_csel_f, e_bget, e_isB, vop, abin, aint, cond_true, cond_false, true_and, and_true, ↓reduceIte, Option.getD_some, e_nbeq, Nat.reduceBEq, upd_upd]
  by_cases h1 : 0 < X1.length
  · have d1 : decide ((P.length : Int) < ((P.length + X1.length : Nat) : Int)) = true := by simp only [decide_eq_true_eq]; omega
    by_cases h2 : 0 < Y1.length
    · have d2 : decide (((P.length + X1.length : Nat) : Int) < ((P.length + X1.length + Y1.length : Nat) : Int)) = true := by simp only [decide_eq_true_eq]; omega
      simp only [d1, d2, f0, f1, f4, f18, f20, e_reg, e_kc_n, e_nil, e_val, e_vget, e_isV, e_upd, e_g, e_gsel_t, e_gsel_f, e_gsel_tf, e_gsel_ft, e_gsel_n, e_t, e_c, e_f, e_cond, e_csel_t, e_csel_f, e_bget, e_isB, vop, abin, aint, cond_true, cond_false, true_and, and_true, ↓reduceIte, Option.getD_some, e_nbeq, Nat.reduceBEq, upd_upd]
      refine aops_callF (sym_call (ih _ hn1) P X1 Y1 (X2 ++ Y2 ++ S) hlv rfl h1 h2 he (by omega) sX1 sY1 hN rfl rfl rfl) rfl ?_
      rw [e_nil, e_kc_n]
      refine go _ ?_ ?_ ?_ ?_ ?_
      · simp only [f0, eES, Nat.reduceBEq, Int.reduceLE, Int.reduceLT, Int.reduceToNat, Int.reduceEq, ↓reduceIte, reduceCtorEq, Nat.reducePow, Nat.reduceAdd, Nat.reduceLeDiff, Nat.reduceLT, Nat.reduceSub, Nat.reduceEqDiff]
      · simp only [f3, eES, Nat.reduceBEq, Int.reduceLE, Int.reduceLT, Int.reduceToNat, Int.reduceEq, ↓reduceIte, reduceCtorEq, Nat.reducePow, Nat.reduceAdd, Nat.reduceLeDiff, Nat.reduceLT, Nat.reduceSub, Nat.reduceEqDiff]
      · simp only [f4, eES, Nat.reduceBEq, Int.reduceLE, Int.reduceLT, Int.reduceToNat, Int.reduceEq, ↓reduceIte, reduceCtorEq, Nat.reducePow, Nat.reduceAdd, Nat.reduceLeDiff, Nat.reduceLT, Nat.reduceSub, Nat.reduceEqDiff]
      · simp only [f18, eES, Nat.reduceBEq, Int.reduceLE, Int.reduceLT, Int.reduceToNat, Int.reduceEq, ↓reduceIte, reduceCtorEq, Nat.reducePow, Nat.reduceAdd, Nat.reduceLeDiff, Nat.reduceLT, Nat.reduceSub, Nat.reduceEqDiff]
      · simp only [f24, eES, Nat.reduceBEq, Int.reduceLE, Int.reduceLT, Int.reduceToNat, Int.reduceEq, ↓reduceIte, reduceCtorEq, Nat.reducePow, Nat.reduceAdd, Nat.reduceLeDiff, Nat.reduceLT, Nat.reduceSub, Nat.reduceEqDiff]
    · have d2 : decide (((P.length + X1.length : Nat) : Int) < ((P.length + X1.length + Y1.length : Nat) : Int)) = false := by simp only [decide_eq_false_iff_not]; omega
      have hy : Y1 = [] := List.eq_nil_of_length_eq_zero (by omega)
      have hres : mg (lt c) X1 Y1 = X1 ++ Y1 := by rw [hy, mg_nil, List.append_nil]
      rw [hres, ← List.append_assoc P X1 Y1] at go
      simp only [d1, d2, hres, f0, f1, f4, f18, f20, e_reg, e_kc_n, e_nil, e_val, e_vget, e_isV, e_upd, e_g, e_gsel_t, e_gsel_f, e_gsel_tf, e_gsel_ft, e_gsel_n, e_t, e_c, e_f, e_cond, e_csel_t, e_csel_f, e_skip, e_bget, e_isB, vop, abin, aint, cond_true, cond_false, true_and, and_true, ↓reduceIte, Option.getD_some, e_nbeq, Nat.reduceBEq, upd_upd]
      refine go _ ?_ ?_ ?_ ?_ ?_
      · simp only [f0, eES, Nat.reduceBEq, Int.reduceLE, Int.reduceLT, Int.reduceToNat, Int.reduceEq, ↓reduceIte, reduceCtorEq, Nat.reducePow, Nat.reduceAdd, Nat.reduceLeDiff, Nat.reduceLT, Nat.reduceSub, Nat.reduceEqDiff]
      · simp only [f3, eES, Nat.reduceBEq, Int.reduceLE, Int.reduceLT, Int.reduceToNat, Int.reduceEq, ↓reduceIte, reduceCtorEq, Nat.reducePow, Nat.reduceAdd, Nat.reduceLeDiff, Nat.reduceLT, Nat.reduceSub, Nat.reduceEqDiff]
      · simp only [f4, eES, Nat.reduceBEq, Int.reduceLE, Int.reduceLT, Int.reduceToNat, Int.reduceEq, ↓reduceIte, reduceCtorEq, Nat.reducePow, Nat.reduceAdd, Nat.reduceLeDiff, Nat.reduceLT, Nat.reduceSub, Nat.reduceEqDiff]
      · simp only [f18, eES, Nat.reduceBEq, Int.reduceLE, Int.reduceLT, Int.reduceToNat, Int.reduceEq, ↓reduceIte, reduceCtorEq, Nat.reducePow, Nat.reduceAdd, Nat.reduceLeDiff, Nat.reduceLT, Nat.reduceSub, Nat.reduceEqDiff]
      · simp only [f24, eES, Nat.reduceBEq, Int.reduceLE, Int.reduceLT, Int.reduceToNat, Int.reduceEq, ↓reduceIte, reduceCtorEq, Nat.reducePow, Nat.reduceAdd, Nat.reduceLeDiff, Nat.reduceLT, Nat.reduceSub, Nat.reduceEqDiff]
  · have d1 : decide ((P.length : Int) < ((P.length + X1.length : Nat) : Int)) = false := by simp only [decide_eq_false_iff_not]; omega
    have hx : X1 = [] := List.eq_nil_of_length_eq_zero (by omega)
    have hres : mg (lt c) X1 Y1 = X1 ++ Y1 := by rw [hx, nil_mg, List.nil_append]
    rw [hres, ← List.append_assoc P X1 Y1] at go
    simp only [d1, hres, f0, f1, f4, f18, f20, e_reg, e_kc_n, e_nil, e_val, e_vget, e_isV, e_upd, e_g, e_gsel_t, e_gsel_f, e_gsel_tf, e_gsel_ft, e_gsel_n, e_t, e_c, e_f, e_cond, e_csel_t, e_csel_f, e_skip, e_bget, e_isB, vop, abin, aint, cond_true, cond_false, true_and, and_true, ↓reduceIte, Option.getD_some, e_nbeq, Nat.reduceBEq, upd_upd]
    refine go _ ?_ ?_ ?_ ?_ ?_
    · simp only [f0, eES, Nat.reduceBEq, Int.reduceLE, Int.reduceLT, Int.reduceToNat, Int.reduceEq, ↓reduceIte, reduceCtorEq, Nat.reducePow, Nat.reduceAdd, Nat.reduceLeDiff, Nat.reduceLT, Nat.reduceSub, Nat.reduceEqDiff]
    · simp only [f3, eES, Nat.reduceBEq, Int.reduceLE, Int.reduceLT, Int.reduceToNat, Int.reduceEq, ↓reduceIte, reduceCtorEq, Nat.reducePow, Nat.reduceAdd, Nat.reduceLeDiff, Nat.reduceLT, Nat.reduceSub, Nat.reduceEqDiff]
    · simp only [f4, eES, Nat.reduceBEq, Int.reduceLE, Int.reduceLT, Int.reduceToNat, Int.reduceEq, ↓reduceIte, reduceCtorEq, Nat.reducePow, Nat.reduceAdd, Nat.reduceLeDiff, Nat.reduceLT, Nat.reduceSub, Nat.reduceEqDiff]
    · simp only [f18, eES, Nat.reduceBEq, Int.reduceLE, Int.reduceLT, Int.reduceToNat, Int.reduceEq, ↓reduceIte, reduceCtorEq, Nat.reducePow, Nat.reduceAdd, Nat.reduceLeDiff, Nat.reduceLT, Nat.reduceSub, Nat.reduceEqDiff]
    · simp only [f24, eES, Nat.reduceBEq, Int.reduceLE, Int.reduceLT, Int.reduceToNat, Int.reduceEq, ↓reduceIte, reduceCtorEq, Nat.reducePow, Nat.reduceAdd, Nat.reduceLeDiff, Nat.reduceLT, Nat.reduceSub, Nat.reduceEqDiff]

/-- .. all of it, from where both fall in two. -/
theorem tail1 (ih : ∀ n, n < nn → SymOk E kc c n) (hn1 : X1.length + Y1.length < nn) (hn2 : X2.length + Y2.length < nn) (hlv : lv < m.length) (he : ∀ x ∈ P ++ X1 ++ X2 ++ Y1 ++ (Y2 ++ S), Ez E 4 x) (hN : N = (P ++ X1 ++ X2 ++ Y1 ++ (Y2 ++ S)).length) (hn : N < 4611686018427387904)
    (sX1 : Srt (lt c) X1) (sY1 : Srt (lt c) Y1) (sX : Srt (lt c) X2) (sY : Srt (lt c) Y2) (f0 : f 0 = .vec (lv + 1) s g 0 N false) (f1 : f 1 = .int .i64 (P.length : Nat)) (f2 : f 2 = .int .i64 ((P.length + X1.length + X2.length : Nat) : Int)) (f3 : f 3 = .int .i64 ((P.length + X1.length + Y1.length + X2.length + Y2.length : Nat) : Int)) (f4 : f 4 = .fn (.func kc) [] []) (f18 : f 18 = .int .i64 ((P.length + X1.length + Y1.length : Nat) : Int)) (f19 : f 19 = .int .i64 ((P.length + X1.length + Y1.length + (P.length + X1.length + X2.length) : Nat) : Int)) (f20 : f 20 = .int .i64 ((P.length + X1.length : Nat) : Int)) :
    awp Try.prog (.seq (.reg g71_38) (.seq (.seq (.reg g71_39) (.cond (.t 185) (.reg g71_40) (.skip))) (.seq (.seq (.reg g71_41) (.cond (.t 199) (.reg g71_42) (.skip))) (.seq (.reg g71_43) (.cond (.t 213) (.reg g71_44) (.skip)))))) ⟨f, noObs :: Am.put m lv s (.vec g 4 (P ++ X1 ++ X2 ++ Y1 ++ (Y2 ++ S))), []⟩
      (AEnds o71 m.length (fun v m1 => v = .tup [] ∧ m1 = Am.put m lv s (.vec g 4 (P ++ (mg (lt c) X1 Y1 ++ mg (lt c) X2 Y2) ++ S)))) := by
  have hlen : N = P.length + X1.length + Y1.length + X2.length + Y2.length + S.length := by rw [hN]; simp only [List.length_append]; omega
  have hem : ∀ x ∈ P ++ X1 ++ Y1 ++ (X2 ++ Y2 ++ S), Ez E 4 x := by
    intro x hx
    refine he x ?_
    simp only [List.mem_append] at hx ⊢
    rcases hx with ((hx | hx) | hx) | ((hx | hx) | hx)
    · exact .inl (.inl (.inl (.inl hx)))
    · exact .inl (.inl (.inl (.inr hx)))
    · exact .inl (.inr hx)
    · exact .inl (.inl (.inr hx))
    · exact .inr (.inl hx)
    · exact .inr (.inr hx)
  have go : ∀ f : Fr, f 0 = .vec (lv + 1) s g 0 N false → f 1 = .int .i64 (P.length : Nat) → f 3 = .int .i64 ((P.length + X1.length + Y1.length + X2.length + Y2.length : Nat) : Int) → f 4 = .fn (.func kc) [] [] → f 18 = .int .i64 ((P.length + X1.length + Y1.length : Nat) : Int) → f 20 = .int .i64 ((P.length + X1.length : Nat) : Int) → f 24 = .int .i64 ((P.length + X1.length + Y1.length + X2.length : Nat) : Int) → _ :=
    fun f f0 f1 f3 f4 f18 f20 f24 => tail2 (P := P) (X1 := X1) (Y1 := Y1) (X2 := X2) (Y2 := Y2) (S := S) (m := m) (f := f) (g := g) (s := s) ih hn1 hn2 hlv hem (by rw [hlen]; simp only [List.length_append]; omega) hn sX1 sY1 sX sY f0 f1 f3 f4 f18 f20 f24
  have e1 : IntKind.i64.wrap (((P.length + X1.length + Y1.length + (P.length + X1.length + X2.length) : Nat) : Int) - ((P.length + X1.length : Nat) : Int)) = ((P.length + X1.length + Y1.length + X2.length : Nat) : Int) := by rw [wi64]; omega
  rw [e_seq]
  simp only [g71_38, e1, f0, f1, f2, f4, f18, f19, f20, e_reg, e_kc_n, e_nil, e_val, e_vget, e_isV, e_upd, e_g, e_gsel_t, e_gsel_f, e_gsel_tf, e_gsel_ft, e_gsel_n, e_t, e_c, e_f, e_cond, e_csel_t, e_csel_f, e_skip, e_bget, e_isB, vop, abin, aint, cond_true, cond_false, true_and, and_true, ↓reduceIte, Option.getD_some, e_nbeq, Nat.reduceBEq, upd_upd]
  rw [e_seq, e_seq]
  simp only [g71_39, f0, f1, f2, f4, f18, f19, f20, e_reg, e_kc_n, e_nil, e_val, e_vget, e_isV, e_upd, e_g, e_gsel_t, e_gsel_f, e_gsel_tf, e_gsel_ft, e_gsel_n, e_t, e_c, e_f, e_cond, e_csel_t, e_csel_f, e_skip, e_bget, e_isB, vop, abin, aint, cond_true, cond_false, true_and, and_true, ↓reduceIte, Option.getD_some, e_nbeq, Nat.reduceBEq, upd_upd]
  by_cases h1 : 0 < X2.length
  · have d1 : decide (((P.length + X1.length : Nat) : Int) < ((P.length + X1.length + X2.length : Nat) : Int)) = true := by simp only [decide_eq_true_eq]; omega
    by_cases h2 : 0 < Y1.length
    · have d2 : decide (((P.length + X1.length + X2.length : Nat) : Int) < ((P.length + X1.length + Y1.length + X2.length : Nat) : Int)) = true := by simp only [decide_eq_true_eq]; omega
      simp only [g71_40, d1, d2, f0, f1, f2, f4, f18, f19, f20, e_reg, e_kc_n, e_nil, e_val, e_vget, e_isV, e_upd, e_g, e_gsel_t, e_gsel_f, e_gsel_tf, e_gsel_ft, e_gsel_n, e_t, e_c, e_f, e_cond, e_csel_t, e_csel_f, e_skip, e_bget, e_isB, vop, abin, aint, cond_true, cond_false, true_and, and_true, ↓reduceIte, Option.getD_some, e_nbeq, Nat.reduceBEq, upd_upd]
      refine aops_callF (ro_call (.fn (.func kc) [] []) (P ++ X1) X2 Y1 (Y2 ++ S) (n := P.length + X1.length + Y1.length + X2.length) hlv h1 h2 he (by omega) hN (by rw [List.length_append]) (by rw [List.length_append]) (by rw [List.length_append]; omega)) rfl ?_
      rw [e_nil, e_kc_n]
      rw [show P ++ X1 ++ Y1 ++ X2 ++ (Y2 ++ S) = P ++ X1 ++ Y1 ++ (X2 ++ Y2 ++ S) by simp only [List.append_assoc]]
      refine go _ ?_ ?_ ?_ ?_ ?_ ?_ ?_
      · simp only [f0, eES, Nat.reduceBEq, Int.reduceLE, Int.reduceLT, Int.reduceToNat, Int.reduceEq, ↓reduceIte, reduceCtorEq, Nat.reducePow, Nat.reduceAdd, Nat.reduceLeDiff, Nat.reduceLT, Nat.reduceSub, Nat.reduceEqDiff]
      · simp only [f1, eES, Nat.reduceBEq, Int.reduceLE, Int.reduceLT, Int.reduceToNat, Int.reduceEq, ↓reduceIte, reduceCtorEq, Nat.reducePow, Nat.reduceAdd, Nat.reduceLeDiff, Nat.reduceLT, Nat.reduceSub, Nat.reduceEqDiff]
      · simp only [f3, eES, Nat.reduceBEq, Int.reduceLE, Int.reduceLT, Int.reduceToNat, Int.reduceEq, ↓reduceIte, reduceCtorEq, Nat.reducePow, Nat.reduceAdd, Nat.reduceLeDiff, Nat.reduceLT, Nat.reduceSub, Nat.reduceEqDiff]
      · simp only [f4, eES, Nat.reduceBEq, Int.reduceLE, Int.reduceLT, Int.reduceToNat, Int.reduceEq, ↓reduceIte, reduceCtorEq, Nat.reducePow, Nat.reduceAdd, Nat.reduceLeDiff, Nat.reduceLT, Nat.reduceSub, Nat.reduceEqDiff]
      · simp only [f18, eES, Nat.reduceBEq, Int.reduceLE, Int.reduceLT, Int.reduceToNat, Int.reduceEq, ↓reduceIte, reduceCtorEq, Nat.reducePow, Nat.reduceAdd, Nat.reduceLeDiff, Nat.reduceLT, Nat.reduceSub, Nat.reduceEqDiff]
      · simp only [f20, eES, Nat.reduceBEq, Int.reduceLE, Int.reduceLT, Int.reduceToNat, Int.reduceEq, ↓reduceIte, reduceCtorEq, Nat.reducePow, Nat.reduceAdd, Nat.reduceLeDiff, Nat.reduceLT, Nat.reduceSub, Nat.reduceEqDiff]
      · simp only [eES, Nat.reduceBEq, Int.reduceLE, Int.reduceLT, Int.reduceToNat, Int.reduceEq, ↓reduceIte, reduceCtorEq, Nat.reducePow, Nat.reduceAdd, Nat.reduceLeDiff, Nat.reduceLT, Nat.reduceSub, Nat.reduceEqDiff]
    · have d2 : decide (((P.length + X1.length + X2.length : Nat) : Int) < ((P.length + X1.length + Y1.length + X2.length : Nat) : Int)) = false := by simp only [decide_eq_false_iff_not]; omega
      have hy : Y1 = [] := List.eq_nil_of_length_eq_zero (by omega)
      have hrow : P ++ X1 ++ X2 ++ Y1 ++ (Y2 ++ S) = P ++ X1 ++ Y1 ++ (X2 ++ Y2 ++ S) := by rw [hy]; simp
      simp only [d1, d2, hrow, f0, f1, f2, f4, f18, f19, f20, e_reg, e_kc_n, e_nil, e_val, e_vget, e_isV, e_upd, e_g, e_gsel_t, e_gsel_f, e_gsel_tf, e_gsel_ft, e_gsel_n, e_t, e_c, e_f, e_cond, e_csel_t, e_csel_f, e_skip, e_bget, e_isB, vop, abin, aint, cond_true, cond_false, true_and, and_true, ↓reduceIte, Option.getD_some, e_nbeq, Nat.reduceBEq, upd_upd]
      refine go _ ?_ ?_ ?_ ?_ ?_ ?_ ?_
      · simp only [f0, eES, Nat.reduceBEq, Int.reduceLE, Int.reduceLT, Int.reduceToNat, Int.reduceEq, ↓reduceIte, reduceCtorEq, Nat.reducePow, Nat.reduceAdd, Nat.reduceLeDiff, Nat.reduceLT, Nat.reduceSub, Nat.reduceEqDiff]
      · simp only [f1, eES, Nat.reduceBEq, Int.reduceLE, Int.reduceLT, Int.reduceToNat, Int.reduceEq, ↓reduceIte, reduceCtorEq, Nat.reducePow, Nat.reduceAdd, Nat.reduceLeDiff, Nat.reduceLT, Nat.reduceSub, Nat.reduceEqDiff]
      · simp only [f3, eES, Nat.reduceBEq, Int.reduceLE, Int.reduceLT, Int.reduceToNat, Int.reduceEq, ↓reduceIte, reduceCtorEq, Nat.reducePow, Nat.reduceAdd, Nat.reduceLeDiff, Nat.reduceLT, Nat.reduceSub, Nat.reduceEqDiff]
      · simp only [f4, eES, Nat.reduceBEq, Int.reduceLE, Int.reduceLT, Int.reduceToNat, Int.reduceEq, ↓reduceIte, reduceCtorEq, Nat.reducePow, Nat.reduceAdd, Nat.reduceLeDiff, Nat.reduceLT, Nat.reduceSub, Nat.reduceEqDiff]
      · simp only [f18, eES, Nat.reduceBEq, Int.reduceLE, Int.reduceLT, Int.reduceToNat, Int.reduceEq, ↓reduceIte, reduceCtorEq, Nat.reducePow, Nat.reduceAdd, Nat.reduceLeDiff, Nat.reduceLT, Nat.reduceSub, Nat.reduceEqDiff]
      · simp only [f20, eES, Nat.reduceBEq, Int.reduceLE, Int.reduceLT, Int.reduceToNat, Int.reduceEq, ↓reduceIte, reduceCtorEq, Nat.reducePow, Nat.reduceAdd, Nat.reduceLeDiff, Nat.reduceLT, Nat.reduceSub, Nat.reduceEqDiff]
      · simp only [eES, Nat.reduceBEq, Int.reduceLE, Int.reduceLT, Int.reduceToNat, Int.reduceEq, ↓reduceIte, reduceCtorEq, Nat.reducePow, Nat.reduceAdd, Nat.reduceLeDiff, Nat.reduceLT, Nat.reduceSub, Nat.reduceEqDiff]
  · have d1 : decide (((P.length + X1.length : Nat) : Int) < ((P.length + X1.length + X2.length : Nat) : Int)) = false := by simp only [decide_eq_false_iff_not]; omega
    have hx : X2 = [] := List.eq_nil_of_length_eq_zero (by omega)
    have hrow : P ++ X1 ++ X2 ++ Y1 ++ (Y2 ++ S) = P ++ X1 ++ Y1 ++ (X2 ++ Y2 ++ S) := by rw [hx]; simp
    simp only [d1, hrow, f0, f1, f2, f4, f18, f19, f20, e_reg, e_kc_n, e_nil, e_val, e_vget, e_isV, e_upd, e_g, e_gsel_t, e_gsel_f, e_gsel_tf, e_gsel_ft, e_gsel_n, e_t, e_c, e_f, e_cond, e_csel_t, e_csel_f, e_skip, e_bget, e_isB, vop, abin, aint, cond_true, cond_false, true_and, and_true, ↓reduceIte, Option.getD_some, e_nbeq, Nat.reduceBEq, upd_upd]
    refine go _ ?_ ?_ ?_ ?_ ?_ ?_ ?_
    · simp only [f0, eES, Nat.reduceBEq, Int.reduceLE, Int.reduceLT, Int.reduceToNat, Int.reduceEq, ↓reduceIte, reduceCtorEq, Nat.reducePow, Nat.reduceAdd, Nat.reduceLeDiff, Nat.reduceLT, Nat.reduceSub, Nat.reduceEqDiff]
    · simp only [f1, eES, Nat.reduceBEq, Int.reduceLE, Int.reduceLT, Int.reduceToNat, Int.reduceEq, ↓reduceIte, reduceCtorEq, Nat.reducePow, Nat.reduceAdd, Nat.reduceLeDiff, Nat.reduceLT, Nat.reduceSub, Nat.reduceEqDiff]
    · simp only [f3, eES, Nat.reduceBEq, Int.reduceLE, Int.reduceLT, Int.reduceToNat, Int.reduceEq, ↓reduceIte, reduceCtorEq, Nat.reducePow, Nat.reduceAdd, Nat.reduceLeDiff, Nat.reduceLT, Nat.reduceSub, Nat.reduceEqDiff]
    · simp only [f4, eES, Nat.reduceBEq, Int.reduceLE, Int.reduceLT, Int.reduceToNat, Int.reduceEq, ↓reduceIte, reduceCtorEq, Nat.reducePow, Nat.reduceAdd, Nat.reduceLeDiff, Nat.reduceLT, Nat.reduceSub, Nat.reduceEqDiff]
    · simp only [f18, eES, Nat.reduceBEq, Int.reduceLE, Int.reduceLT, Int.reduceToNat, Int.reduceEq, ↓reduceIte, reduceCtorEq, Nat.reducePow, Nat.reduceAdd, Nat.reduceLeDiff, Nat.reduceLT, Nat.reduceSub, Nat.reduceEqDiff]
    · simp only [f20, eES, Nat.reduceBEq, Int.reduceLE, Int.reduceLT, Int.reduceToNat, Int.reduceEq, ↓reduceIte, reduceCtorEq, Nat.reducePow, Nat.reduceAdd, Nat.reduceLeDiff, Nat.reduceLT, Nat.reduceSub, Nat.reduceEqDiff]
    · simp only [eES, Nat.reduceBEq, Int.reduceLE, Int.reduceLT, Int.reduceToNat, Int.reduceEq, ↓reduceIte, reduceCtorEq, Nat.reducePow, Nat.reduceAdd, Nat.reduceLeDiff, Nat.reduceLT, Nat.reduceSub, Nat.reduceEqDiff]

end

set_option maxHeartbeats 1000000 in
theorem symC {kc : Nat} {c : AV → AV → Int} (hc : Cp E kc c) (nn : Nat) (ih : ∀ n, n < nn → SymOk E kc c n) (lv s g : Nat) (P X Y S : List AV) (m : Mem) (hXY : X.length + Y.length = nn) (hX1 : 1 < X.length) (hY1 : 1 < Y.length) (hl : Am.look m lv s = .vec g 4 (P ++ X ++ Y ++ S)) (he : ∀ x ∈ P ++ X ++ Y ++ S, Ez E 4 x)
    (hn : (P ++ X ++ Y ++ S).length < 4611686018427387904) (sX : Srt (lt c) X) (sY : Srt (lt c) Y) :
    ACalls Try.prog 71 [.vec lv s g 0 (P ++ X ++ Y ++ S).length false, .int .i64 (P.length : Nat), .int .i64 ((P.length + X.length : Nat) : Int), .int .i64 ((P.length + X.length + Y.length : Nat) : Int), .fn (.func kc) [] []] m
      (fun v m1 => v = .tup [] ∧ m1 = Am.put m lv s (.vec g 4 (P ++ mg (lt c) X Y ++ S))) := by
  have hlv : lv < m.length := look_lt (by rw [hl]; simp)
  have hlen : (P ++ X ++ Y ++ S).length = P.length + X.length + Y.length + S.length := by simp only [List.length_append]
  refine acalls_of_awp (rc := r71) (rs := o71) Try.func71 rfl rfl Try.ntmps71 k71 q71 (by simp) ?_
  have e1 : (IntKind.i64.wrap (((P.length + X.length : Nat) : Int) - (P.length : Int)) == 1) = false := by rw [wi64]; simp only [beq_eq_false_iff_ne, ne_eq]; omega
  have e2 : (IntKind.i64.wrap (((P.length + X.length + Y.length : Nat) : Int) - ((P.length + X.length : Nat) : Int)) == 1) = false := by rw [wi64]; simp only [beq_eq_false_iff_ne, ne_eq]; omega
  have e3 : IntKind.i64.wrap ((P.length : Int) + ((P.length + X.length + Y.length : Nat) : Int)) = ((P.length + (P.length + X.length + Y.length) : Nat) : Int) := by rw [wi64]; omega
  have e4 := half P.length (P.length + X.length + Y.length) (by omega)
  generalize hmid : (P.length + (P.length + X.length + Y.length)) / 2 = mid at *
  have e5 : IntKind.i64.wrap ((mid : Int) + ((P.length + X.length : Nat) : Int)) = ((mid + (P.length + X.length) : Nat) : Int) := by rw [wi64]; omega
  have e6 : IntKind.i64.wrap (((mid + (P.length + X.length) : Nat) : Int) - ((P.length + X.length + Y.length : Nat) : Int)) = ((mid + (P.length + X.length) - (P.length + X.length + Y.length) : Nat) : Int) ∨ mid < Y.length := by
    by_cases h : mid < Y.length
    · exact .inr h
    · refine .inl ?_
      rw [wi64]; omega
  have e7 : IntKind.i64.wrap (((mid + (P.length + X.length) : Nat) : Int) - 1) = ((mid + (P.length + X.length) - 1 : Nat) : Int) := by rw [wi64]; omega
  simp only [r71, g71_0, g71_12, g71_24, g71_25, g71_26, g71_27, g71_28, g71_29, g71_30, g71_31, g71_32, e1, e2, e3, e4, e5, eES, Nat.reduceBEq, Int.reduceLE, Int.reduceLT, Int.reduceToNat, Int.reduceEq, ↓reduceIte, reduceCtorEq, Nat.reducePow, Nat.reduceAdd, Nat.reduceLeDiff, Nat.reduceLT, Nat.reduceSub, Nat.reduceEqDiff]
  have h0 : m = Am.put m lv s (.vec g 4 (P ++ X ++ Y ++ S)) := (put_self hl).symm
  generalize hN : (P ++ X ++ Y ++ S).length = N at *
  -- the search, from whatever bounds
  have main : ∀ (Q : Exit → St → Prop) (f : Fr) (s0 r0 : Nat), s0 ≤ r0 → r0 ≤ mid → (r0 = mid ∨ r0 = P.length + X.length) → (mid - s0 ≥ Y.length ∨ s0 = P.length) → mid - s0 ≤ Y.length → r0 ≤ P.length + X.length → P.length ≤ s0 →
      f 0 = .vec (lv + 1) s g 0 N false → f 1 = .int .i64 (P.length : Nat) → f 2 = .int .i64 ((P.length + X.length : Nat) : Int) → f 3 = .int .i64 ((P.length + X.length + Y.length : Nat) : Int) → f 4 = .fn (.func kc) [] [] →
      f 18 = .int .i64 (mid : Nat) → f 19 = .int .i64 ((mid + (P.length + X.length) : Nat) : Int) → f 22 = .int .i64 ((mid + (P.length + X.length) - 1 : Nat) : Int) → f 20 = .int .i64 (s0 : Nat) → f 21 = .int .i64 (r0 : Nat) →
      (∀ (f : Fr) (t : Nat), s0 ≤ t → t ≤ r0 → mg (lt c) X Y = mg (lt c) (X.take (t - P.length)) (Y.take (mid - t)) ++ mg (lt c) (X.drop (t - P.length)) (Y.drop (mid - t)) →
        f 0 = .vec (lv + 1) s g 0 N false → f 1 = .int .i64 (P.length : Nat) → f 2 = .int .i64 ((P.length + X.length : Nat) : Int) → f 3 = .int .i64 ((P.length + X.length + Y.length : Nat) : Int) → f 4 = .fn (.func kc) [] [] →
        f 18 = .int .i64 (mid : Nat) → f 19 = .int .i64 ((mid + (P.length + X.length) : Nat) : Int) → f 20 = .int .i64 (t : Nat) → Q (.exit 8) ⟨f, noObs :: Am.put m lv s (.vec g 4 (P ++ X ++ Y ++ S)), []⟩) →
      awp Try.prog (.loop (l71_4)) ⟨f, noObs :: m, []⟩ Q := by
    intro Q f s0 r0 hsr hrm hr hs hs2 hr2 hps f0 f1 f2 f3 f4 f18 f19 f22 f20 f21 hQ
    refine awp_loop (ScS m lv s g N mid s0 r0 kc c P X Y S) _ ⟨_, s0, r0, by rw [← h0] <;> rfl, rfl, Nat.le_refl _, hsr, Nat.le_refl _, (by intro k x y h1 h2; omega), (by intro k x y h1 h2; omega), f0, f1, f2, f3, f4, f18, f19, f22, f20, f21⟩ ?_
    clear f0 f1 f2 f3 f4 f18 f19 f22 f20 f21 f
    rintro k st ⟨f, i, j, rfl, rfl, hsi, hij, hj, hp, hq, f0, f1, f2, f3, f4, f18, f19, f22, f20, f21⟩
    simp only [l71_0, l71_1, l71_2, l71_3, l71_4, g71_0, g71_1, g71_2, g71_3, g71_4, g71_5, g71_6, g71_7, g71_8, g71_9, g71_11, g71_10, g71_12, g71_13, g71_14, g71_15, g71_16, g71_17, g71_18, g71_19, g71_20, g71_21, g71_23, g71_22, g71_24, g71_25, g71_26, g71_27, g71_28, g71_29, g71_30, g71_31, g71_32, g71_33, g71_34, g71_35, g71_36, g71_37, g71_38, g71_39, g71_40, g71_41, g71_42, g71_43, g71_44, r71, o71, f0, f4, f20, f21, f22, List.singleton_append, eES, Nat.reduceBEq, Int.reduceLE, Int.reduceLT, Int.reduceToNat, Int.reduceEq, ↓reduceIte, reduceCtorEq, Nat.reducePow, Nat.reduceAdd, Nat.reduceLeDiff, Nat.reduceLT, Nat.reduceSub, Nat.reduceEqDiff]
    by_cases hlt : i < j
    · have d0 : decide ((i : Int) < (j : Int)) = true := by simp only [decide_eq_true_eq]; omega
      have e8 : IntKind.i64.wrap ((i : Int) + (j : Int)) = ((i + j : Nat) : Int) := by rw [wi64]; omega
      have e9 := half i j (by omega)
      generalize hh : (i + j) / 2 = h at *
      have hh1 : h < j := by omega
      have hh2 : i ≤ h := by omega
      have ea : IntKind.i64.wrap ((h : Int) + 1) = ((h + 1 : Nat) : Int) := by rw [wi64]; omega
      have eb : IntKind.i64.wrap (((mid + (P.length + X.length) - 1 : Nat) : Int) - (h : Int)) = ((P.length + X.length + (mid - 1 - h) : Nat) : Int) := by rw [wi64]; omega
      obtain ⟨x, hx⟩ : ∃ x, X[h - P.length]? = some x := ⟨_, List.getElem?_eq_getElem (by omega)⟩
      obtain ⟨y, hy⟩ : ∃ y, Y[mid - 1 - h]? = some y := ⟨_, List.getElem?_eq_getElem (by omega)⟩
      have ex : Ez E 4 x := he x (by simp [List.mem_of_getElem? hx])
      have ey : Ez E 4 y := he y (by simp [List.mem_of_getElem? hy])
      have gx : (P ++ X ++ Y ++ S)[h]? = some x := by
        rw [List.append_assoc, List.append_assoc, List.getElem?_append_right (by omega), List.getElem?_append_left (by omega), hx]
      have gy : (P ++ X ++ Y ++ S)[P.length + X.length + (mid - 1 - h)]? = some y := by
        rw [List.append_assoc, List.getElem?_append_right (by rw [List.length_append]; omega), List.getElem?_append_left (by rw [List.length_append]; omega), ← hy]
        congr 1; rw [List.length_append]; omega
      simp only [d0, e8, e9, eb, f0, f4, f20, f21, f22, iad hlv (show P.length + X.length + (mid - 1 - h) < N by omega), iad hlv (show h < N by omega), ldr hlv gy ey, ldr hlv gx ex, eES, Nat.reduceBEq, Int.reduceLE, Int.reduceLT, Int.reduceToNat, Int.reduceEq, ↓reduceIte, reduceCtorEq, Nat.reducePow, Nat.reduceAdd, Nat.reduceLeDiff, Nat.reduceLT, Nat.reduceSub, Nat.reduceEqDiff]
      refine aops_callP (by simp only [eES, Nat.reduceBEq, Int.reduceLE, Int.reduceLT, Int.reduceToNat, Int.reduceEq, ↓reduceIte, reduceCtorEq, Nat.reducePow, Nat.reduceAdd, Nat.reduceLeDiff, Nat.reduceLT, Nat.reduceSub, Nat.reduceEqDiff]) (hc.call y x ey ex) (still_two ey ex _) (rf_two ey ex) rfl (.inl (rf_two ey ex)) ?_
      cases hcx : decide (c y x < 0) with
      | true =>
        simp only [hcx, ea, f0, f4, f20, f21, f22, eES, Nat.reduceBEq, Int.reduceLE, Int.reduceLT, Int.reduceToNat, Int.reduceEq, ↓reduceIte, reduceCtorEq, Nat.reducePow, Nat.reduceAdd, Nat.reduceLeDiff, Nat.reduceLT, Nat.reduceSub, Nat.reduceEqDiff]
        have hq' : ∀ k x' y', h ≤ k → k < r0 → X[k - P.length]? = some x' → Y[mid - 1 - k]? = some y' → lt c y' x' = true := by
          intro k x' y' hk hk2 hx' hy'
          have h3 := srt_mono hc.sw sY (show mid - 1 - k ≤ mid - 1 - h by omega) hy' hy hcx
          have h4 := srt_le sX hc.sw (show h - P.length ≤ k - P.length by omega) hx hx'
          cases hb : lt c y' x' with
          | true => rfl
          | false =>
            have := hc.sw.nt y' x' x hb h4
            rw [h3] at this; cases this
        exact ⟨h - i, by omega, _, i, h, rfl, rfl, hsi, by omega, by omega, hp, hq', by simp only [f0, eES, Nat.reduceBEq, Int.reduceLE, Int.reduceLT, Int.reduceToNat, Int.reduceEq, ↓reduceIte, reduceCtorEq, Nat.reducePow, Nat.reduceAdd, Nat.reduceLeDiff, Nat.reduceLT, Nat.reduceSub, Nat.reduceEqDiff], by simp only [f1, eES, Nat.reduceBEq, Int.reduceLE, Int.reduceLT, Int.reduceToNat, Int.reduceEq, ↓reduceIte, reduceCtorEq, Nat.reducePow, Nat.reduceAdd, Nat.reduceLeDiff, Nat.reduceLT, Nat.reduceSub, Nat.reduceEqDiff], by simp only [f2, eES, Nat.reduceBEq, Int.reduceLE, Int.reduceLT, Int.reduceToNat, Int.reduceEq, ↓reduceIte, reduceCtorEq, Nat.reducePow, Nat.reduceAdd, Nat.reduceLeDiff, Nat.reduceLT, Nat.reduceSub, Nat.reduceEqDiff], by simp only [f3, eES, Nat.reduceBEq, Int.reduceLE, Int.reduceLT, Int.reduceToNat, Int.reduceEq, ↓reduceIte, reduceCtorEq, Nat.reducePow, Nat.reduceAdd, Nat.reduceLeDiff, Nat.reduceLT, Nat.reduceSub, Nat.reduceEqDiff], by simp only [f4, eES, Nat.reduceBEq, Int.reduceLE, Int.reduceLT, Int.reduceToNat, Int.reduceEq, ↓reduceIte, reduceCtorEq, Nat.reducePow, Nat.reduceAdd, Nat.reduceLeDiff, Nat.reduceLT, Nat.reduceSub, Nat.reduceEqDiff], by simp only [f18, eES, Nat.reduceBEq, Int.reduceLE, Int.reduceLT, Int.reduceToNat, Int.reduceEq, ↓reduceIte, reduceCtorEq, Nat.reducePow, Nat.reduceAdd, Nat.reduceLeDiff, Nat.reduceLT, Nat.reduceSub, Nat.reduceEqDiff], by simp only [f19, eES, Nat.reduceBEq, Int.reduceLE, Int.reduceLT, Int.reduceToNat, Int.reduceEq, ↓reduceIte, reduceCtorEq, Nat.reducePow, Nat.reduceAdd, Nat.reduceLeDiff, Nat.reduceLT, Nat.reduceSub, Nat.reduceEqDiff], by simp only [f22, eES, Nat.reduceBEq, Int.reduceLE, Int.reduceLT, Int.reduceToNat, Int.reduceEq, ↓reduceIte, reduceCtorEq, Nat.reducePow, Nat.reduceAdd, Nat.reduceLeDiff, Nat.reduceLT, Nat.reduceSub, Nat.reduceEqDiff], by simp only [f20, eES, Nat.reduceBEq, Int.reduceLE, Int.reduceLT, Int.reduceToNat, Int.reduceEq, ↓reduceIte, reduceCtorEq, Nat.reducePow, Nat.reduceAdd, Nat.reduceLeDiff, Nat.reduceLT, Nat.reduceSub, Nat.reduceEqDiff], by simp only [eES, Nat.reduceBEq, Int.reduceLE, Int.reduceLT, Int.reduceToNat, Int.reduceEq, ↓reduceIte, reduceCtorEq, Nat.reducePow, Nat.reduceAdd, Nat.reduceLeDiff, Nat.reduceLT, Nat.reduceSub, Nat.reduceEqDiff]⟩
      | false =>
        simp only [hcx, ea, f0, f4, f20, f21, f22, eES, Nat.reduceBEq, Int.reduceLE, Int.reduceLT, Int.reduceToNat, Int.reduceEq, ↓reduceIte, reduceCtorEq, Nat.reducePow, Nat.reduceAdd, Nat.reduceLeDiff, Nat.reduceLT, Nat.reduceSub, Nat.reduceEqDiff]
        exact ⟨j - (h + 1), by omega, _, h + 1, j, rfl, rfl, by omega, by omega, hj, fun k x' y' hk hk2 hx' hy' => by
          have h3 := srt_le sX hc.sw (show k - P.length ≤ h - P.length by omega) hx' hx
          have h4 : lt c y' x = false := by
            cases hb : lt c y' x with
            | false => rfl
            | true => exact absurd (srt_mono hc.sw sY (show mid - 1 - h ≤ mid - 1 - k by omega) hy hy' hb) (by show ¬ (decide _ = true); rw [hcx]; simp)
          exact hc.sw.nt y' x x' h4 h3, hq, by simp only [f0, eES, Nat.reduceBEq, Int.reduceLE, Int.reduceLT, Int.reduceToNat, Int.reduceEq, ↓reduceIte, reduceCtorEq, Nat.reducePow, Nat.reduceAdd, Nat.reduceLeDiff, Nat.reduceLT, Nat.reduceSub, Nat.reduceEqDiff], by simp only [f1, eES, Nat.reduceBEq, Int.reduceLE, Int.reduceLT, Int.reduceToNat, Int.reduceEq, ↓reduceIte, reduceCtorEq, Nat.reducePow, Nat.reduceAdd, Nat.reduceLeDiff, Nat.reduceLT, Nat.reduceSub, Nat.reduceEqDiff], by simp only [f2, eES, Nat.reduceBEq, Int.reduceLE, Int.reduceLT, Int.reduceToNat, Int.reduceEq, ↓reduceIte, reduceCtorEq, Nat.reducePow, Nat.reduceAdd, Nat.reduceLeDiff, Nat.reduceLT, Nat.reduceSub, Nat.reduceEqDiff], by simp only [f3, eES, Nat.reduceBEq, Int.reduceLE, Int.reduceLT, Int.reduceToNat, Int.reduceEq, ↓reduceIte, reduceCtorEq, Nat.reducePow, Nat.reduceAdd, Nat.reduceLeDiff, Nat.reduceLT, Nat.reduceSub, Nat.reduceEqDiff], by simp only [f4, eES, Nat.reduceBEq, Int.reduceLE, Int.reduceLT, Int.reduceToNat, Int.reduceEq, ↓reduceIte, reduceCtorEq, Nat.reducePow, Nat.reduceAdd, Nat.reduceLeDiff, Nat.reduceLT, Nat.reduceSub, Nat.reduceEqDiff], by simp only [f18, eES, Nat.reduceBEq, Int.reduceLE, Int.reduceLT, Int.reduceToNat, Int.reduceEq, ↓reduceIte, reduceCtorEq, Nat.reducePow, Nat.reduceAdd, Nat.reduceLeDiff, Nat.reduceLT, Nat.reduceSub, Nat.reduceEqDiff], by simp only [f19, eES, Nat.reduceBEq, Int.reduceLE, Int.reduceLT, Int.reduceToNat, Int.reduceEq, ↓reduceIte, reduceCtorEq, Nat.reducePow, Nat.reduceAdd, Nat.reduceLeDiff, Nat.reduceLT, Nat.reduceSub, Nat.reduceEqDiff], by simp only [f22, eES, Nat.reduceBEq, Int.reduceLE, Int.reduceLT, Int.reduceToNat, Int.reduceEq, ↓reduceIte, reduceCtorEq, Nat.reducePow, Nat.reduceAdd, Nat.reduceLeDiff, Nat.reduceLT, Nat.reduceSub, Nat.reduceEqDiff], by simp only [eES, Nat.reduceBEq, Int.reduceLE, Int.reduceLT, Int.reduceToNat, Int.reduceEq, ↓reduceIte, reduceCtorEq, Nat.reducePow, Nat.reduceAdd, Nat.reduceLeDiff, Nat.reduceLT, Nat.reduceSub, Nat.reduceEqDiff], by simp only [f21, eES, Nat.reduceBEq, Int.reduceLE, Int.reduceLT, Int.reduceToNat, Int.reduceEq, ↓reduceIte, reduceCtorEq, Nat.reducePow, Nat.reduceAdd, Nat.reduceLeDiff, Nat.reduceLT, Nat.reduceSub, Nat.reduceEqDiff]⟩
    · have d0 : decide ((i : Int) < (j : Int)) = false := by simp only [decide_eq_false_iff_not]; omega
      have hij' : j = i := by omega
      subst hij'
      simp only [d0, f0, f4, f20, f21, f22, eES, Nat.reduceBEq, Int.reduceLE, Int.reduceLT, Int.reduceToNat, Int.reduceEq, ↓reduceIte, reduceCtorEq, Nat.reducePow, Nat.reduceAdd, Nat.reduceLeDiff, Nat.reduceLT, Nat.reduceSub, Nat.reduceEqDiff]
      refine hQ _ j (by omega) (by omega) (two_fall hc.sw sX sY hsi hj (by omega) (by omega) hr hs hs2 hr2 hp hq) ?_ ?_ ?_ ?_ ?_ ?_ ?_ ?_
      · simp only [f0, eES, Nat.reduceBEq, Int.reduceLE, Int.reduceLT, Int.reduceToNat, Int.reduceEq, ↓reduceIte, reduceCtorEq, Nat.reducePow, Nat.reduceAdd, Nat.reduceLeDiff, Nat.reduceLT, Nat.reduceSub, Nat.reduceEqDiff]
      · simp only [f1, eES, Nat.reduceBEq, Int.reduceLE, Int.reduceLT, Int.reduceToNat, Int.reduceEq, ↓reduceIte, reduceCtorEq, Nat.reducePow, Nat.reduceAdd, Nat.reduceLeDiff, Nat.reduceLT, Nat.reduceSub, Nat.reduceEqDiff]
      · simp only [f2, eES, Nat.reduceBEq, Int.reduceLE, Int.reduceLT, Int.reduceToNat, Int.reduceEq, ↓reduceIte, reduceCtorEq, Nat.reducePow, Nat.reduceAdd, Nat.reduceLeDiff, Nat.reduceLT, Nat.reduceSub, Nat.reduceEqDiff]
      · simp only [f3, eES, Nat.reduceBEq, Int.reduceLE, Int.reduceLT, Int.reduceToNat, Int.reduceEq, ↓reduceIte, reduceCtorEq, Nat.reducePow, Nat.reduceAdd, Nat.reduceLeDiff, Nat.reduceLT, Nat.reduceSub, Nat.reduceEqDiff]
      · simp only [f4, eES, Nat.reduceBEq, Int.reduceLE, Int.reduceLT, Int.reduceToNat, Int.reduceEq, ↓reduceIte, reduceCtorEq, Nat.reducePow, Nat.reduceAdd, Nat.reduceLeDiff, Nat.reduceLT, Nat.reduceSub, Nat.reduceEqDiff]
      · simp only [f18, eES, Nat.reduceBEq, Int.reduceLE, Int.reduceLT, Int.reduceToNat, Int.reduceEq, ↓reduceIte, reduceCtorEq, Nat.reducePow, Nat.reduceAdd, Nat.reduceLeDiff, Nat.reduceLT, Nat.reduceSub, Nat.reduceEqDiff]
      · simp only [f19, eES, Nat.reduceBEq, Int.reduceLE, Int.reduceLT, Int.reduceToNat, Int.reduceEq, ↓reduceIte, reduceCtorEq, Nat.reducePow, Nat.reduceAdd, Nat.reduceLeDiff, Nat.reduceLT, Nat.reduceSub, Nat.reduceEqDiff]
      · simp only [f20, eES, Nat.reduceBEq, Int.reduceLE, Int.reduceLT, Int.reduceToNat, Int.reduceEq, ↓reduceIte, reduceCtorEq, Nat.reducePow, Nat.reduceAdd, Nat.reduceLeDiff, Nat.reduceLT, Nat.reduceSub, Nat.reduceEqDiff]
  have hb1 : mid ≤ P.length + X.length + Y.length := by omega
  have fin : ∀ (f : Fr) (t : Nat), P.length ≤ t → t ≤ mid → t ≤ P.length + X.length → mid - t ≤ Y.length → mg (lt c) X Y = mg (lt c) (X.take (t - P.length)) (Y.take (mid - t)) ++ mg (lt c) (X.drop (t - P.length)) (Y.drop (mid - t)) →
        f 0 = .vec (lv + 1) s g 0 N false → f 1 = .int .i64 (P.length : Nat) → f 2 = .int .i64 ((P.length + X.length : Nat) : Int) → f 3 = .int .i64 ((P.length + X.length + Y.length : Nat) : Int) → f 4 = .fn (.func kc) [] [] →
        f 18 = .int .i64 (mid : Nat) → f 19 = .int .i64 ((mid + (P.length + X.length) : Nat) : Int) → f 20 = .int .i64 (t : Nat) →
      awp Try.prog (.seq (.reg g71_38) (.seq (.seq (.reg g71_39) (.cond (.t 185) (.reg g71_40) (.skip))) (.seq (.seq (.reg g71_41) (.cond (.t 199) (.reg g71_42) (.skip))) (.seq (.reg g71_43) (.cond (.t 213) (.reg g71_44) (.skip)))))) ⟨f, noObs :: Am.put m lv s (.vec g 4 (P ++ X ++ Y ++ S)), []⟩
      (AEnds o71 m.length (fun v m1 => v = .tup [] ∧ m1 = Am.put m lv s (.vec g 4 (P ++ mg (lt c) X Y ++ S)))) := by
    intro f t h1 h2 h3 h4 hmg f0 f1 f2 f3 f4 f18 f19 f20
    have l1 : (X.take (t - P.length)).length = t - P.length := by rw [List.length_take]; omega
    have l2 : (X.drop (t - P.length)).length = P.length + X.length - t := by rw [List.length_drop]; omega
    have l3 : (Y.take (mid - t)).length = mid - t := by rw [List.length_take]; omega
    have l4 : (Y.drop (mid - t)).length = Y.length - (mid - t) := by rw [List.length_drop]
    have hrow : P ++ X.take (t - P.length) ++ X.drop (t - P.length) ++ Y.take (mid - t) ++ (Y.drop (mid - t) ++ S) = P ++ X ++ Y ++ S := by
      rw [List.append_assoc P, List.take_append_drop, ← List.append_assoc _ _ S, List.append_assoc (P ++ X), List.take_append_drop]
    have := tail1 (kc := kc) (c := c) (nn := nn) (lv := lv) (s := s) (g := g) (N := N) (P := P) (X1 := X.take (t - P.length)) (X2 := X.drop (t - P.length)) (Y1 := Y.take (mid - t)) (Y2 := Y.drop (mid - t)) (S := S) (m := m) (f := f) ih
      (by rw [l1, l3]; omega) (by rw [l2, l4]; omega) hlv (by rw [hrow]; exact he) (by rw [hrow, hN]) hn
      (List.Pairwise.sublist (List.take_sublist _ _) sX) (List.Pairwise.sublist (List.take_sublist _ _) sY) (List.Pairwise.sublist (List.drop_sublist _ _) sX) (List.Pairwise.sublist (List.drop_sublist _ _) sY)
      f0 f1 (by rw [f2, l1, l2]; congr 2; omega) (by rw [f3, l1, l2, l3, l4]; congr 2; omega) f4 (by rw [f18, l1, l3]; congr 2; omega) (by rw [f19, l1, l2, l3]; congr 2; omega) (by rw [f20, l1]; congr 2; omega)
    rw [hrow, ← hmg] at this
    exact this
  by_cases hgt : mid < P.length + X.length
  · have d0 : decide (((P.length + X.length : Nat) : Int) > (mid : Int)) = true := by simp only [decide_eq_true_eq]; omega
    have hmy : Y.length ≤ mid := by omega
    have e6' := e6.resolve_right (by omega)
    simp only [d0, e6', e7, eES, Nat.reduceBEq, Int.reduceLE, Int.reduceLT, Int.reduceToNat, Int.reduceEq, ↓reduceIte, reduceCtorEq, Nat.reducePow, Nat.reduceAdd, Nat.reduceLeDiff, Nat.reduceLT, Nat.reduceSub, Nat.reduceEqDiff]
    refine main _ _ (mid + (P.length + X.length) - (P.length + X.length + Y.length)) mid (by omega) (by omega) (.inl rfl) (.inl (by omega)) (by omega) (by omega) (by omega) ?_ ?_ ?_ ?_ ?_ ?_ ?_ ?_ ?_ ?_ ?_
    case refine_11 =>
      intro f t h1 h2 hmg f0 f1 f2 f3 f4 f18 f19 f20
      rw [e_kb_x, if_pos rfl, e_kc_n]
      exact fin f t (by omega) (by omega) (by omega) (by omega) hmg f0 f1 f2 f3 f4 f18 f19 f20
    all_goals simp only [eES, Nat.reduceBEq, Int.reduceLE, Int.reduceLT, Int.reduceToNat, Int.reduceEq, ↓reduceIte, reduceCtorEq, Nat.reducePow, Nat.reduceAdd, Nat.reduceLeDiff, Nat.reduceLT, Nat.reduceSub, Nat.reduceEqDiff]
  · have d0 : decide (((P.length + X.length : Nat) : Int) > (mid : Int)) = false := by simp only [decide_eq_false_iff_not]; omega
    simp only [d0, e7, eES, Nat.reduceBEq, Int.reduceLE, Int.reduceLT, Int.reduceToNat, Int.reduceEq, ↓reduceIte, reduceCtorEq, Nat.reducePow, Nat.reduceAdd, Nat.reduceLeDiff, Nat.reduceLT, Nat.reduceSub, Nat.reduceEqDiff]
    refine main _ _ P.length (P.length + X.length) (by omega) (by omega) (.inr rfl) (.inr rfl) (by omega) (by omega) (by omega) ?_ ?_ ?_ ?_ ?_ ?_ ?_ ?_ ?_ ?_ ?_
    case refine_11 =>
      intro f t h1 h2 hmg f0 f1 f2 f3 f4 f18 f19 f20
      rw [e_kb_x, if_pos rfl, e_kc_n]
      exact fin f t (by omega) (by omega) (by omega) (by omega) hmg f0 f1 f2 f3 f4 f18 f19 f20
    all_goals simp only [eES, Nat.reduceBEq, Int.reduceLE, Int.reduceLT, Int.reduceToNat, Int.reduceEq, ↓reduceIte, reduceCtorEq, Nat.reducePow, Nat.reduceAdd, Nat.reduceLeDiff, Nat.reduceLT, Nat.reduceSub, Nat.reduceEqDiff]

theorem sym {kc : Nat} {c : AV → AV → Int} (hc : Cp E kc c) : ∀ n, SymOk E kc c n := by
  intro n
  induction n using Nat.strongRecOn with
  | _ n ih =>
  intro lv s g P X Y S m hXY hX hY hl he hn sX sY
  by_cases h1 : X.length = 1
  · obtain ⟨x, rfl⟩ := List.length_eq_one_iff.1 h1
    exact symA hc lv s g P x Y S m hl he hn sY
  · by_cases h2 : Y.length = 1
    · obtain ⟨y, rfl⟩ := List.length_eq_one_iff.1 h2
      exact symB hc lv s g P X y S m hl he hn sX h1
    · exact symC hc n ih lv s g P X Y S m hXY (by omega) (by omega) hl he hn sX sY

end Go.Proofs.Ytcmdlmcmefbkeaa.Ta

/- A row that is sorted stably. -/
set_option linter.unusedSimpArgs false
namespace Go.Proofs.Ytcmdlmcmefbkeaa.Ta
open Go Am Rc Bt So

variable {E : AV → Prop}

theorem in_call {kc : Nat} {c : AV → AV → Int} (hc : Cp E kc c) {fr : Nat → Ob} {lv s g N a b : Nat} (P X S : List AV) {m : Mem} (hlv : lv < m.length) (he : ∀ x ∈ P ++ X ++ S, Ez E 4 x)
    (hn : (P ++ X ++ S).length < 4611686018427387904) (hN : N = (P ++ X ++ S).length) (ha : a = P.length) (hb : b = P.length + X.length) :
    ACalls Try.prog 70 [.vec (lv + 1) s g 0 N false, .int .i64 (a : Nat), .int .i64 (b : Nat), .fn (.func kc) [] []] (fr :: Am.put m lv s (.vec g 4 (P ++ X ++ S)))
      (fun x m1 => x = .tup [] ∧ m1 = fr :: Am.put m lv s (.vec g 4 (P ++ isort (lt c) X ++ S))) := by
  subst hN ha hb
  refine (c70 hc (lv + 1) s g P X S (fr :: Am.put m lv s (.vec g 4 (P ++ X ++ S))) (look_put_same (m := m) hlv) he hn).mono fun x m1 h => ⟨h.1, ?_⟩
  rw [h.2]
  simp only [Am.put, put_put]

def St1 (m : Mem) (lv s g : Nat) (kc : Nat) (c : AV → AV → Int) (xs : List AV) (k : Nat) (st : St) : Prop :=
  ∃ f i, st = ⟨f, [noObs] ++ Am.put m lv s (.vec g 4 (blk (lt c) 20 i xs ++ xs.drop (20 * i))), []⟩ ∧ k = xs.length - 20 * i ∧ 20 * i ≤ xs.length ∧
    f 0 = .vec (lv + 1) s g 0 xs.length false ∧ f 1 = .int .i64 (xs.length : Nat) ∧ f 2 = .fn (.func kc) [] [] ∧ f 6 = .int .i64 20 ∧ f 7 = .int .i64 ((20 * i : Nat) : Int) ∧ f 8 = .int .i64 ((20 * (i + 1) : Nat) : Int)

def St2 (m : Mem) (lv s g : Nat) (kc : Nat) (c : AV → AV → Int) (xs : List AV) (k : Nat) (st : St) : Prop :=
  ∃ f b n, st = ⟨f, [noObs] ++ Am.put m lv s (.vec g 4 (blk (lt c) b n xs)), []⟩ ∧ k = xs.length - b ∧ 0 < b ∧ b < 2305843009213693952 ∧ xs.length ≤ b * n ∧
    f 0 = .vec (lv + 1) s g 0 xs.length false ∧ f 1 = .int .i64 (xs.length : Nat) ∧ f 2 = .fn (.func kc) [] [] ∧ f 6 = .int .i64 (b : Nat)

def St3 (m : Mem) (lv s g : Nat) (kc : Nat) (c : AV → AV → Int) (xs : List AV) (b : Nat) (k : Nat) (st : St) : Prop :=
  ∃ f i n, st = ⟨f, [noObs] ++ Am.put m lv s (.vec g 4 (blk (lt c) (2 * b) i xs ++ blk (lt c) b n (xs.drop (2 * b * i)))), []⟩ ∧ k = xs.length - 2 * b * i ∧ 2 * b * i ≤ xs.length ∧ xs.length - 2 * b * i ≤ b * n ∧
    f 0 = .vec (lv + 1) s g 0 xs.length false ∧ f 1 = .int .i64 (xs.length : Nat) ∧ f 2 = .fn (.func kc) [] [] ∧ f 6 = .int .i64 (b : Nat) ∧ f 7 = .int .i64 ((2 * b * i : Nat) : Int) ∧ f 8 = .int .i64 ((2 * b * (i + 1) : Nat) : Int)

set_option maxHeartbeats 1000000 in
theorem c63 {kc : Nat} {c : AV → AV → Int} (hc : Cp E kc c) (lv s g : Nat) (xs : List AV) (m : Mem) (hl : Am.look m lv s = .vec g 4 xs) (he : ∀ x ∈ xs, Ez E 4 x)
    (hn : xs.length < 1152921504606846976) :
    ACalls Try.prog 63 [.vec lv s g 0 xs.length false, .int .i64 (xs.length : Nat), .fn (.func kc) [] []] m
      (fun x m1 => x = .tup [] ∧ m1 = Am.put m lv s (.vec g 4 (isort (lt c) xs))) := by
  have hlv : lv < m.length := look_lt (by rw [hl]; simp)
  refine acalls_of_awp (rc := r63) (rs := o63) Try.func63 rfl rfl Try.ntmps63 k63 q63 (by simp) ?_
  have h0 : m = Am.put m lv s (.vec g 4 xs) := (put_self hl).symm
  simp only [r63, g63_0, g63_1, eES, Nat.reduceBEq, Int.reduceLE, Int.reduceLT, Int.reduceToNat, Int.reduceEq, ↓reduceIte, reduceCtorEq, Nat.reducePow, Nat.reduceAdd, Nat.reduceLeDiff, Nat.reduceLT, Nat.reduceSub, Nat.reduceEqDiff]
  refine awp_loop (St1 m lv s g kc c xs) _ ⟨_, 0, by rw [show blk (lt c) 20 0 xs ++ xs.drop (20 * 0) = xs by simp [blk], ← h0] <;> rfl, rfl, by omega, by simp only [eES, Nat.reduceBEq, Int.reduceLE, Int.reduceLT, Int.reduceToNat, Int.reduceEq, ↓reduceIte, reduceCtorEq, Nat.reducePow, Nat.reduceAdd, Nat.reduceLeDiff, Nat.reduceLT, Nat.reduceSub, Nat.reduceEqDiff], by simp only [eES, Nat.reduceBEq, Int.reduceLE, Int.reduceLT, Int.reduceToNat, Int.reduceEq, ↓reduceIte, reduceCtorEq, Nat.reducePow, Nat.reduceAdd, Nat.reduceLeDiff, Nat.reduceLT, Nat.reduceSub, Nat.reduceEqDiff], by simp only [eES, Nat.reduceBEq, Int.reduceLE, Int.reduceLT, Int.reduceToNat, Int.reduceEq, ↓reduceIte, reduceCtorEq, Nat.reducePow, Nat.reduceAdd, Nat.reduceLeDiff, Nat.reduceLT, Nat.reduceSub, Nat.reduceEqDiff], by simp only [eES, Nat.reduceBEq, Int.reduceLE, Int.reduceLT, Int.reduceToNat, Int.reduceEq, ↓reduceIte, reduceCtorEq, Nat.reducePow, Nat.reduceAdd, Nat.reduceLeDiff, Nat.reduceLT, Nat.reduceSub, Nat.reduceEqDiff], by simp only [eES, Nat.reduceBEq, Int.reduceLE, Int.reduceLT, Int.reduceToNat, Int.reduceEq, ↓reduceIte, reduceCtorEq, Nat.reducePow, Nat.reduceAdd, Nat.reduceLeDiff, Nat.reduceLT, Nat.reduceSub, Nat.reduceEqDiff] <;> rfl, by simp only [eES, Nat.reduceBEq, Int.reduceLE, Int.reduceLT, Int.reduceToNat, Int.reduceEq, ↓reduceIte, reduceCtorEq, Nat.reducePow, Nat.reduceAdd, Nat.reduceLeDiff, Nat.reduceLT, Nat.reduceSub, Nat.reduceEqDiff] <;> rfl⟩ ?_
  clear h0
  rintro k st ⟨f, i, rfl, rfl, hi, f0, f1, f2, f6, f7, f8⟩
  simp only [l63_0, g63_2, f0, f1, f2, f6, f7, f8, List.singleton_append, eES, Nat.reduceBEq, Int.reduceLE, Int.reduceLT, Int.reduceToNat, Int.reduceEq, ↓reduceIte, reduceCtorEq, Nat.reducePow, Nat.reduceAdd, Nat.reduceLeDiff, Nat.reduceLT, Nat.reduceSub, Nat.reduceEqDiff]
  have hbl : (blk (lt c) 20 i xs).length = 20 * i := by rw [len_blk]; omega
  by_cases hlt : 20 * (i + 1) ≤ xs.length
  · have d0 : decide (((20 * (i + 1) : Nat) : Int) ≤ (xs.length : Int)) = true := by simp only [decide_eq_true_eq]; omega
    have e1 : IntKind.i64.wrap (((20 * (i + 1) : Nat) : Int) + 20) = ((20 * (i + 1 + 1) : Nat) : Int) := by rw [wi64]; omega
    have hcut : blk (lt c) 20 i xs ++ xs.drop (20 * i) = blk (lt c) 20 i xs ++ (xs.drop (20 * i)).take 20 ++ xs.drop (20 * (i + 1)) := by
      rw [List.append_assoc, show 20 * (i + 1) = 20 * i + 20 by omega, ← List.drop_drop, List.take_append_drop]
    have hx1 : ((xs.drop (20 * i)).take 20).length = 20 := by rw [List.length_take, List.length_drop]; omega
    have hee : ∀ x ∈ blk (lt c) 20 i xs ++ (xs.drop (20 * i)).take 20 ++ xs.drop (20 * (i + 1)), Ez E 4 x := by
      intro x hx
      refine he x ?_
      rcases List.mem_append.1 hx with hx | hx
      · rcases List.mem_append.1 hx with hx | hx
        · exact mem_blk hx
        · exact List.mem_of_mem_drop (List.mem_of_mem_take hx)
      · exact List.mem_of_mem_drop hx
    have hNN : (blk (lt c) 20 i xs ++ (xs.drop (20 * i)).take 20 ++ xs.drop (20 * (i + 1))).length = xs.length := by
      rw [List.length_append, List.length_append, hx1, hbl, List.length_drop]; omega
    simp only [d0, hcut, g63_3, f0, f1, f2, f6, f7, f8, eES, Nat.reduceBEq, Int.reduceLE, Int.reduceLT, Int.reduceToNat, Int.reduceEq, ↓reduceIte, reduceCtorEq, Nat.reducePow, Nat.reduceAdd, Nat.reduceLeDiff, Nat.reduceLT, Nat.reduceSub, Nat.reduceEqDiff]
    refine aops_callF (in_call hc (a := 20 * i) (b := 20 * (i + 1)) (blk (lt c) 20 i xs) ((xs.drop (20 * i)).take 20) (xs.drop (20 * (i + 1))) hlv hee (by omega) hNN.symm hbl.symm (by rw [hbl, hx1]; omega)) rfl ?_
    simp only [g63_4, g63_5, e1, f0, f1, f2, f6, f7, f8, eES, Nat.reduceBEq, Int.reduceLE, Int.reduceLT, Int.reduceToNat, Int.reduceEq, ↓reduceIte, reduceCtorEq, Nat.reducePow, Nat.reduceAdd, Nat.reduceLeDiff, Nat.reduceLT, Nat.reduceSub, Nat.reduceEqDiff]
    exact ⟨xs.length - 20 * (i + 1), by omega, _, i + 1, by rw [blk_snoc] <;> rfl, rfl, hlt, by simp only [f0, eES, Nat.reduceBEq, Int.reduceLE, Int.reduceLT, Int.reduceToNat, Int.reduceEq, ↓reduceIte, reduceCtorEq, Nat.reducePow, Nat.reduceAdd, Nat.reduceLeDiff, Nat.reduceLT, Nat.reduceSub, Nat.reduceEqDiff], by simp only [f1, eES, Nat.reduceBEq, Int.reduceLE, Int.reduceLT, Int.reduceToNat, Int.reduceEq, ↓reduceIte, reduceCtorEq, Nat.reducePow, Nat.reduceAdd, Nat.reduceLeDiff, Nat.reduceLT, Nat.reduceSub, Nat.reduceEqDiff], by simp only [f2, eES, Nat.reduceBEq, Int.reduceLE, Int.reduceLT, Int.reduceToNat, Int.reduceEq, ↓reduceIte, reduceCtorEq, Nat.reducePow, Nat.reduceAdd, Nat.reduceLeDiff, Nat.reduceLT, Nat.reduceSub, Nat.reduceEqDiff], by simp only [f6, eES, Nat.reduceBEq, Int.reduceLE, Int.reduceLT, Int.reduceToNat, Int.reduceEq, ↓reduceIte, reduceCtorEq, Nat.reducePow, Nat.reduceAdd, Nat.reduceLeDiff, Nat.reduceLT, Nat.reduceSub, Nat.reduceEqDiff], by simp only [eES, Nat.reduceBEq, Int.reduceLE, Int.reduceLT, Int.reduceToNat, Int.reduceEq, ↓reduceIte, reduceCtorEq, Nat.reducePow, Nat.reduceAdd, Nat.reduceLeDiff, Nat.reduceLT, Nat.reduceSub, Nat.reduceEqDiff], by simp only [eES, Nat.reduceBEq, Int.reduceLE, Int.reduceLT, Int.reduceToNat, Int.reduceEq, ↓reduceIte, reduceCtorEq, Nat.reducePow, Nat.reduceAdd, Nat.reduceLeDiff, Nat.reduceLT, Nat.reduceSub, Nat.reduceEqDiff]⟩
  · have d0 : decide (((20 * (i + 1) : Nat) : Int) ≤ (xs.length : Int)) = false := by simp only [decide_eq_false_iff_not]; omega
    have hee : ∀ x ∈ blk (lt c) 20 i xs ++ xs.drop (20 * i) ++ [], Ez E 4 x := by
      intro x hx
      refine he x ?_
      rw [List.append_nil] at hx
      rcases List.mem_append.1 hx with hx | hx
      · exact mem_blk hx
      · exact List.mem_of_mem_drop hx
    have hNN : (blk (lt c) 20 i xs ++ xs.drop (20 * i) ++ []).length = xs.length := by
      rw [List.append_nil, List.length_append, hbl, List.length_drop]; omega
    have hic := in_call hc (fr := noObs) (g := g) (s := s) (N := xs.length) (a := 20 * i) (b := xs.length) (blk (lt c) 20 i xs) (xs.drop (20 * i)) [] hlv hee (by omega) hNN.symm hbl.symm (by rw [hbl, List.length_drop]; omega)
    have hsn : blk (lt c) 20 i xs ++ isort (lt c) (xs.drop (20 * i)) = blk (lt c) 20 (i + 1) xs := by
      rw [blk_snoc, List.take_of_length_le (by rw [List.length_drop]; omega)]
    rw [List.append_nil, List.append_nil, hsn] at hic
    simp only [d0, g63_6, f0, f1, f2, f6, f7, f8, eES, Nat.reduceBEq, Int.reduceLE, Int.reduceLT, Int.reduceToNat, Int.reduceEq, ↓reduceIte, reduceCtorEq, Nat.reducePow, Nat.reduceAdd, Nat.reduceLeDiff, Nat.reduceLT, Nat.reduceSub, Nat.reduceEqDiff]
    refine aops_callF hic rfl ?_
    simp only [eES, Nat.reduceBEq, Int.reduceLE, Int.reduceLT, Int.reduceToNat, Int.reduceEq, ↓reduceIte, reduceCtorEq, Nat.reducePow, Nat.reduceAdd, Nat.reduceLeDiff, Nat.reduceLT, Nat.reduceSub, Nat.reduceEqDiff]
    refine awp_loop (St2 m lv s g kc c xs) _ ⟨_, 20, i + 1, rfl, rfl, by omega, by omega, by omega, by simp only [f0, eES, Nat.reduceBEq, Int.reduceLE, Int.reduceLT, Int.reduceToNat, Int.reduceEq, ↓reduceIte, reduceCtorEq, Nat.reducePow, Nat.reduceAdd, Nat.reduceLeDiff, Nat.reduceLT, Nat.reduceSub, Nat.reduceEqDiff], by simp only [f1, eES, Nat.reduceBEq, Int.reduceLE, Int.reduceLT, Int.reduceToNat, Int.reduceEq, ↓reduceIte, reduceCtorEq, Nat.reducePow, Nat.reduceAdd, Nat.reduceLeDiff, Nat.reduceLT, Nat.reduceSub, Nat.reduceEqDiff], by simp only [f2, eES, Nat.reduceBEq, Int.reduceLE, Int.reduceLT, Int.reduceToNat, Int.reduceEq, ↓reduceIte, reduceCtorEq, Nat.reducePow, Nat.reduceAdd, Nat.reduceLeDiff, Nat.reduceLT, Nat.reduceSub, Nat.reduceEqDiff], by simp only [f6, eES, Nat.reduceBEq, Int.reduceLE, Int.reduceLT, Int.reduceToNat, Int.reduceEq, ↓reduceIte, reduceCtorEq, Nat.reducePow, Nat.reduceAdd, Nat.reduceLeDiff, Nat.reduceLT, Nat.reduceSub, Nat.reduceEqDiff] <;> rfl⟩ ?_
    clear f0 f1 f2 f6 f7 f8 hic hsn hNN hee d0 hlt hbl hi f i
    rintro k st ⟨f, b, n, rfl, rfl, hb0, hb1, hbn, f0, f1, f2, f6⟩
    simp only [l63_2, g63_7, f0, f1, f2, f6, List.singleton_append, eES, Nat.reduceBEq, Int.reduceLE, Int.reduceLT, Int.reduceToNat, Int.reduceEq, ↓reduceIte, reduceCtorEq, Nat.reducePow, Nat.reduceAdd, Nat.reduceLeDiff, Nat.reduceLT, Nat.reduceSub, Nat.reduceEqDiff]
    by_cases hlt : b < xs.length
    · have d0 : decide ((b : Int) < (xs.length : Int)) = true := by simp only [decide_eq_true_eq]; omega
      have e1 : IntKind.i64.wrap (2 * (b : Int)) = ((2 * b : Nat) : Int) := by rw [wi64]; omega
      have e1' : IntKind.i64.wrap ((b : Int) * 2) = ((2 * b : Nat) : Int) := by rw [wi64]; omega
      simp only [d0, g63_8, e1, f0, f1, f2, f6, eES, Nat.reduceBEq, Int.reduceLE, Int.reduceLT, Int.reduceToNat, Int.reduceEq, ↓reduceIte, reduceCtorEq, Nat.reducePow, Nat.reduceAdd, Nat.reduceLeDiff, Nat.reduceLT, Nat.reduceSub, Nat.reduceEqDiff]
      refine awp_loop (St3 m lv s g kc c xs b) _ ⟨_, 0, n, by simp only [blk, Nat.mul_zero, List.drop_zero, List.nil_append] <;> rfl, rfl, by omega, by omega, by simp only [f0, eES, Nat.reduceBEq, Int.reduceLE, Int.reduceLT, Int.reduceToNat, Int.reduceEq, ↓reduceIte, reduceCtorEq, Nat.reducePow, Nat.reduceAdd, Nat.reduceLeDiff, Nat.reduceLT, Nat.reduceSub, Nat.reduceEqDiff], by simp only [f1, eES, Nat.reduceBEq, Int.reduceLE, Int.reduceLT, Int.reduceToNat, Int.reduceEq, ↓reduceIte, reduceCtorEq, Nat.reducePow, Nat.reduceAdd, Nat.reduceLeDiff, Nat.reduceLT, Nat.reduceSub, Nat.reduceEqDiff], by simp only [f2, eES, Nat.reduceBEq, Int.reduceLE, Int.reduceLT, Int.reduceToNat, Int.reduceEq, ↓reduceIte, reduceCtorEq, Nat.reducePow, Nat.reduceAdd, Nat.reduceLeDiff, Nat.reduceLT, Nat.reduceSub, Nat.reduceEqDiff], by simp only [f6, eES, Nat.reduceBEq, Int.reduceLE, Int.reduceLT, Int.reduceToNat, Int.reduceEq, ↓reduceIte, reduceCtorEq, Nat.reducePow, Nat.reduceAdd, Nat.reduceLeDiff, Nat.reduceLT, Nat.reduceSub, Nat.reduceEqDiff], by simp only [eES, Nat.reduceBEq, Int.reduceLE, Int.reduceLT, Int.reduceToNat, Int.reduceEq, ↓reduceIte, reduceCtorEq, Nat.reducePow, Nat.reduceAdd, Nat.reduceLeDiff, Nat.reduceLT, Nat.reduceSub, Nat.reduceEqDiff] <;> rfl, by simp only [Nat.zero_add, Nat.mul_one, eES, Nat.reduceBEq, Int.reduceLE, Int.reduceLT, Int.reduceToNat, Int.reduceEq, ↓reduceIte, reduceCtorEq, Nat.reducePow, Nat.reduceAdd, Nat.reduceLeDiff, Nat.reduceLT, Nat.reduceSub, Nat.reduceEqDiff]⟩ ?_
      clear f0 f1 f2 f6 f
      rintro k st ⟨f, i, n', rfl, rfl, hi, hn', f0, f1, f2, f6, f7, f8⟩
      have hA1 : 2 * b * (i + 1) = 2 * b * i + 2 * b := Nat.mul_succ _ _
      have hA2 : 2 * b * (i + 1 + 1) = 2 * b * i + 2 * b + 2 * b := by rw [Nat.mul_succ, hA1]
      have hbl : (blk (lt c) (2 * b) i xs).length = 2 * b * i := by rw [len_blk]; omega
      have hsnoc := blk_snoc (lt := lt c) (2 * b) i xs
      rw [hA1] at f8
      clear hbn
      generalize hA : 2 * b * i = A at *
      simp only [l63_1, g63_9, f0, f1, f2, f6, f7, f8, List.singleton_append, eES, Nat.reduceBEq, Int.reduceLE, Int.reduceLT, Int.reduceToNat, Int.reduceEq, ↓reduceIte, reduceCtorEq, Nat.reducePow, Nat.reduceAdd, Nat.reduceLeDiff, Nat.reduceLT, Nat.reduceSub, Nat.reduceEqDiff]
      generalize hL : xs.drop A = L at *
      have hLl : L.length = xs.length - A := by rw [← hL, List.length_drop]
      have hLe : ∀ z ∈ L, Ez E 4 z := fun z hz => he z (List.mem_of_mem_drop (by rw [hL]; exact hz))
      have hPe : ∀ z ∈ blk (lt c) (2 * b) i xs, Ez E 4 z := fun z hz => he z (mem_blk hz)
      have e2 : IntKind.i64.wrap (((A : Nat) : Int) + (b : Int)) = ((A + b : Nat) : Int) := by rw [wi64]; omega
      -- two blocks and the rest
      have two : b < L.length → ∃ n'', n' = n'' + 2 ∧ blk (lt c) b n' L = isort (lt c) (L.take b) ++ isort (lt c) ((L.drop b).take b) ++ blk (lt c) b n'' (L.drop (2 * b)) ∧ mg (lt c) (isort (lt c) (L.take b)) (isort (lt c) ((L.drop b).take b)) = isort (lt c) (L.take (2 * b)) := by
        intro h
        match n', hn' with
        | 0, hn' => omega
        | 1, hn' => omega
        | n'' + 2, _ =>
          refine ⟨n'', rfl, ?_, ?_⟩
          · rw [blk, blk, List.append_assoc, List.drop_drop, show b + b = 2 * b by omega]
          · rw [mg_isort hc.sw, take_two]
      by_cases hlt2 : A + 2 * b ≤ xs.length
      · have d1 : decide (((A + 2 * b : Nat) : Int) ≤ (xs.length : Int)) = true := by simp only [decide_eq_true_eq]; omega
        obtain ⟨n'', rfl, hrow, hmg⟩ := two (by omega)
        have hn2 : b * (n'' + 2) = b * n'' + 2 * b := by rw [Nat.mul_add, Nat.mul_comm b 2]
        rw [hn2] at hn'
        clear two
        generalize hZ : b * n'' = Z at *
        have e3 : IntKind.i64.wrap (((A + 2 * b : Nat) : Int) + ((2 * b : Nat) : Int)) = ((A + 2 * b + 2 * b : Nat) : Int) := by
          rw [wi64]; omega
        have l1 : (isort (lt c) (L.take b)).length = b := by rw [len_isort, List.length_take]; omega
        have l2 : (isort (lt c) ((L.drop b).take b)).length = b := by rw [len_isort, List.length_take, List.length_drop]; omega
        have l3 : (blk (lt c) b n'' (L.drop (2 * b))).length = L.length - 2 * b := by
          rw [len_blk, List.length_drop, hZ]
          omega
        have hcut : blk (lt c) (2 * b) i xs ++ blk (lt c) b (n'' + 2) L = blk (lt c) (2 * b) i xs ++ isort (lt c) (L.take b) ++ isort (lt c) ((L.drop b).take b) ++ blk (lt c) b n'' (L.drop (2 * b)) := by
          rw [hrow]; simp only [List.append_assoc]
        have hee : ∀ x ∈ blk (lt c) (2 * b) i xs ++ isort (lt c) (L.take b) ++ isort (lt c) ((L.drop b).take b) ++ blk (lt c) b n'' (L.drop (2 * b)), Ez E 4 x := by
          rw [← hcut]
          intro x hx
          rcases List.mem_append.1 hx with hx | hx
          · exact hPe x hx
          · exact hLe x (mem_blk hx)
        have hNN : (blk (lt c) (2 * b) i xs ++ isort (lt c) (L.take b) ++ isort (lt c) ((L.drop b).take b) ++ blk (lt c) b n'' (L.drop (2 * b))).length = xs.length := by
          rw [List.length_append, List.length_append, List.length_append, l1, l2, l3, hbl]; omega
        simp only [d1, hcut, e2, g63_10, f0, f1, f2, f6, f7, f8, eES, Nat.reduceBEq, Int.reduceLE, Int.reduceLT, Int.reduceToNat, Int.reduceEq, ↓reduceIte, reduceCtorEq, Nat.reducePow, Nat.reduceAdd, Nat.reduceLeDiff, Nat.reduceLT, Nat.reduceSub, Nat.reduceEqDiff]
        refine aops_callF (sym_call (sym hc _) (a := A) (b := A + b) (e := A + 2 * b) (blk (lt c) (2 * b) i xs) (isort (lt c) (L.take b)) (isort (lt c) ((L.drop b).take b)) (blk (lt c) b n'' (L.drop (2 * b))) hlv rfl (by omega) (by omega) hee (by omega) (srt_isort hc.sw _) (srt_isort hc.sw _) hNN.symm hbl.symm (by rw [hbl, l1]) (by rw [hbl, l1, l2]; omega)) rfl ?_
        simp only [g63_11, g63_12, e1, e3, f0, f1, f2, f6, f7, f8, eES, Nat.reduceBEq, Int.reduceLE, Int.reduceLT, Int.reduceToNat, Int.reduceEq, ↓reduceIte, reduceCtorEq, Nat.reducePow, Nat.reduceAdd, Nat.reduceLeDiff, Nat.reduceLT, Nat.reduceSub, Nat.reduceEqDiff]
        refine ⟨xs.length - (A + 2 * b), by omega, _, i + 1, n'', by rw [hsnoc, hmg, hA1, ← List.drop_drop, hL] <;> rfl, by rw [hA1], by rw [hA1]; exact hlt2, ?_, by simp only [f0, eES, Nat.reduceBEq, Int.reduceLE, Int.reduceLT, Int.reduceToNat, Int.reduceEq, ↓reduceIte, reduceCtorEq, Nat.reducePow, Nat.reduceAdd, Nat.reduceLeDiff, Nat.reduceLT, Nat.reduceSub, Nat.reduceEqDiff], by simp only [f1, eES, Nat.reduceBEq, Int.reduceLE, Int.reduceLT, Int.reduceToNat, Int.reduceEq, ↓reduceIte, reduceCtorEq, Nat.reducePow, Nat.reduceAdd, Nat.reduceLeDiff, Nat.reduceLT, Nat.reduceSub, Nat.reduceEqDiff], by simp only [f2, eES, Nat.reduceBEq, Int.reduceLE, Int.reduceLT, Int.reduceToNat, Int.reduceEq, ↓reduceIte, reduceCtorEq, Nat.reducePow, Nat.reduceAdd, Nat.reduceLeDiff, Nat.reduceLT, Nat.reduceSub, Nat.reduceEqDiff], by simp only [f6, eES, Nat.reduceBEq, Int.reduceLE, Int.reduceLT, Int.reduceToNat, Int.reduceEq, ↓reduceIte, reduceCtorEq, Nat.reducePow, Nat.reduceAdd, Nat.reduceLeDiff, Nat.reduceLT, Nat.reduceSub, Nat.reduceEqDiff], by simp only [hA1, eES, Nat.reduceBEq, Int.reduceLE, Int.reduceLT, Int.reduceToNat, Int.reduceEq, ↓reduceIte, reduceCtorEq, Nat.reducePow, Nat.reduceAdd, Nat.reduceLeDiff, Nat.reduceLT, Nat.reduceSub, Nat.reduceEqDiff], by simp only [hA2, eES, Nat.reduceBEq, Int.reduceLE, Int.reduceLT, Int.reduceToNat, Int.reduceEq, ↓reduceIte, reduceCtorEq, Nat.reducePow, Nat.reduceAdd, Nat.reduceLeDiff, Nat.reduceLT, Nat.reduceSub, Nat.reduceEqDiff]⟩
        · rw [hA1, hZ]
          omega
      · have d1 : decide (((A + 2 * b : Nat) : Int) ≤ (xs.length : Int)) = false := by simp only [decide_eq_false_iff_not]; omega
        have hfin : blk (lt c) (2 * b) i xs ++ isort (lt c) L = blk (lt c) (2 * b) (i + 1) xs := by
          rw [hsnoc, List.take_of_length_le (by omega)]
        simp only [d1, e2, g63_13, g63_14, f0, f1, f2, f6, f7, f8, eES, Nat.reduceBEq, Int.reduceLE, Int.reduceLT, Int.reduceToNat, Int.reduceEq, ↓reduceIte, reduceCtorEq, Nat.reducePow, Nat.reduceAdd, Nat.reduceLeDiff, Nat.reduceLT, Nat.reduceSub, Nat.reduceEqDiff]
        by_cases hm : A + b < xs.length
        · have d2 : decide (((A + b : Nat) : Int) < (xs.length : Int)) = true := by simp only [decide_eq_true_eq]; omega
          obtain ⟨n'', rfl, hrow, hmg⟩ := two (by omega)
          clear two hn'
          have hr0 : L.drop (2 * b) = [] := List.drop_of_length_le (by omega)
          have hr1 : (L.drop b).take b = L.drop b := List.take_of_length_le (by rw [List.length_drop]; omega)
          have hr2 : L.take (2 * b) = L := List.take_of_length_le (by omega)
          rw [hr0, blk_nil, List.append_nil, hr1] at hrow
          rw [hr1, hr2] at hmg
          have l1 : (isort (lt c) (L.take b)).length = b := by rw [len_isort, List.length_take]; omega
          have l2 : (isort (lt c) (L.drop b)).length = L.length - b := by rw [len_isort, List.length_drop]
          have hee : ∀ x ∈ blk (lt c) (2 * b) i xs ++ isort (lt c) (L.take b) ++ isort (lt c) (L.drop b) ++ [], Ez E 4 x := by
            intro x hx
            rw [List.append_nil, List.append_assoc, ← hrow] at hx
            rcases List.mem_append.1 hx with hx | hx
            · exact hPe x hx
            · exact hLe x (mem_blk hx)
          have hNN : (blk (lt c) (2 * b) i xs ++ isort (lt c) (L.take b) ++ isort (lt c) (L.drop b) ++ []).length = xs.length := by
            rw [List.append_nil, List.length_append, List.length_append, l1, l2, hbl]; omega
          have hsc := sym_call (sym hc _) (fr := noObs) (s := s) (g := g) (N := xs.length) (a := A) (b := A + b) (e := xs.length) (blk (lt c) (2 * b) i xs) (isort (lt c) (L.take b)) (isort (lt c) (L.drop b)) [] hlv rfl (by omega) (by omega) hee (by omega) (srt_isort hc.sw _) (srt_isort hc.sw _) hNN.symm hbl.symm (by rw [hbl, l1]) (by rw [hbl, l1, l2]; omega)
          rw [List.append_nil, List.append_nil, hmg, hfin, List.append_assoc, ← hrow] at hsc
          simp only [d2, g63_15, f0, f1, f2, f6, f7, f8, eES, Nat.reduceBEq, Int.reduceLE, Int.reduceLT, Int.reduceToNat, Int.reduceEq, ↓reduceIte, reduceCtorEq, Nat.reducePow, Nat.reduceAdd, Nat.reduceLeDiff, Nat.reduceLT, Nat.reduceSub, Nat.reduceEqDiff]
          refine aops_callF hsc rfl ?_
          simp only [g63_16, e1', f0, f1, f2, f6, f7, f8, eES, Nat.reduceBEq, Int.reduceLE, Int.reduceLT, Int.reduceToNat, Int.reduceEq, ↓reduceIte, reduceCtorEq, Nat.reducePow, Nat.reduceAdd, Nat.reduceLeDiff, Nat.reduceLT, Nat.reduceSub, Nat.reduceEqDiff]
          exact ⟨xs.length - 2 * b, by omega, _, 2 * b, i + 1, rfl, rfl, by omega, by omega, by rw [hA1]; omega, by simp only [f0, eES, Nat.reduceBEq, Int.reduceLE, Int.reduceLT, Int.reduceToNat, Int.reduceEq, ↓reduceIte, reduceCtorEq, Nat.reducePow, Nat.reduceAdd, Nat.reduceLeDiff, Nat.reduceLT, Nat.reduceSub, Nat.reduceEqDiff], by simp only [f1, eES, Nat.reduceBEq, Int.reduceLE, Int.reduceLT, Int.reduceToNat, Int.reduceEq, ↓reduceIte, reduceCtorEq, Nat.reducePow, Nat.reduceAdd, Nat.reduceLeDiff, Nat.reduceLT, Nat.reduceSub, Nat.reduceEqDiff], by simp only [f2, eES, Nat.reduceBEq, Int.reduceLE, Int.reduceLT, Int.reduceToNat, Int.reduceEq, ↓reduceIte, reduceCtorEq, Nat.reducePow, Nat.reduceAdd, Nat.reduceLeDiff, Nat.reduceLT, Nat.reduceSub, Nat.reduceEqDiff], by simp only [eES, Nat.reduceBEq, Int.reduceLE, Int.reduceLT, Int.reduceToNat, Int.reduceEq, ↓reduceIte, reduceCtorEq, Nat.reducePow, Nat.reduceAdd, Nat.reduceLeDiff, Nat.reduceLT, Nat.reduceSub, Nat.reduceEqDiff]⟩
        · have d2 : decide (((A + b : Nat) : Int) < (xs.length : Int)) = false := by simp only [decide_eq_false_iff_not]; omega
          have hrow : blk (lt c) b n' L = isort (lt c) L := blk_big (by omega) (by omega)
          simp only [d2, hrow, hfin, g63_16, e1', f0, f1, f2, f6, f7, f8, eES, Nat.reduceBEq, Int.reduceLE, Int.reduceLT, Int.reduceToNat, Int.reduceEq, ↓reduceIte, reduceCtorEq, Nat.reducePow, Nat.reduceAdd, Nat.reduceLeDiff, Nat.reduceLT, Nat.reduceSub, Nat.reduceEqDiff]
          exact ⟨xs.length - 2 * b, by omega, _, 2 * b, i + 1, rfl, rfl, by omega, by omega, by rw [hA1]; omega, by simp only [f0, eES, Nat.reduceBEq, Int.reduceLE, Int.reduceLT, Int.reduceToNat, Int.reduceEq, ↓reduceIte, reduceCtorEq, Nat.reducePow, Nat.reduceAdd, Nat.reduceLeDiff, Nat.reduceLT, Nat.reduceSub, Nat.reduceEqDiff], by simp only [f1, eES, Nat.reduceBEq, Int.reduceLE, Int.reduceLT, Int.reduceToNat, Int.reduceEq, ↓reduceIte, reduceCtorEq, Nat.reducePow, Nat.reduceAdd, Nat.reduceLeDiff, Nat.reduceLT, Nat.reduceSub, Nat.reduceEqDiff], by simp only [f2, eES, Nat.reduceBEq, Int.reduceLE, Int.reduceLT, Int.reduceToNat, Int.reduceEq, ↓reduceIte, reduceCtorEq, Nat.reducePow, Nat.reduceAdd, Nat.reduceLeDiff, Nat.reduceLT, Nat.reduceSub, Nat.reduceEqDiff], by simp only [eES, Nat.reduceBEq, Int.reduceLE, Int.reduceLT, Int.reduceToNat, Int.reduceEq, ↓reduceIte, reduceCtorEq, Nat.reducePow, Nat.reduceAdd, Nat.reduceLeDiff, Nat.reduceLT, Nat.reduceSub, Nat.reduceEqDiff]⟩
    · have d0 : decide ((b : Int) < (xs.length : Int)) = false := by simp only [decide_eq_false_iff_not]; omega
      have hfin : blk (lt c) b n xs = isort (lt c) xs := blk_big (by omega) hbn
      simp only [d0, f0, f1, f2, f6, hfin, put_len, o63, eES, Nat.reduceBEq, Int.reduceLE, Int.reduceLT, Int.reduceToNat, Int.reduceEq, ↓reduceIte, reduceCtorEq, Nat.reducePow, Nat.reduceAdd, Nat.reduceLeDiff, Nat.reduceLT, Nat.reduceSub, Nat.reduceEqDiff]

theorem c49 {kc : Nat} {c : AV → AV → Int} (hc : Cp E kc c) (lv s g : Nat) (xs : List AV) (m : Mem) (hl : Am.look m lv s = .vec g 4 xs) (he : ∀ x ∈ xs, Ez E 4 x)
    (hn : xs.length < 1152921504606846976) :
    ACalls Try.prog 49 [.vec lv s g 0 xs.length false, .fn (.func kc) [] []] m
      (fun x m1 => x = .tup [] ∧ m1 = Am.put m lv s (.vec g 4 (isort (lt c) xs))) := by
  have hlv : lv < m.length := look_lt (by rw [hl]; simp)
  refine acalls_of_awp (rc := r49) (rs := o49) Try.func49 rfl rfl Try.ntmps49 k49 q49 (by simp) ?_
  have hl2 : Am.look (noObs :: m) (lv + 1) s = .vec g 4 xs := hl
  simp only [g49_0, r49, o49, hl2, eES, Nat.reduceBEq, Int.reduceLE, Int.reduceLT, Int.reduceToNat, Int.reduceEq, ↓reduceIte, reduceCtorEq, Nat.reducePow, Nat.reduceAdd, Nat.reduceLeDiff, Nat.reduceLT, Nat.reduceSub, Nat.reduceEqDiff]
  refine aops_callF ((c63 hc (lv + 1) s g xs (noObs :: m) hl he hn).mono fun x m1 h => ⟨h.1, h.2.trans rfl⟩) rfl ?_
  simp only [Am.put, put_len, eES, Nat.reduceBEq, Int.reduceLE, Int.reduceLT, Int.reduceToNat, Int.reduceEq, ↓reduceIte, reduceCtorEq, Nat.reducePow, Nat.reduceAdd, Nat.reduceLeDiff, Nat.reduceLT, Nat.reduceSub, Nat.reduceEqDiff]

end Go.Proofs.Ytcmdlmcmefbkeaa.Ta

/- The specification's putting of fields; fields of one number; sorting of fields: the specification's. -/
set_option linter.unusedSimpArgs false
namespace Go.Proofs.Ytcmdlmcmefbkeaa.Va
open Go Am Rc Bt Vp Cp Up So

def RPutI (l : List R) (k : Nat) (st : St) : Prop :=
  ∃ f fr i, st = ⟨f, [fr], []⟩ ∧ k = l.length - i ∧ i ≤ l.length ∧ f 0 = .list (rsv l) ∧ f 3 = .str (putl (l.take i)) ∧ f 4 = .int .i64 (i : Nat) ∧ (fr 5).isRow = false

theorem c25 (l : List R) (hb : ∀ fd ∈ l, fd.bits < 18446744073709551616 ∧ fd.data.length < 9223372036854775807) (hn : l.length < 9223372036854775807) (hl : (putl l).length ≤ 140737488355328) : Fn1 Try.prog 25 [.list (rsv l)] (.str (putl l)) := by
  refine fn1_of_awp (rc := r25) (rs := o25) Try.func25 rfl rfl Try.ntmps25 k25 q25 (by simp) ?_
  simp only [g25_0, g25_1, g25_2, g25_3, g25_5, g25_6, g25_7, g25_8, g25_9, g25_10, g25_11, g25_12, g25_13, g25_4, g25_14, r25, o25, eES, eEX, Nat.reduceBEq, Int.reduceLE, Int.reduceLT, Int.reduceToNat, Int.reduceEq, ↓reduceIte, reduceCtorEq, Nat.reducePow, Nat.reduceAdd, Nat.reduceLeDiff, Nat.reduceLT, Nat.reduceSub, Nat.reduceEqDiff]
  refine awp_loop (RPutI l) _ ⟨_, _, 0, rfl, rfl, Nat.zero_le _, rfl, rfl, rfl, rfl⟩ ?_
  rintro n st ⟨f, fr, i, rfl, rfl, hi, h0, h3, h4, m5⟩
  simp only [l25_0, g25_0, g25_1, g25_2, g25_3, g25_5, g25_6, g25_7, g25_8, g25_9, g25_10, g25_11, g25_12, g25_13, g25_4, g25_14, r25, o25, h0, h3, h4, m5, rsv_len, eES, eEX, Nat.reduceBEq, Int.reduceLE, Int.reduceLT, Int.reduceToNat, Int.reduceEq, ↓reduceIte, reduceCtorEq, Nat.reducePow, Nat.reduceAdd, Nat.reduceLeDiff, Nat.reduceLT, Nat.reduceSub, Nat.reduceEqDiff]
  by_cases hlt : i < l.length
  · obtain ⟨fd, hfd⟩ : ∃ fd, l[i]? = some fd := ⟨l[i], List.getElem?_eq_getElem hlt⟩
    have hmem := List.mem_of_getElem? hfd
    obtain ⟨hb1, hb2⟩ := hb fd hmem
    have hfa : (rsv l)[i]? = some fd.av := by simp [rsv, hfd]
    have hps := putl_snoc l i fd hfd
    have hple := putl_le l i fd hfd
    have d0 : decide ((i : Int) < (l.length : Int)) = true := by simp; omega
    have n0 : (0 ≤ (i : Int)) = True := by simp
    have e1 : IntKind.i64.wrap ((i : Int) + 1) = ((i + 1 : Nat) : Int) := by rw [wi64]; omega
    have fin : ∀ (f' : Fr) (fr' : Nat → Ob) (bs' : List UInt8), f' 0 = .list (rsv l) → f' 3 = .str bs' → f' 4 = .int .i64 (((i + 1 : Nat) : Nat) : Int) → (fr' 5).isRow = false → bs' = putl (l.take i) ++ ptf fd → ∃ k, k < l.length - i ∧ RPutI l k ⟨f', [fr'], []⟩ := by
      intro f' fr' bs' g1 g2 g3 g4 g5
      exact ⟨l.length - (i + 1), by omega, f', fr', i + 1, rfl, rfl, by omega, g1, by rw [hps, ← g5]; exact g2, g3, g4⟩
    simp only [d0, n0, Int.toNat_natCast, aiaddr, hfa, R.av, h0, h3, h4, m5, eES, eEX, Nat.reduceBEq, Int.reduceLE, Int.reduceLT, Int.reduceToNat, Int.reduceEq, ↓reduceIte, reduceCtorEq, Nat.reducePow, Nat.reduceAdd, Nat.reduceLeDiff, Nat.reduceLT, Nat.reduceSub, Nat.reduceEqDiff]
    refine aops_call (c24 fd) rfl rfl rfl (.inl rfl) ?_
    cases hv : valid fd with
    | false =>
      simp only [e1, h0, h3, h4, m5, eES, eEX, Nat.reduceBEq, Int.reduceLE, Int.reduceLT, Int.reduceToNat, Int.reduceEq, ↓reduceIte, reduceCtorEq, Nat.reducePow, Nat.reduceAdd, Nat.reduceLeDiff, Nat.reduceLT, Nat.reduceSub, Nat.reduceEqDiff]
      refine fin _ _ (putl (l.take i)) ?_ ?_ ?_ ?_ ?_
      · simp only [h0, eES, eEX, Nat.reduceBEq, Int.reduceLE, Int.reduceLT, Int.reduceToNat, Int.reduceEq, ↓reduceIte, reduceCtorEq, Nat.reducePow, Nat.reduceAdd, Nat.reduceLeDiff, Nat.reduceLT, Nat.reduceSub, Nat.reduceEqDiff]
      · simp only [h3, eES, eEX, Nat.reduceBEq, Int.reduceLE, Int.reduceLT, Int.reduceToNat, Int.reduceEq, ↓reduceIte, reduceCtorEq, Nat.reducePow, Nat.reduceAdd, Nat.reduceLeDiff, Nat.reduceLT, Nat.reduceSub, Nat.reduceEqDiff]
      · simp only [eES, eEX, Nat.reduceBEq, Int.reduceLE, Int.reduceLT, Int.reduceToNat, Int.reduceEq, ↓reduceIte, reduceCtorEq, Nat.reducePow, Nat.reduceAdd, Nat.reduceLeDiff, Nat.reduceLT, Nat.reduceSub, Nat.reduceEqDiff]
      · simp only [eES, eEX, Nat.reduceBEq, Int.reduceLE, Int.reduceLT, Int.reduceToNat, Int.reduceEq, ↓reduceIte, reduceCtorEq, Nat.reducePow, Nat.reduceAdd, Nat.reduceLeDiff, Nat.reduceLT, Nat.reduceSub, Nat.reduceEqDiff]
      · simp [ptf, hv]
    | true =>
      simp only [h0, h3, h4, m5, eES, eEX, Nat.reduceBEq, Int.reduceLE, Int.reduceLT, Int.reduceToNat, Int.reduceEq, ↓reduceIte, reduceCtorEq, Nat.reducePow, Nat.reduceAdd, Nat.reduceLeDiff, Nat.reduceLT, Nat.reduceSub, Nat.reduceEqDiff]
      refine aops_call (c11 fd.num fd.wire) rfl rfl rfl (.inl rfl) ?_
      have hp : ptf fd = (tag fd.num fd.wire).1 ++ body fd := by simp [ptf, hv]
      have hpl := congrArg List.length hp
      rw [List.length_append] at hpl
      have hbody : body fd = if fd.wire = 2 then fx 8 fd.bits else if number fd.wire then Vp.put fd.bits else Vp.put fd.data.length ++ fd.data := rfl
      have a1 : ((putl (l.take i)).length + (tag fd.num fd.wire).1.length ≤ 9223372036854775807) = True := eq_true (by omega)
      simp only [tagv, astr, a1, h0, h3, h4, m5, eES, eEX, Nat.reduceBEq, Int.reduceLE, Int.reduceLT, Int.reduceToNat, Int.reduceEq, ↓reduceIte, reduceCtorEq, Nat.reducePow, Nat.reduceAdd, Nat.reduceLeDiff, Nat.reduceLT, Nat.reduceSub, Nat.reduceEqDiff]
      by_cases w2 : fd.wire = 2
      · have dw : (fd.wire == 2) = true := by simpa using w2
        have hbo : body fd = fx 8 fd.bits := by rw [hbody, if_pos w2]
        have a2 : ((putl (l.take i) ++ (tag fd.num fd.wire).1).length + (fx 8 fd.bits).length ≤ 9223372036854775807) = True := eq_true (by rw [List.length_append, ← hbo]; omega)
        simp only [dw, h0, h3, h4, eES, eEX, Nat.reduceBEq, Int.reduceLE, Int.reduceLT, Int.reduceToNat, Int.reduceEq, ↓reduceIte, reduceCtorEq, Nat.reducePow, Nat.reduceAdd, Nat.reduceLeDiff, Nat.reduceLT, Nat.reduceSub, Nat.reduceEqDiff]
        refine aops_call (c47 fd.bits hb1) rfl rfl rfl (.inl rfl) ?_
        simp only [astr, a2, e1, h0, h3, h4, m5, eES, eEX, Nat.reduceBEq, Int.reduceLE, Int.reduceLT, Int.reduceToNat, Int.reduceEq, ↓reduceIte, reduceCtorEq, Nat.reducePow, Nat.reduceAdd, Nat.reduceLeDiff, Nat.reduceLT, Nat.reduceSub, Nat.reduceEqDiff]
        refine fin _ _ (putl (l.take i) ++ (tag fd.num fd.wire).1 ++ fx 8 fd.bits) ?_ ?_ ?_ ?_ ?_
        · simp only [h0, eES, eEX, Nat.reduceBEq, Int.reduceLE, Int.reduceLT, Int.reduceToNat, Int.reduceEq, ↓reduceIte, reduceCtorEq, Nat.reducePow, Nat.reduceAdd, Nat.reduceLeDiff, Nat.reduceLT, Nat.reduceSub, Nat.reduceEqDiff]
        · simp only [eES, eEX, Nat.reduceBEq, Int.reduceLE, Int.reduceLT, Int.reduceToNat, Int.reduceEq, ↓reduceIte, reduceCtorEq, Nat.reducePow, Nat.reduceAdd, Nat.reduceLeDiff, Nat.reduceLT, Nat.reduceSub, Nat.reduceEqDiff]
        · simp only [eES, eEX, Nat.reduceBEq, Int.reduceLE, Int.reduceLT, Int.reduceToNat, Int.reduceEq, ↓reduceIte, reduceCtorEq, Nat.reducePow, Nat.reduceAdd, Nat.reduceLeDiff, Nat.reduceLT, Nat.reduceSub, Nat.reduceEqDiff]
        · simp only [eES, eEX, Nat.reduceBEq, Int.reduceLE, Int.reduceLT, Int.reduceToNat, Int.reduceEq, ↓reduceIte, reduceCtorEq, Nat.reducePow, Nat.reduceAdd, Nat.reduceLeDiff, Nat.reduceLT, Nat.reduceSub, Nat.reduceEqDiff]
        · rw [hp, hbo, List.append_assoc]
      · have dw : (fd.wire == 2) = false := by simpa using w2
        simp only [dw, h0, h3, h4, eES, eEX, Nat.reduceBEq, Int.reduceLE, Int.reduceLT, Int.reduceToNat, Int.reduceEq, ↓reduceIte, reduceCtorEq, Nat.reducePow, Nat.reduceAdd, Nat.reduceLeDiff, Nat.reduceLT, Nat.reduceSub, Nat.reduceEqDiff]
        refine aops_call (c46 fd.wire) rfl rfl rfl (.inl rfl) ?_
        cases hnum : number fd.wire with
        | true =>
          have hbo : body fd = Vp.put fd.bits := by rw [hbody, if_neg w2, if_pos hnum]
          have a2 : ((putl (l.take i) ++ (tag fd.num fd.wire).1).length + (Vp.put fd.bits).length ≤ 9223372036854775807) = True := eq_true (by rw [List.length_append, ← hbo]; omega)
          simp only [h0, h3, h4, eES, eEX, Nat.reduceBEq, Int.reduceLE, Int.reduceLT, Int.reduceToNat, Int.reduceEq, ↓reduceIte, reduceCtorEq, Nat.reducePow, Nat.reduceAdd, Nat.reduceLeDiff, Nat.reduceLT, Nat.reduceSub, Nat.reduceEqDiff]
          refine aops_call (c31 fd.bits hb1) rfl rfl rfl (.inl rfl) ?_
          simp only [astr, a2, e1, h0, h3, h4, m5, eES, eEX, Nat.reduceBEq, Int.reduceLE, Int.reduceLT, Int.reduceToNat, Int.reduceEq, ↓reduceIte, reduceCtorEq, Nat.reducePow, Nat.reduceAdd, Nat.reduceLeDiff, Nat.reduceLT, Nat.reduceSub, Nat.reduceEqDiff]
          refine fin _ _ (putl (l.take i) ++ (tag fd.num fd.wire).1 ++ Vp.put fd.bits) ?_ ?_ ?_ ?_ ?_
          · simp only [h0, eES, eEX, Nat.reduceBEq, Int.reduceLE, Int.reduceLT, Int.reduceToNat, Int.reduceEq, ↓reduceIte, reduceCtorEq, Nat.reducePow, Nat.reduceAdd, Nat.reduceLeDiff, Nat.reduceLT, Nat.reduceSub, Nat.reduceEqDiff]
          · simp only [eES, eEX, Nat.reduceBEq, Int.reduceLE, Int.reduceLT, Int.reduceToNat, Int.reduceEq, ↓reduceIte, reduceCtorEq, Nat.reducePow, Nat.reduceAdd, Nat.reduceLeDiff, Nat.reduceLT, Nat.reduceSub, Nat.reduceEqDiff]
          · simp only [eES, eEX, Nat.reduceBEq, Int.reduceLE, Int.reduceLT, Int.reduceToNat, Int.reduceEq, ↓reduceIte, reduceCtorEq, Nat.reducePow, Nat.reduceAdd, Nat.reduceLeDiff, Nat.reduceLT, Nat.reduceSub, Nat.reduceEqDiff]
          · simp only [eES, eEX, Nat.reduceBEq, Int.reduceLE, Int.reduceLT, Int.reduceToNat, Int.reduceEq, ↓reduceIte, reduceCtorEq, Nat.reducePow, Nat.reduceAdd, Nat.reduceLeDiff, Nat.reduceLT, Nat.reduceSub, Nat.reduceEqDiff]
          · rw [hp, hbo, List.append_assoc]
        | false =>
          have hbo : body fd = Vp.put fd.data.length ++ fd.data := by rw [hbody, if_neg w2, if_neg (by rw [hnum]; simp)]
          have hbl : (body fd).length = (Vp.put fd.data.length).length + fd.data.length := by rw [hbo, List.length_append]
          have a2 : ((Vp.put fd.data.length).length + fd.data.length ≤ 9223372036854775807) = True := eq_true (by omega)
          have a3 : ((putl (l.take i) ++ (tag fd.num fd.wire).1).length + (Vp.put fd.data.length ++ fd.data).length ≤ 9223372036854775807) = True := eq_true (by rw [List.length_append, ← hbo]; omega)
          have e2 : IntKind.u64.wrap (fd.data.length : Int) = ((fd.data.length : Nat) : Int) := by rw [wu64]; omega
          simp only [e2, h0, h3, h4, eES, eEX, Nat.reduceBEq, Int.reduceLE, Int.reduceLT, Int.reduceToNat, Int.reduceEq, ↓reduceIte, reduceCtorEq, Nat.reducePow, Nat.reduceAdd, Nat.reduceLeDiff, Nat.reduceLT, Nat.reduceSub, Nat.reduceEqDiff]
          refine aops_call (c31 fd.data.length (by omega)) rfl rfl rfl (.inl rfl) ?_
          simp only [astr, a2, a3, e1, h0, h3, h4, m5, eES, eEX, Nat.reduceBEq, Int.reduceLE, Int.reduceLT, Int.reduceToNat, Int.reduceEq, ↓reduceIte, reduceCtorEq, Nat.reducePow, Nat.reduceAdd, Nat.reduceLeDiff, Nat.reduceLT, Nat.reduceSub, Nat.reduceEqDiff]
          refine fin _ _ (putl (l.take i) ++ (tag fd.num fd.wire).1 ++ (Vp.put fd.data.length ++ fd.data)) ?_ ?_ ?_ ?_ ?_
          · simp only [h0, eES, eEX, Nat.reduceBEq, Int.reduceLE, Int.reduceLT, Int.reduceToNat, Int.reduceEq, ↓reduceIte, reduceCtorEq, Nat.reducePow, Nat.reduceAdd, Nat.reduceLeDiff, Nat.reduceLT, Nat.reduceSub, Nat.reduceEqDiff]
          · simp only [eES, eEX, Nat.reduceBEq, Int.reduceLE, Int.reduceLT, Int.reduceToNat, Int.reduceEq, ↓reduceIte, reduceCtorEq, Nat.reducePow, Nat.reduceAdd, Nat.reduceLeDiff, Nat.reduceLT, Nat.reduceSub, Nat.reduceEqDiff]
          · simp only [eES, eEX, Nat.reduceBEq, Int.reduceLE, Int.reduceLT, Int.reduceToNat, Int.reduceEq, ↓reduceIte, reduceCtorEq, Nat.reducePow, Nat.reduceAdd, Nat.reduceLeDiff, Nat.reduceLT, Nat.reduceSub, Nat.reduceEqDiff]
          · simp only [eES, eEX, Nat.reduceBEq, Int.reduceLE, Int.reduceLT, Int.reduceToNat, Int.reduceEq, ↓reduceIte, reduceCtorEq, Nat.reducePow, Nat.reduceAdd, Nat.reduceLeDiff, Nat.reduceLT, Nat.reduceSub, Nat.reduceEqDiff]
          · rw [hp, hbo, List.append_assoc]
  · have d0 : decide ((i : Int) < (l.length : Int)) = false := by simp; omega
    have hil : l.take i = l := List.take_of_length_le (by omega)
    simp only [d0, hil, h0, h3, h4, eES, eEX, Nat.reduceBEq, Int.reduceLE, Int.reduceLT, Int.reduceToNat, Int.reduceEq, ↓reduceIte, reduceCtorEq, Nat.reducePow, Nat.reduceAdd, Nat.reduceLeDiff, Nat.reduceLT, Nat.reduceSub, Nat.reduceEqDiff]

/-- The fields of one number. -/
def only (l : List R) (num : Int) : List R := l.filter fun f => f.num == num

theorem only_snoc {l : List R} {i : Nat} {fd : R} (h : l[i]? = some fd) (num : Int) : only (l.take (i + 1)) num = only (l.take i) num ++ (if fd.num = num then [fd] else []) := by
  simp only [only, List.take_add_one, h, Option.toList_some, List.filter_append, List.filter_cons, List.filter_nil, beq_iff_eq]

theorem only_le (l : List R) (num : Int) : (only l num).length ≤ l.length := List.length_filter_le _ _

def OnlyI (l : List R) (num : Int) (k : Nat) (st : St) : Prop :=
  ∃ f fr i g, st = ⟨f, [fr], []⟩ ∧ k = l.length - i ∧ i ≤ l.length ∧ f 1 = .int .i64 num ∧ f 5 = .vec 0 5 g 0 (only (l.take i) num).length false ∧ f 8 = .list (rsv l) ∧ f 9 = .int .i64 (l.length : Int) ∧ f 10 = .int .i64 (i : Nat) ∧ (fr 7).isRow = false ∧ fr 5 = .vec g 4 (rsv (only (l.take i) num))

theorem c28 (l : List R) (num : Int) (hn : l.length ≤ 1000000) : Fn1 Try.prog 28 [.list (rsv l), .int .i64 num] (.list (rsv (only l num))) := by
  refine fn1_of_awp (rc := r28) (rs := o28) Try.func28 rfl rfl Try.ntmps28 k28 q28 (by simp) ?_
  simp only [g28_0, g28_1, g28_2, g28_3, g28_4, g28_5, g28_6, g28_7, g28_8, r28, o28, eES, eEX, Nat.reduceBEq, Int.reduceLE, Int.reduceLT, Int.reduceToNat, Int.reduceEq, ↓reduceIte, reduceCtorEq, Nat.reducePow, Nat.reduceAdd, Nat.reduceLeDiff, Nat.reduceLT, Nat.reduceSub, Nat.reduceEqDiff]
  refine awp_vec rfl rfl ?_
  simp only [rsv_len, eES, eEX, Nat.reduceBEq, Int.reduceLE, Int.reduceLT, Int.reduceToNat, Int.reduceEq, ↓reduceIte, reduceCtorEq, Nat.reducePow, Nat.reduceAdd, Nat.reduceLeDiff, Nat.reduceLT, Nat.reduceSub, Nat.reduceEqDiff]
  refine awp_loop (OnlyI l num) _ ⟨_, _, 0, _, rfl, rfl, Nat.zero_le _, rfl, rfl, rfl, rfl, rfl, rfl, rfl⟩ ?_
  rintro n st ⟨f, fr, i, g, rfl, rfl, hi, h1, h5, h8, h9, h10, m7, m5⟩
  have hle := only_le (l.take i) num
  have hle2 : (l.take i).length ≤ i := by rw [List.length_take]; omega
  simp only [l28_0, g28_0, g28_1, g28_2, g28_3, g28_4, g28_5, g28_6, g28_7, g28_8, r28, o28, h1, h5, h8, h9, h10, m7, m5, eES, eEX, Nat.reduceBEq, Int.reduceLE, Int.reduceLT, Int.reduceToNat, Int.reduceEq, ↓reduceIte, reduceCtorEq, Nat.reducePow, Nat.reduceAdd, Nat.reduceLeDiff, Nat.reduceLT, Nat.reduceSub, Nat.reduceEqDiff]
  by_cases hlt : i < l.length
  · obtain ⟨fd, hfd⟩ : ∃ fd, l[i]? = some fd := ⟨l[i], List.getElem?_eq_getElem hlt⟩
    have hfa : (rsv l)[i]? = some fd.av := by simp [rsv, hfd]
    have d0 : decide ((i : Int) < (l.length : Int)) = true := by simp; omega
    have n0 : (0 ≤ (i : Int)) = True := by simp
    have e1 : IntKind.i64.wrap ((i : Int) + 1) = ((i + 1 : Nat) : Int) := by rw [wi64]; omega
    have hs := only_snoc hfd num
    simp only [d0, n0, Int.toNat_natCast, aiaddr, hfa, R.av, h1, h5, h8, h9, h10, m7, m5, eES, eEX, Nat.reduceBEq, Int.reduceLE, Int.reduceLT, Int.reduceToNat, Int.reduceEq, ↓reduceIte, reduceCtorEq, Nat.reducePow, Nat.reduceAdd, Nat.reduceLeDiff, Nat.reduceLT, Nat.reduceSub, Nat.reduceEqDiff]
    by_cases hq : fd.num = num
    · have d1 : (fd.num == num) = true := by simpa using hq
      rw [if_pos hq] at hs
      simp only [d1, h1, h5, h8, h9, h10, m7, m5, eES, eEX, Nat.reduceBEq, Int.reduceLE, Int.reduceLT, Int.reduceToNat, Int.reduceEq, ↓reduceIte, reduceCtorEq, Nat.reducePow, Nat.reduceAdd, Nat.reduceLeDiff, Nat.reduceLT, Nat.reduceSub, Nat.reduceEqDiff]
      refine aops_bslA rfl rfl (by decide) rfl rfl ?_
      simp only [nn0, List.map_cons, h5, eES, eEX, Nat.reduceBEq, Int.reduceLE, Int.reduceLT, Int.reduceToNat, Int.reduceEq, ↓reduceIte, reduceCtorEq, Nat.reducePow, Nat.reduceAdd, Nat.reduceLeDiff, Nat.reduceLT, Nat.reduceSub, Nat.reduceEqDiff]
      refine aops_app (site := 5) (g := g) (n := (only (l.take i) num).length) (xs := rsv (only (l.take i) num)) (ys := [fd.av]) (by simp only [h5, eES, eEX, Nat.reduceBEq, Int.reduceLE, Int.reduceLT, Int.reduceToNat, Int.reduceEq, ↓reduceIte, reduceCtorEq, Nat.reducePow, Nat.reduceAdd, Nat.reduceLeDiff, Nat.reduceLT, Nat.reduceSub, Nat.reduceEqDiff]) (by simp only [m5, eES, eEX, Nat.reduceBEq, Int.reduceLE, Int.reduceLT, Int.reduceToNat, Int.reduceEq, ↓reduceIte, reduceCtorEq, Nat.reducePow, Nat.reduceAdd, Nat.reduceLeDiff, Nat.reduceLT, Nat.reduceSub, Nat.reduceEqDiff]) rfl (by rw [rsv_len]) (by simp only [R.av, eES, eEX, Nat.reduceBEq, Int.reduceLE, Int.reduceLT, Int.reduceToNat, Int.reduceEq, ↓reduceIte, reduceCtorEq, Nat.reducePow, Nat.reduceAdd, Nat.reduceLeDiff, Nat.reduceLT, Nat.reduceSub, Nat.reduceEqDiff]) rfl (by simp [maxLen]; omega) (by simp; omega) ?_
      simp only [e1, h1, h5, h8, h9, h10, m7, m5, eES, eEX, Nat.reduceBEq, Int.reduceLE, Int.reduceLT, Int.reduceToNat, Int.reduceEq, ↓reduceIte, reduceCtorEq, Nat.reducePow, Nat.reduceAdd, Nat.reduceLeDiff, Nat.reduceLT, Nat.reduceSub, Nat.reduceEqDiff]
      refine ⟨l.length - (i + 1), by omega, _, _, i + 1, g + 1, rfl, rfl, by omega, by simp only [h1, eES, eEX, Nat.reduceBEq, Int.reduceLE, Int.reduceLT, Int.reduceToNat, Int.reduceEq, ↓reduceIte, reduceCtorEq, Nat.reducePow, Nat.reduceAdd, Nat.reduceLeDiff, Nat.reduceLT, Nat.reduceSub, Nat.reduceEqDiff], ?_, by simp only [h8, eES, eEX, Nat.reduceBEq, Int.reduceLE, Int.reduceLT, Int.reduceToNat, Int.reduceEq, ↓reduceIte, reduceCtorEq, Nat.reducePow, Nat.reduceAdd, Nat.reduceLeDiff, Nat.reduceLT, Nat.reduceSub, Nat.reduceEqDiff], by simp only [h9, eES, eEX, Nat.reduceBEq, Int.reduceLE, Int.reduceLT, Int.reduceToNat, Int.reduceEq, ↓reduceIte, reduceCtorEq, Nat.reducePow, Nat.reduceAdd, Nat.reduceLeDiff, Nat.reduceLT, Nat.reduceSub, Nat.reduceEqDiff], by simp only [eES, eEX, Nat.reduceBEq, Int.reduceLE, Int.reduceLT, Int.reduceToNat, Int.reduceEq, ↓reduceIte, reduceCtorEq, Nat.reducePow, Nat.reduceAdd, Nat.reduceLeDiff, Nat.reduceLT, Nat.reduceSub, Nat.reduceEqDiff], by simp only [eES, eEX, Nat.reduceBEq, Int.reduceLE, Int.reduceLT, Int.reduceToNat, Int.reduceEq, ↓reduceIte, reduceCtorEq, Nat.reducePow, Nat.reduceAdd, Nat.reduceLeDiff, Nat.reduceLT, Nat.reduceSub, Nat.reduceEqDiff], ?_⟩
      · simp only [hs, List.length_append, List.length_singleton, eES, eEX, Nat.reduceBEq, Int.reduceLE, Int.reduceLT, Int.reduceToNat, Int.reduceEq, ↓reduceIte, reduceCtorEq, Nat.reducePow, Nat.reduceAdd, Nat.reduceLeDiff, Nat.reduceLT, Nat.reduceSub, Nat.reduceEqDiff]
      · simp only [hs, rsv_append, eES, eEX, Nat.reduceBEq, Int.reduceLE, Int.reduceLT, Int.reduceToNat, Int.reduceEq, ↓reduceIte, reduceCtorEq, Nat.reducePow, Nat.reduceAdd, Nat.reduceLeDiff, Nat.reduceLT, Nat.reduceSub, Nat.reduceEqDiff] <;> rfl
    · have d1 : (fd.num == num) = false := by simpa using hq
      rw [if_neg hq, List.append_nil] at hs
      simp only [d1, e1, h1, h5, h8, h9, h10, m7, m5, eES, eEX, Nat.reduceBEq, Int.reduceLE, Int.reduceLT, Int.reduceToNat, Int.reduceEq, ↓reduceIte, reduceCtorEq, Nat.reducePow, Nat.reduceAdd, Nat.reduceLeDiff, Nat.reduceLT, Nat.reduceSub, Nat.reduceEqDiff]
      exact ⟨l.length - (i + 1), by omega, _, _, i + 1, g, rfl, rfl, by omega, by simp only [h1, eES, eEX, Nat.reduceBEq, Int.reduceLE, Int.reduceLT, Int.reduceToNat, Int.reduceEq, ↓reduceIte, reduceCtorEq, Nat.reducePow, Nat.reduceAdd, Nat.reduceLeDiff, Nat.reduceLT, Nat.reduceSub, Nat.reduceEqDiff], by simp only [hs, h5, eES, eEX, Nat.reduceBEq, Int.reduceLE, Int.reduceLT, Int.reduceToNat, Int.reduceEq, ↓reduceIte, reduceCtorEq, Nat.reducePow, Nat.reduceAdd, Nat.reduceLeDiff, Nat.reduceLT, Nat.reduceSub, Nat.reduceEqDiff], by simp only [h8, eES, eEX, Nat.reduceBEq, Int.reduceLE, Int.reduceLT, Int.reduceToNat, Int.reduceEq, ↓reduceIte, reduceCtorEq, Nat.reducePow, Nat.reduceAdd, Nat.reduceLeDiff, Nat.reduceLT, Nat.reduceSub, Nat.reduceEqDiff], by simp only [h9, eES, eEX, Nat.reduceBEq, Int.reduceLE, Int.reduceLT, Int.reduceToNat, Int.reduceEq, ↓reduceIte, reduceCtorEq, Nat.reducePow, Nat.reduceAdd, Nat.reduceLeDiff, Nat.reduceLT, Nat.reduceSub, Nat.reduceEqDiff], by simp only [eES, eEX, Nat.reduceBEq, Int.reduceLE, Int.reduceLT, Int.reduceToNat, Int.reduceEq, ↓reduceIte, reduceCtorEq, Nat.reducePow, Nat.reduceAdd, Nat.reduceLeDiff, Nat.reduceLT, Nat.reduceSub, Nat.reduceEqDiff], by simp only [eES, eEX, Nat.reduceBEq, Int.reduceLE, Int.reduceLT, Int.reduceToNat, Int.reduceEq, ↓reduceIte, reduceCtorEq, Nat.reducePow, Nat.reduceAdd, Nat.reduceLeDiff, Nat.reduceLT, Nat.reduceSub, Nat.reduceEqDiff], by simp only [hs, m5, eES, eEX, Nat.reduceBEq, Int.reduceLE, Int.reduceLT, Int.reduceToNat, Int.reduceEq, ↓reduceIte, reduceCtorEq, Nat.reducePow, Nat.reduceAdd, Nat.reduceLeDiff, Nat.reduceLT, Nat.reduceSub, Nat.reduceEqDiff]⟩
  · have d0 : decide ((i : Int) < (l.length : Int)) = false := by simp; omega
    have hil : l.take i = l := List.take_of_length_le (by omega)
    rw [hil] at h5 m5
    simp only [d0, h1, h5, h8, h9, h10, m5, eES, eEX, Nat.reduceBEq, Int.reduceLE, Int.reduceLT, Int.reduceToNat, Int.reduceEq, ↓reduceIte, reduceCtorEq, Nat.reducePow, Nat.reduceAdd, Nat.reduceLeDiff, Nat.reduceLT, Nat.reduceSub, Nat.reduceEqDiff]
    have ht : List.take (only l num).length (rsv (only l num)) = rsv (only l num) := List.take_of_length_le (by rw [rsv_len]; exact Nat.le_refl _)
    simp [rsv_len, ht, AV.un, isV, vget]

def ROnlyI (l : List R) (num : Int) (k : Nat) (st : St) : Prop :=
  ∃ f fr i g, st = ⟨f, [fr], []⟩ ∧ k = l.length - i ∧ i ≤ l.length ∧ f 0 = .list (rsv l) ∧ f 1 = .int .i64 num ∧ f 5 = .vec 0 5 g 0 (only (l.take i) num).length false ∧ f 6 = .int .i64 (i : Nat) ∧ fr 5 = .vec g 4 (rsv (only (l.take i) num))

theorem c29 (l : List R) (num : Int) (hn : l.length ≤ 1000000) : Fn1 Try.prog 29 [.list (rsv l), .int .i64 num] (.list (rsv (only l num))) := by
  refine fn1_of_awp (rc := r29) (rs := o29) Try.func29 rfl rfl Try.ntmps29 k29 q29 (by simp) ?_
  simp only [g29_0, g29_1, g29_2, g29_3, g29_5, g29_6, g29_4, g29_7, r29, o29, eES, eEX, Nat.reduceBEq, Int.reduceLE, Int.reduceLT, Int.reduceToNat, Int.reduceEq, ↓reduceIte, reduceCtorEq, Nat.reducePow, Nat.reduceAdd, Nat.reduceLeDiff, Nat.reduceLT, Nat.reduceSub, Nat.reduceEqDiff]
  refine awp_vec rfl rfl ?_
  simp only [rsv_len, eES, eEX, Nat.reduceBEq, Int.reduceLE, Int.reduceLT, Int.reduceToNat, Int.reduceEq, ↓reduceIte, reduceCtorEq, Nat.reducePow, Nat.reduceAdd, Nat.reduceLeDiff, Nat.reduceLT, Nat.reduceSub, Nat.reduceEqDiff]
  refine awp_loop (ROnlyI l num) _ ⟨_, _, 0, _, rfl, rfl, Nat.zero_le _, rfl, rfl, rfl, rfl, rfl⟩ ?_
  rintro n st ⟨f, fr, i, g, rfl, rfl, hi, h0, h1, h5, h6, m5⟩
  have hle := only_le (l.take i) num
  have hle2 : (l.take i).length ≤ i := by rw [List.length_take]; omega
  simp only [l29_0, g29_0, g29_1, g29_2, g29_3, g29_5, g29_6, g29_4, g29_7, r29, o29, rsv_len, h0, h1, h5, h6, m5, eES, eEX, Nat.reduceBEq, Int.reduceLE, Int.reduceLT, Int.reduceToNat, Int.reduceEq, ↓reduceIte, reduceCtorEq, Nat.reducePow, Nat.reduceAdd, Nat.reduceLeDiff, Nat.reduceLT, Nat.reduceSub, Nat.reduceEqDiff]
  by_cases hlt : i < l.length
  · obtain ⟨fd, hfd⟩ : ∃ fd, l[i]? = some fd := ⟨l[i], List.getElem?_eq_getElem hlt⟩
    have hfa : (rsv l)[i]? = some fd.av := by simp [rsv, hfd]
    have d0 : decide ((i : Int) < (l.length : Int)) = true := by simp; omega
    have n0 : (0 ≤ (i : Int)) = True := by simp
    have e1 : IntKind.i64.wrap ((i : Int) + 1) = ((i + 1 : Nat) : Int) := by rw [wi64]; omega
    have hs := only_snoc hfd num
    simp only [d0, n0, Int.toNat_natCast, aiaddr, hfa, R.av, h0, h1, h5, h6, m5, eES, eEX, Nat.reduceBEq, Int.reduceLE, Int.reduceLT, Int.reduceToNat, Int.reduceEq, ↓reduceIte, reduceCtorEq, Nat.reducePow, Nat.reduceAdd, Nat.reduceLeDiff, Nat.reduceLT, Nat.reduceSub, Nat.reduceEqDiff]
    by_cases hq : fd.num = num
    · have d1 : (fd.num == num) = true := by simpa using hq
      rw [if_pos hq] at hs
      simp only [d1, n0, Int.toNat_natCast, aiaddr, hfa, R.av, h0, h1, h5, h6, m5, eES, eEX, Nat.reduceBEq, Int.reduceLE, Int.reduceLT, Int.reduceToNat, Int.reduceEq, ↓reduceIte, reduceCtorEq, Nat.reducePow, Nat.reduceAdd, Nat.reduceLeDiff, Nat.reduceLT, Nat.reduceSub, Nat.reduceEqDiff]
      refine aops_bslA rfl rfl (by decide) rfl rfl ?_
      simp only [nn0, List.map_cons, h5, eES, eEX, Nat.reduceBEq, Int.reduceLE, Int.reduceLT, Int.reduceToNat, Int.reduceEq, ↓reduceIte, reduceCtorEq, Nat.reducePow, Nat.reduceAdd, Nat.reduceLeDiff, Nat.reduceLT, Nat.reduceSub, Nat.reduceEqDiff]
      refine aops_app (site := 5) (g := g) (n := (only (l.take i) num).length) (xs := rsv (only (l.take i) num)) (ys := [fd.av]) (by simp only [h5, eES, eEX, Nat.reduceBEq, Int.reduceLE, Int.reduceLT, Int.reduceToNat, Int.reduceEq, ↓reduceIte, reduceCtorEq, Nat.reducePow, Nat.reduceAdd, Nat.reduceLeDiff, Nat.reduceLT, Nat.reduceSub, Nat.reduceEqDiff]) (by simp only [m5, eES, eEX, Nat.reduceBEq, Int.reduceLE, Int.reduceLT, Int.reduceToNat, Int.reduceEq, ↓reduceIte, reduceCtorEq, Nat.reducePow, Nat.reduceAdd, Nat.reduceLeDiff, Nat.reduceLT, Nat.reduceSub, Nat.reduceEqDiff]) rfl (by rw [rsv_len]) (by simp only [R.av, eES, eEX, Nat.reduceBEq, Int.reduceLE, Int.reduceLT, Int.reduceToNat, Int.reduceEq, ↓reduceIte, reduceCtorEq, Nat.reducePow, Nat.reduceAdd, Nat.reduceLeDiff, Nat.reduceLT, Nat.reduceSub, Nat.reduceEqDiff]) rfl (by simp [maxLen]; omega) (by simp; omega) ?_
      simp only [e1, h0, h1, h5, h6, m5, eES, eEX, Nat.reduceBEq, Int.reduceLE, Int.reduceLT, Int.reduceToNat, Int.reduceEq, ↓reduceIte, reduceCtorEq, Nat.reducePow, Nat.reduceAdd, Nat.reduceLeDiff, Nat.reduceLT, Nat.reduceSub, Nat.reduceEqDiff]
      refine ⟨l.length - (i + 1), by omega, _, _, i + 1, g + 1, rfl, rfl, by omega, by simp only [h0, eES, eEX, Nat.reduceBEq, Int.reduceLE, Int.reduceLT, Int.reduceToNat, Int.reduceEq, ↓reduceIte, reduceCtorEq, Nat.reducePow, Nat.reduceAdd, Nat.reduceLeDiff, Nat.reduceLT, Nat.reduceSub, Nat.reduceEqDiff], by simp only [h1, eES, eEX, Nat.reduceBEq, Int.reduceLE, Int.reduceLT, Int.reduceToNat, Int.reduceEq, ↓reduceIte, reduceCtorEq, Nat.reducePow, Nat.reduceAdd, Nat.reduceLeDiff, Nat.reduceLT, Nat.reduceSub, Nat.reduceEqDiff], ?_, by simp only [eES, eEX, Nat.reduceBEq, Int.reduceLE, Int.reduceLT, Int.reduceToNat, Int.reduceEq, ↓reduceIte, reduceCtorEq, Nat.reducePow, Nat.reduceAdd, Nat.reduceLeDiff, Nat.reduceLT, Nat.reduceSub, Nat.reduceEqDiff], ?_⟩
      · simp only [hs, List.length_append, List.length_singleton, eES, eEX, Nat.reduceBEq, Int.reduceLE, Int.reduceLT, Int.reduceToNat, Int.reduceEq, ↓reduceIte, reduceCtorEq, Nat.reducePow, Nat.reduceAdd, Nat.reduceLeDiff, Nat.reduceLT, Nat.reduceSub, Nat.reduceEqDiff]
      · simp only [hs, rsv_append, eES, eEX, Nat.reduceBEq, Int.reduceLE, Int.reduceLT, Int.reduceToNat, Int.reduceEq, ↓reduceIte, reduceCtorEq, Nat.reducePow, Nat.reduceAdd, Nat.reduceLeDiff, Nat.reduceLT, Nat.reduceSub, Nat.reduceEqDiff] <;> rfl
    · have d1 : (fd.num == num) = false := by simpa using hq
      rw [if_neg hq, List.append_nil] at hs
      simp only [d1, e1, h0, h1, h5, h6, m5, eES, eEX, Nat.reduceBEq, Int.reduceLE, Int.reduceLT, Int.reduceToNat, Int.reduceEq, ↓reduceIte, reduceCtorEq, Nat.reducePow, Nat.reduceAdd, Nat.reduceLeDiff, Nat.reduceLT, Nat.reduceSub, Nat.reduceEqDiff]
      exact ⟨l.length - (i + 1), by omega, _, _, i + 1, g, rfl, rfl, by omega, by simp only [h0, eES, eEX, Nat.reduceBEq, Int.reduceLE, Int.reduceLT, Int.reduceToNat, Int.reduceEq, ↓reduceIte, reduceCtorEq, Nat.reducePow, Nat.reduceAdd, Nat.reduceLeDiff, Nat.reduceLT, Nat.reduceSub, Nat.reduceEqDiff], by simp only [h1, eES, eEX, Nat.reduceBEq, Int.reduceLE, Int.reduceLT, Int.reduceToNat, Int.reduceEq, ↓reduceIte, reduceCtorEq, Nat.reducePow, Nat.reduceAdd, Nat.reduceLeDiff, Nat.reduceLT, Nat.reduceSub, Nat.reduceEqDiff], by simp only [hs, h5, eES, eEX, Nat.reduceBEq, Int.reduceLE, Int.reduceLT, Int.reduceToNat, Int.reduceEq, ↓reduceIte, reduceCtorEq, Nat.reducePow, Nat.reduceAdd, Nat.reduceLeDiff, Nat.reduceLT, Nat.reduceSub, Nat.reduceEqDiff], by simp only [eES, eEX, Nat.reduceBEq, Int.reduceLE, Int.reduceLT, Int.reduceToNat, Int.reduceEq, ↓reduceIte, reduceCtorEq, Nat.reducePow, Nat.reduceAdd, Nat.reduceLeDiff, Nat.reduceLT, Nat.reduceSub, Nat.reduceEqDiff], by simp only [hs, m5, eES, eEX, Nat.reduceBEq, Int.reduceLE, Int.reduceLT, Int.reduceToNat, Int.reduceEq, ↓reduceIte, reduceCtorEq, Nat.reducePow, Nat.reduceAdd, Nat.reduceLeDiff, Nat.reduceLT, Nat.reduceSub, Nat.reduceEqDiff]⟩
  · have d0 : decide ((i : Int) < (l.length : Int)) = false := by simp; omega
    have hil : l.take i = l := List.take_of_length_le (by omega)
    rw [hil] at h5 m5
    simp only [d0, h0, h1, h5, h6, m5, eES, eEX, Nat.reduceBEq, Int.reduceLE, Int.reduceLT, Int.reduceToNat, Int.reduceEq, ↓reduceIte, reduceCtorEq, Nat.reducePow, Nat.reduceAdd, Nat.reduceLeDiff, Nat.reduceLT, Nat.reduceSub, Nat.reduceEqDiff]
    have ht : List.take (only l num).length (rsv (only l num)) = rsv (only l num) := List.take_of_length_le (by rw [rsv_len]; exact Nat.le_refl _)
    simp [rsv_len, ht, AV.un, isV, vget]

end Go.Proofs.Ytcmdlmcmefbkeaa.Va

/- Raw fields as bytes: what is read from bytes, and what is written (plain laws). -/
set_option linter.unusedSimpArgs false
namespace Go.Proofs.Ytcmdlmcmefbkeaa.Va
open Go Am Rc Bt Vp Cp Up

theorem vtk_short (i acc : Nat) (s : List UInt8) (k : Nat) (hk : k + i = 9) (h : (vtk i acc s).2.2 = 0) :
    ∃ v, (vtk i acc s).1 = acc + v * 128 ^ i ∧ i + (vput k v).length ≤ (vtk i acc s).2.1 := by
  induction s generalizing i acc k with
  | nil => simp [vtk] at h
  | cons c t ih =>
    unfold vtk at h ⊢
    split
    · rename_i h1; rw [if_pos h1] at h; cases h
    · rename_i h1
      rw [if_neg h1] at h
      split
      · rename_i h2
        exact ⟨c.toNat, rfl, by rw [vput_small _ _ h2]; exact Nat.le_refl _⟩
      · rename_i h2
        rw [if_neg h2] at h
        have h9 : i < 9 := by
          rcases Nat.lt_or_ge i 9 with h9 | h9
          · exact h9
          · exact absurd ⟨by omega, by omega⟩ h1
        obtain ⟨k, rfl⟩ : ∃ j, k = j + 1 := ⟨k - 1, by omega⟩
        obtain ⟨v, e, hv⟩ := ih (i + 1) _ k (by omega) h
        have hcl := c.toNat_lt
        refine ⟨(c.toNat - 128) + v * 128, ?_, ?_⟩
        · rw [e, Nat.pow_succ, Nat.add_mul, Nat.mul_comm (128 ^ i) 128, ← Nat.mul_assoc, Nat.add_assoc]
        · have h1v := (vput_len k v).1
          by_cases hs : c.toNat - 128 + v * 128 < 128
          · rw [vput_small _ _ hs]; simp; omega
          · rw [vput_big _ _ hs, show (c.toNat - 128 + v * 128) / 128 = v by omega, List.length_cons]; omega

theorem take_short (s : List UInt8) (h : (Vp.take s).2.2 = 0) : (Vp.put (Vp.take s).1).length ≤ (Vp.take s).2.1 := by
  obtain ⟨v, e, hv⟩ := vtk_short 0 0 s 9 rfl h
  have e : (Vp.take s).1 = v := by simpa [Vp.take] using e
  rw [e]; simpa [Vp.take, Vp.put] using hv

theorem take_append (s t : List UInt8) (h : (Vp.take s).2.2 = 0) : Vp.take (s ++ t) = Vp.take s :=
  vtk_append 0 0 s t (by rw [show (vtk 0 0 s).2.2 = 0 from h]; decide)

/-- A field that is read from bytes, and how many it took. -/
def rd (s : List UInt8) (tx : Int) : Option (R × Nat) :=
  let t := Vp.take s
  if t.2.2 ≠ 0 ∨ t.1 % 8 = 7 ∨ t.1 / 8 < 1 ∨ 65535 < t.1 / 8 then none
  else
    let s1 := s.drop t.2.1
    if t.1 % 8 = 2 then if s1.length < 8 then none else some (⟨(t.1 / 8 : Nat), (t.1 % 8 : Nat), fix8 s1, []⟩, t.2.1 + 8)
    else
      let b := Vp.take s1
      if b.2.2 ≠ 0 then none
      else if t.1 % 8 = 0 ∨ t.1 % 8 = 1 then some (⟨(t.1 / 8 : Nat), (t.1 % 8 : Nat), b.1, []⟩, t.2.1 + b.2.1)
      else if (s1.drop b.2.1).length < b.1 ∨ (if t.1 % 8 = 3 then tx else 65536) < (b.1 : Int) then none
      else some (⟨(t.1 / 8 : Nat), (t.1 % 8 : Nat), 0, (s1.drop b.2.1).take b.1⟩, t.2.1 + b.2.1 + b.1)

/-- What the limits ask of a field's text. -/
def fits (f : R) (tx : Int) : Prop := number f.wire = false → (f.data.length : Int) ≤ if f.wire = 3 then tx else 65536

theorem fix8_lt (s : List UInt8) : fix8 s < 2 ^ 64 := by
  have h1 := foldr_lt (s.take 8)
  have h2 : (256 : Nat) ^ (s.take 8).length ≤ 256 ^ 8 := Nat.pow_le_pow_right (by decide) (by simp; omega)
  have : (256 : Nat) ^ 8 = 2 ^ 64 := by decide
  unfold fix8
  omega

theorem tag_valid {n w : Nat} (h1 : ¬ n < 1) (h2 : ¬ 65535 < n) (h3 : w ≤ 6) : tag (n : Int) (w : Int) = (Vp.put (n * 8 + w), 0) := by
  unfold tag
  rw [if_neg (by omega)]
  congr 2

theorem rd_valid {s : List UInt8} {tx : Int} {f : R} {k : Nat} (h : rd s tx = some (f, k)) :
    valid f = true ∧ f.bits < 2 ^ 64 ∧ 0 < k ∧ k ≤ s.length ∧ (ptf f).length ≤ k ∧ fits f tx ∧ f.data.length ≤ k := by
  unfold rd at h
  simp only at h
  split at h
  · cases h
  · rename_i h0
    simp only [ne_eq, not_or, Decidable.not_not] at h0
    obtain ⟨ht, h7, hn1, hn2⟩ := h0
    obtain ⟨b1, b2, b3, b4⟩ := take_bounds s ht
    have hsh := take_short s ht
    generalize hT : Vp.take s = T at *
    obtain ⟨u, n, e⟩ := T
    simp only at *
    have hw : u % 8 ≤ 6 := by omega
    have htag := tag_valid hn1 hn2 hw
    rw [show u / 8 * 8 + u % 8 = u by omega] at htag
    split at h
    · rename_i h2
      split at h
      · cases h
      · rename_i h8
        simp only [Option.some.injEq, Prod.mk.injEq] at h
        obtain ⟨rfl, rfl⟩ := h
        have hnum : number ((u % 8 : Nat) : Int) = true := by rw [h2]; rfl
        have hv : valid ⟨(u / 8 : Nat), (u % 8 : Nat), fix8 (s.drop n), []⟩ = true := by
          simp only [valid, htag, hnum]; rfl
        rw [List.length_drop] at h8
        refine ⟨hv, fix8_lt _, by omega, by omega, ?_, ?_, by simp⟩
        · rw [ptf, if_pos hv]
          simp only [htag, body, List.length_append]
          rw [if_pos (by omega), fx_len]
          omega
        · intro hnn; simp only [hnum] at hnn; cases hnn
    · rename_i h2
      split at h
      · cases h
      · rename_i hb
        simp only [ne_eq, Decidable.not_not] at hb
        obtain ⟨c1, c2, c3, c4⟩ := take_bounds _ hb
        have hsb := take_short _ hb
        generalize hB : Vp.take (s.drop n) = B at *
        obtain ⟨v, m, e'⟩ := B
        simp only at *
        rw [List.length_drop] at c2
        split at h
        · rename_i h01
          simp only [Option.some.injEq, Prod.mk.injEq] at h
          obtain ⟨rfl, rfl⟩ := h
          have hnum : number ((u % 8 : Nat) : Int) = true := by rcases h01 with h | h <;> rw [h] <;> rfl
          have hv : valid ⟨(u / 8 : Nat), (u % 8 : Nat), v, []⟩ = true := by
            simp only [valid, htag, hnum]; rfl
          refine ⟨hv, c4, by omega, by omega, ?_, ?_, by simp⟩
          · rw [ptf, if_pos hv]
            simp only [htag, body, hnum, List.length_append]
            rw [if_neg (by omega)]
            simp only [if_true]
            omega
          · intro hnn; simp only [hnum] at hnn; cases hnn
        · rename_i h01
          rw [Option.ite_none_left_eq_some] at h
          obtain ⟨hl, h⟩ := h
          · simp only [not_or] at hl
            simp only [Option.some.injEq, Prod.mk.injEq] at h
            obtain ⟨rfl, rfl⟩ := h
            have hnum : number ((u % 8 : Nat) : Int) = false := by
              have : u % 8 = 3 ∨ u % 8 = 4 ∨ u % 8 = 5 ∨ u % 8 = 6 := by omega
              rcases this with h | h | h | h <;> rw [h] <;> rfl
            have hdl : (((s.drop n).drop m).take v).length = v := by rw [List.length_take]; omega
            have hll := hl.1
            rw [List.length_drop, List.length_drop] at hll
            have hv : valid ⟨(u / 8 : Nat), (u % 8 : Nat), 0, ((s.drop n).drop m).take v⟩ = true := by
              simp only [valid, htag, hnum]; rfl
            refine ⟨hv, Nat.two_pow_pos 64, by omega, by omega, ?_, ?_, by rw [hdl]; omega⟩
            · rw [ptf, if_pos hv]
              simp only [htag, body, hnum, List.length_append]
              rw [if_neg (by omega), if_neg (by simp), List.length_append, hdl]
              omega
            · intro _
              rw [hdl]
              have := hl.2
              simp only
              split
              · rename_i h3
                rw [if_pos (by omega)] at this; omega
              · rename_i h3
                rw [if_neg (by omega)] at this; omega

theorem rd_append {s : List UInt8} {tx : Int} {f : R} {k : Nat} (h : rd s tx = some (f, k)) (t : List UInt8) : rd (s ++ t) tx = some (f, k) := by
  unfold rd at h ⊢
  simp only at h ⊢
  rw [Option.ite_none_left_eq_some] at h
  obtain ⟨h0, h⟩ := h
  have ht : (Vp.take s).2.2 = 0 := by
    simp only [ne_eq, not_or, Decidable.not_not] at h0
    exact h0.1
  rw [take_append s t ht, if_neg h0]
  have hb := take_bounds s ht
  rw [List.drop_append_of_le_length (by omega)]
  split at h
  · rename_i h2
    rw [if_pos h2]
    rw [Option.ite_none_left_eq_some] at h
    obtain ⟨h8, h⟩ := h
    rw [if_neg (by simp only [List.length_append]; omega), ← h]
    unfold fix8
    rw [List.take_append_of_le_length (by omega)]
  · rename_i h2
    rw [if_neg h2]
    rw [Option.ite_none_left_eq_some] at h
    obtain ⟨hb0, h⟩ := h
    have hb0' : (Vp.take (s.drop (Vp.take s).2.1)).2.2 = 0 := by simpa using hb0
    have hb2 := take_bounds _ hb0'
    rw [take_append _ t hb0', if_neg hb0]
    split at h
    · rename_i h01
      rw [if_pos h01]; exact h
    · rename_i h01
      rw [if_neg h01]
      rw [Option.ite_none_left_eq_some] at h
      obtain ⟨hl, h⟩ := h
      rw [List.drop_append_of_le_length (by omega)]
      rw [if_neg (fun h => hl (h.imp (fun h => by simp only [List.length_append] at h; omega) id)), ← h]
      simp only [not_or] at hl
      rw [List.take_append_of_le_length (by omega)]

theorem rd_ptf {f : R} {tx : Int} (hv : valid f = true) (hb : f.bits < 2 ^ 64) (hd : f.data.length < 2 ^ 64) (hf : fits f tx) (t : List UInt8) : rd (ptf f ++ t) tx = some (f, (ptf f).length) := by
  obtain ⟨num, wire, bits, data⟩ := f
  have hv' := hv
  unfold valid at hv'
  simp only [Bool.and_eq_true, beq_iff_eq] at hv' hb hd
  obtain ⟨h1, h2⟩ := hv'
  have hr : ¬ (num < 1 ∨ 65535 < num ∨ wire < 0 ∨ 6 < wire) := fun h => by
    unfold tag at h1; rw [if_pos h] at h1; cases h1
  have htag : tag num wire = (Vp.put (num * 8 + wire).toNat, 0) := by unfold tag; rw [if_neg hr]
  simp only [not_or, Int.not_lt] at hr
  obtain ⟨n, rfl⟩ := Int.eq_ofNat_of_zero_le (show 0 ≤ num by omega)
  obtain ⟨w, rfl⟩ := Int.eq_ofNat_of_zero_le (show 0 ≤ wire by omega)
  rw [show ((n : Int) * 8 + (w : Int)).toNat = n * 8 + w by omega] at htag
  have hp : ptf ⟨n, w, bits, data⟩ = Vp.put (n * 8 + w) ++ body ⟨n, w, bits, data⟩ := by rw [ptf, if_pos hv]; simp only [htag]
  have htk : ∀ z, Vp.take (Vp.put (n * 8 + w) ++ z) = (n * 8 + w, (Vp.put (n * 8 + w)).length, 0) := fun z => take_put _ z (by omega)
  rw [hp, List.append_assoc]
  unfold rd
  simp only [htk, List.drop_left']
  rw [if_neg (by omega), show (n * 8 + w) % 8 = w by omega, show (n * 8 + w) / 8 = n by omega]
  by_cases w2 : w = 2
  · subst w2
    have hbo : body ⟨n, (2 : Nat), bits, data⟩ = fx 8 bits := by rw [body]; exact if_pos rfl
    have hda : data = [] := by simpa [number] using h2
    subst hda
    rw [if_pos rfl, hbo, if_neg (by simp only [List.length_append, fx_len]; omega), fix8_fx bits t hb, List.length_append, fx_len]
  · rw [if_neg w2]
    by_cases w01 : w = 0 ∨ w = 1
    · have hnum : number (w : Int) = true := by rcases w01 with h | h <;> rw [h] <;> rfl
      have hbo : body ⟨n, w, bits, data⟩ = Vp.put bits := by
        rw [body]; simp only [hnum]; rw [if_neg (by omega)]; simp
      have hda : data = [] := by simpa [hnum] using h2
      subst hda
      rw [hbo, take_put bits t hb]
      simp only [ne_eq, not_true_eq_false, if_false, w01, if_true, List.length_append]
    · have hnum : number (w : Int) = false := by
        have : w = 3 ∨ w = 4 ∨ w = 5 ∨ w = 6 := by omega
        rcases this with h | h | h | h <;> rw [h] <;> rfl
      have hbo : body ⟨n, w, bits, data⟩ = Vp.put data.length ++ data := by
        rw [body]; simp only [hnum]; rw [if_neg (by omega)]; simp
      have hbi : bits = 0 := by simpa [hnum] using h2
      subst hbi
      rw [hbo, List.append_assoc, take_put data.length _ hd]
      have hf' := hf hnum
      simp only at hf'
      simp only [ne_eq, not_true_eq_false, if_false, w01, List.drop_left', List.length_append]
      rw [if_neg, List.take_left', Nat.add_assoc]
      · rfl
      · simp only [not_or]
        refine ⟨by omega, ?_⟩
        split at hf'
        · rename_i h3
          rw [if_pos (by omega)]; omega
        · rename_i h3
          rw [if_neg (by omega)]; omega

end Go.Proofs.Ytcmdlmcmefbkeaa.Va

/- Raw fields: reading at a cursor is reading from the bytes that are left. -/
set_option linter.unusedSimpArgs false
namespace Go.Proofs.Ytcmdlmcmefbkeaa.Va
open Go Am Rc Bt Vp Cp Up

theorem ahead_at {c : C} (hl : c.d.length ≤ 9223372036854770000) (hs : c.sound = true) (n : Nat) (hn : (n : Int) ≤ c.left) :
    c.ahead n = { c with a := c.a + n } ∧ (c.ahead n).sound = true ∧ (c.ahead n).rest = c.rest.drop n := by
  have h := (C.sound_iff c).1 hs
  have hr := c.rest_len
  rw [if_pos hs] at hr
  have hw : IntKind.i64.wrap (c.a + (n : Int)) = c.a + n := by rw [wi64]; omega
  have e : c.ahead n = { c with a := c.a + n } := by simp only [C.ahead, hw]
  have hs' : (c.ahead n).sound = true := by
    rw [e, C.sound_iff]
    exact ⟨by show 0 ≤ c.a + n; omega, by show c.a + n ≤ c.e; omega, h.2.2⟩
  refine ⟨e, hs', ?_⟩
  rw [C.rest_of hs', C.rest_of hs, e]
  simp only
  rw [List.drop_take, List.drop_drop, show (c.a + (n : Int)).toNat = c.a.toNat + n by omega]
  congr 1
  omega

theorem spend_one {c : C} (hn : 1 ≤ c.nd) (hm : c.nd < 9223372036854775808) : c.spend 1 = ({ c with nd := c.nd - 1 }, 0) := by
  unfold C.spend
  rw [if_neg (by omega), if_neg (by omega), show IntKind.i64.wrap (c.nd - 1) = c.nd - 1 by rw [wi64]; omega]

theorem nxt_nd {c : C} (h : c.nd < 1) : (nxt c).2.2 ≠ 0 := by
  unfold nxt
  simp only
  split
  · rename_i ht
    have e : (takeTag c).2.2.1.nd = c.nd := by
      unfold takeTag C.varint
      simp only
      repeat' split
      all_goals rfl
    have : ((takeTag c).2.2.1.spend 1).2 = 3 := by
      unfold C.spend
      rw [if_neg (by omega), if_pos (by rw [e]; omega)]
    rw [this, if_neg (by decide)]
    exact (by decide : (3 : Nat) ≠ 0)
  · rename_i ht; exact ht

theorem nxt_rd {c : C} (hl : c.d.length ≤ 9223372036854770000) (hs : c.sound = true) (hn : 1 ≤ c.nd) (hm : c.nd < 9223372036854775808) :
    (∀ f k, rd c.rest c.tx = some (f, k) → nxt c = (f, { c with a := c.a + k, nd := c.nd - 1 }, 0)) ∧ (rd c.rest c.tx = none → (nxt c).2.2 ≠ 0) := by
  have hvar : c.varint = if (Vp.take c.rest).2.2 = 0 then ((Vp.take c.rest).1, c.ahead (Vp.take c.rest).2.1, 0) else (0, c, (Vp.take c.rest).2.2) := rfl
  have hb := take_bounds c.rest
  unfold rd
  simp only
  generalize Vp.take c.rest = T at hvar hb ⊢
  obtain ⟨u, n, e⟩ := T
  simp only at hvar hb ⊢
  by_cases he : e = 0
  · subst he
    rw [if_pos rfl] at hvar
    obtain ⟨b1, b2, b3, b4⟩ := hb rfl
    obtain ⟨a1, a2, a3⟩ := ahead_at hl hs n (by unfold C.left; omega)
    have hal : (c.ahead n).d.length ≤ 9223372036854770000 := hl
    by_cases hbad : u % 8 = 7 ∨ u / 8 < 1 ∨ 65535 < u / 8
    · rw [if_pos (by omega)]
      refine ⟨fun f k h => (by cases h), fun _ => ?_⟩
      have ht : (takeTag c).2.2.2 ≠ 0 := by
        unfold takeTag
        simp only [hvar, if_true]
        by_cases h7 : u % 8 = 7
        · rw [if_pos h7]; exact (by decide : (5 : Nat) ≠ 0)
        · rw [if_neg h7, if_pos (by omega)]; exact (by decide : (6 : Nat) ≠ 0)
      unfold nxt
      simp only [ht, if_false]
      exact ht
    · rw [if_neg (by omega)]
      have ht : takeTag c = (((u / 8 : Nat) : Int), ((u % 8 : Nat) : Int), c.ahead n, 0) := by
        unfold takeTag
        simp only [hvar, if_true]
        rw [if_neg (by omega), if_neg (by omega)]
      have hsp : (c.ahead n).spend 1 = ({ c.ahead n with nd := c.nd - 1 }, 0) := spend_one (c := c.ahead n) hn hm
      generalize hD : ({ c.ahead n with nd := c.nd - 1 } : C) = D at hsp
      have hDs : D.sound = true := by rw [← hD]; exact a2
      have hDl : D.d.length ≤ 9223372036854770000 := by rw [← hD]; exact hl
      have hDr : D.rest = c.rest.drop n := by rw [← hD, ← a3]; rfl
      have hDe : ∀ k : Nat, ({ D with a := D.a + k } : C) = { c with a := c.a + (n + k : Nat), nd := c.nd - 1, tx := D.tx } := by
        intro k
        rw [← hD, a1]
        simp only [C.mk.injEq, true_and, and_true]
        omega
      have hnx : nxt c = if (cont D ⟨(u / 8 : Nat), (u % 8 : Nat), 0, []⟩).2.2 = 0 then cont D ⟨(u / 8 : Nat), (u % 8 : Nat), 0, []⟩ else (zr, c, (cont D ⟨(u / 8 : Nat), (u % 8 : Nat), 0, []⟩).2.2) := by
        unfold nxt
        simp only [ht, hsp, if_true]
      have htx : D.tx = c.tx := by rw [← hD]; rfl
      rw [hnx, ← hDr, ← htx]
      by_cases h2 : u % 8 = 2
      · rw [if_pos h2]
        have hc : cont D ⟨(u / 8 : Nat), (u % 8 : Nat), 0, []⟩ = (⟨(u / 8 : Nat), (u % 8 : Nat), D.fixed.1, []⟩, D.fixed.2.1, D.fixed.2.2) := by
          unfold cont; rw [if_pos (by simp only; omega)]
        rw [hc]
        unfold C.fixed
        by_cases h8 : D.rest.length < 8
        · simp only [h8, if_true]
          exact ⟨fun f k h => (by cases h), fun _ => by simp⟩
        · simp only [h8, if_false, if_true]
          refine ⟨fun f k h => ?_, fun h => (by cases h)⟩
          simp only [Option.some.injEq, Prod.mk.injEq] at h
          obtain ⟨rfl, rfl⟩ := h
          have e8 : D.ahead 8 = { D with a := D.a + ((8 : Nat) : Int) } := (ahead_at hDl hDs 8 (by unfold C.left; omega)).1
          rw [e8, hDe 8]
      · rw [if_neg h2]
        have hbv := take_bounds D.rest
        have hDv : D.varint = if (Vp.take D.rest).2.2 = 0 then ((Vp.take D.rest).1, D.ahead (Vp.take D.rest).2.1, 0) else (0, D, (Vp.take D.rest).2.2) := rfl
        generalize Vp.take D.rest = B at hDv hbv ⊢
        obtain ⟨v, m, e⟩ := B
        simp only at hDv hbv ⊢
        have hcd : ¬ (u % 8 = 0 ∨ u % 8 = 1) → cont D ⟨(u / 8 : Nat), (u % 8 : Nat), 0, []⟩ = (⟨(u / 8 : Nat), (u % 8 : Nat), 0, (dat D (u % 8 : Nat)).1⟩, (dat D (u % 8 : Nat)).2.1, (dat D (u % 8 : Nat)).2.2) := by
          intro h
          unfold cont; rw [if_neg (by simp only; omega), if_neg (by simp only; omega)]
        have hcn : (u % 8 = 0 ∨ u % 8 = 1) → cont D ⟨(u / 8 : Nat), (u % 8 : Nat), 0, []⟩ = (⟨(u / 8 : Nat), (u % 8 : Nat), D.varint.1, []⟩, D.varint.2.1, D.varint.2.2) := by
          intro h
          unfold cont; rw [if_neg (by simp only; omega), if_pos (by simp only; omega)]
        by_cases he : e = 0
        · subst he
          rw [if_pos rfl] at hDv
          obtain ⟨c1, c2, c3, c4⟩ := hbv rfl
          obtain ⟨d1, d2, d3⟩ := ahead_at hDl hDs m (by unfold C.left; omega)
          rw [if_neg (by simp)]
          by_cases h01 : u % 8 = 0 ∨ u % 8 = 1
          · rw [if_pos h01, hcn h01, hDv]
            simp only [if_true]
            refine ⟨fun f k h => ?_, fun h => (by cases h)⟩
            simp only [Option.some.injEq, Prod.mk.injEq] at h
            obtain ⟨rfl, rfl⟩ := h
            rw [d1, hDe m]
          · rw [if_neg h01, hcd h01]
            have hdt : dat D ((u % 8 : Nat) : Int) = if (D.ahead m).left < (v : Int) then ([], D, 4) else if (if u % 8 = 3 then D.tx else 65536) < (v : Int) then ([], D, 3) else (((D.ahead m).d.drop (D.ahead m).a.toNat).take v, (D.ahead m).ahead v, 0) := by
              unfold dat
              simp only [hDv, if_true]
              have : (if ((u % 8 : Nat) : Int) = 3 then D.tx else 65536) = if u % 8 = 3 then D.tx else 65536 := by
                by_cases h : u % 8 = 3
                · rw [if_pos h, if_pos (by omega)]
                · rw [if_neg h, if_neg (by omega)]
              rw [this]
            have hlf : (D.ahead m).left = ((D.rest.drop m).length : Int) := by unfold C.left; rw [d3]
            rw [hdt, hlf]
            by_cases hq : (D.rest.drop m).length < v
            · rw [if_pos (.inl hq), if_pos (show ((D.rest.drop m).length : Int) < (v : Int) by omega)]
              exact ⟨fun f k h => (by cases h), fun _ => by simp⟩
            · rw [if_neg (show ¬ ((D.rest.drop m).length : Int) < (v : Int) by omega)]
              by_cases hr : (if u % 8 = 3 then D.tx else 65536) < (v : Int)
              · rw [if_pos (.inr hr), if_pos hr]
                exact ⟨fun f k h => (by cases h), fun _ => by simp⟩
              · rw [if_neg (by simp only [not_or]; exact ⟨hq, hr⟩), if_neg hr]
                simp only [if_true]
                refine ⟨fun f k h => ?_, fun h => (by cases h)⟩
                simp only [Option.some.injEq, Prod.mk.injEq] at h
                obtain ⟨rfl, rfl⟩ := h
                have hal2 := ahead_at (c := D.ahead m) hDl d2 v (by rw [hlf]; omega)
                have hrd : ((D.ahead m).d.drop (D.ahead m).a.toNat).take v = (D.rest.drop m).take v := by
                  rw [← d3, C.rest_of d2, List.take_take, Nat.min_eq_left]
                  have h1 := (C.sound_iff _).1 d2
                  have h2 := (D.ahead m).rest_len
                  rw [if_pos d2, hlf] at h2
                  omega
                rw [hrd, hal2.1]
                have : ({ D.ahead m with a := (D.ahead m).a + v } : C) = { D with a := D.a + (m + v : Nat) } := by
                  rw [d1]
                  simp only [C.mk.injEq, true_and, and_true]
                  omega
                rw [this, hDe (m + v), Nat.add_assoc]
        · rw [if_neg he] at hDv
          rw [if_pos (by simpa using he)]
          refine ⟨fun f k h => (by cases h), fun _ => ?_⟩
          by_cases h01 : u % 8 = 0 ∨ u % 8 = 1
          · rw [hcn h01, hDv]; simp only [he, if_false]; exact he
          · rw [hcd h01]
            have hdt : dat D ((u % 8 : Nat) : Int) = ([], D, e) := by
              unfold dat
              simp only [hDv, he, if_false]
            rw [hdt]; simp only [he, if_false]; exact he
  · rw [if_neg he] at hvar
    rw [if_pos (.inl he)]
    refine ⟨fun f k h => (by cases h), fun _ => ?_⟩
    have ht : takeTag c = (0, 0, c, e) := by
      unfold takeTag
      simp only [hvar, he, if_false]
    unfold nxt
    simp only [ht, he, if_false]
    exact he

end Go.Proofs.Ytcmdlmcmefbkeaa.Va

/- Raw fields: scanning, as a law of bytes. -/
set_option linter.unusedSimpArgs false
namespace Go.Proofs.Ytcmdlmcmefbkeaa.Va
open Go Am Rc Bt Vp Cp Up

/-- The fields of some bytes, whatever their number. -/
def scc : Nat → List UInt8 → Int → Option (List R)
  | 0, s, _ => if s = [] then some [] else none
  | k + 1, s, tx => if s = [] then some [] else (rd s tx).bind fun r => (scc k (s.drop r.2) tx).map fun a => r.1 :: a

theorem sg_scc : ∀ (k : Nat) (c : C), c.d.length ≤ 9223372036854770000 → c.sound = true → c.rest.length ≤ k → 0 ≤ c.nd → c.nd < 9223372036854775808 →
    (∀ a, scc k c.rest c.tx = some a → (a.length : Int) ≤ c.nd → sg k c = (a, 0)) ∧ ((sg k c).2 = 0 → ∃ a, scc k c.rest c.tx = some a ∧ (a.length : Int) ≤ c.nd ∧ sg k c = (a, 0))
  | 0, c, hl, hs, hk, h0, hm => by
    have hr : c.rest = [] := List.eq_nil_of_length_eq_zero (by omega)
    rw [hr]
    refine ⟨fun a h _ => ?_, fun _ => ⟨[], rfl, by simpa using h0, rfl⟩⟩
    simp only [scc, if_true, Option.some.injEq] at h
    rw [← h]; rfl
  | k + 1, c, hl, hs, hk, h0, hm => by
    by_cases hr : c.rest = []
    · have hlf : ¬ 0 < c.left := by unfold C.left; rw [hr]; simp
      have e : sg (k + 1) c = ([], 0) := by rw [sg, if_neg hlf]
      rw [e, hr]
      refine ⟨fun a h _ => ?_, fun _ => ⟨[], rfl, by simpa using h0, rfl⟩⟩
      simp only [scc, if_true, Option.some.injEq] at h
      rw [← h]
    · have hlf : 0 < c.left := by
        unfold C.left
        have : c.rest.length ≠ 0 := fun h => hr (List.eq_nil_of_length_eq_zero h)
        omega
      by_cases hnd : 1 ≤ c.nd
      · obtain ⟨g1, g2⟩ := nxt_rd hl hs hnd hm
        rw [scc, if_neg hr, sg, if_pos hlf]
        cases hrd : rd c.rest c.tx with
        | none =>
          have := g2 hrd
          simp only [this, if_false]
          exact ⟨fun a h => (by cases h), fun h => h.elim⟩
        | some p =>
          obtain ⟨f, n⟩ := p
          have hnx := g1 f n hrd
          obtain ⟨_, _, v3, v4, _⟩ := rd_valid hrd
          obtain ⟨a1, a2, a3⟩ := ahead_at hl hs n (by unfold C.left; omega)
          have hc' : ({ c with a := c.a + n, nd := c.nd - 1 } : C) = { c.ahead n with nd := c.nd - 1 } := by rw [a1]
          have hr' : ({ c with a := c.a + n, nd := c.nd - 1 } : C).rest = c.rest.drop n := by rw [hc', ← a3]; rfl
          have hs' : ({ c with a := c.a + n, nd := c.nd - 1 } : C).sound = true := by rw [hc']; exact a2
          obtain ⟨i1, i2⟩ := sg_scc k { c with a := c.a + n, nd := c.nd - 1 } hl hs' (by rw [hr', List.length_drop]; omega) (by show 0 ≤ c.nd - 1; omega) (by show c.nd - 1 < _; omega)
          rw [hr'] at i1 i2
          simp only [hnx, if_true, Option.bind_some]
          refine ⟨fun a h hal => ?_, fun h => ?_⟩
          · obtain ⟨b, hb, rfl⟩ := Option.map_eq_some_iff.1 h
            have hb' := i1 b hb (by simp only [List.length_cons] at hal; show (b.length : Int) ≤ c.nd - 1; omega)
            rw [hb']
            simp
          · by_cases ht : (sg k { c with a := c.a + n, nd := c.nd - 1 }).2 = 0
            · obtain ⟨b, hb, hbn, hbs⟩ := i2 ht
              have hbn : (b.length : Int) ≤ c.nd - 1 := hbn
              refine ⟨f :: b, by rw [hb]; rfl, by simp only [List.length_cons]; omega, ?_⟩
              rw [hbs]; simp
            · rw [if_neg ht] at h; exact absurd h ht
      · have hn := nxt_nd (c := c) (by omega)
        rw [sg, if_pos hlf]
        simp only [hn, if_false]
        refine ⟨fun a h hal => ?_, fun h => h.elim⟩
        rw [scc, if_neg hr] at h
        obtain ⟨p, _, h⟩ := Option.bind_eq_some_iff.1 h
        obtain ⟨b, _, rfl⟩ := Option.map_eq_some_iff.1 h
        simp only [List.length_cons] at hal
        omega

def okl (s : List UInt8) (l : L) : Prop := 0 ≤ l.b ∧ 0 ≤ l.dp ∧ 0 ≤ l.nd ∧ 0 ≤ l.tx ∧ (s.length : Int) ≤ l.b

theorem opn_okl {s : List UInt8} {l : L} (h : okl s l) : opn s l = (⟨s, 0, s.length, l.dp, l.nd, l.tx⟩, 0) := by
  obtain ⟨h1, h2, h3, h4, h5⟩ := h
  unfold opn
  rw [if_neg (by omega), if_neg (by omega)]

theorem okl_opn {s : List UInt8} {l : L} (h : (opn s l).2 = 0) : okl s l := by
  unfold opn at h
  split at h
  · cases h
  · split at h
    · cases h
    · exact ⟨by omega, by omega, by omega, by omega, by omega⟩

theorem full_rest (s : List UInt8) (x y z : Int) : (⟨s, 0, s.length, x, y, z⟩ : C).sound = true ∧ (⟨s, 0, s.length, x, y, z⟩ : C).rest = s := by
  have hs : (⟨s, 0, s.length, x, y, z⟩ : C).sound = true := (C.sound_iff _).2 ⟨Int.le_refl _, by simp, Int.le_refl _⟩
  refine ⟨hs, ?_⟩
  rw [C.rest_of hs]
  simp

theorem scan_scc {s : List UInt8} {l : L} (hl : s.length ≤ 9223372036854770000) (hm : l.nd < 9223372036854775808) :
    (∀ a, okl s l → scc s.length s l.tx = some a → (a.length : Int) ≤ l.nd → scan s l = (a, 0)) ∧ ((scan s l).2 = 0 → okl s l ∧ ∃ a, scc s.length s l.tx = some a ∧ (a.length : Int) ≤ l.nd ∧ scan s l = (a, 0)) := by
  obtain ⟨f1, f2⟩ := full_rest s l.dp l.nd l.tx
  have main : okl s l → _ := fun ho => sg_scc s.length ⟨s, 0, s.length, l.dp, l.nd, l.tx⟩ hl f1 (by rw [f2]; exact Nat.le_refl _) ho.2.2.1 hm
  rw [f2] at main
  constructor
  · intro a ho ha hn
    have := (main ho).1 a ha hn
    unfold scan
    rw [opn_okl ho]
    simp only [if_true]
    exact this
  · intro h
    unfold scan at h ⊢
    by_cases ho : (opn s l).2 = 0
    · have hk := okl_opn ho
      rw [opn_okl hk] at h ⊢
      simp only [if_true] at h ⊢
      exact ⟨hk, (main hk).2 h⟩
    · simp only [ho, if_false] at h

theorem scc_mono : ∀ (k j : Nat) (s : List UInt8) (tx : Int) (a : List R), k ≤ j → scc k s tx = some a → scc j s tx = some a
  | 0, j, s, tx, a, _, h => by
    unfold scc at h
    split at h
    · rename_i hs
      cases j <;> simp only [scc, hs, if_true] <;> exact h
    · cases h
  | k + 1, j, s, tx, a, hj, h => by
    obtain ⟨j, rfl⟩ : ∃ i, j = i + 1 := ⟨j - 1, by omega⟩
    rw [scc] at h ⊢
    split at h
    · rename_i hs; rw [if_pos hs]; exact h
    · rename_i hs
      rw [if_neg hs]
      obtain ⟨p, hp, h⟩ := Option.bind_eq_some_iff.1 h
      obtain ⟨b, hb, rfl⟩ := Option.map_eq_some_iff.1 h
      rw [hp, Option.bind_some, scc_mono k j _ tx b (by omega) hb]
      rfl

/-- More rounds than bytes are of no use. -/
theorem scc_fit : ∀ (k : Nat) (s : List UInt8) (tx : Int) (a : List R), scc k s tx = some a → scc s.length s tx = some a
  | 0, s, tx, a, h => scc_mono 0 _ s tx a (Nat.zero_le _) h
  | k + 1, s, tx, a, h => by
    rw [scc] at h
    split at h
    · rename_i hs; subst hs; exact h
    · rename_i hs
      obtain ⟨p, hp, h⟩ := Option.bind_eq_some_iff.1 h
      obtain ⟨b, hb, rfl⟩ := Option.map_eq_some_iff.1 h
      obtain ⟨f, n⟩ := p
      obtain ⟨_, _, v3, v4, _⟩ := rd_valid hp
      obtain ⟨j, hj⟩ : ∃ j, s.length = j + 1 := ⟨s.length - 1, by omega⟩
      have hb' := scc_mono _ j _ tx b (by rw [List.length_drop]; omega) (scc_fit k _ tx b hb)
      rw [hj, scc, if_neg hs, hp, Option.bind_some, hb']
      rfl

theorem scc_app : ∀ (k j : Nat) (s t : List UInt8) (tx : Int) (a b : List R), scc k s tx = some a → scc j t tx = some b → scc (k + j) (s ++ t) tx = some (a ++ b)
  | 0, j, s, t, tx, a, b, h, g => by
    unfold scc at h
    split at h
    · rename_i hs
      cases h
      rw [hs, Nat.zero_add]; exact g
    · cases h
  | k + 1, j, s, t, tx, a, b, h, g => by
    rw [scc] at h
    split at h
    · rename_i hs
      cases h
      rw [hs]
      exact scc_mono j _ t tx b (by omega) g
    · rename_i hs
      obtain ⟨p, hp, h⟩ := Option.bind_eq_some_iff.1 h
      obtain ⟨b', hb, rfl⟩ := Option.map_eq_some_iff.1 h
      obtain ⟨f, n⟩ := p
      obtain ⟨_, _, v3, v4, _⟩ := rd_valid hp
      rw [show k + 1 + j = (k + j) + 1 by omega, scc, if_neg (by simp [hs]), rd_append hp t, Option.bind_some]
      have := scc_app k j (s.drop n) t tx b' b hb g
      rw [show ((f, n) : R × Nat).2 = n from rfl] at *
      rw [List.drop_append_of_le_length v4, this]
      rfl

/-- What scanning gives. -/
theorem scc_valid : ∀ (k : Nat) (s : List UInt8) (tx : Int) (a : List R), scc k s tx = some a →
    (∀ f ∈ a, valid f = true ∧ f.bits < 2 ^ 64 ∧ f.data.length ≤ s.length ∧ fits f tx) ∧ (putl a).length ≤ s.length ∧ a.length ≤ s.length
  | 0, s, tx, a, h => by
    unfold scc at h
    split at h
    · cases h; simp [putl]
    · cases h
  | k + 1, s, tx, a, h => by
    rw [scc] at h
    split at h
    · cases h; simp [putl]
    · rename_i hs
      obtain ⟨p, hp, h⟩ := Option.bind_eq_some_iff.1 h
      obtain ⟨b, hb, rfl⟩ := Option.map_eq_some_iff.1 h
      obtain ⟨f, n⟩ := p
      obtain ⟨v1, v2, v3, v4, v5, v6, v7⟩ := rd_valid hp
      obtain ⟨i1, i2, i3⟩ := scc_valid k (s.drop n) tx b hb
      rw [List.length_drop] at i2 i3
      refine ⟨fun g hg => ?_, ?_, ?_⟩
      · rcases List.mem_cons.1 hg with rfl | hg
        · exact ⟨v1, v2, by omega, v6⟩
        · obtain ⟨j1, j2, j3, j4⟩ := i1 g hg
          rw [List.length_drop] at j3
          exact ⟨j1, j2, by omega, j4⟩
      · show (putl (f :: b)).length ≤ s.length
        unfold putl at i2 ⊢
        rw [List.flatMap_cons, List.length_append]
        omega
      · simp only [List.length_cons]; omega

theorem ptf_pos {f : R} (h : valid f = true) : 0 < (ptf f).length := by
  rw [ptf, if_pos h, List.length_append]
  have h' := h
  unfold valid at h'
  simp only [Bool.and_eq_true, beq_iff_eq] at h'
  unfold tag at h' ⊢
  split
  · rename_i hb; rw [if_pos hb] at h'; exact absurd h'.1 (by decide)
  · have := (put_len (f.num * 8 + f.wire).toNat).1
    simp only
    omega

/-- What is written is read again. -/
theorem scc_put (tx : Int) : ∀ (l : List R), (∀ f ∈ l, valid f = true ∧ f.bits < 2 ^ 64 ∧ f.data.length < 2 ^ 64 ∧ fits f tx) → scc (putl l).length (putl l) tx = some l
  | [], _ => rfl
  | f :: l, h => by
    obtain ⟨h1, h2, h3, h4⟩ := h f (by simp)
    have ih := scc_put tx l (fun g hg => h g (by simp [hg]))
    have hp := ptf_pos h1
    have e : putl (f :: l) = ptf f ++ putl l := by unfold putl; rw [List.flatMap_cons]
    have hne : putl (f :: l) ≠ [] := by intro e'; rw [e] at e'; have := congrArg List.length e'; rw [List.length_append, List.length_nil] at this; omega
    obtain ⟨j, hj⟩ : ∃ j, (putl (f :: l)).length = j + 1 := ⟨(putl (f :: l)).length - 1, by rw [e, List.length_append]; omega⟩
    have hjl : (putl l).length ≤ j := by
      have := hj
      rw [e, List.length_append] at this
      omega
    rw [hj, scc, if_neg hne, e, rd_ptf h1 h2 h3 h4 (putl l), Option.bind_some]
    simp only [List.drop_left']
    rw [scc_mono _ j _ tx l hjl ih]
    rfl

theorem putl_filter : ∀ l : List R, putl (l.filter valid) = putl l
  | [] => rfl
  | f :: l => by
    unfold putl
    by_cases h : valid f = true
    · rw [List.filter_cons_of_pos h, List.flatMap_cons, List.flatMap_cons]
      congr 1
      exact putl_filter l
    · rw [List.filter_cons_of_neg h, List.flatMap_cons, show ptf f = [] by rw [ptf, if_neg h], List.nil_append]
      exact putl_filter l

end Go.Proofs.Ytcmdlmcmefbkeaa.Va

/- The law of round trips of raw fields. -/
set_option linter.unusedSimpArgs false
namespace Go.Proofs.Ytcmdlmcmefbkeaa.Va
open Go Am Rc Bt Vp Cp Up

def longp (l : List R) : Bool := decide (300 < l.length) || l.any fun f => decide (3000 < f.data.length)

def LongI (l : List R) (k : Nat) (st : St) : Prop :=
  ∃ f i, st = ⟨f, [noObs], []⟩ ∧ k = l.length - i ∧ i ≤ l.length ∧ f 0 = .list (rsv l) ∧ f 3 = .int .i64 (i : Nat) ∧ (∀ j fd, j < i → l[j]? = some fd → ¬ 3000 < fd.data.length)

theorem c20 (l : List R) : Fn1 Try.prog 20 [.list (rsv l)] (.bool (longp l)) := by
  refine fn1_of_awp (rc := r20) (rs := o20) Try.func20 rfl rfl Try.ntmps20 k20 q20 (by simp) ?_
  simp only [g20_0, g20_1, g20_2, g20_3, g20_4, g20_6, g20_7, g20_5, g20_8, r20, o20, rsv_len, eES, eEX, Nat.reduceBEq, Int.reduceLE, Int.reduceLT, Int.reduceToNat, Int.reduceEq, ↓reduceIte, reduceCtorEq, Nat.reducePow, Nat.reduceAdd, Nat.reduceLeDiff, Nat.reduceLT, Nat.reduceSub, Nat.reduceEqDiff]
  by_cases h3 : 300 < l.length
  · have d : decide ((l.length : Int) > 300) = true := decide_eq_true (by omega)
    have e : longp l = true := by simp [longp, h3]
    simp only [d, e, eES, eEX, Nat.reduceBEq, Int.reduceLE, Int.reduceLT, Int.reduceToNat, Int.reduceEq, ↓reduceIte, reduceCtorEq, Nat.reducePow, Nat.reduceAdd, Nat.reduceLeDiff, Nat.reduceLT, Nat.reduceSub, Nat.reduceEqDiff]
  · have d : decide ((l.length : Int) > 300) = false := decide_eq_false (by omega)
    simp only [d, eES, eEX, Nat.reduceBEq, Int.reduceLE, Int.reduceLT, Int.reduceToNat, Int.reduceEq, ↓reduceIte, reduceCtorEq, Nat.reducePow, Nat.reduceAdd, Nat.reduceLeDiff, Nat.reduceLT, Nat.reduceSub, Nat.reduceEqDiff]
    refine awp_loop (LongI l) l.length ⟨_, 0, rfl, rfl, Nat.zero_le _, rfl, rfl, fun j fd h => absurd h (Nat.not_lt_zero _)⟩ ?_
    rintro n st ⟨f, i, rfl, rfl, hi, h0, h3', hall⟩
    simp only [l20_0, g20_0, g20_1, g20_2, g20_3, g20_4, g20_6, g20_7, g20_5, g20_8, r20, o20, h0, h3', rsv_len, eES, eEX, Nat.reduceBEq, Int.reduceLE, Int.reduceLT, Int.reduceToNat, Int.reduceEq, ↓reduceIte, reduceCtorEq, Nat.reducePow, Nat.reduceAdd, Nat.reduceLeDiff, Nat.reduceLT, Nat.reduceSub, Nat.reduceEqDiff]
    by_cases hlt : i < l.length
    · have d0 : decide ((i : Int) < (l.length : Int)) = true := decide_eq_true (by omega)
      obtain ⟨fd, hfd⟩ : ∃ fd, l[i]? = some fd := ⟨l[i], List.getElem?_eq_getElem hlt⟩
      have hfa : (rsv l)[i]? = some fd.av := by simp [rsv, hfd]
      have n0 : (0 ≤ (i : Int)) = True := by simp
      have e1 : IntKind.i64.wrap ((i : Int) + 1) = ((i + 1 : Nat) : Int) := by rw [wi64]; omega
      simp only [d0, n0, Int.toNat_natCast, aiaddr, hfa, R.av, h0, h3', eES, eEX, Nat.reduceBEq, Int.reduceLE, Int.reduceLT, Int.reduceToNat, Int.reduceEq, ↓reduceIte, reduceCtorEq, Nat.reducePow, Nat.reduceAdd, Nat.reduceLeDiff, Nat.reduceLT, Nat.reduceSub, Nat.reduceEqDiff]
      by_cases hb : 3000 < fd.data.length
      · have d1 : decide ((fd.data.length : Int) > 3000) = true := decide_eq_true (by omega)
        have e : longp l = true := by
          simp only [longp, Bool.or_eq_true, List.any_eq_true, decide_eq_true_eq]
          exact .inr ⟨fd, List.mem_of_getElem? hfd, hb⟩
        simp only [d1, e, eES, eEX, Nat.reduceBEq, Int.reduceLE, Int.reduceLT, Int.reduceToNat, Int.reduceEq, ↓reduceIte, reduceCtorEq, Nat.reducePow, Nat.reduceAdd, Nat.reduceLeDiff, Nat.reduceLT, Nat.reduceSub, Nat.reduceEqDiff]
      · have d1 : decide ((fd.data.length : Int) > 3000) = false := decide_eq_false (by omega)
        simp only [d1, e1, h0, h3', eES, eEX, Nat.reduceBEq, Int.reduceLE, Int.reduceLT, Int.reduceToNat, Int.reduceEq, ↓reduceIte, reduceCtorEq, Nat.reducePow, Nat.reduceAdd, Nat.reduceLeDiff, Nat.reduceLT, Nat.reduceSub, Nat.reduceEqDiff]
        refine ⟨l.length - (i + 1), by omega, _, i + 1, rfl, rfl, by omega, by simp only [h0, eES, eEX, Nat.reduceBEq, Int.reduceLE, Int.reduceLT, Int.reduceToNat, Int.reduceEq, ↓reduceIte, reduceCtorEq, Nat.reducePow, Nat.reduceAdd, Nat.reduceLeDiff, Nat.reduceLT, Nat.reduceSub, Nat.reduceEqDiff], by simp only [eES, eEX, Nat.reduceBEq, Int.reduceLE, Int.reduceLT, Int.reduceToNat, Int.reduceEq, ↓reduceIte, reduceCtorEq, Nat.reducePow, Nat.reduceAdd, Nat.reduceLeDiff, Nat.reduceLT, Nat.reduceSub, Nat.reduceEqDiff], fun j gd hj hg => ?_⟩
        by_cases hji : j = i
        · rw [hji, hfd] at hg; cases hg; exact hb
        · exact hall j gd (by omega) hg
    · have d0 : decide ((i : Int) < (l.length : Int)) = false := decide_eq_false (by omega)
      have e : longp l = false := by
        simp only [longp, Bool.or_eq_false_iff, decide_eq_false_iff_not, List.any_eq_false, decide_eq_true_eq]
        refine ⟨h3, fun fd hfd => ?_⟩
        obtain ⟨j, hj, hjf⟩ := List.mem_iff_getElem.1 hfd
        exact hall j fd (by omega) (by rw [List.getElem?_eq_getElem hj, hjf])
      simp only [d0, e, h0, h3', eES, eEX, Nat.reduceBEq, Int.reduceLE, Int.reduceLT, Int.reduceToNat, Int.reduceEq, ↓reduceIte, reduceCtorEq, Nat.reducePow, Nat.reduceAdd, Nat.reduceLeDiff, Nat.reduceLT, Nat.reduceSub, Nat.reduceEqDiff]

theorem ptf_len (f : R) (h : f.data.length ≤ 3000) : (ptf f).length ≤ 3020 := by
  unfold ptf
  split
  · rw [List.length_append]
    have h1 : (tag f.num f.wire).1.length ≤ 10 := by
      unfold tag; split
      · simp
      · exact (put_len _).2
    have h2 : (body f).length ≤ 3010 := by
      unfold body; split
      · rw [fx_len]; omega
      · split
        · have := (put_len f.bits).2; omega
        · have := (put_len f.data.length).2
          rw [List.length_append]; omega
    omega
  · simp

theorem putl_len : ∀ (l : List R), (∀ f ∈ l, f.data.length ≤ 3000) → (putl l).length ≤ 3020 * l.length
  | [], _ => by simp [putl]
  | f :: l, h => by
    have h1 := ptf_len f (h f (by simp))
    have h2 := putl_len l (fun g hg => h g (by simp [hg]))
    unfold putl at h2 ⊢
    rw [List.flatMap_cons, List.length_append, List.length_cons]
    omega

theorem filter_snoc (l : List R) (i : Nat) (fd : R) (h : l[i]? = some fd) : (l.take (i + 1)).filter valid = (l.take i).filter valid ++ (if valid fd then [fd] else []) := by
  have hi : i < l.length := (List.getElem?_eq_some_iff.1 h).1
  have hg : l[i] = fd := (List.getElem?_eq_some_iff.1 h).2
  rw [List.take_succ_eq_append_getElem hi, List.filter_append, hg]
  congr 1
  by_cases hv : valid fd = true <;> simp [hv]

/-- Fields short enough are read again. -/
theorem trips {l : List R} (h : longp l = false) (hb : ∀ f ∈ l, f.bits < 2 ^ 64) :
    l.length ≤ 300 ∧ (∀ f ∈ l, f.data.length ≤ 3000) ∧ (putl l).length ≤ 906000 ∧ (l.filter valid).length ≤ 300 ∧ scan (putl l) wl = (l.filter valid, 0) := by
  simp only [longp, Bool.or_eq_false_iff, decide_eq_false_iff_not, List.any_eq_false, decide_eq_true_eq] at h
  obtain ⟨h1, h2⟩ := h
  have h2 : ∀ f ∈ l, f.data.length ≤ 3000 := fun f hf => by have := h2 f hf; omega
  have h3 := putl_len l h2
  have h4 : (l.filter valid).length ≤ l.length := List.length_filter_le _ _
  have h5 : (putl l).length ≤ 906000 := by omega
  refine ⟨by omega, h2, h5, by omega, ?_⟩
  refine (scan_scc (s := putl l) (l := wl) (by omega) (by decide)).1 _ ⟨by decide, by decide, by decide, by decide, ?_⟩ ?_ ?_
  · show ((putl l).length : Int) ≤ 1073741824
    omega
  · rw [← putl_filter l]
    refine scc_put _ _ fun f hf => ?_
    obtain ⟨m1, m2⟩ := List.mem_filter.1 hf
    have hd := h2 f m1
    refine ⟨m2, hb f m1, by omega, fun _ => ?_⟩
    split
    · show (f.data.length : Int) ≤ 1073741824
      omega
    · omega
  · show ((l.filter valid).length : Int) ≤ 1073741824
    omega

def TripI (l : List R) (k : Nat) (st : St) : Prop :=
  ∃ f fr g i, st = ⟨f, [fr], []⟩ ∧ k = l.length - i ∧ i ≤ l.length ∧ f 0 = .list (rsv l) ∧ f 3 = .vec 0 3 g 0 ((l.take i).filter valid).length false ∧ f 4 = .int .i64 (i : Nat) ∧ fr 3 = .vec g 4 (rsv ((l.take i).filter valid))

theorem c6 (l : List R) (hb : ∀ f ∈ l, f.bits < 2 ^ 64) : Fn1 Try.prog 6 [.list (rsv l)] (.bool true) := by
  refine fn1_of_awp (rc := r6) (rs := o6) Try.func6 rfl rfl Try.ntmps6 k6 q6 (by simp) ?_
  simp only [g6_0, g6_1, g6_2, g6_3, g6_4, g6_5, g6_7, g6_8, g6_6, g6_9, g6_10, g6_11, r6, o6, eES, eEX, Nat.reduceBEq, Int.reduceLE, Int.reduceLT, Int.reduceToNat, Int.reduceEq, ↓reduceIte, reduceCtorEq, Nat.reducePow, Nat.reduceAdd, Nat.reduceLeDiff, Nat.reduceLT, Nat.reduceSub, Nat.reduceEqDiff]
  refine aops_call (c20 l) rfl rfl rfl (.inl rfl) ?_
  cases hlong : longp l with
  | true =>
    simp only [eES, eEX, Nat.reduceBEq, Int.reduceLE, Int.reduceLT, Int.reduceToNat, Int.reduceEq, ↓reduceIte, reduceCtorEq, Nat.reducePow, Nat.reduceAdd, Nat.reduceLeDiff, Nat.reduceLT, Nat.reduceSub, Nat.reduceEqDiff]
    refine aops_call c14 rfl rfl rfl (.inl rfl) ?_
    simp only [eES, eEX, Nat.reduceBEq, Int.reduceLE, Int.reduceLT, Int.reduceToNat, Int.reduceEq, ↓reduceIte, reduceCtorEq, Nat.reducePow, Nat.reduceAdd, Nat.reduceLeDiff, Nat.reduceLT, Nat.reduceSub, Nat.reduceEqDiff]
  | false =>
    obtain ⟨t1, t2, t3, t4, t5⟩ := trips hlong hb
    simp only [eES, eEX, Nat.reduceBEq, Int.reduceLE, Int.reduceLT, Int.reduceToNat, Int.reduceEq, ↓reduceIte, reduceCtorEq, Nat.reducePow, Nat.reduceAdd, Nat.reduceLeDiff, Nat.reduceLT, Nat.reduceSub, Nat.reduceEqDiff]
    refine awp_vec rfl rfl ?_
    simp only [eES, eEX, Nat.reduceBEq, Int.reduceLE, Int.reduceLT, Int.reduceToNat, Int.reduceEq, ↓reduceIte, reduceCtorEq, Nat.reducePow, Nat.reduceAdd, Nat.reduceLeDiff, Nat.reduceLT, Nat.reduceSub, Nat.reduceEqDiff]
    refine awp_loop (TripI l) l.length ⟨_, _, 1, 0, rfl, rfl, Nat.zero_le _, rfl, rfl, rfl, rfl⟩ ?_
    rintro n st ⟨f, fr, g, i, rfl, rfl, hi, h0, h3, h4, m3⟩
    have hfl : ((l.take i).filter valid).length ≤ 300 := Nat.le_trans (List.length_filter_le _ _) (by rw [List.length_take]; omega)
    simp only [l6_0, g6_0, g6_1, g6_2, g6_3, g6_4, g6_5, g6_7, g6_8, g6_6, g6_9, g6_10, g6_11, r6, o6, h0, h3, h4, m3, rsv_len, eES, eEX, Nat.reduceBEq, Int.reduceLE, Int.reduceLT, Int.reduceToNat, Int.reduceEq, ↓reduceIte, reduceCtorEq, Nat.reducePow, Nat.reduceAdd, Nat.reduceLeDiff, Nat.reduceLT, Nat.reduceSub, Nat.reduceEqDiff]
    by_cases hlt : i < l.length
    · have d0 : decide ((i : Int) < (l.length : Int)) = true := decide_eq_true (by omega)
      obtain ⟨fd, hfd⟩ : ∃ fd, l[i]? = some fd := ⟨l[i], List.getElem?_eq_getElem hlt⟩
      have hfa : (rsv l)[i]? = some fd.av := by simp [rsv, hfd]
      have n0 : (0 ≤ (i : Int)) = True := by simp
      have e1 : IntKind.i64.wrap ((i : Int) + 1) = ((i + 1 : Nat) : Int) := by rw [wi64]; omega
      have hsn := filter_snoc l i fd hfd
      simp only [d0, n0, Int.toNat_natCast, aiaddr, hfa, R.av, h0, h3, h4, m3, eES, eEX, Nat.reduceBEq, Int.reduceLE, Int.reduceLT, Int.reduceToNat, Int.reduceEq, ↓reduceIte, reduceCtorEq, Nat.reducePow, Nat.reduceAdd, Nat.reduceLeDiff, Nat.reduceLT, Nat.reduceSub, Nat.reduceEqDiff]
      refine aops_call (c21 fd) rfl rfl rfl (.inl rfl) ?_
      cases hv : valid fd with
      | true =>
        rw [hv, if_pos rfl] at hsn
        simp only [n0, Int.toNat_natCast, aiaddr, hfa, R.av, h0, h3, h4, m3, eES, eEX, Nat.reduceBEq, Int.reduceLE, Int.reduceLT, Int.reduceToNat, Int.reduceEq, ↓reduceIte, reduceCtorEq, Nat.reducePow, Nat.reduceAdd, Nat.reduceLeDiff, Nat.reduceLT, Nat.reduceSub, Nat.reduceEqDiff]
        refine aops_bslA rfl rfl (by decide) rfl rfl ?_
        refine aops_app rfl m3 rfl (rsv_len _).symm rfl rfl (by simp [maxLen]; omega) (by simp; omega) ?_
        simp only [e1, h0, h3, h4, m3, eES, eEX, Nat.reduceBEq, Int.reduceLE, Int.reduceLT, Int.reduceToNat, Int.reduceEq, ↓reduceIte, reduceCtorEq, Nat.reducePow, Nat.reduceAdd, Nat.reduceLeDiff, Nat.reduceLT, Nat.reduceSub, Nat.reduceEqDiff]
        refine ⟨l.length - (i + 1), by omega, _, _, g + 1, i + 1, rfl, rfl, by omega, ?_, ?_, ?_, ?_⟩
        · simp only [h0, eES, eEX, Nat.reduceBEq, Int.reduceLE, Int.reduceLT, Int.reduceToNat, Int.reduceEq, ↓reduceIte, reduceCtorEq, Nat.reducePow, Nat.reduceAdd, Nat.reduceLeDiff, Nat.reduceLT, Nat.reduceSub, Nat.reduceEqDiff]
        · simp only [hsn, List.length_append, List.length_cons, List.length_nil, eES, eEX, Nat.reduceBEq, Int.reduceLE, Int.reduceLT, Int.reduceToNat, Int.reduceEq, ↓reduceIte, reduceCtorEq, Nat.reducePow, Nat.reduceAdd, Nat.reduceLeDiff, Nat.reduceLT, Nat.reduceSub, Nat.reduceEqDiff]
        · simp only [eES, eEX, Nat.reduceBEq, Int.reduceLE, Int.reduceLT, Int.reduceToNat, Int.reduceEq, ↓reduceIte, reduceCtorEq, Nat.reducePow, Nat.reduceAdd, Nat.reduceLeDiff, Nat.reduceLT, Nat.reduceSub, Nat.reduceEqDiff]
        · simp only [hsn, rsv_append, eES, eEX, Nat.reduceBEq, Int.reduceLE, Int.reduceLT, Int.reduceToNat, Int.reduceEq, ↓reduceIte, reduceCtorEq, Nat.reducePow, Nat.reduceAdd, Nat.reduceLeDiff, Nat.reduceLT, Nat.reduceSub, Nat.reduceEqDiff]
          rfl
      | false =>
        rw [hv, if_neg (by simp), List.append_nil] at hsn
        simp only [e1, h0, h3, h4, m3, eES, eEX, Nat.reduceBEq, Int.reduceLE, Int.reduceLT, Int.reduceToNat, Int.reduceEq, ↓reduceIte, reduceCtorEq, Nat.reducePow, Nat.reduceAdd, Nat.reduceLeDiff, Nat.reduceLT, Nat.reduceSub, Nat.reduceEqDiff]
        refine ⟨l.length - (i + 1), by omega, _, _, g, i + 1, rfl, rfl, by omega, ?_, ?_, ?_, ?_⟩
        · simp only [h0, eES, eEX, Nat.reduceBEq, Int.reduceLE, Int.reduceLT, Int.reduceToNat, Int.reduceEq, ↓reduceIte, reduceCtorEq, Nat.reducePow, Nat.reduceAdd, Nat.reduceLeDiff, Nat.reduceLT, Nat.reduceSub, Nat.reduceEqDiff]
        · simp only [hsn, h3, eES, eEX, Nat.reduceBEq, Int.reduceLE, Int.reduceLT, Int.reduceToNat, Int.reduceEq, ↓reduceIte, reduceCtorEq, Nat.reducePow, Nat.reduceAdd, Nat.reduceLeDiff, Nat.reduceLT, Nat.reduceSub, Nat.reduceEqDiff]
        · simp only [eES, eEX, Nat.reduceBEq, Int.reduceLE, Int.reduceLT, Int.reduceToNat, Int.reduceEq, ↓reduceIte, reduceCtorEq, Nat.reducePow, Nat.reduceAdd, Nat.reduceLeDiff, Nat.reduceLT, Nat.reduceSub, Nat.reduceEqDiff]
        · simp only [hsn, m3]
    · have d0 : decide ((i : Int) < (l.length : Int)) = false := decide_eq_false (by omega)
      have hil : i = l.length := by omega
      subst hil
      rw [List.take_length] at h3 m3 hfl
      have hp := c22 l (fun f hf => ⟨by have := hb f hf; omega, by have := t2 f hf; omega⟩) (by omega) (by omega)
      have hp2 := c22 (l.filter valid) (fun f hf => by have m1 := (List.mem_filter.1 hf).1; exact ⟨by have := hb f m1; omega, by have := t2 f m1; omega⟩) (by omega) (by rw [putl_filter]; omega)
      rw [putl_filter] at hp2
      have hs := c17 (putl l) wl (by omega)
      rw [t5] at hs
      simp only [d0, h0, h3, h4, m3, eES, eEX, Nat.reduceBEq, Int.reduceLE, Int.reduceLT, Int.reduceToNat, Int.reduceEq, ↓reduceIte, reduceCtorEq, Nat.reducePow, Nat.reduceAdd, Nat.reduceLeDiff, Nat.reduceLT, Nat.reduceSub, Nat.reduceEqDiff]
      refine aops_call hp rfl rfl rfl (.inl rfl) ?_
      simp only [h0, h3, h4, m3, eES, eEX, Nat.reduceBEq, Int.reduceLE, Int.reduceLT, Int.reduceToNat, Int.reduceEq, ↓reduceIte, reduceCtorEq, Nat.reducePow, Nat.reduceAdd, Nat.reduceLeDiff, Nat.reduceLT, Nat.reduceSub, Nat.reduceEqDiff]
      refine aops_call c23 rfl rfl rfl (.inl rfl) ?_
      refine aops_call hs rfl rfl rfl (.inl rfl) ?_
      simp only [scv, h0, h3, h4, m3, show (((0 : Nat) : Int) == 0) = true from rfl, eES, eEX, Nat.reduceBEq, Int.reduceLE, Int.reduceLT, Int.reduceToNat, Int.reduceEq, ↓reduceIte, reduceCtorEq, Nat.reducePow, Nat.reduceAdd, Nat.reduceLeDiff, Nat.reduceLT, Nat.reduceSub, Nat.reduceEqDiff]
      refine aops_call (c19 (l.filter valid) (by omega)) ?_ rfl rfl (.inr rfl) ?_
      · simp only [List.map_cons, List.map_nil, AV.stillL, h3, eES, eEX, Nat.reduceBEq, Int.reduceLE, Int.reduceLT, Int.reduceToNat, Int.reduceEq, ↓reduceIte, reduceCtorEq, Nat.reducePow, Nat.reduceAdd, Nat.reduceLeDiff, Nat.reduceLT, Nat.reduceSub, Nat.reduceEqDiff]
        have htk : (rsv (l.filter valid)).take (l.filter valid).length = rsv (l.filter valid) := List.take_of_length_le (by simp [rsv])
        simp [AV.still, m3, rsv_len, htk]
      simp only [h0, h3, h4, m3, eES, eEX, Nat.reduceBEq, Int.reduceLE, Int.reduceLT, Int.reduceToNat, Int.reduceEq, ↓reduceIte, reduceCtorEq, Nat.reducePow, Nat.reduceAdd, Nat.reduceLeDiff, Nat.reduceLT, Nat.reduceSub, Nat.reduceEqDiff]
      refine aops_call hp2 ?_ rfl rfl (.inr rfl) ?_
      · simp only [List.map_cons, List.map_nil, AV.stillL, h3, eES, eEX, Nat.reduceBEq, Int.reduceLE, Int.reduceLT, Int.reduceToNat, Int.reduceEq, ↓reduceIte, reduceCtorEq, Nat.reducePow, Nat.reduceAdd, Nat.reduceLeDiff, Nat.reduceLT, Nat.reduceSub, Nat.reduceEqDiff]
        have htk : (rsv (l.filter valid)).take (l.filter valid).length = rsv (l.filter valid) := List.take_of_length_le (by simp [rsv])
        simp [AV.still, m3, rsv_len, htk]
      simp only [astr, beq_self_eq_true, h0, h3, h4, m3, eES, eEX, Nat.reduceBEq, Int.reduceLE, Int.reduceLT, Int.reduceToNat, Int.reduceEq, ↓reduceIte, reduceCtorEq, Nat.reducePow, Nat.reduceAdd, Nat.reduceLeDiff, Nat.reduceLT, Nat.reduceSub, Nat.reduceEqDiff]
      refine aops_call c14 rfl rfl rfl (.inl rfl) ?_
      simp only [eES, eEX, Nat.reduceBEq, Int.reduceLE, Int.reduceLT, Int.reduceToNat, Int.reduceEq, ↓reduceIte, reduceCtorEq, Nat.reducePow, Nat.reduceAdd, Nat.reduceLeDiff, Nat.reduceLT, Nat.reduceSub, Nat.reduceEqDiff]

end Go.Proofs.Ytcmdlmcmefbkeaa.Va

/- Fields sorted by number; the law of lists. -/
set_option linter.unusedSimpArgs false
namespace Go.Proofs.Ytcmdlmcmefbkeaa.Va
open Go Am Rc Bt Vp Cp Up So

/-- A raw field's value. -/
def Er (x : AV) : Prop := ∃ f : R, x = f.av

theorem er_ez {x : AV} (h : Er x) : Ez Er 4 x := by
  refine ⟨h, ?_⟩
  obtain ⟨f, rfl⟩ := h
  exact ⟨_, rfl, rfl, rfl, rfl, fun m => rfl⟩

def numA : AV → Int
  | .agg (.int _ n :: _) => n
  | _ => 0

/-- How two fields compare. -/
def cmpN (a b : Int) : Int := if a < b then -1 else if b < a then 1 else 0
def cR (x y : AV) : Int := cmpN (numA x) (numA y)

theorem cmpN_lt (a b : Int) : decide (cmpN a b < 0) = decide (a < b) := by
  unfold cmpN
  split
  · rename_i h; simp [h]
  · rename_i h
    split <;> simp [h]

theorem cR_lt (x y : AV) : Ta.lt cR x y = decide (numA x < numA y) := cmpN_lt _ _

theorem cR_sw : SW (Ta.lt cR) where
  irr x := by rw [cR_lt]; simp
  tr x y z h k := by rw [cR_lt] at *; simp only [decide_eq_true_eq] at *; omega
  nt x y z h k := by rw [cR_lt] at *; simp only [decide_eq_false_iff_not] at *; omega

theorem c64 (a : Int) : Fn1 Try.prog 64 [.int .i64 a] (.bool false) := by
  refine fn1_of_awp (rc := r64) (rs := o64) Try.func64 rfl rfl Try.ntmps64 k64 q64 (by simp) ?_
  simp only [g64_0, g64_1, r64, o64, bne_self_eq_false, eES, eEX, Nat.reduceBEq, Int.reduceLE, Int.reduceLT, Int.reduceToNat, Int.reduceEq, ↓reduceIte, reduceCtorEq, Nat.reducePow, Nat.reduceAdd, Nat.reduceLeDiff, Nat.reduceLT, Nat.reduceSub, Nat.reduceEqDiff]

theorem c51 (a b : Int) : Fn1 Try.prog 51 [.int .i64 a, .int .i64 b] (.int .i64 (cmpN a b)) := by
  refine fn1_of_awp (rc := r51) (rs := o51) Try.func51 rfl rfl Try.ntmps51 k51 q51 (by simp) ?_
  simp only [g51_0, g51_1, g51_2, g51_3, g51_4, g51_5, g51_6, g51_7, g51_8, g51_9, g51_10, g51_11, g51_12, g51_13, r51, o51, eES, eEX, Nat.reduceBEq, Int.reduceLE, Int.reduceLT, Int.reduceToNat, Int.reduceEq, ↓reduceIte, reduceCtorEq, Nat.reducePow, Nat.reduceAdd, Nat.reduceLeDiff, Nat.reduceLT, Nat.reduceSub, Nat.reduceEqDiff]
  refine aops_call (c64 a) rfl rfl rfl (.inl rfl) ?_
  simp only [eES, eEX, Nat.reduceBEq, Int.reduceLE, Int.reduceLT, Int.reduceToNat, Int.reduceEq, ↓reduceIte, reduceCtorEq, Nat.reducePow, Nat.reduceAdd, Nat.reduceLeDiff, Nat.reduceLT, Nat.reduceSub, Nat.reduceEqDiff]
  refine aops_call (c64 b) rfl rfl rfl (.inl rfl) ?_
  simp only [eES, eEX, Nat.reduceBEq, Int.reduceLE, Int.reduceLT, Int.reduceToNat, Int.reduceEq, ↓reduceIte, reduceCtorEq, Nat.reducePow, Nat.reduceAdd, Nat.reduceLeDiff, Nat.reduceLT, Nat.reduceSub, Nat.reduceEqDiff]
  by_cases h1 : a < b
  · have d1 : decide (a < b) = true := by simpa using h1
    simp only [d1, cmpN, if_pos h1, eES, eEX, Nat.reduceBEq, Int.reduceLE, Int.reduceLT, Int.reduceToNat, Int.reduceEq, ↓reduceIte, reduceCtorEq, Nat.reducePow, Nat.reduceAdd, Nat.reduceLeDiff, Nat.reduceLT, Nat.reduceSub, Nat.reduceEqDiff]
  · have d1 : decide (a < b) = false := by simpa using h1
    by_cases h2 : b < a
    · have d2 : decide (a > b) = true := by simpa using h2
      simp only [d1, d2, cmpN, if_neg h1, if_pos h2, eES, eEX, Nat.reduceBEq, Int.reduceLE, Int.reduceLT, Int.reduceToNat, Int.reduceEq, ↓reduceIte, reduceCtorEq, Nat.reducePow, Nat.reduceAdd, Nat.reduceLeDiff, Nat.reduceLT, Nat.reduceSub, Nat.reduceEqDiff]
    · have d2 : decide (a > b) = false := by simpa using h2
      simp only [d1, d2, cmpN, if_neg h1, if_neg h2, eES, eEX, Nat.reduceBEq, Int.reduceLE, Int.reduceLT, Int.reduceToNat, Int.reduceEq, ↓reduceIte, reduceCtorEq, Nat.reducePow, Nat.reduceAdd, Nat.reduceLeDiff, Nat.reduceLT, Nat.reduceSub, Nat.reduceEqDiff]

theorem c50 (x y : R) : Fn1 Try.prog 50 [x.av, y.av] (.int .i64 (cmpN x.num y.num)) := by
  refine fn1_of_awp (rc := r50) (rs := o50) Try.func50 rfl rfl Try.ntmps50 k50 q50 (by simp) ?_
  simp only [g50_0, g50_1, r50, o50, R.av, eES, eEX, Nat.reduceBEq, Int.reduceLE, Int.reduceLT, Int.reduceToNat, Int.reduceEq, ↓reduceIte, reduceCtorEq, Nat.reducePow, Nat.reduceAdd, Nat.reduceLeDiff, Nat.reduceLT, Nat.reduceSub, Nat.reduceEqDiff]
  refine aops_call (c51 x.num y.num) rfl rfl rfl (.inl rfl) ?_
  simp only [eES, eEX, Nat.reduceBEq, Int.reduceLE, Int.reduceLT, Int.reduceToNat, Int.reduceEq, ↓reduceIte, reduceCtorEq, Nat.reducePow, Nat.reduceAdd, Nat.reduceLeDiff, Nat.reduceLT, Nat.reduceSub, Nat.reduceEqDiff]

theorem cp_R : Ta.Cp Er 50 cR where
  call x y hx hy := by
    obtain ⟨⟨f, rfl⟩, _⟩ := hx
    obtain ⟨⟨g, rfl⟩, _⟩ := hy
    exact c50 f g
  sw := cR_sw

theorem flat_nil {E : AV → Prop} {xs : List AV} (h : ∀ x ∈ xs, Ez E 4 x) (hf : flat xs = []) : xs = [] := by
  cases xs with
  | nil => rfl
  | cons x xs =>
    have hl := (h x (by simp)).len
    have : x.cells = [] := (List.append_eq_nil_iff.1 hf).1
    rw [this] at hl
    simp at hl

theorem c48 (E : AV → Prop) (xs : List AV) (fr : Nat → Ob) (m : Mem) (h : ∀ x ∈ xs, Ez E 4 x) (hn : xs.length ≤ 1000000) (hr : fr 1000 = .none) :
    ACalls Try.prog 48 [.list xs] (fr :: m) (fun x m1 => x = .vec 0 1000 1 0 xs.length false ∧ m1 = upd fr 1000 (.vec 1 4 xs) :: m) := by
  have hlk : Am.look (fr :: m) 0 1000 = .none := hr
  have hng : newGen (fr :: m) 0 1000 = 1 := by unfold newGen; rw [hlk]
  refine acalls_of_awp (rc := r48) (rs := o48) Try.func48 rfl rfl Try.ntmps48 k48 q48 (by simp) ?_
  simp only [r48, g48_0, g48_1, eES, eEX, Nat.reduceBEq, Int.reduceLE, Int.reduceLT, Int.reduceToNat, Int.reduceEq, ↓reduceIte, reduceCtorEq, Nat.reducePow, Nat.reduceAdd, Nat.reduceLeDiff, Nat.reduceLT, Nat.reduceSub, Nat.reduceEqDiff]
  refine aops_isnil (ys := xs) (by simp only [eES, eEX, Nat.reduceBEq, Int.reduceLE, Int.reduceLT, Int.reduceToNat, Int.reduceEq, ↓reduceIte, reduceCtorEq, Nat.reducePow, Nat.reduceAdd, Nat.reduceLeDiff, Nat.reduceLT, Nat.reduceSub, Nat.reduceEqDiff]) ?_ ?_
  · simp only [g48_3, eES, eEX, Nat.reduceBEq, Int.reduceLE, Int.reduceLT, Int.reduceToNat, Int.reduceEq, ↓reduceIte, reduceCtorEq, Nat.reducePow, Nat.reduceAdd, Nat.reduceLeDiff, Nat.reduceLT, Nat.reduceSub, Nat.reduceEqDiff]
    refine aops_bsl0 rfl ?_
    simp only [eES, eEX, Nat.reduceBEq, Int.reduceLE, Int.reduceLT, Int.reduceToNat, Int.reduceEq, ↓reduceIte, reduceCtorEq, Nat.reducePow, Nat.reduceAdd, Nat.reduceLeDiff, Nat.reduceLT, Nat.reduceSub, Nat.reduceEqDiff]
    refine aops_app (site := 5) (g := 1) (xs := []) (ys := xs) rfl rfl rfl rfl rfl (List.all_eq_true.2 fun x hx => by rw [(h x hx).len] <;> rfl) (by simp [maxLen]; omega) (by simp; omega) ?_
    simp only [eES, eEX, Nat.reduceBEq, Int.reduceLE, Int.reduceLT, Int.reduceToNat, Int.reduceEq, ↓reduceIte, reduceCtorEq, Nat.reducePow, Nat.reduceAdd, Nat.reduceLeDiff, Nat.reduceLT, Nat.reduceSub, Nat.reduceEqDiff]
    refine awp_give (l := 0) (site := 5) (g := 2) (o := 0) (n := xs.length) (q := false) (sz := 4) (xs := xs) (by simp only [Nat.zero_add, eES, eEX, Nat.reduceBEq, Int.reduceLE, Int.reduceLT, Int.reduceToNat, Int.reduceEq, ↓reduceIte, reduceCtorEq, Nat.reducePow, Nat.reduceAdd, Nat.reduceLeDiff, Nat.reduceLT, Nat.reduceSub, Nat.reduceEqDiff]) (by simp only [eES, eEX, Nat.reduceBEq, Int.reduceLE, Int.reduceLT, Int.reduceToNat, Int.reduceEq, ↓reduceIte, reduceCtorEq, Nat.reducePow, Nat.reduceAdd, Nat.reduceLeDiff, Nat.reduceLT, Nat.reduceSub, Nat.reduceEqDiff]) (by simp) (by decide) (by rw [hlk] <;> rfl) ?_
    simp only [hng, o48, eES, eEX, Nat.reduceBEq, Int.reduceLE, Int.reduceLT, Int.reduceToNat, Int.reduceEq, ↓reduceIte, reduceCtorEq, Nat.reducePow, Nat.reduceAdd, Nat.reduceLeDiff, Nat.reduceLT, Nat.reduceSub, Nat.reduceEqDiff]
    simp [AV.still, AV.un, isV, vget]
  · intro he
    have hx : xs = [] := by
      rcases he with he | he
      · exact he
      · exact flat_nil h he
    subst hx
    simp only [g48_2, eES, eEX, Nat.reduceBEq, Int.reduceLE, Int.reduceLT, Int.reduceToNat, Int.reduceEq, ↓reduceIte, reduceCtorEq, Nat.reducePow, Nat.reduceAdd, Nat.reduceLeDiff, Nat.reduceLT, Nat.reduceSub, Nat.reduceEqDiff]
    refine awp_vec (by simp only [eES, eEX, Nat.reduceBEq, Int.reduceLE, Int.reduceLT, Int.reduceToNat, Int.reduceEq, ↓reduceIte, reduceCtorEq, Nat.reducePow, Nat.reduceAdd, Nat.reduceLeDiff, Nat.reduceLT, Nat.reduceSub, Nat.reduceEqDiff]) rfl ?_
    simp only [eES, eEX, Nat.reduceBEq, Int.reduceLE, Int.reduceLT, Int.reduceToNat, Int.reduceEq, ↓reduceIte, reduceCtorEq, Nat.reducePow, Nat.reduceAdd, Nat.reduceLeDiff, Nat.reduceLT, Nat.reduceSub, Nat.reduceEqDiff]
    refine awp_give (l := 0) (site := 2) (g := 1) (o := 0) (n := 0) (q := false) (sz := 4) (xs := []) (by simp only [eES, eEX, Nat.reduceBEq, Int.reduceLE, Int.reduceLT, Int.reduceToNat, Int.reduceEq, ↓reduceIte, reduceCtorEq, Nat.reducePow, Nat.reduceAdd, Nat.reduceLeDiff, Nat.reduceLT, Nat.reduceSub, Nat.reduceEqDiff]) (by simp only [eES, eEX, Nat.reduceBEq, Int.reduceLE, Int.reduceLT, Int.reduceToNat, Int.reduceEq, ↓reduceIte, reduceCtorEq, Nat.reducePow, Nat.reduceAdd, Nat.reduceLeDiff, Nat.reduceLT, Nat.reduceSub, Nat.reduceEqDiff]) (by simp) (by decide) (by rw [hlk] <;> rfl) ?_
    simp only [hng, o48, eES, eEX, Nat.reduceBEq, Int.reduceLE, Int.reduceLT, Int.reduceToNat, Int.reduceEq, ↓reduceIte, reduceCtorEq, Nat.reducePow, Nat.reduceAdd, Nat.reduceLeDiff, Nat.reduceLT, Nat.reduceSub, Nat.reduceEqDiff]
    simp [AV.still, AV.un, isV, vget]

/-- Sorted by number, stably. -/
def srt (l : List R) : List R := isort (fun x y => decide (x.num < y.num)) l

theorem ins_map (a : R) : ∀ l : List R, ins (Ta.lt cR) a.av (l.map R.av) = (ins (fun x y => decide (x.num < y.num)) a l).map R.av
  | [] => rfl
  | x :: l => by
    have e : Ta.lt cR x.av a.av = decide (x.num < a.num) := cR_lt _ _
    cases hx : decide (x.num < a.num) with
    | true =>
      rw [List.map_cons, ins_t (by rw [e, hx]), ins_map a l, ins_t (lt := fun x y : R => decide (x.num < y.num)) hx] <;> rfl
    | false =>
      rw [List.map_cons, ins_f (by rw [e, hx]), ins_f (lt := fun x y : R => decide (x.num < y.num)) hx] <;> rfl

theorem isort_map : ∀ l : List R, isort (Ta.lt cR) (l.map R.av) = (srt l).map R.av
  | [] => rfl
  | a :: l => by
    show ins (Ta.lt cR) a.av (isort (Ta.lt cR) (l.map R.av)) = (ins _ a (isort _ l)).map R.av
    rw [isort_map l, ins_map] <;> rfl

theorem rsv_ez (l : List R) : ∀ x ∈ rsv l, Ez Er 4 x := by
  intro x hx
  obtain ⟨f, _, rfl⟩ := List.mem_map.1 hx
  exact er_ez ⟨f, rfl⟩

theorem c26 (l : List R) (hn : l.length ≤ 1000000) : Fn1 Try.prog 26 [.list (rsv l)] (.list (rsv (srt l))) := by
  refine fn1_of_awp (rc := r26) (rs := o26) Try.func26 rfl rfl Try.ntmps26 k26 q26 (by simp) ?_
  simp only [g26_0, g26_1, g26_2, g26_3, r26, o26, eES, eEX, Nat.reduceBEq, Int.reduceLE, Int.reduceLT, Int.reduceToNat, Int.reduceEq, ↓reduceIte, reduceCtorEq, Nat.reducePow, Nat.reduceAdd, Nat.reduceLeDiff, Nat.reduceLT, Nat.reduceSub, Nat.reduceEqDiff]
  refine aops_callF (c48 Er (rsv l) noObs [] (rsv_ez l) (by rw [rsv_len]; omega) rfl) (by simp only [List.map_cons, List.map_nil, eES, eEX, Nat.reduceBEq, Int.reduceLE, Int.reduceLT, Int.reduceToNat, Int.reduceEq, ↓reduceIte, reduceCtorEq, Nat.reducePow, Nat.reduceAdd, Nat.reduceLeDiff, Nat.reduceLT, Nat.reduceSub, Nat.reduceEqDiff]) ?_
  simp only [eES, eEX, Nat.reduceBEq, Int.reduceLE, Int.reduceLT, Int.reduceToNat, Int.reduceEq, ↓reduceIte, reduceCtorEq, Nat.reducePow, Nat.reduceAdd, Nat.reduceLeDiff, Nat.reduceLT, Nat.reduceSub, Nat.reduceEqDiff]
  refine aops_callF (Ta.c49 cp_R 0 1000 1 (rsv l) [upd noObs 1000 (.vec 1 4 (rsv l))] rfl (rsv_ez l) (by rw [rsv_len]; omega)) (by simp only [List.map_cons, List.map_nil, eES, eEX, Nat.reduceBEq, Int.reduceLE, Int.reduceLT, Int.reduceToNat, Int.reduceEq, ↓reduceIte, reduceCtorEq, Nat.reducePow, Nat.reduceAdd, Nat.reduceLeDiff, Nat.reduceLT, Nat.reduceSub, Nat.reduceEqDiff]) ?_
  have hi : isort (Ta.lt cR) (rsv l) = rsv (srt l) := isort_map l
  have hl : (rsv (srt l)).length = (rsv l).length := by rw [← hi, len_isort]
  simp only [hi, eES, eEX, Nat.reduceBEq, Int.reduceLE, Int.reduceLT, Int.reduceToNat, Int.reduceEq, ↓reduceIte, reduceCtorEq, Nat.reducePow, Nat.reduceAdd, Nat.reduceLeDiff, Nat.reduceLT, Nat.reduceSub, Nat.reduceEqDiff]
  have ht : List.take (rsv l).length (rsv (srt l)) = rsv (srt l) := List.take_of_length_le (by rw [hl]; exact Nat.le_refl _)
  simp [AV.still, Am.look, Am.put, hl, upd, ht, AV.un, isV, vget]

/-- The specification's sorting: the place of one more. -/
def PlI (l O : List R) (i : Nat) (fr : Nat → Ob) (x : R) (k : Nat) (st : St) : Prop :=
  ∃ f t, st = ⟨f, [fr], []⟩ ∧ k = t + 1 ∧ t ≤ O.length ∧ (∀ j v, t ≤ j → O[j]? = some v → decide (x.num < v.num) = true) ∧ f 0 = .list (rsv l) ∧ f 3 = .list (rsv O) ∧ f 4 = .int .i64 (i : Nat) ∧ f 5 = .int .i64 (t : Nat)

def RSI (l : List R) (k : Nat) (st : St) : Prop :=
  ∃ f fr i, st = ⟨f, [fr], []⟩ ∧ k = l.length - i ∧ i ≤ l.length ∧ f 0 = .list (rsv l) ∧ f 3 = .list (rsv (srt (l.take i))) ∧ f 4 = .int .i64 (i : Nat) ∧ rowOrNone (fr 6) = true

theorem sR : SW fun x y : R => decide (x.num < y.num) where
  irr x := by simp
  tr x y z h k := by simp only [decide_eq_true_eq] at *; omega
  nt x y z h k := by simp only [decide_eq_false_iff_not] at *; omega

theorem len_srt (l : List R) : (srt l).length = l.length := len_isort l

theorem rsv_take (l : List R) (n : Nat) : (rsv l).take n = rsv (l.take n) := by simp [rsv, List.map_take]
theorem rsv_drop (l : List R) (n : Nat) : (rsv l).drop n = rsv (l.drop n) := by simp [rsv, List.map_drop]

set_option maxHeartbeats 1000000 in
theorem c27 (l : List R) (hn : l.length ≤ 1000000) : Fn1 Try.prog 27 [.list (rsv l)] (.list (rsv (srt l))) := by
  refine fn1_of_awp (rc := r27) (rs := o27) Try.func27 rfl rfl Try.ntmps27 k27 q27 (by simp) ?_
  simp only [r27, g27_0, g27_1, eES, eEX, Nat.reduceBEq, Int.reduceLE, Int.reduceLT, Int.reduceToNat, Int.reduceEq, ↓reduceIte, reduceCtorEq, Nat.reducePow, Nat.reduceAdd, Nat.reduceLeDiff, Nat.reduceLT, Nat.reduceSub, Nat.reduceEqDiff]
  refine awp_lst0 (by simp only [eES, eEX, Nat.reduceBEq, Int.reduceLE, Int.reduceLT, Int.reduceToNat, Int.reduceEq, ↓reduceIte, reduceCtorEq, Nat.reducePow, Nat.reduceAdd, Nat.reduceLeDiff, Nat.reduceLT, Nat.reduceSub, Nat.reduceEqDiff]) ?_
  simp only [g27_2, eES, eEX, Nat.reduceBEq, Int.reduceLE, Int.reduceLT, Int.reduceToNat, Int.reduceEq, ↓reduceIte, reduceCtorEq, Nat.reducePow, Nat.reduceAdd, Nat.reduceLeDiff, Nat.reduceLT, Nat.reduceSub, Nat.reduceEqDiff]
  refine awp_loop (RSI l) _ ⟨_, _, 0, rfl, rfl, Nat.zero_le _, rfl, rfl, rfl, rfl⟩ ?_
  rintro n st ⟨f, fr, i, rfl, rfl, hi, h0, h3, h4, h6⟩
  simp only [l27_1, g27_3, rsv_len, h0, h3, h4, eES, eEX, Nat.reduceBEq, Int.reduceLE, Int.reduceLT, Int.reduceToNat, Int.reduceEq, ↓reduceIte, reduceCtorEq, Nat.reducePow, Nat.reduceAdd, Nat.reduceLeDiff, Nat.reduceLT, Nat.reduceSub, Nat.reduceEqDiff]
  by_cases hlt : i < l.length
  · obtain ⟨x, hx⟩ : ∃ x, l[i]? = some x := ⟨l[i], List.getElem?_eq_getElem hlt⟩
    have hxa : (rsv l)[i]? = some x.av := by simp [rsv, hx]
    have d0 : decide ((i : Int) < (l.length : Int)) = true := by simp; omega
    have n0 : (0 ≤ (i : Int)) = True := by simp
    have e1 : IntKind.i64.wrap ((i : Int) + 1) = ((i + 1 : Nat) : Int) := by rw [wi64]; omega
    have hO : (srt (l.take i)).length = i := by rw [len_srt, List.length_take]; omega
    have hstep : srt (l.take (i + 1)) = mg (fun x y : R => decide (x.num < y.num)) (srt (l.take i)) [x] := by
      rw [List.take_add_one, hx, Option.toList_some]
      exact (mg_isort sR (l.take i) [x]).symm
    have hsrt : Srt (fun x y : R => decide (x.num < y.num)) (srt (l.take i)) := srt_isort sR _
    simp only [d0, g27_5, rsv_len, h0, h3, h4, eES, eEX, Nat.reduceBEq, Int.reduceLE, Int.reduceLT, Int.reduceToNat, Int.reduceEq, ↓reduceIte, reduceCtorEq, Nat.reducePow, Nat.reduceAdd, Nat.reduceLeDiff, Nat.reduceLT, Nat.reduceSub, Nat.reduceEqDiff]
    generalize hOO : srt (l.take i) = O at *
    refine awp_loop (PlI l O i fr x) _ ⟨_, O.length, rfl, rfl, Nat.le_refl _, (by intro j v hj hv; rw [List.getElem?_eq_none hj] at hv; cases hv), by simp only [h0, eES, eEX, Nat.reduceBEq, Int.reduceLE, Int.reduceLT, Int.reduceToNat, Int.reduceEq, ↓reduceIte, reduceCtorEq, Nat.reducePow, Nat.reduceAdd, Nat.reduceLeDiff, Nat.reduceLT, Nat.reduceSub, Nat.reduceEqDiff], by simp only [h3, eES, eEX, Nat.reduceBEq, Int.reduceLE, Int.reduceLT, Int.reduceToNat, Int.reduceEq, ↓reduceIte, reduceCtorEq, Nat.reducePow, Nat.reduceAdd, Nat.reduceLeDiff, Nat.reduceLT, Nat.reduceSub, Nat.reduceEqDiff], by simp only [h4, eES, eEX, Nat.reduceBEq, Int.reduceLE, Int.reduceLT, Int.reduceToNat, Int.reduceEq, ↓reduceIte, reduceCtorEq, Nat.reducePow, Nat.reduceAdd, Nat.reduceLeDiff, Nat.reduceLT, Nat.reduceSub, Nat.reduceEqDiff], by simp only [eES, eEX, Nat.reduceBEq, Int.reduceLE, Int.reduceLT, Int.reduceToNat, Int.reduceEq, ↓reduceIte, reduceCtorEq, Nat.reducePow, Nat.reduceAdd, Nat.reduceLeDiff, Nat.reduceLT, Nat.reduceSub, Nat.reduceEqDiff]⟩ ?_
    clear h0 h3 h4 f
    rintro k st ⟨f, t, rfl, rfl, ht, hv, h0, h3, h4, h5⟩
    simp only [l27_0, g27_6, h0, h3, h4, h5, eES, eEX, Nat.reduceBEq, Int.reduceLE, Int.reduceLT, Int.reduceToNat, Int.reduceEq, ↓reduceIte, reduceCtorEq, Nat.reducePow, Nat.reduceAdd, Nat.reduceLeDiff, Nat.reduceLT, Nat.reduceSub, Nat.reduceEqDiff]
    -- the place is found
    have fin : (∀ j u, j < t → O[j]? = some u → decide (x.num < u.num) = false) → rsv (O.take t) ++ [x.av] ++ rsv (O.drop t) = rsv (srt (l.take (i + 1))) := by
      intro h
      have := mg_right (lt := fun x y : R => decide (x.num < y.num)) (y := x) (X1 := O.take t) (X2 := O.drop t) (fun u hu => by
        obtain ⟨j, hj⟩ := List.getElem?_of_mem hu
        rw [List.getElem?_take] at hj
        split at hj
        · rename_i hjt; exact h j u hjt hj
        · cases hj) (fun u hu => by
        obtain ⟨j, hj⟩ := List.getElem?_of_mem hu
        rw [List.getElem?_drop] at hj
        exact hv _ u (by omega) hj)
      rw [List.take_append_drop] at this
      rw [hstep, this]
      simp [rsv]
    have c1 : (t ≤ O.length) = True := eq_true ht
    have nt : (0 ≤ (t : Int)) = True := eq_true (by omega)
    have hdt : List.take (O.length - t) (List.drop t O) = List.drop t O := List.take_of_length_le (by rw [List.length_drop]; exact Nat.le_refl _)
    by_cases ht0 : 0 < t
    · obtain ⟨r, rfl⟩ : ∃ r, t = r + 1 := ⟨t - 1, by omega⟩
      obtain ⟨u, hu⟩ : ∃ u, O[r]? = some u := ⟨_, List.getElem?_eq_getElem (by omega)⟩
      have hua : (rsv O)[r]? = some u.av := by simp [rsv, hu]
      have d1 : decide (((r + 1 : Nat) : Int) > 0) = true := by simp only [decide_eq_true_eq]; omega
      have e2 : IntKind.i64.wrap (((r + 1 : Nat) : Int) - 1) = ((r : Nat) : Int) := by rw [wi64]; omega
      have nr : (0 ≤ (r : Int)) = True := by simp
      simp only [d1, e2, n0, nr, Int.toNat_natCast, aiaddr, hxa, hua, R.av, h0, h3, h4, h5, eES, eEX, Nat.reduceBEq, Int.reduceLE, Int.reduceLT, Int.reduceToNat, Int.reduceEq, ↓reduceIte, reduceCtorEq, Nat.reducePow, Nat.reduceAdd, Nat.reduceLeDiff, Nat.reduceLT, Nat.reduceSub, Nat.reduceEqDiff]
      cases hcx : decide (u.num > x.num) with
      | true =>
        simp only [hcx, g27_7, e2, h0, h3, h4, h5, eES, eEX, Nat.reduceBEq, Int.reduceLE, Int.reduceLT, Int.reduceToNat, Int.reduceEq, ↓reduceIte, reduceCtorEq, Nat.reducePow, Nat.reduceAdd, Nat.reduceLeDiff, Nat.reduceLT, Nat.reduceSub, Nat.reduceEqDiff]
        exact ⟨r + 1, by omega, _, r, rfl, rfl, by omega, (by
          intro j v hj hv'
          rcases Nat.lt_or_eq_of_le hj with h | h
          · exact hv j v h hv'
          · subst h; rw [hu] at hv'; cases hv'; exact hcx), by simp only [h0, eES, eEX, Nat.reduceBEq, Int.reduceLE, Int.reduceLT, Int.reduceToNat, Int.reduceEq, ↓reduceIte, reduceCtorEq, Nat.reducePow, Nat.reduceAdd, Nat.reduceLeDiff, Nat.reduceLT, Nat.reduceSub, Nat.reduceEqDiff], by simp only [h3, eES, eEX, Nat.reduceBEq, Int.reduceLE, Int.reduceLT, Int.reduceToNat, Int.reduceEq, ↓reduceIte, reduceCtorEq, Nat.reducePow, Nat.reduceAdd, Nat.reduceLeDiff, Nat.reduceLT, Nat.reduceSub, Nat.reduceEqDiff], by simp only [h4, eES, eEX, Nat.reduceBEq, Int.reduceLE, Int.reduceLT, Int.reduceToNat, Int.reduceEq, ↓reduceIte, reduceCtorEq, Nat.reducePow, Nat.reduceAdd, Nat.reduceLeDiff, Nat.reduceLT, Nat.reduceSub, Nat.reduceEqDiff], by simp only [eES, eEX, Nat.reduceBEq, Int.reduceLE, Int.reduceLT, Int.reduceToNat, Int.reduceEq, ↓reduceIte, reduceCtorEq, Nat.reducePow, Nat.reduceAdd, Nat.reduceLeDiff, Nat.reduceLT, Nat.reduceSub, Nat.reduceEqDiff]⟩
      | false =>
        have hlow : ∀ j u', j < r + 1 → O[j]? = some u' → decide (x.num < u'.num) = false := by
          intro j u' hj hu'
          have := srt_le hsrt sR (show j ≤ r by omega) hu' hu
          exact sR.nt x u u' hcx this
        have hfin := fin hlow
        simp only [hcx, h0, h3, h4, h5, eES, eEX, Nat.reduceBEq, Int.reduceLE, Int.reduceLT, Int.reduceToNat, Int.reduceEq, ↓reduceIte, reduceCtorEq, Nat.reducePow, Nat.reduceAdd, Nat.reduceLeDiff, Nat.reduceLT, Nat.reduceSub, Nat.reduceEqDiff]
        simp only [g27_8, h0, h3, h4, h5, eES, eEX, Nat.reduceBEq, Int.reduceLE, Int.reduceLT, Int.reduceToNat, Int.reduceEq, ↓reduceIte, reduceCtorEq, Nat.reducePow, Nat.reduceAdd, Nat.reduceLeDiff, Nat.reduceLT, Nat.reduceSub, Nat.reduceEqDiff]
        refine awp_vecR (by simp only [eES, eEX, Nat.reduceBEq, Int.reduceLE, Int.reduceLT, Int.reduceToNat, Int.reduceEq, ↓reduceIte, reduceCtorEq, Nat.reducePow, Nat.reduceAdd, Nat.reduceLeDiff, Nat.reduceLT, Nat.reduceSub, Nat.reduceEqDiff]) h6 ?_
        generalize hg : ngen (fr 6) = g
        simp only [g27_9, h0, h3, h4, h5, rsv_len, n0, nt, c1, Int.toNat_natCast, Nat.zero_le, Nat.le_refl, true_or, Nat.sub_zero, rsv_take, eES, eEX, Nat.reduceBEq, Int.reduceLE, Int.reduceLT, Int.reduceToNat, Int.reduceEq, ↓reduceIte, reduceCtorEq, Nat.reducePow, Nat.reduceAdd, Nat.reduceLeDiff, Nat.reduceLT, Nat.reduceSub, Nat.reduceEqDiff]
        refine aops_app (site := 6) (g := g) (n := 0) (xs := []) (ys := rsv (O.take (r + 1))) (by simp only [eES, eEX, Nat.reduceBEq, Int.reduceLE, Int.reduceLT, Int.reduceToNat, Int.reduceEq, ↓reduceIte, reduceCtorEq, Nat.reducePow, Nat.reduceAdd, Nat.reduceLeDiff, Nat.reduceLT, Nat.reduceSub, Nat.reduceEqDiff]) (by simp only [eES, eEX, Nat.reduceBEq, Int.reduceLE, Int.reduceLT, Int.reduceToNat, Int.reduceEq, ↓reduceIte, reduceCtorEq, Nat.reducePow, Nat.reduceAdd, Nat.reduceLeDiff, Nat.reduceLT, Nat.reduceSub, Nat.reduceEqDiff]) rfl rfl (by simp only [eES, eEX, Nat.reduceBEq, Int.reduceLE, Int.reduceLT, Int.reduceToNat, Int.reduceEq, ↓reduceIte, reduceCtorEq, Nat.reducePow, Nat.reduceAdd, Nat.reduceLeDiff, Nat.reduceLT, Nat.reduceSub, Nat.reduceEqDiff]) (rsv_cells _) (by simp only [rsv_len, List.length_take, maxLen]; omega) (by simp only [rsv_len, List.length_take]; omega) ?_
        simp only [g27_10, h0, h3, h4, h5, n0, Int.toNat_natCast, aiaddr, hxa, R.av, rsv_len, eES, eEX, Nat.reduceBEq, Int.reduceLE, Int.reduceLT, Int.reduceToNat, Int.reduceEq, ↓reduceIte, reduceCtorEq, Nat.reducePow, Nat.reduceAdd, Nat.reduceLeDiff, Nat.reduceLT, Nat.reduceSub, Nat.reduceEqDiff]
        refine aops_bslA rfl rfl (by decide) rfl rfl ?_
        simp only [nn0, List.map_cons, eES, eEX, Nat.reduceBEq, Int.reduceLE, Int.reduceLT, Int.reduceToNat, Int.reduceEq, ↓reduceIte, reduceCtorEq, Nat.reducePow, Nat.reduceAdd, Nat.reduceLeDiff, Nat.reduceLT, Nat.reduceSub, Nat.reduceEqDiff]
        refine aops_app (site := 6) (g := g + 1) (n := 0 + (O.take (r + 1)).length) (xs := rsv (O.take (r + 1))) (ys := [x.av]) (by simp only [rsv_len, eES, eEX, Nat.reduceBEq, Int.reduceLE, Int.reduceLT, Int.reduceToNat, Int.reduceEq, ↓reduceIte, reduceCtorEq, Nat.reducePow, Nat.reduceAdd, Nat.reduceLeDiff, Nat.reduceLT, Nat.reduceSub, Nat.reduceEqDiff]) (by simp only [eES, eEX, Nat.reduceBEq, Int.reduceLE, Int.reduceLT, Int.reduceToNat, Int.reduceEq, ↓reduceIte, reduceCtorEq, Nat.reducePow, Nat.reduceAdd, Nat.reduceLeDiff, Nat.reduceLT, Nat.reduceSub, Nat.reduceEqDiff]) rfl (by rw [rsv_len]; omega) (by simp only [R.av, eES, eEX, Nat.reduceBEq, Int.reduceLE, Int.reduceLT, Int.reduceToNat, Int.reduceEq, ↓reduceIte, reduceCtorEq, Nat.reducePow, Nat.reduceAdd, Nat.reduceLeDiff, Nat.reduceLT, Nat.reduceSub, Nat.reduceEqDiff]) rfl (by simp only [List.length_take, List.length_singleton, maxLen]; omega) (by simp only [List.length_take, List.length_singleton]; omega) ?_
        simp only [g27_11, h0, h3, h4, h5, n0, nt, c1, hdt, rsv_len, rsv_cells, Int.toNat_natCast, Nat.le_refl, or_true, rsv_drop, rsv_take, eES, Nat.reduceBEq, Int.reduceLE, Int.reduceLT, Int.reduceToNat, Int.reduceEq, ↓reduceIte, reduceCtorEq, Nat.reducePow, Nat.reduceAdd, Nat.reduceLeDiff, Nat.reduceLT, Nat.reduceSub, Nat.reduceEqDiff]
        refine aops_app (site := 6) (g := g + 1 + 1) (n := 0 + (O.take (r + 1)).length + 1) (xs := rsv (O.take (r + 1)) ++ [x.av]) (ys := rsv (O.drop (r + 1))) (by simp only [eES, eEX, Nat.reduceBEq, Int.reduceLE, Int.reduceLT, Int.reduceToNat, Int.reduceEq, ↓reduceIte, reduceCtorEq, Nat.reducePow, Nat.reduceAdd, Nat.reduceLeDiff, Nat.reduceLT, Nat.reduceSub, Nat.reduceEqDiff]) (by simp only [eES, eEX, Nat.reduceBEq, Int.reduceLE, Int.reduceLT, Int.reduceToNat, Int.reduceEq, ↓reduceIte, reduceCtorEq, Nat.reducePow, Nat.reduceAdd, Nat.reduceLeDiff, Nat.reduceLT, Nat.reduceSub, Nat.reduceEqDiff]) rfl (by simp only [List.length_append, rsv_len, List.length_singleton]; omega) (by simp only [eES, eEX, Nat.reduceBEq, Int.reduceLE, Int.reduceLT, Int.reduceToNat, Int.reduceEq, ↓reduceIte, reduceCtorEq, Nat.reducePow, Nat.reduceAdd, Nat.reduceLeDiff, Nat.reduceLT, Nat.reduceSub, Nat.reduceEqDiff]) (rsv_cells _) (by simp only [rsv_len, List.length_take, List.length_drop, maxLen]; omega) (by simp only [rsv_len, List.length_take, List.length_drop]; omega) ?_
        simp only [eES, eEX, Nat.reduceBEq, Int.reduceLE, Int.reduceLT, Int.reduceToNat, Int.reduceEq, ↓reduceIte, reduceCtorEq, Nat.reducePow, Nat.reduceAdd, Nat.reduceLeDiff, Nat.reduceLT, Nat.reduceSub, Nat.reduceEqDiff]
        refine awp_pub (site := 6) (g := g + 1 + 1 + 1) (sz := 4) (n := 0 + (O.take (r + 1)).length + 1 + (rsv (O.drop (r + 1))).length) (xs := rsv (O.take (r + 1)) ++ [x.av] ++ rsv (O.drop (r + 1))) (by simp only [eES, eEX, Nat.reduceBEq, Int.reduceLE, Int.reduceLT, Int.reduceToNat, Int.reduceEq, ↓reduceIte, reduceCtorEq, Nat.reducePow, Nat.reduceAdd, Nat.reduceLeDiff, Nat.reduceLT, Nat.reduceSub, Nat.reduceEqDiff]) (by simp only [eES, eEX, Nat.reduceBEq, Int.reduceLE, Int.reduceLT, Int.reduceToNat, Int.reduceEq, ↓reduceIte, reduceCtorEq, Nat.reducePow, Nat.reduceAdd, Nat.reduceLeDiff, Nat.reduceLT, Nat.reduceSub, Nat.reduceEqDiff]) (by simp only [List.length_append, rsv_len, List.length_singleton]; omega) ?_
        have htk : (rsv (O.take (r + 1)) ++ [x.av] ++ rsv (O.drop (r + 1))).take (0 + (O.take (r + 1)).length + 1 + (rsv (O.drop (r + 1))).length) = rsv (O.take (r + 1)) ++ [x.av] ++ rsv (O.drop (r + 1)) := List.take_of_length_le (by simp only [List.length_append, rsv_len, List.length_singleton]; omega)
        rw [htk, hfin]
        simp only [g27_12, g27_4, e1, h0, h3, h4, h5, eES, eEX, Nat.reduceBEq, Int.reduceLE, Int.reduceLT, Int.reduceToNat, Int.reduceEq, ↓reduceIte, reduceCtorEq, Nat.reducePow, Nat.reduceAdd, Nat.reduceLeDiff, Nat.reduceLT, Nat.reduceSub, Nat.reduceEqDiff]
        exact ⟨l.length - (i + 1), by omega, _, _, i + 1, rfl, rfl, by omega, by simp only [h0, eES, eEX, Nat.reduceBEq, Int.reduceLE, Int.reduceLT, Int.reduceToNat, Int.reduceEq, ↓reduceIte, reduceCtorEq, Nat.reducePow, Nat.reduceAdd, Nat.reduceLeDiff, Nat.reduceLT, Nat.reduceSub, Nat.reduceEqDiff], by simp only [eES, eEX, Nat.reduceBEq, Int.reduceLE, Int.reduceLT, Int.reduceToNat, Int.reduceEq, ↓reduceIte, reduceCtorEq, Nat.reducePow, Nat.reduceAdd, Nat.reduceLeDiff, Nat.reduceLT, Nat.reduceSub, Nat.reduceEqDiff], by simp only [eES, eEX, Nat.reduceBEq, Int.reduceLE, Int.reduceLT, Int.reduceToNat, Int.reduceEq, ↓reduceIte, reduceCtorEq, Nat.reducePow, Nat.reduceAdd, Nat.reduceLeDiff, Nat.reduceLT, Nat.reduceSub, Nat.reduceEqDiff], by simp only [eES, eEX, Nat.reduceBEq, Int.reduceLE, Int.reduceLT, Int.reduceToNat, Int.reduceEq, ↓reduceIte, reduceCtorEq, Nat.reducePow, Nat.reduceAdd, Nat.reduceLeDiff, Nat.reduceLT, Nat.reduceSub, Nat.reduceEqDiff] <;> rfl⟩
    · have ht1 : t = 0 := by omega
      subst ht1
      have d1 : decide (((0 : Nat) : Int) > 0) = false := by simp
      have hfin := fin (by intro j u hj; omega)
      simp only [d1, h0, h3, h4, h5, eES, eEX, Nat.reduceBEq, Int.reduceLE, Int.reduceLT, Int.reduceToNat, Int.reduceEq, ↓reduceIte, reduceCtorEq, Nat.reducePow, Nat.reduceAdd, Nat.reduceLeDiff, Nat.reduceLT, Nat.reduceSub, Nat.reduceEqDiff]
      simp only [g27_8, h0, h3, h4, h5, eES, eEX, Nat.reduceBEq, Int.reduceLE, Int.reduceLT, Int.reduceToNat, Int.reduceEq, ↓reduceIte, reduceCtorEq, Nat.reducePow, Nat.reduceAdd, Nat.reduceLeDiff, Nat.reduceLT, Nat.reduceSub, Nat.reduceEqDiff]
      refine awp_vecR (by simp only [eES, eEX, Nat.reduceBEq, Int.reduceLE, Int.reduceLT, Int.reduceToNat, Int.reduceEq, ↓reduceIte, reduceCtorEq, Nat.reducePow, Nat.reduceAdd, Nat.reduceLeDiff, Nat.reduceLT, Nat.reduceSub, Nat.reduceEqDiff]) h6 ?_
      generalize hg : ngen (fr 6) = g
      simp only [g27_9, h0, h3, h4, h5, rsv_len, n0, nt, c1, Int.toNat_natCast, Nat.zero_le, Nat.le_refl, true_or, Nat.sub_zero, rsv_take, eES, eEX, Nat.reduceBEq, Int.reduceLE, Int.reduceLT, Int.reduceToNat, Int.reduceEq, ↓reduceIte, reduceCtorEq, Nat.reducePow, Nat.reduceAdd, Nat.reduceLeDiff, Nat.reduceLT, Nat.reduceSub, Nat.reduceEqDiff]
      refine aops_app (site := 6) (g := g) (n := 0) (xs := []) (ys := rsv (O.take (0))) (by simp only [eES, eEX, Nat.reduceBEq, Int.reduceLE, Int.reduceLT, Int.reduceToNat, Int.reduceEq, ↓reduceIte, reduceCtorEq, Nat.reducePow, Nat.reduceAdd, Nat.reduceLeDiff, Nat.reduceLT, Nat.reduceSub, Nat.reduceEqDiff]) (by simp only [eES, eEX, Nat.reduceBEq, Int.reduceLE, Int.reduceLT, Int.reduceToNat, Int.reduceEq, ↓reduceIte, reduceCtorEq, Nat.reducePow, Nat.reduceAdd, Nat.reduceLeDiff, Nat.reduceLT, Nat.reduceSub, Nat.reduceEqDiff]) rfl rfl (by simp only [eES, eEX, Nat.reduceBEq, Int.reduceLE, Int.reduceLT, Int.reduceToNat, Int.reduceEq, ↓reduceIte, reduceCtorEq, Nat.reducePow, Nat.reduceAdd, Nat.reduceLeDiff, Nat.reduceLT, Nat.reduceSub, Nat.reduceEqDiff] <;> rfl) (rsv_cells _) (by simp only [rsv_len, List.length_take, maxLen]; omega) (by simp only [rsv_len, List.length_take]; omega) ?_
      simp only [g27_10, h0, h3, h4, h5, n0, Int.toNat_natCast, aiaddr, hxa, R.av, rsv_len, eES, eEX, Nat.reduceBEq, Int.reduceLE, Int.reduceLT, Int.reduceToNat, Int.reduceEq, ↓reduceIte, reduceCtorEq, Nat.reducePow, Nat.reduceAdd, Nat.reduceLeDiff, Nat.reduceLT, Nat.reduceSub, Nat.reduceEqDiff]
      refine aops_bslA rfl rfl (by decide) rfl rfl ?_
      simp only [nn0, List.map_cons, eES, eEX, Nat.reduceBEq, Int.reduceLE, Int.reduceLT, Int.reduceToNat, Int.reduceEq, ↓reduceIte, reduceCtorEq, Nat.reducePow, Nat.reduceAdd, Nat.reduceLeDiff, Nat.reduceLT, Nat.reduceSub, Nat.reduceEqDiff]
      refine aops_app (site := 6) (g := g + 1) (n := 0 + (O.take (0)).length) (xs := rsv (O.take (0))) (ys := [x.av]) (by simp only [rsv_len, eES, eEX, Nat.reduceBEq, Int.reduceLE, Int.reduceLT, Int.reduceToNat, Int.reduceEq, ↓reduceIte, reduceCtorEq, Nat.reducePow, Nat.reduceAdd, Nat.reduceLeDiff, Nat.reduceLT, Nat.reduceSub, Nat.reduceEqDiff]) (by simp only [eES, eEX, Nat.reduceBEq, Int.reduceLE, Int.reduceLT, Int.reduceToNat, Int.reduceEq, ↓reduceIte, reduceCtorEq, Nat.reducePow, Nat.reduceAdd, Nat.reduceLeDiff, Nat.reduceLT, Nat.reduceSub, Nat.reduceEqDiff]) rfl (by rw [rsv_len]; omega) (by simp only [R.av, eES, eEX, Nat.reduceBEq, Int.reduceLE, Int.reduceLT, Int.reduceToNat, Int.reduceEq, ↓reduceIte, reduceCtorEq, Nat.reducePow, Nat.reduceAdd, Nat.reduceLeDiff, Nat.reduceLT, Nat.reduceSub, Nat.reduceEqDiff]) rfl (by simp only [List.length_take, List.length_singleton, maxLen]; omega) (by simp only [List.length_take, List.length_singleton]; omega) ?_
      simp only [g27_11, h0, h3, h4, h5, n0, nt, c1, hdt, rsv_len, rsv_cells, Int.toNat_natCast, Nat.le_refl, or_true, rsv_drop, rsv_take, Nat.sub_zero, List.take_length, eES, Nat.reduceBEq, Int.reduceLE, Int.reduceLT, Int.reduceToNat, Int.reduceEq, ↓reduceIte, reduceCtorEq, Nat.reducePow, Nat.reduceAdd, Nat.reduceLeDiff, Nat.reduceLT, Nat.reduceSub, Nat.reduceEqDiff]
      refine aops_app (site := 6) (g := g + 1 + 1) (n := 0 + (O.take (0)).length + 1) (xs := rsv (O.take (0)) ++ [x.av]) (ys := rsv (O.drop (0))) (by simp only [eES, eEX, Nat.reduceBEq, Int.reduceLE, Int.reduceLT, Int.reduceToNat, Int.reduceEq, ↓reduceIte, reduceCtorEq, Nat.reducePow, Nat.reduceAdd, Nat.reduceLeDiff, Nat.reduceLT, Nat.reduceSub, Nat.reduceEqDiff]) (by simp only [eES, eEX, Nat.reduceBEq, Int.reduceLE, Int.reduceLT, Int.reduceToNat, Int.reduceEq, ↓reduceIte, reduceCtorEq, Nat.reducePow, Nat.reduceAdd, Nat.reduceLeDiff, Nat.reduceLT, Nat.reduceSub, Nat.reduceEqDiff]) rfl (by simp only [List.length_append, rsv_len, List.length_singleton]; omega) (by simp only [Nat.sub_zero, List.take_length, eES, eEX, Nat.reduceBEq, Int.reduceLE, Int.reduceLT, Int.reduceToNat, Int.reduceEq, ↓reduceIte, reduceCtorEq, Nat.reducePow, Nat.reduceAdd, Nat.reduceLeDiff, Nat.reduceLT, Nat.reduceSub, Nat.reduceEqDiff]) (rsv_cells _) (by simp only [rsv_len, List.length_take, List.length_drop, maxLen]; omega) (by simp only [rsv_len, List.length_take, List.length_drop]; omega) ?_
      simp only [eES, eEX, Nat.reduceBEq, Int.reduceLE, Int.reduceLT, Int.reduceToNat, Int.reduceEq, ↓reduceIte, reduceCtorEq, Nat.reducePow, Nat.reduceAdd, Nat.reduceLeDiff, Nat.reduceLT, Nat.reduceSub, Nat.reduceEqDiff]
      refine awp_pub (site := 6) (g := g + 1 + 1 + 1) (sz := 4) (n := 0 + (O.take (0)).length + 1 + (rsv (O.drop (0))).length) (xs := rsv (O.take (0)) ++ [x.av] ++ rsv (O.drop (0))) (by simp only [eES, eEX, Nat.reduceBEq, Int.reduceLE, Int.reduceLT, Int.reduceToNat, Int.reduceEq, ↓reduceIte, reduceCtorEq, Nat.reducePow, Nat.reduceAdd, Nat.reduceLeDiff, Nat.reduceLT, Nat.reduceSub, Nat.reduceEqDiff]) (by simp only [eES, eEX, Nat.reduceBEq, Int.reduceLE, Int.reduceLT, Int.reduceToNat, Int.reduceEq, ↓reduceIte, reduceCtorEq, Nat.reducePow, Nat.reduceAdd, Nat.reduceLeDiff, Nat.reduceLT, Nat.reduceSub, Nat.reduceEqDiff]) (by simp only [List.length_append, rsv_len, List.length_singleton]; omega) ?_
      have htk : (rsv (O.take 0) ++ [x.av] ++ rsv (O.drop 0)).take (0 + (O.take 0).length + 1 + (rsv (O.drop 0)).length) = rsv (O.take 0) ++ [x.av] ++ rsv (O.drop 0) := List.take_of_length_le (by simp only [List.length_append, rsv_len, List.length_singleton]; omega)
      rw [htk, hfin]
      simp only [g27_12, g27_4, e1, h0, h3, h4, h5, eES, eEX, Nat.reduceBEq, Int.reduceLE, Int.reduceLT, Int.reduceToNat, Int.reduceEq, ↓reduceIte, reduceCtorEq, Nat.reducePow, Nat.reduceAdd, Nat.reduceLeDiff, Nat.reduceLT, Nat.reduceSub, Nat.reduceEqDiff]
      exact ⟨l.length - (i + 1), by omega, _, _, i + 1, rfl, rfl, by omega, by simp only [h0, eES, eEX, Nat.reduceBEq, Int.reduceLE, Int.reduceLT, Int.reduceToNat, Int.reduceEq, ↓reduceIte, reduceCtorEq, Nat.reducePow, Nat.reduceAdd, Nat.reduceLeDiff, Nat.reduceLT, Nat.reduceSub, Nat.reduceEqDiff], by simp only [eES, eEX, Nat.reduceBEq, Int.reduceLE, Int.reduceLT, Int.reduceToNat, Int.reduceEq, ↓reduceIte, reduceCtorEq, Nat.reducePow, Nat.reduceAdd, Nat.reduceLeDiff, Nat.reduceLT, Nat.reduceSub, Nat.reduceEqDiff], by simp only [eES, eEX, Nat.reduceBEq, Int.reduceLE, Int.reduceLT, Int.reduceToNat, Int.reduceEq, ↓reduceIte, reduceCtorEq, Nat.reducePow, Nat.reduceAdd, Nat.reduceLeDiff, Nat.reduceLT, Nat.reduceSub, Nat.reduceEqDiff], by simp only [eES, eEX, Nat.reduceBEq, Int.reduceLE, Int.reduceLT, Int.reduceToNat, Int.reduceEq, ↓reduceIte, reduceCtorEq, Nat.reducePow, Nat.reduceAdd, Nat.reduceLeDiff, Nat.reduceLT, Nat.reduceSub, Nat.reduceEqDiff] <;> rfl⟩
  · have d0 : decide ((i : Int) < (l.length : Int)) = false := by simp; omega
    have hil : l.take i = l := List.take_of_length_le (by omega)
    rw [hil] at h3
    simp only [d0, g27_13, o27, h0, h3, h4, eES, eEX, Nat.reduceBEq, Int.reduceLE, Int.reduceLT, Int.reduceToNat, Int.reduceEq, ↓reduceIte, reduceCtorEq, Nat.reducePow, Nat.reduceAdd, Nat.reduceLeDiff, Nat.reduceLT, Nat.reduceSub, Nat.reduceEqDiff]

end Go.Proofs.Ytcmdlmcmefbkeaa.Va

/- The law of lists of raw fields. -/
set_option linter.unusedSimpArgs false
namespace Go.Proofs.Ytcmdlmcmefbkeaa.Va
open Go Am Rc Bt Vp Cp Up So

def ListI (l : List R) (num : Int) (k : Nat) (st : St) : Prop :=
  ∃ f i, st = ⟨f, [noObs], []⟩ ∧ k = l.length - i ∧ i ≤ l.length ∧ f 0 = .list (rsv l) ∧ f 1 = .int .i64 num ∧ f 5 = .int .i64 (i : Nat)

theorem c9 (l : List R) (num : Int) (hb : ∀ f ∈ l, f.bits < 2 ^ 64) : Fn1 Try.prog 9 [.list (rsv l), .int .i64 num] (.bool true) := by
  refine fn1_of_awp (rc := r9) (rs := o9) Try.func9 rfl rfl Try.ntmps9 k9 q9 (by simp) ?_
  simp only [g9_0, g9_1, g9_2, g9_3, g9_4, g9_6, g9_7, g9_5, g9_8, r9, o9, eES, eEX, Nat.reduceBEq, Int.reduceLE, Int.reduceLT, Int.reduceToNat, Int.reduceEq, ↓reduceIte, reduceCtorEq, Nat.reducePow, Nat.reduceAdd, Nat.reduceLeDiff, Nat.reduceLT, Nat.reduceSub, Nat.reduceEqDiff]
  refine aops_call (c20 l) rfl rfl rfl (.inl rfl) ?_
  cases hlong : longp l with
  | true =>
    simp only [eES, eEX, Nat.reduceBEq, Int.reduceLE, Int.reduceLT, Int.reduceToNat, Int.reduceEq, ↓reduceIte, reduceCtorEq, Nat.reducePow, Nat.reduceAdd, Nat.reduceLeDiff, Nat.reduceLT, Nat.reduceSub, Nat.reduceEqDiff]
    refine aops_call c14 rfl rfl rfl (.inl rfl) ?_
    simp only [eES, eEX, Nat.reduceBEq, Int.reduceLE, Int.reduceLT, Int.reduceToNat, Int.reduceEq, ↓reduceIte, reduceCtorEq, Nat.reducePow, Nat.reduceAdd, Nat.reduceLeDiff, Nat.reduceLT, Nat.reduceSub, Nat.reduceEqDiff]
  | false =>
    obtain ⟨t1, t2, t3, _, _⟩ := trips hlong hb
    have hbb : ∀ fd ∈ l, fd.bits < 18446744073709551616 ∧ fd.data.length < 9223372036854775807 := fun f hf => ⟨by have := hb f hf; omega, by have := t2 f hf; omega⟩
    simp only [eES, eEX, Nat.reduceBEq, Int.reduceLE, Int.reduceLT, Int.reduceToNat, Int.reduceEq, ↓reduceIte, reduceCtorEq, Nat.reducePow, Nat.reduceAdd, Nat.reduceLeDiff, Nat.reduceLT, Nat.reduceSub, Nat.reduceEqDiff]
    refine awp_loop (ListI l num) _ ⟨_, 0, rfl, rfl, Nat.zero_le _, rfl, rfl, rfl⟩ ?_
    rintro n st ⟨f, i, rfl, rfl, hi, h0, h1, h5⟩
    simp only [l9_0, g9_0, g9_1, g9_2, g9_3, g9_4, g9_6, g9_7, g9_5, g9_8, r9, o9, h0, h1, h5, rsv_len, eES, eEX, Nat.reduceBEq, Int.reduceLE, Int.reduceLT, Int.reduceToNat, Int.reduceEq, ↓reduceIte, reduceCtorEq, Nat.reducePow, Nat.reduceAdd, Nat.reduceLeDiff, Nat.reduceLT, Nat.reduceSub, Nat.reduceEqDiff]
    by_cases hlt : i < l.length
    · have d0 : decide ((i : Int) < (l.length : Int)) = true := decide_eq_true (by omega)
      obtain ⟨fd, hfd⟩ : ∃ fd, l[i]? = some fd := ⟨l[i], List.getElem?_eq_getElem hlt⟩
      have hfa : (rsv l)[i]? = some fd.av := by simp [rsv, hfd]
      have n0 : (0 ≤ (i : Int)) = True := by simp
      have e1 : IntKind.i64.wrap ((i : Int) + 1) = ((i + 1 : Nat) : Int) := by rw [wi64]; omega
      have hv1 := c21 fd
      have hv2 := c24 fd
      simp only [R.av] at hv1 hv2
      simp only [d0, n0, Int.toNat_natCast, aiaddr, hfa, R.av, h0, h1, h5, eES, eEX, Nat.reduceBEq, Int.reduceLE, Int.reduceLT, Int.reduceToNat, Int.reduceEq, ↓reduceIte, reduceCtorEq, Nat.reducePow, Nat.reduceAdd, Nat.reduceLeDiff, Nat.reduceLT, Nat.reduceSub, Nat.reduceEqDiff]
      refine aops_call hv1 rfl rfl rfl (.inl rfl) ?_
      simp only [n0, Int.toNat_natCast, aiaddr, hfa, R.av, h0, h1, h5, eES, eEX, Nat.reduceBEq, Int.reduceLE, Int.reduceLT, Int.reduceToNat, Int.reduceEq, ↓reduceIte, reduceCtorEq, Nat.reducePow, Nat.reduceAdd, Nat.reduceLeDiff, Nat.reduceLT, Nat.reduceSub, Nat.reduceEqDiff]
      refine aops_call hv2 rfl rfl rfl (.inl rfl) ?_
      simp only [e1, beq_self_eq_true, h0, h1, h5, eES, eEX, Nat.reduceBEq, Int.reduceLE, Int.reduceLT, Int.reduceToNat, Int.reduceEq, ↓reduceIte, reduceCtorEq, Nat.reducePow, Nat.reduceAdd, Nat.reduceLeDiff, Nat.reduceLT, Nat.reduceSub, Nat.reduceEqDiff]
      exact ⟨l.length - (i + 1), by omega, _, i + 1, rfl, rfl, by omega, by simp only [h0, eES, eEX, Nat.reduceBEq, Int.reduceLE, Int.reduceLT, Int.reduceToNat, Int.reduceEq, ↓reduceIte, reduceCtorEq, Nat.reducePow, Nat.reduceAdd, Nat.reduceLeDiff, Nat.reduceLT, Nat.reduceSub, Nat.reduceEqDiff], by simp only [h1, eES, eEX, Nat.reduceBEq, Int.reduceLE, Int.reduceLT, Int.reduceToNat, Int.reduceEq, ↓reduceIte, reduceCtorEq, Nat.reducePow, Nat.reduceAdd, Nat.reduceLeDiff, Nat.reduceLT, Nat.reduceSub, Nat.reduceEqDiff], by simp only [eES, eEX, Nat.reduceBEq, Int.reduceLE, Int.reduceLT, Int.reduceToNat, Int.reduceEq, ↓reduceIte, reduceCtorEq, Nat.reducePow, Nat.reduceAdd, Nat.reduceLeDiff, Nat.reduceLT, Nat.reduceSub, Nat.reduceEqDiff]⟩
    · have d0 : decide ((i : Int) < (l.length : Int)) = false := decide_eq_false (by omega)
      have hol := only_le l num
      simp only [d0, h0, h1, h5, eES, eEX, Nat.reduceBEq, Int.reduceLE, Int.reduceLT, Int.reduceToNat, Int.reduceEq, ↓reduceIte, reduceCtorEq, Nat.reducePow, Nat.reduceAdd, Nat.reduceLeDiff, Nat.reduceLT, Nat.reduceSub, Nat.reduceEqDiff]
      refine aops_call (c22 l hbb (by omega) (by omega)) (by simp only [List.map_cons, List.map_nil, h0, eES, eEX, Nat.reduceBEq, Int.reduceLE, Int.reduceLT, Int.reduceToNat, Int.reduceEq, ↓reduceIte, reduceCtorEq, Nat.reducePow, Nat.reduceAdd, Nat.reduceLeDiff, Nat.reduceLT, Nat.reduceSub, Nat.reduceEqDiff]) rfl rfl (.inr rfl) ?_
      simp only [h0, h1, h5, eES, eEX, Nat.reduceBEq, Int.reduceLE, Int.reduceLT, Int.reduceToNat, Int.reduceEq, ↓reduceIte, reduceCtorEq, Nat.reducePow, Nat.reduceAdd, Nat.reduceLeDiff, Nat.reduceLT, Nat.reduceSub, Nat.reduceEqDiff]
      refine aops_call (c25 l hbb (by omega) (by omega)) (by simp only [List.map_cons, List.map_nil, h0, eES, eEX, Nat.reduceBEq, Int.reduceLE, Int.reduceLT, Int.reduceToNat, Int.reduceEq, ↓reduceIte, reduceCtorEq, Nat.reducePow, Nat.reduceAdd, Nat.reduceLeDiff, Nat.reduceLT, Nat.reduceSub, Nat.reduceEqDiff]) rfl rfl (.inr rfl) ?_
      simp only [astr, beq_self_eq_true, h0, h1, h5, eES, eEX, Nat.reduceBEq, Int.reduceLE, Int.reduceLT, Int.reduceToNat, Int.reduceEq, ↓reduceIte, reduceCtorEq, Nat.reducePow, Nat.reduceAdd, Nat.reduceLeDiff, Nat.reduceLT, Nat.reduceSub, Nat.reduceEqDiff]
      refine aops_call (c26 l (by omega)) (by simp only [List.map_cons, List.map_nil, h0, eES, eEX, Nat.reduceBEq, Int.reduceLE, Int.reduceLT, Int.reduceToNat, Int.reduceEq, ↓reduceIte, reduceCtorEq, Nat.reducePow, Nat.reduceAdd, Nat.reduceLeDiff, Nat.reduceLT, Nat.reduceSub, Nat.reduceEqDiff]) rfl rfl (.inl rfl) ?_
      simp only [h0, h1, h5, eES, eEX, Nat.reduceBEq, Int.reduceLE, Int.reduceLT, Int.reduceToNat, Int.reduceEq, ↓reduceIte, reduceCtorEq, Nat.reducePow, Nat.reduceAdd, Nat.reduceLeDiff, Nat.reduceLT, Nat.reduceSub, Nat.reduceEqDiff]
      refine aops_call (c27 l (by omega)) (by simp only [List.map_cons, List.map_nil, h0, eES, eEX, Nat.reduceBEq, Int.reduceLE, Int.reduceLT, Int.reduceToNat, Int.reduceEq, ↓reduceIte, reduceCtorEq, Nat.reducePow, Nat.reduceAdd, Nat.reduceLeDiff, Nat.reduceLT, Nat.reduceSub, Nat.reduceEqDiff]) rfl rfl (.inl rfl) ?_
      simp only [h0, h1, h5, eES, eEX, Nat.reduceBEq, Int.reduceLE, Int.reduceLT, Int.reduceToNat, Int.reduceEq, ↓reduceIte, reduceCtorEq, Nat.reducePow, Nat.reduceAdd, Nat.reduceLeDiff, Nat.reduceLT, Nat.reduceSub, Nat.reduceEqDiff]
      refine aops_call (c19 (srt l) (by rw [len_srt]; omega)) (by simp only [List.map_cons, List.map_nil, eES, eEX, Nat.reduceBEq, Int.reduceLE, Int.reduceLT, Int.reduceToNat, Int.reduceEq, ↓reduceIte, reduceCtorEq, Nat.reducePow, Nat.reduceAdd, Nat.reduceLeDiff, Nat.reduceLT, Nat.reduceSub, Nat.reduceEqDiff]) rfl rfl (.inr rfl) ?_
      simp only [h0, h1, h5, eES, eEX, Nat.reduceBEq, Int.reduceLE, Int.reduceLT, Int.reduceToNat, Int.reduceEq, ↓reduceIte, reduceCtorEq, Nat.reducePow, Nat.reduceAdd, Nat.reduceLeDiff, Nat.reduceLT, Nat.reduceSub, Nat.reduceEqDiff]
      refine aops_call (c28 l num (by omega)) (by simp only [List.map_cons, List.map_nil, h0, h1, eES, eEX, Nat.reduceBEq, Int.reduceLE, Int.reduceLT, Int.reduceToNat, Int.reduceEq, ↓reduceIte, reduceCtorEq, Nat.reducePow, Nat.reduceAdd, Nat.reduceLeDiff, Nat.reduceLT, Nat.reduceSub, Nat.reduceEqDiff]) rfl rfl (.inl rfl) ?_
      simp only [h0, h1, h5, eES, eEX, Nat.reduceBEq, Int.reduceLE, Int.reduceLT, Int.reduceToNat, Int.reduceEq, ↓reduceIte, reduceCtorEq, Nat.reducePow, Nat.reduceAdd, Nat.reduceLeDiff, Nat.reduceLT, Nat.reduceSub, Nat.reduceEqDiff]
      refine aops_call (c29 l num (by omega)) (by simp only [List.map_cons, List.map_nil, h0, h1, eES, eEX, Nat.reduceBEq, Int.reduceLE, Int.reduceLT, Int.reduceToNat, Int.reduceEq, ↓reduceIte, reduceCtorEq, Nat.reducePow, Nat.reduceAdd, Nat.reduceLeDiff, Nat.reduceLT, Nat.reduceSub, Nat.reduceEqDiff]) rfl rfl (.inl rfl) ?_
      simp only [h0, h1, h5, eES, eEX, Nat.reduceBEq, Int.reduceLE, Int.reduceLT, Int.reduceToNat, Int.reduceEq, ↓reduceIte, reduceCtorEq, Nat.reducePow, Nat.reduceAdd, Nat.reduceLeDiff, Nat.reduceLT, Nat.reduceSub, Nat.reduceEqDiff]
      refine aops_call (c19 (only l num) (by omega)) (by simp only [List.map_cons, List.map_nil, eES, eEX, Nat.reduceBEq, Int.reduceLE, Int.reduceLT, Int.reduceToNat, Int.reduceEq, ↓reduceIte, reduceCtorEq, Nat.reducePow, Nat.reduceAdd, Nat.reduceLeDiff, Nat.reduceLT, Nat.reduceSub, Nat.reduceEqDiff]) rfl rfl (.inr rfl) ?_
      simp only [eES, eEX, Nat.reduceBEq, Int.reduceLE, Int.reduceLT, Int.reduceToNat, Int.reduceEq, ↓reduceIte, reduceCtorEq, Nat.reducePow, Nat.reduceAdd, Nat.reduceLeDiff, Nat.reduceLT, Nat.reduceSub, Nat.reduceEqDiff]
      refine aops_call c14 rfl rfl rfl (.inl rfl) ?_
      simp only [eES, eEX, Nat.reduceBEq, Int.reduceLE, Int.reduceLT, Int.reduceToNat, Int.reduceEq, ↓reduceIte, reduceCtorEq, Nat.reducePow, Nat.reduceAdd, Nat.reduceLeDiff, Nat.reduceLT, Nat.reduceSub, Nat.reduceEqDiff]

end Go.Proofs.Ytcmdlmcmefbkeaa.Va

/- Arguments that are structs of texts and numbers: opened and shut. -/
namespace Go.Proofs.Ytcmdlmcmefbkeaa.Br
open Go Am Go.RowKit Go.WideShapes Go.ChangeShapes Go.ChangeAt Go.Joins Go.Deep Go.WideElems Go.Maps

section
variable {H : Type} {enc : TypeId × Value → H} {P : Program} {W : World} {base : Nat} {sp : Nat → Bool} {held : Bool}

theorem array6 {α : Type} {cs : Array α} (h : cs.size = 6) : ∃ c0 c1 c2 c3 c4 c5, cs = #[c0, c1, c2, c3, c4, c5] := by
  obtain ⟨l⟩ := cs
  match l, h with
  | [c0, c1, c2, c3, c4, c5], _ => exact ⟨c0, c1, c2, c3, c4, c5, rfl⟩

/-- What the fields of a struct of one-cell fields read. -/
theorem open_six {r : Reach} {b0 : Nat} {t : TypeId} {f0 f1 f2 f3 f4 f5 : Field} {v : Value} {d : DataW H} {p : List MemPlace} (hs : P.underlying t = some (.struct #[f0, f1, f2, f3, f4, f5])) (hone : oneCellFields P #[f0, f1, f2, f3, f4, f5] = true) (hC : P.cellsOf t = 6)
    (hv : Value.okWide P W r b0 t v) (h : DataW.Trod enc P W base sp held t v d p) :
    ∃ (v0 v1 v2 v3 v4 v5 : Value) (y0 y1 y2 y3 y4 y5 : DataW H × List MemPlace) (n : Nat), v = .agg #[v0, v1, v2, v3, v4, v5] ∧ d = .agg [y0.1, y1.1, y2.1, y3.1, y4.1, y5.1] ∧ p = y0.2 ++ (y1.2 ++ (y2.2 ++ (y3.2 ++ (y4.2 ++ y5.2)))) ∧
      DataW.trod enc P W base sp held n f0.type [v0] = some y0 ∧ DataW.trod enc P W base sp held n f1.type [v1] = some y1 ∧ DataW.trod enc P W base sp held n f2.type [v2] = some y2 ∧ DataW.trod enc P W base sp held n f3.type [v3] = some y3 ∧
      DataW.trod enc P W base sp held n f4.type [v4] = some y4 ∧ DataW.trod enc P W base sp held n f5.type [v5] = some y5 := by
  obtain ⟨cs, rfl, hsz⟩ := okWide_struct hs hv
  obtain ⟨c0, c1, c2, c3, c4, c5, rfl⟩ := array6 (hsz.trans hC)
  obtain ⟨fuel, hf⟩ := h
  obtain ⟨xs, n, _, hx, _, hlen, hg⟩ := DataW.trod_struct hs hf
  have ho := fun i f => hone_of hone i f
  match xs, hlen with
  | [y0, y1, y2, y3, y4, y5], _ =>
    obtain ⟨o0, k0⟩ := ho 0 f0 rfl
    obtain ⟨o1, k1⟩ := ho 1 f1 rfl
    obtain ⟨o2, k2⟩ := ho 2 f2 rfl
    obtain ⟨o3, k3⟩ := ho 3 f3 rfl
    obtain ⟨o4, k4⟩ := ho 4 f4 rfl
    obtain ⟨o5, k5⟩ := ho 5 f5 rfl
    simp only [Prod.mk.injEq] at hx
    refine ⟨c0, c1, c2, c3, c4, c5, y0, y1, y2, y3, y4, y5, n, rfl, by rw [hx.1]; rfl, by rw [hx.2]; simp, ?_, ?_, ?_, ?_, ?_, ?_⟩
    · simpa [Value.cells, o0, k0] using hg 0 f0 rfl
    · simpa [Value.cells, o1, k1] using hg 1 f1 rfl
    · simpa [Value.cells, o2, k2] using hg 2 f2 rfl
    · simpa [Value.cells, o3, k3] using hg 3 f3 rfl
    · simpa [Value.cells, o4, k4] using hg 4 f4 rfl
    · simpa [Value.cells, o5, k5] using hg 5 f5 rfl

/-- A text and five numbers. -/
theorem open_cur {r : Reach} {b0 : Nat} {t ts ti : TypeId} {f0 f1 f2 f3 f4 f5 : Field} {v : Value} {d : DataW H} {p : List MemPlace} (hs : P.underlying t = some (.struct #[f0, f1, f2, f3, f4, f5])) (hone : oneCellFields P #[f0, f1, f2, f3, f4, f5] = true) (hC : P.cellsOf t = 6)
    (hts : P.underlying ts = some .string) (hti : P.underlying ti = some (.int .i64)) (hf : f0.type = ts ∧ f1.type = ti ∧ f2.type = ti ∧ f3.type = ti ∧ f4.type = ti ∧ f5.type = ti)
    (hv : Value.okWide P W r b0 t v) (h : DataW.Trod enc P W base sp held t v d p) :
    ∃ (s : ByteArray) (a b c e g : Int), v = .agg #[.string s, .int .i64 a, .int .i64 b, .int .i64 c, .int .i64 e, .int .i64 g] ∧ d = .agg [.lit (.string s.data.toList), .lit (.int .i64 a), .lit (.int .i64 b), .lit (.int .i64 c), .lit (.int .i64 e), .lit (.int .i64 g)] ∧ p = [] ∧
      s.size ≤ maxLen ∧ (Lit.int .i64 a).wf = true ∧ (Lit.int .i64 b).wf = true ∧ (Lit.int .i64 c).wf = true ∧ (Lit.int .i64 e).wf = true ∧ (Lit.int .i64 g).wf = true := by
  obtain ⟨v0, v1, v2, v3, v4, v5, y0, y1, y2, y3, y4, y5, n, rfl, rfl, rfl, h0, h1, h2, h3, h4, h5⟩ := open_six hs hone hC hv h
  obtain ⟨t0, t1, t2, t3, t4, t5⟩ := hf
  rw [t0] at h0
  rw [t1] at h1
  rw [t2] at h2
  rw [t3] at h3
  rw [t4] at h4
  rw [t5] at h5
  obtain ⟨s, e0, rfl, w0⟩ := DataW.trod_string hts h0
  obtain ⟨a, e1, rfl, w1⟩ := DataW.trod_int hti h1
  obtain ⟨b, e2, rfl, w2⟩ := DataW.trod_int hti h2
  obtain ⟨c, e3, rfl, w3⟩ := DataW.trod_int hti h3
  obtain ⟨e, e4, rfl, w4⟩ := DataW.trod_int hti h4
  obtain ⟨g, e5, rfl, w5⟩ := DataW.trod_int hti h5
  simp at e0 e1 e2 e3 e4 e5
  subst e0 e1 e2 e3 e4 e5
  exact ⟨s, a, b, c, e, g, rfl, rfl, rfl, w0, w1, w2, w3, w4, w5⟩

theorem shut_cur {t ts ti : TypeId} {f0 f1 f2 f3 f4 f5 : Field} (hs : P.underlying t = some (.struct #[f0, f1, f2, f3, f4, f5])) (hone : oneCellFields P #[f0, f1, f2, f3, f4, f5] = true) (hC : P.cellsOf t = 6)
    (hts : P.underlying ts = some .string) (hti : P.underlying ti = some (.int .i64)) (hf : f0.type = ts ∧ f1.type = ti ∧ f2.type = ti ∧ f3.type = ti ∧ f4.type = ti ∧ f5.type = ti)
    {s : ByteArray} {a b c e g : Int} (w0 : s.size ≤ maxLen) (w1 : (Lit.int .i64 a).wf = true) (w2 : (Lit.int .i64 b).wf = true) (w3 : (Lit.int .i64 c).wf = true) (w4 : (Lit.int .i64 e).wf = true) (w5 : (Lit.int .i64 g).wf = true) :
    DataW.Trod enc P W base sp held t (.agg #[.string s, .int .i64 a, .int .i64 b, .int .i64 c, .int .i64 e, .int .i64 g]) (.agg [.lit (.string s.data.toList), .lit (.int .i64 a), .lit (.int .i64 b), .lit (.int .i64 c), .lit (.int .i64 e), .lit (.int .i64 g)]) [] := by
  have hint : ∀ n : Int, (Lit.int .i64 n).wf = true → DataW.trod enc P W base sp held 1 ti [.int .i64 n] = some (.lit (.int .i64 n), []) := fun n hn => by simp [DataW.trod, hti, hn]
  have hstr : DataW.trod enc P W base sp held 1 ts [.string s] = some (.lit (.string s.data.toList), []) := by simp [DataW.trod, hts, w0]
  obtain ⟨t0, t1, t2, t3, t4, t5⟩ := hf
  have ho := fun i f => hone_of hone i f
  obtain ⟨o0, k0⟩ := ho 0 f0 rfl
  obtain ⟨o1, k1⟩ := ho 1 f1 rfl
  obtain ⟨o2, k2⟩ := ho 2 f2 rfl
  obtain ⟨o3, k3⟩ := ho 3 f3 rfl
  obtain ⟨o4, k4⟩ := ho 4 f4 rfl
  obtain ⟨o5, k5⟩ := ho 5 f5 rfl
  have := trod_struct_mk (enc := enc) (w := W) (base := base) (spare := sp) (held := held) (n := 1) (cs := [.string s, .int .i64 a, .int .i64 b, .int .i64 c, .int .i64 e, .int .i64 g])
    (xs := [(.lit (.string s.data.toList), []), (.lit (.int .i64 a), []), (.lit (.int .i64 b), []), (.lit (.int .i64 c), []), (.lit (.int .i64 e), []), (.lit (.int .i64 g), [])]) hs (by rw [hC]; rfl)
    (by rw [t0] at k0; rw [t1] at k1; rw [t2] at k2; rw [t3] at k3; rw [t4] at k4; rw [t5] at k5
        simp [o0, o1, o2, o3, o4, o5, k0, k1, t0, t1, t2, t3, t4, t5, hstr, hint _ w1, hint _ w2, hint _ w3, hint _ w4, hint _ w5])
  exact ⟨_, by simpa [Value.cells] using this⟩

theorem rep_cur {G : Gh} (s : ByteArray) (a b c e g : Int) : Rep G (.agg [.str s.data.toList, .int .i64 a, .int .i64 b, .int .i64 c, .int .i64 e, .int .i64 g]) (.agg #[.string s, .int .i64 a, .int .i64 b, .int .i64 c, .int .i64 e, .int .i64 g]) :=
  .agg (.cons (rep_str _) (.cons (.int _ _) (.cons (.int _ _) (.cons (.int _ _) (.cons (.int _ _) (.cons (.int _ _) .nil))))))

/-- Four numbers. -/
theorem open_lim {r : Reach} {b0 : Nat} {t ti : TypeId} {f0 f1 f2 f3 : Field} {v : Value} {d : DataW H} {p : List MemPlace} (hs : P.underlying t = some (.struct #[f0, f1, f2, f3])) (hone : oneCellFields P #[f0, f1, f2, f3] = true) (hC : P.cellsOf t = 4)
    (hti : P.underlying ti = some (.int .i64)) (hf : f0.type = ti ∧ f1.type = ti ∧ f2.type = ti ∧ f3.type = ti)
    (hv : Value.okWide P W r b0 t v) (h : DataW.Trod enc P W base sp held t v d p) :
    ∃ (a b c e : Int), v = .agg #[.int .i64 a, .int .i64 b, .int .i64 c, .int .i64 e] ∧ d = .agg [.lit (.int .i64 a), .lit (.int .i64 b), .lit (.int .i64 c), .lit (.int .i64 e)] ∧ p = [] ∧
      (Lit.int .i64 a).wf = true ∧ (Lit.int .i64 b).wf = true ∧ (Lit.int .i64 c).wf = true ∧ (Lit.int .i64 e).wf = true := by
  obtain ⟨v0, v1, v2, v3, y0, y1, y2, y3, n, rfl, rfl, rfl, h0, h1, h2, h3⟩ := open_agg4 hs hone hC hv h
  obtain ⟨t0, t1, t2, t3⟩ := hf
  rw [t0] at h0
  rw [t1] at h1
  rw [t2] at h2
  rw [t3] at h3
  obtain ⟨a, e0, rfl, w0⟩ := DataW.trod_int hti h0
  obtain ⟨b, e1, rfl, w1⟩ := DataW.trod_int hti h1
  obtain ⟨c, e2, rfl, w2⟩ := DataW.trod_int hti h2
  obtain ⟨e, e3, rfl, w3⟩ := DataW.trod_int hti h3
  simp at e0 e1 e2 e3
  subst e0 e1 e2 e3
  exact ⟨a, b, c, e, rfl, rfl, rfl, w0, w1, w2, w3⟩

theorem shut_lim {t ti : TypeId} {f0 f1 f2 f3 : Field} (hs : P.underlying t = some (.struct #[f0, f1, f2, f3])) (hone : oneCellFields P #[f0, f1, f2, f3] = true) (hC : P.cellsOf t = 4)
    (hti : P.underlying ti = some (.int .i64)) (hf : f0.type = ti ∧ f1.type = ti ∧ f2.type = ti ∧ f3.type = ti) {a b c e : Int} (w1 : (Lit.int .i64 a).wf = true) (w2 : (Lit.int .i64 b).wf = true) (w3 : (Lit.int .i64 c).wf = true) (w4 : (Lit.int .i64 e).wf = true) :
    DataW.Trod enc P W base sp held t (.agg #[.int .i64 a, .int .i64 b, .int .i64 c, .int .i64 e]) (.agg [.lit (.int .i64 a), .lit (.int .i64 b), .lit (.int .i64 c), .lit (.int .i64 e)]) [] := by
  have hint : ∀ n : Int, (Lit.int .i64 n).wf = true → ∃ m, DataW.trod enc P W base sp held m ti [.int .i64 n] = some (.lit (.int .i64 n), []) := fun n hn => ⟨1, by simp [DataW.trod, hti, hn]⟩
  obtain ⟨t0, t1, t2, t3⟩ := hf
  have := shut_agg4 (enc := enc) (w := W) (base := base) (spare := sp) (held := held) (y0 := (.lit (.int .i64 a), [])) (y1 := (.lit (.int .i64 b), [])) (y2 := (.lit (.int .i64 c), [])) (y3 := (.lit (.int .i64 e), [])) hs hone hC
    (by rw [t0]; exact hint _ w1) (by rw [t1]; exact hint _ w2) (by rw [t2]; exact hint _ w3) (by rw [t3]; exact hint _ w4)
  simpa using this

theorem rep_lim {G : Gh} (a b c e : Int) : Rep G (.agg [.int .i64 a, .int .i64 b, .int .i64 c, .int .i64 e]) (.agg #[.int .i64 a, .int .i64 b, .int .i64 c, .int .i64 e]) :=
  .agg (.cons (.int _ _) (.cons (.int _ _) (.cons (.int _ _) (.cons (.int _ _) .nil))))

end

end Go.Proofs.Ytcmdlmcmefbkeaa.Br

/- Arguments that are slices whose elements hold no pointer: opened, and shut again. -/
namespace Go.Proofs.Ytcmdlmcmefbkeaa.Br
open Go Am Go.RowKit Go.WideShapes Go.ChangeShapes Go.ChangeAt Go.Joins Go.Deep Go.WideElems Go.Maps

theorem flatMap_get {X α : Type} {f : X → List α} {sz : Nat} (hsz : 0 < sz) (hf : ∀ x, (f x).length = sz) : ∀ (xs : List X) (j : Nat), (xs.flatMap f)[j]? = (xs[j / sz]?).bind fun x => (f x)[j % sz]?
  | [], j => by simp
  | x :: xs, j => by
    rw [List.flatMap_cons]
    by_cases hj : j < sz
    · rw [List.getElem?_append_left (by rw [hf]; exact hj), Nat.div_eq_of_lt hj, Nat.mod_eq_of_lt hj]; rfl
    · obtain ⟨i, rfl⟩ : ∃ i, j = sz + i := ⟨j - sz, by omega⟩
      rw [List.getElem?_append_right (by rw [hf]; omega), hf, flatMap_get hsz hf xs, show sz + i - sz = i by omega, show (sz + i) / sz = i / sz + 1 by rw [Nat.add_div_left _ hsz], Nat.add_mod_left]
      rfl

section
variable {H : Type} {enc : TypeId × Value → H} {P : Program} {W : World}

/-- What the elements are. -/
structure El (enc : TypeId × Value → H) (P : Program) (e : TypeId) (sz : Nat) (X : Type) where
  av : X → AV
  vals : X → List Value
  dat : X → DataW H
  ok : X → Prop
  pos : 0 < sz
  len : ∀ x, (vals x).length = sz
  cells : ∀ x, (av x).cells.length = sz
  rfl' : ∀ x, AV.rfL (av x).cells = true
  leaf : ∀ x, (av x).cells.all AV.leaf = true
  rep : ∀ (G : Gh) x, RepL G (av x).cells (vals x)
  opened : ∀ {W : World} {n : Nat} {cs : List Value} {d : DataW H} {pl : List MemPlace}, cs.length = sz → DataW.trod enc P W 0 (fun _ => true) true n e cs = some (d, pl) → ∃ x, ok x ∧ cs = vals x ∧ d = dat x ∧ pl = []
  shut : ∀ (W : World) (sp : Nat → Bool) x, ok x → ∃ n, DataW.trod enc P W 0 sp true n e (vals x) = some (dat x, [])

theorem rep_flat {G : Gh} {X : Type} {f : X → AV} {g : X → List Value} (h : ∀ x, RepL G (f x).cells (g x)) : ∀ xs : List X, RepL G (flat (xs.map f)) (xs.flatMap g)
  | [] => .nil
  | x :: xs => by
    rw [List.flatMap_cons]
    show RepL G ((f x).cells ++ flat (xs.map f)) _
    exact RepL.append (h x) (rep_flat h xs)

theorem rfL_flat {X : Type} {f : X → AV} (h : ∀ x, AV.rfL (f x).cells = true) : ∀ xs : List X, AV.rfL (flat (xs.map f)) = true
  | [] => rfl
  | x :: xs => by
    show AV.rfL ((f x).cells ++ flat (xs.map f)) = true
    rw [rfL_append, h x, rfL_flat h xs]; rfl

theorem leaf_flat {X : Type} {f : X → AV} (h : ∀ x, (f x).cells.all AV.leaf = true) : ∀ xs : List X, (flat (xs.map f)).all AV.leaf = true
  | [] => rfl
  | x :: xs => by
    show ((f x).cells ++ flat (xs.map f)).all AV.leaf = true
    rw [List.all_append, h x, leaf_flat h xs]; rfl

theorem add_block (a : Addr) (i : Nat) : (a.add i).block = a.block := by
  unfold Addr.add; split <;> rfl

theorem cells_below {W W' : World} {base : Nat} {a : Addr} {n : Nat} {cs : List Value} (h : W.cells? base a n = some cs) (hn : 0 < n) (hb : Below W.heap.size W W') : W'.cells? base a n = some cs := by
  have hlt := World.cells?_block h hn
  obtain ⟨h1, h2, h3⟩ := World.cells?_some h
  refine World.cells?_of_each h1 h2 fun i hi => ?_
  rw [← h3 i hi]
  unfold World.cell?
  rw [add_block, hb.block _ hlt]

/-- A slice that is an argument: what it is to the machine, and that it reads as before whatever new memory there is. -/
theorem open_row {t e : TypeId} {sz : Nat} {X : Type} [Inhabited X] (E : El enc P e sz X) {r : Reach} {b0 : Nat} {v : Value} {d : DataW H} {p : List MemPlace} (ht : P.underlying t = some (.slice e)) (hC : P.cellsOf e = sz)
    (hv : Value.okWide P W r b0 t v) (h : DataW.Trod enc P W 0 (fun _ => true) true t v d p) :
    ∃ (y : AV) (xs : List X), ((y = .nils ∧ xs = []) ∨ y = .list (xs.map E.av)) ∧ (∀ x ∈ xs, E.ok x) ∧ (∃ rest, (d = .nil ∧ xs = []) ∨ d = .slice (xs.map E.dat) rest) ∧ Rep (Gh.bare fun b o => W.cell? ⟨b, o, none⟩) y v ∧
      ∀ (W' : World) (sp : Nat → Bool), Below W.heap.size W W' → (∀ q ∈ p, sp q.block = true) → DataW.Trod enc P W' 0 sp true t v d p := by
  obtain ⟨a0, len0, cap0, rfl⟩ := okWide_slice ht hv
  obtain ⟨fuel, hf⟩ := h
  have hf : DataW.trod enc P W 0 (fun _ => true) true fuel t [.slice a0 len0 cap0] = some (d, p) := by simpa [Value.cells] using hf
  rcases open_slice ht hf with ⟨hc, hx⟩ | ⟨a, len, cap, m, n, D, Pl, hc, _, hl, hm, hmm, hx, hel⟩
  · simp only [List.cons.injEq, Value.slice.injEq, and_true] at hc
    obtain ⟨rfl, rfl, rfl⟩ := hc
    obtain ⟨rfl, rfl⟩ := Prod.mk.inj hx
    exact ⟨.nils, [], .inl ⟨rfl, rfl⟩, (by simp), ⟨[], .inl ⟨rfl, rfl⟩⟩, .nils, fun W' sp _ _ => ⟨1, by simp [DataW.trod, Value.cells, ht]⟩⟩
  · simp only [List.cons.injEq, Value.slice.injEq, and_true] at hc
    obtain ⟨rfl, rfl, rfl⟩ := hc
    simp only [if_true] at hmm
    subst hmm
    obtain ⟨hd, hp⟩ := Prod.mk.inj hx
    rw [hC] at hel
    have hall : ∀ i, i < m → ∃ x : X, E.ok x ∧ W.cells? 0 (a.add (i * sz)) sz = some (E.vals x) ∧ D i = E.dat x ∧ Pl i = [] := by
      intro i hi
      obtain ⟨cs', h1, h2⟩ := hel i hi
      obtain ⟨_, hln, _⟩ := World.cells?_some h1
      obtain ⟨x, k, rfl, hD, hP⟩ := E.opened hln h2
      exact ⟨x, k, h1, hD, hP⟩
    have hpl : (List.range m).flatMap Pl = [] := by
      rw [List.flatMap_eq_nil_iff]
      intro i hi
      obtain ⟨_, _, _, _, h⟩ := hall i (List.mem_range.1 hi)
      exact h
    obtain ⟨F, hF⟩ := choose_lt hall
    have cellAt : ∀ i k, i < m → k < sz → W.cell? (a.add (i * sz + k)) = (E.vals (F i))[k]? := by
      intro i k hi hk
      obtain ⟨_, _, h3⟩ := World.cells?_some (hF i hi).2.1
      rw [← h3 k hk, add_add]
    have hspot : 0 < m → a.spot = none := by
      intro h0
      have := cellAt 0 0 h0 E.pos
      rw [Nat.zero_mul, show a.add (0 + 0) = a from rfl, List.getElem?_eq_getElem (by rw [E.len]; exact E.pos)] at this
      unfold World.cell? at this
      split at this
      · split at this
        · cases this
        · rename_i h; simpa using h
      · cases this
    have hDF : ∀ i, i < m → D i = E.dat (F i) := fun i hi => (hF i hi).2.2.1
    refine ⟨.list (((List.range len0).map F).map E.av), (List.range len0).map F, .inr rfl, ?_, ⟨(List.range (m - len0)).map fun j => D (len0 + j), .inr ?_⟩, ?_, ?_⟩
    · intro x hx
      obtain ⟨i, hi, rfl⟩ := List.mem_map.1 hx
      exact (hF i (by have := List.mem_range.1 hi; omega)).1
    · rw [hd]
      congr 1
      rw [List.map_map]
      exact List.map_congr_left fun i hi => hDF i (by have := List.mem_range.1 hi; omega)
    · refine .list (rep_flat (E.rep _) _) ?_ (rfL_flat E.rfl' _) (leaf_flat E.leaf _) ?_ (by simp) hl (by omega) (sz := sz)
      · intro x hx
        obtain ⟨z, _, rfl⟩ := List.mem_map.1 hx
        exact E.cells z
      · intro j u hj
        rw [flatMap_get E.pos E.len] at hj
        by_cases hi : j / sz < len0
        · rw [List.getElem?_map, List.getElem?_range hi] at hj
          have hj : (E.vals (F (j / sz)))[j % sz]? = some u := hj
          have hk := cellAt (j / sz) (j % sz) (by omega) (Nat.mod_lt _ E.pos)
          rw [hj, Nat.div_add_mod'] at hk
          have hs := hspot (Nat.lt_of_lt_of_le (Nat.lt_of_le_of_lt (Nat.zero_le _) hi) hl)
          obtain ⟨b, o, s⟩ := a
          subst hs
          refine ⟨b, o, rfl, ?_⟩
          show W.cell? ⟨b, o + j, none⟩ = some u
          rw [← hk]
          unfold Addr.add
          split
          · rename_i h; rw [h]; rfl
          · rfl
        · rw [List.getElem?_eq_none (by simp; omega)] at hj
          cases hj
    · intro W' sp hb hsp
      have each : ∀ i, i < m → ∃ cs n, W'.cells? 0 (a.add (i * P.cellsOf e)) (P.cellsOf e) = some cs ∧ DataW.trod enc P W' 0 sp true n e cs = some (D i, Pl i) := by
        intro i hi
        obtain ⟨h1, h2, h3, h4⟩ := hF i hi
        obtain ⟨n, hn⟩ := E.shut W' sp (F i) h1
        rw [hC]
        exact ⟨_, n, cells_below h2 E.pos hb, by rw [hn, h3, h4]⟩
      rw [hd, hp]
      cases hs : sp a.block with
      | true => exact shut_slice_whole ht (Nat.zero_le _) hl hm hs D Pl each
      | false =>
        have hm0 : m = 0 := by
          rcases Nat.eq_zero_or_pos m with h | h
          · exact h
          · have hmem : MemPlace.cell a.block (a.off + 0) ∈ p := by
              rw [hp, hC]
              exact List.mem_append_left _ (List.mem_map.2 ⟨0, List.mem_range.2 (Nat.mul_pos h E.pos), rfl⟩)
            have := hsp _ hmem
            rw [show (MemPlace.cell a.block (a.off + 0)).block = a.block from rfl, hs] at this
            cases this
        subst hm0
        obtain rfl : len0 = 0 := by omega
        exact shut_slice ht (Nat.zero_le _) hl hm hs D Pl each

/-- A nil slice reads as an empty list. -/
theorem rep_list {X : Type} {f : X → AV} {G : Gh} {y : AV} {xs : List X} {v : Value} (hy : (y = .nils ∧ xs = []) ∨ y = .list (xs.map f)) (h : Rep G y v) : Rep G (.list (xs.map f)) v := by
  rcases hy with ⟨rfl, rfl⟩ | rfl
  · exact h.nn0
  · exact h

/-- Elements that are structs of two numbers. -/
def elTwo {e ti : TypeId} {f0 f1 : Field} (hs : P.underlying e = some (.struct #[f0, f1])) (hone : oneCellFields P #[f0, f1] = true) (hC : P.cellsOf e = 2)
    (hti : P.underlying ti = some (.int .i64)) (hf : f0.type = ti ∧ f1.type = ti) : El enc P e 2 (Int × Int) where
  av o := .agg [.int .i64 o.1, .int .i64 o.2]
  vals o := [.int .i64 o.1, .int .i64 o.2]
  dat o := .agg [.lit (.int .i64 o.1), .lit (.int .i64 o.2)]
  ok o := (Lit.int .i64 o.1).wf = true ∧ (Lit.int .i64 o.2).wf = true
  pos := by decide
  len _ := rfl
  cells _ := rfl
  rfl' _ := rfl
  leaf _ := rfl
  rep _ _ := .cons (.int _ _) (.cons (.int _ _) .nil)
  opened := by
    intro W n cs d pl hlen h
    obtain ⟨xs, n, _, hx, _, hl2, hg⟩ := DataW.trod_struct hs h
    obtain ⟨t0, t1⟩ := hf
    have ho := fun i f => hone_of hone i f
    match cs, hlen, xs, hl2 with
    | [c0, c1], _, [y0, y1], _ =>
      obtain ⟨o0, k0⟩ := ho 0 f0 rfl
      obtain ⟨o1, k1⟩ := ho 1 f1 rfl
      have h0 : DataW.trod enc P W 0 (fun _ => true) true n f0.type [c0] = some y0 := by simpa [o0, k0] using hg 0 f0 rfl
      have h1 : DataW.trod enc P W 0 (fun _ => true) true n f1.type [c1] = some y1 := by simpa [o1, k1] using hg 1 f1 rfl
      rw [t0] at h0
      rw [t1] at h1
      obtain ⟨a, e0, rfl, w0⟩ := DataW.trod_int hti h0
      obtain ⟨b, e1, rfl, w1⟩ := DataW.trod_int hti h1
      simp at e0 e1
      subst e0 e1
      simp only [Prod.mk.injEq] at hx
      exact ⟨(a, b), ⟨w0, w1⟩, rfl, by rw [hx.1]; rfl, by rw [hx.2]; rfl⟩
  shut := by
    intro W sp o ho
    have hint : ∀ n : Int, (Lit.int .i64 n).wf = true → DataW.trod enc P W 0 sp true 1 ti [.int .i64 n] = some (.lit (.int .i64 n), []) := fun n hn => by simp [DataW.trod, hti, hn]
    obtain ⟨t0, t1⟩ := hf
    have hoo := fun i f => hone_of hone i f
    obtain ⟨o0, k0⟩ := hoo 0 f0 rfl
    obtain ⟨o1, k1⟩ := hoo 1 f1 rfl
    have := trod_struct_mk (enc := enc) (w := W) (base := 0) (spare := sp) (held := true) (n := 1) (cs := [.int .i64 o.1, .int .i64 o.2])
      (xs := [(.lit (.int .i64 o.1), []), (.lit (.int .i64 o.2), [])]) hs (by rw [hC]; rfl)
      (by rw [t0] at k0; rw [t1] at k1
          simp [o0, o1, k0, t0, t1, hint _ ho.1, hint _ ho.2])
    exact ⟨_, by simpa using this⟩

end
end Go.Proofs.Ytcmdlmcmefbkeaa.Br

/- Elements that are raw fields: opened and shut. -/
namespace Go.Proofs.Ytcmdlmcmefbkeaa.Br
open Go Am Go.RowKit Go.WideShapes Go.ChangeShapes Go.ChangeAt Go.Joins Go.Deep Go.WideElems Go.Maps Up

instance : Inhabited R := ⟨zr⟩

section
variable {H : Type} {enc : TypeId × Value → H} {P : Program}

def elRaw {e ti tu ts : TypeId} {f0 f1 f2 f3 : Field} (hs : P.underlying e = some (.struct #[f0, f1, f2, f3])) (hone : oneCellFields P #[f0, f1, f2, f3] = true) (hC : P.cellsOf e = 4)
    (hti : P.underlying ti = some (.int .i64)) (htu : P.underlying tu = some (.int .u64)) (hts : P.underlying ts = some .string) (hf : f0.type = ti ∧ f1.type = ti ∧ f2.type = tu ∧ f3.type = ts) : El enc P e 4 R where
  av f := f.av
  vals f := [.int .i64 f.num, .int .i64 f.wire, .int .u64 (f.bits : Nat), .string ⟨⟨f.data⟩⟩]
  dat f := .agg [.lit (.int .i64 f.num), .lit (.int .i64 f.wire), .lit (.int .u64 (f.bits : Nat)), .lit (.string f.data)]
  ok f := (Lit.int .i64 f.num).wf = true ∧ (Lit.int .i64 f.wire).wf = true ∧ (Lit.int .u64 (f.bits : Nat)).wf = true ∧ f.data.length ≤ maxLen
  pos := by decide
  len _ := rfl
  cells _ := rfl
  rfl' _ := rfl
  leaf _ := rfl
  rep _ f := .cons (.int _ _) (.cons (.int _ _) (.cons (.int _ _) (.cons (.str _) .nil)))
  opened := by
    intro W n cs d pl hlen h
    obtain ⟨xs, n, _, hx, _, hl2, hg⟩ := DataW.trod_struct hs h
    obtain ⟨t0, t1, t2, t3⟩ := hf
    have ho := fun i f => hone_of hone i f
    match cs, hlen, xs, hl2 with
    | [c0, c1, c2, c3], _, [y0, y1, y2, y3], _ =>
      obtain ⟨o0, k0⟩ := ho 0 f0 rfl
      obtain ⟨o1, k1⟩ := ho 1 f1 rfl
      obtain ⟨o2, k2⟩ := ho 2 f2 rfl
      obtain ⟨o3, k3⟩ := ho 3 f3 rfl
      have h0 : DataW.trod enc P W 0 (fun _ => true) true n f0.type [c0] = some y0 := by simpa [o0, k0] using hg 0 f0 rfl
      have h1 : DataW.trod enc P W 0 (fun _ => true) true n f1.type [c1] = some y1 := by simpa [o1, k1] using hg 1 f1 rfl
      have h2 : DataW.trod enc P W 0 (fun _ => true) true n f2.type [c2] = some y2 := by simpa [o2, k2] using hg 2 f2 rfl
      have h3 : DataW.trod enc P W 0 (fun _ => true) true n f3.type [c3] = some y3 := by simpa [o3, k3] using hg 3 f3 rfl
      rw [t0] at h0
      rw [t1] at h1
      rw [t2] at h2
      rw [t3] at h3
      obtain ⟨a, e0, rfl, w0⟩ := DataW.trod_int hti h0
      obtain ⟨b, e1, rfl, w1⟩ := DataW.trod_int hti h1
      obtain ⟨u, e2, rfl, w2⟩ := DataW.trod_int htu h2
      obtain ⟨s, e3, rfl, w3⟩ := DataW.trod_string hts h3
      simp at e0 e1 e2 e3
      subst e0 e1 e2 e3
      simp only [Prod.mk.injEq] at hx
      obtain ⟨u, rfl⟩ := Int.eq_ofNat_of_zero_le (u64_lo w2)
      obtain ⟨⟨s⟩⟩ := s
      exact ⟨⟨a, b, u, s⟩, ⟨w0, w1, w2, w3⟩, rfl, by rw [hx.1]; rfl, by rw [hx.2]; rfl⟩
  shut := by
    intro W sp o ho
    have hint : ∀ n : Int, (Lit.int .i64 n).wf = true → DataW.trod enc P W 0 sp true 1 ti [.int .i64 n] = some (.lit (.int .i64 n), []) := fun n hn => by simp [DataW.trod, hti, hn]
    have hu : ∀ n : Int, (Lit.int .u64 n).wf = true → DataW.trod enc P W 0 sp true 1 tu [.int .u64 n] = some (.lit (.int .u64 n), []) := fun n hn => by simp [DataW.trod, htu, hn]
    have hstr : DataW.trod enc P W 0 sp true 1 ts [.string ⟨⟨o.data⟩⟩] = some (.lit (.string o.data), []) := by
      have : (ByteArray.mk ⟨o.data⟩).size ≤ maxLen := ho.2.2.2
      simp [DataW.trod, hts, this]
    obtain ⟨t0, t1, t2, t3⟩ := hf
    have hoo := fun i f => hone_of hone i f
    obtain ⟨o0, k0⟩ := hoo 0 f0 rfl
    obtain ⟨o1, k1⟩ := hoo 1 f1 rfl
    obtain ⟨o2, k2⟩ := hoo 2 f2 rfl
    obtain ⟨o3, k3⟩ := hoo 3 f3 rfl
    have := trod_struct_mk (enc := enc) (w := W) (base := 0) (spare := sp) (held := true) (n := 1) (cs := [.int .i64 o.num, .int .i64 o.wire, .int .u64 (o.bits : Nat), .string ⟨⟨o.data⟩⟩])
      (xs := [(.lit (.int .i64 o.num), []), (.lit (.int .i64 o.wire), []), (.lit (.int .u64 (o.bits : Nat)), []), (.lit (.string o.data), [])]) hs (by rw [hC]; rfl)
      (by rw [t0] at k0; rw [t1] at k1; rw [t2] at k2; rw [t3] at k3
          simp [o0, o1, o2, o3, k0, k2, k3, t0, t1, t2, t3, hint _ ho.1, hint _ ho.2.1, hu _ ho.2.2.1, hstr])
    exact ⟨_, by simpa using this⟩

end
end Go.Proofs.Ytcmdlmcmefbkeaa.Br

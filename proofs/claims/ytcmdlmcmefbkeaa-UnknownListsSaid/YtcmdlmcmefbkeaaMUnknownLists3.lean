/- Parts of the proof, in order. -/
import Derived.Test.YtcmdlmcmefbkeaaMUnknownLists2

/- Eight bytes: written and read. -/
set_option linter.unusedSimpArgs false
namespace Go.Proofs.Ytcmdlmcmefbkeaa.Va
open Go Am Rc Bt Vp Cp

/-- The eight bytes of a number. -/
def fx : Nat → Nat → List UInt8
  | 0, _ => []
  | k + 1, u => UInt8.ofNat (u % 256) :: fx k (u / 256)

theorem fx_len (k u : Nat) : (fx k u).length = k := by
  induction k generalizing u with
  | zero => rfl
  | succ k ih => simp [fx, ih]

theorem fx_snoc (k u : Nat) : fx (k + 1) u = fx k u ++ [UInt8.ofNat (u / 256 ^ k % 256)] := by
  induction k generalizing u with
  | zero => simp [fx]
  | succ k ih =>
    rw [fx, ih (u / 256)]
    simp only [fx, List.cons_append, Nat.div_div_eq_div_mul, Nat.pow_succ, Nat.mul_comm]

theorem fx_read : ∀ (k u : Nat), u < 256 ^ k → (fx k u).foldr (fun b v => 256 * v + b.toNat) 0 = u
  | 0, u, h => by simp at h; simp [fx, h]
  | k + 1, u, h => by
    rw [fx, List.foldr_cons, fx_read k (u / 256) (by rw [Nat.pow_succ] at h; omega), toNat_ofNat _ (by omega)]
    omega

theorem fix8_fx (u : Nat) (t : List UInt8) (h : u < 2 ^ 64) : fix8 (fx 8 u ++ t) = u := by
  unfold fix8
  rw [List.take_left' (fx_len 8 u)]
  exact fx_read 8 u (by have : (256 : Nat) ^ 8 = 2 ^ 64 := by decide
                        omega)

/-- The number of the first bytes. -/
def lo8 (s : List UInt8) : Nat → Nat
  | 0 => 0
  | k + 1 => lo8 s k + ((s[k]?).getD 0).toNat * 256 ^ k

theorem lo8_lt (s : List UInt8) (k : Nat) : lo8 s k < 256 ^ k := by
  induction k with
  | zero => exact Nat.one_pos
  | succ k ih =>
    have h1 := ((s[k]?).getD 0).toNat_lt
    have h2 : ((s[k]?).getD 0).toNat * 256 ^ k ≤ 255 * 256 ^ k := Nat.mul_le_mul_right _ (by omega)
    rw [lo8, Nat.pow_succ]
    omega

theorem foldr_app (b : UInt8) : ∀ (l : List UInt8) (z : Nat), l.foldr (fun b v => 256 * v + b.toNat) z = l.foldr (fun b v => 256 * v + b.toNat) 0 + z * 256 ^ l.length
  | [], z => by simp
  | a :: l, z => by
    rw [List.foldr_cons, List.foldr_cons, foldr_app b l z, List.length_cons, Nat.pow_succ]
    rw [Nat.mul_add, ← Nat.mul_assoc, Nat.mul_comm 256 z, Nat.mul_assoc z, Nat.mul_comm 256 (256 ^ _)]
    omega

theorem lo8_take (s : List UInt8) : ∀ (k : Nat), k ≤ s.length → (s.take k).foldr (fun b v => 256 * v + b.toNat) 0 = lo8 s k
  | 0, _ => rfl
  | k + 1, h => by
    rw [List.take_succ_eq_append_getElem (by omega), List.foldr_append, List.foldr_cons, List.foldr_nil, foldr_app 0, lo8_take s k (by omega), lo8]
    rw [List.getElem?_eq_getElem (by omega), List.length_take, Nat.min_eq_left (by omega)]
    simp

theorem fix8_lo8 (s : List UInt8) (h : 8 ≤ s.length) : fix8 s = lo8 s 8 := lo8_take s 8 h

/-- Added from the top down. -/
theorem foldr_drop (s : List UInt8) (k : Nat) (h : k < s.length) (hk : k < 8) : ((s.take 8).drop k).foldr (fun b v => 256 * v + b.toNat) 0 = 256 * ((s.take 8).drop (k + 1)).foldr (fun b v => 256 * v + b.toNat) 0 + ((s[k]?).getD 0).toNat := by
  have hl : k < (s.take 8).length := by simp; omega
  rw [List.drop_eq_getElem_cons hl, List.foldr_cons]
  rw [List.getElem?_eq_getElem h]
  simp

def TakeFixedI (s : List UInt8) (k : Nat) (st : St) : Prop :=
  ∃ f i, st = ⟨f, [noObs], []⟩ ∧ k = 8 - i ∧ i ≤ 8 ∧ f 0 = .str s ∧ f 4 = .int .u64 (lo8 s i : Nat) ∧ f 9 = .int .i64 (i : Nat)

theorem add_byte (s : List UInt8) (i : Nat) (c : UInt8) (hi : i < 8) (hc : s[i]? = some c) :
    bits .or .u64 (lo8 s i : Int) (IntKind.u64.wrap (IntKind.u64.wrap (c.toNat : Int) * 2 ^ min (IntKind.i64.wrap (8 * (i : Int))).toNat 64)) = (lo8 s (i + 1) : Nat) := by
  have e1 : IntKind.i64.wrap (8 * (i : Int)) = ((8 * i : Nat) : Int) := by rw [wi64]; omega
  have hp : 256 ^ i = 2 ^ (8 * i) := by rw [Nat.pow_mul]
  have hcl := c.toNat_lt
  have hlt := lo8_lt s (i + 1)
  have hlt0 := lo8_lt s i
  rw [lo8, hc] at hlt
  simp only [Option.getD_some] at hlt
  have h8 : 256 ^ (i + 1) ≤ 256 ^ 8 := Nat.pow_le_pow_right (by omega) (by omega)
  have h88 : (256 : Nat) ^ 8 = 18446744073709551616 := by decide
  have e2 : IntKind.u64.wrap (c.toNat : Int) = (c.toNat : Int) := by rw [wu64]; omega
  have e3 : IntKind.u64.wrap ((c.toNat : Int) * 2 ^ (8 * i)) = ((c.toNat * 256 ^ i : Nat) : Int) := by
    have : ((c.toNat * 2 ^ (8 * i) : Nat) : Int) = (c.toNat : Int) * 2 ^ (8 * i) := by push_cast; rfl
    rw [wu64, ← this, hp]
    rw [hp] at hlt
    omega
  rw [e1, Int.toNat_natCast, Nat.min_eq_left (by omega), e2, e3, or_u64 _ _ (by omega) (by omega), lo8, hc]
  congr 1
  rw [hp] at hlt0 ⊢
  have := Nat.two_pow_add_eq_or_of_lt hlt0 c.toNat
  simp only [Option.getD_some]
  rw [Nat.or_comm, Nat.mul_comm c.toNat, ← this, Nat.add_comm]

/-- What reading eight bytes gives. -/
def tkf (s : List UInt8) : AV := if s.length < 8 then .tup [.int .u64 0, .int .i64 4] else .tup [.int .u64 (fix8 s : Nat), .int .i64 0]

theorem c67 (s : List UInt8) : Fn1 Try.prog 67 [.str s] (tkf s) := by
  refine fn1_of_awp (rc := r67) (rs := o67) Try.func67 rfl rfl Try.ntmps67 k67 q67 (by simp) ?_
  simp only [g67_0, g67_1, g67_2, g67_3, g67_4, g67_5, g67_6, g67_7, g67_8, g67_9, r67, o67, eES, eEX, Nat.reduceBEq, Int.reduceLE, Int.reduceLT, Int.reduceToNat, Int.reduceEq, ↓reduceIte, reduceCtorEq, Nat.reducePow, Nat.reduceAdd, Nat.reduceLeDiff, Nat.reduceLT, Nat.reduceSub, Nat.reduceEqDiff]
  refine csel_of (fun h => ?_) (fun h => ?_)
  · have h : s.length < 8 := by have h : (s.length : Int) < 8 := by simpa using h
                                omega
    simp only [tkf, h, eES, eEX, Nat.reduceBEq, Int.reduceLE, Int.reduceLT, Int.reduceToNat, Int.reduceEq, ↓reduceIte, reduceCtorEq, Nat.reducePow, Nat.reduceAdd, Nat.reduceLeDiff, Nat.reduceLT, Nat.reduceSub, Nat.reduceEqDiff]
  · have h : ¬ s.length < 8 := by have h : ¬ (s.length : Int) < 8 := by simpa using h
                                  omega
    simp only [eES, eEX, Nat.reduceBEq, Int.reduceLE, Int.reduceLT, Int.reduceToNat, Int.reduceEq, ↓reduceIte, reduceCtorEq, Nat.reducePow, Nat.reduceAdd, Nat.reduceLeDiff, Nat.reduceLT, Nat.reduceSub, Nat.reduceEqDiff]
    refine awp_loop (TakeFixedI s) _ ⟨_, 0, rfl, rfl, by omega, rfl, rfl, rfl⟩ ?_
    rintro n st ⟨f, i, rfl, rfl, hi, h0, h4, h9⟩
    simp only [l67_0, g67_0, g67_1, g67_2, g67_3, g67_4, g67_5, g67_6, g67_7, g67_8, g67_9, r67, o67, h0, h4, h9, eES, eEX, Nat.reduceBEq, Int.reduceLE, Int.reduceLT, Int.reduceToNat, Int.reduceEq, ↓reduceIte, reduceCtorEq, Nat.reducePow, Nat.reduceAdd, Nat.reduceLeDiff, Nat.reduceLT, Nat.reduceSub, Nat.reduceEqDiff]
    refine csel_of (fun hc => ?_) (fun hc => ?_)
    · have hc : i < 8 := by have hc : (i : Int) < 8 := by simpa using hc
                            omega
      have n0 : (0 ≤ (i : Int)) = True := by simp
      obtain ⟨b, hb⟩ : ∃ b, s[i]? = some b := ⟨s[i], List.getElem?_eq_getElem (by omega)⟩
      have e1 : IntKind.i64.wrap ((i : Int) + 1) = ((i + 1 : Nat) : Int) := by rw [wi64]; omega
      have e0 : IntKind.i64.wrap (8 * (i : Int)) = ((8 * i : Nat) : Int) := by rw [wi64]; omega
      have n8 : (0 ≤ IntKind.i64.wrap (8 * (i : Int))) = True := eq_true (by rw [e0]; omega)
      have ha := add_byte s i b hc hb
      simp only [n0, Int.toNat_natCast, hb, n8, ha, e1, h0, h4, h9, eES, eEX, Nat.reduceBEq, Int.reduceLE, Int.reduceLT, Int.reduceToNat, Int.reduceEq, ↓reduceIte, reduceCtorEq, Nat.reducePow, Nat.reduceAdd, Nat.reduceLeDiff, Nat.reduceLT, Nat.reduceSub, Nat.reduceEqDiff]
      exact ⟨8 - (i + 1), by omega, _, i + 1, rfl, rfl, by omega, by simp only [h0, eES, eEX, Nat.reduceBEq, Int.reduceLE, Int.reduceLT, Int.reduceToNat, Int.reduceEq, ↓reduceIte, reduceCtorEq, Nat.reducePow, Nat.reduceAdd, Nat.reduceLeDiff, Nat.reduceLT, Nat.reduceSub, Nat.reduceEqDiff], by simp only [eES, eEX, Nat.reduceBEq, Int.reduceLE, Int.reduceLT, Int.reduceToNat, Int.reduceEq, ↓reduceIte, reduceCtorEq, Nat.reducePow, Nat.reduceAdd, Nat.reduceLeDiff, Nat.reduceLT, Nat.reduceSub, Nat.reduceEqDiff], by simp only [eES, eEX, Nat.reduceBEq, Int.reduceLE, Int.reduceLT, Int.reduceToNat, Int.reduceEq, ↓reduceIte, reduceCtorEq, Nat.reducePow, Nat.reduceAdd, Nat.reduceLeDiff, Nat.reduceLT, Nat.reduceSub, Nat.reduceEqDiff]⟩
    · have hc : i = 8 := by have hc : ¬ (i : Int) < 8 := by simpa using hc
                            omega
      subst hc
      simp only [h0, h4, h9, eES, eEX, Nat.reduceBEq, Int.reduceLE, Int.reduceLT, Int.reduceToNat, Int.reduceEq, ↓reduceIte, reduceCtorEq, Nat.reducePow, Nat.reduceAdd, Nat.reduceLeDiff, Nat.reduceLT, Nat.reduceSub, Nat.reduceEqDiff]
      rw [tkf, if_neg h, fix8_lo8 s (by omega)]

theorem c58 (c : C) (hl : c.d.length ≤ 9223372036854770000) : Fn1 Try.prog 58 [c.av] (ncav c.fixed) := by
  refine fn1_of_awp (rc := r58) (rs := o58) Try.func58 rfl rfl Try.ntmps58 k58 q58 (by simp) ?_
  simp only [g58_0, g58_1, g58_2, g58_3, g58_4, r58, o58, C.av, eES, eEX, Nat.reduceBEq, Int.reduceLE, Int.reduceLT, Int.reduceToNat, Int.reduceEq, ↓reduceIte, reduceCtorEq, Nat.reducePow, Nat.reduceAdd, Nat.reduceLeDiff, Nat.reduceLT, Nat.reduceSub, Nat.reduceEqDiff]
  refine aops_call (c53 c 8 (by omega) hl) rfl rfl rfl (.inl rfl) ?_
  have h8 : fix8 (c.rest.take 8) = fix8 c.rest := by simp [fix8, List.take_take]
  have hlen : (c.rest.take 8).length < 8 ↔ c.rest.length < 8 := by simp; omega
  by_cases h : c.rest.length < 8
  · have ht := c67 (c.rest.take 8)
    rw [tkf, if_pos (hlen.2 h)] at ht
    refine aops_call ht rfl rfl rfl (.inl rfl) ?_
    simp only [show (((4 : Int) != 0) = true) from rfl, C.fixed, ncav, h, C.av, eES, eEX, Nat.reduceBEq, Int.reduceLE, Int.reduceLT, Int.reduceToNat, Int.reduceEq, ↓reduceIte, reduceCtorEq, Nat.reducePow, Nat.reduceAdd, Nat.reduceLeDiff, Nat.reduceLT, Nat.reduceSub, Nat.reduceEqDiff]
    rfl
  · have ht := c67 (c.rest.take 8)
    rw [tkf, if_neg (fun h' => h (hlen.1 h')), h8] at ht
    refine aops_call ht rfl rfl rfl (.inl rfl) ?_
    simp only [bne_self_eq_false, eES, eEX, Nat.reduceBEq, Int.reduceLE, Int.reduceLT, Int.reduceToNat, Int.reduceEq, ↓reduceIte, reduceCtorEq, Nat.reducePow, Nat.reduceAdd, Nat.reduceLeDiff, Nat.reduceLT, Nat.reduceSub, Nat.reduceEqDiff]
    refine aops_call (c54 c 8) rfl rfl rfl (.inl rfl) ?_
    simp only [ncav, C.fixed, h, C.av, C.ahead, eES, eEX, Nat.reduceBEq, Int.reduceLE, Int.reduceLT, Int.reduceToNat, Int.reduceEq, ↓reduceIte, reduceCtorEq, Nat.reducePow, Nat.reduceAdd, Nat.reduceLeDiff, Nat.reduceLT, Nat.reduceSub, Nat.reduceEqDiff]
    rfl

theorem foldr_lt : ∀ (l : List UInt8), l.foldr (fun b v => 256 * v + b.toNat) 0 < 256 ^ l.length
  | [] => by simp
  | b :: l => by
    have h := foldr_lt l
    have hb := b.toNat_lt
    rw [List.foldr_cons, List.length_cons, Nat.pow_succ]
    omega

/-- The number of the bytes from the i-th on. -/
def hi8 (s : List UInt8) (i : Nat) : Nat := ((s.take 8).drop i).foldr (fun b v => 256 * v + b.toNat) 0

theorem hi8_step (s : List UInt8) (i : Nat) (hi : i < 8) (hs : 8 ≤ s.length) (c : UInt8) (hc : s[i]? = some c) : IntKind.u64.wrap (IntKind.u64.wrap ((hi8 s (i + 1) : Nat) * 256 : Int) + IntKind.u64.wrap (c.toNat : Int)) = ((hi8 s i : Nat) : Int) ∧ IntKind.u64.wrap (IntKind.u64.wrap (256 * (hi8 s (i + 1) : Nat) : Int) + IntKind.u64.wrap (c.toNat : Int)) = ((hi8 s i : Nat) : Int) := by
  have h := foldr_drop s i (by omega) hi
  rw [hc] at h
  simp only [Option.getD_some] at h
  have h : hi8 s i = 256 * hi8 s (i + 1) + c.toNat := h
  have hlt : hi8 s i < 256 ^ (8 - i) := by
    have := foldr_lt ((s.take 8).drop i)
    rw [List.length_drop, List.length_take, Nat.min_eq_left hs] at this
    exact this
  have h8 : 256 ^ (8 - i) ≤ 256 ^ 8 := Nat.pow_le_pow_right (by omega) (by omega)
  have h88 : (256 : Nat) ^ 8 = 18446744073709551616 := by decide
  have hcl := c.toNat_lt
  constructor <;> (simp only [wu64]; omega)

def RFixedI (s : List UInt8) (fr : Nat → Ob) (k : Nat) (st : St) : Prop :=
  ∃ f, ∃ i : Nat, st = ⟨f, [fr], []⟩ ∧ k = i ∧ i ≤ 8 ∧ f 1 = .ptr 0 1 0 ∧ f 3 = .ptr 0 3 0 ∧ f 5 = .str s ∧ f 6 = .int .u64 (hi8 s i : Nat) ∧ f 7 = .int .i64 ((i : Int) - 1)

theorem c60 (c : C) : Fn1 Try.prog 60 [c.av] (ncav c.fixed) := by
  refine fn1_of_awp (rc := r60) (rs := o60) Try.func60 rfl rfl Try.ntmps60 k60 q60 (by simp) ?_
  simp only [g60_0, g60_1, g60_2, g60_3, g60_4, g60_5, g60_6, g60_8, g60_7, g60_9, r60, o60, C.av, eES, eEX, Nat.reduceBEq, Int.reduceLE, Int.reduceLT, Int.reduceToNat, Int.reduceEq, ↓reduceIte, reduceCtorEq, Nat.reducePow, Nat.reduceAdd, Nat.reduceLeDiff, Nat.reduceLT, Nat.reduceSub, Nat.reduceEqDiff]
  refine aops_call (c56 c) rfl rfl rfl (.inl rfl) ?_
  simp only [eES, eEX, Nat.reduceBEq, Int.reduceLE, Int.reduceLT, Int.reduceToNat, Int.reduceEq, ↓reduceIte, reduceCtorEq, Nat.reducePow, Nat.reduceAdd, Nat.reduceLeDiff, Nat.reduceLT, Nat.reduceSub, Nat.reduceEqDiff]
  refine csel_of (fun h => ?_) (fun h => ?_)
  · have h : c.rest.length < 8 := by have h : (c.rest.length : Int) < 8 := by simpa using h
                                     omega
    simp only [C.fixed, ncav, h, C.av, eES, eEX, Nat.reduceBEq, Int.reduceLE, Int.reduceLT, Int.reduceToNat, Int.reduceEq, ↓reduceIte, reduceCtorEq, Nat.reducePow, Nat.reduceAdd, Nat.reduceLeDiff, Nat.reduceLT, Nat.reduceSub, Nat.reduceEqDiff]
    rfl
  · have h : ¬ c.rest.length < 8 := by have h : ¬ (c.rest.length : Int) < 8 := by simpa using h
                                       omega
    simp only [eES, eEX, Nat.reduceBEq, Int.reduceLE, Int.reduceLT, Int.reduceToNat, Int.reduceEq, ↓reduceIte, reduceCtorEq, Nat.reducePow, Nat.reduceAdd, Nat.reduceLeDiff, Nat.reduceLT, Nat.reduceSub, Nat.reduceEqDiff]
    refine awp_loop (RFixedI c.rest _) _ ⟨_, 8, rfl, rfl, by omega, rfl, rfl, rfl, ?_, rfl⟩ ?_
    · simp [hi8, eEV, Nat.reduceBEq, Int.reduceLE, Int.reduceLT, Int.reduceToNat, Int.reduceEq, ↓reduceIte, reduceCtorEq, Nat.reducePow]
    rintro n st ⟨f, i, rfl, rfl, hi, h1, h3, h5, h6, h7⟩
    simp only [l60_0, g60_0, g60_1, g60_2, g60_3, g60_4, g60_5, g60_6, g60_8, g60_7, g60_9, r60, o60, h1, h3, h5, h6, h7, eES, eEX, Nat.reduceBEq, Int.reduceLE, Int.reduceLT, Int.reduceToNat, Int.reduceEq, ↓reduceIte, reduceCtorEq, Nat.reducePow, Nat.reduceAdd, Nat.reduceLeDiff, Nat.reduceLT, Nat.reduceSub, Nat.reduceEqDiff]
    refine csel_of (fun hc => ?_) (fun hc => ?_)
    · have hc : 1 ≤ n := by have hc : (0 : Int) ≤ (n : Int) - 1 := by simpa using hc
                            omega
      obtain ⟨i, rfl⟩ : ∃ i, n = i + 1 := ⟨n - 1, by omega⟩
      have e0 : (((i + 1 : Nat) : Int) - 1) = (i : Int) := by omega
      have n0 : (0 ≤ (i : Int)) = True := by simp
      obtain ⟨b, hb⟩ : ∃ b, c.rest[i]? = some b := ⟨c.rest[i], List.getElem?_eq_getElem (by omega)⟩
      have e1 : IntKind.i64.wrap ((i : Int) - 1) = (i : Int) - 1 := by rw [wi64]; omega
      have ha := (hi8_step c.rest i (by omega) (by omega) b hb).1
      simp only [e0, n0, Int.toNat_natCast, hb, ha, e1, h1, h3, h5, h6, h7, eES, eEX, Nat.reduceBEq, Int.reduceLE, Int.reduceLT, Int.reduceToNat, Int.reduceEq, ↓reduceIte, reduceCtorEq, Nat.reducePow, Nat.reduceAdd, Nat.reduceLeDiff, Nat.reduceLT, Nat.reduceSub, Nat.reduceEqDiff]
      exact ⟨i, by omega, _, i, rfl, rfl, by omega, by simp only [h1, eES, eEX, Nat.reduceBEq, Int.reduceLE, Int.reduceLT, Int.reduceToNat, Int.reduceEq, ↓reduceIte, reduceCtorEq, Nat.reducePow, Nat.reduceAdd, Nat.reduceLeDiff, Nat.reduceLT, Nat.reduceSub, Nat.reduceEqDiff], by simp only [h3, eES, eEX, Nat.reduceBEq, Int.reduceLE, Int.reduceLT, Int.reduceToNat, Int.reduceEq, ↓reduceIte, reduceCtorEq, Nat.reducePow, Nat.reduceAdd, Nat.reduceLeDiff, Nat.reduceLT, Nat.reduceSub, Nat.reduceEqDiff], by simp only [h5, eES, eEX, Nat.reduceBEq, Int.reduceLE, Int.reduceLT, Int.reduceToNat, Int.reduceEq, ↓reduceIte, reduceCtorEq, Nat.reducePow, Nat.reduceAdd, Nat.reduceLeDiff, Nat.reduceLT, Nat.reduceSub, Nat.reduceEqDiff], by simp only [eES, eEX, Nat.reduceBEq, Int.reduceLE, Int.reduceLT, Int.reduceToNat, Int.reduceEq, ↓reduceIte, reduceCtorEq, Nat.reducePow, Nat.reduceAdd, Nat.reduceLeDiff, Nat.reduceLT, Nat.reduceSub, Nat.reduceEqDiff], by simp only [eES, eEX, Nat.reduceBEq, Int.reduceLE, Int.reduceLT, Int.reduceToNat, Int.reduceEq, ↓reduceIte, reduceCtorEq, Nat.reducePow, Nat.reduceAdd, Nat.reduceLeDiff, Nat.reduceLT, Nat.reduceSub, Nat.reduceEqDiff]⟩
    · have hc : n = 0 := by have hc : ¬ (0 : Int) ≤ (n : Int) - 1 := by simpa using hc
                            omega
      subst hc
      simp only [h1, h3, h5, h6, h7, eES, eEX, Nat.reduceBEq, Int.reduceLE, Int.reduceLT, Int.reduceToNat, Int.reduceEq, ↓reduceIte, reduceCtorEq, Nat.reducePow, Nat.reduceAdd, Nat.reduceLeDiff, Nat.reduceLT, Nat.reduceSub, Nat.reduceEqDiff]
      refine aops_call (c57 c 8) rfl rfl rfl (.inl rfl) ?_
      simp only [ncav, C.fixed, h, C.av, C.ahead, h1, h3, h5, h6, h7, eES, eEX, Nat.reduceBEq, Int.reduceLE, Int.reduceLT, Int.reduceToNat, Int.reduceEq, ↓reduceIte, reduceCtorEq, Nat.reducePow, Nat.reduceAdd, Nat.reduceLeDiff, Nat.reduceLT, Nat.reduceSub, Nat.reduceEqDiff]
      rfl

end Go.Proofs.Ytcmdlmcmefbkeaa.Va

/- Raw fields, as plain data: what each function of the package computes. -/
namespace Go.Proofs.Ytcmdlmcmefbkeaa.Up
open Go Am Bt Vp Cp

/-- A raw field. -/
structure R where
  num : Int
  wire : Int
  bits : Nat
  data : List UInt8
  deriving DecidableEq

def R.av (f : R) : AV := .agg [.int .i64 f.num, .int .i64 f.wire, .int .u64 (f.bits : Nat), .str f.data]
def zr : R := ⟨0, 0, 0, []⟩

def tag (num wire : Int) : List UInt8 × Nat :=
  if num < 1 ∨ 65535 < num ∨ wire < 0 ∨ 6 < wire then ([], 6) else (Vp.put (num * 8 + wire).toNat, 0)
def tagv (r : List UInt8 × Nat) : AV := .tup [.str r.1, .int .i64 (r.2 : Nat)]

def takeTag (c : C) : Int × Int × C × Nat :=
  let r := c.varint
  if r.2.2 = 0 then
    if r.1 % 8 = 7 then (0, 0, c, 5) else if r.1 / 8 < 1 ∨ 65535 < r.1 / 8 then (0, 0, c, 6) else ((r.1 / 8 : Nat), (r.1 % 8 : Nat), r.2.1, 0)
  else (0, 0, c, r.2.2)
def ttv (r : Int × Int × C × Nat) : AV := .tup [.int .i64 r.1, .int .i64 r.2.1, r.2.2.1.av, .int .i64 (r.2.2.2 : Nat)]

def number (wire : Int) : Bool := wire == 0 || wire == 1 || wire == 2

/-- A length and as many bytes. -/
def dat (c : C) (wire : Int) : List UInt8 × C × Nat :=
  let r := c.varint
  if r.2.2 = 0 then
    if r.2.1.left < (r.1 : Int) then ([], c, 4)
    else if (if wire = 3 then c.tx else 65536) < (r.1 : Int) then ([], c, 3)
    else ((r.2.1.d.drop r.2.1.a.toNat).take r.1, r.2.1.ahead r.1, 0)
  else ([], c, r.2.2)
def datv (r : List UInt8 × C × Nat) : AV := .tup [.str r.1, r.2.1.av, .int .i64 (r.2.2 : Nat)]

/-- The contents of a field. -/
def cont (c : C) (f : R) : R × C × Nat :=
  if f.wire = 2 then ({ f with bits := c.fixed.1 }, c.fixed.2.1, c.fixed.2.2)
  else if f.wire = 0 ∨ f.wire = 1 then ({ f with bits := c.varint.1 }, c.varint.2.1, c.varint.2.2)
  else ({ f with data := (dat c f.wire).1 }, (dat c f.wire).2.1, (dat c f.wire).2.2)

/-- A raw field read at a cursor. -/
def nxt (c : C) : R × C × Nat :=
  let t := takeTag c
  if t.2.2.2 = 0 then
    let s := t.2.2.1.spend 1
    if s.2 = 0 then
      let k := cont s.1 { num := t.1, wire := t.2.1, bits := 0, data := [] }
      if k.2.2 = 0 then k else (zr, c, k.2.2)
    else (zr, c, s.2)
  else (zr, c, t.2.2.2)
def nxtv (r : R × C × Nat) : AV := .tup [r.1.av, r.2.1.av, .int .i64 (r.2.2 : Nat)]

theorem rest_snd {c : C} (h : c.rest ≠ []) : c.sound = true := by
  cases hs : c.sound with
  | true => rfl
  | false => exact absurd (C.rest_no hs) h

/-- Behind a number that was read the cursor is sound. -/
theorem varint_next {c : C} (hl : c.d.length ≤ 9223372036854775807) (h : c.varint.2.2 = 0) : ∃ n : Nat, 0 < n ∧ n ≤ 10 ∧ (n : Int) ≤ c.left ∧ c.varint.2.1 = { c with a := c.a + n } ∧ c.sound = true ∧ c.varint.2.1.sound = true ∧ c.varint.1 < 2 ^ 64 := by
  unfold C.varint at h ⊢
  have hb := take_bounds c.rest
  generalize Vp.take c.rest = r at h hb ⊢
  obtain ⟨u, n, e⟩ := r
  simp only at h hb ⊢
  split at h
  · rename_i he
    subst he
    obtain ⟨h1, h2, h3, h4⟩ := hb rfl
    have hne : c.rest ≠ [] := by intro e; rw [e] at h2; simp at h2; omega
    have hs := rest_snd hne
    have hs' := (C.sound_iff c).1 hs
    have hle := c.rest_len
    rw [if_pos hs] at hle
    have hw : IntKind.i64.wrap (c.a + (n : Int)) = c.a + n := by
      have : (n : Int) ≤ c.left := by unfold C.left; omega
      rw [wi64]; omega
    have hnl : (n : Int) ≤ c.left := by unfold C.left; omega
    refine ⟨n, h1, h3, hnl, ?_, hs, ?_, ?_⟩
    · rw [if_pos rfl]; simp only [C.ahead, hw]
    · rw [if_pos rfl]
      rw [C.sound_iff]
      simp only [C.ahead, hw]
      omega
    · rw [if_pos rfl]; exact h4
  · rename_i he; exact absurd h he

end Go.Proofs.Ytcmdlmcmefbkeaa.Up

/- Raw fields: tags, lengths, contents. -/
set_option linter.unusedSimpArgs false
namespace Go.Proofs.Ytcmdlmcmefbkeaa.Va
open Go Am Rc Bt Vp Cp Up

theorem c42 (w : Int) : Fn1 Try.prog 42 [.int .i64 w] (.bool (number w)) := by
  refine fn1_of_awp (rc := r42) (rs := o42) Try.func42 rfl rfl Try.ntmps42 k42 q42 (by simp) ?_
  simp only [g42_0, g42_1, r42, o42, eES, eEX, Nat.reduceBEq, Int.reduceLE, Int.reduceLT, Int.reduceToNat, Int.reduceEq, ↓reduceIte, reduceCtorEq, Nat.reducePow, Nat.reduceAdd, Nat.reduceLeDiff, Nat.reduceLT, Nat.reduceSub, Nat.reduceEqDiff]
  repeat' (first | (refine csel_of (fun h => ?_) (fun h => ?_) <;> simp only [h, eES, eEX, Nat.reduceBEq, Int.reduceLE, Int.reduceLT, Int.reduceToNat, Int.reduceEq, ↓reduceIte, reduceCtorEq, Nat.reducePow, Nat.reduceAdd, Nat.reduceLeDiff, Nat.reduceLT, Nat.reduceSub, Nat.reduceEqDiff]) | (refine gsel_t (fun h => ?_) (fun h => ?_) <;> simp only [h, updO, eES, eEX, Nat.reduceBEq, Int.reduceLE, Int.reduceLT, Int.reduceToNat, Int.reduceEq, ↓reduceIte, reduceCtorEq, Nat.reducePow, Nat.reduceAdd, Nat.reduceLeDiff, Nat.reduceLT, Nat.reduceSub, Nat.reduceEqDiff]) | (refine gsel_f (fun h => ?_) (fun h => ?_) <;> simp only [h, updO, eES, eEX, Nat.reduceBEq, Int.reduceLE, Int.reduceLT, Int.reduceToNat, Int.reduceEq, ↓reduceIte, reduceCtorEq, Nat.reducePow, Nat.reduceAdd, Nat.reduceLeDiff, Nat.reduceLT, Nat.reduceSub, Nat.reduceEqDiff]))
  all_goals simp_all [number]

theorem c46 (w : Int) : Fn1 Try.prog 46 [.int .i64 w] (.bool (number w)) := by
  refine fn1_of_awp (rc := r46) (rs := o46) Try.func46 rfl rfl Try.ntmps46 k46 q46 (by simp) ?_
  simp only [g46_0, g46_1, r46, o46, eES, eEX, Nat.reduceBEq, Int.reduceLE, Int.reduceLT, Int.reduceToNat, Int.reduceEq, ↓reduceIte, reduceCtorEq, Nat.reducePow, Nat.reduceAdd, Nat.reduceLeDiff, Nat.reduceLT, Nat.reduceSub, Nat.reduceEqDiff]
  repeat' (first | (refine csel_of (fun h => ?_) (fun h => ?_) <;> simp only [h, eES, eEX, Nat.reduceBEq, Int.reduceLE, Int.reduceLT, Int.reduceToNat, Int.reduceEq, ↓reduceIte, reduceCtorEq, Nat.reducePow, Nat.reduceAdd, Nat.reduceLeDiff, Nat.reduceLT, Nat.reduceSub, Nat.reduceEqDiff]) | (refine gsel_t (fun h => ?_) (fun h => ?_) <;> simp only [h, updO, eES, eEX, Nat.reduceBEq, Int.reduceLE, Int.reduceLT, Int.reduceToNat, Int.reduceEq, ↓reduceIte, reduceCtorEq, Nat.reducePow, Nat.reduceAdd, Nat.reduceLeDiff, Nat.reduceLT, Nat.reduceSub, Nat.reduceEqDiff]) | (refine gsel_f (fun h => ?_) (fun h => ?_) <;> simp only [h, updO, eES, eEX, Nat.reduceBEq, Int.reduceLE, Int.reduceLT, Int.reduceToNat, Int.reduceEq, ↓reduceIte, reduceCtorEq, Nat.reducePow, Nat.reduceAdd, Nat.reduceLeDiff, Nat.reduceLT, Nat.reduceSub, Nat.reduceEqDiff]))
  all_goals simp_all [number]

theorem tag_arith {n w : Int} (h : ¬ (n < 1 ∨ 65535 < n ∨ w < 0 ∨ 6 < w)) : IntKind.u64.wrap (IntKind.i64.wrap (IntKind.i64.wrap (n * 8) + w)) = ((n * 8 + w).toNat : Nat) ∧ (n * 8 + w).toNat < 18446744073709551616 := by
  simp only [wu64, wi64]
  omega

theorem c10 (n w : Int) : Fn1 Try.prog 10 [.int .i64 n, .int .i64 w] (tagv (tag n w)) := by
  refine fn1_of_awp (rc := r10) (rs := o10) Try.func10 rfl rfl Try.ntmps10 k10 q10 (by simp) ?_
  simp only [g10_0, g10_1, g10_2, g10_3, r10, o10, eES, eEX, Nat.reduceBEq, Int.reduceLE, Int.reduceLT, Int.reduceToNat, Int.reduceEq, ↓reduceIte, reduceCtorEq, Nat.reducePow, Nat.reduceAdd, Nat.reduceLeDiff, Nat.reduceLT, Nat.reduceSub, Nat.reduceEqDiff]
  by_cases hb : n < 1 ∨ 65535 < n ∨ w < 0 ∨ 6 < w
  · repeat' (first | (refine csel_of (fun h => ?_) (fun h => ?_) <;> simp only [h, eES, eEX, Nat.reduceBEq, Int.reduceLE, Int.reduceLT, Int.reduceToNat, Int.reduceEq, ↓reduceIte, reduceCtorEq, Nat.reducePow, Nat.reduceAdd, Nat.reduceLeDiff, Nat.reduceLT, Nat.reduceSub, Nat.reduceEqDiff]) | (refine gsel_t (fun h => ?_) (fun h => ?_) <;> simp only [h, updO, eES, eEX, Nat.reduceBEq, Int.reduceLE, Int.reduceLT, Int.reduceToNat, Int.reduceEq, ↓reduceIte, reduceCtorEq, Nat.reducePow, Nat.reduceAdd, Nat.reduceLeDiff, Nat.reduceLT, Nat.reduceSub, Nat.reduceEqDiff]) | (refine gsel_f (fun h => ?_) (fun h => ?_) <;> simp only [h, updO, eES, eEX, Nat.reduceBEq, Int.reduceLE, Int.reduceLT, Int.reduceToNat, Int.reduceEq, ↓reduceIte, reduceCtorEq, Nat.reducePow, Nat.reduceAdd, Nat.reduceLeDiff, Nat.reduceLT, Nat.reduceSub, Nat.reduceEqDiff]))
    all_goals first
      | (rw [tag, if_pos hb] <;> rfl)
      | (exfalso; simp only [decide_eq_true_eq, decide_eq_false_iff_not] at *; omega)
  · obtain ⟨e1, e2⟩ := tag_arith hb
    have d1 : decide (n < 1) = false := by simp; omega
    have d2 : decide (65535 < n) = false := by simp; omega
    have d3 : decide (w < 0) = false := by simp; omega
    have d4 : decide (6 < w) = false := by simp; omega
    simp only [d1, d2, d3, d4, e1, eES, eEX, Nat.reduceBEq, Int.reduceLE, Int.reduceLT, Int.reduceToNat, Int.reduceEq, ↓reduceIte, reduceCtorEq, Nat.reducePow, Nat.reduceAdd, Nat.reduceLeDiff, Nat.reduceLT, Nat.reduceSub, Nat.reduceEqDiff]
    refine aops_call (c30 _ e2) rfl rfl rfl (.inl rfl) ?_
    rw [tag, if_neg hb]
    simp only [tagv, eES, eEX, Nat.reduceBEq, Int.reduceLE, Int.reduceLT, Int.reduceToNat, Int.reduceEq, ↓reduceIte, reduceCtorEq, Nat.reducePow, Nat.reduceAdd, Nat.reduceLeDiff, Nat.reduceLT, Nat.reduceSub, Nat.reduceEqDiff]
    rfl

theorem c11 (n w : Int) : Fn1 Try.prog 11 [.int .i64 n, .int .i64 w] (tagv (tag n w)) := by
  refine fn1_of_awp (rc := r11) (rs := o11) Try.func11 rfl rfl Try.ntmps11 k11 q11 (by simp) ?_
  simp only [g11_0, g11_1, g11_2, g11_3, r11, o11, eES, eEX, Nat.reduceBEq, Int.reduceLE, Int.reduceLT, Int.reduceToNat, Int.reduceEq, ↓reduceIte, reduceCtorEq, Nat.reducePow, Nat.reduceAdd, Nat.reduceLeDiff, Nat.reduceLT, Nat.reduceSub, Nat.reduceEqDiff]
  by_cases hb : n < 1 ∨ 65535 < n ∨ w < 0 ∨ 6 < w
  · repeat' (first | (refine csel_of (fun h => ?_) (fun h => ?_) <;> simp only [h, eES, eEX, Nat.reduceBEq, Int.reduceLE, Int.reduceLT, Int.reduceToNat, Int.reduceEq, ↓reduceIte, reduceCtorEq, Nat.reducePow, Nat.reduceAdd, Nat.reduceLeDiff, Nat.reduceLT, Nat.reduceSub, Nat.reduceEqDiff]) | (refine gsel_t (fun h => ?_) (fun h => ?_) <;> simp only [h, updO, eES, eEX, Nat.reduceBEq, Int.reduceLE, Int.reduceLT, Int.reduceToNat, Int.reduceEq, ↓reduceIte, reduceCtorEq, Nat.reducePow, Nat.reduceAdd, Nat.reduceLeDiff, Nat.reduceLT, Nat.reduceSub, Nat.reduceEqDiff]) | (refine gsel_f (fun h => ?_) (fun h => ?_) <;> simp only [h, updO, eES, eEX, Nat.reduceBEq, Int.reduceLE, Int.reduceLT, Int.reduceToNat, Int.reduceEq, ↓reduceIte, reduceCtorEq, Nat.reducePow, Nat.reduceAdd, Nat.reduceLeDiff, Nat.reduceLT, Nat.reduceSub, Nat.reduceEqDiff]))
    all_goals first
      | (rw [tag, if_pos hb] <;> rfl)
      | (exfalso; simp only [decide_eq_true_eq, decide_eq_false_iff_not] at *; omega)
  · obtain ⟨e1, e2⟩ := tag_arith hb
    have d1 : decide (n < 1) = false := by simp; omega
    have d2 : decide (65535 < n) = false := by simp; omega
    have d3 : decide (w < 0) = false := by simp; omega
    have d4 : decide (6 < w) = false := by simp; omega
    simp only [d1, d2, d3, d4, e1, eES, eEX, Nat.reduceBEq, Int.reduceLE, Int.reduceLT, Int.reduceToNat, Int.reduceEq, ↓reduceIte, reduceCtorEq, Nat.reducePow, Nat.reduceAdd, Nat.reduceLeDiff, Nat.reduceLT, Nat.reduceSub, Nat.reduceEqDiff]
    refine aops_call (c31 _ e2) rfl rfl rfl (.inl rfl) ?_
    rw [tag, if_neg hb]
    simp only [tagv, eES, eEX, Nat.reduceBEq, Int.reduceLE, Int.reduceLT, Int.reduceToNat, Int.reduceEq, ↓reduceIte, reduceCtorEq, Nat.reducePow, Nat.reduceAdd, Nat.reduceLeDiff, Nat.reduceLT, Nat.reduceSub, Nat.reduceEqDiff]
    rfl

theorem tag_read {u : Nat} (h : ¬ (u / 8 < 1 ∨ 65535 < u / 8)) : IntKind.i64.wrap (IntKind.u64.wrap ((u : Int).tdiv 8)) = ((u / 8 : Nat) : Int) ∧ IntKind.i64.wrap ((u : Int).tmod 8) = ((u % 8 : Nat) : Int) := by
  have e1 : (u : Int).tdiv 8 = ((u / 8 : Nat) : Int) := by rw [Int.tdiv_eq_ediv_of_nonneg (by omega)]; omega
  have e2 : (u : Int).tmod 8 = ((u % 8 : Nat) : Int) := by rw [Int.tmod_eq_emod_of_nonneg (by omega)]; omega
  rw [e1, e2]
  simp only [wu64, wi64]
  omega

theorem c12 (c : C) (hl : c.d.length ≤ 9223372036854770000) : Fn1 Try.prog 12 [c.av] (ttv (takeTag c)) := by
  refine fn1_of_awp (rc := r12) (rs := o12) Try.func12 rfl rfl Try.ntmps12 k12 q12 (by simp) ?_
  simp only [g12_0, g12_1, g12_2, g12_3, g12_4, g12_5, g12_6, g12_7, g12_8, r12, o12, C.av, eES, eEX, Nat.reduceBEq, Int.reduceLE, Int.reduceLT, Int.reduceToNat, Int.reduceEq, ↓reduceIte, reduceCtorEq, Nat.reducePow, Nat.reduceAdd, Nat.reduceLeDiff, Nat.reduceLT, Nat.reduceSub, Nat.reduceEqDiff]
  refine aops_call (c32 c hl) rfl rfl rfl (.inl rfl) ?_
  have hv := fun h => varint_next (c := c) (by omega) h
  unfold takeTag
  generalize c.varint = r at hv ⊢
  obtain ⟨u, d, e⟩ := r
  simp only [ncav, C.av, eES, eEX, Nat.reduceBEq, Int.reduceLE, Int.reduceLT, Int.reduceToNat, Int.reduceEq, ↓reduceIte, reduceCtorEq, Nat.reducePow, Nat.reduceAdd, Nat.reduceLeDiff, Nat.reduceLT, Nat.reduceSub, Nat.reduceEqDiff] at hv ⊢
  refine csel_of (fun h => ?_) (fun h => ?_)
  · have h : ¬ e = 0 := by simpa using h
    simp only [h, ttv, C.av, eES, eEX, Nat.reduceBEq, Int.reduceLE, Int.reduceLT, Int.reduceToNat, Int.reduceEq, ↓reduceIte, reduceCtorEq, Nat.reducePow, Nat.reduceAdd, Nat.reduceLeDiff, Nat.reduceLT, Nat.reduceSub, Nat.reduceEqDiff]
  · have h : e = 0 := by simpa using h
    subst h
    obtain ⟨n, _, _, _, _, _, _, hu⟩ := hv rfl
    have e1 : (u : Int).tdiv 8 = ((u / 8 : Nat) : Int) := by rw [Int.tdiv_eq_ediv_of_nonneg (by omega)]; omega
    have e2 : (u : Int).tmod 8 = ((u % 8 : Nat) : Int) := by rw [Int.tmod_eq_emod_of_nonneg (by omega)]; omega
    have e3 : IntKind.u64.wrap ((u / 8 : Nat) : Int) = ((u / 8 : Nat) : Int) := by rw [wu64]; omega
    simp only [e1, e2, e3, show (((8 : Int) = 0)) = False from by simp, if_false, eES, eEX, Nat.reduceBEq, Int.reduceLE, Int.reduceLT, Int.reduceToNat, Int.reduceEq, ↓reduceIte, reduceCtorEq, Nat.reducePow, Nat.reduceAdd, Nat.reduceLeDiff, Nat.reduceLT, Nat.reduceSub, Nat.reduceEqDiff]
    refine csel_of (fun h => ?_) (fun h => ?_)
    · have h : u % 8 = 7 := by have h : ((u % 8 : Nat) : Int) = 7 := by simpa using h
                               omega
      simp only [h, ttv, C.av, eES, eEX, Nat.reduceBEq, Int.reduceLE, Int.reduceLT, Int.reduceToNat, Int.reduceEq, ↓reduceIte, reduceCtorEq, Nat.reducePow, Nat.reduceAdd, Nat.reduceLeDiff, Nat.reduceLT, Nat.reduceSub, Nat.reduceEqDiff]
      rfl
    · have h7 : ¬ u % 8 = 7 := by have h : ¬ ((u % 8 : Nat) : Int) = 7 := by simpa using h
                                  omega
      simp only [e1, e2, e3, show (((8 : Int) = 0)) = False from by simp, if_false, eES, eEX, Nat.reduceBEq, Int.reduceLE, Int.reduceLT, Int.reduceToNat, Int.reduceEq, ↓reduceIte, reduceCtorEq, Nat.reducePow, Nat.reduceAdd, Nat.reduceLeDiff, Nat.reduceLT, Nat.reduceSub, Nat.reduceEqDiff]
      by_cases hb : u / 8 < 1 ∨ 65535 < u / 8
      · repeat' (first | (refine csel_of (fun h => ?_) (fun h => ?_) <;> simp only [h, e1, e2, e3, show (((8 : Int) = 0)) = False from by simp, if_false, eES, eEX, Nat.reduceBEq, Int.reduceLE, Int.reduceLT, Int.reduceToNat, Int.reduceEq, ↓reduceIte, reduceCtorEq, Nat.reducePow, Nat.reduceAdd, Nat.reduceLeDiff, Nat.reduceLT, Nat.reduceSub, Nat.reduceEqDiff]) | (refine gsel_t (fun h => ?_) (fun h => ?_) <;> simp only [h, updO, e1, e2, e3, show (((8 : Int) = 0)) = False from by simp, if_false, eES, eEX, Nat.reduceBEq, Int.reduceLE, Int.reduceLT, Int.reduceToNat, Int.reduceEq, ↓reduceIte, reduceCtorEq, Nat.reducePow, Nat.reduceAdd, Nat.reduceLeDiff, Nat.reduceLT, Nat.reduceSub, Nat.reduceEqDiff]) | (refine gsel_f (fun h => ?_) (fun h => ?_) <;> simp only [h, updO, e1, e2, e3, show (((8 : Int) = 0)) = False from by simp, if_false, eES, eEX, Nat.reduceBEq, Int.reduceLE, Int.reduceLT, Int.reduceToNat, Int.reduceEq, ↓reduceIte, reduceCtorEq, Nat.reducePow, Nat.reduceAdd, Nat.reduceLeDiff, Nat.reduceLT, Nat.reduceSub, Nat.reduceEqDiff]))
        all_goals first
          | (simp only [h7, hb, ttv, C.av, eES, eEX, Nat.reduceBEq, Int.reduceLE, Int.reduceLT, Int.reduceToNat, Int.reduceEq, ↓reduceIte, reduceCtorEq, Nat.reducePow, Nat.reduceAdd, Nat.reduceLeDiff, Nat.reduceLT, Nat.reduceSub, Nat.reduceEqDiff] <;> rfl)
          | (exfalso; simp only [decide_eq_true_eq, decide_eq_false_iff_not] at *; omega)
      · obtain ⟨t1, t2⟩ := tag_read hb
        rw [e1, e3] at t1
        rw [e2] at t2
        have d1 : decide (((u / 8 : Nat) : Int) < 1) = false := by simp; omega
        have d2 : decide (65535 < ((u / 8 : Nat) : Int)) = false := by simp; omega
        simp only [d1, d2, e1, e2, e3, t1, t2, show (((8 : Int) = 0)) = False from by simp, if_false, eES, eEX, Nat.reduceBEq, Int.reduceLE, Int.reduceLT, Int.reduceToNat, Int.reduceEq, ↓reduceIte, reduceCtorEq, Nat.reducePow, Nat.reduceAdd, Nat.reduceLeDiff, Nat.reduceLT, Nat.reduceSub, Nat.reduceEqDiff]
        simp only [h7, hb, ttv, C.av, eES, eEX, Nat.reduceBEq, Int.reduceLE, Int.reduceLT, Int.reduceToNat, Int.reduceEq, ↓reduceIte, reduceCtorEq, Nat.reducePow, Nat.reduceAdd, Nat.reduceLeDiff, Nat.reduceLT, Nat.reduceSub, Nat.reduceEqDiff]
        rfl

theorem c13 (c : C) (hl : c.d.length ≤ 9223372036854770000) : Fn1 Try.prog 13 [c.av] (ttv (takeTag c)) := by
  refine fn1_of_awp (rc := r13) (rs := o13) Try.func13 rfl rfl Try.ntmps13 k13 q13 (by simp) ?_
  simp only [g13_0, g13_1, g13_2, g13_3, g13_4, g13_5, g13_6, g13_7, g13_8, r13, o13, C.av, eES, eEX, Nat.reduceBEq, Int.reduceLE, Int.reduceLT, Int.reduceToNat, Int.reduceEq, ↓reduceIte, reduceCtorEq, Nat.reducePow, Nat.reduceAdd, Nat.reduceLeDiff, Nat.reduceLT, Nat.reduceSub, Nat.reduceEqDiff]
  refine aops_call (c33 c) rfl rfl rfl (.inl rfl) ?_
  have hv := fun h => varint_next (c := c) (by omega) h
  unfold takeTag
  generalize c.varint = r at hv ⊢
  obtain ⟨u, d, e⟩ := r
  simp only [ncav, C.av, eES, eEX, Nat.reduceBEq, Int.reduceLE, Int.reduceLT, Int.reduceToNat, Int.reduceEq, ↓reduceIte, reduceCtorEq, Nat.reducePow, Nat.reduceAdd, Nat.reduceLeDiff, Nat.reduceLT, Nat.reduceSub, Nat.reduceEqDiff] at hv ⊢
  refine csel_of (fun h => ?_) (fun h => ?_)
  · have h : ¬ e = 0 := by simpa using h
    simp only [h, ttv, C.av, eES, eEX, Nat.reduceBEq, Int.reduceLE, Int.reduceLT, Int.reduceToNat, Int.reduceEq, ↓reduceIte, reduceCtorEq, Nat.reducePow, Nat.reduceAdd, Nat.reduceLeDiff, Nat.reduceLT, Nat.reduceSub, Nat.reduceEqDiff]
  · have h : e = 0 := by simpa using h
    subst h
    obtain ⟨n, _, _, _, _, _, _, hu⟩ := hv rfl
    have e1 : (u : Int).tdiv 8 = ((u / 8 : Nat) : Int) := by rw [Int.tdiv_eq_ediv_of_nonneg (by omega)]; omega
    have e2 : (u : Int).tmod 8 = ((u % 8 : Nat) : Int) := by rw [Int.tmod_eq_emod_of_nonneg (by omega)]; omega
    have e3 : IntKind.u64.wrap ((u / 8 : Nat) : Int) = ((u / 8 : Nat) : Int) := by rw [wu64]; omega
    simp only [e1, e2, e3, show (((8 : Int) = 0)) = False from by simp, if_false, eES, eEX, Nat.reduceBEq, Int.reduceLE, Int.reduceLT, Int.reduceToNat, Int.reduceEq, ↓reduceIte, reduceCtorEq, Nat.reducePow, Nat.reduceAdd, Nat.reduceLeDiff, Nat.reduceLT, Nat.reduceSub, Nat.reduceEqDiff]
    refine csel_of (fun h => ?_) (fun h => ?_)
    · have h : u % 8 = 7 := by have h : ((u % 8 : Nat) : Int) = 7 := by simpa using h
                               omega
      simp only [h, ttv, C.av, eES, eEX, Nat.reduceBEq, Int.reduceLE, Int.reduceLT, Int.reduceToNat, Int.reduceEq, ↓reduceIte, reduceCtorEq, Nat.reducePow, Nat.reduceAdd, Nat.reduceLeDiff, Nat.reduceLT, Nat.reduceSub, Nat.reduceEqDiff]
      rfl
    · have h7 : ¬ u % 8 = 7 := by have h : ¬ ((u % 8 : Nat) : Int) = 7 := by simpa using h
                                  omega
      simp only [e1, e2, e3, show (((8 : Int) = 0)) = False from by simp, if_false, eES, eEX, Nat.reduceBEq, Int.reduceLE, Int.reduceLT, Int.reduceToNat, Int.reduceEq, ↓reduceIte, reduceCtorEq, Nat.reducePow, Nat.reduceAdd, Nat.reduceLeDiff, Nat.reduceLT, Nat.reduceSub, Nat.reduceEqDiff]
      by_cases hb : u / 8 < 1 ∨ 65535 < u / 8
      · repeat' (first | (refine csel_of (fun h => ?_) (fun h => ?_) <;> simp only [h, e1, e2, e3, show (((8 : Int) = 0)) = False from by simp, if_false, eES, eEX, Nat.reduceBEq, Int.reduceLE, Int.reduceLT, Int.reduceToNat, Int.reduceEq, ↓reduceIte, reduceCtorEq, Nat.reducePow, Nat.reduceAdd, Nat.reduceLeDiff, Nat.reduceLT, Nat.reduceSub, Nat.reduceEqDiff]) | (refine gsel_t (fun h => ?_) (fun h => ?_) <;> simp only [h, updO, e1, e2, e3, show (((8 : Int) = 0)) = False from by simp, if_false, eES, eEX, Nat.reduceBEq, Int.reduceLE, Int.reduceLT, Int.reduceToNat, Int.reduceEq, ↓reduceIte, reduceCtorEq, Nat.reducePow, Nat.reduceAdd, Nat.reduceLeDiff, Nat.reduceLT, Nat.reduceSub, Nat.reduceEqDiff]) | (refine gsel_f (fun h => ?_) (fun h => ?_) <;> simp only [h, updO, e1, e2, e3, show (((8 : Int) = 0)) = False from by simp, if_false, eES, eEX, Nat.reduceBEq, Int.reduceLE, Int.reduceLT, Int.reduceToNat, Int.reduceEq, ↓reduceIte, reduceCtorEq, Nat.reducePow, Nat.reduceAdd, Nat.reduceLeDiff, Nat.reduceLT, Nat.reduceSub, Nat.reduceEqDiff]))
        all_goals first
          | (simp only [h7, hb, ttv, C.av, eES, eEX, Nat.reduceBEq, Int.reduceLE, Int.reduceLT, Int.reduceToNat, Int.reduceEq, ↓reduceIte, reduceCtorEq, Nat.reducePow, Nat.reduceAdd, Nat.reduceLeDiff, Nat.reduceLT, Nat.reduceSub, Nat.reduceEqDiff] <;> rfl)
          | (exfalso; simp only [decide_eq_true_eq, decide_eq_false_iff_not] at *; omega)
      · obtain ⟨t1, t2⟩ := tag_read hb
        rw [e1, e3] at t1
        rw [e2] at t2
        have d1 : decide (((u / 8 : Nat) : Int) < 1) = false := by simp; omega
        have d2 : decide (65535 < ((u / 8 : Nat) : Int)) = false := by simp; omega
        simp only [d1, d2, e1, e2, e3, t1, t2, show (((8 : Int) = 0)) = False from by simp, if_false, eES, eEX, Nat.reduceBEq, Int.reduceLE, Int.reduceLT, Int.reduceToNat, Int.reduceEq, ↓reduceIte, reduceCtorEq, Nat.reducePow, Nat.reduceAdd, Nat.reduceLeDiff, Nat.reduceLT, Nat.reduceSub, Nat.reduceEqDiff]
        simp only [h7, hb, ttv, C.av, eES, eEX, Nat.reduceBEq, Int.reduceLE, Int.reduceLT, Int.reduceToNat, Int.reduceEq, ↓reduceIte, reduceCtorEq, Nat.reducePow, Nat.reduceAdd, Nat.reduceLeDiff, Nat.reduceLT, Nat.reduceSub, Nat.reduceEqDiff]
        rfl

end Go.Proofs.Ytcmdlmcmefbkeaa.Va

/- Raw fields: contents. -/
set_option linter.unusedSimpArgs false
namespace Go.Proofs.Ytcmdlmcmefbkeaa.Va
open Go Am Rc Bt Vp Cp Up

theorem cut_ok {c d : C} {u : Nat} (hl : c.d.length ≤ 9223372036854770000) (hd : c.varint = (u, d, 0)) (hu : ¬ d.left < (u : Int)) :
    d.a + u ≤ d.d.length ∧ 0 ≤ d.a ∧ (u : Int) ≤ 9223372036854770000 ∧ d.d.length = c.d.length := by
  obtain ⟨n, h1, h2, h3, h4, h5, h6, h7⟩ := varint_next (c := c) (by omega) (by rw [hd])
  rw [hd] at h4 h6
  simp only at h4 h6
  have hs := (C.sound_iff d).1 h6
  have hr := d.rest_len
  rw [if_pos h6] at hr
  have : d.d = c.d := by rw [h4]
  have e : d.d.length = c.d.length := by rw [this]
  omega

theorem cut_len {c d : C} {u : Nat} (hl : c.d.length ≤ 9223372036854770000) (hd : c.varint = (u, d, 0)) : d.d.length ≤ 9223372036854770000 := by
  obtain ⟨n, h1, h2, h3, h4, h5, h6, h7⟩ := varint_next (c := c) (by omega) (by rw [hd])
  rw [hd] at h4
  simp only at h4
  rw [h4]; exact hl

theorem left_bound (d : C) : 0 ≤ d.left ∧ d.left ≤ (d.d.length : Int) := by
  have hr := d.rest_len
  have hs := C.sound_iff d
  split at hr
  · rename_i h; have := hs.1 h; omega
  · omega

theorem c59 (c : C) (w : Int) (hl : c.d.length ≤ 9223372036854770000) : Fn1 Try.prog 59 [c.av, .int .i64 w] (datv (dat c w)) := by
  refine fn1_of_awp (rc := r59) (rs := o59) Try.func59 rfl rfl Try.ntmps59 k59 q59 (by simp) ?_
  simp only [g59_0, g59_1, g59_2, g59_3, g59_4, g59_5, g59_6, g59_7, g59_8, g59_9, g59_10, g59_11, g59_12, g59_13, g59_14, r59, o59, C.av, eES, eEX, Nat.reduceBEq, Int.reduceLE, Int.reduceLT, Int.reduceToNat, Int.reduceEq, ↓reduceIte, reduceCtorEq, Nat.reducePow, Nat.reduceAdd, Nat.reduceLeDiff, Nat.reduceLT, Nat.reduceSub, Nat.reduceEqDiff]
  refine aops_call (c32 c hl) rfl rfl rfl (.inl rfl) ?_
  have hdl := fun u d h => cut_len (c := c) (d := d) (u := u) hl h
  have hcut := fun u d h hu => cut_ok (c := c) (d := d) (u := u) hl h hu
  unfold dat
  generalize c.varint = r at hcut hdl ⊢
  obtain ⟨u, d, e⟩ := r
  simp only [ncav, C.av, eES, eEX, Nat.reduceBEq, Int.reduceLE, Int.reduceLT, Int.reduceToNat, Int.reduceEq, ↓reduceIte, reduceCtorEq, Nat.reducePow, Nat.reduceAdd, Nat.reduceLeDiff, Nat.reduceLT, Nat.reduceSub, Nat.reduceEqDiff]
  refine csel_of (fun h => ?_) (fun h => ?_)
  · have h : ¬ e = 0 := by simpa using h
    simp only [h, datv, C.av, eES, eEX, Nat.reduceBEq, Int.reduceLE, Int.reduceLT, Int.reduceToNat, Int.reduceEq, ↓reduceIte, reduceCtorEq, Nat.reducePow, Nat.reduceAdd, Nat.reduceLeDiff, Nat.reduceLT, Nat.reduceSub, Nat.reduceEqDiff]
  · have h : e = 0 := by simpa using h
    subst h
    have hcut := hcut u d rfl
    have hdl := hdl u d rfl
    have hlf := left_bound d
    have e0 : IntKind.u64.wrap d.left = d.left := by rw [wu64]; omega
    by_cases hw : w = 3
    all_goals
      first
        | (have dw : (w == 3) = true := by rw [hw] <;> rfl)
        | (have dw : (w == 3) = false := by simpa using hw)
      simp only [dw, eES, eEX, Nat.reduceBEq, Int.reduceLE, Int.reduceLT, Int.reduceToNat, Int.reduceEq, ↓reduceIte, reduceCtorEq, Nat.reducePow, Nat.reduceAdd, Nat.reduceLeDiff, Nat.reduceLT, Nat.reduceSub, Nat.reduceEqDiff]
      refine aops_call (c68 d (by omega)) rfl rfl rfl (.inl rfl) ?_
      by_cases hu : d.left < (u : Int)
      · have d1 : decide (d.left < (u : Int)) = true := by simpa using hu
        simp only [e0, d1, hu, datv, C.av, eES, eEX, Nat.reduceBEq, Int.reduceLE, Int.reduceLT, Int.reduceToNat, Int.reduceEq, ↓reduceIte, reduceCtorEq, Nat.reducePow, Nat.reduceAdd, Nat.reduceLeDiff, Nat.reduceLT, Nat.reduceSub, Nat.reduceEqDiff]
        rfl
      · have d1 : decide (d.left < (u : Int)) = false := by simpa using hu
        obtain ⟨k1, k2, k3, k4⟩ := hcut hu
        have e1 : IntKind.i64.wrap (u : Int) = u := by rw [wi64]; omega
        have e2 : IntKind.i64.wrap (d.a + (u : Int)) = d.a + u := by rw [wi64]; omega
        have n1 : (0 ≤ d.a) = True := eq_true k2
        have n2 : (0 ≤ d.a + (u : Int)) = True := eq_true (by omega)
        have n3 : (d.a.toNat ≤ (d.a + (u : Int)).toNat ∧ (d.a + (u : Int)).toNat ≤ d.d.length) = True := eq_true (by omega)
        have n4 : (d.a + (u : Int)).toNat - d.a.toNat = u := by omega
        first
          | (rw [if_pos hw]
             by_cases hm : c.tx < (u : Int)
             · have d2 : decide (c.tx < (u : Int)) = true := by simpa using hm
               simp only [e0, e1, d1, d2, hu, hm, datv, C.av, eES, eEX, Nat.reduceBEq, Int.reduceLE, Int.reduceLT, Int.reduceToNat, Int.reduceEq, ↓reduceIte, reduceCtorEq, Nat.reducePow, Nat.reduceAdd, Nat.reduceLeDiff, Nat.reduceLT, Nat.reduceSub, Nat.reduceEqDiff]
               rfl
             · have d2 : decide (c.tx < (u : Int)) = false := by simpa using hm
               simp only [e0, e1, e2, n1, n2, n3, n4, d1, d2, hu, hm, datv, C.av, C.ahead, eES, eEX, Nat.reduceBEq, Int.reduceLE, Int.reduceLT, Int.reduceToNat, Int.reduceEq, ↓reduceIte, reduceCtorEq, Nat.reducePow, Nat.reduceAdd, Nat.reduceLeDiff, Nat.reduceLT, Nat.reduceSub, Nat.reduceEqDiff]
               rfl)
          | (rw [if_neg hw]
             by_cases hm : 65536 < (u : Int)
             · have d2 : decide (65536 < (u : Int)) = true := by simpa using hm
               simp only [e0, e1, d1, d2, hu, hm, datv, C.av, eES, eEX, Nat.reduceBEq, Int.reduceLE, Int.reduceLT, Int.reduceToNat, Int.reduceEq, ↓reduceIte, reduceCtorEq, Nat.reducePow, Nat.reduceAdd, Nat.reduceLeDiff, Nat.reduceLT, Nat.reduceSub, Nat.reduceEqDiff]
               rfl
             · have d2 : decide (65536 < (u : Int)) = false := by simpa using hm
               simp only [e0, e1, e2, n1, n2, n3, n4, d1, d2, hu, hm, datv, C.av, C.ahead, eES, eEX, Nat.reduceBEq, Int.reduceLE, Int.reduceLT, Int.reduceToNat, Int.reduceEq, ↓reduceIte, reduceCtorEq, Nat.reducePow, Nat.reduceAdd, Nat.reduceLeDiff, Nat.reduceLT, Nat.reduceSub, Nat.reduceEqDiff]
               rfl)

theorem c35 (c : C) (f : R) (s : Nat) (fr : Nat → Ob) (m : Mem) (hs : fr s = .cells f.av.cells) (hl : c.d.length ≤ 9223372036854770000) :
    ACalls Try.prog 35 [c.av, .ptr 0 s 0] (fr :: m) fun x m1 => x = cav (cont c f).2 ∧ m1 = upd fr s (.cells (cont c f).1.av.cells) :: m := by
  refine acalls_of_awp (rc := r35) (rs := o35) Try.func35 rfl rfl Try.ntmps35 k35 q35 (by simp) ?_
  simp only [R.av, AV.cells] at hs
  simp only [g35_0, g35_1, g35_2, g35_4, g35_5, g35_6, g35_7, g35_8, g35_3, g35_9, r35, o35, C.av, hs, eES, eEX, Nat.reduceBEq, Int.reduceLE, Int.reduceLT, Int.reduceToNat, Int.reduceEq, ↓reduceIte, reduceCtorEq, Nat.reducePow, Nat.reduceAdd, Nat.reduceLeDiff, Nat.reduceLT, Nat.reduceSub, Nat.reduceEqDiff]
  by_cases h0 : f.wire = 0
  · have d0 : (f.wire == 0) = true := by simpa using h0
    simp only [d0, hs, eES, eEX, Nat.reduceBEq, Int.reduceLE, Int.reduceLT, Int.reduceToNat, Int.reduceEq, ↓reduceIte, reduceCtorEq, Nat.reducePow, Nat.reduceAdd, Nat.reduceLeDiff, Nat.reduceLT, Nat.reduceSub, Nat.reduceEqDiff]
    refine aops_call (c32 c hl) rfl rfl rfl (.inl rfl) ?_
    simp only [ncav, hs, C.av, eES, eEX, Nat.reduceBEq, Int.reduceLE, Int.reduceLT, Int.reduceToNat, Int.reduceEq, ↓reduceIte, reduceCtorEq, Nat.reducePow, Nat.reduceAdd, Nat.reduceLeDiff, Nat.reduceLT, Nat.reduceSub, Nat.reduceEqDiff]
    refine ⟨?_, ?_⟩
    · simp only [cont, cav, h0, C.av, eES, eEX, Nat.reduceBEq, Int.reduceLE, Int.reduceLT, Int.reduceToNat, Int.reduceEq, ↓reduceIte, reduceCtorEq, Nat.reducePow, Nat.reduceAdd, Nat.reduceLeDiff, Nat.reduceLT, Nat.reduceSub, Nat.reduceEqDiff]
      rfl
    · simp only [cont, h0, R.av, eES, eEX, Nat.reduceBEq, Int.reduceLE, Int.reduceLT, Int.reduceToNat, Int.reduceEq, ↓reduceIte, reduceCtorEq, Nat.reducePow, Nat.reduceAdd, Nat.reduceLeDiff, Nat.reduceLT, Nat.reduceSub, Nat.reduceEqDiff]
      rfl
  · have d0 : (f.wire == 0) = false := by simpa using h0
    by_cases h1 : f.wire = 1
    · have d1 : (f.wire == 1) = true := by simpa using h1
      simp only [d0, d1, hs, eES, eEX, Nat.reduceBEq, Int.reduceLE, Int.reduceLT, Int.reduceToNat, Int.reduceEq, ↓reduceIte, reduceCtorEq, Nat.reducePow, Nat.reduceAdd, Nat.reduceLeDiff, Nat.reduceLT, Nat.reduceSub, Nat.reduceEqDiff]
      refine aops_call (c32 c hl) rfl rfl rfl (.inl rfl) ?_
      simp only [ncav, hs, C.av, eES, eEX, Nat.reduceBEq, Int.reduceLE, Int.reduceLT, Int.reduceToNat, Int.reduceEq, ↓reduceIte, reduceCtorEq, Nat.reducePow, Nat.reduceAdd, Nat.reduceLeDiff, Nat.reduceLT, Nat.reduceSub, Nat.reduceEqDiff]
      refine ⟨?_, ?_⟩
      · simp only [cont, cav, h1, C.av, eES, eEX, Nat.reduceBEq, Int.reduceLE, Int.reduceLT, Int.reduceToNat, Int.reduceEq, ↓reduceIte, reduceCtorEq, Nat.reducePow, Nat.reduceAdd, Nat.reduceLeDiff, Nat.reduceLT, Nat.reduceSub, Nat.reduceEqDiff]
        rfl
      · simp only [cont, h1, R.av, eES, eEX, Nat.reduceBEq, Int.reduceLE, Int.reduceLT, Int.reduceToNat, Int.reduceEq, ↓reduceIte, reduceCtorEq, Nat.reducePow, Nat.reduceAdd, Nat.reduceLeDiff, Nat.reduceLT, Nat.reduceSub, Nat.reduceEqDiff]
        rfl
    · have d1 : (f.wire == 1) = false := by simpa using h1
      by_cases h2 : f.wire = 2
      · have d2 : (f.wire == 2) = true := by simpa using h2
        simp only [d0, d1, d2, hs, eES, eEX, Nat.reduceBEq, Int.reduceLE, Int.reduceLT, Int.reduceToNat, Int.reduceEq, ↓reduceIte, reduceCtorEq, Nat.reducePow, Nat.reduceAdd, Nat.reduceLeDiff, Nat.reduceLT, Nat.reduceSub, Nat.reduceEqDiff]
        refine aops_call (c58 c hl) rfl rfl rfl (.inl rfl) ?_
        simp only [ncav, hs, C.av, eES, eEX, Nat.reduceBEq, Int.reduceLE, Int.reduceLT, Int.reduceToNat, Int.reduceEq, ↓reduceIte, reduceCtorEq, Nat.reducePow, Nat.reduceAdd, Nat.reduceLeDiff, Nat.reduceLT, Nat.reduceSub, Nat.reduceEqDiff]
        refine ⟨?_, ?_⟩
        · simp only [cont, cav, h2, C.av, eES, eEX, Nat.reduceBEq, Int.reduceLE, Int.reduceLT, Int.reduceToNat, Int.reduceEq, ↓reduceIte, reduceCtorEq, Nat.reducePow, Nat.reduceAdd, Nat.reduceLeDiff, Nat.reduceLT, Nat.reduceSub, Nat.reduceEqDiff]
        · simp only [cont, h2, R.av, eES, eEX, Nat.reduceBEq, Int.reduceLE, Int.reduceLT, Int.reduceToNat, Int.reduceEq, ↓reduceIte, reduceCtorEq, Nat.reducePow, Nat.reduceAdd, Nat.reduceLeDiff, Nat.reduceLT, Nat.reduceSub, Nat.reduceEqDiff]
      · have d2 : (f.wire == 2) = false := by simpa using h2
        have hc : cont c f = ({ f with data := (dat c f.wire).1 }, (dat c f.wire).2.1, (dat c f.wire).2.2) := by
          simp only [cont, h0, h1, h2, if_false, or_self]
        simp only [d0, d1, d2, hs, eES, eEX, Nat.reduceBEq, Int.reduceLE, Int.reduceLT, Int.reduceToNat, Int.reduceEq, ↓reduceIte, reduceCtorEq, Nat.reducePow, Nat.reduceAdd, Nat.reduceLeDiff, Nat.reduceLT, Nat.reduceSub, Nat.reduceEqDiff]
        refine aops_call (c59 c f.wire hl) rfl rfl rfl (.inl rfl) ?_
        rw [hc]
        simp only [datv, hs, C.av, eES, eEX, Nat.reduceBEq, Int.reduceLE, Int.reduceLT, Int.reduceToNat, Int.reduceEq, ↓reduceIte, reduceCtorEq, Nat.reducePow, Nat.reduceAdd, Nat.reduceLeDiff, Nat.reduceLT, Nat.reduceSub, Nat.reduceEqDiff]
        exact ⟨rfl, rfl⟩

end Go.Proofs.Ytcmdlmcmefbkeaa.Va

/- Raw fields: the next one. -/
set_option linter.unusedSimpArgs false
namespace Go.Proofs.Ytcmdlmcmefbkeaa.Va
open Go Am Rc Bt Vp Cp Up

theorem bne00 : (((0 : Nat) : Int) != 0) = false := rfl
theorem bne0_t {a : Nat} (h : ¬ a = 0) : ((a : Int) != 0) = true := by simp [h]
theorem bne0_f {a : Nat} (h : a = 0) : ((a : Int) != 0) = false := by simp [h]

theorem tag_len {c : C} (hl : c.d.length ≤ 9223372036854770000) : (takeTag c).2.2.1.d.length ≤ 9223372036854770000 := by
  unfold takeTag
  simp only
  split
  · rename_i h0
    split
    · exact hl
    · split
      · exact hl
      · obtain ⟨n, _, _, _, h4, _⟩ := varint_next (c := c) (by omega) h0
        show c.varint.2.1.d.length ≤ _
        rw [h4]; exact hl
  · exact hl

theorem spend_len {c : C} {n : Int} (hl : c.d.length ≤ 9223372036854770000) : (c.spend n).1.d.length ≤ 9223372036854770000 := by
  unfold C.spend
  split
  · exact hl
  · split <;> exact hl

theorem c15 (c : C) (hl : c.d.length ≤ 9223372036854770000) : Fn1 Try.prog 15 [c.av] (nxtv (nxt c)) := by
  refine fn1_of_awp (rc := r15) (rs := o15) Try.func15 rfl rfl Try.ntmps15 k15 q15 (by simp) ?_
  simp only [g15_0, g15_1, g15_2, g15_3, g15_4, g15_5, g15_6, g15_7, g15_8, g15_9, g15_10, g15_11, r15, o15, C.av, eES, eEX, Nat.reduceBEq, Int.reduceLE, Int.reduceLT, Int.reduceToNat, Int.reduceEq, ↓reduceIte, reduceCtorEq, Nat.reducePow, Nat.reduceAdd, Nat.reduceLeDiff, Nat.reduceLT, Nat.reduceSub, Nat.reduceEqDiff]
  refine aops_call (c12 c hl) rfl rfl rfl (.inl rfl) ?_
  have htl := tag_len hl
  unfold nxt
  generalize takeTag c = t at htl ⊢
  obtain ⟨num, wire, d, e⟩ := t
  simp only [ttv, C.av, eES, eEX, Nat.reduceBEq, Int.reduceLE, Int.reduceLT, Int.reduceToNat, Int.reduceEq, ↓reduceIte, reduceCtorEq, Nat.reducePow, Nat.reduceAdd, Nat.reduceLeDiff, Nat.reduceLT, Nat.reduceSub, Nat.reduceEqDiff] at htl ⊢
  by_cases he : e = 0
  · subst he
    simp only [bne00, eES, eEX, Nat.reduceBEq, Int.reduceLE, Int.reduceLT, Int.reduceToNat, Int.reduceEq, ↓reduceIte, reduceCtorEq, Nat.reducePow, Nat.reduceAdd, Nat.reduceLeDiff, Nat.reduceLT, Nat.reduceSub, Nat.reduceEqDiff]
    refine aops_call (c34 d 1) rfl rfl rfl (.inl rfl) ?_
    have hsl := spend_len (n := 1) htl
    generalize d.spend 1 = sp at hsl ⊢
    obtain ⟨d2, e2⟩ := sp
    simp only [cav, C.av, eES, eEX, Nat.reduceBEq, Int.reduceLE, Int.reduceLT, Int.reduceToNat, Int.reduceEq, ↓reduceIte, reduceCtorEq, Nat.reducePow, Nat.reduceAdd, Nat.reduceLeDiff, Nat.reduceLT, Nat.reduceSub, Nat.reduceEqDiff] at hsl ⊢
    by_cases he2 : e2 = 0
    · subst he2
      simp only [bne00, eES, eEX, Nat.reduceBEq, Int.reduceLE, Int.reduceLT, Int.reduceToNat, Int.reduceEq, ↓reduceIte, reduceCtorEq, Nat.reducePow, Nat.reduceAdd, Nat.reduceLeDiff, Nat.reduceLT, Nat.reduceSub, Nat.reduceEqDiff]
      refine aops_callF (c35 d2 ⟨num, wire, 0, []⟩ 9 _ _ ?_ hsl) rfl ?_
      · simp only [R.av, eES, eEX, Nat.reduceBEq, Int.reduceLE, Int.reduceLT, Int.reduceToNat, Int.reduceEq, ↓reduceIte, reduceCtorEq, Nat.reducePow, Nat.reduceAdd, Nat.reduceLeDiff, Nat.reduceLT, Nat.reduceSub, Nat.reduceEqDiff]
        rfl
      · generalize cont d2 ⟨num, wire, 0, []⟩ = k
        obtain ⟨f, d3, e3⟩ := k
        simp only [cav, C.av, R.av, eES, eEX, Nat.reduceBEq, Int.reduceLE, Int.reduceLT, Int.reduceToNat, Int.reduceEq, ↓reduceIte, reduceCtorEq, Nat.reducePow, Nat.reduceAdd, Nat.reduceLeDiff, Nat.reduceLT, Nat.reduceSub, Nat.reduceEqDiff]
        by_cases he3 : e3 = 0
        · subst he3
          simp only [bne00, nxtv, R.av, C.av, eES, eEX, Nat.reduceBEq, Int.reduceLE, Int.reduceLT, Int.reduceToNat, Int.reduceEq, ↓reduceIte, reduceCtorEq, Nat.reducePow, Nat.reduceAdd, Nat.reduceLeDiff, Nat.reduceLT, Nat.reduceSub, Nat.reduceEqDiff]
          rfl
        · simp only [bne0_t he3, he3, nxtv, zr, R.av, C.av, eES, eEX, Nat.reduceBEq, Int.reduceLE, Int.reduceLT, Int.reduceToNat, Int.reduceEq, ↓reduceIte, reduceCtorEq, Nat.reducePow, Nat.reduceAdd, Nat.reduceLeDiff, Nat.reduceLT, Nat.reduceSub, Nat.reduceEqDiff]
          rfl
    · simp only [bne0_t he2, he2, nxtv, zr, R.av, C.av, eES, eEX, Nat.reduceBEq, Int.reduceLE, Int.reduceLT, Int.reduceToNat, Int.reduceEq, ↓reduceIte, reduceCtorEq, Nat.reducePow, Nat.reduceAdd, Nat.reduceLeDiff, Nat.reduceLT, Nat.reduceSub, Nat.reduceEqDiff]
      rfl
  · simp only [bne0_t he, he, nxtv, zr, R.av, C.av, eES, eEX, Nat.reduceBEq, Int.reduceLE, Int.reduceLT, Int.reduceToNat, Int.reduceEq, ↓reduceIte, reduceCtorEq, Nat.reducePow, Nat.reduceAdd, Nat.reduceLeDiff, Nat.reduceLT, Nat.reduceSub, Nat.reduceEqDiff]
    rfl

/-- The contents, as the specification has them. -/
def rcont (c : C) (f : R) : R × C × Nat :=
  if f.wire = 2 then ({ f with bits := c.fixed.1 }, c.fixed.2.1, c.fixed.2.2)
  else if c.varint.2.2 ≠ 0 ∨ number f.wire = true then ({ f with bits := c.varint.1 }, c.varint.2.1, c.varint.2.2)
  else if c.varint.2.1.left < (c.varint.1 : Int) then (f, c, 4)
  else if (f.wire = 3 ∧ c.varint.2.1.tx < (c.varint.1 : Int)) ∨ (f.wire ≠ 3 ∧ 65536 < c.varint.1) then (f, c, 3)
  else ({ f with data := (c.varint.2.1.d.drop c.varint.2.1.a.toNat).take c.varint.1 }, c.varint.2.1.ahead c.varint.1, 0)

theorem c37 (c : C) (f : R) (hl : c.d.length ≤ 9223372036854770000) : Fn1 Try.prog 37 [f.av, c.av] (nxtv (rcont c f)) := by
  refine fn1_of_awp (rc := r37) (rs := o37) Try.func37 rfl rfl Try.ntmps37 k37 q37 (by simp) ?_
  simp only [g37_0, g37_1, g37_2, g37_3, g37_4, g37_5, g37_6, g37_7, g37_8, g37_9, g37_10, g37_11, g37_12, g37_13, g37_14, g37_15, r37, o37, C.av, R.av, eES, eEX, Nat.reduceBEq, Int.reduceLE, Int.reduceLT, Int.reduceToNat, Int.reduceEq, ↓reduceIte, reduceCtorEq, Nat.reducePow, Nat.reduceAdd, Nat.reduceLeDiff, Nat.reduceLT, Nat.reduceSub, Nat.reduceEqDiff]
  by_cases h2 : f.wire = 2
  · have d2 : (f.wire == 2) = true := by simpa using h2
    simp only [d2, eES, eEX, Nat.reduceBEq, Int.reduceLE, Int.reduceLT, Int.reduceToNat, Int.reduceEq, ↓reduceIte, reduceCtorEq, Nat.reducePow, Nat.reduceAdd, Nat.reduceLeDiff, Nat.reduceLT, Nat.reduceSub, Nat.reduceEqDiff]
    refine aops_call (c60 c) rfl rfl rfl (.inl rfl) ?_
    simp only [ncav, nxtv, rcont, h2, C.av, R.av, eES, eEX, Nat.reduceBEq, Int.reduceLE, Int.reduceLT, Int.reduceToNat, Int.reduceEq, ↓reduceIte, reduceCtorEq, Nat.reducePow, Nat.reduceAdd, Nat.reduceLeDiff, Nat.reduceLT, Nat.reduceSub, Nat.reduceEqDiff]
  · have d2 : (f.wire == 2) = false := by simpa using h2
    simp only [d2, eES, eEX, Nat.reduceBEq, Int.reduceLE, Int.reduceLT, Int.reduceToNat, Int.reduceEq, ↓reduceIte, reduceCtorEq, Nat.reducePow, Nat.reduceAdd, Nat.reduceLeDiff, Nat.reduceLT, Nat.reduceSub, Nat.reduceEqDiff]
    refine aops_call (c33 c) rfl rfl rfl (.inl rfl) ?_
    have hcut := fun u d h hu => cut_ok (c := c) (d := d) (u := u) hl h hu
    have hdl := fun u d h => cut_len (c := c) (d := d) (u := u) hl h
    unfold rcont
    generalize c.varint = r at hcut hdl ⊢
    obtain ⟨u, d, e⟩ := r
    simp only [ncav, C.av, eES, eEX, Nat.reduceBEq, Int.reduceLE, Int.reduceLT, Int.reduceToNat, Int.reduceEq, ↓reduceIte, reduceCtorEq, Nat.reducePow, Nat.reduceAdd, Nat.reduceLeDiff, Nat.reduceLT, Nat.reduceSub, Nat.reduceEqDiff]
    by_cases he : e = 0
    · subst he
      simp only [bne00, eES, eEX, Nat.reduceBEq, Int.reduceLE, Int.reduceLT, Int.reduceToNat, Int.reduceEq, ↓reduceIte, reduceCtorEq, Nat.reducePow, Nat.reduceAdd, Nat.reduceLeDiff, Nat.reduceLT, Nat.reduceSub, Nat.reduceEqDiff]
      refine aops_call (c46 f.wire) rfl rfl rfl (.inl rfl) ?_
      cases hn : number f.wire with
      | true => simp only [nxtv, R.av, C.av, ne_eq, h2, or_true, eES, eEX, Nat.reduceBEq, Int.reduceLE, Int.reduceLT, Int.reduceToNat, Int.reduceEq, ↓reduceIte, reduceCtorEq, Nat.reducePow, Nat.reduceAdd, Nat.reduceLeDiff, Nat.reduceLT, Nat.reduceSub, Nat.reduceEqDiff]
      | false =>
        have hdl := hdl u d rfl
        have hlf := left_bound d
        have e0 : IntKind.u64.wrap d.left = d.left := by rw [wu64]; omega
        simp only [eES, eEX, Nat.reduceBEq, Int.reduceLE, Int.reduceLT, Int.reduceToNat, Int.reduceEq, ↓reduceIte, reduceCtorEq, Nat.reducePow, Nat.reduceAdd, Nat.reduceLeDiff, Nat.reduceLT, Nat.reduceSub, Nat.reduceEqDiff]
        refine aops_call (c41 d) rfl rfl rfl (.inl rfl) ?_
        have hcut := hcut u d rfl
        by_cases hu : d.left < (u : Int)
        · simp only [e0, hu, nxtv, R.av, C.av, h2, ne_eq, or_self, eES, eEX, Nat.reduceBEq, Int.reduceLE, Int.reduceLT, Int.reduceToNat, Int.reduceEq, ↓reduceIte, reduceCtorEq, Nat.reducePow, Nat.reduceAdd, Nat.reduceLeDiff, Nat.reduceLT, Nat.reduceSub, Nat.reduceEqDiff]
          rfl
        · obtain ⟨k1, k2, k3, k4⟩ := hcut hu
          have e1 : IntKind.i64.wrap (u : Int) = u := by rw [wi64]; omega
          have e2 : IntKind.i64.wrap (d.a + (u : Int)) = d.a + u := by rw [wi64]; omega
          have n1 : (0 ≤ d.a) = True := eq_true k2
          have n2 : (0 ≤ d.a + (u : Int)) = True := eq_true (by omega)
          have n3 : (d.a.toNat ≤ (d.a + (u : Int)).toNat ∧ (d.a + (u : Int)).toNat ≤ d.d.length) = True := eq_true (by omega)
          have n4 : (d.a + (u : Int)).toNat - d.a.toNat = u := by omega
          have d1 : decide (d.left < (u : Int)) = false := by simpa using hu
          simp only [e0, d1, eES, eEX, Nat.reduceBEq, Int.reduceLE, Int.reduceLT, Int.reduceToNat, Int.reduceEq, ↓reduceIte, reduceCtorEq, Nat.reducePow, Nat.reduceAdd, Nat.reduceLeDiff, Nat.reduceLT, Nat.reduceSub, Nat.reduceEqDiff]
          by_cases hw : f.wire = 3
          · have dw : (f.wire == 3) = true := by simpa using hw
            by_cases hm : d.tx < (u : Int)
            · have d2 : decide (d.tx < (u : Int)) = true := by simpa using hm
              simp only [dw, d2, e1, hu, hm, hw, beq_self_eq_true, bne_self_eq_false, nxtv, R.av, C.av, ne_eq, or_self, true_or, eES, eEX, Nat.reduceBEq, Int.reduceLE, Int.reduceLT, Int.reduceToNat, Int.reduceEq, ↓reduceIte, reduceCtorEq, Nat.reducePow, Nat.reduceAdd, Nat.reduceLeDiff, Nat.reduceLT, Nat.reduceSub, Nat.reduceEqDiff]
              rfl
            · have d2 : decide (d.tx < (u : Int)) = false := by simpa using hm
              simp only [dw, d2, e1, e2, n1, n2, n3, n4, hu, hm, hw, beq_self_eq_true, bne_self_eq_false, nxtv, R.av, C.av, C.ahead, ne_eq, or_self, and_false, false_and, eES, eEX, Nat.reduceBEq, Int.reduceLE, Int.reduceLT, Int.reduceToNat, Int.reduceEq, ↓reduceIte, reduceCtorEq, Nat.reducePow, Nat.reduceAdd, Nat.reduceLeDiff, Nat.reduceLT, Nat.reduceSub, Nat.reduceEqDiff]
              rfl
          · have dw : (f.wire == 3) = false := by simpa using hw
            have dw' : (f.wire != 3) = true := by simpa using hw
            by_cases hm : 65536 < (u : Int)
            · have d2 : decide (65536 < (u : Int)) = true := by simpa using hm
              have hm' : 65536 < u := by omega
              simp only [dw, dw', d2, e1, hu, hm', hw, h2, nxtv, R.av, C.av, ne_eq, or_self, or_true, false_and, and_self, eES, eEX, Nat.reduceBEq, Int.reduceLE, Int.reduceLT, Int.reduceToNat, Int.reduceEq, ↓reduceIte, reduceCtorEq, Nat.reducePow, Nat.reduceAdd, Nat.reduceLeDiff, Nat.reduceLT, Nat.reduceSub, Nat.reduceEqDiff]
              rfl
            · have d2 : decide (65536 < (u : Int)) = false := by simpa using hm
              have hm' : ¬ 65536 < u := by omega
              simp only [dw, dw', d2, e1, e2, n1, n2, n3, n4, hu, hm', hw, h2, nxtv, R.av, C.av, C.ahead, ne_eq, or_self, and_false, false_and, eES, eEX, Nat.reduceBEq, Int.reduceLE, Int.reduceLT, Int.reduceToNat, Int.reduceEq, ↓reduceIte, reduceCtorEq, Nat.reducePow, Nat.reduceAdd, Nat.reduceLeDiff, Nat.reduceLT, Nat.reduceSub, Nat.reduceEqDiff]
              rfl
    · simp only [bne0_t he, he, h2, nxtv, R.av, C.av, ne_eq, true_or, eES, eEX, Nat.reduceBEq, Int.reduceLE, Int.reduceLT, Int.reduceToNat, Int.reduceEq, ↓reduceIte, reduceCtorEq, Nat.reducePow, Nat.reduceAdd, Nat.reduceLeDiff, Nat.reduceLT, Nat.reduceSub, Nat.reduceEqDiff]

end Go.Proofs.Ytcmdlmcmefbkeaa.Va

/- Raw fields: the next one, by the specification. -/
set_option linter.unusedSimpArgs false
namespace Go.Proofs.Ytcmdlmcmefbkeaa.Va
open Go Am Rc Bt Vp Cp Up

theorem rcont_cont (c : C) (f : R) (hl : c.d.length ≤ 9223372036854770000) : (rcont c f).2.2 = (cont c f).2.2 ∧ ((cont c f).2.2 = 0 → rcont c f = cont c f) := by
  unfold rcont cont dat
  by_cases h2 : f.wire = 2
  · simp [h2]
  · by_cases hv : c.varint.2.2 = 0
    · obtain ⟨n, _, _, _, h4, _⟩ := varint_next (c := c) (by omega) hv
      have htx : c.varint.2.1.tx = c.tx := by rw [h4]
      by_cases hn : f.wire = 0 ∨ f.wire = 1
      · have : number f.wire = true := by rcases hn with h | h <;> simp [number, h]
        simp [h2, hn, this]
      · have : number f.wire = false := by
          simp only [not_or] at hn
          simp [number, hn.1, hn.2, h2]
        simp only [h2, hn, hv, this, htx, ne_eq, not_true_eq_false, or_self, if_false, if_true, Bool.false_eq_true, false_or]
        by_cases hu : c.varint.2.1.left < (c.varint.1 : Int)
        · simp [hu]
        · simp only [hu, if_false]
          by_cases hw : f.wire = 3
          · by_cases hm : c.tx < (c.varint.1 : Int) <;> simp [hw, hm]
          · by_cases hm : 65536 < c.varint.1
            · have hm' : (65536 : Int) < (c.varint.1 : Int) := by omega
              simp [hw, hm, hm']
            · have hm' : ¬ (65536 : Int) < (c.varint.1 : Int) := by omega
              simp [hw, hm, hm']
    · simp only [h2, hv, ne_eq, not_false_eq_true, true_or, if_true, if_false]
      by_cases hn : f.wire = 0 ∨ f.wire = 1
      · simp [hn]
      · simp [hn, hv]

theorem c16 (c : C) (hl : c.d.length ≤ 9223372036854770000) : Fn1 Try.prog 16 [c.av] (nxtv (nxt c)) := by
  refine fn1_of_awp (rc := r16) (rs := o16) Try.func16 rfl rfl Try.ntmps16 k16 q16 (by simp) ?_
  simp only [g16_0, g16_1, g16_2, g16_3, g16_4, g16_5, g16_6, g16_7, g16_8, g16_9, g16_10, r16, o16, C.av, eES, eEX, Nat.reduceBEq, Int.reduceLE, Int.reduceLT, Int.reduceToNat, Int.reduceEq, ↓reduceIte, reduceCtorEq, Nat.reducePow, Nat.reduceAdd, Nat.reduceLeDiff, Nat.reduceLT, Nat.reduceSub, Nat.reduceEqDiff]
  refine aops_call (c13 c (by omega)) rfl rfl rfl (.inl rfl) ?_
  have htl := tag_len hl
  unfold nxt
  generalize takeTag c = t at htl ⊢
  obtain ⟨num, wire, d, e⟩ := t
  simp only [ttv, C.av, eES, eEX, Nat.reduceBEq, Int.reduceLE, Int.reduceLT, Int.reduceToNat, Int.reduceEq, ↓reduceIte, reduceCtorEq, Nat.reducePow, Nat.reduceAdd, Nat.reduceLeDiff, Nat.reduceLT, Nat.reduceSub, Nat.reduceEqDiff] at htl ⊢
  by_cases he : e = 0
  · subst he
    simp only [bne00, eES, eEX, Nat.reduceBEq, Int.reduceLE, Int.reduceLT, Int.reduceToNat, Int.reduceEq, ↓reduceIte, reduceCtorEq, Nat.reducePow, Nat.reduceAdd, Nat.reduceLeDiff, Nat.reduceLT, Nat.reduceSub, Nat.reduceEqDiff]
    refine aops_call (c36 d 1) rfl rfl rfl (.inl rfl) ?_
    have hsl := spend_len (n := 1) htl
    generalize d.spend 1 = sp at hsl ⊢
    obtain ⟨d2, e2⟩ := sp
    simp only [cav, C.av, eES, eEX, Nat.reduceBEq, Int.reduceLE, Int.reduceLT, Int.reduceToNat, Int.reduceEq, ↓reduceIte, reduceCtorEq, Nat.reducePow, Nat.reduceAdd, Nat.reduceLeDiff, Nat.reduceLT, Nat.reduceSub, Nat.reduceEqDiff] at hsl ⊢
    by_cases he2 : e2 = 0
    · subst he2
      simp only [bne00, eES, eEX, Nat.reduceBEq, Int.reduceLE, Int.reduceLT, Int.reduceToNat, Int.reduceEq, ↓reduceIte, reduceCtorEq, Nat.reducePow, Nat.reduceAdd, Nat.reduceLeDiff, Nat.reduceLT, Nat.reduceSub, Nat.reduceEqDiff]
      refine aops_call (c37 d2 ⟨num, wire, 0, []⟩ hsl) rfl rfl rfl (.inl rfl) ?_
      obtain ⟨q1, q2⟩ := rcont_cont d2 ⟨num, wire, 0, []⟩ hsl
      generalize cont d2 ⟨num, wire, 0, []⟩ = k at q1 q2 ⊢
      generalize rcont d2 ⟨num, wire, 0, []⟩ = rk at q1 q2 ⊢
      obtain ⟨f, d3, e3⟩ := k
      obtain ⟨rf, rd3, re3⟩ := rk
      simp only at q1 q2
      subst q1
      by_cases he3 : re3 = 0
      · have q2 := q2 he3
        simp only [Prod.mk.injEq] at q2
        obtain ⟨rfl, rfl, _⟩ := q2
        subst he3
        simp only [bne00, nxtv, R.av, C.av, eES, eEX, Nat.reduceBEq, Int.reduceLE, Int.reduceLT, Int.reduceToNat, Int.reduceEq, ↓reduceIte, reduceCtorEq, Nat.reducePow, Nat.reduceAdd, Nat.reduceLeDiff, Nat.reduceLT, Nat.reduceSub, Nat.reduceEqDiff]
        rfl
      · simp only [bne0_t he3, he3, nxtv, zr, R.av, C.av, eES, eEX, Nat.reduceBEq, Int.reduceLE, Int.reduceLT, Int.reduceToNat, Int.reduceEq, ↓reduceIte, reduceCtorEq, Nat.reducePow, Nat.reduceAdd, Nat.reduceLeDiff, Nat.reduceLT, Nat.reduceSub, Nat.reduceEqDiff]
        rfl
    · simp only [bne0_t he2, he2, nxtv, zr, R.av, C.av, eES, eEX, Nat.reduceBEq, Int.reduceLE, Int.reduceLT, Int.reduceToNat, Int.reduceEq, ↓reduceIte, reduceCtorEq, Nat.reducePow, Nat.reduceAdd, Nat.reduceLeDiff, Nat.reduceLT, Nat.reduceSub, Nat.reduceEqDiff]
      rfl
  · simp only [bne0_t he, he, nxtv, zr, R.av, C.av, eES, eEX, Nat.reduceBEq, Int.reduceLE, Int.reduceLT, Int.reduceToNat, Int.reduceEq, ↓reduceIte, reduceCtorEq, Nat.reducePow, Nat.reduceAdd, Nat.reduceLeDiff, Nat.reduceLT, Nat.reduceSub, Nat.reduceEqDiff]
    rfl

end Go.Proofs.Ytcmdlmcmefbkeaa.Va

/- Raw fields: all of some bytes. -/
set_option linter.unusedSimpArgs false
namespace Go.Proofs.Ytcmdlmcmefbkeaa.Va
open Go Am Rc Bt Vp Cp Up

/-- The fields from a cursor on (at most so many), or the first error. -/
def sg : Nat → C → List R × Nat
  | 0, _ => ([], 0)
  | k + 1, c =>
    if 0 < c.left then
      let r := nxt c
      if r.2.2 = 0 then
        let t := sg k r.2.1
        if t.2 = 0 then (r.1 :: t.1, 0) else ([], t.2)
      else ([], r.2.2)
    else ([], 0)

def scan (s : List UInt8) (l : L) : List R × Nat :=
  let o := opn s l
  if o.2 = 0 then sg s.length o.1 else ([], o.2)

def rsv (l : List R) : List AV := l.map R.av
def scv (r : List R × Nat) : AV := .tup [.list (rsv r.1), .int .i64 (r.2 : Nat)]

theorem rsv_append (a b : List R) : rsv (a ++ b) = rsv a ++ rsv b := by simp [rsv]
theorem rsv_len (a : List R) : (rsv a).length = a.length := by simp [rsv]

/-- What a step of reading does to a cursor: it moves on; the limits of depth and text stand. -/
theorem fixed_next {c : C} (hl : c.d.length ≤ 9223372036854775807) (h : c.fixed.2.2 = 0) : c.sound = true ∧ 8 ≤ c.left ∧ c.fixed.2.1 = { c with a := c.a + 8 } ∧ c.fixed.1 < 2 ^ 64 := by
  unfold C.fixed at h ⊢
  split at h
  · cases h
  · rename_i hr
    have hne : c.rest ≠ [] := by intro e; rw [e] at hr; simp at hr
    have hs := rest_snd hne
    have hs' := (C.sound_iff c).1 hs
    have hle := c.rest_len
    rw [if_pos hs] at hle
    have h8 : 8 ≤ c.left := by unfold C.left; omega
    have hw : IntKind.i64.wrap (c.a + 8) = c.a + 8 := by rw [wi64]; omega
    refine ⟨hs, h8, ?_, ?_⟩
    · rw [if_neg hr]; simp only [C.ahead, hw]
    · rw [if_neg hr]
      have h1 := foldr_lt (c.rest.take 8)
      rw [List.length_take, Nat.min_eq_left (by omega)] at h1
      have : (256 : Nat) ^ 8 = 2 ^ 64 := by decide
      show fix8 c.rest < 2 ^ 64
      unfold fix8
      omega

/-- A step of reading moves on within the data. -/
structure Step (c d : C) : Prop where
  n : ∃ k : Nat, d = { c with a := c.a + k, nd := d.nd } ∧ 0 < k ∧ (k : Int) ≤ c.left
  sound : c.sound = true

theorem Step.left {c d : C} (h : Step c d) : d.sound = true ∧ d.left < c.left ∧ 0 ≤ d.left ∧ d.d = c.d ∧ d.left = c.left - (d.a - c.a) := by
  obtain ⟨⟨k, h1, h2, h3⟩, h4⟩ := h
  have hs := (C.sound_iff c).1 h4
  have hc := c.rest_len
  rw [if_pos h4] at hc
  have e1 : d.a = c.a + k := by rw [h1]
  have e2 : d.e = c.e := by rw [h1]
  have e3 : d.d = c.d := by rw [h1]
  have hd : d.sound = true := by
    rw [C.sound_iff, e1, e2, e3]
    omega
  have hdl := d.rest_len
  rw [if_pos hd] at hdl
  exact ⟨hd, by omega, by omega, e3, by omega⟩

theorem nxt_step {c : C} (hl : c.d.length ≤ 9223372036854770000) (h : (nxt c).2.2 = 0) : Step c (nxt c).2.1 := by
  unfold nxt at h ⊢
  simp only at h ⊢
  split at h
  · rename_i ht
    split at h
    · rename_i hs
      split at h
      · rename_i hk
        rw [if_pos ht, if_pos hs, if_pos hk]
        -- the tag
        unfold takeTag at ht hs hk ⊢
        simp only at ht hs hk ⊢
        split at ht
        · rename_i hv
          rw [if_pos hv] at hs hk ⊢
          split at ht
          · cases ht
          · rename_i h7
            rw [if_neg h7] at hs hk ⊢
            split at ht
            · cases ht
            · rename_i h8
              rw [if_neg h8] at hs hk ⊢
              simp only at hs hk ⊢
              obtain ⟨n, g1, g2, g3, g4, g5, g6, g7⟩ := varint_next (c := c) (by omega) hv
              rw [g4] at hs hk ⊢
              have hsc := (C.sound_iff c).1 g5
              have hcl := c.rest_len
              rw [if_pos g5] at hcl
              -- the value spent
              unfold C.spend at hs hk ⊢
              split at hs
              · cases hs
              · rename_i s1
                rw [if_neg s1] at hk ⊢
                split at hs
                · cases hs
                · rename_i s2
                  rw [if_neg s2] at hk ⊢
                  simp only at hk ⊢
                  generalize hd : ({ d := c.d, a := c.a + n, e := c.e, dp := c.dp, nd := IntKind.i64.wrap (c.nd - 1), tx := c.tx } : C) = d at hk ⊢
                  have q1 : d.d = c.d := by rw [← hd]
                  have q2 : d.a = c.a + n := by rw [← hd]
                  have q3 : d.e = c.e := by rw [← hd]
                  have q4 : d.dp = c.dp := by rw [← hd]
                  have q5 : d.tx = c.tx := by rw [← hd]
                  have hdl : d.left ≤ c.left - n := by
                    have := d.rest_len
                    split at this
                    · omega
                    · omega
                  have mk : ∀ (d' : C) (j : Nat), d' = { d with a := d.a + j } → (j : Int) ≤ d.left → Step c d' := by
                    intro d' j e hj
                    refine ⟨⟨n + j, ?_, by omega, by omega⟩, g5⟩
                    rw [e]
                    obtain ⟨_, _, _, _, _, _⟩ := d
                    simp only at q1 q2 q3 q4 q5
                    subst q1 q2 q3 q4 q5
                    simp only [C.mk.injEq, true_and, and_true]
                    omega
                  -- the contents
                  unfold cont at hk ⊢
                  split at hk
                  · rename_i w2
                    rw [if_pos w2]
                    obtain ⟨f1, f2, f3, f4⟩ := fixed_next (c := d) (by rw [q1]; omega) hk
                    exact mk _ 8 f3 f2
                  · rename_i w2
                    rw [if_neg w2]
                    split at hk
                    · rename_i w1
                      rw [if_pos w1]
                      obtain ⟨j, f1, f2, f3, f4, f5, f6, f7⟩ := varint_next (c := d) (by rw [q1]; omega) hk
                      exact mk _ j f4 f3
                    · rename_i w1
                      rw [if_neg w1]
                      simp only at hk ⊢
                      unfold dat at hk ⊢
                      simp only at hk ⊢
                      split at hk
                      · rename_i hv2
                        rw [if_pos hv2]
                        by_cases hu : d.varint.2.1.left < (d.varint.1 : Int)
                        · rw [if_pos hu] at hk; cases hk
                        · rw [if_neg hu] at hk ⊢
                          by_cases hm : (if ((c.varint.1 % 8 : Nat) : Int) = 3 then d.tx else 65536) < (d.varint.1 : Int)
                          · rw [if_pos hm] at hk; cases hk
                          · rw [if_neg hm]
                            obtain ⟨j, f1, f2, f3, f4, f5, f6, f7⟩ := varint_next (c := d) (by rw [q1]; omega) hv2
                            have hs2 := (C.sound_iff d).1 f5
                            have hl2 := d.rest_len
                            rw [if_pos f5] at hl2
                            have hl3 := d.varint.2.1.rest_len
                            rw [if_pos f6, f4] at hl3
                            rw [f4] at hu
                            simp only at hl3
                            have hdl' : (d.d.length : Int) = c.d.length := by rw [q1]
                            have hw : IntKind.i64.wrap (d.a + (j : Int) + (d.varint.1 : Int)) = d.a + j + d.varint.1 := by
                              rw [wi64]
                              omega
                            refine mk _ (j + d.varint.1) ?_ (by omega)
                            rw [f4]
                            simp only [C.ahead, hw, C.mk.injEq, true_and, and_true]
                            omega
                      · rename_i hv2; exact absurd hk hv2
        · rename_i hv; exact absurd ht hv
      · rename_i hk; exact absurd h hk
    · rename_i hs; exact absurd h hs
  · rename_i ht; exact absurd h ht

end Go.Proofs.Ytcmdlmcmefbkeaa.Va

/- Raw fields: scanning. -/
set_option linter.unusedSimpArgs false
namespace Go.Proofs.Ytcmdlmcmefbkeaa.Va
open Go Am Rc Bt Vp Cp Up

theorem rsv_cells (l : List R) : (rsv l).all (fun e => e.cells.length == 4) = true := by
  induction l with
  | nil => rfl
  | cons a l ih => exact ih

/-- What is left to scan, and what was scanned. -/
structure ScanS (s : List UInt8) (l : L) (c : C) (acc : List R) : Prop where
  len : c.d.length = s.length
  all : scan s l = (if (sg c.left.toNat c).2 = 0 then (acc ++ (sg c.left.toNat c).1, 0) else ([], (sg c.left.toNat c).2))
  acc : (acc.length : Int) + c.left ≤ s.length

/-- More rounds than bytes change nothing. -/
theorem sg_more : ∀ (k : Nat) (c : C), c.d.length ≤ 9223372036854770000 → c.left ≤ k → sg k c = sg c.left.toNat c
  | 0, c, hl, h => by
    have := (left_bound c).1
    rw [show c.left.toNat = 0 by omega]
  | k + 1, c, hl, h => by
    have hlb := left_bound c
    by_cases h0 : 0 < c.left
    · obtain ⟨j, hj⟩ : ∃ j, c.left.toNat = j + 1 := ⟨c.left.toNat - 1, by omega⟩
      rw [hj, sg, sg, if_pos h0, if_pos h0]
      by_cases hn : (nxt c).2.2 = 0
      · obtain ⟨_, s2, s3, s4, _⟩ := (nxt_step hl hn).left
        simp only [hn, if_true]
        have hl' : (nxt c).2.1.d.length ≤ 9223372036854770000 := by rw [s4]; exact hl
        rw [sg_more k _ hl' (by omega), sg_more j _ hl' (by omega)]
      · simp only [hn, if_false]
    · have e : c.left.toNat = 0 := by omega
      rw [e]
      simp only [sg, h0, if_false]

theorem scan_start {s : List UInt8} {l : L} (hl : s.length ≤ 9223372036854770000) (h : (opn s l).2 = 0) : ScanS s l (opn s l).1 [] := by
  have ho : (opn s l).1 = ⟨s, 0, s.length, l.dp, l.nd, l.tx⟩ := by
    unfold opn at h ⊢
    split
    · rename_i h1; rw [if_pos h1] at h; cases h
    · rename_i h1
      rw [if_neg h1] at h
      split
      · rename_i h2; rw [if_pos h2] at h; cases h
      · rfl
  have hsnd : (opn s l).1.sound = true := by rw [ho, C.sound_iff]; simp
  have hleft : (opn s l).1.left = s.length := by
    have := (opn s l).1.rest_len
    rw [if_pos hsnd] at this
    rw [this, ho]
    simp
  refine ⟨by rw [ho], ?_, by rw [hleft]; simp⟩
  unfold scan
  simp only [h, if_true]
  rw [sg_more s.length _ (by rw [ho]; exact hl) (by rw [hleft]; omega)]
  split
  · rename_i h'
    rw [List.nil_append]
    exact Prod.ext rfl h'
  · rename_i h'
    refine Prod.ext ?_ rfl
    show (sg _ _).1 = []
    generalize (opn s l).1.left.toNat = k at h' ⊢
    generalize (opn s l).1 = c at h' ⊢
    cases k with
    | zero => rfl
    | succ k =>
      rw [sg] at h' ⊢
      simp only at h' ⊢
      split
      · rename_i h0
        rw [if_pos h0] at h'
        split
        · rename_i h1
          rw [if_pos h1] at h'
          split
          · rename_i h2; rw [if_pos h2] at h'; exact absurd rfl h'
          · rfl
        · rfl
      · rfl

/-- At the end of the bytes. -/
theorem ScanS.done {s : List UInt8} {l : L} {c : C} {acc : List R} (h : ScanS s l c acc) (h0 : ¬ 0 < c.left) : scan s l = (acc, 0) := by
  have := h.all
  have hb := (left_bound c).1
  rw [show c.left.toNat = 0 by omega] at this
  simpa [sg] using this

theorem ScanS.err {s : List UInt8} {l : L} {c : C} {acc : List R} (h : ScanS s l c acc) (h0 : 0 < c.left) (hn : ¬ (nxt c).2.2 = 0) : scan s l = ([], (nxt c).2.2) := by
  have := h.all
  obtain ⟨j, hj⟩ : ∃ j, c.left.toNat = j + 1 := ⟨c.left.toNat - 1, by omega⟩
  rw [hj, sg] at this
  simpa only [h0, hn, if_true, if_false] using this

theorem ScanS.step {s : List UInt8} {l : L} {c : C} {acc : List R} (hl : s.length ≤ 9223372036854770000) (h : ScanS s l c acc) (h0 : 0 < c.left) (hn : (nxt c).2.2 = 0) : ScanS s l (nxt c).2.1 (acc ++ [(nxt c).1]) ∧ (nxt c).2.1.left < c.left ∧ 0 ≤ (nxt c).2.1.left := by
  have hcl : c.d.length ≤ 9223372036854770000 := by rw [h.len]; exact hl
  obtain ⟨_, s2, s3, s4, _⟩ := (nxt_step hcl hn).left
  refine ⟨⟨by rw [s4]; exact h.len, ?_, ?_⟩, s2, s3⟩
  · have := h.all
    obtain ⟨j, hj⟩ : ∃ j, c.left.toNat = j + 1 := ⟨c.left.toNat - 1, by omega⟩
    rw [hj, sg] at this
    simp only [h0, hn, if_true] at this
    rw [sg_more j _ (by rw [s4]; exact hcl) (by omega)] at this
    rw [this]
    by_cases hs : (sg (nxt c).2.1.left.toNat (nxt c).2.1).2 = 0
    · simp [hs]
    · simp [hs]
  · have := h.acc
    simp
    omega

def RScanI (s : List UInt8) (l : L) (k : Nat) (st : St) : Prop :=
  ∃ f fr c acc g, st = ⟨f, [fr], []⟩ ∧ k = c.left.toNat ∧ ScanS s l c acc ∧ f 6 = .ptr 0 6 0 ∧ f 8 = .vec 0 8 g 0 acc.length false ∧ fr 6 = .cells c.av.cells ∧ fr 8 = .vec g 4 (rsv acc) ∧ (fr 9).isRow = false ∧ (fr 10).isRow = false

theorem c18 (s : List UInt8) (l : L) (hl : s.length ≤ 1000000000000) : Fn1 Try.prog 18 [.str s, l.av] (scv (scan s l)) := by
  refine fn1_of_awp (rc := r18) (rs := o18) Try.func18 rfl rfl Try.ntmps18 k18 q18 (by simp) ?_
  simp only [g18_0, g18_1, g18_2, g18_3, g18_4, g18_5, g18_6, g18_7, g18_8, g18_9, g18_10, g18_11, r18, o18, L.av, eES, eEX, Nat.reduceBEq, Int.reduceLE, Int.reduceLT, Int.reduceToNat, Int.reduceEq, ↓reduceIte, reduceCtorEq, Nat.reducePow, Nat.reduceAdd, Nat.reduceLeDiff, Nat.reduceLT, Nat.reduceSub, Nat.reduceEqDiff]
  refine aops_call (c40 s l) rfl rfl rfl (.inl rfl) ?_
  have hst := scan_start (s := s) (l := l) (by omega)
  have hsc : ¬ (opn s l).2 = 0 → scan s l = ([], (opn s l).2) := fun h => by simp [scan, h]
  generalize opn s l = o at hst hsc ⊢
  obtain ⟨c0, e⟩ := o
  simp only [cav, C.av, eES, eEX, Nat.reduceBEq, Int.reduceLE, Int.reduceLT, Int.reduceToNat, Int.reduceEq, ↓reduceIte, reduceCtorEq, Nat.reducePow, Nat.reduceAdd, Nat.reduceLeDiff, Nat.reduceLT, Nat.reduceSub, Nat.reduceEqDiff] at hst hsc ⊢
  by_cases he : e = 0
  · subst he
    simp only [bne00, eES, eEX, Nat.reduceBEq, Int.reduceLE, Int.reduceLT, Int.reduceToNat, Int.reduceEq, ↓reduceIte, reduceCtorEq, Nat.reducePow, Nat.reduceAdd, Nat.reduceLeDiff, Nat.reduceLT, Nat.reduceSub, Nat.reduceEqDiff]
    refine awp_vec rfl rfl ?_
    simp only [eES, eEX, Nat.reduceBEq, Int.reduceLE, Int.reduceLT, Int.reduceToNat, Int.reduceEq, ↓reduceIte, reduceCtorEq, Nat.reducePow, Nat.reduceAdd, Nat.reduceLeDiff, Nat.reduceLT, Nat.reduceSub, Nat.reduceEqDiff]
    refine awp_loop (RScanI s l) _ ⟨_, _, c0, [], 1, rfl, rfl, hst rfl, rfl, rfl, rfl, rfl, rfl, rfl⟩ ?_
    rintro n st ⟨f, fr, c, acc, g, rfl, rfl, hS, h6, h8, m6, m8, m9, m10⟩
    have hcl : c.d.length ≤ 9223372036854770000 := by rw [hS.len]; omega
    simp only [C.av, AV.cells] at m6
    simp only [l18_0, g18_0, g18_1, g18_2, g18_3, g18_4, g18_5, g18_6, g18_7, g18_8, g18_9, g18_10, g18_11, r18, o18, h6, h8, m6, m8, m9, m10, eES, eEX, Nat.reduceBEq, Int.reduceLE, Int.reduceLT, Int.reduceToNat, Int.reduceEq, ↓reduceIte, reduceCtorEq, Nat.reducePow, Nat.reduceAdd, Nat.reduceLeDiff, Nat.reduceLT, Nat.reduceSub, Nat.reduceEqDiff]
    refine aops_call (c41 c) rfl rfl rfl (.inl rfl) ?_
    simp only [h6, h8, m6, m8, eES, eEX, Nat.reduceBEq, Int.reduceLE, Int.reduceLT, Int.reduceToNat, Int.reduceEq, ↓reduceIte, reduceCtorEq, Nat.reducePow, Nat.reduceAdd, Nat.reduceLeDiff, Nat.reduceLT, Nat.reduceSub, Nat.reduceEqDiff]
    by_cases h0 : 0 < c.left
    · have d0 : decide (0 < c.left) = true := by simpa using h0
      simp only [d0, h6, h8, m6, m8, m9, m10, eES, eEX, Nat.reduceBEq, Int.reduceLE, Int.reduceLT, Int.reduceToNat, Int.reduceEq, ↓reduceIte, reduceCtorEq, Nat.reducePow, Nat.reduceAdd, Nat.reduceLeDiff, Nat.reduceLT, Nat.reduceSub, Nat.reduceEqDiff]
      refine aops_call (c16 c hcl) rfl rfl rfl (.inl rfl) ?_
      have hstep := hS.step (by omega) h0
      have herr := hS.err h0
      generalize nxt c = r at hstep herr ⊢
      obtain ⟨fd, c', e⟩ := r
      simp only at hstep herr
      simp only [nxtv, R.av, C.av, h6, h8, m6, m8, m9, m10, eES, eEX, Nat.reduceBEq, Int.reduceLE, Int.reduceLT, Int.reduceToNat, Int.reduceEq, ↓reduceIte, reduceCtorEq, Nat.reducePow, Nat.reduceAdd, Nat.reduceLeDiff, Nat.reduceLT, Nat.reduceSub, Nat.reduceEqDiff]
      by_cases he : e = 0
      · subst he
        obtain ⟨hS', hlt, hge⟩ := hstep rfl
        have hacc := hS'.acc
        have hal : (acc ++ [fd]).length = acc.length + 1 := by simp
        rw [hal] at hacc
        simp only [bne00, h6, h8, m6, m8, m9, m10, eES, eEX, Nat.reduceBEq, Int.reduceLE, Int.reduceLT, Int.reduceToNat, Int.reduceEq, ↓reduceIte, reduceCtorEq, Nat.reducePow, Nat.reduceAdd, Nat.reduceLeDiff, Nat.reduceLT, Nat.reduceSub, Nat.reduceEqDiff]
        refine aops_bslA rfl rfl (by decide) rfl rfl ?_
        refine aops_app rfl (by simp only [m8, eES, eEX, Nat.reduceBEq, Int.reduceLE, Int.reduceLT, Int.reduceToNat, Int.reduceEq, ↓reduceIte, reduceCtorEq, Nat.reducePow, Nat.reduceAdd, Nat.reduceLeDiff, Nat.reduceLT, Nat.reduceSub, Nat.reduceEqDiff]) rfl (rsv_len acc).symm rfl rfl (by simp [maxLen]; omega) (by simp; omega) ?_
        simp only [h6, h8, m6, m8, m9, m10, eES, eEX, Nat.reduceBEq, Int.reduceLE, Int.reduceLT, Int.reduceToNat, Int.reduceEq, ↓reduceIte, reduceCtorEq, Nat.reducePow, Nat.reduceAdd, Nat.reduceLeDiff, Nat.reduceLT, Nat.reduceSub, Nat.reduceEqDiff]
        refine ⟨c'.left.toNat, by omega, _, _, c', acc ++ [fd], g + 1, rfl, rfl, hS', ?_, ?_, ?_, ?_, ?_, ?_⟩
        · simp only [h6, eES, eEX, Nat.reduceBEq, Int.reduceLE, Int.reduceLT, Int.reduceToNat, Int.reduceEq, ↓reduceIte, reduceCtorEq, Nat.reducePow, Nat.reduceAdd, Nat.reduceLeDiff, Nat.reduceLT, Nat.reduceSub, Nat.reduceEqDiff]
        · simp only [hal, eES, eEX, Nat.reduceBEq, Int.reduceLE, Int.reduceLT, Int.reduceToNat, Int.reduceEq, ↓reduceIte, reduceCtorEq, Nat.reducePow, Nat.reduceAdd, Nat.reduceLeDiff, Nat.reduceLT, Nat.reduceSub, Nat.reduceEqDiff]
        · simp only [C.av, eES, eEX, Nat.reduceBEq, Int.reduceLE, Int.reduceLT, Int.reduceToNat, Int.reduceEq, ↓reduceIte, reduceCtorEq, Nat.reducePow, Nat.reduceAdd, Nat.reduceLeDiff, Nat.reduceLT, Nat.reduceSub, Nat.reduceEqDiff]
        · simp only [rsv_append, eES, eEX, Nat.reduceBEq, Int.reduceLE, Int.reduceLT, Int.reduceToNat, Int.reduceEq, ↓reduceIte, reduceCtorEq, Nat.reducePow, Nat.reduceAdd, Nat.reduceLeDiff, Nat.reduceLT, Nat.reduceSub, Nat.reduceEqDiff]
          rfl
        · simp only [eES, eEX, Nat.reduceBEq, Int.reduceLE, Int.reduceLT, Int.reduceToNat, Int.reduceEq, ↓reduceIte, reduceCtorEq, Nat.reducePow, Nat.reduceAdd, Nat.reduceLeDiff, Nat.reduceLT, Nat.reduceSub, Nat.reduceEqDiff]
        · simp only [eES, eEX, Nat.reduceBEq, Int.reduceLE, Int.reduceLT, Int.reduceToNat, Int.reduceEq, ↓reduceIte, reduceCtorEq, Nat.reducePow, Nat.reduceAdd, Nat.reduceLeDiff, Nat.reduceLT, Nat.reduceSub, Nat.reduceEqDiff]
      · rw [herr he]
        simp only [bne0_t he, scv, rsv, h6, h8, m6, m8, m9, m10, eES, eEX, Nat.reduceBEq, Int.reduceLE, Int.reduceLT, Int.reduceToNat, Int.reduceEq, ↓reduceIte, reduceCtorEq, Nat.reducePow, Nat.reduceAdd, Nat.reduceLeDiff, Nat.reduceLT, Nat.reduceSub, Nat.reduceEqDiff]
    · have d0 : decide (0 < c.left) = false := by simpa using h0
      have hd := hS.done h0
      have hle : (0 + acc.length ≤ (rsv acc).length) = True := eq_true (by rw [rsv_len]; omega)
      have ht : List.take acc.length (rsv acc) = rsv acc := List.take_of_length_le (by rw [rsv_len]; exact Nat.le_refl _)
      simp only [d0, h6, h8, m6, m8, hd, scv, hle, ht, bne_self_eq_false, eES, eEX, Nat.reduceBEq, Int.reduceLE, Int.reduceLT, Int.reduceToNat, Int.reduceEq, ↓reduceIte, reduceCtorEq, Nat.reducePow, Nat.reduceAdd, Nat.reduceLeDiff, Nat.reduceLT, Nat.reduceSub, Nat.reduceEqDiff]
      rfl
  · rw [hsc he]
    simp only [bne0_t he, scv, rsv, List.map_nil, eES, eEX, Nat.reduceBEq, Int.reduceLE, Int.reduceLT, Int.reduceToNat, Int.reduceEq, ↓reduceIte, reduceCtorEq, Nat.reducePow, Nat.reduceAdd, Nat.reduceLeDiff, Nat.reduceLT, Nat.reduceSub, Nat.reduceEqDiff]

/-- The closure that counts the bytes. -/
theorem d61 (c : C) (rd fm : Int) (s : Nat) (h fr : Nat → Ob) (m : Mem) (h1 : h 1 = .cells [.ptr 1 s 0]) (h4 : h 4 = .cells [.int .i64 fm]) (hs : fr s = .cells (c.av.cells ++ [.int .i64 rd])) :
    ACallsD Try.prog 61 [.ptr 0 1 0, .ptr 0 4 0] (h :: fr :: m) fun _ m1 => m1 = h :: upd fr s (.cells (c.av.cells ++ [.int .i64 (IntKind.i64.wrap (rd + IntKind.i64.wrap (c.a - fm)))])) :: m := by
  refine acallsD_of_awp (rc := r61) (rs := o61) Try.func61 rfl rfl Try.ntmps61 k61 q61 (by simp) ?_
  simp only [C.av, AV.cells, List.cons_append, List.nil_append] at hs ⊢
  simp only [g61_0, r61, o61, h1, h4, hs, RR.evL, eES, eEX, Nat.reduceBEq, Int.reduceLE, Int.reduceLT, Int.reduceToNat, Int.reduceEq, ↓reduceIte, reduceCtorEq, Nat.reducePow, Nat.reduceAdd, Nat.reduceLeDiff, Nat.reduceLT, Nat.reduceSub, Nat.reduceEqDiff]

end Go.Proofs.Ytcmdlmcmefbkeaa.Va

/- Raw fields: the scanner. -/
set_option linter.unusedSimpArgs false
namespace Go.Proofs.Ytcmdlmcmefbkeaa.Va
open Go Am Rc Bt Vp Cp Up

/-- A field and an error. -/
def rev (r : R × C × Nat) : AV := .tup [r.1.av, .int .i64 (r.2.2 : Nat)]

theorem c39 (c : C) (rd : Int) (s : Nat) (fr : Nat → Ob) (m : Mem) (hs : fr s = .cells (c.av.cells ++ [.int .i64 rd])) (hl : c.d.length ≤ 9223372036854770000) :
    ACalls Try.prog 39 [.ptr 0 s 0] (fr :: m) fun x m1 => x = rev (nxt c) ∧ m1 = upd (upd fr s (.cells ((nxt c).2.1.av.cells ++ [.int .i64 rd]))) s (.cells ((nxt c).2.1.av.cells ++ [.int .i64 (IntKind.i64.wrap (rd + IntKind.i64.wrap ((nxt c).2.1.a - c.a)))])) :: m := by
  refine acalls_of_awpD (rc := r39) (rs := o39) Try.func39 rfl rfl Try.ntmps39 k39 q39 (by simp) ?_
  have hs' := hs
  simp only [C.av, AV.cells, List.cons_append, List.nil_append] at hs
  simp only [g39_0, g39_1, g39_2, g39_3, g39_4, r39, o39, hs, eES, eEX, Nat.reduceBEq, Int.reduceLE, Int.reduceLT, Int.reduceToNat, Int.reduceEq, ↓reduceIte, reduceCtorEq, Nat.reducePow, Nat.reduceAdd, Nat.reduceLeDiff, Nat.reduceLT, Nat.reduceSub, Nat.reduceEqDiff]
  refine aops_dfr rfl ?_
  simp only [hs, eES, eEX, Nat.reduceBEq, Int.reduceLE, Int.reduceLT, Int.reduceToNat, Int.reduceEq, ↓reduceIte, reduceCtorEq, Nat.reducePow, Nat.reduceAdd, Nat.reduceLeDiff, Nat.reduceLT, Nat.reduceSub, Nat.reduceEqDiff]
  refine aops_call (c15 c hl) rfl rfl rfl (.inl rfl) ?_
  generalize nxt c = r
  obtain ⟨fd, c', e⟩ := r
  simp only [nxtv, R.av, C.av, hs, eES, eEX, Nat.reduceBEq, Int.reduceLE, Int.reduceLT, Int.reduceToNat, Int.reduceEq, ↓reduceIte, reduceCtorEq, Nat.reducePow, Nat.reduceAdd, Nat.reduceLeDiff, Nat.reduceLT, Nat.reduceSub, Nat.reduceEqDiff]
  refine ⟨.inr trivial, Am.leaves_cons (d61 c' rd c.a s _ _ m rfl rfl ?_) (Am.leaves_nil ?_)⟩
  · simp only [C.av, beq_self_eq_true, eES, eEX, Nat.reduceBEq, Int.reduceLE, Int.reduceLT, Int.reduceToNat, Int.reduceEq, ↓reduceIte, reduceCtorEq, Nat.reducePow, Nat.reduceAdd, Nat.reduceLeDiff, Nat.reduceLT, Nat.reduceSub, Nat.reduceEqDiff]
  · simp only [hs, rev, R.av, C.av, eES, eEX, Nat.reduceBEq, Int.reduceLE, Int.reduceLT, Int.reduceToNat, Int.reduceEq, ↓reduceIte, reduceCtorEq, Nat.reducePow, Nat.reduceAdd, Nat.reduceLeDiff, Nat.reduceLT, Nat.reduceSub, Nat.reduceEqDiff]

def ScanI (s : List UInt8) (l : L) (k : Nat) (st : St) : Prop :=
  ∃ f fr c acc g, st = ⟨f, [fr], []⟩ ∧ k = c.left.toNat ∧ ScanS s l c acc ∧ c.sound = true ∧ c.e = s.length ∧ f 0 = .str s ∧ f 8 = .ptr 0 23 0 ∧ f 9 = .vec 0 9 g 0 acc.length false ∧ fr 23 = .cells (c.av.cells ++ [.int .i64 c.a]) ∧ fr 9 = .vec g 4 (rsv acc) ∧ (fr 10).isRow = false

theorem opn_ok {s : List UInt8} {l : L} (h : (opn s l).2 = 0) : (opn s l).1 = ⟨s, 0, s.length, l.dp, l.nd, l.tx⟩ := by
  unfold opn at h ⊢
  split
  · rename_i h1; rw [if_pos h1] at h; cases h
  · rename_i h1
    rw [if_neg h1] at h
    split
    · rename_i h2; rw [if_pos h2] at h; cases h
    · rfl

theorem c17 (s : List UInt8) (l : L) (hl : s.length ≤ 1000000000000) : Fn1 Try.prog 17 [.str s, l.av] (scv (scan s l)) := by
  refine fn1_of_awp (rc := r17) (rs := o17) Try.func17 rfl rfl Try.ntmps17 k17 q17 (by simp) ?_
  simp only [g17_0, g17_1, g17_2, g17_3, g17_4, g17_5, g17_6, g17_7, g17_8, g17_9, g17_10, g17_11, r17, o17, L.av, eES, eEX, Nat.reduceBEq, Int.reduceLE, Int.reduceLT, Int.reduceToNat, Int.reduceEq, ↓reduceIte, reduceCtorEq, Nat.reducePow, Nat.reduceAdd, Nat.reduceLeDiff, Nat.reduceLT, Nat.reduceSub, Nat.reduceEqDiff]
  refine aops_call (c38 s l) rfl rfl rfl (.inl rfl) ?_
  have hst := scan_start (s := s) (l := l) (by omega)
  have hok := opn_ok (s := s) (l := l)
  have hsc : ¬ (opn s l).2 = 0 → scan s l = ([], (opn s l).2) := fun h => by simp [scan, h]
  generalize opn s l = o at hst hsc hok ⊢
  obtain ⟨c0, e⟩ := o
  simp only [cav, C.av, eES, eEX, Nat.reduceBEq, Int.reduceLE, Int.reduceLT, Int.reduceToNat, Int.reduceEq, ↓reduceIte, reduceCtorEq, Nat.reducePow, Nat.reduceAdd, Nat.reduceLeDiff, Nat.reduceLT, Nat.reduceSub, Nat.reduceEqDiff] at hst hsc hok ⊢
  by_cases he : e = 0
  · subst he
    have hok := hok rfl
    simp only [bne00, eES, eEX, Nat.reduceBEq, Int.reduceLE, Int.reduceLT, Int.reduceToNat, Int.reduceEq, ↓reduceIte, reduceCtorEq, Nat.reducePow, Nat.reduceAdd, Nat.reduceLeDiff, Nat.reduceLT, Nat.reduceSub, Nat.reduceEqDiff]
    refine awp_vec rfl rfl ?_
    simp only [eES, eEX, Nat.reduceBEq, Int.reduceLE, Int.reduceLT, Int.reduceToNat, Int.reduceEq, ↓reduceIte, reduceCtorEq, Nat.reducePow, Nat.reduceAdd, Nat.reduceLeDiff, Nat.reduceLT, Nat.reduceSub, Nat.reduceEqDiff]
    refine awp_loop (ScanI s l) _ ⟨_, _, c0, [], 1, rfl, rfl, hst rfl, ?_, ?_, rfl, rfl, rfl, ?_, rfl, rfl⟩ ?_
    · rw [hok, C.sound_iff]; simp
    · rw [hok]
    · rw [hok] <;> rfl
    rintro n st ⟨f, fr, c, acc, g, rfl, rfl, hS, hsnd, hend, h0, h8, h9, m23, m9, m10⟩
    have hcl : c.d.length ≤ 9223372036854770000 := by rw [hS.len]; omega
    have m23' := m23
    simp only [C.av, AV.cells, List.cons_append, List.nil_append] at m23
    have hleft := c.rest_len
    rw [if_pos hsnd] at hleft
    simp only [l17_0, g17_0, g17_1, g17_2, g17_3, g17_4, g17_5, g17_6, g17_7, g17_8, g17_9, g17_10, g17_11, r17, o17, h0, h8, h9, m23, m9, m10, eES, eEX, Nat.reduceBEq, Int.reduceLE, Int.reduceLT, Int.reduceToNat, Int.reduceEq, ↓reduceIte, reduceCtorEq, Nat.reducePow, Nat.reduceAdd, Nat.reduceLeDiff, Nat.reduceLT, Nat.reduceSub, Nat.reduceEqDiff]
    by_cases hlt : 0 < c.left
    · have d0 : decide (c.a < (s.length : Int)) = true := by simp; omega
      simp only [d0, h0, h8, h9, m23, m9, m10, eES, eEX, Nat.reduceBEq, Int.reduceLE, Int.reduceLT, Int.reduceToNat, Int.reduceEq, ↓reduceIte, reduceCtorEq, Nat.reducePow, Nat.reduceAdd, Nat.reduceLeDiff, Nat.reduceLT, Nat.reduceSub, Nat.reduceEqDiff]
      refine aops_callF (c39 c c.a 23 _ [] ?_ hcl) rfl ?_
      · simp only [m23, C.av, eES, eEX, Nat.reduceBEq, Int.reduceLE, Int.reduceLT, Int.reduceToNat, Int.reduceEq, ↓reduceIte, reduceCtorEq, Nat.reducePow, Nat.reduceAdd, Nat.reduceLeDiff, Nat.reduceLT, Nat.reduceSub, Nat.reduceEqDiff]
      have hstep := hS.step (by omega) hlt
      have herr := hS.err hlt
      have hns := fun h => (nxt_step (c := c) hcl h)
      generalize nxt c = r at hstep herr hns ⊢
      obtain ⟨fd, c', e⟩ := r
      simp only at hstep herr hns
      simp only [rev, R.av, upd_upd, h0, h8, h9, m23, m9, m10, eES, eEX, Nat.reduceBEq, Int.reduceLE, Int.reduceLT, Int.reduceToNat, Int.reduceEq, ↓reduceIte, reduceCtorEq, Nat.reducePow, Nat.reduceAdd, Nat.reduceLeDiff, Nat.reduceLT, Nat.reduceSub, Nat.reduceEqDiff]
      by_cases he : e = 0
      · subst he
        obtain ⟨hS', hlt', hge⟩ := hstep rfl
        obtain ⟨⟨k, hk1, hk2, hk3⟩, _⟩ := hns rfl
        obtain ⟨q1, q2, q3, q4, q5⟩ := (hns rfl).left
        have hacc := hS'.acc
        have hal : (acc ++ [fd]).length = acc.length + 1 := by simp
        rw [hal] at hacc
        have hsn := (C.sound_iff c).1 hsnd
        have ea : c'.a = c.a + k := by rw [hk1]
        have ee : c'.e = c.e := by rw [hk1]
        have hsl := hS.len
        have hw : IntKind.i64.wrap (c.a + IntKind.i64.wrap (c'.a - c.a)) = c'.a := by
          simp only [wi64]; omega
        simp only [bne00, hw, C.av, h0, h8, h9, m23, m9, m10, eES, eEX, Nat.reduceBEq, Int.reduceLE, Int.reduceLT, Int.reduceToNat, Int.reduceEq, ↓reduceIte, reduceCtorEq, Nat.reducePow, Nat.reduceAdd, Nat.reduceLeDiff, Nat.reduceLT, Nat.reduceSub, Nat.reduceEqDiff]
        refine aops_bslA rfl rfl (by decide) rfl rfl ?_
        refine aops_app rfl (by simp only [m9, eES, eEX, Nat.reduceBEq, Int.reduceLE, Int.reduceLT, Int.reduceToNat, Int.reduceEq, ↓reduceIte, reduceCtorEq, Nat.reducePow, Nat.reduceAdd, Nat.reduceLeDiff, Nat.reduceLT, Nat.reduceSub, Nat.reduceEqDiff]) rfl (rsv_len acc).symm rfl rfl (by simp [maxLen]; omega) (by simp; omega) ?_
        simp only [h0, h8, h9, m23, m9, m10, eES, eEX, Nat.reduceBEq, Int.reduceLE, Int.reduceLT, Int.reduceToNat, Int.reduceEq, ↓reduceIte, reduceCtorEq, Nat.reducePow, Nat.reduceAdd, Nat.reduceLeDiff, Nat.reduceLT, Nat.reduceSub, Nat.reduceEqDiff]
        refine ⟨c'.left.toNat, by omega, _, _, c', acc ++ [fd], g + 1, rfl, rfl, hS', q1, by rw [ee, hend], ?_, ?_, ?_, ?_, ?_, ?_⟩
        · simp only [h0, eES, eEX, Nat.reduceBEq, Int.reduceLE, Int.reduceLT, Int.reduceToNat, Int.reduceEq, ↓reduceIte, reduceCtorEq, Nat.reducePow, Nat.reduceAdd, Nat.reduceLeDiff, Nat.reduceLT, Nat.reduceSub, Nat.reduceEqDiff]
        · simp only [h8, eES, eEX, Nat.reduceBEq, Int.reduceLE, Int.reduceLT, Int.reduceToNat, Int.reduceEq, ↓reduceIte, reduceCtorEq, Nat.reducePow, Nat.reduceAdd, Nat.reduceLeDiff, Nat.reduceLT, Nat.reduceSub, Nat.reduceEqDiff]
        · simp only [hal, eES, eEX, Nat.reduceBEq, Int.reduceLE, Int.reduceLT, Int.reduceToNat, Int.reduceEq, ↓reduceIte, reduceCtorEq, Nat.reducePow, Nat.reduceAdd, Nat.reduceLeDiff, Nat.reduceLT, Nat.reduceSub, Nat.reduceEqDiff]
        · simp only [C.av, eES, eEX, Nat.reduceBEq, Int.reduceLE, Int.reduceLT, Int.reduceToNat, Int.reduceEq, ↓reduceIte, reduceCtorEq, Nat.reducePow, Nat.reduceAdd, Nat.reduceLeDiff, Nat.reduceLT, Nat.reduceSub, Nat.reduceEqDiff]
        · simp only [rsv_append, eES, eEX, Nat.reduceBEq, Int.reduceLE, Int.reduceLT, Int.reduceToNat, Int.reduceEq, ↓reduceIte, reduceCtorEq, Nat.reducePow, Nat.reduceAdd, Nat.reduceLeDiff, Nat.reduceLT, Nat.reduceSub, Nat.reduceEqDiff]
          rfl
        · simp only [eES, eEX, Nat.reduceBEq, Int.reduceLE, Int.reduceLT, Int.reduceToNat, Int.reduceEq, ↓reduceIte, reduceCtorEq, Nat.reducePow, Nat.reduceAdd, Nat.reduceLeDiff, Nat.reduceLT, Nat.reduceSub, Nat.reduceEqDiff]
      · rw [herr he]
        simp only [bne0_t he, scv, rsv, C.av, h0, h8, h9, m23, m9, m10, eES, eEX, Nat.reduceBEq, Int.reduceLE, Int.reduceLT, Int.reduceToNat, Int.reduceEq, ↓reduceIte, reduceCtorEq, Nat.reducePow, Nat.reduceAdd, Nat.reduceLeDiff, Nat.reduceLT, Nat.reduceSub, Nat.reduceEqDiff]
    · have d0 : decide (c.a < (s.length : Int)) = false := by
        have := (C.sound_iff c).1 hsnd
        simp; omega
      have hd := hS.done hlt
      have hle : (0 + acc.length ≤ (rsv acc).length) = True := eq_true (by rw [rsv_len]; omega)
      have ht : List.take acc.length (rsv acc) = rsv acc := List.take_of_length_le (by rw [rsv_len]; exact Nat.le_refl _)
      simp only [d0, h0, h8, h9, m23, m9, m10, hd, scv, hle, ht, bne_self_eq_false, eES, eEX, Nat.reduceBEq, Int.reduceLE, Int.reduceLT, Int.reduceToNat, Int.reduceEq, ↓reduceIte, reduceCtorEq, Nat.reducePow, Nat.reduceAdd, Nat.reduceLeDiff, Nat.reduceLT, Nat.reduceSub, Nat.reduceEqDiff]
      rfl
  · rw [hsc he]
    simp only [bne0_t he, scv, rsv, List.map_nil, eES, eEX, Nat.reduceBEq, Int.reduceLE, Int.reduceLT, Int.reduceToNat, Int.reduceEq, ↓reduceIte, reduceCtorEq, Nat.reducePow, Nat.reduceAdd, Nat.reduceLeDiff, Nat.reduceLT, Nat.reduceSub, Nat.reduceEqDiff]

end Go.Proofs.Ytcmdlmcmefbkeaa.Va

/- The eight bytes of a number, as the program writes them. -/
set_option linter.unusedSimpArgs false
namespace Go.Proofs.Ytcmdlmcmefbkeaa.Va
open Go Am Rc Bt Vp Cp

def FixedI (u : Nat) (k : Nat) (st : St) : Prop :=
  ∃ f fr i, st = ⟨f, [fr], []⟩ ∧ k = 8 - i ∧ i ≤ 8 ∧ f 0 = .int .u64 (u : Nat) ∧ f 3 = .vec 0 5 1 0 8 false ∧ f 7 = .int .i64 8 ∧ f 8 = .int .i64 (i : Nat) ∧ fr 5 = .vec 1 1 (bytesAV (fx i u) ++ List.replicate (8 - i) (AV.int .u8 0))

theorem fx_byte (u i : Nat) (hi : i < 8) : IntKind.u8.wrap ((u : Int).fdiv (2 ^ min (8 * i) 64)) = ((UInt8.ofNat (u / 256 ^ i % 256)).toNat : Int) := by
  have hp : (256 : Nat) ^ i = 2 ^ (8 * i) := by rw [Nat.pow_mul]
  rw [Nat.min_eq_left (by omega), Int.fdiv_eq_ediv_of_nonneg _ (Int.le_of_lt (Int.pow_pos (by decide))), toNat_ofNat _ (Nat.mod_lt _ (by decide)), hp, wu8]
  have : (u : Int) / 2 ^ (8 * i) = ((u / 2 ^ (8 * i) : Nat) : Int) := by push_cast; rfl
  rw [this]
  omega

theorem c44 (u : Nat) : Fn1 Try.prog 44 [.int .u64 u] (.str (fx 8 u)) := by
  refine fn1_of_awp (rc := r44) (rs := o44) Try.func44 rfl rfl Try.ntmps44 k44 q44 (by simp) ?_
  simp only [g44_0, g44_1, g44_2, g44_3, g44_4, g44_5, g44_6, g44_7, r44, o44, eES, eEX, Nat.reduceBEq, Int.reduceLE, Int.reduceLT, Int.reduceToNat, Int.reduceEq, ↓reduceIte, reduceCtorEq, Nat.reducePow, Nat.reduceAdd, Nat.reduceLeDiff, Nat.reduceLT, Nat.reduceSub, Nat.reduceEqDiff]
  refine aops_mk (n := 8) (k := 8) rfl rfl (Nat.le_refl _) (by decide) (by decide) rfl ?_
  simp only [eES, eEX, Nat.reduceBEq, Int.reduceLE, Int.reduceLT, Int.reduceToNat, Int.reduceEq, ↓reduceIte, reduceCtorEq, Nat.reducePow, Nat.reduceAdd, Nat.reduceLeDiff, Nat.reduceLT, Nat.reduceSub, Nat.reduceEqDiff]
  refine awp_loop (FixedI u) 8 ?_ ?_
  · exact ⟨_, _, 0, rfl, rfl, by omega, rfl, rfl, rfl, rfl, rfl⟩
  rintro n st ⟨f, fr, i, rfl, rfl, hi, h0, h3, h7, h8, m5⟩
  simp only [l44_0, g44_0, g44_1, g44_2, g44_3, g44_4, g44_5, g44_6, g44_7, r44, o44, h0, h3, h7, h8, m5, eES, eEX, Nat.reduceBEq, Int.reduceLE, Int.reduceLT, Int.reduceToNat, Int.reduceEq, ↓reduceIte, reduceCtorEq, Nat.reducePow, Nat.reduceAdd, Nat.reduceLeDiff, Nat.reduceLT, Nat.reduceSub, Nat.reduceEqDiff]
  have hlen : (bytesAV (fx i u)).length = i := by simp [bytesAV, fx_len]
  by_cases hlt : i < 8
  · have d0 : decide ((i : Int) < 8) = true := by simp; omega
    have e0 : IntKind.i64.wrap (8 * (i : Int)) = ((8 * i : Nat) : Int) := by rw [wi64]; omega
    have n0 : (0 ≤ ((8 * i : Nat) : Int)) = True := eq_true (by omega)
    have n1 : (0 ≤ (i : Int)) = True := by simp
    have n2 : (i < 8) = True := eq_true hlt
    have e1 : IntKind.i64.wrap ((i : Int) + 1) = ((i + 1 : Nat) : Int) := by rw [wi64]; omega
    have hb := fx_byte u i hlt
    obtain ⟨j, hj⟩ : ∃ j, 8 - i = j + 1 := ⟨7 - i, by omega⟩
    have hget : (bytesAV (fx i u) ++ List.replicate (8 - i) (AV.int .u8 0))[0 + i]? = some (.int .u8 0) := by
      rw [Nat.zero_add, List.getElem?_append_right (by omega), hlen, Nat.sub_self, hj]
      rfl
    have hset : (bytesAV (fx i u) ++ List.replicate (8 - i) (AV.int .u8 0)).set (0 + i) (AV.int .u8 ((UInt8.ofNat (u / 256 ^ i % 256)).toNat : Int)) = bytesAV (fx (i + 1) u) ++ List.replicate (8 - (i + 1)) (AV.int .u8 0) := by
      rw [Nat.zero_add, fx_snoc, List.set_append_right _ _ (by omega), hlen, Nat.sub_self, hj, show 8 - (i + 1) = j by omega]
      simp [bytesAV, List.replicate_succ]
    simp only [d0, e0, n0, n1, n2, e1, hb, Int.toNat_natCast, aiaddr, hget, newElem, AV.rfL, AV.rf, hset, h0, h3, h7, h8, m5, eES, eEX, Nat.reduceBEq, Int.reduceLE, Int.reduceLT, Int.reduceToNat, Int.reduceEq, ↓reduceIte, reduceCtorEq, Nat.reducePow, Nat.reduceAdd, Nat.reduceLeDiff, Nat.reduceLT, Nat.reduceSub, Nat.reduceEqDiff]
    exact ⟨8 - (i + 1), by omega, _, _, i + 1, rfl, rfl, by omega, by simp only [h0, eES, eEX, Nat.reduceBEq, Int.reduceLE, Int.reduceLT, Int.reduceToNat, Int.reduceEq, ↓reduceIte, reduceCtorEq, Nat.reducePow, Nat.reduceAdd, Nat.reduceLeDiff, Nat.reduceLT, Nat.reduceSub, Nat.reduceEqDiff], by simp only [h3, eES, eEX, Nat.reduceBEq, Int.reduceLE, Int.reduceLT, Int.reduceToNat, Int.reduceEq, ↓reduceIte, reduceCtorEq, Nat.reducePow, Nat.reduceAdd, Nat.reduceLeDiff, Nat.reduceLT, Nat.reduceSub, Nat.reduceEqDiff], by simp only [h7, eES, eEX, Nat.reduceBEq, Int.reduceLE, Int.reduceLT, Int.reduceToNat, Int.reduceEq, ↓reduceIte, reduceCtorEq, Nat.reducePow, Nat.reduceAdd, Nat.reduceLeDiff, Nat.reduceLT, Nat.reduceSub, Nat.reduceEqDiff], by simp only [eES, eEX, Nat.reduceBEq, Int.reduceLE, Int.reduceLT, Int.reduceToNat, Int.reduceEq, ↓reduceIte, reduceCtorEq, Nat.reducePow, Nat.reduceAdd, Nat.reduceLeDiff, Nat.reduceLT, Nat.reduceSub, Nat.reduceEqDiff], by simp only [eES, eEX, Nat.reduceBEq, Int.reduceLE, Int.reduceLT, Int.reduceToNat, Int.reduceEq, ↓reduceIte, reduceCtorEq, Nat.reducePow, Nat.reduceAdd, Nat.reduceLeDiff, Nat.reduceLT, Nat.reduceSub, Nat.reduceEqDiff]⟩
  · have hi8 : i = 8 := by omega
    subst hi8
    have d0 : decide (((8 : Nat) : Int) < 8) = false := rfl
    have he := elems_own (m := []) (fr := fr) (site := 5) (g := 1) (sz := 1) (n := 8) (q := false) m5 (by simp [bytesAV, fx_len])
    have hbo : bytesOf (bytesAV (fx 8 u) ++ List.replicate (8 - 8) (AV.int .u8 0)) = some (fx 8 u) := by
      rw [Nat.sub_self, List.replicate_zero, List.append_nil]
      exact bytesOf_bl _
    simp only [d0, he, hbo, h0, h3, h7, h8, m5, eES, eEX, Nat.reduceBEq, Int.reduceLE, Int.reduceLT, Int.reduceToNat, Int.reduceEq, ↓reduceIte, reduceCtorEq, Nat.reducePow, Nat.reduceAdd, Nat.reduceLeDiff, Nat.reduceLT, Nat.reduceSub, Nat.reduceEqDiff]

end Go.Proofs.Ytcmdlmcmefbkeaa.Va

/- Raw fields: whether one is valid; eight bytes; comparing; the builder of texts. -/
set_option linter.unusedSimpArgs false
namespace Go.Proofs.Ytcmdlmcmefbkeaa.Va
open Go Am Rc Bt Vp Cp Up

def valid (f : R) : Bool := (tag f.num f.wire).2 == 0 && (if number f.wire then f.data == [] else f.bits == 0)

theorem natbeq0 (n : Nat) : (((n : Nat) : Int) == 0) = (n == 0) := by
  by_cases h : n = 0
  · subst h; rfl
  · rw [beq_eq_false_iff_ne.2 h, beq_eq_false_iff_ne.2 (by omega)]

theorem c21 (f : R) : Fn1 Try.prog 21 [f.av] (.bool (valid f)) := by
  refine fn1_of_awp (rc := r21) (rs := o21) Try.func21 rfl rfl Try.ntmps21 k21 q21 (by simp) ?_
  simp only [g21_0, g21_1, g21_2, g21_3, g21_4, g21_5, g21_6, r21, o21, R.av, eES, eEX, Nat.reduceBEq, Int.reduceLE, Int.reduceLT, Int.reduceToNat, Int.reduceEq, ↓reduceIte, reduceCtorEq, Nat.reducePow, Nat.reduceAdd, Nat.reduceLeDiff, Nat.reduceLT, Nat.reduceSub, Nat.reduceEqDiff]
  refine aops_call (c10 f.num f.wire) rfl rfl rfl (.inl rfl) ?_
  unfold valid
  generalize tag f.num f.wire = t
  obtain ⟨s, e⟩ := t
  simp only [tagv, eES, eEX, Nat.reduceBEq, Int.reduceLE, Int.reduceLT, Int.reduceToNat, Int.reduceEq, ↓reduceIte, reduceCtorEq, Nat.reducePow, Nat.reduceAdd, Nat.reduceLeDiff, Nat.reduceLT, Nat.reduceSub, Nat.reduceEqDiff]
  by_cases he : e = 0
  · subst he
    simp only [bne00, eES, eEX, Nat.reduceBEq, Int.reduceLE, Int.reduceLT, Int.reduceToNat, Int.reduceEq, ↓reduceIte, reduceCtorEq, Nat.reducePow, Nat.reduceAdd, Nat.reduceLeDiff, Nat.reduceLT, Nat.reduceSub, Nat.reduceEqDiff]
    refine aops_call (c42 f.wire) rfl rfl rfl (.inl rfl) ?_
    cases hn : number f.wire with
    | true =>
      simp only [astr, beq_self_eq_true, eES, eEX, Nat.reduceBEq, Int.reduceLE, Int.reduceLT, Int.reduceToNat, Int.reduceEq, ↓reduceIte, reduceCtorEq, Nat.reducePow, Nat.reduceAdd, Nat.reduceLeDiff, Nat.reduceLT, Nat.reduceSub, Nat.reduceEqDiff]
    | false =>
      simp only [natbeq0, beq_self_eq_true, eES, eEX, Nat.reduceBEq, Int.reduceLE, Int.reduceLT, Int.reduceToNat, Int.reduceEq, ↓reduceIte, reduceCtorEq, Nat.reducePow, Nat.reduceAdd, Nat.reduceLeDiff, Nat.reduceLT, Nat.reduceSub, Nat.reduceEqDiff]
  · simp only [bne0_t he, eES, eEX, Nat.reduceBEq, Int.reduceLE, Int.reduceLT, Int.reduceToNat, Int.reduceEq, ↓reduceIte, reduceCtorEq, Nat.reducePow, Nat.reduceAdd, Nat.reduceLeDiff, Nat.reduceLT, Nat.reduceSub, Nat.reduceEqDiff]
    simp [he]

theorem c24 (f : R) : Fn1 Try.prog 24 [f.av] (.bool (valid f)) := by
  refine fn1_of_awp (rc := r24) (rs := o24) Try.func24 rfl rfl Try.ntmps24 k24 q24 (by simp) ?_
  simp only [g24_0, g24_1, g24_2, g24_3, g24_4, r24, o24, R.av, eES, eEX, Nat.reduceBEq, Int.reduceLE, Int.reduceLT, Int.reduceToNat, Int.reduceEq, ↓reduceIte, reduceCtorEq, Nat.reducePow, Nat.reduceAdd, Nat.reduceLeDiff, Nat.reduceLT, Nat.reduceSub, Nat.reduceEqDiff]
  refine aops_call (c11 f.num f.wire) rfl rfl rfl (.inl rfl) ?_
  unfold valid
  generalize tag f.num f.wire = t
  obtain ⟨s, e⟩ := t
  simp only [tagv, eES, eEX, Nat.reduceBEq, Int.reduceLE, Int.reduceLT, Int.reduceToNat, Int.reduceEq, ↓reduceIte, reduceCtorEq, Nat.reducePow, Nat.reduceAdd, Nat.reduceLeDiff, Nat.reduceLT, Nat.reduceSub, Nat.reduceEqDiff]
  refine aops_call (c46 f.wire) rfl rfl rfl (.inl rfl) ?_
  by_cases he : e = 0
  · have h1 : ((e : Int) == 0) = true := by simp [he]
    cases hn : number f.wire with
    | true => simp only [h1, show (e == 0) = true by simp [he], astr, beq_self_eq_true, eES, eEX, Nat.reduceBEq, Int.reduceLE, Int.reduceLT, Int.reduceToNat, Int.reduceEq, ↓reduceIte, reduceCtorEq, Nat.reducePow, Nat.reduceAdd, Nat.reduceLeDiff, Nat.reduceLT, Nat.reduceSub, Nat.reduceEqDiff]
    | false => simp only [h1, show (e == 0) = true by simp [he], natbeq0, beq_self_eq_true, eES, eEX, Nat.reduceBEq, Int.reduceLE, Int.reduceLT, Int.reduceToNat, Int.reduceEq, ↓reduceIte, reduceCtorEq, Nat.reducePow, Nat.reduceAdd, Nat.reduceLeDiff, Nat.reduceLT, Nat.reduceSub, Nat.reduceEqDiff]
  · have h1 : ((e : Int) == 0) = false := by simp; omega
    have h2 : (e == 0) = false := by simp [he]
    cases hn : number f.wire with
    | true => simp only [h1, h2, Bool.false_and, eES, eEX, Nat.reduceBEq, Int.reduceLE, Int.reduceLT, Int.reduceToNat, Int.reduceEq, ↓reduceIte, reduceCtorEq, Nat.reducePow, Nat.reduceAdd, Nat.reduceLeDiff, Nat.reduceLT, Nat.reduceSub, Nat.reduceEqDiff]
    | false => simp only [h1, h2, Bool.false_and, eES, eEX, Nat.reduceBEq, Int.reduceLE, Int.reduceLT, Int.reduceToNat, Int.reduceEq, ↓reduceIte, reduceCtorEq, Nat.reducePow, Nat.reduceAdd, Nat.reduceLeDiff, Nat.reduceLT, Nat.reduceSub, Nat.reduceEqDiff]

/-- wide's limits. -/
def wl : L := ⟨1073741824, 0, 1073741824, 1073741824⟩

theorem c23 : Fn1 Try.prog 23 [] wl.av := by
  refine fn1_of_awp (rc := r23) (rs := o23) Try.func23 rfl rfl Try.ntmps23 k23 q23 (by simp) ?_
  simp only [g23_0, g23_1, r23, o23, L.av, wl, eES, eEX, Nat.reduceBEq, Int.reduceLE, Int.reduceLT, Int.reduceToNat, Int.reduceEq, ↓reduceIte, reduceCtorEq, Nat.reducePow, Nat.reduceAdd, Nat.reduceLeDiff, Nat.reduceLT, Nat.reduceSub, Nat.reduceEqDiff]

end Go.Proofs.Ytcmdlmcmefbkeaa.Va

/- The builder of texts: what its methods do to a builder of ours. -/
set_option linter.unusedSimpArgs false
namespace Go.Proofs.Ytcmdlmcmefbkeaa.Va
open Go Am Rc Bt Vp Cp Up

theorem c62 (p v : AV) (h fr : Nat → Ob) (m : Mem) (hs : fr 2071 = .cells [p, v]) (hp : p = .nilp ∨ p = .ptr 0 2071 0) :
    ACalls Try.prog 62 [.ptr 1 2071 0] (h :: fr :: m) fun x m1 => x = .tup [] ∧ m1 = h :: upd fr 2071 (.cells [.ptr 0 2071 0, v]) :: m := by
  refine acalls_of_awp (rc := r62) (rs := o62) Try.func62 rfl rfl Try.ntmps62 k62 q62 (by simp) ?_
  rcases hp with rfl | rfl
  · simp only [g62_0, g62_1, g62_2, r62, o62, hs, RR.evL, eES, eEX, Nat.reduceBEq, Int.reduceLE, Int.reduceLT, Int.reduceToNat, Int.reduceEq, ↓reduceIte, reduceCtorEq, Nat.reducePow, Nat.reduceAdd, Nat.reduceLeDiff, Nat.reduceLT, Nat.reduceSub, Nat.reduceEqDiff]
  · simp only [g62_0, g62_1, g62_2, r62, o62, hs, RR.evL, upd_eta _ _ _ hs, eES, eEX, Nat.reduceBEq, Int.reduceLE, Int.reduceLT, Int.reduceToNat, Int.reduceEq, ↓reduceIte, reduceCtorEq, Nat.reducePow, Nat.reduceAdd, Nat.reduceLeDiff, Nat.reduceLT, Nat.reduceSub, Nat.reduceEqDiff]

/-- A builder of ours that holds these bytes. -/
structure Bld (fr : Nat → Ob) (bs : List UInt8) : Prop where
  mk ::
  cell : ∃ p g, fr 2071 = .cells [p, .vec 0 2005 g 0 bs.length false] ∧ fr 2005 = .vec g 1 (bytesAV bs) ∧ (p = .nilp ∨ p = .ptr 0 2071 0)

def wrote (fr : Nat → Ob) (g : Nat) (bs : List UInt8) : Nat → Ob :=
  upd (upd fr 2005 (.vec g 1 (bytesAV bs))) 2071 (.cells [.ptr 0 2071 0, .vec 0 2005 g 0 bs.length false])

theorem wrote_bld (fr : Nat → Ob) (g : Nat) (bs : List UInt8) : Bld (wrote fr g bs) bs :=
  ⟨_, g, by rw [wrote, upd_same], by rw [wrote, upd_ne _ _ (by decide), upd_same], .inr rfl⟩

theorem wrote_ne {fr : Nat → Ob} {g : Nat} {bs : List UInt8} {s : Nat} (h1 : s ≠ 2005) (h2 : s ≠ 2071) : wrote fr g bs s = fr s := by
  rw [wrote, upd_ne _ _ h2, upd_ne _ _ h1]

theorem c43 (bs t : List UInt8) (fr : Nat → Ob) (m : Mem) (h : Bld fr bs) (hl : bs.length + t.length ≤ 140737488355328) :
    ∃ g, ACalls Try.prog 43 [.ptr 0 2071 0, .str t] (fr :: m) fun x m1 => x = .tup [.int .i64 (t.length : Int), .nili] ∧ m1 = wrote fr g (bs ++ t) :: m := by
  obtain ⟨p, g, h1, h2, h3⟩ := h.cell
  refine ⟨g + 1, ?_⟩
  refine acalls_of_awp (rc := r43) (rs := o43) Try.func43 rfl rfl Try.ntmps43 k43 q43 (by simp) ?_
  simp only [g43_0, g43_1, g43_2, g43_3, r43, o43, h1, h2, eES, eEX, Nat.reduceBEq, Int.reduceLE, Int.reduceLT, Int.reduceToNat, Int.reduceEq, ↓reduceIte, reduceCtorEq, Nat.reducePow, Nat.reduceAdd, Nat.reduceLeDiff, Nat.reduceLT, Nat.reduceSub, Nat.reduceEqDiff]
  refine aops_callF (c62 p _ _ fr m h1 h3) rfl ?_
  simp only [h1, h2, eES, eEX, Nat.reduceBEq, Int.reduceLE, Int.reduceLT, Int.reduceToNat, Int.reduceEq, ↓reduceIte, reduceCtorEq, Nat.reducePow, Nat.reduceAdd, Nat.reduceLeDiff, Nat.reduceLT, Nat.reduceSub, Nat.reduceEqDiff]
  refine aops_appS (xs := bytesAV bs) rfl (by simp only [h2, eES, eEX, Nat.reduceBEq, Int.reduceLE, Int.reduceLT, Int.reduceToNat, Int.reduceEq, ↓reduceIte, reduceCtorEq, Nat.reducePow, Nat.reduceAdd, Nat.reduceLeDiff, Nat.reduceLT, Nat.reduceSub, Nat.reduceEqDiff]) rfl (by simp [bytesAV]) rfl hl ?_
  have hb : bytesAV bs ++ bytesAV t = bytesAV (bs ++ t) := by simp [bytesAV]
  have hn : bs.length + t.length = (bs ++ t).length := by simp
  simp only [h1, h2, hb, hn, eES, eEX, Nat.reduceBEq, Int.reduceLE, Int.reduceLT, Int.reduceToNat, Int.reduceEq, ↓reduceIte, reduceCtorEq, Nat.reducePow, Nat.reduceAdd, Nat.reduceLeDiff, Nat.reduceLT, Nat.reduceSub, Nat.reduceEqDiff]
  rw [upd_comm _ _ _ _ _ (by decide), upd_upd, upd_comm _ _ _ _ _ (by decide), wrote]

/-- The text that a builder holds. The builder is used up. -/
def spent (fr : Nat → Ob) (bs : List UInt8) : Nat → Ob :=
  if bs.length = 0 then fr else match fr 2005 with
    | .vec g _ _ => upd fr 2005 (.vec (g + 1) 1 [])
    | _ => fr

theorem c45 (bs : List UInt8) (fr : Nat → Ob) (m : Mem) (h : Bld fr bs) (hl : bs.length ≤ 140737488355328) :
    ACalls Try.prog 45 [.ptr 0 2071 0] (fr :: m) fun x m1 => x = .str bs ∧ m1 = spent fr bs :: m := by
  obtain ⟨p, g, h1, h2, h3⟩ := h.cell
  refine acalls_of_awp (rc := r45) (rs := o45) Try.func45 rfl rfl Try.ntmps45 k45 q45 (by simp) ?_
  simp only [g45_0, g45_1, r45, o45, h1, h2, eES, eEX, Nat.reduceBEq, Int.reduceLE, Int.reduceLT, Int.reduceToNat, Int.reduceEq, ↓reduceIte, reduceCtorEq, Nat.reducePow, Nat.reduceAdd, Nat.reduceLeDiff, Nat.reduceLT, Nat.reduceSub, Nat.reduceEqDiff]
  refine ⟨1, 2005, g, bs.length, 1, bytesAV bs, by decide, rfl, h2, ?_⟩
  by_cases h0 : bs.length = 0
  · have hb : bs = [] := List.eq_nil_of_length_eq_zero h0
    subst hb
    simp only [updO, h1, h2, List.length_nil, Int.natCast_zero, eES, eEX, Nat.reduceBEq, Int.reduceLE, Int.reduceLT, Int.reduceToNat, Int.reduceEq, ↓reduceIte, reduceCtorEq, Nat.reducePow, Nat.reduceAdd, Nat.reduceLeDiff, Nat.reduceLT, Nat.reduceSub, Nat.reduceEqDiff]
    refine .inl ⟨rfl, rfl, ?_⟩
    simp only [updO, h1, h2, spent, List.length_nil, eES, eEX, Nat.reduceBEq, Int.reduceLE, Int.reduceLT, Int.reduceToNat, Int.reduceEq, ↓reduceIte, reduceCtorEq, Nat.reducePow, Nat.reduceAdd, Nat.reduceLeDiff, Nat.reduceLT, Nat.reduceSub, Nat.reduceEqDiff]
  · simp only [h0, updO, h1, h2, eES, eEX, Nat.reduceBEq, Int.reduceLE, Int.reduceLT, Int.reduceToNat, Int.reduceEq, ↓reduceIte, reduceCtorEq, Nat.reducePow, Nat.reduceAdd, Nat.reduceLeDiff, Nat.reduceLT, Nat.reduceSub, Nat.reduceEqDiff]
    refine .inr ⟨1, g, bs.length, bytesAV bs, bs, rfl, rfl, h2, by simp [bytesAV], h0, List.take_of_length_le (by simp [bytesAV]), ?_⟩
    simp only [h0, updO, h1, h2, spent, eES, eEX, Nat.reduceBEq, Int.reduceLE, Int.reduceLT, Int.reduceToNat, Int.reduceEq, ↓reduceIte, reduceCtorEq, Nat.reducePow, Nat.reduceAdd, Nat.reduceLeDiff, Nat.reduceLT, Nat.reduceSub, Nat.reduceEqDiff]

end Go.Proofs.Ytcmdlmcmefbkeaa.Va

/- Raw fields: their bytes. -/
set_option linter.unusedSimpArgs false
namespace Go.Proofs.Ytcmdlmcmefbkeaa.Va
open Go Am Rc Bt Vp Cp Up

/-- The bytes of a field. -/
def body (f : R) : List UInt8 := if f.wire = 2 then fx 8 f.bits else if number f.wire then Vp.put f.bits else Vp.put f.data.length ++ f.data
def ptf (f : R) : List UInt8 := if valid f then (tag f.num f.wire).1 ++ body f else []
def putl (l : List R) : List UInt8 := l.flatMap ptf

theorem Bld.drop {fr : Nat → Ob} {bs : List UInt8} (h : Bld fr bs) : Bld (upd (fun i => (fr i).scrub 5) 5 .none) bs := by
  obtain ⟨p, g, h1, h2, h3⟩ := h.cell
  refine ⟨p, g, ?_, ?_, h3⟩
  · rw [upd_ne _ _ (by decide), h1]
    rcases h3 with rfl | rfl <;> rfl
  · rw [upd_ne _ _ (by decide), h2]
    rfl

theorem Bld.put {fr : Nat → Ob} {bs : List UInt8} (h : Bld fr bs) (o : Ob) : Bld (upd fr 5 o) bs := by
  obtain ⟨p, g, h1, h2, h3⟩ := h.cell
  exact ⟨p, g, by rw [upd_ne _ _ (by decide)]; exact h1, by rw [upd_ne _ _ (by decide)]; exact h2, h3⟩

def PutLI (l : List R) (k : Nat) (st : St) : Prop :=
  ∃ f fr i, st = ⟨f, [fr], []⟩ ∧ k = l.length - i ∧ i ≤ l.length ∧ f 3 = .ptr 0 2071 0 ∧ f 8 = .list (rsv l) ∧ f 9 = .int .i64 (l.length : Int) ∧ f 10 = .int .i64 (i : Nat) ∧ (fr 5).isRow = false ∧ Bld fr (putl (l.take i))

theorem putl_snoc (l : List R) (i : Nat) (fd : R) (h : l[i]? = some fd) : putl (l.take (i + 1)) = putl (l.take i) ++ ptf fd := by
  obtain ⟨hi, e⟩ := List.getElem?_eq_some_iff.1 h
  rw [List.take_succ_eq_append_getElem hi, e]
  simp [putl]

theorem putl_le (l : List R) (i : Nat) (fd : R) (h : l[i]? = some fd) : (putl (l.take i)).length + (ptf fd).length ≤ (putl l).length := by
  have e : putl l = putl (l.take (i + 1)) ++ putl (l.drop (i + 1)) := by
    unfold putl
    rw [← List.flatMap_append, List.take_append_drop]
  rw [e, putl_snoc l i fd h]
  simp

theorem c22 (l : List R) (hb : ∀ fd ∈ l, fd.bits < 18446744073709551616 ∧ fd.data.length < 9223372036854775807) (hn : l.length < 9223372036854775807) (hl : (putl l).length ≤ 140737488355328) : Fn1 Try.prog 22 [.list (rsv l)] (.str (putl l)) := by
  refine fn1_of_awp (rc := r22) (rs := o22) Try.func22 rfl rfl Try.ntmps22 k22 q22 (by simp) ?_
  simp only [g22_0, g22_1, g22_2, g22_3, g22_4, g22_5, g22_6, g22_7, g22_10, g22_11, g22_12, g22_13, g22_8, g22_9, g22_14, g22_15, r22, o22, eES, eEX, Nat.reduceBEq, Int.reduceLE, Int.reduceLT, Int.reduceToNat, Int.reduceEq, ↓reduceIte, reduceCtorEq, Nat.reducePow, Nat.reduceAdd, Nat.reduceLeDiff, Nat.reduceLT, Nat.reduceSub, Nat.reduceEqDiff]
  refine awp_vecc rfl rfl rfl rfl ?_
  simp only [rsv_len, eES, eEX, Nat.reduceBEq, Int.reduceLE, Int.reduceLT, Int.reduceToNat, Int.reduceEq, ↓reduceIte, reduceCtorEq, Nat.reducePow, Nat.reduceAdd, Nat.reduceLeDiff, Nat.reduceLT, Nat.reduceSub, Nat.reduceEqDiff]
  refine awp_loop (PutLI l) _ ⟨_, _, 0, rfl, rfl, Nat.zero_le _, rfl, rfl, rfl, rfl, rfl, ?_⟩ ?_
  · exact ⟨.nilp, 1, rfl, rfl, .inl rfl⟩
  rintro n st ⟨f, fr, i, rfl, rfl, hi, h3, h8, h9, h10, m5, hB⟩
  simp only [l22_0, g22_0, g22_1, g22_2, g22_3, g22_4, g22_5, g22_6, g22_7, g22_10, g22_11, g22_12, g22_13, g22_8, g22_9, g22_14, g22_15, r22, o22, h3, h8, h9, h10, m5, eES, eEX, Nat.reduceBEq, Int.reduceLE, Int.reduceLT, Int.reduceToNat, Int.reduceEq, ↓reduceIte, reduceCtorEq, Nat.reducePow, Nat.reduceAdd, Nat.reduceLeDiff, Nat.reduceLT, Nat.reduceSub, Nat.reduceEqDiff]
  by_cases hlt : i < l.length
  · obtain ⟨fd, hfd⟩ : ∃ fd, l[i]? = some fd := ⟨l[i], List.getElem?_eq_getElem hlt⟩
    have hmem := List.mem_of_getElem? hfd
    obtain ⟨hb1, hb2⟩ := hb fd hmem
    have hfa : (rsv l)[i]? = some fd.av := by simp [rsv, hfd]
    have hps := putl_snoc l i fd hfd
    have hple := putl_le l i fd hfd
    have d0 : decide ((i : Int) < (l.length : Int)) = true := by simp; omega
    have n0 : (0 ≤ (i : Int)) = True := by simp
    have e1 : IntKind.i64.wrap ((i : Int) + 1) = ((i + 1 : Nat) : Int) := by rw [wi64]; omega
    -- how a round ends
    have fin : ∀ (f' : Fr) (fr' : Nat → Ob) (bs' : List UInt8), f' 3 = .ptr 0 2071 0 → f' 8 = .list (rsv l) → f' 9 = .int .i64 (l.length : Int) → f' 10 = .int .i64 (((i + 1 : Nat) : Nat) : Int) → (fr' 5).isRow = false → Bld fr' bs' → bs' = putl (l.take i) ++ ptf fd → ∃ k, k < l.length - i ∧ PutLI l k ⟨f', [fr'], []⟩ := by
      intro f' fr' bs' g1 g2 g3 g4 g5 g6 g7
      exact ⟨l.length - (i + 1), by omega, f', fr', i + 1, rfl, rfl, by omega, g1, g2, g3, g4, g5, by rw [hps, ← g7]; exact g6⟩
    have hB1 := (hB.drop).put (.cells [.int .i64 fd.num, .int .i64 fd.wire, .int .u64 (fd.bits : Nat), .str fd.data])
    rw [upd_upd] at hB1
    simp only [d0, n0, Int.toNat_natCast, aiaddr, hfa, R.av, h3, h8, h9, h10, m5, eES, eEX, Nat.reduceBEq, Int.reduceLE, Int.reduceLT, Int.reduceToNat, Int.reduceEq, ↓reduceIte, reduceCtorEq, Nat.reducePow, Nat.reduceAdd, Nat.reduceLeDiff, Nat.reduceLT, Nat.reduceSub, Nat.reduceEqDiff]
    refine aops_call (c21 fd) rfl rfl rfl (.inl rfl) ?_
    cases hv : valid fd with
    | false =>
      simp only [e1, h3, h8, h9, h10, m5, eES, eEX, Nat.reduceBEq, Int.reduceLE, Int.reduceLT, Int.reduceToNat, Int.reduceEq, ↓reduceIte, reduceCtorEq, Nat.reducePow, Nat.reduceAdd, Nat.reduceLeDiff, Nat.reduceLT, Nat.reduceSub, Nat.reduceEqDiff]
      refine fin _ _ _ ?_ ?_ ?_ ?_ ?_ hB1 ?_
      · simp only [h3, eES, eEX, Nat.reduceBEq, Int.reduceLE, Int.reduceLT, Int.reduceToNat, Int.reduceEq, ↓reduceIte, reduceCtorEq, Nat.reducePow, Nat.reduceAdd, Nat.reduceLeDiff, Nat.reduceLT, Nat.reduceSub, Nat.reduceEqDiff]
      · simp only [h8, eES, eEX, Nat.reduceBEq, Int.reduceLE, Int.reduceLT, Int.reduceToNat, Int.reduceEq, ↓reduceIte, reduceCtorEq, Nat.reducePow, Nat.reduceAdd, Nat.reduceLeDiff, Nat.reduceLT, Nat.reduceSub, Nat.reduceEqDiff]
      · simp only [h9, eES, eEX, Nat.reduceBEq, Int.reduceLE, Int.reduceLT, Int.reduceToNat, Int.reduceEq, ↓reduceIte, reduceCtorEq, Nat.reducePow, Nat.reduceAdd, Nat.reduceLeDiff, Nat.reduceLT, Nat.reduceSub, Nat.reduceEqDiff]
      · simp only [eES, eEX, Nat.reduceBEq, Int.reduceLE, Int.reduceLT, Int.reduceToNat, Int.reduceEq, ↓reduceIte, reduceCtorEq, Nat.reducePow, Nat.reduceAdd, Nat.reduceLeDiff, Nat.reduceLT, Nat.reduceSub, Nat.reduceEqDiff]
      · simp only [eES, eEX, Nat.reduceBEq, Int.reduceLE, Int.reduceLT, Int.reduceToNat, Int.reduceEq, ↓reduceIte, reduceCtorEq, Nat.reducePow, Nat.reduceAdd, Nat.reduceLeDiff, Nat.reduceLT, Nat.reduceSub, Nat.reduceEqDiff]
      · simp [ptf, hv]
    | true =>
      simp only [h3, h8, h9, h10, m5, eES, eEX, Nat.reduceBEq, Int.reduceLE, Int.reduceLT, Int.reduceToNat, Int.reduceEq, ↓reduceIte, reduceCtorEq, Nat.reducePow, Nat.reduceAdd, Nat.reduceLeDiff, Nat.reduceLT, Nat.reduceSub, Nat.reduceEqDiff]
      refine aops_call (c10 fd.num fd.wire) rfl rfl rfl (.inl rfl) ?_
      simp only [tagv, h3, h8, h9, h10, m5, eES, eEX, Nat.reduceBEq, Int.reduceLE, Int.reduceLT, Int.reduceToNat, Int.reduceEq, ↓reduceIte, reduceCtorEq, Nat.reducePow, Nat.reduceAdd, Nat.reduceLeDiff, Nat.reduceLT, Nat.reduceSub, Nat.reduceEqDiff]
      have hp : ptf fd = (tag fd.num fd.wire).1 ++ body fd := by simp [ptf, hv]
      have hpl := congrArg List.length hp
      rw [List.length_append] at hpl
      have hbl : ∀ x : Nat, x ≤ (body fd).length → (putl (l.take i)).length + (tag fd.num fd.wire).1.length + x ≤ 140737488355328 := by intro x hx; omega
      have hbody : body fd = if fd.wire = 2 then fx 8 fd.bits else if number fd.wire then Vp.put fd.bits else Vp.put fd.data.length ++ fd.data := rfl
      obtain ⟨g1, hw1⟩ := c43 (putl (l.take i)) (tag fd.num fd.wire).1 _ [] hB1 (by have := hbl 0 (by omega); omega)
      refine aops_callF hw1 (by simp only [List.map_cons, h3, eES, eEX, Nat.reduceBEq, Int.reduceLE, Int.reduceLT, Int.reduceToNat, Int.reduceEq, ↓reduceIte, reduceCtorEq, Nat.reducePow, Nat.reduceAdd, Nat.reduceLeDiff, Nat.reduceLT, Nat.reduceSub, Nat.reduceEqDiff]) ?_
      have B2 := wrote_bld (upd (fun i => (fr i).scrub 5) 5 (.cells [.int .i64 fd.num, .int .i64 fd.wire, .int .u64 (fd.bits : Nat), .str fd.data])) g1 (putl (l.take i) ++ (tag fd.num fd.wire).1)
      have w5 : wrote (upd (fun i => (fr i).scrub 5) 5 (.cells [.int .i64 fd.num, .int .i64 fd.wire, .int .u64 (fd.bits : Nat), .str fd.data])) g1 (putl (l.take i) ++ (tag fd.num fd.wire).1) 5 = .cells [.int .i64 fd.num, .int .i64 fd.wire, .int .u64 (fd.bits : Nat), .str fd.data] := by
        rw [wrote_ne (by decide) (by decide), upd_same]
      have hlen2 : (putl (l.take i) ++ (tag fd.num fd.wire).1).length = (putl (l.take i)).length + (tag fd.num fd.wire).1.length := by simp
      generalize hfr2 : wrote (upd (fun i => (fr i).scrub 5) 5 (.cells [.int .i64 fd.num, .int .i64 fd.wire, .int .u64 (fd.bits : Nat), .str fd.data])) g1 (putl (l.take i) ++ (tag fd.num fd.wire).1) = fr2 at B2 w5
      simp only [hfr2, w5, h3, h8, h9, h10, m5, eES, eEX, Nat.reduceBEq, Int.reduceLE, Int.reduceLT, Int.reduceToNat, Int.reduceEq, ↓reduceIte, reduceCtorEq, Nat.reducePow, Nat.reduceAdd, Nat.reduceLeDiff, Nat.reduceLT, Nat.reduceSub, Nat.reduceEqDiff]
      by_cases w2 : fd.wire = 2
      · have dw : (fd.wire == 2) = true := by simpa using w2
        have hbo : body fd = fx 8 fd.bits := by rw [hbody, if_pos w2]
        simp only [dw, w5, h3, h8, h9, h10, eES, eEX, Nat.reduceBEq, Int.reduceLE, Int.reduceLT, Int.reduceToNat, Int.reduceEq, ↓reduceIte, reduceCtorEq, Nat.reducePow, Nat.reduceAdd, Nat.reduceLeDiff, Nat.reduceLT, Nat.reduceSub, Nat.reduceEqDiff]
        refine aops_call (c44 fd.bits) rfl rfl rfl (.inl rfl) ?_
        obtain ⟨g2, hw2⟩ := c43 _ (fx 8 fd.bits) _ [] B2 (by rw [hlen2]; exact hbl _ (by rw [hbo]; exact Nat.le_refl _))
        refine aops_callF hw2 (by simp only [List.map_cons, h3, eES, eEX, Nat.reduceBEq, Int.reduceLE, Int.reduceLT, Int.reduceToNat, Int.reduceEq, ↓reduceIte, reduceCtorEq, Nat.reducePow, Nat.reduceAdd, Nat.reduceLeDiff, Nat.reduceLT, Nat.reduceSub, Nat.reduceEqDiff]) ?_
        simp only [e1, w5, h3, h8, h9, h10, eES, eEX, Nat.reduceBEq, Int.reduceLE, Int.reduceLT, Int.reduceToNat, Int.reduceEq, ↓reduceIte, reduceCtorEq, Nat.reducePow, Nat.reduceAdd, Nat.reduceLeDiff, Nat.reduceLT, Nat.reduceSub, Nat.reduceEqDiff]
        refine fin _ _ _ ?_ ?_ ?_ ?_ ?_ (wrote_bld _ _ _) ?_
        · simp only [h3, eES, eEX, Nat.reduceBEq, Int.reduceLE, Int.reduceLT, Int.reduceToNat, Int.reduceEq, ↓reduceIte, reduceCtorEq, Nat.reducePow, Nat.reduceAdd, Nat.reduceLeDiff, Nat.reduceLT, Nat.reduceSub, Nat.reduceEqDiff]
        · simp only [h8, eES, eEX, Nat.reduceBEq, Int.reduceLE, Int.reduceLT, Int.reduceToNat, Int.reduceEq, ↓reduceIte, reduceCtorEq, Nat.reducePow, Nat.reduceAdd, Nat.reduceLeDiff, Nat.reduceLT, Nat.reduceSub, Nat.reduceEqDiff]
        · simp only [h9, eES, eEX, Nat.reduceBEq, Int.reduceLE, Int.reduceLT, Int.reduceToNat, Int.reduceEq, ↓reduceIte, reduceCtorEq, Nat.reducePow, Nat.reduceAdd, Nat.reduceLeDiff, Nat.reduceLT, Nat.reduceSub, Nat.reduceEqDiff]
        · simp only [eES, eEX, Nat.reduceBEq, Int.reduceLE, Int.reduceLT, Int.reduceToNat, Int.reduceEq, ↓reduceIte, reduceCtorEq, Nat.reducePow, Nat.reduceAdd, Nat.reduceLeDiff, Nat.reduceLT, Nat.reduceSub, Nat.reduceEqDiff]
        · rw [wrote_ne (by decide) (by decide), w5] <;> rfl
        · rw [hp, hbo, List.append_assoc]
      · have dw : (fd.wire == 2) = false := by simpa using w2
        simp only [dw, w5, h3, h8, h9, h10, eES, eEX, Nat.reduceBEq, Int.reduceLE, Int.reduceLT, Int.reduceToNat, Int.reduceEq, ↓reduceIte, reduceCtorEq, Nat.reducePow, Nat.reduceAdd, Nat.reduceLeDiff, Nat.reduceLT, Nat.reduceSub, Nat.reduceEqDiff]
        refine aops_call (c42 fd.wire) rfl rfl rfl (.inl rfl) ?_
        cases hnu : number fd.wire with
        | true =>
          have hbo : body fd = Vp.put fd.bits := by rw [hbody, if_neg w2, if_pos hnu]
          simp only [w5, h3, h8, h9, h10, eES, eEX, Nat.reduceBEq, Int.reduceLE, Int.reduceLT, Int.reduceToNat, Int.reduceEq, ↓reduceIte, reduceCtorEq, Nat.reducePow, Nat.reduceAdd, Nat.reduceLeDiff, Nat.reduceLT, Nat.reduceSub, Nat.reduceEqDiff]
          refine aops_call (c30 fd.bits hb1) rfl rfl rfl (.inl rfl) ?_
          obtain ⟨g2, hw2⟩ := c43 _ (Vp.put fd.bits) _ [] B2 (by rw [hlen2]; exact hbl _ (by rw [hbo]; exact Nat.le_refl _))
          refine aops_callF hw2 (by simp only [List.map_cons, h3, eES, eEX, Nat.reduceBEq, Int.reduceLE, Int.reduceLT, Int.reduceToNat, Int.reduceEq, ↓reduceIte, reduceCtorEq, Nat.reducePow, Nat.reduceAdd, Nat.reduceLeDiff, Nat.reduceLT, Nat.reduceSub, Nat.reduceEqDiff]) ?_
          simp only [e1, w5, h3, h8, h9, h10, eES, eEX, Nat.reduceBEq, Int.reduceLE, Int.reduceLT, Int.reduceToNat, Int.reduceEq, ↓reduceIte, reduceCtorEq, Nat.reducePow, Nat.reduceAdd, Nat.reduceLeDiff, Nat.reduceLT, Nat.reduceSub, Nat.reduceEqDiff]
          refine fin _ _ _ ?_ ?_ ?_ ?_ ?_ (wrote_bld _ _ _) ?_
          · simp only [h3, eES, eEX, Nat.reduceBEq, Int.reduceLE, Int.reduceLT, Int.reduceToNat, Int.reduceEq, ↓reduceIte, reduceCtorEq, Nat.reducePow, Nat.reduceAdd, Nat.reduceLeDiff, Nat.reduceLT, Nat.reduceSub, Nat.reduceEqDiff]
          · simp only [h8, eES, eEX, Nat.reduceBEq, Int.reduceLE, Int.reduceLT, Int.reduceToNat, Int.reduceEq, ↓reduceIte, reduceCtorEq, Nat.reducePow, Nat.reduceAdd, Nat.reduceLeDiff, Nat.reduceLT, Nat.reduceSub, Nat.reduceEqDiff]
          · simp only [h9, eES, eEX, Nat.reduceBEq, Int.reduceLE, Int.reduceLT, Int.reduceToNat, Int.reduceEq, ↓reduceIte, reduceCtorEq, Nat.reducePow, Nat.reduceAdd, Nat.reduceLeDiff, Nat.reduceLT, Nat.reduceSub, Nat.reduceEqDiff]
          · simp only [eES, eEX, Nat.reduceBEq, Int.reduceLE, Int.reduceLT, Int.reduceToNat, Int.reduceEq, ↓reduceIte, reduceCtorEq, Nat.reducePow, Nat.reduceAdd, Nat.reduceLeDiff, Nat.reduceLT, Nat.reduceSub, Nat.reduceEqDiff]
          · rw [wrote_ne (by decide) (by decide), w5] <;> rfl
          · rw [hp, hbo, List.append_assoc]
        | false =>
          have hbo : body fd = Vp.put fd.data.length ++ fd.data := by rw [hbody, if_neg w2, if_neg (by rw [hnu]; simp)]
          have hbn := congrArg List.length hbo
          rw [List.length_append] at hbn
          have eu : IntKind.u64.wrap (fd.data.length : Int) = (fd.data.length : Nat) := by rw [wu64]; omega
          simp only [eu, w5, h3, h8, h9, h10, eES, eEX, Nat.reduceBEq, Int.reduceLE, Int.reduceLT, Int.reduceToNat, Int.reduceEq, ↓reduceIte, reduceCtorEq, Nat.reducePow, Nat.reduceAdd, Nat.reduceLeDiff, Nat.reduceLT, Nat.reduceSub, Nat.reduceEqDiff]
          refine aops_call (c30 fd.data.length (by omega)) rfl rfl rfl (.inl rfl) ?_
          obtain ⟨g2, hw2⟩ := c43 _ (Vp.put fd.data.length) _ [] B2 (by rw [hlen2]; exact hbl _ (by omega))
          refine aops_callF hw2 (by simp only [List.map_cons, h3, eES, eEX, Nat.reduceBEq, Int.reduceLE, Int.reduceLT, Int.reduceToNat, Int.reduceEq, ↓reduceIte, reduceCtorEq, Nat.reducePow, Nat.reduceAdd, Nat.reduceLeDiff, Nat.reduceLT, Nat.reduceSub, Nat.reduceEqDiff]) ?_
          have B3 := wrote_bld fr2 g2 (putl (l.take i) ++ (tag fd.num fd.wire).1 ++ Vp.put fd.data.length)
          have w6 : wrote fr2 g2 (putl (l.take i) ++ (tag fd.num fd.wire).1 ++ Vp.put fd.data.length) 5 = .cells [.int .i64 fd.num, .int .i64 fd.wire, .int .u64 (fd.bits : Nat), .str fd.data] := by
            rw [wrote_ne (by decide) (by decide), w5]
          have hlen3 : (putl (l.take i) ++ (tag fd.num fd.wire).1 ++ Vp.put fd.data.length).length = (putl (l.take i)).length + (tag fd.num fd.wire).1.length + (Vp.put fd.data.length).length := by simp; omega
          generalize hfr3 : wrote fr2 g2 (putl (l.take i) ++ (tag fd.num fd.wire).1 ++ Vp.put fd.data.length) = fr3 at B3 w6
          simp only [hfr3, w6, h3, h8, h9, h10, eES, eEX, Nat.reduceBEq, Int.reduceLE, Int.reduceLT, Int.reduceToNat, Int.reduceEq, ↓reduceIte, reduceCtorEq, Nat.reducePow, Nat.reduceAdd, Nat.reduceLeDiff, Nat.reduceLT, Nat.reduceSub, Nat.reduceEqDiff]
          obtain ⟨g3, hw3⟩ := c43 _ fd.data _ [] B3 (by rw [hlen3]; have := hbl (body fd).length (Nat.le_refl _); omega)
          refine aops_callF hw3 (by simp only [List.map_cons, h3, eES, eEX, Nat.reduceBEq, Int.reduceLE, Int.reduceLT, Int.reduceToNat, Int.reduceEq, ↓reduceIte, reduceCtorEq, Nat.reducePow, Nat.reduceAdd, Nat.reduceLeDiff, Nat.reduceLT, Nat.reduceSub, Nat.reduceEqDiff]) ?_
          simp only [e1, w6, h3, h8, h9, h10, eES, eEX, Nat.reduceBEq, Int.reduceLE, Int.reduceLT, Int.reduceToNat, Int.reduceEq, ↓reduceIte, reduceCtorEq, Nat.reducePow, Nat.reduceAdd, Nat.reduceLeDiff, Nat.reduceLT, Nat.reduceSub, Nat.reduceEqDiff]
          refine fin _ _ _ ?_ ?_ ?_ ?_ ?_ (wrote_bld _ _ _) ?_
          · simp only [h3, eES, eEX, Nat.reduceBEq, Int.reduceLE, Int.reduceLT, Int.reduceToNat, Int.reduceEq, ↓reduceIte, reduceCtorEq, Nat.reducePow, Nat.reduceAdd, Nat.reduceLeDiff, Nat.reduceLT, Nat.reduceSub, Nat.reduceEqDiff]
          · simp only [h8, eES, eEX, Nat.reduceBEq, Int.reduceLE, Int.reduceLT, Int.reduceToNat, Int.reduceEq, ↓reduceIte, reduceCtorEq, Nat.reducePow, Nat.reduceAdd, Nat.reduceLeDiff, Nat.reduceLT, Nat.reduceSub, Nat.reduceEqDiff]
          · simp only [h9, eES, eEX, Nat.reduceBEq, Int.reduceLE, Int.reduceLT, Int.reduceToNat, Int.reduceEq, ↓reduceIte, reduceCtorEq, Nat.reducePow, Nat.reduceAdd, Nat.reduceLeDiff, Nat.reduceLT, Nat.reduceSub, Nat.reduceEqDiff]
          · simp only [eES, eEX, Nat.reduceBEq, Int.reduceLE, Int.reduceLT, Int.reduceToNat, Int.reduceEq, ↓reduceIte, reduceCtorEq, Nat.reducePow, Nat.reduceAdd, Nat.reduceLeDiff, Nat.reduceLT, Nat.reduceSub, Nat.reduceEqDiff]
          · rw [wrote_ne (by decide) (by decide), w6] <;> rfl
          · rw [hp, hbo, List.append_assoc, List.append_assoc]
  · have d0 : decide ((i : Int) < (l.length : Int)) = false := by simp; omega
    have hil : i = l.length := by omega
    subst hil
    rw [List.take_length] at hB
    simp only [d0, h3, h8, h9, h10, m5, eES, eEX, Nat.reduceBEq, Int.reduceLE, Int.reduceLT, Int.reduceToNat, Int.reduceEq, ↓reduceIte, reduceCtorEq, Nat.reducePow, Nat.reduceAdd, Nat.reduceLeDiff, Nat.reduceLT, Nat.reduceSub, Nat.reduceEqDiff]
    refine aops_callF (c45 (putl l) _ [] hB.drop hl) (by simp only [List.map_cons, h3, eES, eEX, Nat.reduceBEq, Int.reduceLE, Int.reduceLT, Int.reduceToNat, Int.reduceEq, ↓reduceIte, reduceCtorEq, Nat.reducePow, Nat.reduceAdd, Nat.reduceLeDiff, Nat.reduceLT, Nat.reduceSub, Nat.reduceEqDiff]) ?_
    simp only [h3, h8, h9, h10, m5, eES, eEX, Nat.reduceBEq, Int.reduceLE, Int.reduceLT, Int.reduceToNat, Int.reduceEq, ↓reduceIte, reduceCtorEq, Nat.reducePow, Nat.reduceAdd, Nat.reduceLeDiff, Nat.reduceLT, Nat.reduceSub, Nat.reduceEqDiff]

end Go.Proofs.Ytcmdlmcmefbkeaa.Va

/- The law's example; comparing lists; the laws of tags and of the next field. -/
set_option linter.unusedSimpArgs false
namespace Go.Proofs.Ytcmdlmcmefbkeaa.Va
open Go Am Rc Bt Vp Cp Up

theorem scan_ex : scan [8, 5, 19, 1, 97] wl = ([⟨1, 0, 5, []⟩, ⟨2, 3, 0, [97]⟩], 0) := by decide +kernel
theorem putl_ex : putl [⟨1, 0, 300, []⟩] = [8, 172, 2] := by decide +kernel

theorem c14 : Fn1 Try.prog 14 [] (.bool true) := by
  refine fn1_of_awp (rc := r14) (rs := o14) Try.func14 rfl rfl Try.ntmps14 k14 q14 (by simp) ?_
  simp only [g14_0, g14_1, g14_2, r14, o14, eES, eEX, Nat.reduceBEq, Int.reduceLE, Int.reduceLT, Int.reduceToNat, Int.reduceEq, ↓reduceIte, reduceCtorEq, Nat.reducePow, Nat.reduceAdd, Nat.reduceLeDiff, Nat.reduceLT, Nat.reduceSub, Nat.reduceEqDiff]
  refine aops_call c23 rfl rfl rfl (.inl rfl) ?_
  have h1 := c17 [8, 5, 19, 1, 97] wl (by decide)
  rw [scan_ex] at h1
  refine aops_call h1 rfl rfl rfl (.inl rfl) ?_
  have h2 := c22 [⟨1, 0, 300, []⟩] (by simp) (by simp) (by rw [putl_ex]; simp)
  rw [putl_ex] at h2
  simp only [scv, rsv, List.map_cons, R.av, aiaddr, Int.toNat_zero, Int.toNat_one, beq_self_eq_true, show ((((0 : Nat) : Int)) == 0) = true from rfl, show ((((2 : Nat) : Int)) == 2) = true from rfl, show ((((5 : Nat) : Int)) == 5) = true from rfl, show ((((0 + 1 + 1 : Nat) : Int)) == 2) = true from rfl, eES, eEX, Nat.reduceBEq, Int.reduceLE, Int.reduceLT, Int.reduceToNat, Int.reduceEq, ↓reduceIte, reduceCtorEq, Nat.reducePow, Nat.reduceAdd, Nat.reduceLeDiff, Nat.reduceLT, Nat.reduceSub, Nat.reduceEqDiff]
  refine aops_bslA rfl rfl (by decide) rfl rfl ?_
  simp only [eES, eEX, Nat.reduceBEq, Int.reduceLE, Int.reduceLT, Int.reduceToNat, Int.reduceEq, ↓reduceIte, reduceCtorEq, Nat.reducePow, Nat.reduceAdd, Nat.reduceLeDiff, Nat.reduceLT, Nat.reduceSub, Nat.reduceEqDiff]
  refine aops_call h2 rfl rfl rfl (.inl rfl) ?_
  simp only [astr, beq_self_eq_true, eES, eEX, Nat.reduceBEq, Int.reduceLE, Int.reduceLT, Int.reduceToNat, Int.reduceEq, ↓reduceIte, reduceCtorEq, Nat.reducePow, Nat.reduceAdd, Nat.reduceLeDiff, Nat.reduceLT, Nat.reduceSub, Nat.reduceEqDiff]

theorem cav_eq (c : C) : eqL [.str, .num, .num, .num, .num, .num] [.str c.d, .int .i64 c.a, .int .i64 c.e, .int .i64 c.dp, .int .i64 c.nd, .int .i64 c.tx] [.str c.d, .int .i64 c.a, .int .i64 c.e, .int .i64 c.dp, .int .i64 c.nd, .int .i64 c.tx] = some true := by
  simp [eqL, eq1]

theorem rav_eq (f : R) : eqL [.num, .num, .num, .str] [.int .i64 f.num, .int .i64 f.wire, .int .u64 (f.bits : Nat), .str f.data] [.int .i64 f.num, .int .i64 f.wire, .int .u64 (f.bits : Nat), .str f.data] = some true := by
  simp [eqL, eq1]

theorem c3 (n w : Int) (c : C) (hl : c.d.length ≤ 9223372036854770000) : Fn1 Try.prog 3 [.int .i64 n, .int .i64 w, c.av] (.bool true) := by
  refine fn1_of_awp (rc := r3) (rs := o3) Try.func3 rfl rfl Try.ntmps3 k3 q3 (by simp) ?_
  simp only [g3_0, g3_1, g3_2, g3_3, g3_4, g3_5, r3, o3, C.av, eES, eEX, Nat.reduceBEq, Int.reduceLE, Int.reduceLT, Int.reduceToNat, Int.reduceEq, ↓reduceIte, reduceCtorEq, Nat.reducePow, Nat.reduceAdd, Nat.reduceLeDiff, Nat.reduceLT, Nat.reduceSub, Nat.reduceEqDiff]
  refine aops_call (c10 n w) rfl rfl rfl (.inl rfl) ?_
  simp only [tagv, eES, eEX, Nat.reduceBEq, Int.reduceLE, Int.reduceLT, Int.reduceToNat, Int.reduceEq, ↓reduceIte, reduceCtorEq, Nat.reducePow, Nat.reduceAdd, Nat.reduceLeDiff, Nat.reduceLT, Nat.reduceSub, Nat.reduceEqDiff]
  refine aops_call (c11 n w) rfl rfl rfl (.inl rfl) ?_
  simp only [tagv, eES, eEX, Nat.reduceBEq, Int.reduceLE, Int.reduceLT, Int.reduceToNat, Int.reduceEq, ↓reduceIte, reduceCtorEq, Nat.reducePow, Nat.reduceAdd, Nat.reduceLeDiff, Nat.reduceLT, Nat.reduceSub, Nat.reduceEqDiff]
  refine aops_call (c12 c hl) rfl rfl rfl (.inl rfl) ?_
  simp only [ttv, C.av, eES, eEX, Nat.reduceBEq, Int.reduceLE, Int.reduceLT, Int.reduceToNat, Int.reduceEq, ↓reduceIte, reduceCtorEq, Nat.reducePow, Nat.reduceAdd, Nat.reduceLeDiff, Nat.reduceLT, Nat.reduceSub, Nat.reduceEqDiff]
  refine aops_call (c13 c (by omega)) rfl rfl rfl (.inl rfl) ?_
  simp only [ttv, C.av, astr, beq_self_eq_true, eES, eEX, Nat.reduceBEq, Int.reduceLE, Int.reduceLT, Int.reduceToNat, Int.reduceEq, ↓reduceIte, reduceCtorEq, Nat.reducePow, Nat.reduceAdd, Nat.reduceLeDiff, Nat.reduceLT, Nat.reduceSub, Nat.reduceEqDiff]
  refine aops_call c14 rfl rfl rfl (.inl rfl) ?_
  simp only [eES, eEX, Nat.reduceBEq, Int.reduceLE, Int.reduceLT, Int.reduceToNat, Int.reduceEq, ↓reduceIte, reduceCtorEq, Nat.reducePow, Nat.reduceAdd, Nat.reduceLeDiff, Nat.reduceLT, Nat.reduceSub, Nat.reduceEqDiff]

theorem c4 (c : C) (hl : c.d.length ≤ 9223372036854770000) : Fn1 Try.prog 4 [c.av] (.bool true) := by
  refine fn1_of_awp (rc := r4) (rs := o4) Try.func4 rfl rfl Try.ntmps4 k4 q4 (by simp) ?_
  simp only [g4_0, g4_1, g4_2, g4_3, r4, o4, C.av, eES, eEX, Nat.reduceBEq, Int.reduceLE, Int.reduceLT, Int.reduceToNat, Int.reduceEq, ↓reduceIte, reduceCtorEq, Nat.reducePow, Nat.reduceAdd, Nat.reduceLeDiff, Nat.reduceLT, Nat.reduceSub, Nat.reduceEqDiff]
  refine aops_call (c15 c hl) rfl rfl rfl (.inl rfl) ?_
  simp only [nxtv, R.av, C.av, eES, eEX, Nat.reduceBEq, Int.reduceLE, Int.reduceLT, Int.reduceToNat, Int.reduceEq, ↓reduceIte, reduceCtorEq, Nat.reducePow, Nat.reduceAdd, Nat.reduceLeDiff, Nat.reduceLT, Nat.reduceSub, Nat.reduceEqDiff]
  refine aops_call (c16 c hl) rfl rfl rfl (.inl rfl) ?_
  simp only [nxtv, R.av, C.av, astr, beq_self_eq_true, eES, eEX, Nat.reduceBEq, Int.reduceLE, Int.reduceLT, Int.reduceToNat, Int.reduceEq, ↓reduceIte, reduceCtorEq, Nat.reducePow, Nat.reduceAdd, Nat.reduceLeDiff, Nat.reduceLT, Nat.reduceSub, Nat.reduceEqDiff]
  refine aops_call c14 rfl rfl rfl (.inl rfl) ?_
  simp only [eES, eEX, Nat.reduceBEq, Int.reduceLE, Int.reduceLT, Int.reduceToNat, Int.reduceEq, ↓reduceIte, reduceCtorEq, Nat.reducePow, Nat.reduceAdd, Nat.reduceLeDiff, Nat.reduceLT, Nat.reduceSub, Nat.reduceEqDiff]

end Go.Proofs.Ytcmdlmcmefbkeaa.Va

/- Lists of raw fields compared; the law of scanning. -/
set_option linter.unusedSimpArgs false
namespace Go.Proofs.Ytcmdlmcmefbkeaa.Va
open Go Am Rc Bt Vp Cp Up

def SameI (l : List R) (k : Nat) (st : St) : Prop :=
  ∃ f i, st = ⟨f, [noObs], []⟩ ∧ k = l.length - i ∧ i ≤ l.length ∧ f 0 = .list (rsv l) ∧ f 1 = .list (rsv l) ∧ f 5 = .int .i64 (i : Nat)

theorem c19 (l : List R) (hn : l.length < 9223372036854775807) : Fn1 Try.prog 19 [.list (rsv l), .list (rsv l)] (.bool true) := by
  refine fn1_of_awp (rc := r19) (rs := o19) Try.func19 rfl rfl Try.ntmps19 k19 q19 (by simp) ?_
  simp only [g19_0, g19_1, g19_2, g19_3, g19_4, g19_6, g19_7, g19_5, g19_8, r19, o19, bne_self_eq_false, eES, eEX, Nat.reduceBEq, Int.reduceLE, Int.reduceLT, Int.reduceToNat, Int.reduceEq, ↓reduceIte, reduceCtorEq, Nat.reducePow, Nat.reduceAdd, Nat.reduceLeDiff, Nat.reduceLT, Nat.reduceSub, Nat.reduceEqDiff]
  refine awp_loop (SameI l) _ ⟨_, 0, rfl, rfl, Nat.zero_le _, rfl, rfl, rfl⟩ ?_
  rintro n st ⟨f, i, rfl, rfl, hi, h0, h1, h5⟩
  simp only [l19_0, g19_0, g19_1, g19_2, g19_3, g19_4, g19_6, g19_7, g19_5, g19_8, r19, o19, h0, h1, h5, rsv_len, eES, eEX, Nat.reduceBEq, Int.reduceLE, Int.reduceLT, Int.reduceToNat, Int.reduceEq, ↓reduceIte, reduceCtorEq, Nat.reducePow, Nat.reduceAdd, Nat.reduceLeDiff, Nat.reduceLT, Nat.reduceSub, Nat.reduceEqDiff]
  by_cases hlt : i < l.length
  · obtain ⟨fd, hfd⟩ : ∃ fd, l[i]? = some fd := ⟨l[i], List.getElem?_eq_getElem hlt⟩
    have hfa : (rsv l)[i]? = some fd.av := by simp [rsv, hfd]
    have d0 : decide ((i : Int) < (l.length : Int)) = true := by simp; omega
    have n0 : (0 ≤ (i : Int)) = True := by simp
    have e1 : IntKind.i64.wrap ((i : Int) + 1) = ((i + 1 : Nat) : Int) := by rw [wi64]; omega
    simp only [d0, n0, e1, Int.toNat_natCast, aiaddr, hfa, R.av, beq_self_eq_true, h0, h1, h5, eES, eEX, Nat.reduceBEq, Int.reduceLE, Int.reduceLT, Int.reduceToNat, Int.reduceEq, ↓reduceIte, reduceCtorEq, Nat.reducePow, Nat.reduceAdd, Nat.reduceLeDiff, Nat.reduceLT, Nat.reduceSub, Nat.reduceEqDiff]
    exact ⟨l.length - (i + 1), by omega, _, i + 1, rfl, rfl, by omega, by simp only [h0, eES, eEX, Nat.reduceBEq, Int.reduceLE, Int.reduceLT, Int.reduceToNat, Int.reduceEq, ↓reduceIte, reduceCtorEq, Nat.reducePow, Nat.reduceAdd, Nat.reduceLeDiff, Nat.reduceLT, Nat.reduceSub, Nat.reduceEqDiff], by simp only [h1, eES, eEX, Nat.reduceBEq, Int.reduceLE, Int.reduceLT, Int.reduceToNat, Int.reduceEq, ↓reduceIte, reduceCtorEq, Nat.reducePow, Nat.reduceAdd, Nat.reduceLeDiff, Nat.reduceLT, Nat.reduceSub, Nat.reduceEqDiff], by simp only [eES, eEX, Nat.reduceBEq, Int.reduceLE, Int.reduceLT, Int.reduceToNat, Int.reduceEq, ↓reduceIte, reduceCtorEq, Nat.reducePow, Nat.reduceAdd, Nat.reduceLeDiff, Nat.reduceLT, Nat.reduceSub, Nat.reduceEqDiff]⟩
  · have d0 : decide ((i : Int) < (l.length : Int)) = false := by simp; omega
    simp only [d0, h0, h1, h5, eES, eEX, Nat.reduceBEq, Int.reduceLE, Int.reduceLT, Int.reduceToNat, Int.reduceEq, ↓reduceIte, reduceCtorEq, Nat.reducePow, Nat.reduceAdd, Nat.reduceLeDiff, Nat.reduceLT, Nat.reduceSub, Nat.reduceEqDiff]

theorem sg_len : ∀ (k : Nat) (c : C), (sg k c).1.length ≤ k
  | 0, c => by simp [sg]
  | k + 1, c => by
    have := sg_len k (nxt c).2.1
    rw [sg]
    split
    · simp only
      split
      · split
        · simp; omega
        · simp
      · simp
    · simp

theorem scan_len (s : List UInt8) (l : L) : (scan s l).1.length ≤ s.length := by
  unfold scan
  simp only
  split
  · exact sg_len _ _
  · simp

theorem c5 (s : List UInt8) (l : L) (hl : s.length ≤ 1000000000000) : Fn1 Try.prog 5 [.str s, l.av] (.bool true) := by
  have hsl := scan_len s l
  refine fn1_of_awp (rc := r5) (rs := o5) Try.func5 rfl rfl Try.ntmps5 k5 q5 (by simp) ?_
  simp only [g5_0, g5_1, g5_2, g5_3, r5, o5, L.av, eES, eEX, Nat.reduceBEq, Int.reduceLE, Int.reduceLT, Int.reduceToNat, Int.reduceEq, ↓reduceIte, reduceCtorEq, Nat.reducePow, Nat.reduceAdd, Nat.reduceLeDiff, Nat.reduceLT, Nat.reduceSub, Nat.reduceEqDiff]
  refine aops_call (c17 s l hl) rfl rfl rfl (.inl rfl) ?_
  simp only [scv, eES, eEX, Nat.reduceBEq, Int.reduceLE, Int.reduceLT, Int.reduceToNat, Int.reduceEq, ↓reduceIte, reduceCtorEq, Nat.reducePow, Nat.reduceAdd, Nat.reduceLeDiff, Nat.reduceLT, Nat.reduceSub, Nat.reduceEqDiff]
  refine aops_call (c18 s l hl) rfl rfl rfl (.inl rfl) ?_
  simp only [scv, eES, eEX, Nat.reduceBEq, Int.reduceLE, Int.reduceLT, Int.reduceToNat, Int.reduceEq, ↓reduceIte, reduceCtorEq, Nat.reducePow, Nat.reduceAdd, Nat.reduceLeDiff, Nat.reduceLT, Nat.reduceSub, Nat.reduceEqDiff]
  refine aops_call (c19 (scan s l).1 (by omega)) rfl rfl rfl (.inl rfl) ?_
  simp only [beq_self_eq_true, eES, eEX, Nat.reduceBEq, Int.reduceLE, Int.reduceLT, Int.reduceToNat, Int.reduceEq, ↓reduceIte, reduceCtorEq, Nat.reducePow, Nat.reduceAdd, Nat.reduceLeDiff, Nat.reduceLT, Nat.reduceSub, Nat.reduceEqDiff]
  refine aops_call c14 rfl rfl rfl (.inl rfl) ?_
  simp only [eES, eEX, Nat.reduceBEq, Int.reduceLE, Int.reduceLT, Int.reduceToNat, Int.reduceEq, ↓reduceIte, reduceCtorEq, Nat.reducePow, Nat.reduceAdd, Nat.reduceLeDiff, Nat.reduceLT, Nat.reduceSub, Nat.reduceEqDiff]

end Go.Proofs.Ytcmdlmcmefbkeaa.Va

/- Eight bytes: the reference, and the law. -/
set_option linter.unusedSimpArgs false
namespace Go.Proofs.Ytcmdlmcmefbkeaa.Va
open Go Am Rc Bt Vp Cp

theorem tmod256 (n : Nat) : (n : Int).tmod 256 = ((n % 256 : Nat) : Int) := by
  rw [Int.tmod_eq_emod_of_nonneg (by omega)]; omega

theorem tdiv256 (n : Nat) (h : n < 18446744073709551616) : IntKind.u64.wrap ((n : Int).tdiv 256) = ((n / 256 : Nat) : Int) := by
  rw [Int.tdiv_eq_ediv_of_nonneg (by omega), wu64]; omega

theorem mod256 (n : Nat) : IntKind.u8.wrap ((n % 256 : Nat) : Int) = ((UInt8.ofNat (n % 256)).toNat : Int) := by
  rw [wu8, toNat_ofNat _ (by omega)]; omega

def RefFixedI (u0 : Nat) (k : Nat) (st : St) : Prop :=
  ∃ f fr u g i l, st = ⟨f, [fr], []⟩ ∧ k = 8 - i ∧ i ≤ 8 ∧ f 0 = .int .u64 (u : Nat) ∧ f 3 = .vec 0 3 g 0 l.length false ∧ f 4 = .int .i64 (i : Nat) ∧ fr 3 = .vec g 1 (bl l) ∧ u < 18446744073709551616 ∧ l.length = i ∧ l ++ fx (8 - i) u = fx 8 u0

theorem c47 (u : Nat) (hu : u < 18446744073709551616) : Fn1 Try.prog 47 [.int .u64 u] (.str (fx 8 u)) := by
  refine fn1_of_awp (rc := r47) (rs := o47) Try.func47 rfl rfl Try.ntmps47 k47 q47 (by simp) ?_
  simp only [g47_0, g47_1, g47_2, g47_3, g47_5, g47_6, g47_4, g47_7, r47, o47, eES, eEX, Nat.reduceBEq, Int.reduceLE, Int.reduceLT, Int.reduceToNat, Int.reduceEq, ↓reduceIte, reduceCtorEq, Nat.reducePow, Nat.reduceAdd, Nat.reduceLeDiff, Nat.reduceLT, Nat.reduceSub, Nat.reduceEqDiff]
  refine awp_vec rfl rfl ?_
  simp only [eES, eEX, Nat.reduceBEq, Int.reduceLE, Int.reduceLT, Int.reduceToNat, Int.reduceEq, ↓reduceIte, reduceCtorEq, Nat.reducePow, Nat.reduceAdd, Nat.reduceLeDiff, Nat.reduceLT, Nat.reduceSub, Nat.reduceEqDiff]
  refine awp_loop (RefFixedI u) 8 ⟨_, _, u, 1, 0, [], rfl, rfl, by omega, rfl, rfl, rfl, rfl, hu, rfl, rfl⟩ ?_
  rintro n st ⟨f, fr, v, g, i, l, rfl, rfl, hi, h0, h3, h4, hv, hlt, hll, hl⟩
  simp only [l47_0, g47_0, g47_1, g47_2, g47_3, g47_5, g47_6, g47_4, g47_7, r47, o47, h0, h3, h4, eES, eEX, Nat.reduceBEq, Int.reduceLE, Int.reduceLT, Int.reduceToNat, Int.reduceEq, ↓reduceIte, reduceCtorEq, Nat.reducePow, Nat.reduceAdd, Nat.reduceLeDiff, Nat.reduceLT, Nat.reduceSub, Nat.reduceEqDiff]
  refine csel_of (fun h => ?_) (fun h => ?_)
  · have h : i < 8 := by have h : (i : Int) < 8 := by simpa using h
                         omega
    have e1 : IntKind.i64.wrap ((i : Int) + 1) = ((i + 1 : Nat) : Int) := by rw [wi64]; omega
    simp only [h0, h3, h4, tmod256, tdiv256 v hlt, mod256, Int.reduceEq, e1, eES, eEX, Nat.reduceBEq, Int.reduceLE, Int.reduceLT, Int.reduceToNat, Int.reduceEq, ↓reduceIte, reduceCtorEq, Nat.reducePow, Nat.reduceAdd, Nat.reduceLeDiff, Nat.reduceLT, Nat.reduceSub, Nat.reduceEqDiff]
    refine aops_bsl1 rfl ?_
    refine aops_app rfl hv rfl (bl_length l).symm rfl rfl (by simp [maxLen]; omega) (by simp; omega) ?_
    simp only [h0, h3, h4, tmod256, tdiv256 v hlt, mod256, Int.reduceEq, e1, eES, eEX, Nat.reduceBEq, Int.reduceLE, Int.reduceLT, Int.reduceToNat, Int.reduceEq, ↓reduceIte, reduceCtorEq, Nat.reducePow, Nat.reduceAdd, Nat.reduceLeDiff, Nat.reduceLT, Nat.reduceSub, Nat.reduceEqDiff]
    refine ⟨8 - (i + 1), by omega, _, _, v / 256, g + 1, i + 1, l ++ [UInt8.ofNat (v % 256)], rfl, rfl, by omega, ?_, ?_, ?_, ?_, by omega, by simp [hll], ?_⟩
    · simp only [h0, h3, h4, eES, eEX, Nat.reduceBEq, Int.reduceLE, Int.reduceLT, Int.reduceToNat, Int.reduceEq, ↓reduceIte, reduceCtorEq, Nat.reducePow, Nat.reduceAdd, Nat.reduceLeDiff, Nat.reduceLT, Nat.reduceSub, Nat.reduceEqDiff]
    · simp only [List.length_append, List.length_cons, List.length_nil, eES, eEX, Nat.reduceBEq, Int.reduceLE, Int.reduceLT, Int.reduceToNat, Int.reduceEq, ↓reduceIte, reduceCtorEq, Nat.reducePow, Nat.reduceAdd, Nat.reduceLeDiff, Nat.reduceLT, Nat.reduceSub, Nat.reduceEqDiff]
    · simp only [eES, eEX, Nat.reduceBEq, Int.reduceLE, Int.reduceLT, Int.reduceToNat, Int.reduceEq, ↓reduceIte, reduceCtorEq, Nat.reducePow, Nat.reduceAdd, Nat.reduceLeDiff, Nat.reduceLT, Nat.reduceSub, Nat.reduceEqDiff]
    · simp only [upd_same, bl_append] <;> rfl
    · obtain ⟨j, hj⟩ : ∃ j, 8 - i = j + 1 := ⟨7 - i, by omega⟩
      rw [← hl, hj, show 8 - (i + 1) = j by omega, fx]; simp
  · have h : i = 8 := by have h : ¬ (i : Int) < 8 := by simpa using h
                         omega
    subst h
    have he := elems_own (m := []) (fr := fr) (site := 3) (g := g) (sz := 1) (n := l.length) (q := false) hv (by simp [bl])
    have hb : bytesOf (bl l) = some l := bytesOf_bl l
    simp only [h0, h3, h4, he, hb, eES, eEX, Nat.reduceBEq, Int.reduceLE, Int.reduceLT, Int.reduceToNat, Int.reduceEq, ↓reduceIte, reduceCtorEq, Nat.reducePow, Nat.reduceAdd, Nat.reduceLeDiff, Nat.reduceLT, Nat.reduceSub, Nat.reduceEqDiff]
    rw [← hl]
    simp [fx]

def RefTakeI (s : List UInt8) (k : Nat) (st : St) : Prop :=
  ∃ f, ∃ i : Nat, st = ⟨f, [noObs], []⟩ ∧ k = i ∧ i ≤ 8 ∧ f 0 = .str s ∧ f 4 = .int .u64 (hi8 s i : Nat) ∧ f 5 = .int .i64 ((i : Int) - 1)

theorem tkf_cases (s : List UInt8) : ∃ u e : Nat, tkf s = .tup [.int .u64 (u : Nat), .int .i64 (e : Nat)] := by
  unfold tkf
  split
  · exact ⟨0, 4, rfl⟩
  · exact ⟨_, 0, rfl⟩

end Go.Proofs.Ytcmdlmcmefbkeaa.Va

/- Stable sorting: insertion, merging, and how a merge falls into two. No program in sight. -/
namespace Go.Proofs.Ytcmdlmcmefbkeaa.So

section
variable {α : Type}

/-- Into a list, before the first element that is not less. -/
def ins (lt : α → α → Bool) (a : α) : List α → List α
  | [] => [a]
  | x :: l => bif lt x a then x :: ins lt a l else a :: x :: l

def isort (lt : α → α → Bool) : List α → List α
  | [] => []
  | a :: l => ins lt a (isort lt l)

def mg (lt : α → α → Bool) : List α → List α → List α
  | [], Y => Y
  | x :: X, [] => x :: X
  | x :: X, y :: Y => bif lt y x then y :: mg lt (x :: X) Y else x :: mg lt X (y :: Y)
termination_by X Y => X.length + Y.length

/-- A strict weak order. -/
structure SW (lt : α → α → Bool) : Prop where
  irr : ∀ x, lt x x = false
  tr : ∀ x y z, lt x y = true → lt y z = true → lt x z = true
  nt : ∀ x y z, lt x y = false → lt y z = false → lt x z = false

variable {lt : α → α → Bool}

theorem SW.as (h : SW lt) {x y : α} (hx : lt x y = true) : lt y x = false := by
  cases hy : lt y x with
  | false => rfl
  | true =>
    have := h.tr x y x hx hy
    rw [h.irr] at this
    cases this

theorem mg_nil (X : List α) : mg lt X [] = X := by cases X <;> simp [mg]
theorem nil_mg (Y : List α) : mg lt [] Y = Y := by simp [mg]
theorem mg_t {x y : α} {X Y : List α} (h : lt y x = true) : mg lt (x :: X) (y :: Y) = y :: mg lt (x :: X) Y := by rw [mg, h]; rfl
theorem mg_f {x y : α} {X Y : List α} (h : lt y x = false) : mg lt (x :: X) (y :: Y) = x :: mg lt X (y :: Y) := by rw [mg, h]; rfl
theorem ins_t {a x : α} {l : List α} (h : lt x a = true) : ins lt a (x :: l) = x :: ins lt a l := by rw [ins, h]; rfl
theorem ins_f {a x : α} {l : List α} (h : lt x a = false) : ins lt a (x :: l) = a :: x :: l := by rw [ins, h]; rfl

theorem mg_one (a : α) : ∀ Y : List α, mg lt [a] Y = ins lt a Y
  | [] => by rw [mg_nil]; rfl
  | y :: Y => by
    cases h : lt y a with
    | true => rw [mg_t h, ins_t h, mg_one a Y]
    | false => rw [mg_f h, ins_f h, nil_mg]

theorem mg_ins (h : SW lt) (a : α) : ∀ (n : Nat) (X Y : List α), X.length + Y.length = n → mg lt (ins lt a X) Y = ins lt a (mg lt X Y) := by
  intro n
  induction n using Nat.strongRecOn with
  | _ n ih =>
  intro X Y hn
  cases X with
  | nil =>
    show mg lt [a] Y = ins lt a (mg lt [] Y)
    rw [nil_mg, mg_one]
  | cons x X =>
    cases Y with
    | nil => rw [mg_nil, mg_nil]
    | cons y Y =>
      simp only [List.length_cons] at hn
      cases hxa : lt x a with
      | false =>
        have hi : ins lt a (x :: X) = a :: x :: X := ins_f hxa
        cases hya : lt y a with
        | true =>
          cases hyx : lt y x with
          | true =>
            have i := ih (n - 1) (by omega) (x :: X) Y (by simp only [List.length_cons]; omega)
            rw [hi] at i ⊢
            rw [mg_t hya, mg_t hyx, ins_t hya, i]
          | false =>
            have := h.nt y x a hyx hxa
            rw [hya] at this; cases this
        | false =>
          rw [hi, mg_f hya]
          cases hyx : lt y x with
          | true => rw [mg_t hyx, ins_f hya]
          | false => rw [mg_f hyx, ins_f hxa]
      | true =>
        have hi : ins lt a (x :: X) = x :: ins lt a X := ins_t hxa
        cases hyx : lt y x with
        | true =>
          have i := ih (n - 1) (by omega) (x :: X) Y (by simp only [List.length_cons]; omega)
          rw [hi] at i ⊢
          rw [mg_t hyx, mg_t hyx, ins_t (h.tr y x a hyx hxa), i]
        | false =>
          have i := ih (n - 1) (by omega) X (y :: Y) (by simp only [List.length_cons]; omega)
          rw [hi, mg_f hyx, mg_f hyx, ins_t hxa, i]

theorem mg_isort (h : SW lt) : ∀ A B : List α, mg lt (isort lt A) (isort lt B) = isort lt (A ++ B)
  | [], B => nil_mg _
  | a :: A, B => by
    show mg lt (ins lt a (isort lt A)) (isort lt B) = ins lt a (isort lt (A ++ B))
    rw [mg_ins h a _ _ _ rfl, mg_isort h A B]

theorem mg_split : ∀ (n : Nat) (X1 Y1 X2 Y2 : List α), X1.length + Y1.length = n → (∀ y ∈ Y1, ∀ x ∈ X2, lt y x = true) → (∀ x ∈ X1, ∀ y ∈ Y2, lt y x = false) →
    mg lt (X1 ++ X2) (Y1 ++ Y2) = mg lt X1 Y1 ++ mg lt X2 Y2 := by
  intro n
  induction n using Nat.strongRecOn with
  | _ n ih =>
  intro X1 Y1 X2 Y2 hn h1 h2
  cases X1 with
  | nil =>
    cases Y1 with
    | nil => rw [nil_mg]; rfl
    | cons y Y1 =>
      cases X2 with
      | nil => simp [nil_mg]
      | cons x X2 =>
        simp only [List.length_cons, List.length_nil] at hn
        have i := ih (n - 1) (by omega) [] Y1 (x :: X2) Y2 (by simp only [List.length_nil]; omega) (fun z hz => h1 z (List.mem_cons_of_mem _ hz)) h2
        simp only [List.nil_append, List.cons_append, nil_mg] at i ⊢
        rw [mg_t (h1 y (by simp) x (by simp)), i]
  | cons x X1 =>
    simp only [List.length_cons] at hn
    cases Y1 with
    | nil =>
      cases Y2 with
      | nil => simp [mg_nil]
      | cons y Y2 =>
        have i := ih (n - 1) (by omega) X1 [] X2 (y :: Y2) (by simp only [List.length_nil] at hn ⊢; omega) h1 (fun z hz => h2 z (List.mem_cons_of_mem _ hz))
        simp only [List.nil_append, List.cons_append, mg_nil] at i ⊢
        rw [mg_f (h2 x (by simp) y (by simp)), i]
    | cons y Y1 =>
      simp only [List.length_cons] at hn
      simp only [List.cons_append]
      cases hyx : lt y x with
      | true =>
        have i := ih (n - 1) (by omega) (x :: X1) Y1 X2 Y2 (by simp only [List.length_cons]; omega) (fun z hz => h1 z (List.mem_cons_of_mem _ hz)) h2
        simp only [List.cons_append] at i
        rw [mg_t hyx, mg_t hyx, i]; rfl
      | false =>
        have i := ih (n - 1) (by omega) X1 (y :: Y1) X2 Y2 (by simp only [List.length_cons]; omega) h1 (fun z hz => h2 z (List.mem_cons_of_mem _ hz))
        simp only [List.cons_append] at i
        rw [mg_f hyx, mg_f hyx, i]; rfl

theorem mg_left {x : α} {Y1 Y2 : List α} (h1 : ∀ y ∈ Y1, lt y x = true) (h2 : ∀ y ∈ Y2, lt y x = false) : mg lt [x] (Y1 ++ Y2) = Y1 ++ x :: Y2 := by
  have a := mg_split (lt := lt) _ [] Y1 [x] Y2 rfl (fun y hy z hz => by rw [List.mem_singleton.1 hz]; exact h1 y hy) (by simp)
  have b := mg_split (lt := lt) _ [x] [] [] Y2 rfl (by simp) (fun z hz y hy => by rw [List.mem_singleton.1 hz]; exact h2 y hy)
  simp only [List.nil_append, List.append_nil, nil_mg, mg_nil] at a b
  rw [a, b]; rfl

theorem mg_right {y : α} {X1 X2 : List α} (h1 : ∀ x ∈ X1, lt y x = false) (h2 : ∀ x ∈ X2, lt y x = true) : mg lt (X1 ++ X2) [y] = X1 ++ y :: X2 := by
  have a := mg_split (lt := lt) _ X1 [y] X2 [] rfl (fun z hz x hx => by rw [List.mem_singleton.1 hz]; exact h2 x hx) (by simp)
  have b := mg_split (lt := lt) _ X1 [] [] [y] rfl (by simp) (fun x hx z hz => by rw [List.mem_singleton.1 hz]; exact h1 x hx)
  simp only [List.nil_append, List.append_nil, nil_mg, mg_nil] at a b
  rw [a, b]; simp

def Srt (lt : α → α → Bool) (l : List α) : Prop := l.Pairwise fun x y => lt y x = false

theorem mem_ins {a z : α} : ∀ {l : List α}, z ∈ ins lt a l → z = a ∨ z ∈ l
  | [], h => .inl (List.mem_singleton.1 h)
  | x :: l, h => by
    cases hx : lt x a with
    | true =>
      rw [ins_t hx] at h
      rcases List.mem_cons.1 h with rfl | h
      · exact .inr List.mem_cons_self
      · rcases mem_ins h with h | h
        · exact .inl h
        · exact .inr (List.mem_cons_of_mem _ h)
    | false =>
      rw [ins_f hx] at h
      rcases List.mem_cons.1 h with rfl | h
      · exact .inl rfl
      · exact .inr h

theorem mem_isort {z : α} : ∀ {l : List α}, z ∈ isort lt l → z ∈ l
  | [], h => h
  | a :: l, h => by
    rcases mem_ins (l := isort lt l) h with rfl | h
    · exact List.mem_cons_self
    · exact List.mem_cons_of_mem _ (mem_isort h)

theorem srt_ins (h : SW lt) (a : α) : ∀ {l : List α}, Srt lt l → Srt lt (ins lt a l)
  | [], _ => List.pairwise_singleton _ _
  | x :: l, hs => by
    obtain ⟨h1, h2⟩ := List.pairwise_cons.1 hs
    cases hx : lt x a with
    | true =>
      rw [ins_t hx]
      refine List.pairwise_cons.2 ⟨fun z hz => ?_, srt_ins h a h2⟩
      rcases mem_ins hz with rfl | hz
      · exact h.as hx
      · exact h1 z hz
    | false =>
      rw [ins_f hx]
      refine List.pairwise_cons.2 ⟨fun z hz => ?_, hs⟩
      rcases List.mem_cons.1 hz with rfl | hz
      · exact hx
      · exact h.nt z x a (h1 z hz) hx

theorem srt_isort (h : SW lt) : ∀ l : List α, Srt lt (isort lt l)
  | [] => List.Pairwise.nil
  | a :: l => srt_ins h a (srt_isort h l)

theorem len_ins (a : α) : ∀ l : List α, (ins lt a l).length = l.length + 1
  | [] => rfl
  | x :: l => by
    cases hx : lt x a with
    | true => rw [ins_t hx, List.length_cons, len_ins a l, List.length_cons]
    | false => rw [ins_f hx]; rfl

theorem len_isort : ∀ l : List α, (isort lt l).length = l.length
  | [] => rfl
  | a :: l => by show (ins lt a (isort lt l)).length = _; rw [len_ins, len_isort l]; rfl

theorem len_mg : ∀ (n : Nat) (X Y : List α), X.length + Y.length = n → (mg lt X Y).length = n := by
  intro n
  induction n using Nat.strongRecOn with
  | _ n ih =>
  intro X Y hn
  cases X with
  | nil => rw [nil_mg]; simpa using hn
  | cons x X =>
    cases Y with
    | nil => rw [mg_nil]; simpa using hn
    | cons y Y =>
      simp only [List.length_cons] at hn
      cases hyx : lt y x with
      | true =>
        rw [mg_t hyx, List.length_cons, ih (n - 1) (by omega) (x :: X) Y (by simp only [List.length_cons]; omega)]; omega
      | false =>
        rw [mg_f hyx, List.length_cons, ih (n - 1) (by omega) X (y :: Y) (by simp only [List.length_cons]; omega)]; omega

theorem mem_mg {z : α} : ∀ (n : Nat) (X Y : List α), X.length + Y.length = n → z ∈ mg lt X Y → z ∈ X ∨ z ∈ Y := by
  intro n
  induction n using Nat.strongRecOn with
  | _ n ih =>
  intro X Y hn hz
  cases X with
  | nil => rw [nil_mg] at hz; exact .inr hz
  | cons x X =>
    cases Y with
    | nil => rw [mg_nil] at hz; exact .inl hz
    | cons y Y =>
      simp only [List.length_cons] at hn
      cases hyx : lt y x with
      | true =>
        rw [mg_t hyx] at hz
        rcases List.mem_cons.1 hz with rfl | hz
        · exact .inr List.mem_cons_self
        · exact (ih (n - 1) (by omega) (x :: X) Y (by simp only [List.length_cons]; omega) hz).imp id (List.mem_cons_of_mem _)
      | false =>
        rw [mg_f hyx] at hz
        rcases List.mem_cons.1 hz with rfl | hz
        · exact .inl List.mem_cons_self
        · exact (ih (n - 1) (by omega) X (y :: Y) (by simp only [List.length_cons]; omega) hz).imp (List.mem_cons_of_mem _) id

/-- In a sorted list what is less than x comes first. -/
theorem srt_mono (h : SW lt) {l : List α} (hs : Srt lt l) {i j : Nat} {u v x : α} (hij : i ≤ j) (hi : l[i]? = some u) (hj : l[j]? = some v) (hv : lt v x = true) : lt u x = true := by
  rcases Nat.lt_or_eq_of_le hij with hlt | rfl
  · obtain ⟨h1, rfl⟩ := List.getElem?_eq_some_iff.1 hi
    obtain ⟨h2, rfl⟩ := List.getElem?_eq_some_iff.1 hj
    have := List.pairwise_iff_getElem.1 hs i j h1 h2 hlt
    cases hu : lt l[i] x with
    | true => rfl
    | false =>
      have := h.nt _ _ _ this hu
      rw [hv] at this; cases this
  · rw [hi] at hj; cases hj; exact hv

theorem srt_le {l : List α} (hs : Srt lt l) (h : SW lt) {i j : Nat} {u v : α} (hij : i ≤ j) (hi : l[i]? = some u) (hj : l[j]? = some v) : lt v u = false := by
  rcases Nat.lt_or_eq_of_le hij with hlt | rfl
  · obtain ⟨h1, rfl⟩ := List.getElem?_eq_some_iff.1 hi
    obtain ⟨h2, rfl⟩ := List.getElem?_eq_some_iff.1 hj
    exact List.pairwise_iff_getElem.1 hs i j h1 h2 hlt
  · rw [hi] at hj; cases hj; exact h.irr _

/-- Sorted block by block. -/
def blk (lt : α → α → Bool) (s : Nat) : Nat → List α → List α
  | 0, _ => []
  | n + 1, l => isort lt (l.take s) ++ blk lt s n (l.drop s)

theorem blk_nil (s : Nat) : ∀ k, blk lt s k [] = []
  | 0 => rfl
  | k + 1 => by rw [blk, List.take_nil, List.drop_nil, blk_nil s k]; rfl

theorem len_blk (s : Nat) : ∀ (k : Nat) (l : List α), (blk lt s k l).length = min (s * k) l.length
  | 0, l => by simp [blk]
  | k + 1, l => by
    rw [blk, List.length_append, len_isort, len_blk s k, List.length_take, List.length_drop, Nat.mul_succ]
    omega

theorem mem_blk {s : Nat} {z : α} : ∀ {k : Nat} {l : List α}, z ∈ blk lt s k l → z ∈ l
  | 0, l, h => by cases h
  | k + 1, l, h => by
    rw [blk] at h
    rcases List.mem_append.1 h with h | h
    · exact List.mem_of_mem_take (mem_isort h)
    · exact List.mem_of_mem_drop (mem_blk h)

theorem blk_snoc (s : Nat) : ∀ (k : Nat) (l : List α), blk lt s (k + 1) l = blk lt s k l ++ isort lt ((l.drop (s * k)).take s)
  | 0, l => by simp [blk]
  | k + 1, l => by
    rw [blk, blk_snoc s k (l.drop s), blk, List.append_assoc, List.drop_drop, Nat.mul_succ, Nat.add_comm s (s * k)]

theorem blk_big {s k : Nat} {l : List α} (h : l.length ≤ s) (hk : l.length ≤ s * k) : blk lt s k l = isort lt l := by
  cases k with
  | zero =>
    have : l = [] := List.eq_nil_of_length_eq_zero (by omega)
    subst this; rfl
  | succ k => rw [blk, List.take_of_length_le h, List.drop_of_length_le h, blk_nil, List.append_nil]

theorem take_two (s : Nat) (l : List α) : l.take s ++ (l.drop s).take s = l.take (2 * s) := by
  rw [show 2 * s = s + s by omega, List.take_add]

end

end Go.Proofs.Ytcmdlmcmefbkeaa.So

/- Rows that are sorted in place: loads and stores of elements; swapping. -/
namespace Go.Proofs.Ytcmdlmcmefbkeaa.Am
open Go Bt

/-- An element of so many cells. -/
def Ez (E : AV → Prop) (sz : Nat) (x : AV) : Prop := E x ∧ ∃ l, x = .agg l ∧ l.length = sz ∧ AV.rfL l = true ∧ l.all AV.leaf = true ∧ ∀ m, AV.stillL false m l = some l

variable {E : AV → Prop}

theorem Ez.part {sz : Nat} {x : AV} (h : Ez E sz x) : Am.part x.cells 0 (some sz) = some x := by
  obtain ⟨_, l, rfl, rfl, _, _, _⟩ := h
  simp [Am.part, AV.cells]
theorem Ez.len {sz : Nat} {x : AV} (h : Ez E sz x) : x.cells.length = sz := by
  obtain ⟨_, l, rfl, rfl, _, _, _⟩ := h; rfl
theorem Ez.leaf {sz : Nat} {x : AV} (h : Ez E sz x) : x.cells.all AV.leaf = true := by
  obtain ⟨_, l, rfl, _, _, h, _⟩ := h; exact h
theorem Ez.rf {sz : Nat} {x : AV} (h : Ez E sz x) : x.rf = true := by
  obtain ⟨_, l, rfl, _, h, _, _⟩ := h; exact h

theorem Ez.still {sz : Nat} {x : AV} (h : Ez E sz x) (m : Mem) : x.still false m = some x := by
  obtain ⟨_, l, rfl, _, _, _, h⟩ := h
  simp only [AV.still, h m, Option.map_some]
theorem still_two {sz : Nat} {x y : AV} (h : Ez E sz x) (k : Ez E sz y) (m : Mem) : AV.stillL false m [x, y] = some [x, y] := by
  simp only [AV.stillL, h.still, k.still]
theorem rf_two {sz : Nat} {x y : AV} (h : Ez E sz x) (k : Ez E sz y) : AV.rfL [x, y] = true := by
  simp only [AV.rfL, h.rf, k.rf, Bool.and_self]

/-- A call of a function value that is handed no object of ours. -/
theorem aops_callP {P : Program} {f : Fr} {m : Mem} {ds : List DF} {its : List Item} {d : Nat} {K : St → Prop} {k : Nat} {r : RA} {args : List RA} {ys : List AV} {v : AV} (hr : r.ev f = .fn (.func k) [] []) (hk : Fn1 P k ys v) (hy : AV.stillL false m (args.map (RA.ev f)) = some ys) (h1 : AV.rfL ys = true) (h2 : v.rf = true) (h3 : AV.rfL (args.map (RA.ev f)) = true ∨ v.nl = true) (h : aops P its ⟨upd f d v, m, ds⟩ K) :
    aops P (⟨some d, .call r args, none⟩ :: its) ⟨f, m, ds⟩ K := by
  refine ⟨k, [], [], ys, v, hr, ?_, h1, hk, h2, ?_, h⟩
  · simpa using hy
  · simpa using h3

theorem awp_vecR {P : Program} {f : Fr} {m : Mem} {ds : List DF} {Q : Exit → St → Prop} {slot site sz : Nat} {a : RC} {fr : Nat → Ob} (h1 : f slot = .nils) (h2 : rowOrNone (fr site) = true) (h : awp P a ⟨upd f slot (.vec 0 site (ngen (fr site)) 0 0 false), upd fr site (.vec (ngen (fr site)) sz []) :: m, ds⟩ Q) : awp P (.gho (.vec slot site sz) a) ⟨f, fr :: m, ds⟩ Q := by
  refine ⟨_, ?_, h⟩
  have e : rowOrNone (look (fr :: m) 0 site) = true := h2
  simp only [gstep, h1, e, newGen_fr, cond_true, Am.put]

theorem put_put : ∀ {m : Mem} {l s : Nat} {o o' : Ob}, Am.put (Am.put m l s o) l s o' = Am.put m l s o'
  | [], _, _, _, _ => rfl
  | fr :: m, 0, s, o, o' => by simp only [Am.put, upd_upd']
  | fr :: m, l + 1, s, o, o' => by simp only [Am.put, put_put (m := m)]
where
  upd_upd' {f : Nat → Ob} {d : Nat} {x y : Ob} : upd (upd f d x) d y = upd f d y := by
    funext i
    simp only [upd]
    cases Nat.beq i d <;> rfl

theorem put_self : ∀ {m : Mem} {l s : Nat} {o : Ob}, look m l s = o → Am.put m l s o = m
  | [], _, _, _, _ => rfl
  | fr :: m, 0, s, o, h => by
    simp only [Am.put]
    congr 1
    funext i
    simp only [upd]
    cases hb : Nat.beq i s with
    | false => rfl
    | true => rw [Nat.eq_of_beq_eq_true hb]; exact h.symm
  | fr :: m, l + 1, s, o, h => by simp only [Am.put, put_self (m := m) h]

section
variable {m : Mem} {fr : Nat → Ob} {lv s g sz n i : Nat} {cur : List AV} {x y : AV}

theorem ldr (hlv : lv < m.length) (hx : cur[i]? = some x) (he : Ez E sz x) : aload (fr :: Am.put m lv s (.vec g sz cur)) (some sz) (.vptr (lv + 1) s g i 0) = some x := by
  have e : look (fr :: Am.put m lv s (.vec g sz cur)) (lv + 1) s = .vec g sz cur := look_put_same hlv
  simp only [aload, e, if_true, hx, he.part]

theorem str1 (hlv : lv < m.length) (hx : cur[i]? = some x) (he : Ez E sz x) (hy : Ez E sz y) (h0 : sz ≠ 0) : astore (fr :: Am.put m lv s (.vec g sz cur)) (.vptr (lv + 1) s g i 0) y.cells = some (fr :: Am.put m lv s (.vec g sz (cur.set i y))) := by
  have e : look (fr :: Am.put m lv s (.vec g sz cur)) (lv + 1) s = .vec g sz cur := look_put_same hlv
  obtain ⟨_, l, rfl, hl, _, _, _⟩ := he
  obtain ⟨_, k, rfl, hk, hf, _, _⟩ := hy
  have hc : 0 + (AV.agg k).cells.length ≤ (AV.agg l).cells.length ∧ (AV.agg k).cells.length ≠ 0 ∧ AV.rfL (AV.agg k).cells = true := by
    simp only [AV.cells]; exact ⟨by omega, by omega, hf⟩
  simp only [astore, e, if_true, hx, if_pos hc]
  have hs : splice l 0 k = k := by
    simp only [splice, List.take_zero, List.nil_append, Nat.zero_add]
    rw [List.drop_of_length_le (by omega), List.append_nil]
  simp only [newElem, AV.cells, hs, Am.put, put_put]

theorem iad (hlv : lv < m.length) (hi : i < n) : aiaddr (fr :: Am.put m lv s (.vec g sz cur)) sz none (.vec (lv + 1) s g 0 n false) ((i : Nat) : Int) = some (.vptr (lv + 1) s g i 0) := by
  have e : look (fr :: Am.put m lv s (.vec g sz cur)) (lv + 1) s = .vec g sz cur := look_put_same hlv
  simp only [aiaddr, e, Int.toNat_natCast]
  rw [if_pos (by omega), if_pos ⟨trivial, trivial, hi⟩, Nat.zero_add]

end

theorem put_len : ∀ {m : Mem} {l s : Nat} {o : Ob}, (Am.put m l s o).length = m.length
  | [], _, _, _ => rfl
  | _ :: _, 0, _, _ => rfl
  | fr :: m, l + 1, s, o => by simp only [Am.put, List.length_cons, put_len (m := m)]

theorem wn (n : Nat) (h : n < 9223372036854775808) : IntKind.i64.wrap ((n : Nat) : Int) = ((n : Nat) : Int) := by
  rw [wi64]; omega

end Go.Proofs.Ytcmdlmcmefbkeaa.Am

/- A row that is sorted: two ranges of it swapped. -/
set_option linter.unusedSimpArgs false
namespace Go.Proofs.Ytcmdlmcmefbkeaa.Ta
open Go Am Rc Bt

variable {E : AV → Prop}

/-- After i rounds of swapping. -/
def SwI (X cur : List AV) (p q i : Nat) : Prop :=
  cur.length = X.length ∧ ∀ j, cur[j]? = if p ≤ j ∧ j < p + i then X[q + (j - p)]? else if q ≤ j ∧ j < q + i then X[p + (j - q)]? else X[j]?

theorem SwI.step {X cur : List AV} {p q i n : Nat} (h : SwI X cur p q i) (hi : i < n) (hpq : p + n ≤ q) (hq : q + n ≤ X.length) {x y : AV} (hx : X[q + i]? = some x) (hy : X[p + i]? = some y) :
    SwI X ((cur.set (p + i) x).set (q + i) y) p q (i + 1) := by
  obtain ⟨h1, h2⟩ := h
  refine ⟨by simp [h1], fun j => ?_⟩
  rw [List.getElem?_set, List.length_set, h1, List.getElem?_set, h1, h2 j]
  by_cases a : q + i = j
  · subst a
    rw [if_pos rfl, if_pos (by omega), if_neg (by omega), if_pos (by omega), show p + (q + i - q) = p + i by omega, hy]
  · rw [if_neg a]
    by_cases b : p + i = j
    · subst b
      rw [if_pos rfl, if_pos (by omega), if_pos (by omega), show q + (p + i - p) = q + i by omega, hx]
    · rw [if_neg b]
      repeat' split
      all_goals first | rfl | (exfalso; omega) | (congr 1; omega)

theorem SwI.done {P A M B S cur : List AV} (h : SwI (P ++ A ++ M ++ B ++ S) cur P.length (P.length + A.length + M.length) A.length) (hAB : A.length = B.length) : cur = P ++ B ++ M ++ A ++ S := by
  apply List.ext_getElem?
  intro j
  rw [h.2 j]
  simp only [List.getElem?_append, List.length_append]
  repeat' split
  all_goals first | rfl | (exfalso; omega) | (congr 1; omega)

def SwS (m : Mem) (lv s g N p q n : Nat) (X : List AV) (k : Nat) (st : St) : Prop :=
  ∃ f i cur, st = ⟨f, [noObs] ++ Am.put m lv s (.vec g 4 cur), []⟩ ∧ k = n - i ∧ i ≤ n ∧ SwI X cur p q i ∧
    f 0 = .vec (lv + 1) s g 0 N false ∧ f 1 = .int .i64 (p : Nat) ∧ f 2 = .int .i64 (q : Nat) ∧ f 3 = .int .i64 (n : Nat) ∧ f 10 = .int .i64 (i : Nat)

theorem c73 (cmp : AV) (lv s g : Nat) (P A M B S : List AV) (m : Mem) (hl : Am.look m lv s = .vec g 4 (P ++ A ++ M ++ B ++ S)) (hAB : A.length = B.length) (he : ∀ x ∈ P ++ A ++ M ++ B ++ S, Ez E 4 x)
    (hn : (P ++ A ++ M ++ B ++ S).length < 4611686018427387904) :
    ACalls Try.prog 73 [.vec lv s g 0 (P ++ A ++ M ++ B ++ S).length false, .int .i64 (P.length : Nat), .int .i64 ((P.length + A.length + M.length : Nat) : Int), .int .i64 (A.length : Nat), cmp] m
      (fun x m1 => x = .tup [] ∧ m1 = Am.put m lv s (.vec g 4 (P ++ B ++ M ++ A ++ S))) := by
  have hlv : lv < m.length := look_lt (by rw [hl]; simp)
  have hlen : (P ++ A ++ M ++ B ++ S).length = P.length + A.length + M.length + B.length + S.length := by simp only [List.length_append]
  refine acalls_of_awp (rc := r73) (rs := o73) Try.func73 rfl rfl Try.ntmps73 k73 q73 (by simp) ?_
  simp only [g73_0, g73_1, g73_3, g73_2, r73, o73, eES, Nat.reduceBEq, Int.reduceLE, Int.reduceLT, Int.reduceToNat, Int.reduceEq, ↓reduceIte, reduceCtorEq, Nat.reducePow, Nat.reduceAdd, Nat.reduceLeDiff, Nat.reduceLT, Nat.reduceSub, Nat.reduceEqDiff]
  have h0 : m = Am.put m lv s (.vec g 4 (P ++ A ++ M ++ B ++ S)) := (put_self hl).symm
  generalize hX : P ++ A ++ M ++ B ++ S = X at *
  generalize hp : P.length = p at *
  generalize hq : p + A.length + M.length = q at *
  generalize hnn : A.length = n at *
  refine awp_loop (SwS m lv s g X.length p q n X) _ ⟨_, 0, X, by rw [← h0] <;> rfl, rfl, Nat.zero_le _, ⟨rfl, fun j => ?_⟩, by simp only [eES, Nat.reduceBEq, Int.reduceLE, Int.reduceLT, Int.reduceToNat, Int.reduceEq, ↓reduceIte, reduceCtorEq, Nat.reducePow, Nat.reduceAdd, Nat.reduceLeDiff, Nat.reduceLT, Nat.reduceSub, Nat.reduceEqDiff], by simp only [eES, Nat.reduceBEq, Int.reduceLE, Int.reduceLT, Int.reduceToNat, Int.reduceEq, ↓reduceIte, reduceCtorEq, Nat.reducePow, Nat.reduceAdd, Nat.reduceLeDiff, Nat.reduceLT, Nat.reduceSub, Nat.reduceEqDiff], by simp only [eES, Nat.reduceBEq, Int.reduceLE, Int.reduceLT, Int.reduceToNat, Int.reduceEq, ↓reduceIte, reduceCtorEq, Nat.reducePow, Nat.reduceAdd, Nat.reduceLeDiff, Nat.reduceLT, Nat.reduceSub, Nat.reduceEqDiff], by simp only [eES, Nat.reduceBEq, Int.reduceLE, Int.reduceLT, Int.reduceToNat, Int.reduceEq, ↓reduceIte, reduceCtorEq, Nat.reducePow, Nat.reduceAdd, Nat.reduceLeDiff, Nat.reduceLT, Nat.reduceSub, Nat.reduceEqDiff], by simp only [eES, Nat.reduceBEq, Int.reduceLE, Int.reduceLT, Int.reduceToNat, Int.reduceEq, ↓reduceIte, reduceCtorEq, Nat.reducePow, Nat.reduceAdd, Nat.reduceLeDiff, Nat.reduceLT, Nat.reduceSub, Nat.reduceEqDiff] <;> rfl⟩ ?_
  · rw [if_neg (by omega), if_neg (by omega)]
  rintro k st ⟨f, i, cur, rfl, rfl, hi, hsw, f0, f1, f2, f3, f10⟩
  simp only [l73_0, g73_0, g73_1, g73_3, g73_2, r73, o73, f0, f1, f2, f3, f10, List.singleton_append, eES, Nat.reduceBEq, Int.reduceLE, Int.reduceLT, Int.reduceToNat, Int.reduceEq, ↓reduceIte, reduceCtorEq, Nat.reducePow, Nat.reduceAdd, Nat.reduceLeDiff, Nat.reduceLT, Nat.reduceSub, Nat.reduceEqDiff]
  by_cases hlt : i < n
  · have d0 : decide ((i : Int) < (n : Int)) = true := by simp; omega
    have e1 : IntKind.i64.wrap ((p : Int) + (i : Int)) = ((p + i : Nat) : Int) := by rw [wi64]; omega
    have e2 : IntKind.i64.wrap ((q : Int) + (i : Int)) = ((q + i : Nat) : Int) := by rw [wi64]; omega
    have e3 : IntKind.i64.wrap ((i : Int) + 1) = ((i + 1 : Nat) : Int) := by rw [wi64]; omega
    obtain ⟨x, hx⟩ : ∃ x, X[q + i]? = some x := ⟨_, List.getElem?_eq_getElem (by omega)⟩
    obtain ⟨y, hy⟩ : ∃ y, X[p + i]? = some y := ⟨_, List.getElem?_eq_getElem (by omega)⟩
    have ex := he x (List.mem_of_getElem? hx)
    have ey := he y (List.mem_of_getElem? hy)
    have cx : cur[q + i]? = some x := by rw [hsw.2, if_neg (by omega), if_neg (by omega), hx]
    have cy : cur[p + i]? = some y := by rw [hsw.2, if_neg (by omega), if_neg (by omega), hy]
    have cx' : (cur.set (p + i) x)[q + i]? = some x := by rw [List.getElem?_set_ne (by omega), cx]
    simp only [d0, e1, e2, e3, f0, f1, f2, f3, f10, iad hlv (show q + i < X.length by omega), iad hlv (show p + i < X.length by omega), ldr hlv cx ex, ldr hlv cy ey, ex.len, ey.len, ex.leaf, ey.leaf, str1 hlv cy ey ex (by decide), str1 hlv cx' ex ey (by decide), eES, Nat.reduceBEq, Int.reduceLE, Int.reduceLT, Int.reduceToNat, Int.reduceEq, ↓reduceIte, reduceCtorEq, Nat.reducePow, Nat.reduceAdd, Nat.reduceLeDiff, Nat.reduceLT, Nat.reduceSub, Nat.reduceEqDiff]
    exact ⟨n - (i + 1), by omega, _, i + 1, _, rfl, rfl, by omega, hsw.step hlt (by omega) (by omega) hx hy, by simp only [f0, eES, Nat.reduceBEq, Int.reduceLE, Int.reduceLT, Int.reduceToNat, Int.reduceEq, ↓reduceIte, reduceCtorEq, Nat.reducePow, Nat.reduceAdd, Nat.reduceLeDiff, Nat.reduceLT, Nat.reduceSub, Nat.reduceEqDiff], by simp only [f1, eES, Nat.reduceBEq, Int.reduceLE, Int.reduceLT, Int.reduceToNat, Int.reduceEq, ↓reduceIte, reduceCtorEq, Nat.reducePow, Nat.reduceAdd, Nat.reduceLeDiff, Nat.reduceLT, Nat.reduceSub, Nat.reduceEqDiff], by simp only [f2, eES, Nat.reduceBEq, Int.reduceLE, Int.reduceLT, Int.reduceToNat, Int.reduceEq, ↓reduceIte, reduceCtorEq, Nat.reducePow, Nat.reduceAdd, Nat.reduceLeDiff, Nat.reduceLT, Nat.reduceSub, Nat.reduceEqDiff], by simp only [f3, eES, Nat.reduceBEq, Int.reduceLE, Int.reduceLT, Int.reduceToNat, Int.reduceEq, ↓reduceIte, reduceCtorEq, Nat.reducePow, Nat.reduceAdd, Nat.reduceLeDiff, Nat.reduceLT, Nat.reduceSub, Nat.reduceEqDiff], by simp only [eES, Nat.reduceBEq, Int.reduceLE, Int.reduceLT, Int.reduceToNat, Int.reduceEq, ↓reduceIte, reduceCtorEq, Nat.reducePow, Nat.reduceAdd, Nat.reduceLeDiff, Nat.reduceLT, Nat.reduceSub, Nat.reduceEqDiff]⟩
  · have d0 : decide ((i : Int) < (n : Int)) = false := by simp; omega
    have hin : i = n := by omega
    subst hin
    have hc := SwI.done (P := P) (A := A) (M := M) (B := B) (S := S) (cur := cur) (by rw [hX, hp, hnn, hq]; exact hsw) (by omega)
    simp only [d0, f0, f1, f2, f3, f10, hc, put_len, eES, Nat.reduceBEq, Int.reduceLE, Int.reduceLT, Int.reduceToNat, Int.reduceEq, ↓reduceIte, reduceCtorEq, Nat.reducePow, Nat.reduceAdd, Nat.reduceLeDiff, Nat.reduceLT, Nat.reduceSub, Nat.reduceEqDiff]

/-- .. as a callee's frame sees it. -/
theorem sw_call (cmp : AV) {fr : Nat → Ob} {lv s g N a b n : Nat} (P A M B S : List AV) {m : Mem} (hlv : lv < m.length) (hAB : A.length = B.length) (he : ∀ x ∈ P ++ A ++ M ++ B ++ S, Ez E 4 x)
    (hn : (P ++ A ++ M ++ B ++ S).length < 4611686018427387904) (hN : N = (P ++ A ++ M ++ B ++ S).length) (ha : a = P.length) (hb : b = P.length + A.length + M.length) (hc : n = A.length) :
    ACalls Try.prog 73 [.vec (lv + 1) s g 0 N false, .int .i64 (a : Nat), .int .i64 (b : Nat), .int .i64 (n : Nat), cmp] (fr :: Am.put m lv s (.vec g 4 (P ++ A ++ M ++ B ++ S)))
      (fun x m1 => x = .tup [] ∧ m1 = fr :: Am.put m lv s (.vec g 4 (P ++ B ++ M ++ A ++ S))) := by
  subst hN ha hb hc
  refine (c73 cmp (lv + 1) s g P A M B S (fr :: Am.put m lv s (.vec g 4 (P ++ A ++ M ++ B ++ S))) (look_put_same (m := m) hlv) hAB he hn).mono fun x m1 h => ⟨h.1, ?_⟩
  rw [h.2]
  simp only [Am.put, put_put]

def RoS (E : AV → Prop) (m : Mem) (lv s g N mid : Nat) (T : List AV) (cmp : AV) (k : Nat) (st : St) : Prop :=
  ∃ f P A B S, st = ⟨f, [noObs] ++ Am.put m lv s (.vec g 4 (P ++ A ++ B ++ S)), []⟩ ∧ k = A.length + B.length ∧ 0 < A.length ∧ 0 < B.length ∧ P.length + A.length = mid ∧ P ++ B ++ A ++ S = T ∧ (P ++ A ++ B ++ S).length = N ∧ (∀ x ∈ P ++ A ++ B ++ S, Ez E 4 x) ∧
    f 0 = .vec (lv + 1) s g 0 N false ∧ f 2 = .int .i64 (mid : Nat) ∧ f 4 = cmp ∧ f 10 = .int .i64 (A.length : Nat) ∧ f 11 = .int .i64 (B.length : Nat)

theorem c72 (cmp : AV) (lv s g : Nat) (P X Y S : List AV) (m : Mem) (hl : Am.look m lv s = .vec g 4 (P ++ X ++ Y ++ S)) (hX : 0 < X.length) (hY : 0 < Y.length) (he : ∀ x ∈ P ++ X ++ Y ++ S, Ez E 4 x)
    (hn : (P ++ X ++ Y ++ S).length < 4611686018427387904) :
    ACalls Try.prog 72 [.vec lv s g 0 (P ++ X ++ Y ++ S).length false, .int .i64 (P.length : Nat), .int .i64 ((P.length + X.length : Nat) : Int), .int .i64 ((P.length + X.length + Y.length : Nat) : Int), cmp] m
      (fun x m1 => x = .tup [] ∧ m1 = Am.put m lv s (.vec g 4 (P ++ Y ++ X ++ S))) := by
  have hlv : lv < m.length := look_lt (by rw [hl]; simp)
  have hlen : (P ++ X ++ Y ++ S).length = P.length + X.length + Y.length + S.length := by simp only [List.length_append]
  refine acalls_of_awp (rc := r72) (rs := o72) Try.func72 rfl rfl Try.ntmps72 k72 q72 (by simp) ?_
  have e1 : IntKind.i64.wrap (((P.length + X.length : Nat) : Int) - (P.length : Int)) = ((X.length : Nat) : Int) := by rw [wi64]; omega
  have e2 : IntKind.i64.wrap (((P.length + X.length + Y.length : Nat) : Int) - ((P.length + X.length : Nat) : Int)) = ((Y.length : Nat) : Int) := by rw [wi64]; omega
  simp only [g72_0, g72_1, g72_2, g72_3, g72_4, g72_5, g72_6, g72_7, g72_8, r72, o72, e1, e2, eES, Nat.reduceBEq, Int.reduceLE, Int.reduceLT, Int.reduceToNat, Int.reduceEq, ↓reduceIte, reduceCtorEq, Nat.reducePow, Nat.reduceAdd, Nat.reduceLeDiff, Nat.reduceLT, Nat.reduceSub, Nat.reduceEqDiff]
  have h0 : m = Am.put m lv s (.vec g 4 (P ++ X ++ Y ++ S)) := (put_self hl).symm
  refine awp_loop (RoS E m lv s g (P ++ X ++ Y ++ S).length (P.length + X.length) (P ++ Y ++ X ++ S) cmp.sh) _ ⟨_, P, X, Y, S, by rw [← h0] <;> rfl, rfl, hX, hY, rfl, rfl, rfl, he, by simp only [eES, Nat.reduceBEq, Int.reduceLE, Int.reduceLT, Int.reduceToNat, Int.reduceEq, ↓reduceIte, reduceCtorEq, Nat.reducePow, Nat.reduceAdd, Nat.reduceLeDiff, Nat.reduceLT, Nat.reduceSub, Nat.reduceEqDiff], by simp only [eES, Nat.reduceBEq, Int.reduceLE, Int.reduceLT, Int.reduceToNat, Int.reduceEq, ↓reduceIte, reduceCtorEq, Nat.reducePow, Nat.reduceAdd, Nat.reduceLeDiff, Nat.reduceLT, Nat.reduceSub, Nat.reduceEqDiff], by simp only [eES, Nat.reduceBEq, Int.reduceLE, Int.reduceLT, Int.reduceToNat, Int.reduceEq, ↓reduceIte, reduceCtorEq, Nat.reducePow, Nat.reduceAdd, Nat.reduceLeDiff, Nat.reduceLT, Nat.reduceSub, Nat.reduceEqDiff], by simp only [eES, Nat.reduceBEq, Int.reduceLE, Int.reduceLT, Int.reduceToNat, Int.reduceEq, ↓reduceIte, reduceCtorEq, Nat.reducePow, Nat.reduceAdd, Nat.reduceLeDiff, Nat.reduceLT, Nat.reduceSub, Nat.reduceEqDiff], by simp only [eES, Nat.reduceBEq, Int.reduceLE, Int.reduceLT, Int.reduceToNat, Int.reduceEq, ↓reduceIte, reduceCtorEq, Nat.reducePow, Nat.reduceAdd, Nat.reduceLeDiff, Nat.reduceLT, Nat.reduceSub, Nat.reduceEqDiff]⟩ ?_
  generalize hT : P ++ Y ++ X ++ S = T
  generalize hN : (P ++ X ++ Y ++ S).length = N at *
  generalize hmid : P.length + X.length = mid at *
  clear hl he h0 hX hY e1 e2
  rintro k st ⟨f, P', A, B, S', rfl, rfl, hA, hB, hm, hTT, hNN, hee, f0, f2, f4, f10, f11⟩
  have hlen' : (P' ++ A ++ B ++ S').length = P'.length + A.length + B.length + S'.length := by simp only [List.length_append]
  simp only [l72_0, g72_0, g72_1, g72_2, g72_3, g72_4, g72_5, g72_6, g72_7, g72_8, r72, o72, f0, f2, f4, f10, f11, List.singleton_append, bne_iff_ne, eES, Nat.reduceBEq, Int.reduceLE, Int.reduceLT, Int.reduceToNat, Int.reduceEq, ↓reduceIte, reduceCtorEq, Nat.reducePow, Nat.reduceAdd, Nat.reduceLeDiff, Nat.reduceLT, Nat.reduceSub, Nat.reduceEqDiff]
  by_cases hij : A.length = B.length
  · have d0 : ((A.length : Int) != (B.length : Int)) = false := by simp; omega
    have e1 : IntKind.i64.wrap ((mid : Int) - (A.length : Int)) = ((P'.length : Nat) : Int) := by rw [wi64]; omega
    simp only [d0, e1, f0, f2, f4, f10, f11, eES, Nat.reduceBEq, Int.reduceLE, Int.reduceLT, Int.reduceToNat, Int.reduceEq, ↓reduceIte, reduceCtorEq, Nat.reducePow, Nat.reduceAdd, Nat.reduceLeDiff, Nat.reduceLT, Nat.reduceSub, Nat.reduceEqDiff]
    have hc := sw_call cmp.sh (fr := noObs) (g := g) (s := s) (N := N) (a := P'.length) (b := mid) (n := A.length) P' A [] B S' hlv hij (by simpa using hee) (by simp only [List.append_nil]; omega) (by simp only [List.append_nil]; omega) rfl (by simp only [List.length_nil]; omega) rfl
    simp only [List.append_nil] at hc
    refine aops_callF hc rfl ?_
    simp only [hTT, put_len, eES, Nat.reduceBEq, Int.reduceLE, Int.reduceLT, Int.reduceToNat, Int.reduceEq, ↓reduceIte, reduceCtorEq, Nat.reducePow, Nat.reduceAdd, Nat.reduceLeDiff, Nat.reduceLT, Nat.reduceSub, Nat.reduceEqDiff]
  · have d0 : ((A.length : Int) != (B.length : Int)) = true := by simp; omega
    simp only [d0, f0, f2, f4, f10, f11, eES, Nat.reduceBEq, Int.reduceLE, Int.reduceLT, Int.reduceToNat, Int.reduceEq, ↓reduceIte, reduceCtorEq, Nat.reducePow, Nat.reduceAdd, Nat.reduceLeDiff, Nat.reduceLT, Nat.reduceSub, Nat.reduceEqDiff]
    by_cases hgt : B.length < A.length
    · have d1 : decide ((A.length : Int) > (B.length : Int)) = true := by simp; omega
      have e1 : IntKind.i64.wrap ((mid : Int) - (A.length : Int)) = ((P'.length : Nat) : Int) := by rw [wi64]; omega
      have e2 : IntKind.i64.wrap ((A.length : Int) - (B.length : Int)) = ((A.length - B.length : Nat) : Int) := by rw [wi64]; omega
      simp only [d1, e1, f0, f2, f4, f10, f11, eES, Nat.reduceBEq, Int.reduceLE, Int.reduceLT, Int.reduceToNat, Int.reduceEq, ↓reduceIte, reduceCtorEq, Nat.reducePow, Nat.reduceAdd, Nat.reduceLeDiff, Nat.reduceLT, Nat.reduceSub, Nat.reduceEqDiff]
      have hcut : P' ++ A ++ B ++ S' = P' ++ A.take B.length ++ A.drop B.length ++ B ++ S' := by
        rw [List.append_assoc P' (A.take _), List.take_append_drop]
      have hl1 : (A.take B.length).length = B.length := by simp; omega
      rw [hcut] at hee hNN ⊢
      refine aops_callF (sw_call cmp.sh (a := P'.length) (b := mid) (n := B.length) P' (A.take B.length) (A.drop B.length) B S' hlv hl1 hee (by omega) hNN.symm rfl (by rw [hl1]; simp; omega) hl1.symm) rfl ?_
      simp only [e2, f0, f2, f4, f10, f11, eES, Nat.reduceBEq, Int.reduceLE, Int.reduceLT, Int.reduceToNat, Int.reduceEq, ↓reduceIte, reduceCtorEq, Nat.reducePow, Nat.reduceAdd, Nat.reduceLeDiff, Nat.reduceLT, Nat.reduceSub, Nat.reduceEqDiff]
      have hcat : P' ++ B ++ A.drop B.length ++ A.take B.length ++ S' = (P' ++ B) ++ A.drop B.length ++ A.take B.length ++ S' := rfl
      refine ⟨(A.drop B.length).length + (A.take B.length).length, ?_, _, P' ++ B, A.drop B.length, A.take B.length, S', rfl, rfl, by simp; omega, by omega, by simp; omega, ?_, ?_, ?_, by simp only [f0, eES, Nat.reduceBEq, Int.reduceLE, Int.reduceLT, Int.reduceToNat, Int.reduceEq, ↓reduceIte, reduceCtorEq, Nat.reducePow, Nat.reduceAdd, Nat.reduceLeDiff, Nat.reduceLT, Nat.reduceSub, Nat.reduceEqDiff], by simp only [f2, eES, Nat.reduceBEq, Int.reduceLE, Int.reduceLT, Int.reduceToNat, Int.reduceEq, ↓reduceIte, reduceCtorEq, Nat.reducePow, Nat.reduceAdd, Nat.reduceLeDiff, Nat.reduceLT, Nat.reduceSub, Nat.reduceEqDiff], by simp only [f4, eES, Nat.reduceBEq, Int.reduceLE, Int.reduceLT, Int.reduceToNat, Int.reduceEq, ↓reduceIte, reduceCtorEq, Nat.reducePow, Nat.reduceAdd, Nat.reduceLeDiff, Nat.reduceLT, Nat.reduceSub, Nat.reduceEqDiff], by simp only [List.length_drop, eES, Nat.reduceBEq, Int.reduceLE, Int.reduceLT, Int.reduceToNat, Int.reduceEq, ↓reduceIte, reduceCtorEq, Nat.reducePow, Nat.reduceAdd, Nat.reduceLeDiff, Nat.reduceLT, Nat.reduceSub, Nat.reduceEqDiff], by simp only [f11, hl1, eES, Nat.reduceBEq, Int.reduceLE, Int.reduceLT, Int.reduceToNat, Int.reduceEq, ↓reduceIte, reduceCtorEq, Nat.reducePow, Nat.reduceAdd, Nat.reduceLeDiff, Nat.reduceLT, Nat.reduceSub, Nat.reduceEqDiff]⟩
      · simp; omega
      · rw [← hTT]
        simp only [List.append_assoc]
        rw [← List.append_assoc (A.take _), List.take_append_drop]
      · rw [← hNN]; simp only [List.length_append]; omega
      · intro x hx
        refine hee x ?_
        simp only [List.mem_append] at hx ⊢
        grind
    · have d1 : decide ((A.length : Int) > (B.length : Int)) = false := by simp; omega
      have e1 : IntKind.i64.wrap ((mid : Int) - (A.length : Int)) = ((P'.length : Nat) : Int) := by rw [wi64]; omega
      have e2 : IntKind.i64.wrap ((B.length : Int) - (A.length : Int)) = ((B.length - A.length : Nat) : Int) := by rw [wi64]; omega
      have e3 : IntKind.i64.wrap ((mid : Int) + (B.length : Int)) = ((mid + B.length : Nat) : Int) := by rw [wi64]; omega
      have e4 : IntKind.i64.wrap (((mid + B.length : Nat) : Int) - (A.length : Int)) = ((mid + B.length - A.length : Nat) : Int) := by rw [wi64]; omega
      simp only [d1, e1, e3, e4, f0, f2, f4, f10, f11, eES, Nat.reduceBEq, Int.reduceLE, Int.reduceLT, Int.reduceToNat, Int.reduceEq, ↓reduceIte, reduceCtorEq, Nat.reducePow, Nat.reduceAdd, Nat.reduceLeDiff, Nat.reduceLT, Nat.reduceSub, Nat.reduceEqDiff]
      have hcut : P' ++ A ++ B ++ S' = P' ++ A ++ B.take (B.length - A.length) ++ B.drop (B.length - A.length) ++ S' := by
        rw [List.append_assoc (P' ++ A) (B.take _), List.take_append_drop]
      have hl1 : (B.take (B.length - A.length)).length = B.length - A.length := by simp
      have hl2 : (B.drop (B.length - A.length)).length = A.length := by simp; omega
      rw [hcut] at hee hNN ⊢
      refine aops_callF (sw_call cmp.sh (a := P'.length) (b := mid + B.length - A.length) (n := A.length) P' A (B.take (B.length - A.length)) (B.drop (B.length - A.length)) S' hlv hl2.symm hee (by omega) hNN.symm rfl (by rw [hl1]; omega) rfl) rfl ?_
      simp only [e2, f0, f2, f4, f10, f11, eES, Nat.reduceBEq, Int.reduceLE, Int.reduceLT, Int.reduceToNat, Int.reduceEq, ↓reduceIte, reduceCtorEq, Nat.reducePow, Nat.reduceAdd, Nat.reduceLeDiff, Nat.reduceLT, Nat.reduceSub, Nat.reduceEqDiff]
      refine ⟨(B.drop (B.length - A.length)).length + (B.take (B.length - A.length)).length, ?_, _, P', B.drop (B.length - A.length), B.take (B.length - A.length), A ++ S', by simp only [List.append_assoc] <;> rfl, rfl, by omega, by omega, by omega, ?_, ?_, ?_, by simp only [f0, eES, Nat.reduceBEq, Int.reduceLE, Int.reduceLT, Int.reduceToNat, Int.reduceEq, ↓reduceIte, reduceCtorEq, Nat.reducePow, Nat.reduceAdd, Nat.reduceLeDiff, Nat.reduceLT, Nat.reduceSub, Nat.reduceEqDiff], by simp only [f2, eES, Nat.reduceBEq, Int.reduceLE, Int.reduceLT, Int.reduceToNat, Int.reduceEq, ↓reduceIte, reduceCtorEq, Nat.reducePow, Nat.reduceAdd, Nat.reduceLeDiff, Nat.reduceLT, Nat.reduceSub, Nat.reduceEqDiff], by simp only [f4, eES, Nat.reduceBEq, Int.reduceLE, Int.reduceLT, Int.reduceToNat, Int.reduceEq, ↓reduceIte, reduceCtorEq, Nat.reducePow, Nat.reduceAdd, Nat.reduceLeDiff, Nat.reduceLT, Nat.reduceSub, Nat.reduceEqDiff], by simp only [f10, hl2, eES, Nat.reduceBEq, Int.reduceLE, Int.reduceLT, Int.reduceToNat, Int.reduceEq, ↓reduceIte, reduceCtorEq, Nat.reducePow, Nat.reduceAdd, Nat.reduceLeDiff, Nat.reduceLT, Nat.reduceSub, Nat.reduceEqDiff], by simp only [hl1, eES, Nat.reduceBEq, Int.reduceLE, Int.reduceLT, Int.reduceToNat, Int.reduceEq, ↓reduceIte, reduceCtorEq, Nat.reducePow, Nat.reduceAdd, Nat.reduceLeDiff, Nat.reduceLT, Nat.reduceSub, Nat.reduceEqDiff]⟩
      · omega
      · rw [← hTT]
        simp only [List.append_assoc]
        rw [← List.append_assoc (B.take _), List.take_append_drop]
      · rw [← hNN]; simp only [List.length_append]; omega
      · intro x hx
        refine hee x ?_
        simp only [List.mem_append] at hx ⊢
        grind

end Go.Proofs.Ytcmdlmcmefbkeaa.Ta

/- A row that is sorted: a range of it by insertion. -/
set_option linter.unusedSimpArgs false
namespace Go.Proofs.Ytcmdlmcmefbkeaa.Ta
open Go Am Rc Bt So

variable {E : AV → Prop}

def lt (c : AV → AV → Int) (x y : AV) : Bool := decide (c x y < 0)

/-- What compares two elements. -/
structure Cp (E : AV → Prop) (kc : Nat) (c : AV → AV → Int) : Prop where
  call : ∀ x y, Ez E 4 x → Ez E 4 y → Fn1 Try.prog kc [x, y] (.int .i64 (c x y))
  sw : SW (lt c)

/-- The rounds of one element. -/
def InS (m : Mem) (lv s g N i p : Nat) (kc : Nat) (c : AV → AV → Int) (P L S : List AV) (x : AV) (k : Nat) (st : St) : Prop :=
  ∃ f U V, st = ⟨f, [noObs] ++ Am.put m lv s (.vec g 4 (P ++ U ++ [x] ++ V ++ S)), []⟩ ∧ k = U.length ∧ U ++ V = L ∧ (∀ v ∈ V, lt c x v = true) ∧
    f 0 = .vec (lv + 1) s g 0 N false ∧ f 1 = .int .i64 (P.length : Nat) ∧ f 2 = .int .i64 (p : Nat) ∧ f 3 = .fn (.func kc) [] [] ∧ f 8 = .int .i64 (i : Nat) ∧ f 9 = .int .i64 ((P.length + U.length : Nat) : Int)

/-- .. of the range. -/
def IoS (m : Mem) (lv s g N : Nat) (kc : Nat) (c : AV → AV → Int) (P X S : List AV) (k : Nat) (st : St) : Prop :=
  ∃ f i, st = ⟨f, [noObs] ++ Am.put m lv s (.vec g 4 (P ++ isort (lt c) (X.take i) ++ X.drop i ++ S)), []⟩ ∧ k = X.length + 1 - i ∧ 1 ≤ i ∧ (i ≤ X.length ∨ (i = 1 ∧ X = [])) ∧
    f 0 = .vec (lv + 1) s g 0 N false ∧ f 1 = .int .i64 (P.length : Nat) ∧ f 2 = .int .i64 ((P.length + X.length : Nat) : Int) ∧ f 3 = .fn (.func kc) [] [] ∧ f 8 = .int .i64 ((P.length + i : Nat) : Int)

theorem last_split {α : Type} (U : List α) (h : 0 < U.length) : ∃ W u, U = W ++ [u] := by
  rcases List.eq_nil_or_concat U with rfl | ⟨W, u, e⟩
  · simp at h
  · exact ⟨W, u, by simpa using e⟩

theorem getE {α : Type} {P W V : List α} {u : α} {i : Nat} (h : i = P.length + W.length) : (P ++ (W ++ [u]) ++ V)[i]? = some u := by
  subst h; simp

theorem c70 {kc : Nat} {c : AV → AV → Int} (hc : Cp E kc c) (lv s g : Nat) (P X S : List AV) (m : Mem) (hl : Am.look m lv s = .vec g 4 (P ++ X ++ S)) (he : ∀ x ∈ P ++ X ++ S, Ez E 4 x)
    (hn : (P ++ X ++ S).length < 4611686018427387904) :
    ACalls Try.prog 70 [.vec lv s g 0 (P ++ X ++ S).length false, .int .i64 (P.length : Nat), .int .i64 ((P.length + X.length : Nat) : Int), .fn (.func kc) [] []] m
      (fun x m1 => x = .tup [] ∧ m1 = Am.put m lv s (.vec g 4 (P ++ isort (lt c) X ++ S))) := by
  have hlv : lv < m.length := look_lt (by rw [hl]; simp)
  have hlen : (P ++ X ++ S).length = P.length + X.length + S.length := by simp only [List.length_append]
  refine acalls_of_awp (rc := r70) (rs := o70) Try.func70 rfl rfl Try.ntmps70 k70 q70 (by simp) ?_
  have e1 : IntKind.i64.wrap ((P.length : Int) + 1) = ((P.length + 1 : Nat) : Int) := by rw [wi64]; omega
  simp only [g70_0, g70_1, g70_3, g70_4, g70_6, g70_5, g70_2, r70, o70, e1, eES, Nat.reduceBEq, Int.reduceLE, Int.reduceLT, Int.reduceToNat, Int.reduceEq, ↓reduceIte, reduceCtorEq, Nat.reducePow, Nat.reduceAdd, Nat.reduceLeDiff, Nat.reduceLT, Nat.reduceSub, Nat.reduceEqDiff]
  have h0 : m = Am.put m lv s (.vec g 4 (P ++ isort (lt c) (X.take 1) ++ X.drop 1 ++ S)) := by
    have : P ++ isort (lt c) (X.take 1) ++ X.drop 1 ++ S = P ++ X ++ S := by
      cases X with
      | nil => simp [isort]
      | cons x X => simp [isort, ins]
    rw [this]; exact (put_self hl).symm
  generalize hN : (P ++ X ++ S).length = N at *
  refine awp_loop (IoS m lv s g N kc c P X S) _ ⟨_, 1, by rw [← h0] <;> rfl, rfl, Nat.le_refl _, by
    cases X with
    | nil => exact .inr ⟨rfl, rfl⟩
    | cons x X => exact .inl (by simp), by simp only [eES, Nat.reduceBEq, Int.reduceLE, Int.reduceLT, Int.reduceToNat, Int.reduceEq, ↓reduceIte, reduceCtorEq, Nat.reducePow, Nat.reduceAdd, Nat.reduceLeDiff, Nat.reduceLT, Nat.reduceSub, Nat.reduceEqDiff], by simp only [eES, Nat.reduceBEq, Int.reduceLE, Int.reduceLT, Int.reduceToNat, Int.reduceEq, ↓reduceIte, reduceCtorEq, Nat.reducePow, Nat.reduceAdd, Nat.reduceLeDiff, Nat.reduceLT, Nat.reduceSub, Nat.reduceEqDiff], by simp only [eES, Nat.reduceBEq, Int.reduceLE, Int.reduceLT, Int.reduceToNat, Int.reduceEq, ↓reduceIte, reduceCtorEq, Nat.reducePow, Nat.reduceAdd, Nat.reduceLeDiff, Nat.reduceLT, Nat.reduceSub, Nat.reduceEqDiff], by simp only [eES, Nat.reduceBEq, Int.reduceLE, Int.reduceLT, Int.reduceToNat, Int.reduceEq, ↓reduceIte, reduceCtorEq, Nat.reducePow, Nat.reduceAdd, Nat.reduceLeDiff, Nat.reduceLT, Nat.reduceSub, Nat.reduceEqDiff], by simp only [eES, Nat.reduceBEq, Int.reduceLE, Int.reduceLT, Int.reduceToNat, Int.reduceEq, ↓reduceIte, reduceCtorEq, Nat.reducePow, Nat.reduceAdd, Nat.reduceLeDiff, Nat.reduceLT, Nat.reduceSub, Nat.reduceEqDiff]⟩ ?_
  clear h0 e1
  rintro k st ⟨f, i, rfl, rfl, hi1, hi2, f0, f1, f2, f3, f8⟩
  simp only [l70_0, l70_1, g70_0, g70_1, g70_3, g70_4, g70_6, g70_5, g70_2, r70, o70, f0, f1, f2, f3, f8, List.singleton_append, eES, Nat.reduceBEq, Int.reduceLE, Int.reduceLT, Int.reduceToNat, Int.reduceEq, ↓reduceIte, reduceCtorEq, Nat.reducePow, Nat.reduceAdd, Nat.reduceLeDiff, Nat.reduceLT, Nat.reduceSub, Nat.reduceEqDiff]
  by_cases hlt : i < X.length
  · have d0 : decide (((P.length + i : Nat) : Int) < ((P.length + X.length : Nat) : Int)) = true := by simp only [decide_eq_true_eq]; omega
    simp only [d0, f0, f1, f2, f3, f8, eES, Nat.reduceBEq, Int.reduceLE, Int.reduceLT, Int.reduceToNat, Int.reduceEq, ↓reduceIte, reduceCtorEq, Nat.reducePow, Nat.reduceAdd, Nat.reduceLeDiff, Nat.reduceLT, Nat.reduceSub, Nat.reduceEqDiff]
    obtain ⟨x, hx⟩ : ∃ x, X[i]? = some x := ⟨_, List.getElem?_eq_getElem hlt⟩
    have ex : Ez E 4 x := he x (by simp [List.mem_of_getElem? hx])
    have hL : (isort (lt c) (X.take i)).length = i := by rw [len_isort, List.length_take]; omega
    have heL : ∀ z ∈ isort (lt c) (X.take i), Ez E 4 z := fun z hz => he z (by simp [List.mem_of_mem_take (mem_isort hz)])
    have hdrop : X.drop i = [x] ++ X.drop (i + 1) := by
      rw [List.singleton_append, List.drop_eq_getElem_cons hlt]
      congr 1
      exact (List.getElem?_eq_some_iff.1 hx).2
    have htake : isort (lt c) (X.take (i + 1)) = mg (lt c) (isort (lt c) (X.take i)) [x] := by
      rw [List.take_add_one, hx, Option.toList_some, ← mg_isort hc.sw] <;> rfl
    refine awp_loop (InS m lv s g N (P.length + i) (P.length + X.length) kc c P (isort (lt c) (X.take i)) (X.drop (i + 1) ++ S) x) _ ⟨_, isort (lt c) (X.take i), [], by rw [hdrop]; simp only [List.append_assoc, List.append_nil, List.nil_append] <;> rfl, rfl, List.append_nil _, by simp, by simp only [f0, eES, Nat.reduceBEq, Int.reduceLE, Int.reduceLT, Int.reduceToNat, Int.reduceEq, ↓reduceIte, reduceCtorEq, Nat.reducePow, Nat.reduceAdd, Nat.reduceLeDiff, Nat.reduceLT, Nat.reduceSub, Nat.reduceEqDiff], by simp only [f1, eES, Nat.reduceBEq, Int.reduceLE, Int.reduceLT, Int.reduceToNat, Int.reduceEq, ↓reduceIte, reduceCtorEq, Nat.reducePow, Nat.reduceAdd, Nat.reduceLeDiff, Nat.reduceLT, Nat.reduceSub, Nat.reduceEqDiff], by simp only [f2, eES, Nat.reduceBEq, Int.reduceLE, Int.reduceLT, Int.reduceToNat, Int.reduceEq, ↓reduceIte, reduceCtorEq, Nat.reducePow, Nat.reduceAdd, Nat.reduceLeDiff, Nat.reduceLT, Nat.reduceSub, Nat.reduceEqDiff], by simp only [f3, eES, Nat.reduceBEq, Int.reduceLE, Int.reduceLT, Int.reduceToNat, Int.reduceEq, ↓reduceIte, reduceCtorEq, Nat.reducePow, Nat.reduceAdd, Nat.reduceLeDiff, Nat.reduceLT, Nat.reduceSub, Nat.reduceEqDiff], by simp only [f8, eES, Nat.reduceBEq, Int.reduceLE, Int.reduceLT, Int.reduceToNat, Int.reduceEq, ↓reduceIte, reduceCtorEq, Nat.reducePow, Nat.reduceAdd, Nat.reduceLeDiff, Nat.reduceLT, Nat.reduceSub, Nat.reduceEqDiff], by simp only [hL, eES, Nat.reduceBEq, Int.reduceLE, Int.reduceLT, Int.reduceToNat, Int.reduceEq, ↓reduceIte, reduceCtorEq, Nat.reducePow, Nat.reduceAdd, Nat.reduceLeDiff, Nat.reduceLT, Nat.reduceSub, Nat.reduceEqDiff]⟩ ?_
    rintro k' st ⟨f, U, V, rfl, rfl, hUV, hV, f0, f1, f2, f3, f8, f9⟩
    have hUVl : U.length + V.length = i := by rw [← List.length_append, hUV, hL]
    have hrow : (P ++ U ++ [x] ++ V ++ (X.drop (i + 1) ++ S)).length = N := by
      rw [← hN]; simp only [List.length_append, List.length_drop, List.length_singleton]; omega
    simp only [l70_0, l70_1, g70_0, g70_1, g70_3, g70_4, g70_6, g70_5, g70_2, r70, o70, f0, f1, f2, f3, f8, f9, List.singleton_append, eES, Nat.reduceBEq, Int.reduceLE, Int.reduceLT, Int.reduceToNat, Int.reduceEq, ↓reduceIte, reduceCtorEq, Nat.reducePow, Nat.reduceAdd, Nat.reduceLeDiff, Nat.reduceLT, Nat.reduceSub, Nat.reduceEqDiff]
    have e4 : IntKind.i64.wrap (((P.length + i : Nat) : Int) + 1) = ((P.length + (i + 1) : Nat) : Int) := by rw [wi64]; omega
    have fin : (∀ u ∈ U, lt c x u = false) → P ++ U ++ [x] ++ V ++ (X.drop (i + 1) ++ S) = P ++ isort (lt c) (X.take (i + 1)) ++ X.drop (i + 1) ++ S := by
      intro h
      rw [htake, ← hUV, mg_right h hV]; simp
    by_cases hU : 0 < U.length
    · obtain ⟨W, u, rfl⟩ := last_split U hU
      simp only [List.length_append, List.length_singleton] at hUVl hrow f9
      have d1 : decide (((P.length + (W.length + 1) : Nat) : Int) > (P.length : Int)) = true := by simp only [decide_eq_true_eq]; omega
      have e2 : IntKind.i64.wrap (((P.length + (W.length + 1) : Nat) : Int) - 1) = ((P.length + W.length : Nat) : Int) := by rw [wi64]; omega
      have eu : Ez E 4 u := heL u (by rw [← hUV]; simp)
      have hx1 : (P ++ (W ++ [u]) ++ [x] ++ V ++ (X.drop (i + 1) ++ S))[P.length + (W.length + 1)]? = some x := by
        have := getE (P := P) (W := W ++ [u]) (u := x) (V := V ++ (X.drop (i + 1) ++ S)) (i := P.length + (W.length + 1)) (by simp)
        simpa only [List.append_assoc] using this
      have hu1 : (P ++ (W ++ [u]) ++ [x] ++ V ++ (X.drop (i + 1) ++ S))[P.length + W.length]? = some u := by
        have := getE (P := P) (W := W) (u := u) (V := [x] ++ V ++ (X.drop (i + 1) ++ S)) (i := P.length + W.length) rfl
        simpa only [List.append_assoc] using this
      simp only [d1, e2, f0, f1, f2, f3, f8, f9, List.length_append, List.length_singleton, iad hlv (show P.length + (W.length + 1) < N by omega), iad hlv (show P.length + W.length < N by omega), ldr hlv hx1 ex, ldr hlv hu1 eu, eES, Nat.reduceBEq, Int.reduceLE, Int.reduceLT, Int.reduceToNat, Int.reduceEq, ↓reduceIte, reduceCtorEq, Nat.reducePow, Nat.reduceAdd, Nat.reduceLeDiff, Nat.reduceLT, Nat.reduceSub, Nat.reduceEqDiff]
      refine aops_callP (by simp only [eES, Nat.reduceBEq, Int.reduceLE, Int.reduceLT, Int.reduceToNat, Int.reduceEq, ↓reduceIte, reduceCtorEq, Nat.reducePow, Nat.reduceAdd, Nat.reduceLeDiff, Nat.reduceLT, Nat.reduceSub, Nat.reduceEqDiff]) (hc.call x u ex eu) (still_two ex eu _) (rf_two ex eu) rfl (.inl (rf_two ex eu)) ?_
      cases hcx : decide (c x u < 0) with
      | true =>
        have hset : ((P ++ (W ++ [u]) ++ [x] ++ V ++ (X.drop (i + 1) ++ S)).set (P.length + (W.length + 1)) u).set (P.length + W.length) x = P ++ W ++ [x] ++ ([u] ++ V) ++ (X.drop (i + 1) ++ S) := by
          simp [List.set_append, List.append_assoc]
        have hx2 : ((P ++ (W ++ [u]) ++ [x] ++ V ++ (X.drop (i + 1) ++ S)).set (P.length + (W.length + 1)) u)[P.length + W.length]? = some u := by
          rw [List.getElem?_set_ne (by omega), hu1]
        simp only [hcx, d1, e2, f0, f1, f2, f3, f8, f9, iad hlv (show P.length + (W.length + 1) < N by omega), iad hlv (show P.length + W.length < N by omega), ldr hlv hx1 ex, ldr hlv hu1 eu, ex.len, eu.len, ex.leaf, eu.leaf, str1 hlv hx1 ex eu (by decide), str1 hlv hx2 eu ex (by decide), eES, Nat.reduceBEq, Int.reduceLE, Int.reduceLT, Int.reduceToNat, Int.reduceEq, ↓reduceIte, reduceCtorEq, Nat.reducePow, Nat.reduceAdd, Nat.reduceLeDiff, Nat.reduceLT, Nat.reduceSub, Nat.reduceEqDiff]
        exact ⟨W.length, by simp, _, W, [u] ++ V, by rw [hset] <;> rfl, rfl, by rw [← hUV]; simp, by
          intro v hv
          rcases List.mem_append.1 hv with hv | hv
          · rw [List.mem_singleton.1 hv]; exact hcx
          · exact hV v hv, by simp only [f0, eES, Nat.reduceBEq, Int.reduceLE, Int.reduceLT, Int.reduceToNat, Int.reduceEq, ↓reduceIte, reduceCtorEq, Nat.reducePow, Nat.reduceAdd, Nat.reduceLeDiff, Nat.reduceLT, Nat.reduceSub, Nat.reduceEqDiff], by simp only [f1, eES, Nat.reduceBEq, Int.reduceLE, Int.reduceLT, Int.reduceToNat, Int.reduceEq, ↓reduceIte, reduceCtorEq, Nat.reducePow, Nat.reduceAdd, Nat.reduceLeDiff, Nat.reduceLT, Nat.reduceSub, Nat.reduceEqDiff], by simp only [f2, eES, Nat.reduceBEq, Int.reduceLE, Int.reduceLT, Int.reduceToNat, Int.reduceEq, ↓reduceIte, reduceCtorEq, Nat.reducePow, Nat.reduceAdd, Nat.reduceLeDiff, Nat.reduceLT, Nat.reduceSub, Nat.reduceEqDiff], by simp only [f3, eES, Nat.reduceBEq, Int.reduceLE, Int.reduceLT, Int.reduceToNat, Int.reduceEq, ↓reduceIte, reduceCtorEq, Nat.reducePow, Nat.reduceAdd, Nat.reduceLeDiff, Nat.reduceLT, Nat.reduceSub, Nat.reduceEqDiff], by simp only [f8, eES, Nat.reduceBEq, Int.reduceLE, Int.reduceLT, Int.reduceToNat, Int.reduceEq, ↓reduceIte, reduceCtorEq, Nat.reducePow, Nat.reduceAdd, Nat.reduceLeDiff, Nat.reduceLT, Nat.reduceSub, Nat.reduceEqDiff], by simp only [eES, Nat.reduceBEq, Int.reduceLE, Int.reduceLT, Int.reduceToNat, Int.reduceEq, ↓reduceIte, reduceCtorEq, Nat.reducePow, Nat.reduceAdd, Nat.reduceLeDiff, Nat.reduceLT, Nat.reduceSub, Nat.reduceEqDiff]⟩
      | false =>
        have hz : ∀ z ∈ W ++ [u], lt c x z = false := by
          have hsrt := srt_isort hc.sw (X.take i)
          have hsrt : Srt (lt c) ((W ++ [u]) ++ V) := by rw [hUV]; exact hsrt
          have hs2 := (List.pairwise_append.1 (List.pairwise_append.1 hsrt).1).2.2
          intro z hz
          rcases List.mem_append.1 hz with hz | hz
          · exact hc.sw.nt x u z hcx (hs2 z hz u (by simp))
          · rw [List.mem_singleton.1 hz]; exact hcx
        simp only [hcx, f0, f1, f2, f3, f8, f9, e4, eES, Nat.reduceBEq, Int.reduceLE, Int.reduceLT, Int.reduceToNat, Int.reduceEq, ↓reduceIte, reduceCtorEq, Nat.reducePow, Nat.reduceAdd, Nat.reduceLeDiff, Nat.reduceLT, Nat.reduceSub, Nat.reduceEqDiff]
        exact ⟨X.length + 1 - (i + 1), by omega, _, i + 1, by rw [fin hz] <;> rfl, rfl, by omega, .inl (by omega), by simp only [f0, eES, Nat.reduceBEq, Int.reduceLE, Int.reduceLT, Int.reduceToNat, Int.reduceEq, ↓reduceIte, reduceCtorEq, Nat.reducePow, Nat.reduceAdd, Nat.reduceLeDiff, Nat.reduceLT, Nat.reduceSub, Nat.reduceEqDiff], by simp only [f1, eES, Nat.reduceBEq, Int.reduceLE, Int.reduceLT, Int.reduceToNat, Int.reduceEq, ↓reduceIte, reduceCtorEq, Nat.reducePow, Nat.reduceAdd, Nat.reduceLeDiff, Nat.reduceLT, Nat.reduceSub, Nat.reduceEqDiff], by simp only [f2, eES, Nat.reduceBEq, Int.reduceLE, Int.reduceLT, Int.reduceToNat, Int.reduceEq, ↓reduceIte, reduceCtorEq, Nat.reducePow, Nat.reduceAdd, Nat.reduceLeDiff, Nat.reduceLT, Nat.reduceSub, Nat.reduceEqDiff], by simp only [f3, eES, Nat.reduceBEq, Int.reduceLE, Int.reduceLT, Int.reduceToNat, Int.reduceEq, ↓reduceIte, reduceCtorEq, Nat.reducePow, Nat.reduceAdd, Nat.reduceLeDiff, Nat.reduceLT, Nat.reduceSub, Nat.reduceEqDiff], by simp only [eES, Nat.reduceBEq, Int.reduceLE, Int.reduceLT, Int.reduceToNat, Int.reduceEq, ↓reduceIte, reduceCtorEq, Nat.reducePow, Nat.reduceAdd, Nat.reduceLeDiff, Nat.reduceLT, Nat.reduceSub, Nat.reduceEqDiff]⟩
    · have hU0 : U = [] := List.eq_nil_of_length_eq_zero (by omega)
      subst hU0
      have d1 : decide (((P.length + 0 : Nat) : Int) > (P.length : Int)) = false := by simp
      have fin0 := fin (by simp)
      simp only [List.append_nil] at fin0
      simp only [List.length_nil] at f9
      simp only [d1, f0, f1, f2, f3, f8, f9, e4, List.length_nil, eES, Nat.reduceBEq, Int.reduceLE, Int.reduceLT, Int.reduceToNat, Int.reduceEq, ↓reduceIte, reduceCtorEq, Nat.reducePow, Nat.reduceAdd, Nat.reduceLeDiff, Nat.reduceLT, Nat.reduceSub, Nat.reduceEqDiff]
      exact ⟨X.length + 1 - (i + 1), by omega, _, i + 1, by rw [fin0] <;> rfl, rfl, by omega, .inl (by omega), by simp only [f0, eES, Nat.reduceBEq, Int.reduceLE, Int.reduceLT, Int.reduceToNat, Int.reduceEq, ↓reduceIte, reduceCtorEq, Nat.reducePow, Nat.reduceAdd, Nat.reduceLeDiff, Nat.reduceLT, Nat.reduceSub, Nat.reduceEqDiff], by simp only [f1, eES, Nat.reduceBEq, Int.reduceLE, Int.reduceLT, Int.reduceToNat, Int.reduceEq, ↓reduceIte, reduceCtorEq, Nat.reducePow, Nat.reduceAdd, Nat.reduceLeDiff, Nat.reduceLT, Nat.reduceSub, Nat.reduceEqDiff], by simp only [f2, eES, Nat.reduceBEq, Int.reduceLE, Int.reduceLT, Int.reduceToNat, Int.reduceEq, ↓reduceIte, reduceCtorEq, Nat.reducePow, Nat.reduceAdd, Nat.reduceLeDiff, Nat.reduceLT, Nat.reduceSub, Nat.reduceEqDiff], by simp only [f3, eES, Nat.reduceBEq, Int.reduceLE, Int.reduceLT, Int.reduceToNat, Int.reduceEq, ↓reduceIte, reduceCtorEq, Nat.reducePow, Nat.reduceAdd, Nat.reduceLeDiff, Nat.reduceLT, Nat.reduceSub, Nat.reduceEqDiff], by simp only [eES, Nat.reduceBEq, Int.reduceLE, Int.reduceLT, Int.reduceToNat, Int.reduceEq, ↓reduceIte, reduceCtorEq, Nat.reducePow, Nat.reduceAdd, Nat.reduceLeDiff, Nat.reduceLT, Nat.reduceSub, Nat.reduceEqDiff]⟩
  · have d0 : decide (((P.length + i : Nat) : Int) < ((P.length + X.length : Nat) : Int)) = false := by simp only [decide_eq_false_iff_not]; omega
    have hX : isort (lt c) (X.take i) ++ X.drop i = isort (lt c) X := by
      rcases hi2 with h | ⟨_, rfl⟩
      · rw [List.take_of_length_le (by omega), List.drop_of_length_le (by omega), List.append_nil]
      · simp [isort]
    have hX2 : P ++ isort (lt c) (X.take i) ++ X.drop i ++ S = P ++ isort (lt c) X ++ S := by rw [List.append_assoc P (isort (lt c) (X.take i)) (X.drop i), hX]
    simp only [d0, f0, f1, f2, f3, f8, hX2, put_len, eES, Nat.reduceBEq, Int.reduceLE, Int.reduceLT, Int.reduceToNat, Int.reduceEq, ↓reduceIte, reduceCtorEq, Nat.reducePow, Nat.reduceAdd, Nat.reduceLeDiff, Nat.reduceLT, Nat.reduceSub, Nat.reduceEqDiff]

end Go.Proofs.Ytcmdlmcmefbkeaa.Ta

/- A row that is sorted: two ranges merged, one of them of one element. -/
set_option linter.unusedSimpArgs false
namespace Go.Proofs.Ytcmdlmcmefbkeaa.Ta
open Go Am Rc Bt So

variable {E : AV → Prop}

theorem half (a b : Nat) (h : a + b < 9223372036854775808) : IntKind.i64.wrap ((IntKind.u64.wrap ((a + b : Nat) : Int)).fdiv (2 ^ min 1 64)) = (((a + b) / 2 : Nat) : Int) := by
  rw [wi64, wu64, show min 1 64 = 1 from rfl, show (2 : Int) ^ 1 = 2 from rfl]
  have : (((a + b : Nat) : Int) % 18446744073709551616) = ((a + b : Nat) : Int) := by omega
  rw [this, Int.fdiv_eq_ediv_of_nonneg _ (by omega)]
  omega

/-- The search of the place of x among Y. -/
def SaS (m : Mem) (lv s g N : Nat) (kc : Nat) (c : AV → AV → Int) (P Y S : List AV) (x : AV) (k : Nat) (st : St) : Prop :=
  ∃ f i j, st = ⟨f, [noObs] ++ Am.put m lv s (.vec g 4 (P ++ [x] ++ Y ++ S)), []⟩ ∧ k = j - i ∧ i ≤ j ∧ j ≤ Y.length ∧ (∀ k y, k < i → Y[k]? = some y → lt c y x = true) ∧ (∀ k y, j ≤ k → Y[k]? = some y → lt c y x = false) ∧
    f 0 = .vec (lv + 1) s g 0 N false ∧ f 1 = .int .i64 (P.length : Nat) ∧ f 4 = .fn (.func kc) [] [] ∧ f 10 = .int .i64 ((P.length + 1 + i : Nat) : Int) ∧ f 11 = .int .i64 ((P.length + 1 + j : Nat) : Int)

/-- .. x brought there. -/
def SaT (m : Mem) (lv s g N i : Nat) (P Y S : List AV) (x : AV) (k : Nat) (st : St) : Prop :=
  ∃ f t, st = ⟨f, [noObs] ++ Am.put m lv s (.vec g 4 (P ++ Y.take t ++ [x] ++ Y.drop t ++ S)), []⟩ ∧ k = i - t ∧ t ≤ i ∧
    f 0 = .vec (lv + 1) s g 0 N false ∧ f 10 = .int .i64 ((P.length + 1 + i : Nat) : Int) ∧ f 13 = .int .i64 ((P.length + t : Nat) : Int)

theorem symA {kc : Nat} {c : AV → AV → Int} (hc : Cp E kc c) (lv s g : Nat) (P : List AV) (x : AV) (Y S : List AV) (m : Mem) (hl : Am.look m lv s = .vec g 4 (P ++ [x] ++ Y ++ S)) (he : ∀ z ∈ P ++ [x] ++ Y ++ S, Ez E 4 z)
    (hn : (P ++ [x] ++ Y ++ S).length < 4611686018427387904) (hY : Srt (lt c) Y) :
    ACalls Try.prog 71 [.vec lv s g 0 (P ++ [x] ++ Y ++ S).length false, .int .i64 (P.length : Nat), .int .i64 ((P.length + 1 : Nat) : Int), .int .i64 ((P.length + 1 + Y.length : Nat) : Int), .fn (.func kc) [] []] m
      (fun v m1 => v = .tup [] ∧ m1 = Am.put m lv s (.vec g 4 (P ++ mg (lt c) [x] Y ++ S))) := by
  have hlv : lv < m.length := look_lt (by rw [hl]; simp)
  have hlen : (P ++ [x] ++ Y ++ S).length = P.length + 1 + Y.length + S.length := by simp only [List.length_append, List.length_singleton]
  have ex : Ez E 4 x := he x (by simp)
  have eY : ∀ y ∈ Y, Ez E 4 y := fun y hy => he y (by simp [hy])
  refine acalls_of_awp (rc := r71) (rs := o71) Try.func71 rfl rfl Try.ntmps71 k71 q71 (by simp) ?_
  have e1 : IntKind.i64.wrap (((P.length + 1 : Nat) : Int) - (P.length : Int)) = 1 := by rw [wi64]; omega
  simp only [g71_0, g71_1, g71_2, g71_3, g71_4, g71_5, g71_6, g71_7, g71_8, g71_9, g71_11, g71_10, g71_12, g71_13, g71_14, g71_15, g71_16, g71_17, g71_18, g71_19, g71_20, g71_21, g71_23, g71_22, g71_24, g71_25, g71_26, g71_27, g71_28, g71_29, g71_30, g71_31, g71_32, g71_33, g71_34, g71_35, g71_36, g71_37, g71_38, g71_39, g71_40, g71_41, g71_42, g71_43, g71_44, r71, o71, e1, beq_self_eq_true, eES, Nat.reduceBEq, Int.reduceLE, Int.reduceLT, Int.reduceToNat, Int.reduceEq, ↓reduceIte, reduceCtorEq, Nat.reducePow, Nat.reduceAdd, Nat.reduceLeDiff, Nat.reduceLT, Nat.reduceSub, Nat.reduceEqDiff]
  have h0 : m = Am.put m lv s (.vec g 4 (P ++ [x] ++ Y ++ S)) := (put_self hl).symm
  generalize hN : (P ++ [x] ++ Y ++ S).length = N at *
  refine awp_loop (SaS m lv s g N kc c P Y S x) _ ⟨_, 0, Y.length, by rw [← h0] <;> rfl, rfl, Nat.zero_le _, Nat.le_refl _, (by intro k y hk; exact absurd hk (Nat.not_lt_zero _)), (by intro k y hk hy; rw [List.getElem?_eq_none hk] at hy; cases hy), by simp only [eES, Nat.reduceBEq, Int.reduceLE, Int.reduceLT, Int.reduceToNat, Int.reduceEq, ↓reduceIte, reduceCtorEq, Nat.reducePow, Nat.reduceAdd, Nat.reduceLeDiff, Nat.reduceLT, Nat.reduceSub, Nat.reduceEqDiff], by simp only [eES, Nat.reduceBEq, Int.reduceLE, Int.reduceLT, Int.reduceToNat, Int.reduceEq, ↓reduceIte, reduceCtorEq, Nat.reducePow, Nat.reduceAdd, Nat.reduceLeDiff, Nat.reduceLT, Nat.reduceSub, Nat.reduceEqDiff], by simp only [eES, Nat.reduceBEq, Int.reduceLE, Int.reduceLT, Int.reduceToNat, Int.reduceEq, ↓reduceIte, reduceCtorEq, Nat.reducePow, Nat.reduceAdd, Nat.reduceLeDiff, Nat.reduceLT, Nat.reduceSub, Nat.reduceEqDiff], by simp only [Nat.add_zero, eES, Nat.reduceBEq, Int.reduceLE, Int.reduceLT, Int.reduceToNat, Int.reduceEq, ↓reduceIte, reduceCtorEq, Nat.reducePow, Nat.reduceAdd, Nat.reduceLeDiff, Nat.reduceLT, Nat.reduceSub, Nat.reduceEqDiff], by simp only [eES, Nat.reduceBEq, Int.reduceLE, Int.reduceLT, Int.reduceToNat, Int.reduceEq, ↓reduceIte, reduceCtorEq, Nat.reducePow, Nat.reduceAdd, Nat.reduceLeDiff, Nat.reduceLT, Nat.reduceSub, Nat.reduceEqDiff]⟩ ?_
  clear h0 e1
  rintro k st ⟨f, i, j, rfl, rfl, hij, hj, hp, hq, f0, f1, f4, f10, f11⟩
  simp only [l71_0, l71_1, l71_2, l71_3, l71_4, g71_0, g71_1, g71_2, g71_3, g71_4, g71_5, g71_6, g71_7, g71_8, g71_9, g71_11, g71_10, g71_12, g71_13, g71_14, g71_15, g71_16, g71_17, g71_18, g71_19, g71_20, g71_21, g71_23, g71_22, g71_24, g71_25, g71_26, g71_27, g71_28, g71_29, g71_30, g71_31, g71_32, g71_33, g71_34, g71_35, g71_36, g71_37, g71_38, g71_39, g71_40, g71_41, g71_42, g71_43, g71_44, r71, o71, f0, f1, f4, f10, f11, List.singleton_append, eES, Nat.reduceBEq, Int.reduceLE, Int.reduceLT, Int.reduceToNat, Int.reduceEq, ↓reduceIte, reduceCtorEq, Nat.reducePow, Nat.reduceAdd, Nat.reduceLeDiff, Nat.reduceLT, Nat.reduceSub, Nat.reduceEqDiff]
  by_cases hlt : i < j
  · have d0 : decide (((P.length + 1 + i : Nat) : Int) < ((P.length + 1 + j : Nat) : Int)) = true := by simp only [decide_eq_true_eq]; omega
    have e2 : IntKind.i64.wrap (((P.length + 1 + i : Nat) : Int) + ((P.length + 1 + j : Nat) : Int)) = (((P.length + 1 + i) + (P.length + 1 + j) : Nat) : Int) := by rw [wi64]; omega
    have e3 := half (P.length + 1 + i) (P.length + 1 + j) (by omega)
    have e4 : ((P.length + 1 + i) + (P.length + 1 + j)) / 2 = P.length + 1 + (i + j) / 2 := by omega
    rw [e4] at e3
    generalize hh : (i + j) / 2 = h at *
    have hh1 : h < j := by omega
    have hh2 : i ≤ h := by omega
    have e5 : IntKind.i64.wrap (((P.length + 1 + h : Nat) : Int) + 1) = ((P.length + 1 + (h + 1) : Nat) : Int) := by rw [wi64]; omega
    obtain ⟨y, hy⟩ : ∃ y, Y[h]? = some y := ⟨_, List.getElem?_eq_getElem (by omega)⟩
    have ey := eY y (List.mem_of_getElem? hy)
    have gy : (P ++ [x] ++ Y ++ S)[P.length + 1 + h]? = some y := by
      rw [List.getElem?_append_left (by simp only [List.length_append, List.length_singleton]; omega), List.getElem?_append_right (by simp only [List.length_append, List.length_singleton]; omega)]
      rw [← hy]; congr 1; simp only [List.length_append, List.length_singleton]; omega
    have gx : (P ++ [x] ++ Y ++ S)[P.length]? = some x := by
      have := getE (P := P) (W := []) (u := x) (V := Y ++ S) (i := P.length) rfl
      simpa only [List.append_assoc, List.nil_append] using this
    simp only [d0, e2, e3, f0, f1, f4, f10, f11, iad hlv (show P.length + 1 + h < N by omega), iad hlv (show P.length < N by omega), ldr hlv gy ey, ldr hlv gx ex, eES, Nat.reduceBEq, Int.reduceLE, Int.reduceLT, Int.reduceToNat, Int.reduceEq, ↓reduceIte, reduceCtorEq, Nat.reducePow, Nat.reduceAdd, Nat.reduceLeDiff, Nat.reduceLT, Nat.reduceSub, Nat.reduceEqDiff]
    refine aops_callP (by simp only [eES, Nat.reduceBEq, Int.reduceLE, Int.reduceLT, Int.reduceToNat, Int.reduceEq, ↓reduceIte, reduceCtorEq, Nat.reducePow, Nat.reduceAdd, Nat.reduceLeDiff, Nat.reduceLT, Nat.reduceSub, Nat.reduceEqDiff]) (hc.call y x ey ex) (still_two ey ex _) (rf_two ey ex) rfl (.inl (rf_two ey ex)) ?_
    cases hcx : decide (c y x < 0) with
    | true =>
      simp only [hcx, e5, f0, f1, f4, f10, f11, eES, Nat.reduceBEq, Int.reduceLE, Int.reduceLT, Int.reduceToNat, Int.reduceEq, ↓reduceIte, reduceCtorEq, Nat.reducePow, Nat.reduceAdd, Nat.reduceLeDiff, Nat.reduceLT, Nat.reduceSub, Nat.reduceEqDiff]
      exact ⟨j - (h + 1), by omega, _, h + 1, j, rfl, rfl, by omega, hj, fun k z hk hz => srt_mono hc.sw hY (Nat.le_of_lt_succ hk) hz hy hcx, hq, by simp only [f0, eES, Nat.reduceBEq, Int.reduceLE, Int.reduceLT, Int.reduceToNat, Int.reduceEq, ↓reduceIte, reduceCtorEq, Nat.reducePow, Nat.reduceAdd, Nat.reduceLeDiff, Nat.reduceLT, Nat.reduceSub, Nat.reduceEqDiff], by simp only [f1, eES, Nat.reduceBEq, Int.reduceLE, Int.reduceLT, Int.reduceToNat, Int.reduceEq, ↓reduceIte, reduceCtorEq, Nat.reducePow, Nat.reduceAdd, Nat.reduceLeDiff, Nat.reduceLT, Nat.reduceSub, Nat.reduceEqDiff], by simp only [f4, eES, Nat.reduceBEq, Int.reduceLE, Int.reduceLT, Int.reduceToNat, Int.reduceEq, ↓reduceIte, reduceCtorEq, Nat.reducePow, Nat.reduceAdd, Nat.reduceLeDiff, Nat.reduceLT, Nat.reduceSub, Nat.reduceEqDiff], by simp only [eES, Nat.reduceBEq, Int.reduceLE, Int.reduceLT, Int.reduceToNat, Int.reduceEq, ↓reduceIte, reduceCtorEq, Nat.reducePow, Nat.reduceAdd, Nat.reduceLeDiff, Nat.reduceLT, Nat.reduceSub, Nat.reduceEqDiff], by simp only [f11, eES, Nat.reduceBEq, Int.reduceLE, Int.reduceLT, Int.reduceToNat, Int.reduceEq, ↓reduceIte, reduceCtorEq, Nat.reducePow, Nat.reduceAdd, Nat.reduceLeDiff, Nat.reduceLT, Nat.reduceSub, Nat.reduceEqDiff]⟩
    | false =>
      simp only [hcx, e5, f0, f1, f4, f10, f11, eES, Nat.reduceBEq, Int.reduceLE, Int.reduceLT, Int.reduceToNat, Int.reduceEq, ↓reduceIte, reduceCtorEq, Nat.reducePow, Nat.reduceAdd, Nat.reduceLeDiff, Nat.reduceLT, Nat.reduceSub, Nat.reduceEqDiff]
      exact ⟨h - i, by omega, _, i, h, rfl, rfl, by omega, by omega, hp, fun k z hk hz => by
        cases hb : lt c z x with
        | false => rfl
        | true => exact absurd (srt_mono hc.sw hY hk hy hz hb) (by show ¬ (decide _ = true); rw [hcx]; simp), by simp only [f0, eES, Nat.reduceBEq, Int.reduceLE, Int.reduceLT, Int.reduceToNat, Int.reduceEq, ↓reduceIte, reduceCtorEq, Nat.reducePow, Nat.reduceAdd, Nat.reduceLeDiff, Nat.reduceLT, Nat.reduceSub, Nat.reduceEqDiff], by simp only [f1, eES, Nat.reduceBEq, Int.reduceLE, Int.reduceLT, Int.reduceToNat, Int.reduceEq, ↓reduceIte, reduceCtorEq, Nat.reducePow, Nat.reduceAdd, Nat.reduceLeDiff, Nat.reduceLT, Nat.reduceSub, Nat.reduceEqDiff], by simp only [f4, eES, Nat.reduceBEq, Int.reduceLE, Int.reduceLT, Int.reduceToNat, Int.reduceEq, ↓reduceIte, reduceCtorEq, Nat.reducePow, Nat.reduceAdd, Nat.reduceLeDiff, Nat.reduceLT, Nat.reduceSub, Nat.reduceEqDiff], by simp only [f10, eES, Nat.reduceBEq, Int.reduceLE, Int.reduceLT, Int.reduceToNat, Int.reduceEq, ↓reduceIte, reduceCtorEq, Nat.reducePow, Nat.reduceAdd, Nat.reduceLeDiff, Nat.reduceLT, Nat.reduceSub, Nat.reduceEqDiff], by simp only [eES, Nat.reduceBEq, Int.reduceLE, Int.reduceLT, Int.reduceToNat, Int.reduceEq, ↓reduceIte, reduceCtorEq, Nat.reducePow, Nat.reduceAdd, Nat.reduceLeDiff, Nat.reduceLT, Nat.reduceSub, Nat.reduceEqDiff]⟩
  · have d0 : decide (((P.length + 1 + i : Nat) : Int) < ((P.length + 1 + j : Nat) : Int)) = false := by simp only [decide_eq_false_iff_not]; omega
    have hij' : j = i := by omega
    subst hij'
    simp only [d0, f0, f1, f4, f10, f11, eES, Nat.reduceBEq, Int.reduceLE, Int.reduceLT, Int.reduceToNat, Int.reduceEq, ↓reduceIte, reduceCtorEq, Nat.reducePow, Nat.reduceAdd, Nat.reduceLeDiff, Nat.reduceLT, Nat.reduceSub, Nat.reduceEqDiff]
    have hres : mg (lt c) [x] Y = Y.take j ++ x :: Y.drop j := by
      have := mg_left (lt := lt c) (x := x) (Y1 := Y.take j) (Y2 := Y.drop j) (fun y hy => by
        obtain ⟨k, hk⟩ := List.getElem?_of_mem hy
        rw [List.getElem?_take] at hk
        split at hk
        · rename_i h; exact hp k y h hk
        · cases hk) (fun y hy => by
        obtain ⟨k, hk⟩ := List.getElem?_of_mem hy
        rw [List.getElem?_drop] at hk
        exact hq _ y (by omega) hk)
      rwa [List.take_append_drop] at this
    refine awp_loop (SaT m lv s g N j P Y S x) _ ⟨_, 0, by rw [show P ++ Y.take 0 ++ [x] ++ Y.drop 0 ++ S = P ++ [x] ++ Y ++ S by simp] <;> rfl, rfl, Nat.zero_le _, by simp only [f0, eES, Nat.reduceBEq, Int.reduceLE, Int.reduceLT, Int.reduceToNat, Int.reduceEq, ↓reduceIte, reduceCtorEq, Nat.reducePow, Nat.reduceAdd, Nat.reduceLeDiff, Nat.reduceLT, Nat.reduceSub, Nat.reduceEqDiff], by simp only [f10, eES, Nat.reduceBEq, Int.reduceLE, Int.reduceLT, Int.reduceToNat, Int.reduceEq, ↓reduceIte, reduceCtorEq, Nat.reducePow, Nat.reduceAdd, Nat.reduceLeDiff, Nat.reduceLT, Nat.reduceSub, Nat.reduceEqDiff], by simp only [Nat.add_zero, eES, Nat.reduceBEq, Int.reduceLE, Int.reduceLT, Int.reduceToNat, Int.reduceEq, ↓reduceIte, reduceCtorEq, Nat.reducePow, Nat.reduceAdd, Nat.reduceLeDiff, Nat.reduceLT, Nat.reduceSub, Nat.reduceEqDiff]⟩ ?_
    clear f0 f1 f4 f10 f11 d0 hp hq f
    rintro k st ⟨f, t, rfl, rfl, ht, f0, f10, f13⟩
    have e6 : IntKind.i64.wrap (((P.length + 1 + j : Nat) : Int) - 1) = ((P.length + j : Nat) : Int) := by rw [wi64]; omega
    have e7 : IntKind.i64.wrap (((P.length + t : Nat) : Int) + 1) = ((P.length + (t + 1) : Nat) : Int) := by rw [wi64]; omega
    simp only [l71_0, l71_1, l71_2, l71_3, l71_4, g71_0, g71_1, g71_2, g71_3, g71_4, g71_5, g71_6, g71_7, g71_8, g71_9, g71_11, g71_10, g71_12, g71_13, g71_14, g71_15, g71_16, g71_17, g71_18, g71_19, g71_20, g71_21, g71_23, g71_22, g71_24, g71_25, g71_26, g71_27, g71_28, g71_29, g71_30, g71_31, g71_32, g71_33, g71_34, g71_35, g71_36, g71_37, g71_38, g71_39, g71_40, g71_41, g71_42, g71_43, g71_44, r71, o71, e6, f0, f10, f13, List.singleton_append, eES, Nat.reduceBEq, Int.reduceLE, Int.reduceLT, Int.reduceToNat, Int.reduceEq, ↓reduceIte, reduceCtorEq, Nat.reducePow, Nat.reduceAdd, Nat.reduceLeDiff, Nat.reduceLT, Nat.reduceSub, Nat.reduceEqDiff]
    by_cases hlt : t < j
    · have d0 : decide (((P.length + t : Nat) : Int) < ((P.length + j : Nat) : Int)) = true := by simp only [decide_eq_true_eq]; omega
      obtain ⟨y, hy⟩ : ∃ y, Y[t]? = some y := ⟨_, List.getElem?_eq_getElem (by omega)⟩
      have ey := eY y (List.mem_of_getElem? hy)
      have hdrop : Y.drop t = [y] ++ Y.drop (t + 1) := by
        rw [List.singleton_append, List.drop_eq_getElem_cons (by omega)]
        congr 1
        exact (List.getElem?_eq_some_iff.1 hy).2
      have htake : Y.take (t + 1) = Y.take t ++ [y] := by rw [List.take_add_one, hy] <;> rfl
      have hlt' : (Y.take t).length = t := by rw [List.length_take]; omega
      have g1 : (P ++ Y.take t ++ [x] ++ Y.drop t ++ S)[P.length + t]? = some x := by
        have := getE (P := P) (W := Y.take t) (u := x) (V := Y.drop t ++ S) (i := P.length + t) (by rw [hlt'])
        simpa only [List.append_assoc] using this
      have g2 : (P ++ Y.take t ++ [x] ++ Y.drop t ++ S)[P.length + (t + 1)]? = some y := by
        have := getE (P := P) (W := Y.take t ++ [x]) (u := y) (V := Y.drop (t + 1) ++ S) (i := P.length + (t + 1)) (by rw [List.length_append, hlt'] <;> rfl)
        rw [hdrop]
        simpa only [List.append_assoc] using this
      have g3 : ((P ++ Y.take t ++ [x] ++ Y.drop t ++ S).set (P.length + t) y)[P.length + (t + 1)]? = some y := by
        rw [List.getElem?_set_ne (by omega), g2]
      have hset : ((P ++ Y.take t ++ [x] ++ Y.drop t ++ S).set (P.length + t) y).set (P.length + (t + 1)) x = P ++ Y.take (t + 1) ++ [x] ++ Y.drop (t + 1) ++ S := by
        rw [hdrop, htake]
        simp [List.set_append, hlt']
      simp only [d0, e7, f0, f10, f13, iad hlv (show P.length + (t + 1) < N by omega), iad hlv (show P.length + t < N by omega), ldr hlv g1 ex, ldr hlv g2 ey, ex.len, ey.len, ex.leaf, ey.leaf, str1 hlv g1 ex ey (by decide), str1 hlv g3 ey ex (by decide), eES, Nat.reduceBEq, Int.reduceLE, Int.reduceLT, Int.reduceToNat, Int.reduceEq, ↓reduceIte, reduceCtorEq, Nat.reducePow, Nat.reduceAdd, Nat.reduceLeDiff, Nat.reduceLT, Nat.reduceSub, Nat.reduceEqDiff]
      exact ⟨j - (t + 1), by omega, _, t + 1, by rw [hset] <;> rfl, rfl, by omega, by simp only [f0, eES, Nat.reduceBEq, Int.reduceLE, Int.reduceLT, Int.reduceToNat, Int.reduceEq, ↓reduceIte, reduceCtorEq, Nat.reducePow, Nat.reduceAdd, Nat.reduceLeDiff, Nat.reduceLT, Nat.reduceSub, Nat.reduceEqDiff], by simp only [f10, eES, Nat.reduceBEq, Int.reduceLE, Int.reduceLT, Int.reduceToNat, Int.reduceEq, ↓reduceIte, reduceCtorEq, Nat.reducePow, Nat.reduceAdd, Nat.reduceLeDiff, Nat.reduceLT, Nat.reduceSub, Nat.reduceEqDiff], by simp only [eES, Nat.reduceBEq, Int.reduceLE, Int.reduceLT, Int.reduceToNat, Int.reduceEq, ↓reduceIte, reduceCtorEq, Nat.reducePow, Nat.reduceAdd, Nat.reduceLeDiff, Nat.reduceLT, Nat.reduceSub, Nat.reduceEqDiff]⟩
    · have d0 : decide (((P.length + t : Nat) : Int) < ((P.length + j : Nat) : Int)) = false := by simp only [decide_eq_false_iff_not]; omega
      have htj : t = j := by omega
      subst htj
      have hfin : P ++ Y.take t ++ [x] ++ Y.drop t ++ S = P ++ mg (lt c) [x] Y ++ S := by rw [hres]; simp
      simp only [d0, f0, f10, f13, hfin, put_len, eES, Nat.reduceBEq, Int.reduceLE, Int.reduceLT, Int.reduceToNat, Int.reduceEq, ↓reduceIte, reduceCtorEq, Nat.reducePow, Nat.reduceAdd, Nat.reduceLeDiff, Nat.reduceLT, Nat.reduceSub, Nat.reduceEqDiff]

end Go.Proofs.Ytcmdlmcmefbkeaa.Ta

/- A row that is sorted: two ranges merged, the second of one element. -/
set_option linter.unusedSimpArgs false
namespace Go.Proofs.Ytcmdlmcmefbkeaa.Ta
open Go Am Rc Bt So

variable {E : AV → Prop}

/-- The search of the place of y among X. -/
def SbS (m : Mem) (lv s g N : Nat) (kc : Nat) (c : AV → AV → Int) (P X S : List AV) (y : AV) (k : Nat) (st : St) : Prop :=
  ∃ f i j, st = ⟨f, [noObs] ++ Am.put m lv s (.vec g 4 (P ++ X ++ [y] ++ S)), []⟩ ∧ k = j - i ∧ i ≤ j ∧ j ≤ X.length ∧ (∀ k x, k < i → X[k]? = some x → lt c y x = false) ∧ (∀ k x, j ≤ k → X[k]? = some x → lt c y x = true) ∧
    f 0 = .vec (lv + 1) s g 0 N false ∧ f 2 = .int .i64 ((P.length + X.length : Nat) : Int) ∧ f 4 = .fn (.func kc) [] [] ∧ f 14 = .int .i64 ((P.length + i : Nat) : Int) ∧ f 15 = .int .i64 ((P.length + j : Nat) : Int)

/-- .. y brought there. -/
def SbT (m : Mem) (lv s g N i : Nat) (P X S : List AV) (y : AV) (k : Nat) (st : St) : Prop :=
  ∃ f t, st = ⟨f, [noObs] ++ Am.put m lv s (.vec g 4 (P ++ X.take t ++ [y] ++ X.drop t ++ S)), []⟩ ∧ k = t - i ∧ i ≤ t ∧ t ≤ X.length ∧
    f 0 = .vec (lv + 1) s g 0 N false ∧ f 14 = .int .i64 ((P.length + i : Nat) : Int) ∧ f 17 = .int .i64 ((P.length + t : Nat) : Int)

theorem symB {kc : Nat} {c : AV → AV → Int} (hc : Cp E kc c) (lv s g : Nat) (P X : List AV) (y : AV) (S : List AV) (m : Mem) (hl : Am.look m lv s = .vec g 4 (P ++ X ++ [y] ++ S)) (he : ∀ x ∈ P ++ X ++ [y] ++ S, Ez E 4 x)
    (hn : (P ++ X ++ [y] ++ S).length < 4611686018427387904) (hX : Srt (lt c) X) (hX1 : X.length ≠ 1) :
    ACalls Try.prog 71 [.vec lv s g 0 (P ++ X ++ [y] ++ S).length false, .int .i64 (P.length : Nat), .int .i64 ((P.length + X.length : Nat) : Int), .int .i64 ((P.length + X.length + 1 : Nat) : Int), .fn (.func kc) [] []] m
      (fun v m1 => v = .tup [] ∧ m1 = Am.put m lv s (.vec g 4 (P ++ mg (lt c) X [y] ++ S))) := by
  have hlv : lv < m.length := look_lt (by rw [hl]; simp)
  have hlen : (P ++ X ++ [y] ++ S).length = P.length + X.length + 1 + S.length := by simp only [List.length_append, List.length_singleton]
  have ey : Ez E 4 y := he y (by simp)
  have eX : ∀ x ∈ X, Ez E 4 x := fun x hx => he x (by simp [hx])
  refine acalls_of_awp (rc := r71) (rs := o71) Try.func71 rfl rfl Try.ntmps71 k71 q71 (by simp) ?_
  have e1 : (IntKind.i64.wrap (((P.length + X.length : Nat) : Int) - (P.length : Int)) == 1) = false := by rw [wi64]; simp only [beq_eq_false_iff_ne, ne_eq]; omega
  have e2 : (IntKind.i64.wrap (((P.length + X.length + 1 : Nat) : Int) - ((P.length + X.length : Nat) : Int)) == 1) = true := by rw [wi64]; simp only [beq_iff_eq]; omega
  simp only [g71_0, g71_1, g71_2, g71_3, g71_4, g71_5, g71_6, g71_7, g71_8, g71_9, g71_11, g71_10, g71_12, g71_13, g71_14, g71_15, g71_16, g71_17, g71_18, g71_19, g71_20, g71_21, g71_23, g71_22, g71_24, g71_25, g71_26, g71_27, g71_28, g71_29, g71_30, g71_31, g71_32, g71_33, g71_34, g71_35, g71_36, g71_37, g71_38, g71_39, g71_40, g71_41, g71_42, g71_43, g71_44, r71, o71, e1, e2, eES, Nat.reduceBEq, Int.reduceLE, Int.reduceLT, Int.reduceToNat, Int.reduceEq, ↓reduceIte, reduceCtorEq, Nat.reducePow, Nat.reduceAdd, Nat.reduceLeDiff, Nat.reduceLT, Nat.reduceSub, Nat.reduceEqDiff]
  have h0 : m = Am.put m lv s (.vec g 4 (P ++ X ++ [y] ++ S)) := (put_self hl).symm
  generalize hN : (P ++ X ++ [y] ++ S).length = N at *
  refine awp_loop (SbS m lv s g N kc c P X S y) _ ⟨_, 0, X.length, by rw [← h0] <;> rfl, rfl, Nat.zero_le _, Nat.le_refl _, (by intro k y hk; exact absurd hk (Nat.not_lt_zero _)), (by intro k y hk hy; rw [List.getElem?_eq_none hk] at hy; cases hy), by simp only [eES, Nat.reduceBEq, Int.reduceLE, Int.reduceLT, Int.reduceToNat, Int.reduceEq, ↓reduceIte, reduceCtorEq, Nat.reducePow, Nat.reduceAdd, Nat.reduceLeDiff, Nat.reduceLT, Nat.reduceSub, Nat.reduceEqDiff], by simp only [eES, Nat.reduceBEq, Int.reduceLE, Int.reduceLT, Int.reduceToNat, Int.reduceEq, ↓reduceIte, reduceCtorEq, Nat.reducePow, Nat.reduceAdd, Nat.reduceLeDiff, Nat.reduceLT, Nat.reduceSub, Nat.reduceEqDiff], by simp only [eES, Nat.reduceBEq, Int.reduceLE, Int.reduceLT, Int.reduceToNat, Int.reduceEq, ↓reduceIte, reduceCtorEq, Nat.reducePow, Nat.reduceAdd, Nat.reduceLeDiff, Nat.reduceLT, Nat.reduceSub, Nat.reduceEqDiff], by simp only [Nat.add_zero, eES, Nat.reduceBEq, Int.reduceLE, Int.reduceLT, Int.reduceToNat, Int.reduceEq, ↓reduceIte, reduceCtorEq, Nat.reducePow, Nat.reduceAdd, Nat.reduceLeDiff, Nat.reduceLT, Nat.reduceSub, Nat.reduceEqDiff], by simp only [eES, Nat.reduceBEq, Int.reduceLE, Int.reduceLT, Int.reduceToNat, Int.reduceEq, ↓reduceIte, reduceCtorEq, Nat.reducePow, Nat.reduceAdd, Nat.reduceLeDiff, Nat.reduceLT, Nat.reduceSub, Nat.reduceEqDiff]⟩ ?_
  clear h0 e1 e2
  rintro k st ⟨f, i, j, rfl, rfl, hij, hj, hp, hq, f0, f2, f4, f14, f15⟩
  simp only [l71_0, l71_1, l71_2, l71_3, l71_4, g71_0, g71_1, g71_2, g71_3, g71_4, g71_5, g71_6, g71_7, g71_8, g71_9, g71_11, g71_10, g71_12, g71_13, g71_14, g71_15, g71_16, g71_17, g71_18, g71_19, g71_20, g71_21, g71_23, g71_22, g71_24, g71_25, g71_26, g71_27, g71_28, g71_29, g71_30, g71_31, g71_32, g71_33, g71_34, g71_35, g71_36, g71_37, g71_38, g71_39, g71_40, g71_41, g71_42, g71_43, g71_44, r71, o71, f0, f2, f4, f14, f15, List.singleton_append, eES, Nat.reduceBEq, Int.reduceLE, Int.reduceLT, Int.reduceToNat, Int.reduceEq, ↓reduceIte, reduceCtorEq, Nat.reducePow, Nat.reduceAdd, Nat.reduceLeDiff, Nat.reduceLT, Nat.reduceSub, Nat.reduceEqDiff]
  by_cases hlt : i < j
  · have d0 : decide (((P.length + i : Nat) : Int) < ((P.length + j : Nat) : Int)) = true := by simp only [decide_eq_true_eq]; omega
    have e2 : IntKind.i64.wrap (((P.length + i : Nat) : Int) + ((P.length + j : Nat) : Int)) = (((P.length + i) + (P.length + j) : Nat) : Int) := by rw [wi64]; omega
    have e3 := half (P.length + i) (P.length + j) (by omega)
    have e4 : ((P.length + i) + (P.length + j)) / 2 = P.length + (i + j) / 2 := by omega
    rw [e4] at e3
    generalize hh : (i + j) / 2 = h at *
    have hh1 : h < j := by omega
    have hh2 : i ≤ h := by omega
    have e5 : IntKind.i64.wrap (((P.length + h : Nat) : Int) + 1) = ((P.length + (h + 1) : Nat) : Int) := by rw [wi64]; omega
    obtain ⟨x, hx⟩ : ∃ x, X[h]? = some x := ⟨_, List.getElem?_eq_getElem (by omega)⟩
    have ex := eX x (List.mem_of_getElem? hx)
    have gx : (P ++ X ++ [y] ++ S)[P.length + h]? = some x := by
      rw [List.append_assoc, List.append_assoc, List.getElem?_append_right (by omega), List.getElem?_append_left (by omega), ← hx]
      congr 1; omega
    have gy : (P ++ X ++ [y] ++ S)[P.length + X.length]? = some y := by
      have := getE (P := P) (W := X) (u := y) (V := S) (i := P.length + X.length) rfl
      simpa only [List.append_assoc] using this
    simp only [d0, e2, e3, f0, f2, f4, f14, f15, iad hlv (show P.length + h < N by omega), iad hlv (show P.length + X.length < N by omega), ldr hlv gy ey, ldr hlv gx ex, eES, Nat.reduceBEq, Int.reduceLE, Int.reduceLT, Int.reduceToNat, Int.reduceEq, ↓reduceIte, reduceCtorEq, Nat.reducePow, Nat.reduceAdd, Nat.reduceLeDiff, Nat.reduceLT, Nat.reduceSub, Nat.reduceEqDiff]
    refine aops_callP (by simp only [eES, Nat.reduceBEq, Int.reduceLE, Int.reduceLT, Int.reduceToNat, Int.reduceEq, ↓reduceIte, reduceCtorEq, Nat.reducePow, Nat.reduceAdd, Nat.reduceLeDiff, Nat.reduceLT, Nat.reduceSub, Nat.reduceEqDiff]) (hc.call y x ey ex) (still_two ey ex _) (rf_two ey ex) rfl (.inl (rf_two ey ex)) ?_
    cases hcx : decide (c y x < 0) with
    | true =>
      simp only [hcx, e5, f0, f2, f4, f14, f15, eES, Nat.reduceBEq, Int.reduceLE, Int.reduceLT, Int.reduceToNat, Int.reduceEq, ↓reduceIte, reduceCtorEq, Nat.reducePow, Nat.reduceAdd, Nat.reduceLeDiff, Nat.reduceLT, Nat.reduceSub, Nat.reduceEqDiff]
      exact ⟨h - i, by omega, _, i, h, rfl, rfl, by omega, by omega, hp, fun k z hk hz => by
        have := srt_le hX hc.sw hk hx hz
        cases hb : lt c y z with
        | true => rfl
        | false => exact absurd (hc.sw.nt y z x hb this) (by show ¬ (decide _ = false); rw [hcx]; simp), by simp only [f0, eES, Nat.reduceBEq, Int.reduceLE, Int.reduceLT, Int.reduceToNat, Int.reduceEq, ↓reduceIte, reduceCtorEq, Nat.reducePow, Nat.reduceAdd, Nat.reduceLeDiff, Nat.reduceLT, Nat.reduceSub, Nat.reduceEqDiff], by simp only [f2, eES, Nat.reduceBEq, Int.reduceLE, Int.reduceLT, Int.reduceToNat, Int.reduceEq, ↓reduceIte, reduceCtorEq, Nat.reducePow, Nat.reduceAdd, Nat.reduceLeDiff, Nat.reduceLT, Nat.reduceSub, Nat.reduceEqDiff], by simp only [f4, eES, Nat.reduceBEq, Int.reduceLE, Int.reduceLT, Int.reduceToNat, Int.reduceEq, ↓reduceIte, reduceCtorEq, Nat.reducePow, Nat.reduceAdd, Nat.reduceLeDiff, Nat.reduceLT, Nat.reduceSub, Nat.reduceEqDiff], by simp only [f14, eES, Nat.reduceBEq, Int.reduceLE, Int.reduceLT, Int.reduceToNat, Int.reduceEq, ↓reduceIte, reduceCtorEq, Nat.reducePow, Nat.reduceAdd, Nat.reduceLeDiff, Nat.reduceLT, Nat.reduceSub, Nat.reduceEqDiff], by simp only [eES, Nat.reduceBEq, Int.reduceLE, Int.reduceLT, Int.reduceToNat, Int.reduceEq, ↓reduceIte, reduceCtorEq, Nat.reducePow, Nat.reduceAdd, Nat.reduceLeDiff, Nat.reduceLT, Nat.reduceSub, Nat.reduceEqDiff]⟩
    | false =>
      simp only [hcx, e5, f0, f2, f4, f14, f15, eES, Nat.reduceBEq, Int.reduceLE, Int.reduceLT, Int.reduceToNat, Int.reduceEq, ↓reduceIte, reduceCtorEq, Nat.reducePow, Nat.reduceAdd, Nat.reduceLeDiff, Nat.reduceLT, Nat.reduceSub, Nat.reduceEqDiff]
      exact ⟨j - (h + 1), by omega, _, h + 1, j, rfl, rfl, by omega, hj, fun k z hk hz => hc.sw.nt y x z hcx (srt_le hX hc.sw (Nat.le_of_lt_succ hk) hz hx), hq, by simp only [f0, eES, Nat.reduceBEq, Int.reduceLE, Int.reduceLT, Int.reduceToNat, Int.reduceEq, ↓reduceIte, reduceCtorEq, Nat.reducePow, Nat.reduceAdd, Nat.reduceLeDiff, Nat.reduceLT, Nat.reduceSub, Nat.reduceEqDiff], by simp only [f2, eES, Nat.reduceBEq, Int.reduceLE, Int.reduceLT, Int.reduceToNat, Int.reduceEq, ↓reduceIte, reduceCtorEq, Nat.reducePow, Nat.reduceAdd, Nat.reduceLeDiff, Nat.reduceLT, Nat.reduceSub, Nat.reduceEqDiff], by simp only [f4, eES, Nat.reduceBEq, Int.reduceLE, Int.reduceLT, Int.reduceToNat, Int.reduceEq, ↓reduceIte, reduceCtorEq, Nat.reducePow, Nat.reduceAdd, Nat.reduceLeDiff, Nat.reduceLT, Nat.reduceSub, Nat.reduceEqDiff], by simp only [eES, Nat.reduceBEq, Int.reduceLE, Int.reduceLT, Int.reduceToNat, Int.reduceEq, ↓reduceIte, reduceCtorEq, Nat.reducePow, Nat.reduceAdd, Nat.reduceLeDiff, Nat.reduceLT, Nat.reduceSub, Nat.reduceEqDiff], by simp only [f15, eES, Nat.reduceBEq, Int.reduceLE, Int.reduceLT, Int.reduceToNat, Int.reduceEq, ↓reduceIte, reduceCtorEq, Nat.reducePow, Nat.reduceAdd, Nat.reduceLeDiff, Nat.reduceLT, Nat.reduceSub, Nat.reduceEqDiff]⟩
  · have d0 : decide (((P.length + i : Nat) : Int) < ((P.length + j : Nat) : Int)) = false := by simp only [decide_eq_false_iff_not]; omega
    have hij' : j = i := by omega
    subst hij'
    simp only [d0, f0, f2, f4, f14, f15, eES, Nat.reduceBEq, Int.reduceLE, Int.reduceLT, Int.reduceToNat, Int.reduceEq, ↓reduceIte, reduceCtorEq, Nat.reducePow, Nat.reduceAdd, Nat.reduceLeDiff, Nat.reduceLT, Nat.reduceSub, Nat.reduceEqDiff]
    have hres : mg (lt c) X [y] = X.take j ++ y :: X.drop j := by
      have := mg_right (lt := lt c) (y := y) (X1 := X.take j) (X2 := X.drop j) (fun x hx => by
        obtain ⟨k, hk⟩ := List.getElem?_of_mem hx
        rw [List.getElem?_take] at hk
        split at hk
        · rename_i h; exact hp k x h hk
        · cases hk) (fun x hx => by
        obtain ⟨k, hk⟩ := List.getElem?_of_mem hx
        rw [List.getElem?_drop] at hk
        exact hq _ x (by omega) hk)
      rwa [List.take_append_drop] at this
    refine awp_loop (SbT m lv s g N j P X S y) _ ⟨_, X.length, by rw [show P ++ X.take X.length ++ [y] ++ X.drop X.length ++ S = P ++ X ++ [y] ++ S by simp] <;> rfl, rfl, hj, Nat.le_refl _, by simp only [f0, eES, Nat.reduceBEq, Int.reduceLE, Int.reduceLT, Int.reduceToNat, Int.reduceEq, ↓reduceIte, reduceCtorEq, Nat.reducePow, Nat.reduceAdd, Nat.reduceLeDiff, Nat.reduceLT, Nat.reduceSub, Nat.reduceEqDiff], by simp only [f14, eES, Nat.reduceBEq, Int.reduceLE, Int.reduceLT, Int.reduceToNat, Int.reduceEq, ↓reduceIte, reduceCtorEq, Nat.reducePow, Nat.reduceAdd, Nat.reduceLeDiff, Nat.reduceLT, Nat.reduceSub, Nat.reduceEqDiff], by simp only [eES, Nat.reduceBEq, Int.reduceLE, Int.reduceLT, Int.reduceToNat, Int.reduceEq, ↓reduceIte, reduceCtorEq, Nat.reducePow, Nat.reduceAdd, Nat.reduceLeDiff, Nat.reduceLT, Nat.reduceSub, Nat.reduceEqDiff]⟩ ?_
    clear f0 f2 f4 f14 f15 d0 hp hq f
    rintro k st ⟨f, t, rfl, rfl, ht, htl, f0, f14, f17⟩
    simp only [l71_0, l71_1, l71_2, l71_3, l71_4, g71_0, g71_1, g71_2, g71_3, g71_4, g71_5, g71_6, g71_7, g71_8, g71_9, g71_11, g71_10, g71_12, g71_13, g71_14, g71_15, g71_16, g71_17, g71_18, g71_19, g71_20, g71_21, g71_23, g71_22, g71_24, g71_25, g71_26, g71_27, g71_28, g71_29, g71_30, g71_31, g71_32, g71_33, g71_34, g71_35, g71_36, g71_37, g71_38, g71_39, g71_40, g71_41, g71_42, g71_43, g71_44, r71, o71, f0, f14, f17, List.singleton_append, eES, Nat.reduceBEq, Int.reduceLE, Int.reduceLT, Int.reduceToNat, Int.reduceEq, ↓reduceIte, reduceCtorEq, Nat.reducePow, Nat.reduceAdd, Nat.reduceLeDiff, Nat.reduceLT, Nat.reduceSub, Nat.reduceEqDiff]
    by_cases hlt : j < t
    · have d0 : decide (((P.length + t : Nat) : Int) > ((P.length + j : Nat) : Int)) = true := by simp only [decide_eq_true_eq]; omega
      obtain ⟨r, rfl⟩ : ∃ r, t = r + 1 := ⟨t - 1, by omega⟩
      have e7 : IntKind.i64.wrap (((P.length + (r + 1) : Nat) : Int) - 1) = ((P.length + r : Nat) : Int) := by rw [wi64]; omega
      obtain ⟨x, hx⟩ : ∃ x, X[r]? = some x := ⟨_, List.getElem?_eq_getElem (by omega)⟩
      have ex := eX x (List.mem_of_getElem? hx)
      have hdrop : X.drop r = [x] ++ X.drop (r + 1) := by
        rw [List.singleton_append, List.drop_eq_getElem_cons (by omega)]
        congr 1
        exact (List.getElem?_eq_some_iff.1 hx).2
      have htake : X.take (r + 1) = X.take r ++ [x] := by rw [List.take_add_one, hx] <;> rfl
      have hlt' : (X.take r).length = r := by rw [List.length_take]; omega
      have g1 : (P ++ X.take (r + 1) ++ [y] ++ X.drop (r + 1) ++ S)[P.length + r]? = some x := by
        have := getE (P := P) (W := X.take r) (u := x) (V := [y] ++ X.drop (r + 1) ++ S) (i := P.length + r) (by rw [hlt'])
        rw [htake]
        simpa only [List.append_assoc] using this
      have g2 : (P ++ X.take (r + 1) ++ [y] ++ X.drop (r + 1) ++ S)[P.length + (r + 1)]? = some y := by
        have := getE (P := P) (W := X.take (r + 1)) (u := y) (V := X.drop (r + 1) ++ S) (i := P.length + (r + 1)) (by rw [List.length_take]; omega)
        simpa only [List.append_assoc] using this
      have g3 : ((P ++ X.take (r + 1) ++ [y] ++ X.drop (r + 1) ++ S).set (P.length + (r + 1)) x)[P.length + r]? = some x := by
        rw [List.getElem?_set_ne (by omega), g1]
      have hset : ((P ++ X.take (r + 1) ++ [y] ++ X.drop (r + 1) ++ S).set (P.length + (r + 1)) x).set (P.length + r) y = P ++ X.take r ++ [y] ++ X.drop r ++ S := by
        rw [hdrop, htake]
        simp [List.set_append, hlt']
      simp only [d0, e7, f0, f14, f17, iad hlv (show P.length + (r + 1) < N by omega), iad hlv (show P.length + r < N by omega), ldr hlv g1 ex, ldr hlv g2 ey, ex.len, ey.len, ex.leaf, ey.leaf, str1 hlv g2 ey ex (by decide), str1 hlv g3 ex ey (by decide), eES, Nat.reduceBEq, Int.reduceLE, Int.reduceLT, Int.reduceToNat, Int.reduceEq, ↓reduceIte, reduceCtorEq, Nat.reducePow, Nat.reduceAdd, Nat.reduceLeDiff, Nat.reduceLT, Nat.reduceSub, Nat.reduceEqDiff]
      exact ⟨r - j, by omega, _, r, by rw [hset] <;> rfl, rfl, by omega, by omega, by simp only [f0, eES, Nat.reduceBEq, Int.reduceLE, Int.reduceLT, Int.reduceToNat, Int.reduceEq, ↓reduceIte, reduceCtorEq, Nat.reducePow, Nat.reduceAdd, Nat.reduceLeDiff, Nat.reduceLT, Nat.reduceSub, Nat.reduceEqDiff], by simp only [f14, eES, Nat.reduceBEq, Int.reduceLE, Int.reduceLT, Int.reduceToNat, Int.reduceEq, ↓reduceIte, reduceCtorEq, Nat.reducePow, Nat.reduceAdd, Nat.reduceLeDiff, Nat.reduceLT, Nat.reduceSub, Nat.reduceEqDiff], by simp only [eES, Nat.reduceBEq, Int.reduceLE, Int.reduceLT, Int.reduceToNat, Int.reduceEq, ↓reduceIte, reduceCtorEq, Nat.reducePow, Nat.reduceAdd, Nat.reduceLeDiff, Nat.reduceLT, Nat.reduceSub, Nat.reduceEqDiff]⟩
    · have d0 : decide (((P.length + t : Nat) : Int) > ((P.length + j : Nat) : Int)) = false := by simp only [decide_eq_false_iff_not]; omega
      have htj : t = j := by omega
      subst htj
      have hfin : P ++ X.take t ++ [y] ++ X.drop t ++ S = P ++ mg (lt c) X [y] ++ S := by rw [hres]; simp
      simp only [d0, f0, f14, f17, hfin, put_len, eES, Nat.reduceBEq, Int.reduceLE, Int.reduceLT, Int.reduceToNat, Int.reduceEq, ↓reduceIte, reduceCtorEq, Nat.reducePow, Nat.reduceAdd, Nat.reduceLeDiff, Nat.reduceLT, Nat.reduceSub, Nat.reduceEqDiff]

end Go.Proofs.Ytcmdlmcmefbkeaa.Ta

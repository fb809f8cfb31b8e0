/- Varint functions that read: what each computes. -/
import Derived.Test.YtcmdlmcmefbkeaaVb
import Derived.Test.YtcmdlmcmefbkeaaRc
set_option linter.unusedSimpArgs false
namespace Go.Proofs.Ytcmdlmcmefbkeaa.Va
open Go Am Rc Bt Vp

/-- What reading gives. -/
def tk (r : Nat × Nat × Nat) : AV := .tup [.int .u64 (r.1 : Nat), .int .i64 (r.2.1 : Nat), .int .i64 (r.2.2 : Nat)]

theorem tk_end : tk (0, 0, 4) = .tup [.int .u64 0, .int .i64 0, .int .i64 4] := rfl
theorem tk_bad : tk (0, 0, 6) = .tup [.int .u64 0, .int .i64 0, .int .i64 6] := rfl
theorem tk_ok (v n : Nat) : tk (v, n, 0) = .tup [.int .u64 (v : Nat), .int .i64 (n : Nat), .int .i64 0] := rfl

theorem and127 (c : UInt8) : bits .and .u8 (c.toNat : Int) 127 = ((c.toNat % 128 : Nat) : Int) := by
  have h : ∀ n : Fin 256, bits .and .u8 ((n.val : Nat) : Int) 127 = ((n.val % 128 : Nat) : Int) := by decide +kernel
  exact h ⟨c.toNat, c.toNat_lt⟩

theorem pow128 (i : Nat) : 128 ^ i = 2 ^ (7 * i) := by rw [Nat.pow_mul]

theorem add_digit (acc d i : Nat) (hi : i ≤ 9) (ha : acc < 128 ^ i) (hd : d < 128) (h9 : i = 9 → d ≤ 1) :
    bits .or .u64 (acc : Int) (IntKind.u64.wrap (IntKind.u64.wrap (d : Int) * 2 ^ min (IntKind.i64.wrap (7 * (i : Int))).toNat 64)) = ((acc + d * 128 ^ i : Nat) : Int) := by
  have e1 : IntKind.i64.wrap (7 * (i : Int)) = ((7 * i : Nat) : Int) := by rw [wi64]; omega
  have hb : d * 128 ^ i < 18446744073709551616 := by
    rcases Nat.lt_or_ge i 9 with h | h
    · have h1 : 128 ^ i ≤ 128 ^ 8 := Nat.pow_le_pow_right (by omega) (by omega)
      calc d * 128 ^ i ≤ 127 * 128 ^ 8 := Nat.mul_le_mul (by omega) h1
        _ < _ := by decide
    · have : i = 9 := by omega
      subst this
      calc d * 128 ^ 9 ≤ 1 * 128 ^ 9 := Nat.mul_le_mul (h9 rfl) (Nat.le_refl _)
        _ < _ := by decide
  have hacc : acc < 18446744073709551616 := by
    refine Nat.lt_of_lt_of_le ha ?_
    calc 128 ^ i ≤ 128 ^ 9 := Nat.pow_le_pow_right (by omega) hi
      _ ≤ _ := by decide
  have e2 : IntKind.u64.wrap (d : Int) = (d : Int) := by rw [wu64]; omega
  have e3 : IntKind.u64.wrap ((d : Int) * 2 ^ (7 * i)) = ((d * 128 ^ i : Nat) : Int) := by
    rw [wu64, pow128]
    have : ((d * 2 ^ (7 * i) : Nat) : Int) = (d : Int) * 2 ^ (7 * i) := by push_cast; rfl
    rw [← this]
    rw [pow128] at hb
    omega
  rw [e1, Int.toNat_natCast, Nat.min_eq_left (by omega), e2, e3, or_u64 _ _ hacc hb]
  congr 1
  rw [pow128] at ha ⊢
  have := Nat.two_pow_add_eq_or_of_lt ha d
  rw [Nat.or_comm, Nat.mul_comm d, ← this, Nat.add_comm]

theorem digit_lt {acc d i : Nat} (ha : acc < 128 ^ i) (hd : d < 128) : acc + d * 128 ^ i < 128 ^ (i + 1) := by
  have : d * 128 ^ i ≤ 127 * 128 ^ i := Nat.mul_le_mul_right _ (by omega)
  rw [Nat.pow_succ]
  omega

theorem getElem_drop {l t : List UInt8} {c : UInt8} {i : Nat} (h : l.drop i = c :: t) : l[i]? = some c ∧ l.drop (i + 1) = t ∧ i < l.length := by
  have hi : i < l.length := by
    rcases Nat.lt_or_ge i l.length with h' | h'
    · exact h'
    · rw [List.drop_of_length_le h'] at h; cases h
  rw [List.drop_eq_getElem_cons hi] at h
  injection h with h1 h2
  exact ⟨by rw [List.getElem?_eq_getElem hi, h1], h2, hi⟩

def TakeI (s : List UInt8) (k : Nat) (st : St) : Prop :=
  ∃ f i acc, st = ⟨f, [noObs], []⟩ ∧ k = s.length - i ∧ f 0 = .str s ∧ f 5 = .int .u64 (acc : Nat) ∧ f 6 = .int .i64 (i : Nat) ∧ i ≤ s.length ∧ i ≤ 9 ∧ acc < 128 ^ i ∧ vtk i acc (s.drop i) = Vp.take s

theorem c52 (s : List UInt8) : Fn1 Try.prog 52 [.str s] (tk (Vp.take s)) := by
  refine fn1_of_awp (rc := r52) (rs := o52) Try.func52 rfl rfl Try.ntmps52 k52 q52 (by simp) ?_
  simp only [g52_0, g52_1, g52_2, g52_3, g52_4, g52_5, g52_6, g52_7, g52_8, g52_9, g52_10, g52_11, r52, o52, e_seq, e_reg, e_draw, e_nil, e_kc_n, e_kc_x, e_kc_r, e_block, e_scope, e_skip, e_lab, e_ret, e_exit, e_kb_n, e_kb_x, e_kb_r, e_kg_n, e_kg_x, e_kg_r, e_kl_n, e_kl_x, e_kl_r, e_cond, e_bget, e_isB, e_c, e_t, e_f, e_val, e_vget, e_isV, e_upd, e_g, e_gsel_t, e_gsel_f, e_gsel_tf, e_gsel_ft, e_gsel_n, e_gsel_tf0, e_gsel_ft0, e_gsel_n0, e_csel_t, e_csel_f, e_ends_r, e_ends_n, e_nbeq, Nat.reduceBEq, vop, abin, aint, aun, cond_true, cond_false, true_and, and_true, List.getElem?_cons_zero, List.getElem?_cons_succ, List.getElem?_nil, Option.getD_some, Option.getD_none, St.enter, argF, AV.shL, AV.sh, resV, RR.ev, RR.evL, leave, AV.still, AV.stillL, AV.un, AV.unL, Option.bind_some, Option.map_some, Int.reduceLE, Int.reduceLT, Int.reduceToNat, Int.reduceEq, ↓reduceIte, if_true, if_false, reduceCtorEq, Bool.false_eq_true, IntKind.bits, Nat.reducePow, List.length_nil, List.length_cons, Bool.true_and, Bool.and_true, forall_const, not_true_eq_false, not_false_eq_true]
  refine awp_loop (TakeI s) _ ⟨_, 0, 0, rfl, rfl, rfl, rfl, rfl, Nat.zero_le _, Nat.zero_le _, by decide, rfl⟩ ?_
  rintro n st ⟨f, i, acc, rfl, rfl, h0, h5, h6, hil, hi, ha, hv⟩
  simp only [l52_0, g52_0, g52_1, g52_2, g52_3, g52_4, g52_5, g52_6, g52_7, g52_8, g52_9, g52_10, g52_11, r52, o52, h0, h5, h6, e_seq, e_reg, e_draw, e_nil, e_kc_n, e_kc_x, e_kc_r, e_block, e_scope, e_skip, e_lab, e_ret, e_exit, e_kb_n, e_kb_x, e_kb_r, e_kg_n, e_kg_x, e_kg_r, e_kl_n, e_kl_x, e_kl_r, e_cond, e_bget, e_isB, e_c, e_t, e_f, e_val, e_vget, e_isV, e_upd, e_g, e_gsel_t, e_gsel_f, e_gsel_tf, e_gsel_ft, e_gsel_n, e_gsel_tf0, e_gsel_ft0, e_gsel_n0, e_csel_t, e_csel_f, e_ends_r, e_ends_n, e_nbeq, Nat.reduceBEq, vop, abin, aint, aun, cond_true, cond_false, true_and, and_true, List.getElem?_cons_zero, List.getElem?_cons_succ, List.getElem?_nil, Option.getD_some, Option.getD_none, St.enter, argF, AV.shL, AV.sh, resV, RR.ev, RR.evL, leave, AV.still, AV.stillL, AV.un, AV.unL, Option.bind_some, Option.map_some, Int.reduceLE, Int.reduceLT, Int.reduceToNat, Int.reduceEq, ↓reduceIte, if_true, if_false, reduceCtorEq, Bool.false_eq_true, IntKind.bits, Nat.reducePow, List.length_nil, List.length_cons, Bool.true_and, Bool.and_true, forall_const, not_true_eq_false, not_false_eq_true]
  refine csel_of (fun h => ?_) (fun h => ?_)
  · have h : i = s.length := by have h : (i : Int) = s.length := by simpa using h
                                omega
    rw [List.drop_of_length_le (by omega)] at hv
    simp only [← hv, vtk, tk_end, h0, h5, h6, e_seq, e_reg, e_draw, e_nil, e_kc_n, e_kc_x, e_kc_r, e_block, e_scope, e_skip, e_lab, e_ret, e_exit, e_kb_n, e_kb_x, e_kb_r, e_kg_n, e_kg_x, e_kg_r, e_kl_n, e_kl_x, e_kl_r, e_cond, e_bget, e_isB, e_c, e_t, e_f, e_val, e_vget, e_isV, e_upd, e_g, e_gsel_t, e_gsel_f, e_gsel_tf, e_gsel_ft, e_gsel_n, e_gsel_tf0, e_gsel_ft0, e_gsel_n0, e_csel_t, e_csel_f, e_ends_r, e_ends_n, e_nbeq, Nat.reduceBEq, vop, abin, aint, aun, cond_true, cond_false, true_and, and_true, List.getElem?_cons_zero, List.getElem?_cons_succ, List.getElem?_nil, Option.getD_some, Option.getD_none, St.enter, argF, AV.shL, AV.sh, resV, RR.ev, RR.evL, leave, AV.still, AV.stillL, AV.un, AV.unL, Option.bind_some, Option.map_some, Int.reduceLE, Int.reduceLT, Int.reduceToNat, Int.reduceEq, ↓reduceIte, if_true, if_false, reduceCtorEq, Bool.false_eq_true, IntKind.bits, Nat.reducePow, List.length_nil, List.length_cons, Bool.true_and, Bool.and_true, forall_const, not_true_eq_false, not_false_eq_true]
  · have h : i < s.length := by have h : ¬ (i : Int) = s.length := by simpa using h
                                omega
    obtain ⟨c, t, hc⟩ : ∃ c t, s.drop i = c :: t := by
      cases hd : s.drop i with
      | nil => have := congrArg List.length hd; simp at this; omega
      | cons c t => exact ⟨c, t, rfl⟩
    obtain ⟨g1, g2, _⟩ := getElem_drop hc
    rw [hc] at hv
    have n0 : (0 ≤ (i : Int)) = True := by simp
    have e7 : IntKind.i64.wrap (7 * (i : Int)) = ((7 * i : Nat) : Int) := by rw [wi64]; omega
    have n7 : (0 ≤ IntKind.i64.wrap (7 * (i : Int))) = True := eq_true (by rw [e7]; omega)
    have e1 : IntKind.i64.wrap ((i : Int) + 1) = ((i + 1 : Nat) : Int) := by rw [wi64]; omega
    rw [vtk] at hv
    simp only [h0, h5, h6, n0, g1, Int.toNat_natCast, e_seq, e_reg, e_draw, e_nil, e_kc_n, e_kc_x, e_kc_r, e_block, e_scope, e_skip, e_lab, e_ret, e_exit, e_kb_n, e_kb_x, e_kb_r, e_kg_n, e_kg_x, e_kg_r, e_kl_n, e_kl_x, e_kl_r, e_cond, e_bget, e_isB, e_c, e_t, e_f, e_val, e_vget, e_isV, e_upd, e_g, e_gsel_t, e_gsel_f, e_gsel_tf, e_gsel_ft, e_gsel_n, e_gsel_tf0, e_gsel_ft0, e_gsel_n0, e_csel_t, e_csel_f, e_ends_r, e_ends_n, e_nbeq, Nat.reduceBEq, vop, abin, aint, aun, cond_true, cond_false, true_and, and_true, List.getElem?_cons_zero, List.getElem?_cons_succ, List.getElem?_nil, Option.getD_some, Option.getD_none, St.enter, argF, AV.shL, AV.sh, resV, RR.ev, RR.evL, leave, AV.still, AV.stillL, AV.un, AV.unL, Option.bind_some, Option.map_some, Int.reduceLE, Int.reduceLT, Int.reduceToNat, Int.reduceEq, ↓reduceIte, if_true, if_false, reduceCtorEq, Bool.false_eq_true, IntKind.bits, Nat.reducePow, List.length_nil, List.length_cons, Bool.true_and, Bool.and_true, forall_const, not_true_eq_false, not_false_eq_true]
    by_cases h9 : i = 9
    · have e9 : ((i : Int) == 9) = true := by simp; omega
      simp only [e9, h0, h5, h6, e_seq, e_reg, e_draw, e_nil, e_kc_n, e_kc_x, e_kc_r, e_block, e_scope, e_skip, e_lab, e_ret, e_exit, e_kb_n, e_kb_x, e_kb_r, e_kg_n, e_kg_x, e_kg_r, e_kl_n, e_kl_x, e_kl_r, e_cond, e_bget, e_isB, e_c, e_t, e_f, e_val, e_vget, e_isV, e_upd, e_g, e_gsel_t, e_gsel_f, e_gsel_tf, e_gsel_ft, e_gsel_n, e_gsel_tf0, e_gsel_ft0, e_gsel_n0, e_csel_t, e_csel_f, e_ends_r, e_ends_n, e_nbeq, Nat.reduceBEq, vop, abin, aint, aun, cond_true, cond_false, true_and, and_true, List.getElem?_cons_zero, List.getElem?_cons_succ, List.getElem?_nil, Option.getD_some, Option.getD_none, St.enter, argF, AV.shL, AV.sh, resV, RR.ev, RR.evL, leave, AV.still, AV.stillL, AV.un, AV.unL, Option.bind_some, Option.map_some, Int.reduceLE, Int.reduceLT, Int.reduceToNat, Int.reduceEq, ↓reduceIte, if_true, if_false, reduceCtorEq, Bool.false_eq_true, IntKind.bits, Nat.reducePow, List.length_nil, List.length_cons, Bool.true_and, Bool.and_true, forall_const, not_true_eq_false, not_false_eq_true]
      refine csel_of (fun hc1 => ?_) (fun hc1 => ?_)
      · have hc1 : 1 < c.toNat := by have hc1 : (1 : Int) < c.toNat := by simpa using hc1
                                     omega
        rw [if_pos ⟨h9, hc1⟩] at hv
        simp only [← hv, tk_bad, h0, h5, h6, e_seq, e_reg, e_draw, e_nil, e_kc_n, e_kc_x, e_kc_r, e_block, e_scope, e_skip, e_lab, e_ret, e_exit, e_kb_n, e_kb_x, e_kb_r, e_kg_n, e_kg_x, e_kg_r, e_kl_n, e_kl_x, e_kl_r, e_cond, e_bget, e_isB, e_c, e_t, e_f, e_val, e_vget, e_isV, e_upd, e_g, e_gsel_t, e_gsel_f, e_gsel_tf, e_gsel_ft, e_gsel_n, e_gsel_tf0, e_gsel_ft0, e_gsel_n0, e_csel_t, e_csel_f, e_ends_r, e_ends_n, e_nbeq, Nat.reduceBEq, vop, abin, aint, aun, cond_true, cond_false, true_and, and_true, List.getElem?_cons_zero, List.getElem?_cons_succ, List.getElem?_nil, Option.getD_some, Option.getD_none, St.enter, argF, AV.shL, AV.sh, resV, RR.ev, RR.evL, leave, AV.still, AV.stillL, AV.un, AV.unL, Option.bind_some, Option.map_some, Int.reduceLE, Int.reduceLT, Int.reduceToNat, Int.reduceEq, ↓reduceIte, if_true, if_false, reduceCtorEq, Bool.false_eq_true, IntKind.bits, Nat.reducePow, List.length_nil, List.length_cons, Bool.true_and, Bool.and_true, forall_const, not_true_eq_false, not_false_eq_true]
      · have hc1 : c.toNat ≤ 1 := by have hc1 : (c.toNat : Int) ≤ 1 := by simpa using hc1
                                     omega
        have hbad : ¬ (i = 9 ∧ 1 < c.toNat) := by omega
        rw [if_neg hbad] at hv
        have hd := add_digit acc (c.toNat % 128) i hi ha (by omega) (fun _ => by omega)
        simp only [and127, n7, hd, e1, h0, h5, h6, e_seq, e_reg, e_draw, e_nil, e_kc_n, e_kc_x, e_kc_r, e_block, e_scope, e_skip, e_lab, e_ret, e_exit, e_kb_n, e_kb_x, e_kb_r, e_kg_n, e_kg_x, e_kg_r, e_kl_n, e_kl_x, e_kl_r, e_cond, e_bget, e_isB, e_c, e_t, e_f, e_val, e_vget, e_isV, e_upd, e_g, e_gsel_t, e_gsel_f, e_gsel_tf, e_gsel_ft, e_gsel_n, e_gsel_tf0, e_gsel_ft0, e_gsel_n0, e_csel_t, e_csel_f, e_ends_r, e_ends_n, e_nbeq, Nat.reduceBEq, vop, abin, aint, aun, cond_true, cond_false, true_and, and_true, List.getElem?_cons_zero, List.getElem?_cons_succ, List.getElem?_nil, Option.getD_some, Option.getD_none, St.enter, argF, AV.shL, AV.sh, resV, RR.ev, RR.evL, leave, AV.still, AV.stillL, AV.un, AV.unL, Option.bind_some, Option.map_some, Int.reduceLE, Int.reduceLT, Int.reduceToNat, Int.reduceEq, ↓reduceIte, if_true, if_false, reduceCtorEq, Bool.false_eq_true, IntKind.bits, Nat.reducePow, List.length_nil, List.length_cons, Bool.true_and, Bool.and_true, forall_const, not_true_eq_false, not_false_eq_true]
        refine csel_of (fun hlt => ?_) (fun hlt => ?_)
        · have hlt : c.toNat < 128 := by omega
          rw [if_pos hlt] at hv
          simp only [← hv, tk_ok, Nat.mod_eq_of_lt hlt, h0, h5, h6, e_seq, e_reg, e_draw, e_nil, e_kc_n, e_kc_x, e_kc_r, e_block, e_scope, e_skip, e_lab, e_ret, e_exit, e_kb_n, e_kb_x, e_kb_r, e_kg_n, e_kg_x, e_kg_r, e_kl_n, e_kl_x, e_kl_r, e_cond, e_bget, e_isB, e_c, e_t, e_f, e_val, e_vget, e_isV, e_upd, e_g, e_gsel_t, e_gsel_f, e_gsel_tf, e_gsel_ft, e_gsel_n, e_gsel_tf0, e_gsel_ft0, e_gsel_n0, e_csel_t, e_csel_f, e_ends_r, e_ends_n, e_nbeq, Nat.reduceBEq, vop, abin, aint, aun, cond_true, cond_false, true_and, and_true, List.getElem?_cons_zero, List.getElem?_cons_succ, List.getElem?_nil, Option.getD_some, Option.getD_none, St.enter, argF, AV.shL, AV.sh, resV, RR.ev, RR.evL, leave, AV.still, AV.stillL, AV.un, AV.unL, Option.bind_some, Option.map_some, Int.reduceLE, Int.reduceLT, Int.reduceToNat, Int.reduceEq, ↓reduceIte, if_true, if_false, reduceCtorEq, Bool.false_eq_true, IntKind.bits, Nat.reducePow, List.length_nil, List.length_cons, Bool.true_and, Bool.and_true, forall_const, not_true_eq_false, not_false_eq_true]
        · exfalso
          have hlt : (128 : Int) ≤ c.toNat := by simpa using hlt
          omega
    · have hbad : ¬ (i = 9 ∧ 1 < c.toNat) := by omega
      rw [if_neg hbad] at hv
      have e9 : ((i : Int) == 9) = false := by simp; omega
      have hd := add_digit acc (c.toNat % 128) i hi ha (by omega) (fun e => absurd e h9)
      simp only [e9, and127, n7, hd, e1, h0, h5, h6, e_seq, e_reg, e_draw, e_nil, e_kc_n, e_kc_x, e_kc_r, e_block, e_scope, e_skip, e_lab, e_ret, e_exit, e_kb_n, e_kb_x, e_kb_r, e_kg_n, e_kg_x, e_kg_r, e_kl_n, e_kl_x, e_kl_r, e_cond, e_bget, e_isB, e_c, e_t, e_f, e_val, e_vget, e_isV, e_upd, e_g, e_gsel_t, e_gsel_f, e_gsel_tf, e_gsel_ft, e_gsel_n, e_gsel_tf0, e_gsel_ft0, e_gsel_n0, e_csel_t, e_csel_f, e_ends_r, e_ends_n, e_nbeq, Nat.reduceBEq, vop, abin, aint, aun, cond_true, cond_false, true_and, and_true, List.getElem?_cons_zero, List.getElem?_cons_succ, List.getElem?_nil, Option.getD_some, Option.getD_none, St.enter, argF, AV.shL, AV.sh, resV, RR.ev, RR.evL, leave, AV.still, AV.stillL, AV.un, AV.unL, Option.bind_some, Option.map_some, Int.reduceLE, Int.reduceLT, Int.reduceToNat, Int.reduceEq, ↓reduceIte, if_true, if_false, reduceCtorEq, Bool.false_eq_true, IntKind.bits, Nat.reducePow, List.length_nil, List.length_cons, Bool.true_and, Bool.and_true, forall_const, not_true_eq_false, not_false_eq_true]
      refine csel_of (fun hlt => ?_) (fun hlt => ?_)
      · have hlt : c.toNat < 128 := by have hlt : (c.toNat : Int) < 128 := by simpa using hlt
                                       omega
        rw [if_pos hlt] at hv
        simp only [← hv, tk_ok, Nat.mod_eq_of_lt hlt, h0, h5, h6, e_seq, e_reg, e_draw, e_nil, e_kc_n, e_kc_x, e_kc_r, e_block, e_scope, e_skip, e_lab, e_ret, e_exit, e_kb_n, e_kb_x, e_kb_r, e_kg_n, e_kg_x, e_kg_r, e_kl_n, e_kl_x, e_kl_r, e_cond, e_bget, e_isB, e_c, e_t, e_f, e_val, e_vget, e_isV, e_upd, e_g, e_gsel_t, e_gsel_f, e_gsel_tf, e_gsel_ft, e_gsel_n, e_gsel_tf0, e_gsel_ft0, e_gsel_n0, e_csel_t, e_csel_f, e_ends_r, e_ends_n, e_nbeq, Nat.reduceBEq, vop, abin, aint, aun, cond_true, cond_false, true_and, and_true, List.getElem?_cons_zero, List.getElem?_cons_succ, List.getElem?_nil, Option.getD_some, Option.getD_none, St.enter, argF, AV.shL, AV.sh, resV, RR.ev, RR.evL, leave, AV.still, AV.stillL, AV.un, AV.unL, Option.bind_some, Option.map_some, Int.reduceLE, Int.reduceLT, Int.reduceToNat, Int.reduceEq, ↓reduceIte, if_true, if_false, reduceCtorEq, Bool.false_eq_true, IntKind.bits, Nat.reducePow, List.length_nil, List.length_cons, Bool.true_and, Bool.and_true, forall_const, not_true_eq_false, not_false_eq_true]
      · have hlt : 128 ≤ c.toNat := by have hlt : (128 : Int) ≤ c.toNat := by simpa using hlt
                                       omega
        rw [if_neg (by omega)] at hv
        simp only [and127, n7, hd, e1, h0, h5, h6, e_seq, e_reg, e_draw, e_nil, e_kc_n, e_kc_x, e_kc_r, e_block, e_scope, e_skip, e_lab, e_ret, e_exit, e_kb_n, e_kb_x, e_kb_r, e_kg_n, e_kg_x, e_kg_r, e_kl_n, e_kl_x, e_kl_r, e_cond, e_bget, e_isB, e_c, e_t, e_f, e_val, e_vget, e_isV, e_upd, e_g, e_gsel_t, e_gsel_f, e_gsel_tf, e_gsel_ft, e_gsel_n, e_gsel_tf0, e_gsel_ft0, e_gsel_n0, e_csel_t, e_csel_f, e_ends_r, e_ends_n, e_nbeq, Nat.reduceBEq, vop, abin, aint, aun, cond_true, cond_false, true_and, and_true, List.getElem?_cons_zero, List.getElem?_cons_succ, List.getElem?_nil, Option.getD_some, Option.getD_none, St.enter, argF, AV.shL, AV.sh, resV, RR.ev, RR.evL, leave, AV.still, AV.stillL, AV.un, AV.unL, Option.bind_some, Option.map_some, Int.reduceLE, Int.reduceLT, Int.reduceToNat, Int.reduceEq, ↓reduceIte, if_true, if_false, reduceCtorEq, Bool.false_eq_true, IntKind.bits, Nat.reducePow, List.length_nil, List.length_cons, Bool.true_and, Bool.and_true, forall_const, not_true_eq_false, not_false_eq_true]
        refine ⟨s.length - (i + 1), by omega, _, i + 1, acc + c.toNat % 128 * 128 ^ i, rfl, rfl, ?_, ?_, ?_, by omega, by omega, digit_lt ha (by omega), ?_⟩
        · simp only [h0, e_seq, e_reg, e_draw, e_nil, e_kc_n, e_kc_x, e_kc_r, e_block, e_scope, e_skip, e_lab, e_ret, e_exit, e_kb_n, e_kb_x, e_kb_r, e_kg_n, e_kg_x, e_kg_r, e_kl_n, e_kl_x, e_kl_r, e_cond, e_bget, e_isB, e_c, e_t, e_f, e_val, e_vget, e_isV, e_upd, e_g, e_gsel_t, e_gsel_f, e_gsel_tf, e_gsel_ft, e_gsel_n, e_gsel_tf0, e_gsel_ft0, e_gsel_n0, e_csel_t, e_csel_f, e_ends_r, e_ends_n, e_nbeq, Nat.reduceBEq, vop, abin, aint, aun, cond_true, cond_false, true_and, and_true, List.getElem?_cons_zero, List.getElem?_cons_succ, List.getElem?_nil, Option.getD_some, Option.getD_none, St.enter, argF, AV.shL, AV.sh, resV, RR.ev, RR.evL, leave, AV.still, AV.stillL, AV.un, AV.unL, Option.bind_some, Option.map_some, Int.reduceLE, Int.reduceLT, Int.reduceToNat, Int.reduceEq, ↓reduceIte, if_true, if_false, reduceCtorEq, Bool.false_eq_true, IntKind.bits, Nat.reducePow, List.length_nil, List.length_cons, Bool.true_and, Bool.and_true, forall_const, not_true_eq_false, not_false_eq_true]
        · simp only [e_seq, e_reg, e_draw, e_nil, e_kc_n, e_kc_x, e_kc_r, e_block, e_scope, e_skip, e_lab, e_ret, e_exit, e_kb_n, e_kb_x, e_kb_r, e_kg_n, e_kg_x, e_kg_r, e_kl_n, e_kl_x, e_kl_r, e_cond, e_bget, e_isB, e_c, e_t, e_f, e_val, e_vget, e_isV, e_upd, e_g, e_gsel_t, e_gsel_f, e_gsel_tf, e_gsel_ft, e_gsel_n, e_gsel_tf0, e_gsel_ft0, e_gsel_n0, e_csel_t, e_csel_f, e_ends_r, e_ends_n, e_nbeq, Nat.reduceBEq, vop, abin, aint, aun, cond_true, cond_false, true_and, and_true, List.getElem?_cons_zero, List.getElem?_cons_succ, List.getElem?_nil, Option.getD_some, Option.getD_none, St.enter, argF, AV.shL, AV.sh, resV, RR.ev, RR.evL, leave, AV.still, AV.stillL, AV.un, AV.unL, Option.bind_some, Option.map_some, Int.reduceLE, Int.reduceLT, Int.reduceToNat, Int.reduceEq, ↓reduceIte, if_true, if_false, reduceCtorEq, Bool.false_eq_true, IntKind.bits, Nat.reducePow, List.length_nil, List.length_cons, Bool.true_and, Bool.and_true, forall_const, not_true_eq_false, not_false_eq_true]
        · simp only [e_seq, e_reg, e_draw, e_nil, e_kc_n, e_kc_x, e_kc_r, e_block, e_scope, e_skip, e_lab, e_ret, e_exit, e_kb_n, e_kb_x, e_kb_r, e_kg_n, e_kg_x, e_kg_r, e_kl_n, e_kl_x, e_kl_r, e_cond, e_bget, e_isB, e_c, e_t, e_f, e_val, e_vget, e_isV, e_upd, e_g, e_gsel_t, e_gsel_f, e_gsel_tf, e_gsel_ft, e_gsel_n, e_gsel_tf0, e_gsel_ft0, e_gsel_n0, e_csel_t, e_csel_f, e_ends_r, e_ends_n, e_nbeq, Nat.reduceBEq, vop, abin, aint, aun, cond_true, cond_false, true_and, and_true, List.getElem?_cons_zero, List.getElem?_cons_succ, List.getElem?_nil, Option.getD_some, Option.getD_none, St.enter, argF, AV.shL, AV.sh, resV, RR.ev, RR.evL, leave, AV.still, AV.stillL, AV.un, AV.unL, Option.bind_some, Option.map_some, Int.reduceLE, Int.reduceLT, Int.reduceToNat, Int.reduceEq, ↓reduceIte, if_true, if_false, reduceCtorEq, Bool.false_eq_true, IntKind.bits, Nat.reducePow, List.length_nil, List.length_cons, Bool.true_and, Bool.and_true, forall_const, not_true_eq_false, not_false_eq_true]
        · rw [g2, ← hv]
          have := c.toNat_lt
          rw [show c.toNat % 128 = c.toNat - 128 by omega]

theorem acc_lt {acc i : Nat} (hi : i ≤ 9) (ha : acc < 128 ^ i) : acc < 9223372036854775808 := by
  refine Nat.lt_of_lt_of_le ha ?_
  calc 128 ^ i ≤ 128 ^ 9 := Nat.pow_le_pow_right (by omega) hi
    _ ≤ _ := by decide
theorem pow_le {i : Nat} (hi : i ≤ 9) : 128 ^ i ≤ 9223372036854775808 := by
  calc 128 ^ i ≤ 128 ^ 9 := Nat.pow_le_pow_right (by omega) hi
    _ ≤ _ := by decide
theorem dig_lt {d i : Nat} (hi : i ≤ 9) (hd : d < 128) (h9 : i = 9 → d ≤ 1) : d * 128 ^ i ≤ 9223372036854775808 := by
  rcases Nat.lt_or_ge i 9 with h | h
  · have h1 : 128 ^ i ≤ 128 ^ 8 := Nat.pow_le_pow_right (by omega) (by omega)
    calc d * 128 ^ i ≤ 127 * 128 ^ 8 := Nat.mul_le_mul (by omega) h1
      _ ≤ _ := by decide
  · have : i = 9 := by omega
    calc d * 128 ^ i ≤ 1 * 9223372036854775808 := Nat.mul_le_mul (h9 this) (pow_le hi)
      _ ≤ _ := by decide
theorem mul_digit (d i : Nat) (hi : i ≤ 9) (hd : d < 128) (h9 : i = 9 → d ≤ 1) : IntKind.u64.wrap ((d : Int) * ((128 ^ i : Nat) : Int)) = ((d * 128 ^ i : Nat) : Int) := by
  have hb := dig_lt hi hd h9
  have : ((d * 128 ^ i : Nat) : Int) = (d : Int) * ((128 ^ i : Nat) : Int) := Int.natCast_mul ..
  rw [wu64, ← this]
  omega
theorem plus_digit (acc d i : Nat) (hi : i ≤ 9) (ha : acc < 128 ^ i) (hd : d < 128) (h9 : i = 9 → d ≤ 1) : IntKind.u64.wrap ((acc : Int) + ((d * 128 ^ i : Nat) : Int)) = ((acc + d * 128 ^ i : Nat) : Int) := by
  have hb := dig_lt hi hd h9
  have hc := acc_lt hi ha
  rw [wu64]
  omega
theorem next_pow (i : Nat) (hi : i < 9) : IntKind.u64.wrap (((128 ^ i : Nat) : Int) * 128) = ((128 ^ (i + 1) : Nat) : Int) := by
  have h : 128 ^ i ≤ 128 ^ 8 := Nat.pow_le_pow_right (by omega) (by omega)
  have h2 : (128 : Nat) ^ 8 = 72057594037927936 := by decide
  rw [wu64, Nat.pow_succ]
  omega

def RTakeI (s : List UInt8) (k : Nat) (st : St) : Prop :=
  ∃ f i acc, st = ⟨f, [noObs], []⟩ ∧ k = s.length - i ∧ f 0 = .str s ∧ f 5 = .int .u64 (acc : Nat) ∧ f 6 = .int .u64 ((128 ^ i : Nat) : Int) ∧ f 7 = .int .i64 (i : Nat) ∧ i ≤ s.length ∧ i ≤ 9 ∧ acc < 128 ^ i ∧ vtk i acc (s.drop i) = Vp.take s

theorem c55 (s : List UInt8) : Fn1 Try.prog 55 [.str s] (tk (Vp.take s)) := by
  refine fn1_of_awp (rc := r55) (rs := o55) Try.func55 rfl rfl Try.ntmps55 k55 q55 (by simp) ?_
  simp only [g55_0, g55_1, g55_2, g55_3, g55_5, g55_6, g55_7, g55_8, g55_9, g55_10, g55_11, g55_12, g55_13, g55_4, g55_14, r55, o55, e_seq, e_reg, e_draw, e_nil, e_kc_n, e_kc_x, e_kc_r, e_block, e_scope, e_skip, e_lab, e_ret, e_exit, e_kb_n, e_kb_x, e_kb_r, e_kg_n, e_kg_x, e_kg_r, e_kl_n, e_kl_x, e_kl_r, e_cond, e_bget, e_isB, e_c, e_t, e_f, e_val, e_vget, e_isV, e_upd, e_g, e_gsel_t, e_gsel_f, e_gsel_tf, e_gsel_ft, e_gsel_n, e_gsel_tf0, e_gsel_ft0, e_gsel_n0, e_csel_t, e_csel_f, e_ends_r, e_ends_n, e_nbeq, Nat.reduceBEq, vop, abin, aint, aun, cond_true, cond_false, true_and, and_true, List.getElem?_cons_zero, List.getElem?_cons_succ, List.getElem?_nil, Option.getD_some, Option.getD_none, St.enter, argF, AV.shL, AV.sh, resV, RR.ev, RR.evL, leave, AV.still, AV.stillL, AV.un, AV.unL, Option.bind_some, Option.map_some, Int.reduceLE, Int.reduceLT, Int.reduceToNat, Int.reduceEq, ↓reduceIte, if_true, if_false, reduceCtorEq, Bool.false_eq_true, IntKind.bits, Nat.reducePow, List.length_nil, List.length_cons, Bool.true_and, Bool.and_true, forall_const, not_true_eq_false, not_false_eq_true]
  refine awp_loop (RTakeI s) _ ⟨_, 0, 0, rfl, rfl, rfl, rfl, rfl, rfl, Nat.zero_le _, Nat.zero_le _, by decide, rfl⟩ ?_
  rintro n st ⟨f, i, acc, rfl, rfl, h0, h5, h6, h7, hil, hi, ha, hv⟩
  have e10 : decide ((i : Int) < 10) = true := by simp; omega
  simp only [l55_0, g55_0, g55_1, g55_2, g55_3, g55_5, g55_6, g55_7, g55_8, g55_9, g55_10, g55_11, g55_12, g55_13, g55_4, g55_14, r55, o55, h0, h5, h6, h7, e10, e_seq, e_reg, e_draw, e_nil, e_kc_n, e_kc_x, e_kc_r, e_block, e_scope, e_skip, e_lab, e_ret, e_exit, e_kb_n, e_kb_x, e_kb_r, e_kg_n, e_kg_x, e_kg_r, e_kl_n, e_kl_x, e_kl_r, e_cond, e_bget, e_isB, e_c, e_t, e_f, e_val, e_vget, e_isV, e_upd, e_g, e_gsel_t, e_gsel_f, e_gsel_tf, e_gsel_ft, e_gsel_n, e_gsel_tf0, e_gsel_ft0, e_gsel_n0, e_csel_t, e_csel_f, e_ends_r, e_ends_n, e_nbeq, Nat.reduceBEq, vop, abin, aint, aun, cond_true, cond_false, true_and, and_true, List.getElem?_cons_zero, List.getElem?_cons_succ, List.getElem?_nil, Option.getD_some, Option.getD_none, St.enter, argF, AV.shL, AV.sh, resV, RR.ev, RR.evL, leave, AV.still, AV.stillL, AV.un, AV.unL, Option.bind_some, Option.map_some, Int.reduceLE, Int.reduceLT, Int.reduceToNat, Int.reduceEq, ↓reduceIte, if_true, if_false, reduceCtorEq, Bool.false_eq_true, IntKind.bits, Nat.reducePow, List.length_nil, List.length_cons, Bool.true_and, Bool.and_true, forall_const, not_true_eq_false, not_false_eq_true]
  refine csel_of (fun h => ?_) (fun h => ?_)
  · have h : i = s.length := by have h : (s.length : Int) ≤ i := by simpa using h
                                omega
    rw [List.drop_of_length_le (by omega)] at hv
    simp only [← hv, vtk, tk_end, h0, h5, h6, h7, e_seq, e_reg, e_draw, e_nil, e_kc_n, e_kc_x, e_kc_r, e_block, e_scope, e_skip, e_lab, e_ret, e_exit, e_kb_n, e_kb_x, e_kb_r, e_kg_n, e_kg_x, e_kg_r, e_kl_n, e_kl_x, e_kl_r, e_cond, e_bget, e_isB, e_c, e_t, e_f, e_val, e_vget, e_isV, e_upd, e_g, e_gsel_t, e_gsel_f, e_gsel_tf, e_gsel_ft, e_gsel_n, e_gsel_tf0, e_gsel_ft0, e_gsel_n0, e_csel_t, e_csel_f, e_ends_r, e_ends_n, e_nbeq, Nat.reduceBEq, vop, abin, aint, aun, cond_true, cond_false, true_and, and_true, List.getElem?_cons_zero, List.getElem?_cons_succ, List.getElem?_nil, Option.getD_some, Option.getD_none, St.enter, argF, AV.shL, AV.sh, resV, RR.ev, RR.evL, leave, AV.still, AV.stillL, AV.un, AV.unL, Option.bind_some, Option.map_some, Int.reduceLE, Int.reduceLT, Int.reduceToNat, Int.reduceEq, ↓reduceIte, if_true, if_false, reduceCtorEq, Bool.false_eq_true, IntKind.bits, Nat.reducePow, List.length_nil, List.length_cons, Bool.true_and, Bool.and_true, forall_const, not_true_eq_false, not_false_eq_true]
  · have h : i < s.length := by have h : (i : Int) < s.length := by simpa using h
                                omega
    obtain ⟨c, t, hc⟩ : ∃ c t, s.drop i = c :: t := by
      cases hd : s.drop i with
      | nil => have := congrArg List.length hd; simp at this; omega
      | cons c t => exact ⟨c, t, rfl⟩
    obtain ⟨g1, g2, _⟩ := getElem_drop hc
    rw [hc] at hv
    have n0 : (0 ≤ (i : Int)) = True := by simp
    have e1 : IntKind.i64.wrap ((i : Int) + 1) = ((i + 1 : Nat) : Int) := by rw [wi64]; omega
    have hcl := c.toNat_lt
    have ec : IntKind.u64.wrap (c.toNat : Int) = (c.toNat : Int) := by rw [wu64]; omega
    rw [vtk] at hv
    simp only [h0, h5, h6, h7, n0, g1, ec, Int.toNat_natCast, e_seq, e_reg, e_draw, e_nil, e_kc_n, e_kc_x, e_kc_r, e_block, e_scope, e_skip, e_lab, e_ret, e_exit, e_kb_n, e_kb_x, e_kb_r, e_kg_n, e_kg_x, e_kg_r, e_kl_n, e_kl_x, e_kl_r, e_cond, e_bget, e_isB, e_c, e_t, e_f, e_val, e_vget, e_isV, e_upd, e_g, e_gsel_t, e_gsel_f, e_gsel_tf, e_gsel_ft, e_gsel_n, e_gsel_tf0, e_gsel_ft0, e_gsel_n0, e_csel_t, e_csel_f, e_ends_r, e_ends_n, e_nbeq, Nat.reduceBEq, vop, abin, aint, aun, cond_true, cond_false, true_and, and_true, List.getElem?_cons_zero, List.getElem?_cons_succ, List.getElem?_nil, Option.getD_some, Option.getD_none, St.enter, argF, AV.shL, AV.sh, resV, RR.ev, RR.evL, leave, AV.still, AV.stillL, AV.un, AV.unL, Option.bind_some, Option.map_some, Int.reduceLE, Int.reduceLT, Int.reduceToNat, Int.reduceEq, ↓reduceIte, if_true, if_false, reduceCtorEq, Bool.false_eq_true, IntKind.bits, Nat.reducePow, List.length_nil, List.length_cons, Bool.true_and, Bool.and_true, forall_const, not_true_eq_false, not_false_eq_true]
    by_cases h9 : i = 9
    · have e9 : ((i : Int) == 9) = true := by simp; omega
      simp only [e9, h0, h5, h6, h7, e_seq, e_reg, e_draw, e_nil, e_kc_n, e_kc_x, e_kc_r, e_block, e_scope, e_skip, e_lab, e_ret, e_exit, e_kb_n, e_kb_x, e_kb_r, e_kg_n, e_kg_x, e_kg_r, e_kl_n, e_kl_x, e_kl_r, e_cond, e_bget, e_isB, e_c, e_t, e_f, e_val, e_vget, e_isV, e_upd, e_g, e_gsel_t, e_gsel_f, e_gsel_tf, e_gsel_ft, e_gsel_n, e_gsel_tf0, e_gsel_ft0, e_gsel_n0, e_csel_t, e_csel_f, e_ends_r, e_ends_n, e_nbeq, Nat.reduceBEq, vop, abin, aint, aun, cond_true, cond_false, true_and, and_true, List.getElem?_cons_zero, List.getElem?_cons_succ, List.getElem?_nil, Option.getD_some, Option.getD_none, St.enter, argF, AV.shL, AV.sh, resV, RR.ev, RR.evL, leave, AV.still, AV.stillL, AV.un, AV.unL, Option.bind_some, Option.map_some, Int.reduceLE, Int.reduceLT, Int.reduceToNat, Int.reduceEq, ↓reduceIte, if_true, if_false, reduceCtorEq, Bool.false_eq_true, IntKind.bits, Nat.reducePow, List.length_nil, List.length_cons, Bool.true_and, Bool.and_true, forall_const, not_true_eq_false, not_false_eq_true]
      refine csel_of (fun hc1 => ?_) (fun hc1 => ?_)
      · have hc1 : 1 < c.toNat := by have hc1 : (1 : Int) < c.toNat := by simpa using hc1
                                     omega
        rw [if_pos ⟨h9, hc1⟩] at hv
        simp only [← hv, tk_bad, h0, h5, h6, h7, e_seq, e_reg, e_draw, e_nil, e_kc_n, e_kc_x, e_kc_r, e_block, e_scope, e_skip, e_lab, e_ret, e_exit, e_kb_n, e_kb_x, e_kb_r, e_kg_n, e_kg_x, e_kg_r, e_kl_n, e_kl_x, e_kl_r, e_cond, e_bget, e_isB, e_c, e_t, e_f, e_val, e_vget, e_isV, e_upd, e_g, e_gsel_t, e_gsel_f, e_gsel_tf, e_gsel_ft, e_gsel_n, e_gsel_tf0, e_gsel_ft0, e_gsel_n0, e_csel_t, e_csel_f, e_ends_r, e_ends_n, e_nbeq, Nat.reduceBEq, vop, abin, aint, aun, cond_true, cond_false, true_and, and_true, List.getElem?_cons_zero, List.getElem?_cons_succ, List.getElem?_nil, Option.getD_some, Option.getD_none, St.enter, argF, AV.shL, AV.sh, resV, RR.ev, RR.evL, leave, AV.still, AV.stillL, AV.un, AV.unL, Option.bind_some, Option.map_some, Int.reduceLE, Int.reduceLT, Int.reduceToNat, Int.reduceEq, ↓reduceIte, if_true, if_false, reduceCtorEq, Bool.false_eq_true, IntKind.bits, Nat.reducePow, List.length_nil, List.length_cons, Bool.true_and, Bool.and_true, forall_const, not_true_eq_false, not_false_eq_true]
      · have hc1 : c.toNat ≤ 1 := by have hc1 : (c.toNat : Int) ≤ 1 := by simpa using hc1
                                     omega
        have hbad : ¬ (i = 9 ∧ 1 < c.toNat) := by omega
        rw [if_neg hbad] at hv
        have hm := mul_digit (c.toNat % 128) i hi (by omega) (fun _ => by omega)
        have hd := plus_digit acc (c.toNat % 128) i hi ha (by omega) (fun _ => by omega)
        simp only [tmod128, hm, hd, e1, h0, h5, h6, h7, e_seq, e_reg, e_draw, e_nil, e_kc_n, e_kc_x, e_kc_r, e_block, e_scope, e_skip, e_lab, e_ret, e_exit, e_kb_n, e_kb_x, e_kb_r, e_kg_n, e_kg_x, e_kg_r, e_kl_n, e_kl_x, e_kl_r, e_cond, e_bget, e_isB, e_c, e_t, e_f, e_val, e_vget, e_isV, e_upd, e_g, e_gsel_t, e_gsel_f, e_gsel_tf, e_gsel_ft, e_gsel_n, e_gsel_tf0, e_gsel_ft0, e_gsel_n0, e_csel_t, e_csel_f, e_ends_r, e_ends_n, e_nbeq, Nat.reduceBEq, vop, abin, aint, aun, cond_true, cond_false, true_and, and_true, List.getElem?_cons_zero, List.getElem?_cons_succ, List.getElem?_nil, Option.getD_some, Option.getD_none, St.enter, argF, AV.shL, AV.sh, resV, RR.ev, RR.evL, leave, AV.still, AV.stillL, AV.un, AV.unL, Option.bind_some, Option.map_some, Int.reduceLE, Int.reduceLT, Int.reduceToNat, Int.reduceEq, ↓reduceIte, if_true, if_false, reduceCtorEq, Bool.false_eq_true, IntKind.bits, Nat.reducePow, List.length_nil, List.length_cons, Bool.true_and, Bool.and_true, forall_const, not_true_eq_false, not_false_eq_true]
        refine csel_of (fun hlt => ?_) (fun hlt => ?_)
        · have hlt : c.toNat < 128 := by omega
          rw [if_pos hlt] at hv
          simp only [← hv, tk_ok, Nat.mod_eq_of_lt hlt, e1, h0, h5, h6, h7, e_seq, e_reg, e_draw, e_nil, e_kc_n, e_kc_x, e_kc_r, e_block, e_scope, e_skip, e_lab, e_ret, e_exit, e_kb_n, e_kb_x, e_kb_r, e_kg_n, e_kg_x, e_kg_r, e_kl_n, e_kl_x, e_kl_r, e_cond, e_bget, e_isB, e_c, e_t, e_f, e_val, e_vget, e_isV, e_upd, e_g, e_gsel_t, e_gsel_f, e_gsel_tf, e_gsel_ft, e_gsel_n, e_gsel_tf0, e_gsel_ft0, e_gsel_n0, e_csel_t, e_csel_f, e_ends_r, e_ends_n, e_nbeq, Nat.reduceBEq, vop, abin, aint, aun, cond_true, cond_false, true_and, and_true, List.getElem?_cons_zero, List.getElem?_cons_succ, List.getElem?_nil, Option.getD_some, Option.getD_none, St.enter, argF, AV.shL, AV.sh, resV, RR.ev, RR.evL, leave, AV.still, AV.stillL, AV.un, AV.unL, Option.bind_some, Option.map_some, Int.reduceLE, Int.reduceLT, Int.reduceToNat, Int.reduceEq, ↓reduceIte, if_true, if_false, reduceCtorEq, Bool.false_eq_true, IntKind.bits, Nat.reducePow, List.length_nil, List.length_cons, Bool.true_and, Bool.and_true, forall_const, not_true_eq_false, not_false_eq_true]
        · exfalso
          have hlt : (128 : Int) ≤ c.toNat := by simpa using hlt
          omega
    · have hbad : ¬ (i = 9 ∧ 1 < c.toNat) := by omega
      rw [if_neg hbad] at hv
      have e9 : ((i : Int) == 9) = false := by simp; omega
      have hm := mul_digit (c.toNat % 128) i hi (by omega) (fun e => absurd e h9)
      have hd := plus_digit acc (c.toNat % 128) i hi ha (by omega) (fun e => absurd e h9)
      have hp := next_pow i (by omega)
      simp only [e9, tmod128, hm, hd, e1, h0, h5, h6, h7, e_seq, e_reg, e_draw, e_nil, e_kc_n, e_kc_x, e_kc_r, e_block, e_scope, e_skip, e_lab, e_ret, e_exit, e_kb_n, e_kb_x, e_kb_r, e_kg_n, e_kg_x, e_kg_r, e_kl_n, e_kl_x, e_kl_r, e_cond, e_bget, e_isB, e_c, e_t, e_f, e_val, e_vget, e_isV, e_upd, e_g, e_gsel_t, e_gsel_f, e_gsel_tf, e_gsel_ft, e_gsel_n, e_gsel_tf0, e_gsel_ft0, e_gsel_n0, e_csel_t, e_csel_f, e_ends_r, e_ends_n, e_nbeq, Nat.reduceBEq, vop, abin, aint, aun, cond_true, cond_false, true_and, and_true, List.getElem?_cons_zero, List.getElem?_cons_succ, List.getElem?_nil, Option.getD_some, Option.getD_none, St.enter, argF, AV.shL, AV.sh, resV, RR.ev, RR.evL, leave, AV.still, AV.stillL, AV.un, AV.unL, Option.bind_some, Option.map_some, Int.reduceLE, Int.reduceLT, Int.reduceToNat, Int.reduceEq, ↓reduceIte, if_true, if_false, reduceCtorEq, Bool.false_eq_true, IntKind.bits, Nat.reducePow, List.length_nil, List.length_cons, Bool.true_and, Bool.and_true, forall_const, not_true_eq_false, not_false_eq_true]
      refine csel_of (fun hlt => ?_) (fun hlt => ?_)
      · have hlt : c.toNat < 128 := by have hlt : (c.toNat : Int) < 128 := by simpa using hlt
                                       omega
        rw [if_pos hlt] at hv
        simp only [← hv, tk_ok, Nat.mod_eq_of_lt hlt, e1, h0, h5, h6, h7, e_seq, e_reg, e_draw, e_nil, e_kc_n, e_kc_x, e_kc_r, e_block, e_scope, e_skip, e_lab, e_ret, e_exit, e_kb_n, e_kb_x, e_kb_r, e_kg_n, e_kg_x, e_kg_r, e_kl_n, e_kl_x, e_kl_r, e_cond, e_bget, e_isB, e_c, e_t, e_f, e_val, e_vget, e_isV, e_upd, e_g, e_gsel_t, e_gsel_f, e_gsel_tf, e_gsel_ft, e_gsel_n, e_gsel_tf0, e_gsel_ft0, e_gsel_n0, e_csel_t, e_csel_f, e_ends_r, e_ends_n, e_nbeq, Nat.reduceBEq, vop, abin, aint, aun, cond_true, cond_false, true_and, and_true, List.getElem?_cons_zero, List.getElem?_cons_succ, List.getElem?_nil, Option.getD_some, Option.getD_none, St.enter, argF, AV.shL, AV.sh, resV, RR.ev, RR.evL, leave, AV.still, AV.stillL, AV.un, AV.unL, Option.bind_some, Option.map_some, Int.reduceLE, Int.reduceLT, Int.reduceToNat, Int.reduceEq, ↓reduceIte, if_true, if_false, reduceCtorEq, Bool.false_eq_true, IntKind.bits, Nat.reducePow, List.length_nil, List.length_cons, Bool.true_and, Bool.and_true, forall_const, not_true_eq_false, not_false_eq_true]
      · have hlt : 128 ≤ c.toNat := by have hlt : (128 : Int) ≤ c.toNat := by simpa using hlt
                                       omega
        rw [if_neg (by omega)] at hv
        simp only [hp, e1, h0, h5, h6, h7, e_seq, e_reg, e_draw, e_nil, e_kc_n, e_kc_x, e_kc_r, e_block, e_scope, e_skip, e_lab, e_ret, e_exit, e_kb_n, e_kb_x, e_kb_r, e_kg_n, e_kg_x, e_kg_r, e_kl_n, e_kl_x, e_kl_r, e_cond, e_bget, e_isB, e_c, e_t, e_f, e_val, e_vget, e_isV, e_upd, e_g, e_gsel_t, e_gsel_f, e_gsel_tf, e_gsel_ft, e_gsel_n, e_gsel_tf0, e_gsel_ft0, e_gsel_n0, e_csel_t, e_csel_f, e_ends_r, e_ends_n, e_nbeq, Nat.reduceBEq, vop, abin, aint, aun, cond_true, cond_false, true_and, and_true, List.getElem?_cons_zero, List.getElem?_cons_succ, List.getElem?_nil, Option.getD_some, Option.getD_none, St.enter, argF, AV.shL, AV.sh, resV, RR.ev, RR.evL, leave, AV.still, AV.stillL, AV.un, AV.unL, Option.bind_some, Option.map_some, Int.reduceLE, Int.reduceLT, Int.reduceToNat, Int.reduceEq, ↓reduceIte, if_true, if_false, reduceCtorEq, Bool.false_eq_true, IntKind.bits, Nat.reducePow, List.length_nil, List.length_cons, Bool.true_and, Bool.and_true, forall_const, not_true_eq_false, not_false_eq_true]
        refine ⟨s.length - (i + 1), by omega, _, i + 1, acc + c.toNat % 128 * 128 ^ i, rfl, rfl, ?_, ?_, ?_, ?_, by omega, by omega, digit_lt ha (by omega), ?_⟩
        · simp only [h0, e_seq, e_reg, e_draw, e_nil, e_kc_n, e_kc_x, e_kc_r, e_block, e_scope, e_skip, e_lab, e_ret, e_exit, e_kb_n, e_kb_x, e_kb_r, e_kg_n, e_kg_x, e_kg_r, e_kl_n, e_kl_x, e_kl_r, e_cond, e_bget, e_isB, e_c, e_t, e_f, e_val, e_vget, e_isV, e_upd, e_g, e_gsel_t, e_gsel_f, e_gsel_tf, e_gsel_ft, e_gsel_n, e_gsel_tf0, e_gsel_ft0, e_gsel_n0, e_csel_t, e_csel_f, e_ends_r, e_ends_n, e_nbeq, Nat.reduceBEq, vop, abin, aint, aun, cond_true, cond_false, true_and, and_true, List.getElem?_cons_zero, List.getElem?_cons_succ, List.getElem?_nil, Option.getD_some, Option.getD_none, St.enter, argF, AV.shL, AV.sh, resV, RR.ev, RR.evL, leave, AV.still, AV.stillL, AV.un, AV.unL, Option.bind_some, Option.map_some, Int.reduceLE, Int.reduceLT, Int.reduceToNat, Int.reduceEq, ↓reduceIte, if_true, if_false, reduceCtorEq, Bool.false_eq_true, IntKind.bits, Nat.reducePow, List.length_nil, List.length_cons, Bool.true_and, Bool.and_true, forall_const, not_true_eq_false, not_false_eq_true]
        · simp only [e_seq, e_reg, e_draw, e_nil, e_kc_n, e_kc_x, e_kc_r, e_block, e_scope, e_skip, e_lab, e_ret, e_exit, e_kb_n, e_kb_x, e_kb_r, e_kg_n, e_kg_x, e_kg_r, e_kl_n, e_kl_x, e_kl_r, e_cond, e_bget, e_isB, e_c, e_t, e_f, e_val, e_vget, e_isV, e_upd, e_g, e_gsel_t, e_gsel_f, e_gsel_tf, e_gsel_ft, e_gsel_n, e_gsel_tf0, e_gsel_ft0, e_gsel_n0, e_csel_t, e_csel_f, e_ends_r, e_ends_n, e_nbeq, Nat.reduceBEq, vop, abin, aint, aun, cond_true, cond_false, true_and, and_true, List.getElem?_cons_zero, List.getElem?_cons_succ, List.getElem?_nil, Option.getD_some, Option.getD_none, St.enter, argF, AV.shL, AV.sh, resV, RR.ev, RR.evL, leave, AV.still, AV.stillL, AV.un, AV.unL, Option.bind_some, Option.map_some, Int.reduceLE, Int.reduceLT, Int.reduceToNat, Int.reduceEq, ↓reduceIte, if_true, if_false, reduceCtorEq, Bool.false_eq_true, IntKind.bits, Nat.reducePow, List.length_nil, List.length_cons, Bool.true_and, Bool.and_true, forall_const, not_true_eq_false, not_false_eq_true]
        · simp only [e_seq, e_reg, e_draw, e_nil, e_kc_n, e_kc_x, e_kc_r, e_block, e_scope, e_skip, e_lab, e_ret, e_exit, e_kb_n, e_kb_x, e_kb_r, e_kg_n, e_kg_x, e_kg_r, e_kl_n, e_kl_x, e_kl_r, e_cond, e_bget, e_isB, e_c, e_t, e_f, e_val, e_vget, e_isV, e_upd, e_g, e_gsel_t, e_gsel_f, e_gsel_tf, e_gsel_ft, e_gsel_n, e_gsel_tf0, e_gsel_ft0, e_gsel_n0, e_csel_t, e_csel_f, e_ends_r, e_ends_n, e_nbeq, Nat.reduceBEq, vop, abin, aint, aun, cond_true, cond_false, true_and, and_true, List.getElem?_cons_zero, List.getElem?_cons_succ, List.getElem?_nil, Option.getD_some, Option.getD_none, St.enter, argF, AV.shL, AV.sh, resV, RR.ev, RR.evL, leave, AV.still, AV.stillL, AV.un, AV.unL, Option.bind_some, Option.map_some, Int.reduceLE, Int.reduceLT, Int.reduceToNat, Int.reduceEq, ↓reduceIte, if_true, if_false, reduceCtorEq, Bool.false_eq_true, IntKind.bits, Nat.reducePow, List.length_nil, List.length_cons, Bool.true_and, Bool.and_true, forall_const, not_true_eq_false, not_false_eq_true]
        · simp only [e_seq, e_reg, e_draw, e_nil, e_kc_n, e_kc_x, e_kc_r, e_block, e_scope, e_skip, e_lab, e_ret, e_exit, e_kb_n, e_kb_x, e_kb_r, e_kg_n, e_kg_x, e_kg_r, e_kl_n, e_kl_x, e_kl_r, e_cond, e_bget, e_isB, e_c, e_t, e_f, e_val, e_vget, e_isV, e_upd, e_g, e_gsel_t, e_gsel_f, e_gsel_tf, e_gsel_ft, e_gsel_n, e_gsel_tf0, e_gsel_ft0, e_gsel_n0, e_csel_t, e_csel_f, e_ends_r, e_ends_n, e_nbeq, Nat.reduceBEq, vop, abin, aint, aun, cond_true, cond_false, true_and, and_true, List.getElem?_cons_zero, List.getElem?_cons_succ, List.getElem?_nil, Option.getD_some, Option.getD_none, St.enter, argF, AV.shL, AV.sh, resV, RR.ev, RR.evL, leave, AV.still, AV.stillL, AV.un, AV.unL, Option.bind_some, Option.map_some, Int.reduceLE, Int.reduceLT, Int.reduceToNat, Int.reduceEq, ↓reduceIte, if_true, if_false, reduceCtorEq, Bool.false_eq_true, IntKind.bits, Nat.reducePow, List.length_nil, List.length_cons, Bool.true_and, Bool.and_true, forall_const, not_true_eq_false, not_false_eq_true]
        · rw [g2, ← hv]
          rw [show c.toNat % 128 = c.toNat - 128 by omega]

end Go.Proofs.Ytcmdlmcmefbkeaa.Va

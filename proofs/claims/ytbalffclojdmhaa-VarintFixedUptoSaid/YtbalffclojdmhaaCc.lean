/- Eight bytes: written and read. -/
import Derived.Test.YtbalffclojdmhaaCb
set_option linter.unusedSimpArgs false
namespace Go.Proofs.Ytbalffclojdmhaa.Va
open Go Am Rc Bt Vp Cp

/-- The eight bytes of a number. -/
def fx : Nat → Nat → List UInt8
  | 0, _ => []
  | k + 1, u => UInt8.ofNat (u % 256) :: fx k (u / 256)

theorem fx_len (k u : Nat) : (fx k u).length = k := by
  induction k generalizing u with
  | zero => rfl
  | succ k ih => simp [fx, ih]

theorem fx_snoc (k u : Nat) : fx (k + 1) u = fx k u ++ [UInt8.ofNat (u / 256 ^ k % 256)] := by
  induction k generalizing u with
  | zero => simp [fx]
  | succ k ih =>
    rw [fx, ih (u / 256)]
    simp only [fx, List.cons_append, Nat.div_div_eq_div_mul, Nat.pow_succ, Nat.mul_comm]

theorem fx_read : ∀ (k u : Nat), u < 256 ^ k → (fx k u).foldr (fun b v => 256 * v + b.toNat) 0 = u
  | 0, u, h => by simp at h; simp [fx, h]
  | k + 1, u, h => by
    rw [fx, List.foldr_cons, fx_read k (u / 256) (by rw [Nat.pow_succ] at h; omega), toNat_ofNat _ (by omega)]
    omega

theorem fix8_fx (u : Nat) (t : List UInt8) (h : u < 2 ^ 64) : fix8 (fx 8 u ++ t) = u := by
  unfold fix8
  rw [List.take_left' (fx_len 8 u)]
  exact fx_read 8 u (by have : (256 : Nat) ^ 8 = 2 ^ 64 := by decide
                        omega)

/-- The number of the first bytes. -/
def lo8 (s : List UInt8) : Nat → Nat
  | 0 => 0
  | k + 1 => lo8 s k + ((s[k]?).getD 0).toNat * 256 ^ k

theorem lo8_lt (s : List UInt8) (k : Nat) : lo8 s k < 256 ^ k := by
  induction k with
  | zero => exact Nat.one_pos
  | succ k ih =>
    have h1 := ((s[k]?).getD 0).toNat_lt
    have h2 : ((s[k]?).getD 0).toNat * 256 ^ k ≤ 255 * 256 ^ k := Nat.mul_le_mul_right _ (by omega)
    rw [lo8, Nat.pow_succ]
    omega

theorem foldr_app (b : UInt8) : ∀ (l : List UInt8) (z : Nat), l.foldr (fun b v => 256 * v + b.toNat) z = l.foldr (fun b v => 256 * v + b.toNat) 0 + z * 256 ^ l.length
  | [], z => by simp
  | a :: l, z => by
    rw [List.foldr_cons, List.foldr_cons, foldr_app b l z, List.length_cons, Nat.pow_succ]
    rw [Nat.mul_add, ← Nat.mul_assoc, Nat.mul_comm 256 z, Nat.mul_assoc z, Nat.mul_comm 256 (256 ^ _)]
    omega

theorem lo8_take (s : List UInt8) : ∀ (k : Nat), k ≤ s.length → (s.take k).foldr (fun b v => 256 * v + b.toNat) 0 = lo8 s k
  | 0, _ => rfl
  | k + 1, h => by
    rw [List.take_succ_eq_append_getElem (by omega), List.foldr_append, List.foldr_cons, List.foldr_nil, foldr_app 0, lo8_take s k (by omega), lo8]
    rw [List.getElem?_eq_getElem (by omega), List.length_take, Nat.min_eq_left (by omega)]
    simp

theorem fix8_lo8 (s : List UInt8) (h : 8 ≤ s.length) : fix8 s = lo8 s 8 := lo8_take s 8 h

/-- Added from the top down. -/
theorem foldr_drop (s : List UInt8) (k : Nat) (h : k < s.length) (hk : k < 8) : ((s.take 8).drop k).foldr (fun b v => 256 * v + b.toNat) 0 = 256 * ((s.take 8).drop (k + 1)).foldr (fun b v => 256 * v + b.toNat) 0 + ((s[k]?).getD 0).toNat := by
  have hl : k < (s.take 8).length := by simp; omega
  rw [List.drop_eq_getElem_cons hl, List.foldr_cons]
  rw [List.getElem?_eq_getElem h]
  simp

def TakeFixedI (s : List UInt8) (k : Nat) (st : St) : Prop :=
  ∃ f i, st = ⟨f, [noObs], []⟩ ∧ k = 8 - i ∧ i ≤ 8 ∧ f 0 = .str s ∧ f 4 = .int .u64 (lo8 s i : Nat) ∧ f 9 = .int .i64 (i : Nat)

theorem add_byte (s : List UInt8) (i : Nat) (c : UInt8) (hi : i < 8) (hc : s[i]? = some c) :
    bits .or .u64 (lo8 s i : Int) (IntKind.u64.wrap (IntKind.u64.wrap (c.toNat : Int) * 2 ^ min (IntKind.i64.wrap (8 * (i : Int))).toNat 64)) = (lo8 s (i + 1) : Nat) := by
  have e1 : IntKind.i64.wrap (8 * (i : Int)) = ((8 * i : Nat) : Int) := by rw [wi64]; omega
  have hp : 256 ^ i = 2 ^ (8 * i) := by rw [Nat.pow_mul]
  have hcl := c.toNat_lt
  have hlt := lo8_lt s (i + 1)
  have hlt0 := lo8_lt s i
  rw [lo8, hc] at hlt
  simp only [Option.getD_some] at hlt
  have h8 : 256 ^ (i + 1) ≤ 256 ^ 8 := Nat.pow_le_pow_right (by omega) (by omega)
  have h88 : (256 : Nat) ^ 8 = 18446744073709551616 := by decide
  have e2 : IntKind.u64.wrap (c.toNat : Int) = (c.toNat : Int) := by rw [wu64]; omega
  have e3 : IntKind.u64.wrap ((c.toNat : Int) * 2 ^ (8 * i)) = ((c.toNat * 256 ^ i : Nat) : Int) := by
    have : ((c.toNat * 2 ^ (8 * i) : Nat) : Int) = (c.toNat : Int) * 2 ^ (8 * i) := by push_cast; rfl
    rw [wu64, ← this, hp]
    rw [hp] at hlt
    omega
  rw [e1, Int.toNat_natCast, Nat.min_eq_left (by omega), e2, e3, or_u64 _ _ (by omega) (by omega), lo8, hc]
  congr 1
  rw [hp] at hlt0 ⊢
  have := Nat.two_pow_add_eq_or_of_lt hlt0 c.toNat
  simp only [Option.getD_some]
  rw [Nat.or_comm, Nat.mul_comm c.toNat, ← this, Nat.add_comm]

/-- What reading eight bytes gives. -/
def tkf (s : List UInt8) : AV := if s.length < 8 then .tup [.int .u64 0, .int .i64 4] else .tup [.int .u64 (fix8 s : Nat), .int .i64 0]

theorem c19 (s : List UInt8) : Fn1 Try.prog 19 [.str s] (tkf s) := by
  refine fn1_of_awp (rc := r19) (rs := o19) Try.func19 rfl rfl Try.ntmps19 k19 q19 (by simp) ?_
  simp only [g19_0, g19_1, g19_2, g19_3, g19_4, g19_5, g19_6, g19_7, g19_8, g19_9, r19, o19, e_seq, e_reg, e_draw, e_nil, e_kc_n, e_kc_x, e_kc_r, e_block, e_scope, e_skip, e_lab, e_ret, e_exit, e_kb_n, e_kb_x, e_kb_r, e_kg_n, e_kg_x, e_kg_r, e_kl_n, e_kl_x, e_kl_r, e_cond, e_bget, e_isB, e_c, e_t, e_f, e_val, e_vget, e_isV, e_upd, e_g, e_gsel_t, e_gsel_f, e_gsel_tf, e_gsel_ft, e_gsel_n, e_gsel_tf0, e_gsel_ft0, e_gsel_n0, e_csel_t, e_csel_f, e_ends_r, e_ends_n, e_nbeq, Nat.reduceBEq, vop, abin, aint, aun, cond_true, cond_false, true_and, and_true, List.getElem?_cons_zero, List.getElem?_cons_succ, List.getElem?_nil, Option.getD_some, Option.getD_none, St.enter, argF, AV.shL, AV.sh, resV, RR.ev, RR.evL, leave, AV.still, AV.stillL, AV.un, AV.unL, Option.bind_some, Option.map_some, Int.reduceLE, Int.reduceLT, Int.reduceToNat, Int.reduceEq, ↓reduceIte, if_true, if_false, reduceCtorEq, Bool.false_eq_true, IntKind.bits, Nat.reducePow, List.length_nil, List.length_cons, Bool.true_and, Bool.and_true, forall_const, not_true_eq_false, not_false_eq_true, upd_upd, Bool.not_true, Bool.not_false, gen?, ne_eq, Nat.one_ne_zero, decide_true, decide_false, e_store, e_storev, e_isPv, e_allocN, e_boxN, e_mget, e_isM, astore, aload, noOb, Am.look, Am.put, AV.unNL, AV.unNL_zero, AV.shNL, AV.shN, AV.unL, splice, Am.part, fill, AV.cells, AV.leaf, List.all_cons, List.all_nil, List.take_succ_cons, List.take_zero, List.take_nil, List.drop_succ_cons, List.drop_zero, List.drop_nil, List.nil_append, List.cons_append, List.append_nil, Nat.reduceAdd, Nat.reduceLeDiff, Nat.reduceLT, Nat.reduceSub, Nat.reduceEqDiff, noObs, and_self, lenA, bnd, aslice, eqL, eq1, e_no, e_drop, e_scr_top, e_scr_int, e_scr_bool, e_scr_str, e_scr_nils, e_scr_nilp, e_scr_nili, e_scr_nilf, e_scr_list, e_scr_vec, e_scr_agg, e_scr_tup, e_scr_ptr, e_scr_ptr1, e_scr_nil, e_scr_cons, e_scr_cells, e_scr_row, e_scr_none, e_scr_isRow, e_row_cells, e_row_none, List.map_nil]
  refine csel_of (fun h => ?_) (fun h => ?_)
  · have h : s.length < 8 := by have h : (s.length : Int) < 8 := by simpa using h
                                omega
    simp only [tkf, h, e_seq, e_reg, e_draw, e_nil, e_kc_n, e_kc_x, e_kc_r, e_block, e_scope, e_skip, e_lab, e_ret, e_exit, e_kb_n, e_kb_x, e_kb_r, e_kg_n, e_kg_x, e_kg_r, e_kl_n, e_kl_x, e_kl_r, e_cond, e_bget, e_isB, e_c, e_t, e_f, e_val, e_vget, e_isV, e_upd, e_g, e_gsel_t, e_gsel_f, e_gsel_tf, e_gsel_ft, e_gsel_n, e_gsel_tf0, e_gsel_ft0, e_gsel_n0, e_csel_t, e_csel_f, e_ends_r, e_ends_n, e_nbeq, Nat.reduceBEq, vop, abin, aint, aun, cond_true, cond_false, true_and, and_true, List.getElem?_cons_zero, List.getElem?_cons_succ, List.getElem?_nil, Option.getD_some, Option.getD_none, St.enter, argF, AV.shL, AV.sh, resV, RR.ev, RR.evL, leave, AV.still, AV.stillL, AV.un, AV.unL, Option.bind_some, Option.map_some, Int.reduceLE, Int.reduceLT, Int.reduceToNat, Int.reduceEq, ↓reduceIte, if_true, if_false, reduceCtorEq, Bool.false_eq_true, IntKind.bits, Nat.reducePow, List.length_nil, List.length_cons, Bool.true_and, Bool.and_true, forall_const, not_true_eq_false, not_false_eq_true, upd_upd, Bool.not_true, Bool.not_false, gen?, ne_eq, Nat.one_ne_zero, decide_true, decide_false, e_store, e_storev, e_isPv, e_allocN, e_boxN, e_mget, e_isM, astore, aload, noOb, Am.look, Am.put, AV.unNL, AV.unNL_zero, AV.shNL, AV.shN, AV.unL, splice, Am.part, fill, AV.cells, AV.leaf, List.all_cons, List.all_nil, List.take_succ_cons, List.take_zero, List.take_nil, List.drop_succ_cons, List.drop_zero, List.drop_nil, List.nil_append, List.cons_append, List.append_nil, Nat.reduceAdd, Nat.reduceLeDiff, Nat.reduceLT, Nat.reduceSub, Nat.reduceEqDiff, noObs, and_self, lenA, bnd, aslice, eqL, eq1, e_no, e_drop, e_scr_top, e_scr_int, e_scr_bool, e_scr_str, e_scr_nils, e_scr_nilp, e_scr_nili, e_scr_nilf, e_scr_list, e_scr_vec, e_scr_agg, e_scr_tup, e_scr_ptr, e_scr_ptr1, e_scr_nil, e_scr_cons, e_scr_cells, e_scr_row, e_scr_none, e_scr_isRow, e_row_cells, e_row_none, List.map_nil]
  · have h : ¬ s.length < 8 := by have h : ¬ (s.length : Int) < 8 := by simpa using h
                                  omega
    simp only [e_seq, e_reg, e_draw, e_nil, e_kc_n, e_kc_x, e_kc_r, e_block, e_scope, e_skip, e_lab, e_ret, e_exit, e_kb_n, e_kb_x, e_kb_r, e_kg_n, e_kg_x, e_kg_r, e_kl_n, e_kl_x, e_kl_r, e_cond, e_bget, e_isB, e_c, e_t, e_f, e_val, e_vget, e_isV, e_upd, e_g, e_gsel_t, e_gsel_f, e_gsel_tf, e_gsel_ft, e_gsel_n, e_gsel_tf0, e_gsel_ft0, e_gsel_n0, e_csel_t, e_csel_f, e_ends_r, e_ends_n, e_nbeq, Nat.reduceBEq, vop, abin, aint, aun, cond_true, cond_false, true_and, and_true, List.getElem?_cons_zero, List.getElem?_cons_succ, List.getElem?_nil, Option.getD_some, Option.getD_none, St.enter, argF, AV.shL, AV.sh, resV, RR.ev, RR.evL, leave, AV.still, AV.stillL, AV.un, AV.unL, Option.bind_some, Option.map_some, Int.reduceLE, Int.reduceLT, Int.reduceToNat, Int.reduceEq, ↓reduceIte, if_true, if_false, reduceCtorEq, Bool.false_eq_true, IntKind.bits, Nat.reducePow, List.length_nil, List.length_cons, Bool.true_and, Bool.and_true, forall_const, not_true_eq_false, not_false_eq_true, upd_upd, Bool.not_true, Bool.not_false, gen?, ne_eq, Nat.one_ne_zero, decide_true, decide_false, e_store, e_storev, e_isPv, e_allocN, e_boxN, e_mget, e_isM, astore, aload, noOb, Am.look, Am.put, AV.unNL, AV.unNL_zero, AV.shNL, AV.shN, AV.unL, splice, Am.part, fill, AV.cells, AV.leaf, List.all_cons, List.all_nil, List.take_succ_cons, List.take_zero, List.take_nil, List.drop_succ_cons, List.drop_zero, List.drop_nil, List.nil_append, List.cons_append, List.append_nil, Nat.reduceAdd, Nat.reduceLeDiff, Nat.reduceLT, Nat.reduceSub, Nat.reduceEqDiff, noObs, and_self, lenA, bnd, aslice, eqL, eq1, e_no, e_drop, e_scr_top, e_scr_int, e_scr_bool, e_scr_str, e_scr_nils, e_scr_nilp, e_scr_nili, e_scr_nilf, e_scr_list, e_scr_vec, e_scr_agg, e_scr_tup, e_scr_ptr, e_scr_ptr1, e_scr_nil, e_scr_cons, e_scr_cells, e_scr_row, e_scr_none, e_scr_isRow, e_row_cells, e_row_none, List.map_nil]
    refine awp_loop (TakeFixedI s) _ ⟨_, 0, rfl, rfl, by omega, rfl, rfl, rfl⟩ ?_
    rintro n st ⟨f, i, rfl, rfl, hi, h0, h4, h9⟩
    simp only [l19_0, g19_0, g19_1, g19_2, g19_3, g19_4, g19_5, g19_6, g19_7, g19_8, g19_9, r19, o19, h0, h4, h9, e_seq, e_reg, e_draw, e_nil, e_kc_n, e_kc_x, e_kc_r, e_block, e_scope, e_skip, e_lab, e_ret, e_exit, e_kb_n, e_kb_x, e_kb_r, e_kg_n, e_kg_x, e_kg_r, e_kl_n, e_kl_x, e_kl_r, e_cond, e_bget, e_isB, e_c, e_t, e_f, e_val, e_vget, e_isV, e_upd, e_g, e_gsel_t, e_gsel_f, e_gsel_tf, e_gsel_ft, e_gsel_n, e_gsel_tf0, e_gsel_ft0, e_gsel_n0, e_csel_t, e_csel_f, e_ends_r, e_ends_n, e_nbeq, Nat.reduceBEq, vop, abin, aint, aun, cond_true, cond_false, true_and, and_true, List.getElem?_cons_zero, List.getElem?_cons_succ, List.getElem?_nil, Option.getD_some, Option.getD_none, St.enter, argF, AV.shL, AV.sh, resV, RR.ev, RR.evL, leave, AV.still, AV.stillL, AV.un, AV.unL, Option.bind_some, Option.map_some, Int.reduceLE, Int.reduceLT, Int.reduceToNat, Int.reduceEq, ↓reduceIte, if_true, if_false, reduceCtorEq, Bool.false_eq_true, IntKind.bits, Nat.reducePow, List.length_nil, List.length_cons, Bool.true_and, Bool.and_true, forall_const, not_true_eq_false, not_false_eq_true, upd_upd, Bool.not_true, Bool.not_false, gen?, ne_eq, Nat.one_ne_zero, decide_true, decide_false, e_store, e_storev, e_isPv, e_allocN, e_boxN, e_mget, e_isM, astore, aload, noOb, Am.look, Am.put, AV.unNL, AV.unNL_zero, AV.shNL, AV.shN, AV.unL, splice, Am.part, fill, AV.cells, AV.leaf, List.all_cons, List.all_nil, List.take_succ_cons, List.take_zero, List.take_nil, List.drop_succ_cons, List.drop_zero, List.drop_nil, List.nil_append, List.cons_append, List.append_nil, Nat.reduceAdd, Nat.reduceLeDiff, Nat.reduceLT, Nat.reduceSub, Nat.reduceEqDiff, noObs, and_self, lenA, bnd, aslice, eqL, eq1, e_no, e_drop, e_scr_top, e_scr_int, e_scr_bool, e_scr_str, e_scr_nils, e_scr_nilp, e_scr_nili, e_scr_nilf, e_scr_list, e_scr_vec, e_scr_agg, e_scr_tup, e_scr_ptr, e_scr_ptr1, e_scr_nil, e_scr_cons, e_scr_cells, e_scr_row, e_scr_none, e_scr_isRow, e_row_cells, e_row_none, List.map_nil]
    refine csel_of (fun hc => ?_) (fun hc => ?_)
    · have hc : i < 8 := by have hc : (i : Int) < 8 := by simpa using hc
                            omega
      have n0 : (0 ≤ (i : Int)) = True := by simp
      obtain ⟨b, hb⟩ : ∃ b, s[i]? = some b := ⟨s[i], List.getElem?_eq_getElem (by omega)⟩
      have e1 : IntKind.i64.wrap ((i : Int) + 1) = ((i + 1 : Nat) : Int) := by rw [wi64]; omega
      have e0 : IntKind.i64.wrap (8 * (i : Int)) = ((8 * i : Nat) : Int) := by rw [wi64]; omega
      have n8 : (0 ≤ IntKind.i64.wrap (8 * (i : Int))) = True := eq_true (by rw [e0]; omega)
      have ha := add_byte s i b hc hb
      simp only [n0, Int.toNat_natCast, hb, n8, ha, e1, h0, h4, h9, e_seq, e_reg, e_draw, e_nil, e_kc_n, e_kc_x, e_kc_r, e_block, e_scope, e_skip, e_lab, e_ret, e_exit, e_kb_n, e_kb_x, e_kb_r, e_kg_n, e_kg_x, e_kg_r, e_kl_n, e_kl_x, e_kl_r, e_cond, e_bget, e_isB, e_c, e_t, e_f, e_val, e_vget, e_isV, e_upd, e_g, e_gsel_t, e_gsel_f, e_gsel_tf, e_gsel_ft, e_gsel_n, e_gsel_tf0, e_gsel_ft0, e_gsel_n0, e_csel_t, e_csel_f, e_ends_r, e_ends_n, e_nbeq, Nat.reduceBEq, vop, abin, aint, aun, cond_true, cond_false, true_and, and_true, List.getElem?_cons_zero, List.getElem?_cons_succ, List.getElem?_nil, Option.getD_some, Option.getD_none, St.enter, argF, AV.shL, AV.sh, resV, RR.ev, RR.evL, leave, AV.still, AV.stillL, AV.un, AV.unL, Option.bind_some, Option.map_some, Int.reduceLE, Int.reduceLT, Int.reduceToNat, Int.reduceEq, ↓reduceIte, if_true, if_false, reduceCtorEq, Bool.false_eq_true, IntKind.bits, Nat.reducePow, List.length_nil, List.length_cons, Bool.true_and, Bool.and_true, forall_const, not_true_eq_false, not_false_eq_true, upd_upd, Bool.not_true, Bool.not_false, gen?, ne_eq, Nat.one_ne_zero, decide_true, decide_false, e_store, e_storev, e_isPv, e_allocN, e_boxN, e_mget, e_isM, astore, aload, noOb, Am.look, Am.put, AV.unNL, AV.unNL_zero, AV.shNL, AV.shN, AV.unL, splice, Am.part, fill, AV.cells, AV.leaf, List.all_cons, List.all_nil, List.take_succ_cons, List.take_zero, List.take_nil, List.drop_succ_cons, List.drop_zero, List.drop_nil, List.nil_append, List.cons_append, List.append_nil, Nat.reduceAdd, Nat.reduceLeDiff, Nat.reduceLT, Nat.reduceSub, Nat.reduceEqDiff, noObs, and_self, lenA, bnd, aslice, eqL, eq1, e_no, e_drop, e_scr_top, e_scr_int, e_scr_bool, e_scr_str, e_scr_nils, e_scr_nilp, e_scr_nili, e_scr_nilf, e_scr_list, e_scr_vec, e_scr_agg, e_scr_tup, e_scr_ptr, e_scr_ptr1, e_scr_nil, e_scr_cons, e_scr_cells, e_scr_row, e_scr_none, e_scr_isRow, e_row_cells, e_row_none, List.map_nil]
      exact ⟨8 - (i + 1), by omega, _, i + 1, rfl, rfl, by omega, by simp only [h0, e_seq, e_reg, e_draw, e_nil, e_kc_n, e_kc_x, e_kc_r, e_block, e_scope, e_skip, e_lab, e_ret, e_exit, e_kb_n, e_kb_x, e_kb_r, e_kg_n, e_kg_x, e_kg_r, e_kl_n, e_kl_x, e_kl_r, e_cond, e_bget, e_isB, e_c, e_t, e_f, e_val, e_vget, e_isV, e_upd, e_g, e_gsel_t, e_gsel_f, e_gsel_tf, e_gsel_ft, e_gsel_n, e_gsel_tf0, e_gsel_ft0, e_gsel_n0, e_csel_t, e_csel_f, e_ends_r, e_ends_n, e_nbeq, Nat.reduceBEq, vop, abin, aint, aun, cond_true, cond_false, true_and, and_true, List.getElem?_cons_zero, List.getElem?_cons_succ, List.getElem?_nil, Option.getD_some, Option.getD_none, St.enter, argF, AV.shL, AV.sh, resV, RR.ev, RR.evL, leave, AV.still, AV.stillL, AV.un, AV.unL, Option.bind_some, Option.map_some, Int.reduceLE, Int.reduceLT, Int.reduceToNat, Int.reduceEq, ↓reduceIte, if_true, if_false, reduceCtorEq, Bool.false_eq_true, IntKind.bits, Nat.reducePow, List.length_nil, List.length_cons, Bool.true_and, Bool.and_true, forall_const, not_true_eq_false, not_false_eq_true, upd_upd, Bool.not_true, Bool.not_false, gen?, ne_eq, Nat.one_ne_zero, decide_true, decide_false, e_store, e_storev, e_isPv, e_allocN, e_boxN, e_mget, e_isM, astore, aload, noOb, Am.look, Am.put, AV.unNL, AV.unNL_zero, AV.shNL, AV.shN, AV.unL, splice, Am.part, fill, AV.cells, AV.leaf, List.all_cons, List.all_nil, List.take_succ_cons, List.take_zero, List.take_nil, List.drop_succ_cons, List.drop_zero, List.drop_nil, List.nil_append, List.cons_append, List.append_nil, Nat.reduceAdd, Nat.reduceLeDiff, Nat.reduceLT, Nat.reduceSub, Nat.reduceEqDiff, noObs, and_self, lenA, bnd, aslice, eqL, eq1, e_no, e_drop, e_scr_top, e_scr_int, e_scr_bool, e_scr_str, e_scr_nils, e_scr_nilp, e_scr_nili, e_scr_nilf, e_scr_list, e_scr_vec, e_scr_agg, e_scr_tup, e_scr_ptr, e_scr_ptr1, e_scr_nil, e_scr_cons, e_scr_cells, e_scr_row, e_scr_none, e_scr_isRow, e_row_cells, e_row_none, List.map_nil], by simp only [e_seq, e_reg, e_draw, e_nil, e_kc_n, e_kc_x, e_kc_r, e_block, e_scope, e_skip, e_lab, e_ret, e_exit, e_kb_n, e_kb_x, e_kb_r, e_kg_n, e_kg_x, e_kg_r, e_kl_n, e_kl_x, e_kl_r, e_cond, e_bget, e_isB, e_c, e_t, e_f, e_val, e_vget, e_isV, e_upd, e_g, e_gsel_t, e_gsel_f, e_gsel_tf, e_gsel_ft, e_gsel_n, e_gsel_tf0, e_gsel_ft0, e_gsel_n0, e_csel_t, e_csel_f, e_ends_r, e_ends_n, e_nbeq, Nat.reduceBEq, vop, abin, aint, aun, cond_true, cond_false, true_and, and_true, List.getElem?_cons_zero, List.getElem?_cons_succ, List.getElem?_nil, Option.getD_some, Option.getD_none, St.enter, argF, AV.shL, AV.sh, resV, RR.ev, RR.evL, leave, AV.still, AV.stillL, AV.un, AV.unL, Option.bind_some, Option.map_some, Int.reduceLE, Int.reduceLT, Int.reduceToNat, Int.reduceEq, ↓reduceIte, if_true, if_false, reduceCtorEq, Bool.false_eq_true, IntKind.bits, Nat.reducePow, List.length_nil, List.length_cons, Bool.true_and, Bool.and_true, forall_const, not_true_eq_false, not_false_eq_true, upd_upd, Bool.not_true, Bool.not_false, gen?, ne_eq, Nat.one_ne_zero, decide_true, decide_false, e_store, e_storev, e_isPv, e_allocN, e_boxN, e_mget, e_isM, astore, aload, noOb, Am.look, Am.put, AV.unNL, AV.unNL_zero, AV.shNL, AV.shN, AV.unL, splice, Am.part, fill, AV.cells, AV.leaf, List.all_cons, List.all_nil, List.take_succ_cons, List.take_zero, List.take_nil, List.drop_succ_cons, List.drop_zero, List.drop_nil, List.nil_append, List.cons_append, List.append_nil, Nat.reduceAdd, Nat.reduceLeDiff, Nat.reduceLT, Nat.reduceSub, Nat.reduceEqDiff, noObs, and_self, lenA, bnd, aslice, eqL, eq1, e_no, e_drop, e_scr_top, e_scr_int, e_scr_bool, e_scr_str, e_scr_nils, e_scr_nilp, e_scr_nili, e_scr_nilf, e_scr_list, e_scr_vec, e_scr_agg, e_scr_tup, e_scr_ptr, e_scr_ptr1, e_scr_nil, e_scr_cons, e_scr_cells, e_scr_row, e_scr_none, e_scr_isRow, e_row_cells, e_row_none, List.map_nil], by simp only [e_seq, e_reg, e_draw, e_nil, e_kc_n, e_kc_x, e_kc_r, e_block, e_scope, e_skip, e_lab, e_ret, e_exit, e_kb_n, e_kb_x, e_kb_r, e_kg_n, e_kg_x, e_kg_r, e_kl_n, e_kl_x, e_kl_r, e_cond, e_bget, e_isB, e_c, e_t, e_f, e_val, e_vget, e_isV, e_upd, e_g, e_gsel_t, e_gsel_f, e_gsel_tf, e_gsel_ft, e_gsel_n, e_gsel_tf0, e_gsel_ft0, e_gsel_n0, e_csel_t, e_csel_f, e_ends_r, e_ends_n, e_nbeq, Nat.reduceBEq, vop, abin, aint, aun, cond_true, cond_false, true_and, and_true, List.getElem?_cons_zero, List.getElem?_cons_succ, List.getElem?_nil, Option.getD_some, Option.getD_none, St.enter, argF, AV.shL, AV.sh, resV, RR.ev, RR.evL, leave, AV.still, AV.stillL, AV.un, AV.unL, Option.bind_some, Option.map_some, Int.reduceLE, Int.reduceLT, Int.reduceToNat, Int.reduceEq, ↓reduceIte, if_true, if_false, reduceCtorEq, Bool.false_eq_true, IntKind.bits, Nat.reducePow, List.length_nil, List.length_cons, Bool.true_and, Bool.and_true, forall_const, not_true_eq_false, not_false_eq_true, upd_upd, Bool.not_true, Bool.not_false, gen?, ne_eq, Nat.one_ne_zero, decide_true, decide_false, e_store, e_storev, e_isPv, e_allocN, e_boxN, e_mget, e_isM, astore, aload, noOb, Am.look, Am.put, AV.unNL, AV.unNL_zero, AV.shNL, AV.shN, AV.unL, splice, Am.part, fill, AV.cells, AV.leaf, List.all_cons, List.all_nil, List.take_succ_cons, List.take_zero, List.take_nil, List.drop_succ_cons, List.drop_zero, List.drop_nil, List.nil_append, List.cons_append, List.append_nil, Nat.reduceAdd, Nat.reduceLeDiff, Nat.reduceLT, Nat.reduceSub, Nat.reduceEqDiff, noObs, and_self, lenA, bnd, aslice, eqL, eq1, e_no, e_drop, e_scr_top, e_scr_int, e_scr_bool, e_scr_str, e_scr_nils, e_scr_nilp, e_scr_nili, e_scr_nilf, e_scr_list, e_scr_vec, e_scr_agg, e_scr_tup, e_scr_ptr, e_scr_ptr1, e_scr_nil, e_scr_cons, e_scr_cells, e_scr_row, e_scr_none, e_scr_isRow, e_row_cells, e_row_none, List.map_nil]⟩
    · have hc : i = 8 := by have hc : ¬ (i : Int) < 8 := by simpa using hc
                            omega
      subst hc
      simp only [h0, h4, h9, e_seq, e_reg, e_draw, e_nil, e_kc_n, e_kc_x, e_kc_r, e_block, e_scope, e_skip, e_lab, e_ret, e_exit, e_kb_n, e_kb_x, e_kb_r, e_kg_n, e_kg_x, e_kg_r, e_kl_n, e_kl_x, e_kl_r, e_cond, e_bget, e_isB, e_c, e_t, e_f, e_val, e_vget, e_isV, e_upd, e_g, e_gsel_t, e_gsel_f, e_gsel_tf, e_gsel_ft, e_gsel_n, e_gsel_tf0, e_gsel_ft0, e_gsel_n0, e_csel_t, e_csel_f, e_ends_r, e_ends_n, e_nbeq, Nat.reduceBEq, vop, abin, aint, aun, cond_true, cond_false, true_and, and_true, List.getElem?_cons_zero, List.getElem?_cons_succ, List.getElem?_nil, Option.getD_some, Option.getD_none, St.enter, argF, AV.shL, AV.sh, resV, RR.ev, RR.evL, leave, AV.still, AV.stillL, AV.un, AV.unL, Option.bind_some, Option.map_some, Int.reduceLE, Int.reduceLT, Int.reduceToNat, Int.reduceEq, ↓reduceIte, if_true, if_false, reduceCtorEq, Bool.false_eq_true, IntKind.bits, Nat.reducePow, List.length_nil, List.length_cons, Bool.true_and, Bool.and_true, forall_const, not_true_eq_false, not_false_eq_true, upd_upd, Bool.not_true, Bool.not_false, gen?, ne_eq, Nat.one_ne_zero, decide_true, decide_false, e_store, e_storev, e_isPv, e_allocN, e_boxN, e_mget, e_isM, astore, aload, noOb, Am.look, Am.put, AV.unNL, AV.unNL_zero, AV.shNL, AV.shN, AV.unL, splice, Am.part, fill, AV.cells, AV.leaf, List.all_cons, List.all_nil, List.take_succ_cons, List.take_zero, List.take_nil, List.drop_succ_cons, List.drop_zero, List.drop_nil, List.nil_append, List.cons_append, List.append_nil, Nat.reduceAdd, Nat.reduceLeDiff, Nat.reduceLT, Nat.reduceSub, Nat.reduceEqDiff, noObs, and_self, lenA, bnd, aslice, eqL, eq1, e_no, e_drop, e_scr_top, e_scr_int, e_scr_bool, e_scr_str, e_scr_nils, e_scr_nilp, e_scr_nili, e_scr_nilf, e_scr_list, e_scr_vec, e_scr_agg, e_scr_tup, e_scr_ptr, e_scr_ptr1, e_scr_nil, e_scr_cons, e_scr_cells, e_scr_row, e_scr_none, e_scr_isRow, e_row_cells, e_row_none, List.map_nil]
      rw [tkf, if_neg h, fix8_lo8 s (by omega)]

theorem foldr_lt : ∀ (l : List UInt8), l.foldr (fun b v => 256 * v + b.toNat) 0 < 256 ^ l.length
  | [] => by simp
  | b :: l => by
    have h := foldr_lt l
    have hb := b.toNat_lt
    rw [List.foldr_cons, List.length_cons, Nat.pow_succ]
    omega

/-- The number of the bytes from the i-th on. -/
def hi8 (s : List UInt8) (i : Nat) : Nat := ((s.take 8).drop i).foldr (fun b v => 256 * v + b.toNat) 0

theorem hi8_step (s : List UInt8) (i : Nat) (hi : i < 8) (hs : 8 ≤ s.length) (c : UInt8) (hc : s[i]? = some c) : IntKind.u64.wrap (IntKind.u64.wrap ((hi8 s (i + 1) : Nat) * 256 : Int) + IntKind.u64.wrap (c.toNat : Int)) = ((hi8 s i : Nat) : Int) ∧ IntKind.u64.wrap (IntKind.u64.wrap (256 * (hi8 s (i + 1) : Nat) : Int) + IntKind.u64.wrap (c.toNat : Int)) = ((hi8 s i : Nat) : Int) := by
  have h := foldr_drop s i (by omega) hi
  rw [hc] at h
  simp only [Option.getD_some] at h
  have h : hi8 s i = 256 * hi8 s (i + 1) + c.toNat := h
  have hlt : hi8 s i < 256 ^ (8 - i) := by
    have := foldr_lt ((s.take 8).drop i)
    rw [List.length_drop, List.length_take, Nat.min_eq_left hs] at this
    exact this
  have h8 : 256 ^ (8 - i) ≤ 256 ^ 8 := Nat.pow_le_pow_right (by omega) (by omega)
  have h88 : (256 : Nat) ^ 8 = 18446744073709551616 := by decide
  have hcl := c.toNat_lt
  constructor <;> (simp only [wu64]; omega)

def RFixedI (s : List UInt8) (fr : Nat → Ob) (k : Nat) (st : St) : Prop :=
  ∃ f, ∃ i : Nat, st = ⟨f, [fr], []⟩ ∧ k = i ∧ i ≤ 8 ∧ f 1 = .ptr 0 1 0 ∧ f 3 = .ptr 0 3 0 ∧ f 5 = .str s ∧ f 6 = .int .u64 (hi8 s i : Nat) ∧ f 7 = .int .i64 ((i : Int) - 1)

end Go.Proofs.Ytbalffclojdmhaa.Va

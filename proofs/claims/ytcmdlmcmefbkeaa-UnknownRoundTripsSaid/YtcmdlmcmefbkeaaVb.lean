/- Varint functions that make bytes: what each computes. -/
import Derived.Test.YtcmdlmcmefbkeaaAms
import Derived.Test.YtcmdlmcmefbkeaaRc
import Derived.Test.YtcmdlmcmefbkeaaBt
import Derived.Test.YtcmdlmcmefbkeaaVp
set_option linter.unusedSimpArgs false
namespace Go.Proofs.Ytcmdlmcmefbkeaa.Va
open Go Am Rc Bt Vp

/-- Bytes as numbers. -/
def bl (l : List UInt8) : List AV := l.map fun b => .int .u8 (b.toNat : Int)
theorem bl_append (a b : List UInt8) : bl (a ++ b) = bl a ++ bl b := by simp [bl]
theorem bl_length (a : List UInt8) : (bl a).length = a.length := by simp [bl]
theorem bytesOf_bl (l : List UInt8) : bytesOf (bl l) = some l := by
  induction l with
  | nil => rfl
  | cons b l ih =>
    show (bytesOf (bl l)).map _ = _
    rw [ih]
    simp

theorem fdiv7 (u : Nat) : (u : Int).fdiv (2 ^ min 7 64) = ((u / 128 : Nat) : Int) := by
  rw [show min 7 64 = 7 from rfl, Int.fdiv_eq_ediv_of_nonneg _ (show (0 : Int) ≤ 2 ^ 7 by decide)]
  omega

theorem or128 (u : Nat) : bits .or .u8 (IntKind.u8.wrap (u : Int)) 128 = ((UInt8.ofNat (u % 128 + 128)).toNat : Int) := by
  rw [wu8]
  have h : ∀ n : Fin 256, bits .or .u8 ((n.val : Nat) : Int) 128 = ((n.val % 128 + 128 : Nat) : Int) := by decide +kernel
  have := h ⟨u % 256, by omega⟩
  simp only at this
  rw [show ((u : Int) % 256) = ((u % 256 : Nat) : Int) by omega, this, toNat_ofNat _ (by omega)]
  omega

theorem low8 (u : Nat) (h : u < 128) : IntKind.u8.wrap (u : Int) = ((UInt8.ofNat u).toNat : Int) := by
  rw [wu8, toNat_ofNat _ (by omega)]
  omega

def PutI (u0 : Nat) (k : Nat) (st : St) : Prop :=
  ∃ f fr u g j l, st = ⟨f, [fr], []⟩ ∧ k = u ∧ f 0 = .int .u64 (u : Nat) ∧ f 3 = .vec 0 3 g 0 l.length false ∧ fr 3 = .vec g 1 (bl l) ∧ u < room (9 - j) ∧ l.length + j = 9 ∧ l ++ vput j u = Vp.put u0

theorem c30 (u : Nat) (hu : u < 18446744073709551616) : Fn1 Try.prog 30 [.int .u64 u] (.str (Vp.put u)) := by
  refine fn1_of_awp (rc := r30) (rs := o30) Try.func30 rfl rfl Try.ntmps30 k30 q30 (by simp) ?_
  simp only [g30_0, g30_1, g30_2, g30_3, g30_4, g30_5, r30, o30, e_seq, e_reg, e_draw, e_nil, e_kc_n, e_kc_x, e_kc_r, e_block, e_scope, e_skip, e_lab, e_ret, e_exit, e_kb_n, e_kb_x, e_kb_r, e_kg_n, e_kg_x, e_kg_r, e_kl_n, e_kl_x, e_kl_r, e_cond, e_bget, e_isB, e_c, e_t, e_f, e_val, e_vget, e_isV, e_upd, e_g, e_gsel_t, e_gsel_f, e_gsel_tf, e_gsel_ft, e_gsel_n, e_gsel_tf0, e_gsel_ft0, e_gsel_n0, e_csel_t, e_csel_f, e_ends_r, e_ends_n, e_nbeq, Nat.reduceBEq, vop, abin, aint, aun, cond_true, cond_false, true_and, and_true, List.getElem?_cons_zero, List.getElem?_cons_succ, List.getElem?_nil, Option.getD_some, Option.getD_none, St.enter, argF, AV.shL, AV.sh, resV, RR.ev, RR.evL, leave, AV.still, AV.stillL, AV.un, AV.unL, Option.bind_some, Option.map_some, Int.reduceLE, Int.reduceLT, Int.reduceToNat, Int.reduceEq, ↓reduceIte, if_true, if_false, reduceCtorEq, Bool.false_eq_true, IntKind.bits, Nat.reducePow, List.length_nil, List.length_cons, Bool.true_and, Bool.and_true, forall_const, not_true_eq_false, not_false_eq_true]
  refine awp_vec rfl rfl ?_
  simp only [e_seq, e_reg, e_draw, e_nil, e_kc_n, e_kc_x, e_kc_r, e_block, e_scope, e_skip, e_lab, e_ret, e_exit, e_kb_n, e_kb_x, e_kb_r, e_kg_n, e_kg_x, e_kg_r, e_kl_n, e_kl_x, e_kl_r, e_cond, e_bget, e_isB, e_c, e_t, e_f, e_val, e_vget, e_isV, e_upd, e_g, e_gsel_t, e_gsel_f, e_gsel_tf, e_gsel_ft, e_gsel_n, e_gsel_tf0, e_gsel_ft0, e_gsel_n0, e_csel_t, e_csel_f, e_ends_r, e_ends_n, e_nbeq, Nat.reduceBEq, vop, abin, aint, aun, cond_true, cond_false, true_and, and_true, List.getElem?_cons_zero, List.getElem?_cons_succ, List.getElem?_nil, Option.getD_some, Option.getD_none, St.enter, argF, AV.shL, AV.sh, resV, RR.ev, RR.evL, leave, AV.still, AV.stillL, AV.un, AV.unL, Option.bind_some, Option.map_some, Int.reduceLE, Int.reduceLT, Int.reduceToNat, Int.reduceEq, ↓reduceIte, if_true, if_false, reduceCtorEq, Bool.false_eq_true, IntKind.bits, Nat.reducePow, List.length_nil, List.length_cons, Bool.true_and, Bool.and_true, forall_const, not_true_eq_false, not_false_eq_true]
  refine awp_loop (PutI u) u ⟨_, _, u, 1, 9, [], rfl, rfl, rfl, rfl, rfl, hu, rfl, rfl⟩ ?_
  rintro n st ⟨f, fr, v, g, j, l, rfl, rfl, h0, h3, hv, hlt, hj, hl⟩
  simp only [l30_0, g30_0, g30_1, g30_2, g30_3, g30_4, g30_5, r30, o30, h0, h3, e_seq, e_reg, e_draw, e_nil, e_kc_n, e_kc_x, e_kc_r, e_block, e_scope, e_skip, e_lab, e_ret, e_exit, e_kb_n, e_kb_x, e_kb_r, e_kg_n, e_kg_x, e_kg_r, e_kl_n, e_kl_x, e_kl_r, e_cond, e_bget, e_isB, e_c, e_t, e_f, e_val, e_vget, e_isV, e_upd, e_g, e_gsel_t, e_gsel_f, e_gsel_tf, e_gsel_ft, e_gsel_n, e_gsel_tf0, e_gsel_ft0, e_gsel_n0, e_csel_t, e_csel_f, e_ends_r, e_ends_n, e_nbeq, Nat.reduceBEq, vop, abin, aint, aun, cond_true, cond_false, true_and, and_true, List.getElem?_cons_zero, List.getElem?_cons_succ, List.getElem?_nil, Option.getD_some, Option.getD_none, St.enter, argF, AV.shL, AV.sh, resV, RR.ev, RR.evL, leave, AV.still, AV.stillL, AV.un, AV.unL, Option.bind_some, Option.map_some, Int.reduceLE, Int.reduceLT, Int.reduceToNat, Int.reduceEq, ↓reduceIte, if_true, if_false, reduceCtorEq, Bool.false_eq_true, IntKind.bits, Nat.reducePow, List.length_nil, List.length_cons, Bool.true_and, Bool.and_true, forall_const, not_true_eq_false, not_false_eq_true]
  refine csel_of (fun h => ?_) (fun h => ?_)
  · have h : 128 ≤ n := by have h : (128 : Int) ≤ n := by simpa using h
                           omega
    obtain ⟨j, rfl⟩ : ∃ i, j = i + 1 := ⟨j - 1, by
      rcases Nat.eq_zero_or_pos j with rfl | hp
      · simp [room] at hlt; omega
      · omega⟩
    simp only [h0, h3, e_seq, e_reg, e_draw, e_nil, e_kc_n, e_kc_x, e_kc_r, e_block, e_scope, e_skip, e_lab, e_ret, e_exit, e_kb_n, e_kb_x, e_kb_r, e_kg_n, e_kg_x, e_kg_r, e_kl_n, e_kl_x, e_kl_r, e_cond, e_bget, e_isB, e_c, e_t, e_f, e_val, e_vget, e_isV, e_upd, e_g, e_gsel_t, e_gsel_f, e_gsel_tf, e_gsel_ft, e_gsel_n, e_gsel_tf0, e_gsel_ft0, e_gsel_n0, e_csel_t, e_csel_f, e_ends_r, e_ends_n, e_nbeq, Nat.reduceBEq, vop, abin, aint, aun, cond_true, cond_false, true_and, and_true, List.getElem?_cons_zero, List.getElem?_cons_succ, List.getElem?_nil, Option.getD_some, Option.getD_none, St.enter, argF, AV.shL, AV.sh, resV, RR.ev, RR.evL, leave, AV.still, AV.stillL, AV.un, AV.unL, Option.bind_some, Option.map_some, Int.reduceLE, Int.reduceLT, Int.reduceToNat, Int.reduceEq, ↓reduceIte, if_true, if_false, reduceCtorEq, Bool.false_eq_true, IntKind.bits, Nat.reducePow, List.length_nil, List.length_cons, Bool.true_and, Bool.and_true, forall_const, not_true_eq_false, not_false_eq_true]
    refine aops_bsl1 rfl ?_
    refine aops_app rfl hv rfl (bl_length l).symm rfl rfl (by simp [maxLen]; omega) (by simp; omega) ?_
    simp only [h0, fdiv7, or128, e_seq, e_reg, e_draw, e_nil, e_kc_n, e_kc_x, e_kc_r, e_block, e_scope, e_skip, e_lab, e_ret, e_exit, e_kb_n, e_kb_x, e_kb_r, e_kg_n, e_kg_x, e_kg_r, e_kl_n, e_kl_x, e_kl_r, e_cond, e_bget, e_isB, e_c, e_t, e_f, e_val, e_vget, e_isV, e_upd, e_g, e_gsel_t, e_gsel_f, e_gsel_tf, e_gsel_ft, e_gsel_n, e_gsel_tf0, e_gsel_ft0, e_gsel_n0, e_csel_t, e_csel_f, e_ends_r, e_ends_n, e_nbeq, Nat.reduceBEq, vop, abin, aint, aun, cond_true, cond_false, true_and, and_true, List.getElem?_cons_zero, List.getElem?_cons_succ, List.getElem?_nil, Option.getD_some, Option.getD_none, St.enter, argF, AV.shL, AV.sh, resV, RR.ev, RR.evL, leave, AV.still, AV.stillL, AV.un, AV.unL, Option.bind_some, Option.map_some, Int.reduceLE, Int.reduceLT, Int.reduceToNat, Int.reduceEq, ↓reduceIte, if_true, if_false, reduceCtorEq, Bool.false_eq_true, IntKind.bits, Nat.reducePow, List.length_nil, List.length_cons, Bool.true_and, Bool.and_true, forall_const, not_true_eq_false, not_false_eq_true]
    refine ⟨n / 128, by omega, _, _, n / 128, g + 1, j, l ++ [UInt8.ofNat (n % 128 + 128)], rfl, rfl, rfl, ?_, ?_, ?_, ?_, ?_⟩
    · simp only [List.length_append, List.length_cons, List.length_nil, e_seq, e_reg, e_draw, e_nil, e_kc_n, e_kc_x, e_kc_r, e_block, e_scope, e_skip, e_lab, e_ret, e_exit, e_kb_n, e_kb_x, e_kb_r, e_kg_n, e_kg_x, e_kg_r, e_kl_n, e_kl_x, e_kl_r, e_cond, e_bget, e_isB, e_c, e_t, e_f, e_val, e_vget, e_isV, e_upd, e_g, e_gsel_t, e_gsel_f, e_gsel_tf, e_gsel_ft, e_gsel_n, e_gsel_tf0, e_gsel_ft0, e_gsel_n0, e_csel_t, e_csel_f, e_ends_r, e_ends_n, e_nbeq, Nat.reduceBEq, vop, abin, aint, aun, cond_true, cond_false, true_and, and_true, List.getElem?_cons_zero, List.getElem?_cons_succ, List.getElem?_nil, Option.getD_some, Option.getD_none, St.enter, argF, AV.shL, AV.sh, resV, RR.ev, RR.evL, leave, AV.still, AV.stillL, AV.un, AV.unL, Option.bind_some, Option.map_some, Int.reduceLE, Int.reduceLT, Int.reduceToNat, Int.reduceEq, ↓reduceIte, if_true, if_false, reduceCtorEq, Bool.false_eq_true, IntKind.bits, Nat.reducePow, List.length_nil, List.length_cons, Bool.true_and, Bool.and_true, forall_const, not_true_eq_false, not_false_eq_true]
    · simp only [upd_same, bl_append]; rfl
    · have := room_succ (9 - (j + 1)) n (by omega) hlt
      rwa [show 9 - (j + 1) + 1 = 9 - j by omega] at this
    · simp; omega
    · rw [← hl, vput_big j n (by omega)]; simp
  · have h : n < 128 := by have h : (n : Int) < 128 := by simpa using h
                           omega
    simp only [h0, h3, e_seq, e_reg, e_draw, e_nil, e_kc_n, e_kc_x, e_kc_r, e_block, e_scope, e_skip, e_lab, e_ret, e_exit, e_kb_n, e_kb_x, e_kb_r, e_kg_n, e_kg_x, e_kg_r, e_kl_n, e_kl_x, e_kl_r, e_cond, e_bget, e_isB, e_c, e_t, e_f, e_val, e_vget, e_isV, e_upd, e_g, e_gsel_t, e_gsel_f, e_gsel_tf, e_gsel_ft, e_gsel_n, e_gsel_tf0, e_gsel_ft0, e_gsel_n0, e_csel_t, e_csel_f, e_ends_r, e_ends_n, e_nbeq, Nat.reduceBEq, vop, abin, aint, aun, cond_true, cond_false, true_and, and_true, List.getElem?_cons_zero, List.getElem?_cons_succ, List.getElem?_nil, Option.getD_some, Option.getD_none, St.enter, argF, AV.shL, AV.sh, resV, RR.ev, RR.evL, leave, AV.still, AV.stillL, AV.un, AV.unL, Option.bind_some, Option.map_some, Int.reduceLE, Int.reduceLT, Int.reduceToNat, Int.reduceEq, ↓reduceIte, if_true, if_false, reduceCtorEq, Bool.false_eq_true, IntKind.bits, Nat.reducePow, List.length_nil, List.length_cons, Bool.true_and, Bool.and_true, forall_const, not_true_eq_false, not_false_eq_true]
    refine aops_bsl1 rfl ?_
    refine aops_app rfl hv rfl (bl_length l).symm rfl rfl (by simp [maxLen]; omega) (by simp; omega) ?_
    have he := elems_own (m := []) (fr := upd fr 3 (.vec (g + 1) 1 (bl l ++ [.int .u8 ((UInt8.ofNat n).toNat : Int)]))) (site := 3) (g := g + 1) (sz := 1) (n := l.length + (0 + 1)) (q := false) rfl (by simp [bl])
    have hb : bytesOf (bl l ++ [.int .u8 ((UInt8.ofNat n).toNat : Int)]) = some (l ++ [UInt8.ofNat n]) := by
      have := bytesOf_bl (l ++ [UInt8.ofNat n])
      rwa [bl_append] at this
    simp only [h0, low8 n h, he, hb, e_seq, e_reg, e_draw, e_nil, e_kc_n, e_kc_x, e_kc_r, e_block, e_scope, e_skip, e_lab, e_ret, e_exit, e_kb_n, e_kb_x, e_kb_r, e_kg_n, e_kg_x, e_kg_r, e_kl_n, e_kl_x, e_kl_r, e_cond, e_bget, e_isB, e_c, e_t, e_f, e_val, e_vget, e_isV, e_upd, e_g, e_gsel_t, e_gsel_f, e_gsel_tf, e_gsel_ft, e_gsel_n, e_gsel_tf0, e_gsel_ft0, e_gsel_n0, e_csel_t, e_csel_f, e_ends_r, e_ends_n, e_nbeq, Nat.reduceBEq, vop, abin, aint, aun, cond_true, cond_false, true_and, and_true, List.getElem?_cons_zero, List.getElem?_cons_succ, List.getElem?_nil, Option.getD_some, Option.getD_none, St.enter, argF, AV.shL, AV.sh, resV, RR.ev, RR.evL, leave, AV.still, AV.stillL, AV.un, AV.unL, Option.bind_some, Option.map_some, Int.reduceLE, Int.reduceLT, Int.reduceToNat, Int.reduceEq, ↓reduceIte, if_true, if_false, reduceCtorEq, Bool.false_eq_true, IntKind.bits, Nat.reducePow, List.length_nil, List.length_cons, Bool.true_and, Bool.and_true, forall_const, not_true_eq_false, not_false_eq_true]
    rw [← hl, vput_small j n h]

theorem tmod128 (n : Nat) : (n : Int).tmod 128 = ((n % 128 : Nat) : Int) := by
  rw [Int.tmod_eq_emod_of_nonneg (by omega)]; omega
theorem tdiv128 (n : Nat) (h : n < 18446744073709551616) : IntKind.u64.wrap ((n : Int).tdiv 128) = ((n / 128 : Nat) : Int) := by
  rw [Int.tdiv_eq_ediv_of_nonneg (by omega), wu64]; omega
theorem ref128 (n : Nat) : IntKind.u8.wrap (IntKind.u64.wrap (((n % 128 : Nat) : Int) + 128)) = ((UInt8.ofNat (n % 128 + 128)).toNat : Int) := by
  rw [wu64, wu8, toNat_ofNat _ (by omega)]; omega
theorem room_le (i n : Nat) (h : n < room i) : n < 18446744073709551616 := by
  refine Nat.lt_of_lt_of_le h ?_
  unfold room
  exact Nat.pow_le_pow_right (by omega) (by omega : 64 - 7 * i ≤ 64)

theorem c31 (u : Nat) (hu : u < 18446744073709551616) : Fn1 Try.prog 31 [.int .u64 u] (.str (Vp.put u)) := by
  refine fn1_of_awp (rc := r31) (rs := o31) Try.func31 rfl rfl Try.ntmps31 k31 q31 (by simp) ?_
  simp only [g31_0, g31_1, g31_2, g31_3, g31_4, g31_5, r31, o31, e_seq, e_reg, e_draw, e_nil, e_kc_n, e_kc_x, e_kc_r, e_block, e_scope, e_skip, e_lab, e_ret, e_exit, e_kb_n, e_kb_x, e_kb_r, e_kg_n, e_kg_x, e_kg_r, e_kl_n, e_kl_x, e_kl_r, e_cond, e_bget, e_isB, e_c, e_t, e_f, e_val, e_vget, e_isV, e_upd, e_g, e_gsel_t, e_gsel_f, e_gsel_tf, e_gsel_ft, e_gsel_n, e_gsel_tf0, e_gsel_ft0, e_gsel_n0, e_csel_t, e_csel_f, e_ends_r, e_ends_n, e_nbeq, Nat.reduceBEq, vop, abin, aint, aun, cond_true, cond_false, true_and, and_true, List.getElem?_cons_zero, List.getElem?_cons_succ, List.getElem?_nil, Option.getD_some, Option.getD_none, St.enter, argF, AV.shL, AV.sh, resV, RR.ev, RR.evL, leave, AV.still, AV.stillL, AV.un, AV.unL, Option.bind_some, Option.map_some, Int.reduceLE, Int.reduceLT, Int.reduceToNat, Int.reduceEq, ↓reduceIte, if_true, if_false, reduceCtorEq, Bool.false_eq_true, IntKind.bits, Nat.reducePow, List.length_nil, List.length_cons, Bool.true_and, Bool.and_true, forall_const, not_true_eq_false, not_false_eq_true]
  refine awp_vec rfl rfl ?_
  simp only [e_seq, e_reg, e_draw, e_nil, e_kc_n, e_kc_x, e_kc_r, e_block, e_scope, e_skip, e_lab, e_ret, e_exit, e_kb_n, e_kb_x, e_kb_r, e_kg_n, e_kg_x, e_kg_r, e_kl_n, e_kl_x, e_kl_r, e_cond, e_bget, e_isB, e_c, e_t, e_f, e_val, e_vget, e_isV, e_upd, e_g, e_gsel_t, e_gsel_f, e_gsel_tf, e_gsel_ft, e_gsel_n, e_gsel_tf0, e_gsel_ft0, e_gsel_n0, e_csel_t, e_csel_f, e_ends_r, e_ends_n, e_nbeq, Nat.reduceBEq, vop, abin, aint, aun, cond_true, cond_false, true_and, and_true, List.getElem?_cons_zero, List.getElem?_cons_succ, List.getElem?_nil, Option.getD_some, Option.getD_none, St.enter, argF, AV.shL, AV.sh, resV, RR.ev, RR.evL, leave, AV.still, AV.stillL, AV.un, AV.unL, Option.bind_some, Option.map_some, Int.reduceLE, Int.reduceLT, Int.reduceToNat, Int.reduceEq, ↓reduceIte, if_true, if_false, reduceCtorEq, Bool.false_eq_true, IntKind.bits, Nat.reducePow, List.length_nil, List.length_cons, Bool.true_and, Bool.and_true, forall_const, not_true_eq_false, not_false_eq_true]
  refine awp_loop (PutI u) u ⟨_, _, u, 1, 9, [], rfl, rfl, rfl, rfl, rfl, hu, rfl, rfl⟩ ?_
  rintro n st ⟨f, fr, v, g, j, l, rfl, rfl, h0, h3, hv, hlt, hj, hl⟩
  simp only [l31_0, g31_0, g31_1, g31_2, g31_3, g31_4, g31_5, r31, o31, h0, h3, e_seq, e_reg, e_draw, e_nil, e_kc_n, e_kc_x, e_kc_r, e_block, e_scope, e_skip, e_lab, e_ret, e_exit, e_kb_n, e_kb_x, e_kb_r, e_kg_n, e_kg_x, e_kg_r, e_kl_n, e_kl_x, e_kl_r, e_cond, e_bget, e_isB, e_c, e_t, e_f, e_val, e_vget, e_isV, e_upd, e_g, e_gsel_t, e_gsel_f, e_gsel_tf, e_gsel_ft, e_gsel_n, e_gsel_tf0, e_gsel_ft0, e_gsel_n0, e_csel_t, e_csel_f, e_ends_r, e_ends_n, e_nbeq, Nat.reduceBEq, vop, abin, aint, aun, cond_true, cond_false, true_and, and_true, List.getElem?_cons_zero, List.getElem?_cons_succ, List.getElem?_nil, Option.getD_some, Option.getD_none, St.enter, argF, AV.shL, AV.sh, resV, RR.ev, RR.evL, leave, AV.still, AV.stillL, AV.un, AV.unL, Option.bind_some, Option.map_some, Int.reduceLE, Int.reduceLT, Int.reduceToNat, Int.reduceEq, ↓reduceIte, if_true, if_false, reduceCtorEq, Bool.false_eq_true, IntKind.bits, Nat.reducePow, List.length_nil, List.length_cons, Bool.true_and, Bool.and_true, forall_const, not_true_eq_false, not_false_eq_true]
  refine csel_of (fun h => ?_) (fun h => ?_)
  · have h : 128 ≤ n := by have h : (128 : Int) ≤ n := by simpa using h
                           omega
    obtain ⟨j, rfl⟩ : ∃ i, j = i + 1 := ⟨j - 1, by
      rcases Nat.eq_zero_or_pos j with rfl | hp
      · simp [room] at hlt; omega
      · omega⟩
    simp only [h0, h3, tmod128, tdiv128 n (room_le _ _ hlt), ref128, Int.reduceEq, e_seq, e_reg, e_draw, e_nil, e_kc_n, e_kc_x, e_kc_r, e_block, e_scope, e_skip, e_lab, e_ret, e_exit, e_kb_n, e_kb_x, e_kb_r, e_kg_n, e_kg_x, e_kg_r, e_kl_n, e_kl_x, e_kl_r, e_cond, e_bget, e_isB, e_c, e_t, e_f, e_val, e_vget, e_isV, e_upd, e_g, e_gsel_t, e_gsel_f, e_gsel_tf, e_gsel_ft, e_gsel_n, e_gsel_tf0, e_gsel_ft0, e_gsel_n0, e_csel_t, e_csel_f, e_ends_r, e_ends_n, e_nbeq, Nat.reduceBEq, vop, abin, aint, aun, cond_true, cond_false, true_and, and_true, List.getElem?_cons_zero, List.getElem?_cons_succ, List.getElem?_nil, Option.getD_some, Option.getD_none, St.enter, argF, AV.shL, AV.sh, resV, RR.ev, RR.evL, leave, AV.still, AV.stillL, AV.un, AV.unL, Option.bind_some, Option.map_some, Int.reduceLE, Int.reduceLT, Int.reduceToNat, Int.reduceEq, ↓reduceIte, if_true, if_false, reduceCtorEq, Bool.false_eq_true, IntKind.bits, Nat.reducePow, List.length_nil, List.length_cons, Bool.true_and, Bool.and_true, forall_const, not_true_eq_false, not_false_eq_true]
    refine aops_bsl1 rfl ?_
    refine aops_app rfl hv rfl (bl_length l).symm rfl rfl (by simp [maxLen]; omega) (by simp; omega) ?_
    simp only [h0, tmod128, tdiv128 n (room_le _ _ hlt), ref128, e_seq, e_reg, e_draw, e_nil, e_kc_n, e_kc_x, e_kc_r, e_block, e_scope, e_skip, e_lab, e_ret, e_exit, e_kb_n, e_kb_x, e_kb_r, e_kg_n, e_kg_x, e_kg_r, e_kl_n, e_kl_x, e_kl_r, e_cond, e_bget, e_isB, e_c, e_t, e_f, e_val, e_vget, e_isV, e_upd, e_g, e_gsel_t, e_gsel_f, e_gsel_tf, e_gsel_ft, e_gsel_n, e_gsel_tf0, e_gsel_ft0, e_gsel_n0, e_csel_t, e_csel_f, e_ends_r, e_ends_n, e_nbeq, Nat.reduceBEq, vop, abin, aint, aun, cond_true, cond_false, true_and, and_true, List.getElem?_cons_zero, List.getElem?_cons_succ, List.getElem?_nil, Option.getD_some, Option.getD_none, St.enter, argF, AV.shL, AV.sh, resV, RR.ev, RR.evL, leave, AV.still, AV.stillL, AV.un, AV.unL, Option.bind_some, Option.map_some, Int.reduceLE, Int.reduceLT, Int.reduceToNat, Int.reduceEq, ↓reduceIte, if_true, if_false, reduceCtorEq, Bool.false_eq_true, IntKind.bits, Nat.reducePow, List.length_nil, List.length_cons, Bool.true_and, Bool.and_true, forall_const, not_true_eq_false, not_false_eq_true]
    refine ⟨n / 128, by omega, _, _, n / 128, g + 1, j, l ++ [UInt8.ofNat (n % 128 + 128)], rfl, rfl, rfl, ?_, ?_, ?_, ?_, ?_⟩
    · simp only [List.length_append, List.length_cons, List.length_nil, e_seq, e_reg, e_draw, e_nil, e_kc_n, e_kc_x, e_kc_r, e_block, e_scope, e_skip, e_lab, e_ret, e_exit, e_kb_n, e_kb_x, e_kb_r, e_kg_n, e_kg_x, e_kg_r, e_kl_n, e_kl_x, e_kl_r, e_cond, e_bget, e_isB, e_c, e_t, e_f, e_val, e_vget, e_isV, e_upd, e_g, e_gsel_t, e_gsel_f, e_gsel_tf, e_gsel_ft, e_gsel_n, e_gsel_tf0, e_gsel_ft0, e_gsel_n0, e_csel_t, e_csel_f, e_ends_r, e_ends_n, e_nbeq, Nat.reduceBEq, vop, abin, aint, aun, cond_true, cond_false, true_and, and_true, List.getElem?_cons_zero, List.getElem?_cons_succ, List.getElem?_nil, Option.getD_some, Option.getD_none, St.enter, argF, AV.shL, AV.sh, resV, RR.ev, RR.evL, leave, AV.still, AV.stillL, AV.un, AV.unL, Option.bind_some, Option.map_some, Int.reduceLE, Int.reduceLT, Int.reduceToNat, Int.reduceEq, ↓reduceIte, if_true, if_false, reduceCtorEq, Bool.false_eq_true, IntKind.bits, Nat.reducePow, List.length_nil, List.length_cons, Bool.true_and, Bool.and_true, forall_const, not_true_eq_false, not_false_eq_true]
    · simp only [upd_same, bl_append]; rfl
    · have := room_succ (9 - (j + 1)) n (by omega) hlt
      rwa [show 9 - (j + 1) + 1 = 9 - j by omega] at this
    · simp; omega
    · rw [← hl, vput_big j n (by omega)]; simp
  · have h : n < 128 := by have h : (n : Int) < 128 := by simpa using h
                           omega
    simp only [h0, h3, e_seq, e_reg, e_draw, e_nil, e_kc_n, e_kc_x, e_kc_r, e_block, e_scope, e_skip, e_lab, e_ret, e_exit, e_kb_n, e_kb_x, e_kb_r, e_kg_n, e_kg_x, e_kg_r, e_kl_n, e_kl_x, e_kl_r, e_cond, e_bget, e_isB, e_c, e_t, e_f, e_val, e_vget, e_isV, e_upd, e_g, e_gsel_t, e_gsel_f, e_gsel_tf, e_gsel_ft, e_gsel_n, e_gsel_tf0, e_gsel_ft0, e_gsel_n0, e_csel_t, e_csel_f, e_ends_r, e_ends_n, e_nbeq, Nat.reduceBEq, vop, abin, aint, aun, cond_true, cond_false, true_and, and_true, List.getElem?_cons_zero, List.getElem?_cons_succ, List.getElem?_nil, Option.getD_some, Option.getD_none, St.enter, argF, AV.shL, AV.sh, resV, RR.ev, RR.evL, leave, AV.still, AV.stillL, AV.un, AV.unL, Option.bind_some, Option.map_some, Int.reduceLE, Int.reduceLT, Int.reduceToNat, Int.reduceEq, ↓reduceIte, if_true, if_false, reduceCtorEq, Bool.false_eq_true, IntKind.bits, Nat.reducePow, List.length_nil, List.length_cons, Bool.true_and, Bool.and_true, forall_const, not_true_eq_false, not_false_eq_true]
    refine aops_bsl1 rfl ?_
    refine aops_app rfl hv rfl (bl_length l).symm rfl rfl (by simp [maxLen]; omega) (by simp; omega) ?_
    have he := elems_own (m := []) (fr := upd fr 3 (.vec (g + 1) 1 (bl l ++ [.int .u8 ((UInt8.ofNat n).toNat : Int)]))) (site := 3) (g := g + 1) (sz := 1) (n := l.length + (0 + 1)) (q := false) rfl (by simp [bl])
    have hb : bytesOf (bl l ++ [.int .u8 ((UInt8.ofNat n).toNat : Int)]) = some (l ++ [UInt8.ofNat n]) := by
      have := bytesOf_bl (l ++ [UInt8.ofNat n])
      rwa [bl_append] at this
    simp only [h0, low8 n h, he, hb, e_seq, e_reg, e_draw, e_nil, e_kc_n, e_kc_x, e_kc_r, e_block, e_scope, e_skip, e_lab, e_ret, e_exit, e_kb_n, e_kb_x, e_kb_r, e_kg_n, e_kg_x, e_kg_r, e_kl_n, e_kl_x, e_kl_r, e_cond, e_bget, e_isB, e_c, e_t, e_f, e_val, e_vget, e_isV, e_upd, e_g, e_gsel_t, e_gsel_f, e_gsel_tf, e_gsel_ft, e_gsel_n, e_gsel_tf0, e_gsel_ft0, e_gsel_n0, e_csel_t, e_csel_f, e_ends_r, e_ends_n, e_nbeq, Nat.reduceBEq, vop, abin, aint, aun, cond_true, cond_false, true_and, and_true, List.getElem?_cons_zero, List.getElem?_cons_succ, List.getElem?_nil, Option.getD_some, Option.getD_none, St.enter, argF, AV.shL, AV.sh, resV, RR.ev, RR.evL, leave, AV.still, AV.stillL, AV.un, AV.unL, Option.bind_some, Option.map_some, Int.reduceLE, Int.reduceLT, Int.reduceToNat, Int.reduceEq, ↓reduceIte, if_true, if_false, reduceCtorEq, Bool.false_eq_true, IntKind.bits, Nat.reducePow, List.length_nil, List.length_cons, Bool.true_and, Bool.and_true, forall_const, not_true_eq_false, not_false_eq_true]
    rw [← hl, vput_small j n h]

def LenI (u0 : Nat) (k : Nat) (st : St) : Prop :=
  ∃ f u j c, st = ⟨f, [noObs], []⟩ ∧ k = u ∧ f 0 = .int .u64 (u : Nat) ∧ f 3 = .int .i64 (c : Nat) ∧ u < room (9 - j) ∧ 1 ≤ c ∧ c + j = 10 ∧ c + (vput j u).length = (Vp.put u0).length + 1

end Go.Proofs.Ytcmdlmcmefbkeaa.Va

/- Parts of the proof, in order. -/
import Derived.Test.YtkjjfbknppahhaaGreatDoorProg
import Derived.WalkKit
import Derived.Lib.SmallJoins
import Derived.Deep.Slices
import Derived.DataShut
import Derived.Test.YtkjjfbknppahhaaGreatDoorMPlanFinds1

/- The lists of equations of a walk, each as one. -/
namespace Go.Proofs.YtkjjfbknppahhaaGreatDoor.Am
open Go

set_option linter.defProp false in
def eES := (And.intro (And.intro (And.intro (And.intro (And.intro (And.intro (And.intro (And.intro @Am.e_seq @Am.e_reg) (And.intro @Am.e_draw @Am.e_nil)) (And.intro (And.intro @Am.e_kc_n @Am.e_kc_x) (And.intro @Am.e_kc_r @Am.e_block))) (And.intro (And.intro (And.intro @Am.e_scope @Am.e_skip) (And.intro @Am.e_lab @Am.e_ret)) (And.intro (And.intro @Am.e_exit @Am.e_kb_n) (And.intro @Am.e_kb_x (And.intro @Am.e_kb_r @Am.e_kg_n))))) (And.intro (And.intro (And.intro (And.intro @Am.e_kg_x @Am.e_kg_r) (And.intro @Am.e_kl_n @Am.e_kl_x)) (And.intro (And.intro @Am.e_kl_r @Am.e_cond) (And.intro @Am.e_bget (And.intro @Am.e_isB @Am.e_c)))) (And.intro (And.intro (And.intro @Am.e_t @Am.e_f) (And.intro @Am.e_val @Am.e_vget)) (And.intro (And.intro @Am.e_isV @Am.e_upd) (And.intro @Am.e_g (And.intro @Am.e_gsel_t @Am.e_gsel_f)))))) (And.intro (And.intro (And.intro (And.intro (And.intro @Am.e_gsel_tf @Am.e_gsel_ft) (And.intro @Am.e_gsel_n @Am.e_gsel_tf0)) (And.intro (And.intro @Am.e_gsel_ft0 @Am.e_gsel_n0) (And.intro @Am.e_csel_t (And.intro @Am.e_csel_f @Am.e_ends_r)))) (And.intro (And.intro (And.intro @Am.e_ends_n @Am.e_nbeq) (And.intro @Am.vop.eq_1 @Am.vop.eq_2)) (And.intro (And.intro @Am.vop.eq_3 @Am.vop.eq_4) (And.intro @Am.vop.eq_5 (And.intro @Am.vop.eq_6 @Am.vop.eq_7))))) (And.intro (And.intro (And.intro (And.intro @Am.vop.eq_8 @Am.vop.eq_9) (And.intro @Am.vop.eq_10 @Am.vop.eq_11)) (And.intro (And.intro @Am.vop.eq_12 @Am.vop.eq_13) (And.intro @Am.vop.eq_14 (And.intro @Am.vop.eq_15 @Am.vop.eq_16)))) (And.intro (And.intro (And.intro @Am.vop.eq_17 @Am.vop.eq_18) (And.intro @Am.vop.eq_19 @Am.vop.eq_20)) (And.intro (And.intro @Am.vop.eq_21 @Am.vop.eq_22) (And.intro @Am.vop.eq_23 (And.intro @Am.vop.eq_24 @Am.vop.eq_25))))))) (And.intro (And.intro (And.intro (And.intro (And.intro (And.intro @Am.vop.eq_26 @Am.vop.eq_27) (And.intro @Am.vop.eq_28 @Am.vop.eq_29)) (And.intro (And.intro @Am.vop.eq_30 @Am.vop.eq_31) (And.intro @Am.abin.eq_1 @Am.abin.eq_2))) (And.intro (And.intro (And.intro @Am.abin.eq_3 @Am.abin.eq_4) (And.intro @Am.abin.eq_5 @Am.abin.eq_6)) (And.intro (And.intro @Am.abin.eq_7 @Am.abin.eq_8) (And.intro @Am.abin.eq_9 (And.intro @Am.abin.eq_10 @Am.abin.eq_11))))) (And.intro (And.intro (And.intro (And.intro @Am.abin.eq_12 @Am.abin.eq_13) (And.intro @Am.abin.eq_14 @Am.abin.eq_15)) (And.intro (And.intro @Am.abin.eq_16 @Am.abin.eq_17) (And.intro @Am.aint.eq_1 (And.intro @Am.aint.eq_2 @Am.aint.eq_3)))) (And.intro (And.intro (And.intro @Am.aint.eq_4 @Am.aint.eq_5) (And.intro @Am.aint.eq_6 @Am.aint.eq_7)) (And.intro (And.intro @Am.aint.eq_8 @Am.aint.eq_9) (And.intro @Am.aint.eq_10 (And.intro @Am.aint.eq_11 @Am.aint.eq_12)))))) (And.intro (And.intro (And.intro (And.intro (And.intro @Am.aint.eq_13 @Am.aint.eq_14) (And.intro @Am.aint.eq_15 @Am.aint.eq_16)) (And.intro (And.intro @Am.aun.eq_1 @Am.aun.eq_2) (And.intro @Am.aun.eq_3 (And.intro @Am.aun.eq_4 @cond_true.{0})))) (And.intro (And.intro (And.intro @cond_true.{1} @cond_false.{0}) (And.intro @cond_false.{1} @true_and)) (And.intro (And.intro @and_true @List.getElem?_cons_zero.{0}) (And.intro @List.getElem?_cons_succ.{0} (And.intro @List.getElem?_nil.{0} @Option.getD_some.{0}))))) (And.intro (And.intro (And.intro (And.intro @Option.getD_none.{0} @Am.St.enter.eq_1) (And.intro @Am.argF.eq_1 @Am.AV.shL.eq_1)) (And.intro (And.intro @Am.AV.shL.eq_2 @Am.AV.sh.eq_1) (And.intro @Am.AV.sh.eq_2 (And.intro @Am.AV.sh.eq_3 @Am.AV.sh.eq_4)))) (And.intro (And.intro (And.intro @Am.AV.sh.eq_5 @Am.AV.sh.eq_6) (And.intro @Am.AV.sh.eq_7 @Am.AV.sh.eq_8)) (And.intro (And.intro @Am.AV.sh.eq_9 @Am.resV.eq_1) (And.intro @Am.resV.eq_2 (And.intro @Am.RR.ev.eq_1 @Am.RR.ev.eq_2)))))))) (And.intro (And.intro (And.intro (And.intro (And.intro (And.intro (And.intro @Am.RR.evL.eq_1 @Am.RR.evL.eq_2) (And.intro @Am.leave.eq_1 @Am.AV.still.eq_1)) (And.intro (And.intro @Am.AV.still.eq_2 @Am.AV.still.eq_3) (And.intro @Am.AV.still.eq_4 @Am.AV.still.eq_5))) (And.intro (And.intro (And.intro @Am.AV.still.eq_6 @Am.AV.still.eq_7) (And.intro @Am.AV.still.eq_8 @Am.AV.stillL.eq_1)) (And.intro (And.intro @Am.AV.stillL.eq_2 @Am.AV.un.eq_1) (And.intro @Am.AV.un.eq_2 (And.intro @Am.AV.un.eq_3 @Am.AV.un.eq_4))))) (And.intro (And.intro (And.intro (And.intro @Am.AV.un.eq_5 @Am.AV.un.eq_6) (And.intro @Am.AV.un.eq_7 @Am.AV.un.eq_8)) (And.intro (And.intro @Am.AV.un.eq_9 @Am.AV.un.eq_10) (And.intro @Am.AV.un.eq_11 (And.intro @Am.AV.un.eq_12 @Am.AV.un.eq_13)))) (And.intro (And.intro (And.intro @Am.AV.unL.eq_1 @Am.AV.unL.eq_2) (And.intro @Option.bind_some.{0,0} @Option.map_some.{0,0})) (And.intro (And.intro @if_true.{0} @if_true.{1}) (And.intro @if_false.{0} (And.intro @if_false.{1} @Bool.false_eq_true)))))) (And.intro (And.intro (And.intro (And.intro (And.intro @Go.IntKind.bits.eq_1 @Go.IntKind.bits.eq_2) (And.intro @Go.IntKind.bits.eq_3 @Go.IntKind.bits.eq_4)) (And.intro (And.intro @Go.IntKind.bits.eq_5 @Go.IntKind.bits.eq_6) (And.intro @Go.IntKind.bits.eq_7 (And.intro @Go.IntKind.bits.eq_8 @List.length_nil.{0})))) (And.intro (And.intro (And.intro @List.length_cons.{0} @Bool.true_and) (And.intro @Bool.and_true @forall_const.{1})) (And.intro (And.intro @not_true_eq_false @not_false_eq_true) (And.intro @Am.upd_upd (And.intro @Bool.not_true @Bool.not_false))))) (And.intro (And.intro (And.intro (And.intro @Am.gen?.eq_1 @ne_eq.{1}) (And.intro @Nat.one_ne_zero @decide_true)) (And.intro (And.intro @decide_false @Am.e_store) (And.intro @Am.e_storev (And.intro @Am.e_isPv @Am.e_allocN)))) (And.intro (And.intro (And.intro @Am.e_boxN @Am.e_mget) (And.intro @Am.e_isM @Am.noOb.eq_1)) (And.intro (And.intro @Am.AV.unNL.eq_1 @Am.AV.unNL.eq_2) (And.intro @Am.AV.unNL_zero (And.intro @Am.AV.shNL.eq_1 @Am.AV.shNL.eq_2))))))) (And.intro (And.intro (And.intro (And.intro (And.intro (And.intro @Am.AV.shN.eq_1 @Am.AV.shN.eq_2) (And.intro @Am.splice.eq_1 @Am.part.eq_1)) (And.intro (And.intro @Am.part.eq_2 @Am.fill.eq_1) (And.intro @Am.fill.eq_2 @Am.AV.leaf.eq_1))) (And.intro (And.intro (And.intro @Am.AV.leaf.eq_2 @Am.AV.leaf.eq_3) (And.intro @Am.AV.leaf.eq_4 @List.all_cons.{0})) (And.intro (And.intro @List.all_nil.{0} @List.take_succ_cons.{0}) (And.intro @List.take_zero.{0} (And.intro @List.take_nil.{0} @List.drop_succ_cons.{0}))))) (And.intro (And.intro (And.intro (And.intro @List.drop_zero.{0} @List.drop_nil.{0}) (And.intro @List.nil_append.{0} @List.cons_append.{0})) (And.intro (And.intro @List.append_nil.{0} @Am.noObs.eq_1) (And.intro @and_self (And.intro @Am.lenA.eq_1 @Am.lenA.eq_2)))) (And.intro (And.intro (And.intro @Am.lenA.eq_3 @Am.lenA.eq_4) (And.intro @Am.lenA.eq_5 @Am.lenA.eq_6)) (And.intro (And.intro @Am.bnd.eq_1 @Am.bnd.eq_2) (And.intro @Am.aslice.eq_1 (And.intro @Am.aslice.eq_2 @Am.aslice.eq_3)))))) (And.intro (And.intro (And.intro (And.intro (And.intro @Am.aslice.eq_4 @Am.aslice.eq_5) (And.intro @Am.aslice.eq_6 @Am.aslice.eq_7)) (And.intro (And.intro @Am.eqL.eq_1 @Am.eqL.eq_2) (And.intro @Am.eqL.eq_3 (And.intro @Am.eq1.eq_1 @Am.eq1.eq_2)))) (And.intro (And.intro (And.intro @Am.eq1.eq_3 @Am.eq1.eq_4) (And.intro @Am.e_no @Am.e_drop)) (And.intro (And.intro @Am.e_scr_top @Am.e_scr_int) (And.intro @Am.e_scr_bool (And.intro @Am.e_scr_str @Am.e_scr_nils))))) (And.intro (And.intro (And.intro (And.intro @Am.e_scr_nilp @Am.e_scr_nili) (And.intro @Am.e_scr_nilf @Am.e_scr_list)) (And.intro (And.intro @Am.e_scr_vec @Am.e_scr_agg) (And.intro @Am.e_scr_tup (And.intro @Am.e_scr_ptr @Am.e_scr_ptr1)))) (And.intro (And.intro (And.intro @Am.e_scr_nil @Am.e_scr_cons) (And.intro @Am.e_scr_cells @Am.e_scr_row)) (And.intro (And.intro @Am.e_scr_none @Am.e_scr_isRow) (And.intro @Am.e_row_cells (And.intro @Am.e_row_none @List.map_nil.{0,0})))))))))

set_option linter.defProp false in
def eEX := (And.intro (And.intro (And.intro @Am.astore.eq_1 (And.intro @Am.astore.eq_2 @Am.astore.eq_3)) (And.intro (And.intro @Am.aload.eq_1 @Am.aload.eq_2) (And.intro @Am.aload.eq_3 @Am.aload.eq_4))) (And.intro (And.intro (And.intro @Am.look.eq_1 @Am.look.eq_2) (And.intro @Am.look.eq_3 @Am.put.eq_1)) (And.intro (And.intro @Am.put.eq_2 @Am.put.eq_3) (And.intro @Am.AV.cells.eq_1 @Am.AV.cells.eq_2))))

set_option linter.defProp false in
def eEV := (And.intro (And.intro (And.intro (And.intro (And.intro (And.intro (And.intro @Am.e_seq (And.intro @Am.e_reg @Am.e_draw)) (And.intro @Am.e_nil (And.intro @Am.e_kc_n @Am.e_kc_x))) (And.intro (And.intro @Am.e_kc_r (And.intro @Am.e_block @Am.e_scope)) (And.intro @Am.e_skip (And.intro @Am.e_lab @Am.e_ret)))) (And.intro (And.intro (And.intro @Am.e_exit (And.intro @Am.e_kb_n @Am.e_kb_x)) (And.intro @Am.e_kb_r (And.intro @Am.e_kg_n @Am.e_kg_x))) (And.intro (And.intro @Am.e_kg_r (And.intro @Am.e_kl_n @Am.e_kl_x)) (And.intro @Am.e_kl_r (And.intro @Am.e_cond @Am.e_bget))))) (And.intro (And.intro (And.intro (And.intro @Am.e_isB (And.intro @Am.e_c @Am.e_t)) (And.intro @Am.e_f (And.intro @Am.e_val @Am.e_vget))) (And.intro (And.intro @Am.e_isV (And.intro @Am.e_upd @Am.e_g)) (And.intro @Am.e_gsel_t (And.intro @Am.e_gsel_f @Am.e_gsel_tf)))) (And.intro (And.intro (And.intro @Am.e_gsel_ft (And.intro @Am.e_gsel_n @Am.e_gsel_tf0)) (And.intro @Am.e_gsel_ft0 (And.intro @Am.e_gsel_n0 @Am.e_csel_t))) (And.intro (And.intro @Am.e_csel_f (And.intro @Am.e_ends_r @Am.e_ends_n)) (And.intro @Am.e_nbeq (And.intro @Am.vop.eq_1 @Am.vop.eq_2)))))) (And.intro (And.intro (And.intro (And.intro (And.intro @Am.vop.eq_3 (And.intro @Am.vop.eq_4 @Am.vop.eq_5)) (And.intro @Am.vop.eq_6 (And.intro @Am.vop.eq_7 @Am.vop.eq_8))) (And.intro (And.intro @Am.vop.eq_9 (And.intro @Am.vop.eq_10 @Am.vop.eq_11)) (And.intro @Am.vop.eq_12 (And.intro @Am.vop.eq_13 @Am.vop.eq_14)))) (And.intro (And.intro (And.intro @Am.vop.eq_15 (And.intro @Am.vop.eq_16 @Am.vop.eq_17)) (And.intro @Am.vop.eq_18 (And.intro @Am.vop.eq_19 @Am.vop.eq_20))) (And.intro (And.intro @Am.vop.eq_21 (And.intro @Am.vop.eq_22 @Am.vop.eq_23)) (And.intro @Am.vop.eq_24 (And.intro @Am.vop.eq_25 @Am.vop.eq_26))))) (And.intro (And.intro (And.intro (And.intro @Am.vop.eq_27 (And.intro @Am.vop.eq_28 @Am.vop.eq_29)) (And.intro @Am.vop.eq_30 (And.intro @Am.vop.eq_31 @Am.abin.eq_1))) (And.intro (And.intro @Am.abin.eq_2 (And.intro @Am.abin.eq_3 @Am.abin.eq_4)) (And.intro @Am.abin.eq_5 (And.intro @Am.abin.eq_6 @Am.abin.eq_7)))) (And.intro (And.intro (And.intro @Am.abin.eq_8 (And.intro @Am.abin.eq_9 @Am.abin.eq_10)) (And.intro @Am.abin.eq_11 (And.intro @Am.abin.eq_12 @Am.abin.eq_13))) (And.intro (And.intro @Am.abin.eq_14 (And.intro @Am.abin.eq_15 @Am.abin.eq_16)) (And.intro @Am.abin.eq_17 (And.intro @Am.aint.eq_1 @Am.aint.eq_2))))))) (And.intro (And.intro (And.intro (And.intro (And.intro (And.intro @Am.aint.eq_3 (And.intro @Am.aint.eq_4 @Am.aint.eq_5)) (And.intro @Am.aint.eq_6 (And.intro @Am.aint.eq_7 @Am.aint.eq_8))) (And.intro (And.intro @Am.aint.eq_9 (And.intro @Am.aint.eq_10 @Am.aint.eq_11)) (And.intro @Am.aint.eq_12 (And.intro @Am.aint.eq_13 @Am.aint.eq_14)))) (And.intro (And.intro (And.intro @Am.aint.eq_15 (And.intro @Am.aint.eq_16 @Am.aun.eq_1)) (And.intro @Am.aun.eq_2 (And.intro @Am.aun.eq_3 @Am.aun.eq_4))) (And.intro (And.intro @cond_true.{0} (And.intro @cond_true.{1} @cond_false.{0})) (And.intro @cond_false.{1} (And.intro @true_and @and_true))))) (And.intro (And.intro (And.intro (And.intro @List.getElem?_cons_zero.{0} (And.intro @List.getElem?_cons_succ.{0} @List.getElem?_nil.{0})) (And.intro @Option.getD_some.{0} (And.intro @Option.getD_none.{0} @Am.St.enter.eq_1))) (And.intro (And.intro @Am.argF.eq_1 (And.intro @Am.AV.shL.eq_1 @Am.AV.shL.eq_2)) (And.intro @Am.AV.sh.eq_1 (And.intro @Am.AV.sh.eq_2 @Am.AV.sh.eq_3)))) (And.intro (And.intro (And.intro @Am.AV.sh.eq_4 (And.intro @Am.AV.sh.eq_5 @Am.AV.sh.eq_6)) (And.intro @Am.AV.sh.eq_7 (And.intro @Am.AV.sh.eq_8 @Am.AV.sh.eq_9))) (And.intro (And.intro @Am.resV.eq_1 (And.intro @Am.resV.eq_2 @Am.RR.ev.eq_1)) (And.intro @Am.RR.ev.eq_2 (And.intro @Am.RR.evL.eq_1 @Am.RR.evL.eq_2)))))) (And.intro (And.intro (And.intro (And.intro (And.intro @Am.leave.eq_1 (And.intro @Am.AV.still.eq_1 @Am.AV.still.eq_2)) (And.intro @Am.AV.still.eq_3 (And.intro @Am.AV.still.eq_4 @Am.AV.still.eq_5))) (And.intro (And.intro @Am.AV.still.eq_6 (And.intro @Am.AV.still.eq_7 @Am.AV.still.eq_8)) (And.intro @Am.AV.stillL.eq_1 (And.intro @Am.AV.stillL.eq_2 @Am.AV.un.eq_1)))) (And.intro (And.intro (And.intro @Am.AV.un.eq_2 (And.intro @Am.AV.un.eq_3 @Am.AV.un.eq_4)) (And.intro @Am.AV.un.eq_5 (And.intro @Am.AV.un.eq_6 @Am.AV.un.eq_7))) (And.intro (And.intro @Am.AV.un.eq_8 (And.intro @Am.AV.un.eq_9 @Am.AV.un.eq_10)) (And.intro @Am.AV.un.eq_11 (And.intro @Am.AV.un.eq_12 @Am.AV.un.eq_13))))) (And.intro (And.intro (And.intro (And.intro @Am.AV.unL.eq_1 (And.intro @Am.AV.unL.eq_2 @Option.bind_some.{0,0})) (And.intro @Option.map_some.{0,0} (And.intro @if_true.{0} @if_true.{1}))) (And.intro (And.intro @if_false.{0} (And.intro @if_false.{1} @Bool.false_eq_true)) (And.intro @Go.IntKind.bits.eq_1 (And.intro @Go.IntKind.bits.eq_2 @Go.IntKind.bits.eq_3)))) (And.intro (And.intro (And.intro @Go.IntKind.bits.eq_4 (And.intro @Go.IntKind.bits.eq_5 @Go.IntKind.bits.eq_6)) (And.intro @Go.IntKind.bits.eq_7 (And.intro @Go.IntKind.bits.eq_8 @List.length_nil.{0}))) (And.intro (And.intro @List.length_cons.{0} (And.intro @Bool.true_and @Bool.and_true)) (And.intro @forall_const.{1} (And.intro @not_true_eq_false @not_false_eq_true))))))))

end Go.Proofs.YtkjjfbknppahhaaGreatDoor.Am

/- The code of functions of the program, as the abstract machine has it. -/
namespace Go.Proofs.YtkjjfbknppahhaaGreatDoor.Rc
open Go Am

/- wireschema/plan.Wire -/
def g5_0 : List Am.Item := [
    ⟨(some 1), .boxN 1 (.t 0), none⟩,
    ⟨(some 2), .val (.mov (.c (.int .i64 0))), none⟩]
def g5_1 : List Am.Item := [
    ⟨(some 4), .val (.faddr 3 (.t 1)), none⟩,
    ⟨(some 5), .val (.load none (.t 4)), none⟩,
    ⟨(some 6), .val (.bin .num .eql (.t 5) (.c (.int .i64 5))), none⟩,
    ⟨(some 3), .val (.mov (.t 6)), none⟩]
def g5_2 : List Am.Item := [
    ⟨(some 2), .val (.mov (.c (.int .i64 6))), none⟩]
def g5_3 : List Am.Item := [
    ⟨(some 8), .val (.load (some 8) (.t 1)), none⟩,
    ⟨(some 9), .call (.f 7) [(.t 8)], none⟩,
    ⟨(some 7), .val (.mov (.t 9)), none⟩]
def g5_4 : List Am.Item := [
    ⟨(some 2), .val (.mov (.c (.int .i64 5))), none⟩]
def g5_5 : List Am.Item := [
    ⟨(some 10), .val (.faddr 5 (.t 1)), none⟩,
    ⟨(some 11), .val (.load none (.t 10)), none⟩]
def g5_6 : List Am.Item := [
    ⟨(some 13), .val (.bin .num .eql (.t 11) (.c (.int .i64 1))), none⟩,
    ⟨(some 12), .val (.mov (.t 13)), none⟩]
def g5_7 : List Am.Item := [
    ⟨(some 14), .val (.bin .num .eql (.t 11) (.c (.int .i64 4))), none⟩,
    ⟨(some 12), .val (.mov (.t 14)), none⟩]
def g5_8 : List Am.Item := [
    ⟨(some 15), .val (.bin .num .eql (.t 11) (.c (.int .i64 5))), none⟩,
    ⟨(some 12), .val (.mov (.t 15)), none⟩]
def g5_9 : List Am.Item := [
    ⟨(some 16), .val (.bin .num .eql (.t 11) (.c (.int .i64 9))), none⟩,
    ⟨(some 12), .val (.mov (.t 16)), none⟩]
def g5_10 : List Am.Item := [
    ⟨(some 2), .val (.mov (.c (.int .i64 0))), none⟩]
def g5_11 : List Am.Item := [
    ⟨(some 18), .val (.bin .num .eql (.t 11) (.c (.int .i64 2))), none⟩,
    ⟨(some 17), .val (.mov (.t 18)), none⟩]
def g5_12 : List Am.Item := [
    ⟨(some 19), .val (.bin .num .eql (.t 11) (.c (.int .i64 3))), none⟩,
    ⟨(some 17), .val (.mov (.t 19)), none⟩]
def g5_13 : List Am.Item := [
    ⟨(some 2), .val (.mov (.c (.int .i64 1))), none⟩]
def g5_14 : List Am.Item := [
    ⟨(some 21), .val (.bin .num .eql (.t 11) (.c (.int .i64 6))), none⟩,
    ⟨(some 20), .val (.mov (.t 21)), none⟩]
def g5_15 : List Am.Item := [
    ⟨(some 2), .val (.mov (.c (.int .i64 2))), none⟩]
def g5_16 : List Am.Item := [
    ⟨(some 23), .val (.bin .num .eql (.t 11) (.c (.int .i64 7))), none⟩,
    ⟨(some 22), .val (.mov (.t 23)), none⟩]
def g5_17 : List Am.Item := [
    ⟨(some 24), .val (.bin .num .eql (.t 11) (.c (.int .i64 8))), none⟩,
    ⟨(some 22), .val (.mov (.t 24)), none⟩]
def g5_18 : List Am.Item := [
    ⟨(some 2), .val (.mov (.c (.int .i64 3))), none⟩]
def g5_19 : List Am.Item := [
    ⟨(some 26), .val (.bin .num .eql (.t 11) (.c (.int .i64 10))), none⟩,
    ⟨(some 25), .val (.mov (.t 26)), none⟩]
def g5_20 : List Am.Item := [
    ⟨(some 2), .val (.mov (.c (.int .i64 4))), none⟩]
def g5_21 : List Am.Item := [
    ⟨(some 2), .val (.mov (.c (.int .i64 (-1)))), none⟩]
def r5 : RC := .seq (.reg g5_0) (.seq (.block 0 (.seq (.reg g5_1) (.cond (.t 3) (.seq (.reg g5_2) (.ret)) (.seq (.reg g5_3) (.cond (.t 7) (.seq (.reg g5_4) (.ret)) (.skip)))))) (.seq (.seq (.reg g5_5) (.block 1 (.seq (.seq (.reg g5_6) (.cond (.t 12) (.skip) (.seq (.reg g5_7) (.cond (.t 12) (.skip) (.seq (.reg g5_8) (.cond (.t 12) (.skip) (.reg g5_9))))))) (.cond (.t 12) (.seq (.reg g5_10) (.ret)) (.seq (.seq (.reg g5_11) (.cond (.t 17) (.skip) (.reg g5_12))) (.cond (.t 17) (.seq (.reg g5_13) (.ret)) (.seq (.reg g5_14) (.cond (.t 20) (.seq (.reg g5_15) (.ret)) (.seq (.seq (.reg g5_16) (.cond (.t 22) (.skip) (.reg g5_17))) (.cond (.t 22) (.seq (.reg g5_18) (.ret)) (.seq (.reg g5_19) (.cond (.t 25) (.seq (.reg g5_20) (.ret)) (.skip))))))))))))) (.seq (.reg g5_21) (.ret))))
def o5 : List RR := [.tmp 2]
theorem k5 : chkC Tryz.prog 27 r5 (Tryz.f5.body.getD .skip) = true := by decide +kernel
theorem q5 : chkR Tryz.prog Tryz.f5.results.toList o5 = true := by decide +kernel

/- wireschema/plan.Packed -/
def g7_0 : List Am.Item := [
    ⟨(some 1), .boxN 1 (.t 0), none⟩,
    ⟨(some 2), .val (.mov (.c (.bool false))), none⟩]
def g7_1 : List Am.Item := [
    ⟨(some 3), .val (.faddr 3 (.t 1)), none⟩,
    ⟨(some 4), .val (.load none (.t 3)), none⟩,
    ⟨(some 5), .val (.bin .num .eql (.t 4) (.c (.int .i64 4))), none⟩,
    ⟨(some 6), .val (.mov (.t 5)), none⟩,
    ⟨(some 7), .val (.faddr 5 (.t 1)), (some (6, true))⟩,
    ⟨(some 8), .val (.load none (.t 7)), (some (6, true))⟩,
    ⟨(some 9), .val (.bin .num .geq (.t 8) (.c (.int .i64 1))), (some (6, true))⟩,
    ⟨(some 10), .val (.mov (.t 9)), (some (6, true))⟩,
    ⟨(some 11), .val (.faddr 5 (.t 1)), (some (10, true))⟩,
    ⟨(some 12), .val (.load none (.t 11)), (some (10, true))⟩,
    ⟨(some 13), .val (.bin .num .leq (.t 12) (.c (.int .i64 6))), (some (10, true))⟩,
    ⟨(some 14), .val (.pick (.t 10) (.t 13) (.c (.bool false))), (some (6, true))⟩,
    ⟨(some 15), .val (.mov (.t 14)), (some (6, true))⟩,
    ⟨(some 16), .val (.faddr 5 (.t 1)), (some (15, false))⟩,
    ⟨(some 17), .val (.load none (.t 16)), (some (15, false))⟩,
    ⟨(some 18), .val (.bin .num .eql (.t 17) (.c (.int .i64 9))), (some (15, false))⟩,
    ⟨(some 19), .val (.pick (.t 15) (.c (.bool true)) (.t 18)), (some (6, true))⟩,
    ⟨(some 20), .val (.pick (.t 6) (.t 19) (.c (.bool false))), none⟩,
    ⟨(some 2), .val (.mov (.t 20)), none⟩]
def r7 : RC := .seq (.reg g7_0) (.seq (.reg g7_1) (.ret))
def o7 : List RR := [.tmp 2]
theorem k7 : chkC Tryz.prog 21 r7 (Tryz.f7.body.getD .skip) = true := by decide +kernel
theorem q7 : chkR Tryz.prog Tryz.f7.results.toList o7 = true := by decide +kernel

/- wireschema/wireschemalaw22.awake -/
def g11_0 : List Am.Item := [
    ⟨(some 0), .val (.mov (.c (.bool false))), none⟩]
def g11_1 : List Am.Item := [
    ⟨(some 4), .val (.build [.int .i64 0, .str []] [(0, 1, (.c (.int .i64 2)))]), none⟩,
    ⟨(some 5), .val (.build [.int .i64 0, .str [], .int .i64 0, .int .i64 0, .int .i64 0, .str [], .str [], .bool false, .int .i64 0, .int .u64 0, .str [], .nils, .nils, .nils, .nils, .nils] [(0, 1, (.c (.int .i64 3))), (1, 1, (.c (.str [97]))), (2, 1, (.c (.int .i64 1))), (4, 2, (.t 4))]), none⟩,
    ⟨(some 1), .allocN 1 [.int .i64 0, .str [], .int .i64 0, .int .i64 0, .int .i64 0, .str [], .str [], .bool false, .int .i64 0, .int .u64 0, .str [], .nils, .nils, .nils, .nils, .nils], none⟩,
    ⟨none, .store 16 (.t 1) (.t 5), none⟩]
def g11_2 : List Am.Item := [
    ⟨(some 7), .val (.load (some 16) (.t 1)), none⟩,
    ⟨(some 8), .bsl 16 1 [.int .i64 0, .str [], .int .i64 0, .int .i64 0, .int .i64 0, .str [], .str [], .bool false, .int .i64 0, .int .u64 0, .str [], .nils, .nils, .nils, .nils, .nils] [(0, 16, (.t 7))], none⟩,
    ⟨(some 9), .val (.build [.str [], .nils, .nils, .nils, .nils] [(0, 1, (.c (.str [77]))), (1, 1, (.t 8))]), none⟩,
    ⟨(some 10), .bsl 5 1 [.str [], .nils, .nils, .nils, .nils] [(0, 5, (.t 9))], none⟩,
    ⟨(some 11), .val (.build [.nils, .nils, .nils] [(0, 1, (.t 10))]), none⟩,
    ⟨(some 12), .call (.f 23) [(.t 11)], none⟩,
    ⟨(some 6), .val (.mov (.t 12)), none⟩,
    ⟨(some 13), .val (.ext (.t 6) 0), none⟩,
    ⟨(some 14), .val (.ext (.t 6) 1), none⟩,
    ⟨(some 2), .allocN 2 [.nils, .nils], none⟩,
    ⟨none, .store 2 (.t 2) (.t 13), none⟩,
    ⟨(some 3), .val (.mov (.t 14)), none⟩]
def g11_3 : List Am.Item := [
    ⟨(some 15), .val (.mov (.t 3)), none⟩,
    ⟨(some 16), .val (.bin .num .eql (.t 15) (.c (.int .i64 0))), none⟩,
    ⟨(some 17), .val (.mov (.t 16)), none⟩,
    ⟨(some 18), .val (.faddr 0 (.t 2)), (some (17, true))⟩,
    ⟨(some 19), .val (.load none (.t 18)), (some (17, true))⟩,
    ⟨(some 20), .val (.len 1 (.t 19)), (some (17, true))⟩,
    ⟨(some 21), .val (.bin .num .eql (.t 20) (.c (.int .i64 1))), (some (17, true))⟩,
    ⟨(some 22), .val (.pick (.t 17) (.t 21) (.c (.bool false))), none⟩,
    ⟨(some 23), .val (.mov (.t 22)), none⟩,
    ⟨(some 24), .val (.load (some 2) (.t 2)), (some (23, true))⟩,
    ⟨(some 25), .val (.build [.int .i64 0, .int .u64 0, .str [], .nils, .nils, .nils, .nils] [(0, 1, (.c (.int .i64 10)))]), (some (23, true))⟩,
    ⟨(some 26), .call (.f 24) [(.t 24), (.c (.int .i64 0)), (.t 25)], (some (23, true))⟩,
    ⟨(some 27), .val (.bin .num .eql (.t 26) (.c (.int .i64 14))), (some (23, true))⟩,
    ⟨(some 28), .val (.pick (.t 23) (.t 27) (.c (.bool false))), none⟩,
    ⟨(some 29), .val (.mov (.t 28)), none⟩,
    ⟨(some 30), .val (.faddr 0 (.t 2)), (some (29, true))⟩,
    ⟨(some 31), .val (.load none (.t 30)), (some (29, true))⟩,
    ⟨(some 32), .val (.iaddr 3 none (.t 31) (.c (.int .i64 0))), (some (29, true))⟩,
    ⟨(some 33), .val (.faddr 1 (.t 32)), (some (29, true))⟩,
    ⟨(some 34), .val (.load none (.t 33)), (some (29, true))⟩,
    ⟨(some 35), .val (.iaddr 8 none (.t 34) (.c (.int .i64 0))), (some (29, true))⟩,
    ⟨(some 36), .val (.load (some 8) (.t 35)), (some (29, true))⟩,
    ⟨(some 37), .call (.f 5) [(.t 36)], (some (29, true))⟩,
    ⟨(some 38), .val (.bin .num .eql (.t 37) (.c (.int .i64 1))), (some (29, true))⟩,
    ⟨(some 39), .val (.pick (.t 29) (.t 38) (.c (.bool false))), none⟩,
    ⟨(some 0), .val (.mov (.t 39)), none⟩]
def r11 : RC := .seq (.reg g11_0) (.seq (.reg g11_1) (.seq (.reg g11_2) (.seq (.reg g11_3) (.ret))))
def o11 : List RR := [.tmp 0]
theorem k11 : chkC Tryz.prog 40 r11 (Tryz.f11.body.getD .skip) = true := by decide +kernel
theorem q11 : chkR Tryz.prog Tryz.f11.results.toList o11 = true := by decide +kernel

/- wireschema/plan.Make -/
def g23_0 : List Am.Item := [
    ⟨(some 1), .boxN 1 (.t 0), none⟩,
    ⟨(some 2), .allocN 2 [.nils, .nils], none⟩,
    ⟨(some 3), .val (.mov (.c (.int .i64 0))), none⟩]
def g23_1 : List Am.Item := [
    ⟨(some 9), .val (.load (some 3) (.t 1)), none⟩,
    ⟨(some 10), .call (.f 37) [(.t 9)], none⟩,
    ⟨(some 11), .val (.un .not (.t 10)), none⟩]
def g23_2 : List Am.Item := [
    ⟨(some 12), .val (.build [.nils, .nils] []), none⟩,
    ⟨none, .store 2 (.t 2) (.t 12), none⟩,
    ⟨(some 3), .val (.mov (.c (.int .i64 1))), none⟩]
def g23_3 : List Am.Item := [
    ⟨(some 4), .allocN 4 [.nils, .nils], none⟩]
def g23_4 : List Am.Item := [
    ⟨(some 13), .val (.faddr 0 (.t 1)), none⟩,
    ⟨(some 14), .val (.load none (.t 13)), none⟩,
    ⟨(some 15), .val (.len 1 (.t 14)), none⟩,
    ⟨(some 16), .val (.mov (.c (.int .i64 0))), none⟩]
def g23_5 : List Am.Item := [
    ⟨(some 17), .val (.bin .num .lss (.t 16) (.t 15)), none⟩]
def g23_6 : List Am.Item := [
    ⟨(some 18), .val (.iaddr 5 none (.t 14) (.t 16)), none⟩,
    ⟨(some 19), .val (.load (some 5) (.t 18)), none⟩,
    ⟨(some 6), .allocN 6 [.str [], .nils, .nils, .nils, .nils], none⟩,
    ⟨none, .store 5 (.t 6) (.t 19), none⟩]
def g23_7 : List Am.Item := [
    ⟨(some 20), .val (.faddr 0 (.t 4)), none⟩,
    ⟨(some 21), .val (.loadv 0 4 none (.t 20)), none⟩,
    ⟨(some 22), .val (.loadv 0 1 (some 3) (.t 1)), none⟩,
    ⟨(some 23), .val (.loadv 0 6 (some 5) (.t 6)), none⟩,
    ⟨(some 24), .call (.f 38) [(.t 22), (.t 23)], none⟩,
    ⟨(some 25), .bsl 3 1 [.str [], .nils, .int .i64 0] [(0, 3, (.t 24))], none⟩,
    ⟨(some 26), .app 3 48 42 (.t 21) (.t 25), none⟩,
    ⟨(some 27), .val (.faddr 0 (.t 4)), none⟩,
    ⟨none, .storev 0 4 1 (.t 27) (.t 26), none⟩]
def g23_8 : List Am.Item := [
    ⟨(some 28), .val (.bin .num .add (.t 16) (.c (.int .i64 1))), none⟩,
    ⟨(some 16), .val (.mov (.t 28)), none⟩]
def l23_0 : RC := .gho (.drop 6) (.seq (.reg g23_5) (.seq (.cond (.t 17) (.skip) (.exit 0)) (.seq (.block 1 (.seq (.reg g23_6) (.draw g23_7))) (.reg g23_8))))
def g23_9 : List Am.Item := [
    ⟨(some 29), .val (.faddr 1 (.t 1)), none⟩,
    ⟨(some 30), .val (.load none (.t 29)), none⟩,
    ⟨(some 31), .val (.len 1 (.t 30)), none⟩,
    ⟨(some 32), .val (.mov (.c (.int .i64 0))), none⟩]
def g23_10 : List Am.Item := [
    ⟨(some 33), .val (.bin .num .lss (.t 32) (.t 31)), none⟩]
def g23_11 : List Am.Item := [
    ⟨(some 34), .val (.iaddr 5 none (.t 30) (.t 32)), none⟩,
    ⟨(some 35), .val (.load (some 5) (.t 34)), none⟩,
    ⟨(some 8), .allocN 8 [.str [], .bool false, .nils, .nils, .nils], none⟩,
    ⟨none, .store 5 (.t 8) (.t 35), none⟩]
def g23_12 : List Am.Item := [
    ⟨(some 36), .val (.faddr 1 (.t 4)), none⟩,
    ⟨(some 37), .val (.loadv 0 4 none (.t 36)), none⟩,
    ⟨(some 38), .val (.loadv 0 8 (some 5) (.t 8)), none⟩,
    ⟨(some 39), .call (.f 39) [(.t 38)], none⟩,
    ⟨(some 40), .bsl 5 1 [.str [], .bool false, .nils, .nils, .nils] [(0, 5, (.t 39))], none⟩,
    ⟨(some 41), .app 5 96 72 (.t 37) (.t 40), none⟩,
    ⟨(some 42), .val (.faddr 1 (.t 4)), none⟩,
    ⟨none, .storev 0 4 1 (.t 42) (.t 41), none⟩]
def g23_13 : List Am.Item := [
    ⟨(some 43), .val (.bin .num .add (.t 32) (.c (.int .i64 1))), none⟩,
    ⟨(some 32), .val (.mov (.t 43)), none⟩]
def l23_1 : RC := .gho (.drop 8) (.seq (.reg g23_10) (.seq (.cond (.t 33) (.skip) (.exit 2)) (.seq (.block 3 (.seq (.reg g23_11) (.draw g23_12))) (.reg g23_13))))
def g23_14 : List Am.Item := [
    ⟨(some 44), .val (.load (some 2) (.t 4)), none⟩,
    ⟨none, .store 2 (.t 2) (.t 44), none⟩,
    ⟨(some 3), .val (.mov (.c (.int .i64 0))), none⟩]
def r23 : RC := .seq (.reg g23_0) (.seq (.seq (.reg g23_1) (.cond (.t 11) (.seq (.reg g23_2) (.ret)) (.skip))) (.seq (.reg g23_3) (.gho (.vecc 4 0 1100 3) (.gho (.vecc 4 1 1101 5) (.seq (.seq (.reg g23_4) (.block 0 (.loop l23_0))) (.seq (.seq (.reg g23_9) (.block 2 (.loop l23_1))) (.seq (.reg g23_14) (.ret))))))))
def o23 : List RR := [.cell 2 (some 2), .tmp 3]
theorem k23 : chkC Tryz.prog 45 r23 (Tryz.f23.body.getD .skip) = true := by decide +kernel
theorem q23 : chkR Tryz.prog Tryz.f23.results.toList o23 = true := by decide +kernel

/- wireschema/plan.Fits -/
def g24_0 : List Am.Item := [
    ⟨(some 3), .boxN 3 (.t 0), none⟩,
    ⟨(some 5), .boxN 5 (.t 2), none⟩,
    ⟨(some 6), .val (.mov (.c (.int .i64 0))), none⟩]
def g24_1 : List Am.Item := [
    ⟨(some 8), .val (.mov (.t 1)), none⟩,
    ⟨(some 9), .val (.bin .num .lss (.t 8) (.c (.int .i64 0))), none⟩,
    ⟨(some 10), .val (.mov (.t 9)), none⟩,
    ⟨(some 11), .val (.mov (.t 1)), (some (10, false))⟩,
    ⟨(some 12), .val (.faddr 0 (.t 3)), (some (10, false))⟩,
    ⟨(some 13), .val (.load none (.t 12)), (some (10, false))⟩,
    ⟨(some 14), .val (.len 1 (.t 13)), (some (10, false))⟩,
    ⟨(some 15), .val (.bin .num .geq (.t 11) (.t 14)), (some (10, false))⟩,
    ⟨(some 16), .val (.pick (.t 10) (.c (.bool true)) (.t 15)), none⟩]
def g24_2 : List Am.Item := [
    ⟨(some 6), .val (.mov (.c (.int .i64 10))), none⟩]
def g24_3 : List Am.Item := [
    ⟨(some 17), .val (.loadv 0 3 (some 2) (.t 3)), none⟩,
    ⟨(some 18), .val (.build [.nils, .nils] [(0, 2, (.t 17))]), none⟩,
    ⟨(some 19), .val (.faddr 0 (.t 3)), none⟩,
    ⟨(some 20), .val (.loadv 0 3 none (.t 19)), none⟩,
    ⟨(some 21), .val (.mov (.t 1)), none⟩,
    ⟨(some 22), .val (.iaddr 3 none (.t 20) (.t 21)), none⟩,
    ⟨(some 23), .val (.loadr (some 3) (.t 22)), none⟩,
    ⟨(some 24), .val (.loadv 0 5 (some 7) (.t 5)), none⟩,
    ⟨(some 25), .call (.f 40) [(.t 18), (.t 23), (.t 24), (.c (.int .i64 1))], none⟩,
    ⟨(some 7), .val (.mov (.t 25)), none⟩]
def g24_4 : List Am.Item := [
    ⟨(some 26), .val (.mov (.t 7)), none⟩,
    ⟨(some 27), .val (.bin .num .neq (.t 26) (.c (.int .i64 0))), none⟩]
def g24_5 : List Am.Item := [
    ⟨(some 28), .val (.mov (.t 7)), none⟩,
    ⟨(some 6), .val (.mov (.t 28)), none⟩]
def g24_6 : List Am.Item := [
    ⟨(some 29), .val (.load (some 7) (.t 5)), none⟩,
    ⟨(some 30), .call (.f 41) [(.t 29)], none⟩,
    ⟨(some 31), .val (.bin .num .gtr (.t 30) (.c (.int .i64 4096))), none⟩]
def g24_7 : List Am.Item := [
    ⟨(some 6), .val (.mov (.c (.int .i64 3))), none⟩]
def g24_8 : List Am.Item := [
    ⟨(some 6), .val (.mov (.c (.int .i64 0))), none⟩]
def r24 : RC := .seq (.reg g24_0) (.seq (.seq (.reg g24_1) (.cond (.t 16) (.seq (.reg g24_2) (.ret)) (.skip))) (.seq (.seq (.draw g24_3) (.seq (.reg g24_4) (.cond (.t 27) (.seq (.reg g24_5) (.ret)) (.skip)))) (.seq (.seq (.reg g24_6) (.cond (.t 31) (.seq (.reg g24_7) (.ret)) (.skip))) (.seq (.reg g24_8) (.ret)))))
def o24 : List RR := [.tmp 6]
theorem k24 : chkC Tryz.prog 32 r24 (Tryz.f24.body.getD .skip) = true := by decide +kernel
theorem q24 : chkR Tryz.prog Tryz.f24.results.toList o24 = true := by decide +kernel

/- wireschema/check.Valid -/
def g37_0 : List Am.Item := [
    ⟨(some 1), .boxN 1 (.t 0), none⟩,
    ⟨(some 2), .val (.mov (.c (.bool false))), none⟩]
def g37_1 : List Am.Item := [
    ⟨(some 3), .val (.load (some 3) (.t 1)), none⟩,
    ⟨(some 4), .call (.f 45) [(.t 3)], none⟩,
    ⟨(some 5), .val (.len 1 (.t 4)), none⟩,
    ⟨(some 6), .val (.bin .num .eql (.t 5) (.c (.int .i64 0))), none⟩,
    ⟨(some 2), .val (.mov (.t 6)), none⟩]
def r37 : RC := .seq (.reg g37_0) (.seq (.reg g37_1) (.ret))
def o37 : List RR := [.tmp 2]
theorem k37 : chkC Tryz.prog 7 r37 (Tryz.f37.body.getD .skip) = true := by decide +kernel
theorem q37 : chkR Tryz.prog Tryz.f37.results.toList o37 = true := by decide +kernel

/- wireschema/plan.prog -/
def g38_0 : List Am.Item := [
    ⟨(some 2), .boxN 2 (.t 0), none⟩,
    ⟨(some 3), .boxN 3 (.t 1), none⟩,
    ⟨(some 4), .allocN 4 [.str [], .nils, .int .i64 0], none⟩]
def g38_1 : List Am.Item := [
    ⟨(some 10), .val (.faddr 0 (.t 3)), none⟩,
    ⟨(some 11), .val (.load none (.t 10)), none⟩,
    ⟨(some 12), .val (.build [.str [], .nils, .int .i64 0] [(0, 1, (.t 11))]), none⟩,
    ⟨(some 5), .allocN 5 [.str [], .nils, .int .i64 0], none⟩,
    ⟨none, .store 3 (.t 5) (.t 12), none⟩]
def g38_2 : List Am.Item := [
    ⟨(some 6), .val (.mov (.c (.nils))), none⟩]
def g38_3 : List Am.Item := [
    ⟨(some 13), .val (.faddr 1 (.t 3)), none⟩,
    ⟨(some 14), .val (.load none (.t 13)), none⟩,
    ⟨(some 15), .val (.len 1 (.t 14)), none⟩,
    ⟨(some 16), .val (.mov (.c (.int .i64 0))), none⟩]
def g38_4 : List Am.Item := [
    ⟨(some 17), .val (.bin .num .lss (.t 16) (.t 15)), none⟩]
def g38_5 : List Am.Item := [
    ⟨(some 18), .val (.iaddr 16 none (.t 14) (.t 16)), none⟩,
    ⟨(some 19), .val (.load (some 16) (.t 18)), none⟩,
    ⟨(some 8), .allocN 8 [.int .i64 0, .str [], .int .i64 0, .int .i64 0, .int .i64 0, .str [], .str [], .bool false, .int .i64 0, .int .u64 0, .str [], .nils, .nils, .nils, .nils, .nils], none⟩,
    ⟨none, .store 16 (.t 8) (.t 19), none⟩]
def g38_6 : List Am.Item := [
    ⟨(some 20), .val (.faddr 0 (.t 8)), none⟩,
    ⟨(some 21), .val (.loadv 0 8 none (.t 20)), none⟩,
    ⟨(some 22), .val (.faddr 1 (.t 8)), none⟩,
    ⟨(some 23), .val (.loadv 0 8 none (.t 22)), none⟩,
    ⟨(some 24), .val (.faddr 15 (.t 8)), none⟩,
    ⟨(some 25), .val (.loadv 0 8 none (.t 24)), none⟩,
    ⟨(some 26), .call (.f 46) [(.t 25)], none⟩,
    ⟨(some 27), .val (.faddr 2 (.t 8)), none⟩,
    ⟨(some 28), .val (.loadv 0 8 none (.t 27)), none⟩,
    ⟨(some 29), .val (.faddr 3 (.t 8)), none⟩,
    ⟨(some 30), .val (.loadv 0 8 none (.t 29)), none⟩,
    ⟨(some 31), .val (.faddr 4 (.t 8)), none⟩,
    ⟨(some 32), .val (.faddr 0 (.t 31)), none⟩,
    ⟨(some 33), .val (.loadv 0 8 none (.t 32)), none⟩,
    ⟨(some 34), .val (.loadv 0 2 (some 3) (.t 2)), none⟩,
    ⟨(some 35), .val (.faddr 4 (.t 8)), none⟩,
    ⟨(some 36), .val (.loadv 0 8 (some 2) (.t 35)), none⟩,
    ⟨(some 37), .call (.f 47) [(.t 34), (.t 36)], none⟩,
    ⟨(some 38), .val (.build [.int .i64 0, .str [], .str [], .int .i64 0, .int .i64 0, .int .i64 0, .int .i64 0, .int .i64 0] [(0, 1, (.t 21)), (1, 1, (.t 23)), (2, 1, (.t 26)), (3, 1, (.t 28)), (4, 1, (.t 30)), (5, 1, (.t 33)), (6, 1, (.t 37)), (7, 1, (.c (.int .i64 (-1))))]), none⟩,
    ⟨(some 9), .allocN 9 [.int .i64 0, .str [], .str [], .int .i64 0, .int .i64 0, .int .i64 0, .int .i64 0, .int .i64 0], none⟩,
    ⟨none, .storev 0 9 8 (.t 9) (.t 38), none⟩]
def g38_7 : List Am.Item := [
    ⟨(some 39), .val (.faddr 6 (.t 8)), none⟩,
    ⟨(some 40), .val (.load none (.t 39)), none⟩,
    ⟨(some 41), .val (.bin .str .neq (.t 40) (.c (.str []))), none⟩]
def g38_8 : List Am.Item := [
    ⟨(some 42), .val (.mov (.t 6)), none⟩,
    ⟨(some 43), .val (.faddr 6 (.t 8)), none⟩,
    ⟨(some 44), .val (.load none (.t 43)), none⟩,
    ⟨(some 45), .call (.f 48) [(.t 42), (.t 44)], none⟩,
    ⟨(some 46), .val (.un .not (.t 45)), none⟩]
def g38_9 : List Am.Item := [
    ⟨(some 47), .val (.mov (.t 6)), none⟩,
    ⟨(some 48), .val (.faddr 6 (.t 8)), none⟩,
    ⟨(some 49), .val (.load none (.t 48)), none⟩,
    ⟨(some 50), .bsl 1 1 [.str []] [(0, 1, (.t 49))], none⟩,
    ⟨(some 51), .app 1 16 9 (.t 47) (.t 50), none⟩,
    ⟨(some 6), .val (.mov (.t 51)), none⟩]
def g38_10 : List Am.Item := [
    ⟨(some 52), .val (.mov (.t 6)), none⟩,
    ⟨(some 53), .val (.faddr 6 (.t 8)), none⟩,
    ⟨(some 54), .val (.load none (.t 53)), none⟩,
    ⟨(some 55), .call (.f 49) [(.t 52), (.t 54)], none⟩,
    ⟨(some 56), .val (.faddr 7 (.t 9)), none⟩,
    ⟨none, .store 1 (.t 56) (.t 55), none⟩]
def g38_11 : List Am.Item := [
    ⟨(some 57), .val (.faddr 1 (.t 5)), none⟩,
    ⟨(some 58), .val (.load none (.t 57)), none⟩,
    ⟨(some 59), .val (.load (some 8) (.t 9)), none⟩,
    ⟨(some 60), .bsl 8 1 [.int .i64 0, .str [], .str [], .int .i64 0, .int .i64 0, .int .i64 0, .int .i64 0, .int .i64 0] [(0, 8, (.t 59))], none⟩,
    ⟨(some 61), .app 8 80 23 (.t 58) (.t 60), none⟩,
    ⟨(some 62), .val (.faddr 1 (.t 5)), none⟩,
    ⟨none, .store 1 (.t 62) (.t 61), none⟩]
def g38_12 : List Am.Item := [
    ⟨(some 63), .val (.bin .num .add (.t 16) (.c (.int .i64 1))), none⟩,
    ⟨(some 16), .val (.mov (.t 63)), none⟩]
def l38_0 : RC := .gho (.drop 9) (.gho (.drop 8) (.seq (.reg g38_4) (.seq (.cond (.t 17) (.skip) (.exit 0)) (.seq (.block 1 (.seq (.reg g38_5) (.seq (.draw g38_6) (.seq (.seq (.reg g38_7) (.cond (.t 41) (.seq (.seq (.reg g38_8) (.cond (.t 46) (.reg g38_9) (.skip))) (.reg g38_10)) (.skip))) (.reg g38_11))))) (.reg g38_12)))))
def g38_13 : List Am.Item := [
    ⟨(some 64), .val (.mov (.t 6)), none⟩,
    ⟨(some 65), .val (.len 1 (.t 64)), none⟩,
    ⟨(some 66), .val (.faddr 2 (.t 5)), none⟩,
    ⟨none, .store 1 (.t 66) (.t 65), none⟩]
def g38_14 : List Am.Item := [
    ⟨(some 67), .val (.load (some 3) (.t 5)), none⟩,
    ⟨none, .store 3 (.t 4) (.t 67), none⟩]
def r38 : RC := .seq (.reg g38_0) (.seq (.reg g38_1) (.gho (.vecc 5 1 1100 8) (.seq (.reg g38_2) (.gho (.vec 6 6 1) (.seq (.seq (.reg g38_3) (.block 0 (.loop l38_0))) (.seq (.reg g38_13) (.seq (.reg g38_14) (.ret))))))))
def o38 : List RR := [.cell 4 (some 3)]
theorem k38 : chkC Tryz.prog 68 r38 (Tryz.f38.body.getD .skip) = true := by decide +kernel
theorem q38 : chkR Tryz.prog Tryz.f38.results.toList o38 = true := by decide +kernel

/- (wireschema/plan.examiner).message -/
def g40_0 : List Am.Item := [
    ⟨(some 4), .boxN 4 (.t 0), none⟩,
    ⟨(some 5), .boxN 5 (.t 1), none⟩,
    ⟨(some 6), .boxN 6 (.t 2), none⟩,
    ⟨(some 8), .val (.mov (.c (.int .i64 0))), none⟩]
def g40_1 : List Am.Item := [
    ⟨(some 17), .val (.faddr 0 (.t 6)), none⟩,
    ⟨(some 18), .val (.load none (.t 17)), none⟩,
    ⟨(some 19), .val (.bin .num .neq (.t 18) (.c (.int .i64 10))), none⟩,
    ⟨(some 20), .val (.mov (.t 19)), none⟩,
    ⟨(some 21), .val (.load (some 7) (.t 6)), (some (20, false))⟩,
    ⟨(some 22), .call (.f 52) [(.t 21)], (some (20, false))⟩,
    ⟨(some 23), .val (.pick (.t 20) (.c (.bool true)) (.t 22)), none⟩,
    ⟨(some 16), .val (.mov (.t 23)), none⟩]
def g40_2 : List Am.Item := [
    ⟨(some 8), .val (.mov (.c (.int .i64 12))), none⟩]
def g40_3 : List Am.Item := [
    ⟨(some 25), .val (.mov (.t 3)), none⟩,
    ⟨(some 26), .val (.bin .num .gtr (.t 25) (.c (.int .i64 16))), none⟩,
    ⟨(some 24), .val (.mov (.t 26)), none⟩]
def g40_4 : List Am.Item := [
    ⟨(some 8), .val (.mov (.c (.int .i64 17))), none⟩]
def g40_5 : List Am.Item := [
    ⟨(some 27), .val (.faddr 5 (.t 6)), none⟩,
    ⟨(some 28), .val (.load none (.t 27)), none⟩,
    ⟨(some 29), .val (.len 1 (.t 28)), none⟩,
    ⟨(some 30), .val (.mov (.c (.int .i64 0))), none⟩]
def g40_6 : List Am.Item := [
    ⟨(some 31), .val (.bin .num .lss (.t 30) (.t 29)), none⟩]
def g40_7 : List Am.Item := [
    ⟨(some 32), .val (.mov (.t 30)), none⟩,
    ⟨(some 9), .val (.mov (.t 32)), none⟩]
def g40_8 : List Am.Item := [
    ⟨(some 33), .val (.load (some 2) (.t 4)), none⟩,
    ⟨(some 34), .val (.load (some 3) (.t 5)), none⟩,
    ⟨(some 35), .val (.faddr 5 (.t 6)), none⟩,
    ⟨(some 36), .val (.load none (.t 35)), none⟩,
    ⟨(some 37), .val (.mov (.t 9)), none⟩,
    ⟨(some 38), .val (.mov (.t 3)), none⟩,
    ⟨(some 39), .call (.f 53) [(.t 33), (.t 34), (.t 36), (.t 37), (.t 38)], none⟩,
    ⟨(some 10), .val (.mov (.t 39)), none⟩]
def g40_9 : List Am.Item := [
    ⟨(some 40), .val (.mov (.t 10)), none⟩,
    ⟨(some 41), .val (.bin .num .neq (.t 40) (.c (.int .i64 0))), none⟩]
def g40_10 : List Am.Item := [
    ⟨(some 42), .val (.mov (.t 10)), none⟩,
    ⟨(some 8), .val (.mov (.t 42)), none⟩]
def g40_11 : List Am.Item := [
    ⟨(some 43), .val (.bin .num .add (.t 30) (.c (.int .i64 1))), none⟩,
    ⟨(some 30), .val (.mov (.t 43)), none⟩]
def l40_0 : RC := .seq (.reg g40_6) (.seq (.cond (.t 31) (.skip) (.exit 1)) (.seq (.block 2 (.seq (.reg g40_7) (.seq (.reg g40_8) (.seq (.reg g40_9) (.cond (.t 41) (.seq (.reg g40_10) (.ret)) (.skip)))))) (.reg g40_11)))
def g40_12 : List Am.Item := [
    ⟨(some 44), .val (.faddr 1 (.t 5)), none⟩,
    ⟨(some 45), .val (.load none (.t 44)), none⟩,
    ⟨(some 46), .val (.len 1 (.t 45)), none⟩,
    ⟨(some 47), .val (.mov (.c (.int .i64 0))), none⟩]
def g40_13 : List Am.Item := [
    ⟨(some 48), .val (.bin .num .lss (.t 47) (.t 46)), none⟩]
def g40_14 : List Am.Item := [
    ⟨(some 49), .val (.iaddr 8 none (.t 45) (.t 47)), none⟩,
    ⟨(some 50), .val (.load (some 8) (.t 49)), none⟩,
    ⟨(some 12), .allocN 12 [.int .i64 0, .str [], .str [], .int .i64 0, .int .i64 0, .int .i64 0, .int .i64 0, .int .i64 0], none⟩,
    ⟨none, .store 8 (.t 12) (.t 50), none⟩]
def g40_15 : List Am.Item := [
    ⟨(some 51), .val (.faddr 3 (.t 12)), none⟩,
    ⟨(some 52), .val (.load none (.t 51)), none⟩,
    ⟨(some 53), .val (.bin .num .eql (.t 52) (.c (.int .i64 1))), none⟩,
    ⟨(some 54), .val (.mov (.t 53)), none⟩,
    ⟨(some 55), .val (.faddr 5 (.t 6)), (some (54, true))⟩,
    ⟨(some 56), .val (.load none (.t 55)), (some (54, true))⟩,
    ⟨(some 57), .val (.mkfn (.func 55) [] [(.t 12)]), (some (54, true))⟩,
    ⟨(some 58), .callF (.f 54) [(.t 56), (.t 57)], (some (54, true))⟩,
    ⟨(some 59), .val (.un .not (.t 58)), (some (54, true))⟩,
    ⟨(some 60), .val (.pick (.t 54) (.t 59) (.c (.bool false))), none⟩]
def g40_16 : List Am.Item := [
    ⟨(some 8), .val (.mov (.c (.int .i64 14))), none⟩]
def g40_17 : List Am.Item := [
    ⟨(some 61), .val (.bin .num .add (.t 47) (.c (.int .i64 1))), none⟩,
    ⟨(some 47), .val (.mov (.t 61)), none⟩]
def l40_1 : RC := .gho (.drop 12) (.seq (.reg g40_13) (.seq (.cond (.t 48) (.skip) (.exit 3)) (.seq (.block 4 (.seq (.reg g40_14) (.seq (.reg g40_15) (.cond (.t 60) (.seq (.reg g40_16) (.ret)) (.skip))))) (.reg g40_17))))
def g40_18 : List Am.Item := [
    ⟨(some 62), .val (.faddr 6 (.t 6)), none⟩,
    ⟨(some 63), .val (.load none (.t 62)), none⟩,
    ⟨(some 64), .val (.len 1 (.t 63)), none⟩,
    ⟨(some 65), .val (.mov (.c (.int .i64 0))), none⟩]
def g40_19 : List Am.Item := [
    ⟨(some 66), .val (.bin .num .lss (.t 65) (.t 64)), none⟩]
def g40_20 : List Am.Item := [
    ⟨(some 67), .val (.iaddr 4 none (.t 63) (.t 65)), none⟩,
    ⟨(some 68), .val (.load (some 4) (.t 67)), none⟩,
    ⟨(some 14), .allocN 14 [.int .i64 0, .int .i64 0, .int .u64 0, .str []], none⟩,
    ⟨none, .store 4 (.t 14) (.t 68), none⟩]
def g40_21 : List Am.Item := [
    ⟨(some 69), .val (.load (some 2) (.t 4)), none⟩,
    ⟨(some 70), .val (.load (some 3) (.t 5)), none⟩,
    ⟨(some 71), .val (.load (some 4) (.t 14)), none⟩,
    ⟨(some 72), .call (.f 56) [(.t 69), (.t 70), (.t 71)], none⟩,
    ⟨(some 15), .val (.mov (.t 72)), none⟩]
def g40_22 : List Am.Item := [
    ⟨(some 73), .val (.mov (.t 15)), none⟩,
    ⟨(some 74), .val (.bin .num .neq (.t 73) (.c (.int .i64 0))), none⟩]
def g40_23 : List Am.Item := [
    ⟨(some 75), .val (.mov (.t 15)), none⟩,
    ⟨(some 8), .val (.mov (.t 75)), none⟩]
def g40_24 : List Am.Item := [
    ⟨(some 76), .val (.bin .num .add (.t 65) (.c (.int .i64 1))), none⟩,
    ⟨(some 65), .val (.mov (.t 76)), none⟩]
def l40_2 : RC := .gho (.drop 14) (.seq (.reg g40_19) (.seq (.cond (.t 66) (.skip) (.exit 5)) (.seq (.block 6 (.seq (.reg g40_20) (.seq (.reg g40_21) (.seq (.reg g40_22) (.cond (.t 74) (.seq (.reg g40_23) (.ret)) (.skip)))))) (.reg g40_24))))
def g40_25 : List Am.Item := [
    ⟨(some 8), .val (.mov (.c (.int .i64 0))), none⟩]
def r40 : RC := .seq (.reg g40_0) (.seq (.block 0 (.seq (.reg g40_1) (.cond (.t 16) (.seq (.reg g40_2) (.ret)) (.seq (.reg g40_3) (.cond (.t 24) (.seq (.reg g40_4) (.ret)) (.skip)))))) (.seq (.seq (.reg g40_5) (.block 1 (.loop l40_0))) (.seq (.seq (.reg g40_12) (.block 3 (.loop l40_1))) (.seq (.seq (.reg g40_18) (.block 5 (.loop l40_2))) (.seq (.reg g40_25) (.ret))))))
def o40 : List RR := [.tmp 8]
theorem k40 : chkC Tryz.prog 77 r40 (Tryz.f40.body.getD .skip) = true := by decide +kernel
theorem q40 : chkR Tryz.prog Tryz.f40.results.toList o40 = true := by decide +kernel

/- wireschema/check.All -/
def g45_0 : List Am.Item := [
    ⟨(some 1), .boxN 1 (.t 0), none⟩,
    ⟨(some 2), .val (.mov (.c (.nils))), none⟩]
def g45_1 : List Am.Item := [
    ⟨(some 14), .val (.build [.str [], .int .i64 0, .nils] [(1, 1, (.c (.int .i64 (-1))))]), none⟩,
    ⟨(some 15), .boxN 15 (.t 14), none⟩,
    ⟨(some 3), .val (.mov (.t 15)), none⟩]
def g45_2 : List Am.Item := [
    ⟨(some 16), .val (.load (some 3) (.t 1)), none⟩,
    ⟨(some 17), .call (.f 58) [(.t 16)], none⟩,
    ⟨(some 4), .allocN 4 [.nils, .nils, .nils], none⟩,
    ⟨none, .store 3 (.t 4) (.t 17), none⟩]
def g45_3 : List Am.Item := [
    ⟨(some 18), .val (.load (some 3) (.t 4)), none⟩,
    ⟨(some 19), .val (.mov (.c (.int .i64 0))), none⟩]
def g45_4 : List Am.Item := [
    ⟨(some 20), .val (.bin .num .lss (.t 19) (.c (.int .i64 3))), none⟩]
def g45_5 : List Am.Item := [
    ⟨(some 21), .val (.aidx 3 1 none (.t 18) (.t 19)), none⟩,
    ⟨(some 6), .val (.mov (.t 21)), none⟩]
def g45_6 : List Am.Item := [
    ⟨(some 22), .val (.mov (.t 3)), none⟩,
    ⟨(some 23), .val (.mov (.t 6)), none⟩,
    ⟨(some 24), .val (.len 1 (.t 23)), none⟩,
    ⟨(some 25), .val (.bin .num .leq (.t 24) (.c (.int .i64 64))), none⟩,
    ⟨(some 26), .callF (.f 59) [(.t 22), (.t 25), (.c (.int .i64 3))], none⟩]
def g45_7 : List Am.Item := [
    ⟨(some 27), .val (.mov (.t 3)), none⟩,
    ⟨(some 28), .val (.mov (.t 6)), none⟩,
    ⟨(some 29), .call (.f 60) [(.t 28)], none⟩,
    ⟨(some 30), .callF (.f 59) [(.t 27), (.t 29), (.c (.int .i64 11))], none⟩]
def g45_8 : List Am.Item := [
    ⟨(some 31), .val (.bin .num .add (.t 19) (.c (.int .i64 1))), none⟩,
    ⟨(some 19), .val (.mov (.t 31)), none⟩]
def l45_0 : RC := .seq (.reg g45_4) (.seq (.cond (.t 20) (.skip) (.exit 0)) (.seq (.block 1 (.seq (.reg g45_5) (.seq (.reg g45_6) (.reg g45_7)))) (.reg g45_8)))
def g45_9 : List Am.Item := [
    ⟨(some 32), .val (.mov (.t 3)), none⟩,
    ⟨(some 33), .val (.load (some 3) (.t 4)), none⟩,
    ⟨(some 34), .call (.f 61) [(.t 33)], none⟩,
    ⟨(some 35), .callF (.f 59) [(.t 32), (.t 34), (.c (.int .i64 9))], none⟩]
def g45_10 : List Am.Item := [
    ⟨(some 36), .val (.load (some 3) (.t 1)), none⟩,
    ⟨(some 37), .call (.f 62) [(.t 36)], none⟩,
    ⟨(some 7), .val (.mov (.t 37)), none⟩]
def g45_11 : List Am.Item := [
    ⟨(some 38), .val (.faddr 0 (.t 1)), none⟩,
    ⟨(some 39), .val (.load none (.t 38)), none⟩,
    ⟨(some 40), .val (.len 1 (.t 39)), none⟩,
    ⟨(some 41), .val (.mov (.c (.int .i64 0))), none⟩]
def g45_12 : List Am.Item := [
    ⟨(some 42), .val (.bin .num .lss (.t 41) (.t 40)), none⟩]
def g45_13 : List Am.Item := [
    ⟨(some 43), .val (.iaddr 5 none (.t 39) (.t 41)), none⟩,
    ⟨(some 44), .val (.load (some 5) (.t 43)), none⟩,
    ⟨(some 9), .allocN 9 [.str [], .nils, .nils, .nils, .nils], none⟩,
    ⟨none, .store 5 (.t 9) (.t 44), none⟩]
def g45_14 : List Am.Item := [
    ⟨(some 45), .val (.mov (.t 3)), none⟩,
    ⟨(some 46), .val (.mov (.t 3)), none⟩,
    ⟨(some 47), .val (.nilck (.t 46)), none⟩,
    ⟨(some 48), .val (.faddr 2 (.t 47)), none⟩,
    ⟨(some 49), .val (.load none (.t 48)), none⟩,
    ⟨(some 50), .val (.loadv 0 1 (some 3) (.t 1)), none⟩,
    ⟨(some 51), .val (.loadv 0 9 (some 5) (.t 9)), none⟩,
    ⟨(some 52), .val (.mov (.t 7)), none⟩,
    ⟨(some 53), .call (.f 63) [(.t 50), (.t 51), (.t 52)], none⟩,
    ⟨(some 54), .app 3 32 141 (.t 49) (.t 53), none⟩,
    ⟨(some 55), .val (.nilck (.t 45)), none⟩,
    ⟨(some 56), .val (.faddr 2 (.t 55)), none⟩,
    ⟨none, .store 1 (.t 56) (.t 54), none⟩]
def g45_15 : List Am.Item := [
    ⟨(some 57), .val (.bin .num .add (.t 41) (.c (.int .i64 1))), none⟩,
    ⟨(some 41), .val (.mov (.t 57)), none⟩]
def l45_1 : RC := .gho (.drop 9) (.seq (.reg g45_12) (.seq (.cond (.t 42) (.skip) (.exit 2)) (.seq (.block 3 (.seq (.reg g45_13) (.draw g45_14))) (.reg g45_15))))
def g45_16 : List Am.Item := [
    ⟨(some 58), .val (.faddr 1 (.t 1)), none⟩,
    ⟨(some 59), .val (.load none (.t 58)), none⟩,
    ⟨(some 60), .val (.len 1 (.t 59)), none⟩,
    ⟨(some 61), .val (.mov (.c (.int .i64 0))), none⟩]
def g45_17 : List Am.Item := [
    ⟨(some 62), .val (.bin .num .lss (.t 61) (.t 60)), none⟩]
def g45_18 : List Am.Item := [
    ⟨(some 63), .val (.iaddr 5 none (.t 59) (.t 61)), none⟩,
    ⟨(some 64), .val (.load (some 5) (.t 63)), none⟩,
    ⟨(some 11), .allocN 11 [.str [], .bool false, .nils, .nils, .nils], none⟩,
    ⟨none, .store 5 (.t 11) (.t 64), none⟩]
def g45_19 : List Am.Item := [
    ⟨(some 65), .val (.mov (.t 3)), none⟩,
    ⟨(some 66), .val (.mov (.t 3)), none⟩,
    ⟨(some 67), .val (.nilck (.t 66)), none⟩,
    ⟨(some 68), .val (.faddr 2 (.t 67)), none⟩,
    ⟨(some 69), .val (.load none (.t 68)), none⟩,
    ⟨(some 70), .val (.loadv 0 11 (some 5) (.t 11)), none⟩,
    ⟨(some 71), .call (.f 64) [(.t 70)], none⟩,
    ⟨(some 72), .app 3 32 141 (.t 69) (.t 71), none⟩,
    ⟨(some 73), .val (.nilck (.t 65)), none⟩,
    ⟨(some 74), .val (.faddr 2 (.t 73)), none⟩,
    ⟨none, .store 1 (.t 74) (.t 72), none⟩]
def g45_20 : List Am.Item := [
    ⟨(some 75), .val (.bin .num .add (.t 61) (.c (.int .i64 1))), none⟩,
    ⟨(some 61), .val (.mov (.t 75)), none⟩]
def l45_2 : RC := .gho (.drop 11) (.seq (.reg g45_17) (.seq (.cond (.t 62) (.skip) (.exit 4)) (.seq (.block 5 (.seq (.reg g45_18) (.draw g45_19))) (.reg g45_20))))
def g45_21 : List Am.Item := [
    ⟨(some 76), .val (.faddr 2 (.t 1)), none⟩,
    ⟨(some 77), .val (.load none (.t 76)), none⟩,
    ⟨(some 78), .val (.len 1 (.t 77)), none⟩,
    ⟨(some 79), .val (.mov (.c (.int .i64 0))), none⟩]
def g45_22 : List Am.Item := [
    ⟨(some 80), .val (.bin .num .lss (.t 79) (.t 78)), none⟩]
def g45_23 : List Am.Item := [
    ⟨(some 81), .val (.iaddr 3 none (.t 77) (.t 79)), none⟩,
    ⟨(some 82), .val (.load (some 3) (.t 81)), none⟩,
    ⟨(some 13), .allocN 13 [.str [], .nils, .nils], none⟩,
    ⟨none, .store 3 (.t 13) (.t 82), none⟩]
def g45_24 : List Am.Item := [
    ⟨(some 83), .val (.mov (.t 3)), none⟩,
    ⟨(some 84), .val (.mov (.t 3)), none⟩,
    ⟨(some 85), .val (.nilck (.t 84)), none⟩,
    ⟨(some 86), .val (.faddr 2 (.t 85)), none⟩,
    ⟨(some 87), .val (.load none (.t 86)), none⟩,
    ⟨(some 88), .val (.loadv 0 1 (some 3) (.t 1)), none⟩,
    ⟨(some 89), .val (.loadv 0 13 (some 3) (.t 13)), none⟩,
    ⟨(some 90), .call (.f 65) [(.t 88), (.t 89)], none⟩,
    ⟨(some 91), .app 3 32 141 (.t 87) (.t 90), none⟩,
    ⟨(some 92), .val (.nilck (.t 83)), none⟩,
    ⟨(some 93), .val (.faddr 2 (.t 92)), none⟩,
    ⟨none, .store 1 (.t 93) (.t 91), none⟩]
def g45_25 : List Am.Item := [
    ⟨(some 94), .val (.bin .num .add (.t 79) (.c (.int .i64 1))), none⟩,
    ⟨(some 79), .val (.mov (.t 94)), none⟩]
def l45_3 : RC := .gho (.drop 13) (.seq (.reg g45_22) (.seq (.cond (.t 80) (.skip) (.exit 6)) (.seq (.block 7 (.seq (.reg g45_23) (.draw g45_24))) (.reg g45_25))))
def g45_26 : List Am.Item := [
    ⟨(some 95), .val (.mov (.t 3)), none⟩,
    ⟨(some 96), .val (.nilck (.t 95)), none⟩,
    ⟨(some 97), .val (.faddr 2 (.t 96)), none⟩,
    ⟨(some 98), .val (.load none (.t 97)), none⟩,
    ⟨(some 2), .val (.mov (.t 98)), none⟩]
def r45 : RC := .seq (.reg g45_0) (.seq (.reg g45_1) (.gho (.vecc 15 2 1100 3) (.seq (.reg g45_2) (.seq (.seq (.reg g45_3) (.block 0 (.loop l45_0))) (.seq (.reg g45_9) (.seq (.reg g45_10) (.seq (.seq (.reg g45_11) (.block 2 (.loop l45_1))) (.seq (.seq (.reg g45_16) (.block 4 (.loop l45_2))) (.seq (.seq (.reg g45_21) (.block 6 (.loop l45_3))) (.seq (.reg g45_26) (.ret)))))))))))
def o45 : List RR := [.tmp 2]
theorem k45 : chkC Tryz.prog 99 r45 (Tryz.f45.body.getD .skip) = true := by decide +kernel
theorem q45 : chkR Tryz.prog Tryz.f45.results.toList o45 = true := by decide +kernel

/- wireschema/plan.alias -/
def g46_0 : List Am.Item := [
    ⟨(some 2), .val (.mov (.c (.str []))), none⟩]
def g46_1 : List Am.Item := [
    ⟨(some 6), .val (.mov (.t 0)), none⟩,
    ⟨(some 7), .call (.f 51) [(.t 6), (.c (.str [97, 108, 105, 97, 115]))], none⟩,
    ⟨(some 5), .val (.mov (.t 7)), none⟩,
    ⟨(some 8), .val (.ext (.t 5) 0), none⟩,
    ⟨(some 9), .val (.ext (.t 5) 1), none⟩,
    ⟨(some 3), .allocN 3 [.int .i64 0, .int .u64 0, .str [], .nils, .nils, .nils, .nils], none⟩,
    ⟨none, .store 7 (.t 3) (.t 8), none⟩,
    ⟨(some 4), .val (.mov (.t 9)), none⟩]
def g46_2 : List Am.Item := [
    ⟨(some 10), .val (.faddr 2 (.t 3)), none⟩,
    ⟨(some 11), .val (.load none (.t 10)), none⟩,
    ⟨(some 2), .val (.mov (.t 11)), none⟩]
def r46 : RC := .seq (.reg g46_0) (.seq (.reg g46_1) (.seq (.reg g46_2) (.ret)))
def o46 : List RR := [.tmp 2]
theorem k46 : chkC Tryz.prog 12 r46 (Tryz.f46.body.getD .skip) = true := by decide +kernel
theorem q46 : chkR Tryz.prog Tryz.f46.results.toList o46 = true := by decide +kernel

/- wireschema/plan.target -/
def g47_0 : List Am.Item := [
    ⟨(some 2), .boxN 2 (.t 0), none⟩,
    ⟨(some 3), .boxN 3 (.t 1), none⟩,
    ⟨(some 4), .val (.mov (.c (.int .i64 0))), none⟩]
def g47_1 : List Am.Item := [
    ⟨(some 5), .val (.faddr 0 (.t 3)), none⟩,
    ⟨(some 6), .val (.load none (.t 5)), none⟩]
def g47_2 : List Am.Item := [
    ⟨(some 8), .val (.bin .num .eql (.t 6) (.c (.int .i64 10))), none⟩,
    ⟨(some 7), .val (.mov (.t 8)), none⟩]
def g47_3 : List Am.Item := [
    ⟨(some 9), .val (.faddr 0 (.t 2)), none⟩,
    ⟨(some 10), .val (.load none (.t 9)), none⟩,
    ⟨(some 11), .val (.mkfn (.func 67) [] [(.t 3)]), none⟩,
    ⟨(some 12), .callF (.f 66) [(.t 10), (.t 11)], none⟩,
    ⟨(some 4), .val (.mov (.t 12)), none⟩]
def g47_4 : List Am.Item := [
    ⟨(some 14), .val (.bin .num .eql (.t 6) (.c (.int .i64 9))), none⟩,
    ⟨(some 13), .val (.mov (.t 14)), none⟩]
def g47_5 : List Am.Item := [
    ⟨(some 15), .val (.faddr 1 (.t 2)), none⟩,
    ⟨(some 16), .val (.load none (.t 15)), none⟩,
    ⟨(some 17), .val (.mkfn (.func 69) [] [(.t 3)]), none⟩,
    ⟨(some 18), .callF (.f 68) [(.t 16), (.t 17)], none⟩,
    ⟨(some 4), .val (.mov (.t 18)), none⟩]
def g47_6 : List Am.Item := [
    ⟨(some 4), .val (.mov (.c (.int .i64 (-1)))), none⟩]
def r47 : RC := .seq (.reg g47_0) (.seq (.seq (.reg g47_1) (.block 0 (.seq (.reg g47_2) (.cond (.t 7) (.seq (.reg g47_3) (.ret)) (.seq (.reg g47_4) (.cond (.t 13) (.seq (.reg g47_5) (.ret)) (.skip))))))) (.seq (.reg g47_6) (.ret)))
def o47 : List RR := [.tmp 4]
theorem k47 : chkC Tryz.prog 19 r47 (Tryz.f47.body.getD .skip) = true := by decide +kernel
theorem q47 : chkR Tryz.prog Tryz.f47.results.toList o47 = true := by decide +kernel

/- slices.Contains[[]string,string] -/
def g48_0 : List Am.Item := [
    ⟨(some 4), .val (.mov (.c (.bool false))), none⟩]
def g48_1 : List Am.Item := [
    ⟨(some 5), .val (.mov (.t 0)), none⟩,
    ⟨(some 6), .val (.mov (.t 1)), none⟩,
    ⟨(some 7), .call (.f 49) [(.t 5), (.t 6)], none⟩,
    ⟨(some 8), .val (.bin .num .geq (.t 7) (.c (.int .i64 0))), none⟩,
    ⟨(some 4), .val (.mov (.t 8)), none⟩]
def r48 : RC := .seq (.reg g48_0) (.seq (.reg g48_1) (.ret))
def o48 : List RR := [.tmp 4]
theorem k48 : chkC Tryz.prog 9 r48 (Tryz.f48.body.getD .skip) = true := by decide +kernel
theorem q48 : chkR Tryz.prog Tryz.f48.results.toList o48 = true := by decide +kernel

/- slices.Index[[]string,string] -/
def g49_0 : List Am.Item := [
    ⟨(some 4), .val (.mov (.c (.int .i64 0))), none⟩]
def g49_1 : List Am.Item := [
    ⟨(some 6), .val (.mov (.t 0)), none⟩,
    ⟨(some 7), .val (.len 1 (.t 6)), none⟩,
    ⟨(some 8), .val (.mov (.c (.int .i64 0))), none⟩]
def g49_2 : List Am.Item := [
    ⟨(some 9), .val (.bin .num .lss (.t 8) (.t 7)), none⟩]
def g49_3 : List Am.Item := [
    ⟨(some 10), .val (.mov (.t 8)), none⟩,
    ⟨(some 5), .val (.mov (.t 10)), none⟩]
def g49_4 : List Am.Item := [
    ⟨(some 11), .val (.mov (.t 1)), none⟩,
    ⟨(some 12), .val (.mov (.t 0)), none⟩,
    ⟨(some 13), .val (.mov (.t 5)), none⟩,
    ⟨(some 14), .val (.iaddr 1 none (.t 12) (.t 13)), none⟩,
    ⟨(some 15), .val (.load none (.t 14)), none⟩,
    ⟨(some 16), .val (.bin .str .eql (.t 11) (.t 15)), none⟩]
def g49_5 : List Am.Item := [
    ⟨(some 17), .val (.mov (.t 5)), none⟩,
    ⟨(some 4), .val (.mov (.t 17)), none⟩]
def g49_6 : List Am.Item := [
    ⟨(some 18), .val (.bin .num .add (.t 8) (.c (.int .i64 1))), none⟩,
    ⟨(some 8), .val (.mov (.t 18)), none⟩]
def l49_0 : RC := .seq (.reg g49_2) (.seq (.cond (.t 9) (.skip) (.exit 0)) (.seq (.block 1 (.seq (.reg g49_3) (.seq (.reg g49_4) (.cond (.t 16) (.seq (.reg g49_5) (.ret)) (.skip))))) (.reg g49_6)))
def g49_7 : List Am.Item := [
    ⟨(some 4), .val (.mov (.c (.int .i64 (-1)))), none⟩]
def r49 : RC := .seq (.reg g49_0) (.seq (.seq (.reg g49_1) (.block 0 (.loop l49_0))) (.seq (.reg g49_7) (.ret)))
def o49 : List RR := [.tmp 4]
theorem k49 : chkC Tryz.prog 19 r49 (Tryz.f49.body.getD .skip) = true := by decide +kernel
theorem q49 : chkR Tryz.prog Tryz.f49.results.toList o49 = true := by decide +kernel

/- wireschema/note.Find -/
def g51_0 : List Am.Item := [
    ⟨(some 4), .allocN 4 [.int .i64 0, .int .u64 0, .str [], .nils, .nils, .nils, .nils], none⟩,
    ⟨(some 5), .val (.mov (.c (.bool false))), none⟩]
def g51_1 : List Am.Item := [
    ⟨(some 7), .val (.mov (.t 0)), none⟩,
    ⟨(some 8), .val (.mov (.t 1)), none⟩,
    ⟨(some 9), .call (.f 70) [(.t 7), (.t 8)], none⟩,
    ⟨(some 6), .val (.mov (.t 9)), none⟩]
def g51_2 : List Am.Item := [
    ⟨(some 10), .val (.mov (.t 6)), none⟩,
    ⟨(some 11), .val (.bin .num .lss (.t 10) (.c (.int .i64 0))), none⟩]
def g51_3 : List Am.Item := [
    ⟨(some 12), .val (.build [.int .i64 0, .int .u64 0, .str [], .nils, .nils, .nils, .nils] []), none⟩,
    ⟨none, .store 7 (.t 4) (.t 12), none⟩,
    ⟨(some 5), .val (.mov (.c (.bool false))), none⟩]
def g51_4 : List Am.Item := [
    ⟨(some 13), .val (.mov (.t 0)), none⟩,
    ⟨(some 14), .val (.mov (.t 6)), none⟩,
    ⟨(some 15), .val (.iaddr 8 none (.t 13) (.t 14)), none⟩,
    ⟨(some 16), .val (.faddr 1 (.t 15)), none⟩,
    ⟨(some 17), .val (.load (some 7) (.t 16)), none⟩,
    ⟨none, .store 7 (.t 4) (.t 17), none⟩,
    ⟨(some 5), .val (.mov (.c (.bool true))), none⟩]
def r51 : RC := .seq (.reg g51_0) (.seq (.reg g51_1) (.seq (.seq (.reg g51_2) (.cond (.t 11) (.seq (.reg g51_3) (.ret)) (.skip))) (.seq (.reg g51_4) (.ret))))
def o51 : List RR := [.cell 4 (some 7), .tmp 5]
theorem k51 : chkC Tryz.prog 18 r51 (Tryz.f51.body.getD .skip) = true := by decide +kernel
theorem q51 : chkR Tryz.prog Tryz.f51.results.toList o51 = true := by decide +kernel

/- wireschema/plan.other -/
def g52_0 : List Am.Item := [
    ⟨(some 1), .boxN 1 (.t 0), none⟩,
    ⟨(some 2), .val (.mov (.c (.bool false))), none⟩]
def g52_1 : List Am.Item := [
    ⟨(some 4), .val (.faddr 0 (.t 1)), none⟩,
    ⟨(some 5), .val (.load none (.t 4)), none⟩,
    ⟨(some 6), .val (.bin .num .eql (.t 5) (.c (.int .i64 7))), none⟩,
    ⟨(some 7), .val (.mov (.t 6)), none⟩,
    ⟨(some 8), .val (.faddr 0 (.t 1)), (some (7, false))⟩,
    ⟨(some 9), .val (.load none (.t 8)), (some (7, false))⟩,
    ⟨(some 10), .val (.bin .num .eql (.t 9) (.c (.int .i64 8))), (some (7, false))⟩,
    ⟨(some 11), .val (.pick (.t 7) (.c (.bool true)) (.t 10)), none⟩,
    ⟨(some 3), .val (.mov (.t 11)), none⟩]
def g52_2 : List Am.Item := [
    ⟨(some 12), .val (.faddr 0 (.t 1)), none⟩,
    ⟨(some 13), .val (.load none (.t 12)), none⟩,
    ⟨(some 14), .val (.bin .num .neq (.t 13) (.c (.int .i64 11))), none⟩,
    ⟨(some 15), .val (.mov (.t 14)), none⟩,
    ⟨(some 16), .val (.faddr 3 (.t 1)), (some (15, true))⟩,
    ⟨(some 17), .val (.load none (.t 16)), (some (15, true))⟩,
    ⟨(some 18), .val (.len 1 (.t 17)), (some (15, true))⟩,
    ⟨(some 19), .val (.bin .num .gtr (.t 18) (.c (.int .i64 0))), (some (15, true))⟩,
    ⟨(some 20), .val (.pick (.t 15) (.t 19) (.c (.bool false))), none⟩,
    ⟨(some 21), .val (.mov (.t 20)), none⟩,
    ⟨(some 22), .val (.faddr 0 (.t 1)), (some (21, false))⟩,
    ⟨(some 23), .val (.load none (.t 22)), (some (21, false))⟩,
    ⟨(some 24), .val (.bin .num .neq (.t 23) (.c (.int .i64 12))), (some (21, false))⟩,
    ⟨(some 25), .val (.mov (.t 24)), (some (21, false))⟩,
    ⟨(some 26), .val (.faddr 4 (.t 1)), (some (25, true))⟩,
    ⟨(some 27), .val (.load none (.t 26)), (some (25, true))⟩,
    ⟨(some 28), .val (.len 1 (.t 27)), (some (25, true))⟩,
    ⟨(some 29), .val (.bin .num .gtr (.t 28) (.c (.int .i64 0))), (some (25, true))⟩,
    ⟨(some 30), .val (.pick (.t 25) (.t 29) (.c (.bool false))), (some (21, false))⟩,
    ⟨(some 31), .val (.pick (.t 21) (.c (.bool true)) (.t 30)), none⟩,
    ⟨(some 32), .val (.mov (.t 31)), none⟩,
    ⟨(some 33), .val (.faddr 0 (.t 1)), (some (32, false))⟩,
    ⟨(some 34), .val (.load none (.t 33)), (some (32, false))⟩,
    ⟨(some 35), .val (.bin .num .neq (.t 34) (.c (.int .i64 10))), (some (32, false))⟩,
    ⟨(some 36), .val (.mov (.t 35)), (some (32, false))⟩,
    ⟨(some 37), .val (.faddr 5 (.t 1)), (some (36, true))⟩,
    ⟨(some 38), .val (.load none (.t 37)), (some (36, true))⟩,
    ⟨(some 39), .val (.len 1 (.t 38)), (some (36, true))⟩,
    ⟨(some 40), .val (.faddr 6 (.t 1)), (some (36, true))⟩,
    ⟨(some 41), .val (.load none (.t 40)), (some (36, true))⟩,
    ⟨(some 42), .val (.len 1 (.t 41)), (some (36, true))⟩,
    ⟨(some 43), .val (.bin .num .add (.t 39) (.t 42)), (some (36, true))⟩,
    ⟨(some 44), .val (.bin .num .gtr (.t 43) (.c (.int .i64 0))), (some (36, true))⟩,
    ⟨(some 45), .val (.pick (.t 36) (.t 44) (.c (.bool false))), (some (32, false))⟩,
    ⟨(some 46), .val (.pick (.t 32) (.c (.bool true)) (.t 45)), none⟩,
    ⟨(some 47), .val (.mov (.t 46)), none⟩,
    ⟨(some 48), .val (.faddr 1 (.t 1)), (some (47, false))⟩,
    ⟨(some 49), .val (.load none (.t 48)), (some (47, false))⟩,
    ⟨(some 50), .val (.bin .num .neq (.t 49) (.c (.int .u64 0))), (some (47, false))⟩,
    ⟨(some 51), .val (.mov (.t 50)), (some (47, false))⟩,
    ⟨(some 52), .val (.mov (.t 3)), (some (51, true))⟩,
    ⟨(some 53), .val (.mov (.t 52)), (some (51, true))⟩,
    ⟨(some 54), .val (.faddr 0 (.t 1)), (some (53, false))⟩,
    ⟨(some 55), .val (.load none (.t 54)), (some (53, false))⟩,
    ⟨(some 56), .val (.bin .num .geq (.t 55) (.c (.int .i64 10))), (some (53, false))⟩,
    ⟨(some 57), .val (.mov (.t 56)), (some (53, false))⟩,
    ⟨(some 58), .val (.faddr 0 (.t 1)), (some (57, true))⟩,
    ⟨(some 59), .val (.load none (.t 58)), (some (57, true))⟩,
    ⟨(some 60), .val (.bin .num .leq (.t 59) (.c (.int .i64 12))), (some (57, true))⟩,
    ⟨(some 61), .val (.pick (.t 57) (.t 60) (.c (.bool false))), (some (53, false))⟩,
    ⟨(some 62), .val (.pick (.t 53) (.c (.bool true)) (.t 61)), (some (51, true))⟩,
    ⟨(some 63), .val (.pick (.t 51) (.t 62) (.c (.bool false))), (some (47, false))⟩,
    ⟨(some 64), .val (.pick (.t 47) (.c (.bool true)) (.t 63)), none⟩,
    ⟨(some 65), .val (.mov (.t 64)), none⟩,
    ⟨(some 66), .val (.faddr 2 (.t 1)), (some (65, false))⟩,
    ⟨(some 67), .val (.load none (.t 66)), (some (65, false))⟩,
    ⟨(some 68), .val (.bin .str .neq (.t 67) (.c (.str []))), (some (65, false))⟩,
    ⟨(some 69), .val (.mov (.t 68)), (some (65, false))⟩,
    ⟨(some 70), .val (.mov (.t 3)), (some (69, true))⟩,
    ⟨(some 71), .val (.un .not (.t 70)), (some (69, true))⟩,
    ⟨(some 72), .val (.pick (.t 69) (.t 71) (.c (.bool false))), (some (65, false))⟩,
    ⟨(some 73), .val (.pick (.t 65) (.c (.bool true)) (.t 72)), none⟩,
    ⟨(some 2), .val (.mov (.t 73)), none⟩]
def r52 : RC := .seq (.reg g52_0) (.seq (.reg g52_1) (.seq (.reg g52_2) (.ret)))
def o52 : List RR := [.tmp 2]
theorem k52 : chkC Tryz.prog 74 r52 (Tryz.f52.body.getD .skip) = true := by decide +kernel
theorem q52 : chkR Tryz.prog Tryz.f52.results.toList o52 = true := by decide +kernel

/- slices.ContainsFunc[[]wireschema/api.Slot,wireschema/api.Slot] -/
def g54_0 : List Am.Item := [
    ⟨(some 4), .val (.mov (.c (.bool false))), none⟩]
def g54_1 : List Am.Item := [
    ⟨(some 5), .val (.mov (.t 0)), none⟩,
    ⟨(some 6), .val (.mov (.t 1)), none⟩,
    ⟨(some 7), .callF (.f 73) [(.t 5), (.t 6)], none⟩,
    ⟨(some 8), .val (.bin .num .geq (.t 7) (.c (.int .i64 0))), none⟩,
    ⟨(some 4), .val (.mov (.t 8)), none⟩]
def r54 : RC := .seq (.reg g54_0) (.seq (.reg g54_1) (.ret))
def o54 : List RR := [.tmp 4]
theorem k54 : chkC Tryz.prog 9 r54 (Tryz.f54.body.getD .skip) = true := by decide +kernel
theorem q54 : chkR Tryz.prog Tryz.f54.results.toList o54 = true := by decide +kernel

/- wireschema/check.lists -/
def g58_0 : List Am.Item := [
    ⟨(some 1), .boxN 1 (.t 0), none⟩,
    ⟨(some 2), .allocN 2 [.nils, .nils, .nils], none⟩]
def g58_1 : List Am.Item := [
    ⟨(some 3), .allocN 3 [.nils, .nils, .nils], none⟩]
def g58_2 : List Am.Item := [
    ⟨(some 10), .val (.faddr 0 (.t 1)), none⟩,
    ⟨(some 11), .val (.load none (.t 10)), none⟩,
    ⟨(some 12), .val (.len 1 (.t 11)), none⟩,
    ⟨(some 13), .val (.mov (.c (.int .i64 0))), none⟩]
def g58_3 : List Am.Item := [
    ⟨(some 14), .val (.bin .num .lss (.t 13) (.t 12)), none⟩]
def g58_4 : List Am.Item := [
    ⟨(some 15), .val (.iaddr 5 none (.t 11) (.t 13)), none⟩,
    ⟨(some 16), .val (.load (some 5) (.t 15)), none⟩,
    ⟨(some 5), .allocN 5 [.str [], .nils, .nils, .nils, .nils], none⟩,
    ⟨none, .store 5 (.t 5) (.t 16), none⟩]
def g58_5 : List Am.Item := [
    ⟨(some 17), .val (.iaddr 1 (some 3) (.t 3) (.c (.int .i64 0))), none⟩,
    ⟨(some 18), .val (.load none (.t 17)), none⟩,
    ⟨(some 19), .val (.faddr 0 (.t 5)), none⟩,
    ⟨(some 20), .val (.load none (.t 19)), none⟩,
    ⟨(some 21), .bsl 1 1 [.str []] [(0, 1, (.t 20))], none⟩,
    ⟨(some 22), .app 1 16 9 (.t 18) (.t 21), none⟩,
    ⟨(some 23), .val (.iaddr 1 (some 3) (.t 3) (.c (.int .i64 0))), none⟩,
    ⟨none, .store 1 (.t 23) (.t 22), none⟩]
def g58_6 : List Am.Item := [
    ⟨(some 24), .val (.bin .num .add (.t 13) (.c (.int .i64 1))), none⟩,
    ⟨(some 13), .val (.mov (.t 24)), none⟩]
def l58_0 : RC := .gho (.drop 5) (.seq (.reg g58_3) (.seq (.cond (.t 14) (.skip) (.exit 0)) (.seq (.block 1 (.seq (.reg g58_4) (.reg g58_5))) (.reg g58_6))))
def g58_7 : List Am.Item := [
    ⟨(some 25), .val (.faddr 1 (.t 1)), none⟩,
    ⟨(some 26), .val (.load none (.t 25)), none⟩,
    ⟨(some 27), .val (.len 1 (.t 26)), none⟩,
    ⟨(some 28), .val (.mov (.c (.int .i64 0))), none⟩]
def g58_8 : List Am.Item := [
    ⟨(some 29), .val (.bin .num .lss (.t 28) (.t 27)), none⟩]
def g58_9 : List Am.Item := [
    ⟨(some 30), .val (.iaddr 5 none (.t 26) (.t 28)), none⟩,
    ⟨(some 31), .val (.load (some 5) (.t 30)), none⟩,
    ⟨(some 7), .allocN 7 [.str [], .bool false, .nils, .nils, .nils], none⟩,
    ⟨none, .store 5 (.t 7) (.t 31), none⟩]
def g58_10 : List Am.Item := [
    ⟨(some 32), .val (.iaddr 1 (some 3) (.t 3) (.c (.int .i64 1))), none⟩,
    ⟨(some 33), .val (.load none (.t 32)), none⟩,
    ⟨(some 34), .val (.faddr 0 (.t 7)), none⟩,
    ⟨(some 35), .val (.load none (.t 34)), none⟩,
    ⟨(some 36), .bsl 1 1 [.str []] [(0, 1, (.t 35))], none⟩,
    ⟨(some 37), .app 1 16 9 (.t 33) (.t 36), none⟩,
    ⟨(some 38), .val (.iaddr 1 (some 3) (.t 3) (.c (.int .i64 1))), none⟩,
    ⟨none, .store 1 (.t 38) (.t 37), none⟩]
def g58_11 : List Am.Item := [
    ⟨(some 39), .val (.bin .num .add (.t 28) (.c (.int .i64 1))), none⟩,
    ⟨(some 28), .val (.mov (.t 39)), none⟩]
def l58_1 : RC := .gho (.drop 7) (.seq (.reg g58_8) (.seq (.cond (.t 29) (.skip) (.exit 2)) (.seq (.block 3 (.seq (.reg g58_9) (.reg g58_10))) (.reg g58_11))))
def g58_12 : List Am.Item := [
    ⟨(some 40), .val (.faddr 2 (.t 1)), none⟩,
    ⟨(some 41), .val (.load none (.t 40)), none⟩,
    ⟨(some 42), .val (.len 1 (.t 41)), none⟩,
    ⟨(some 43), .val (.mov (.c (.int .i64 0))), none⟩]
def g58_13 : List Am.Item := [
    ⟨(some 44), .val (.bin .num .lss (.t 43) (.t 42)), none⟩]
def g58_14 : List Am.Item := [
    ⟨(some 45), .val (.iaddr 3 none (.t 41) (.t 43)), none⟩,
    ⟨(some 46), .val (.load (some 3) (.t 45)), none⟩,
    ⟨(some 9), .allocN 9 [.str [], .nils, .nils], none⟩,
    ⟨none, .store 3 (.t 9) (.t 46), none⟩]
def g58_15 : List Am.Item := [
    ⟨(some 47), .val (.iaddr 1 (some 3) (.t 3) (.c (.int .i64 2))), none⟩,
    ⟨(some 48), .val (.load none (.t 47)), none⟩,
    ⟨(some 49), .val (.faddr 0 (.t 9)), none⟩,
    ⟨(some 50), .val (.load none (.t 49)), none⟩,
    ⟨(some 51), .bsl 1 1 [.str []] [(0, 1, (.t 50))], none⟩,
    ⟨(some 52), .app 1 16 9 (.t 48) (.t 51), none⟩,
    ⟨(some 53), .val (.iaddr 1 (some 3) (.t 3) (.c (.int .i64 2))), none⟩,
    ⟨none, .store 1 (.t 53) (.t 52), none⟩]
def g58_16 : List Am.Item := [
    ⟨(some 54), .val (.bin .num .add (.t 43) (.c (.int .i64 1))), none⟩,
    ⟨(some 43), .val (.mov (.t 54)), none⟩]
def l58_2 : RC := .gho (.drop 9) (.seq (.reg g58_13) (.seq (.cond (.t 44) (.skip) (.exit 4)) (.seq (.block 5 (.seq (.reg g58_14) (.reg g58_15))) (.reg g58_16))))
def g58_17 : List Am.Item := [
    ⟨(some 55), .val (.load (some 3) (.t 3)), none⟩,
    ⟨none, .store 3 (.t 2) (.t 55), none⟩]
def r58 : RC := .seq (.reg g58_0) (.seq (.reg g58_1) (.gho (.vecc 3 0 1100 1) (.gho (.vecc 3 1 1101 1) (.gho (.vecc 3 2 1102 1) (.seq (.seq (.reg g58_2) (.block 0 (.loop l58_0))) (.seq (.seq (.reg g58_7) (.block 2 (.loop l58_1))) (.seq (.seq (.reg g58_12) (.block 4 (.loop l58_2))) (.seq (.reg g58_17) (.ret)))))))))
def o58 : List RR := [.cell 2 (some 3)]
theorem k58 : chkC Tryz.prog 56 r58 (Tryz.f58.body.getD .skip) = true := by decide +kernel
theorem q58 : chkR Tryz.prog Tryz.f58.results.toList o58 = true := by decide +kernel

/- (*wireschema/check.finder).unless -/
def g59_0 : List Am.Item := [
    ⟨(some 6), .val (.mov (.t 1)), none⟩,
    ⟨(some 7), .val (.un .not (.t 6)), none⟩]
def g59_1 : List Am.Item := [
    ⟨(some 8), .val (.mov (.t 0)), none⟩,
    ⟨(some 9), .val (.mov (.t 0)), none⟩,
    ⟨(some 10), .val (.nilck (.t 9)), none⟩,
    ⟨(some 11), .val (.faddr 2 (.t 10)), none⟩,
    ⟨(some 12), .val (.loado none (.t 11)), none⟩,
    ⟨(some 13), .val (.mov (.t 0)), none⟩,
    ⟨(some 14), .val (.nilck (.t 13)), none⟩,
    ⟨(some 15), .val (.faddr 0 (.t 14)), none⟩,
    ⟨(some 16), .val (.loado none (.t 15)), none⟩,
    ⟨(some 17), .val (.mov (.t 0)), none⟩,
    ⟨(some 18), .val (.nilck (.t 17)), none⟩,
    ⟨(some 19), .val (.faddr 1 (.t 18)), none⟩,
    ⟨(some 20), .val (.loado none (.t 19)), none⟩,
    ⟨(some 21), .val (.mov (.t 2)), none⟩,
    ⟨(some 22), .val (.build [.str [], .int .i64 0, .int .i64 0] [(0, 1, (.t 16)), (1, 1, (.t 20)), (2, 1, (.t 21))]), none⟩,
    ⟨(some 23), .bsl 3 1 [.str [], .int .i64 0, .int .i64 0] [(0, 3, (.t 22))], none⟩,
    ⟨(some 24), .app 3 32 141 (.t 12) (.t 23), none⟩,
    ⟨(some 25), .val (.nilck (.t 8)), none⟩,
    ⟨(some 26), .val (.faddr 2 (.t 25)), none⟩,
    ⟨none, .store 1 (.t 26) (.t 24), none⟩]
def r59 : RC := .seq (.reg g59_0) (.cond (.t 7) (.draw g59_1) (.skip))
def o59 : List RR := []
theorem k59 : chkC Tryz.prog 27 r59 (Tryz.f59.body.getD .skip) = true := by decide +kernel
theorem q59 : chkR Tryz.prog Tryz.f59.results.toList o59 = true := by decide +kernel

/- wireschema/check.rising -/
def g60_0 : List Am.Item := [
    ⟨(some 2), .val (.mov (.c (.bool false))), none⟩]
def g60_1 : List Am.Item := [
    ⟨(some 3), .val (.mov (.c (.int .i64 1))), none⟩]
def g60_2 : List Am.Item := [
    ⟨(some 4), .val (.mov (.t 3)), none⟩,
    ⟨(some 5), .val (.mov (.t 0)), none⟩,
    ⟨(some 6), .val (.len 1 (.t 5)), none⟩,
    ⟨(some 7), .val (.bin .num .lss (.t 4) (.t 6)), none⟩]
def g60_4 : List Am.Item := [
    ⟨(some 10), .val (.mov (.t 0)), none⟩,
    ⟨(some 11), .val (.mov (.t 3)), none⟩,
    ⟨(some 12), .val (.iaddr 1 none (.t 10) (.t 11)), none⟩,
    ⟨(some 13), .val (.loadr none (.t 12)), none⟩,
    ⟨(some 14), .val (.mov (.t 0)), none⟩,
    ⟨(some 15), .val (.mov (.t 3)), none⟩,
    ⟨(some 16), .val (.bin .num .sub (.t 15) (.c (.int .i64 1))), none⟩,
    ⟨(some 17), .val (.iaddr 1 none (.t 14) (.t 16)), none⟩,
    ⟨(some 18), .val (.loadr none (.t 17)), none⟩,
    ⟨(some 19), .val (.bin .str .leq (.t 13) (.t 18)), none⟩]
def g60_5 : List Am.Item := [
    ⟨(some 2), .val (.mov (.c (.bool false))), none⟩]
def g60_3 : List Am.Item := [
    ⟨(some 8), .val (.mov (.t 3)), none⟩,
    ⟨(some 9), .val (.bin .num .add (.t 8) (.c (.int .i64 1))), none⟩,
    ⟨(some 3), .val (.mov (.t 9)), none⟩]
def l60_0 : RC := .seq (.seq (.reg g60_2) (.cond (.t 7) (.skip) (.exit 0))) (.seq (.block 1 (.seq (.draw g60_4) (.cond (.t 19) (.seq (.reg g60_5) (.ret)) (.skip)))) (.reg g60_3))
def g60_6 : List Am.Item := [
    ⟨(some 2), .val (.mov (.c (.bool true))), none⟩]
def r60 : RC := .seq (.reg g60_0) (.seq (.seq (.reg g60_1) (.block 0 (.loop l60_0))) (.seq (.reg g60_6) (.ret)))
def o60 : List RR := [.tmp 2]
theorem k60 : chkC Tryz.prog 20 r60 (Tryz.f60.body.getD .skip) = true := by decide +kernel
theorem q60 : chkR Tryz.prog Tryz.f60.results.toList o60 = true := by decide +kernel

/- wireschema/check.apart -/
def g61_0 : List Am.Item := [
    ⟨(some 1), .boxN 1 (.t 0), none⟩,
    ⟨(some 2), .val (.mov (.c (.bool false))), none⟩]
def g61_1 : List Am.Item := [
    ⟨(some 5), .val (.mov (.c (.int .i64 0))), none⟩]
def g61_2 : List Am.Item := [
    ⟨(some 6), .val (.bin .num .lss (.t 5) (.c (.int .i64 3))), none⟩]
def g61_3 : List Am.Item := [
    ⟨(some 7), .val (.mov (.t 5)), none⟩,
    ⟨(some 3), .val (.mov (.t 7)), none⟩]
def g61_4 : List Am.Item := [
    ⟨(some 8), .val (.mov (.t 3)), none⟩,
    ⟨(some 9), .val (.mov (.c (.int .i64 0))), none⟩]
def g61_5 : List Am.Item := [
    ⟨(some 10), .val (.bin .num .lss (.t 9) (.t 8)), none⟩]
def g61_6 : List Am.Item := [
    ⟨(some 11), .val (.mov (.t 9)), none⟩,
    ⟨(some 4), .allocN 4 [.int .i64 0], none⟩,
    ⟨none, .store 1 (.t 4) (.t 11), none⟩]
def g61_7 : List Am.Item := [
    ⟨(some 12), .val (.mov (.t 3)), none⟩,
    ⟨(some 13), .val (.iaddr 1 (some 3) (.t 1) (.t 12)), none⟩,
    ⟨(some 14), .val (.load none (.t 13)), none⟩,
    ⟨(some 15), .val (.mkfn (.func 76) [] [(.t 1), (.t 4)]), none⟩,
    ⟨(some 16), .callF (.f 75) [(.t 14), (.t 15)], none⟩]
def g61_8 : List Am.Item := [
    ⟨(some 2), .val (.mov (.c (.bool false))), none⟩]
def g61_9 : List Am.Item := [
    ⟨(some 17), .val (.bin .num .add (.t 9) (.c (.int .i64 1))), none⟩,
    ⟨(some 9), .val (.mov (.t 17)), none⟩]
def l61_0 : RC := .gho (.drop 4) (.seq (.reg g61_5) (.seq (.cond (.t 10) (.skip) (.exit 2)) (.seq (.block 3 (.seq (.reg g61_6) (.seq (.reg g61_7) (.cond (.t 16) (.seq (.reg g61_8) (.ret)) (.skip))))) (.reg g61_9))))
def g61_10 : List Am.Item := [
    ⟨(some 18), .val (.bin .num .add (.t 5) (.c (.int .i64 1))), none⟩,
    ⟨(some 5), .val (.mov (.t 18)), none⟩]
def l61_1 : RC := .gho (.drop 4) (.seq (.reg g61_2) (.seq (.cond (.t 6) (.skip) (.exit 0)) (.seq (.block 1 (.seq (.reg g61_3) (.seq (.reg g61_4) (.block 2 (.loop l61_0))))) (.reg g61_10))))
def g61_11 : List Am.Item := [
    ⟨(some 2), .val (.mov (.c (.bool true))), none⟩]
def r61 : RC := .seq (.reg g61_0) (.seq (.seq (.reg g61_1) (.block 0 (.loop l61_1))) (.seq (.reg g61_11) (.ret)))
def o61 : List RR := [.tmp 2]
theorem k61 : chkC Tryz.prog 19 r61 (Tryz.f61.body.getD .skip) = true := by decide +kernel
theorem q61 : chkR Tryz.prog Tryz.f61.results.toList o61 = true := by decide +kernel

/- wireschema/check.finite -/
def g62_0 : List Am.Item := [
    ⟨(some 1), .boxN 1 (.t 0), none⟩,
    ⟨(some 2), .val (.mov (.c (.nilm))), none⟩]
def g62_1 : List Am.Item := [
    ⟨(some 9), .mkm 9, none⟩,
    ⟨(some 3), .allocN 3 [.nilm], none⟩,
    ⟨none, .store 1 (.t 3) (.t 9), none⟩]
def g62_2 : List Am.Item := [
    ⟨(some 10), .val (.faddr 0 (.t 1)), none⟩,
    ⟨(some 11), .val (.load none (.t 10)), none⟩,
    ⟨(some 12), .val (.len 1 (.t 11)), none⟩,
    ⟨(some 13), .val (.bin .num .add (.t 12) (.c (.int .i64 1))), none⟩,
    ⟨(some 14), .val (.mov (.c (.int .i64 0))), none⟩]
def g62_3 : List Am.Item := [
    ⟨(some 15), .val (.bin .num .lss (.t 14) (.t 13)), none⟩]
def g62_4 : List Am.Item := [
    ⟨(some 16), .val (.faddr 0 (.t 1)), none⟩,
    ⟨(some 17), .val (.load none (.t 16)), none⟩,
    ⟨(some 18), .val (.len 1 (.t 17)), none⟩,
    ⟨(some 19), .val (.mov (.c (.int .i64 0))), none⟩]
def g62_5 : List Am.Item := [
    ⟨(some 20), .val (.bin .num .lss (.t 19) (.t 18)), none⟩]
def g62_6 : List Am.Item := [
    ⟨(some 21), .val (.iaddr 5 none (.t 17) (.t 19)), none⟩,
    ⟨(some 22), .val (.load (some 5) (.t 21)), none⟩,
    ⟨(some 5), .allocN 5 [.str [], .nils, .nils, .nils, .nils], none⟩,
    ⟨none, .store 5 (.t 5) (.t 22), none⟩]
def g62_7 : List Am.Item := [
    ⟨(some 24), .val (.load (some 3) (.t 1)), none⟩,
    ⟨(some 25), .val (.faddr 0 (.t 5)), none⟩,
    ⟨(some 26), .val (.load none (.t 25)), none⟩,
    ⟨(some 27), .call (.f 77) [(.t 24), (.t 26)], none⟩,
    ⟨(some 23), .val (.mov (.t 27)), none⟩,
    ⟨(some 28), .val (.ext (.t 23) 0), none⟩,
    ⟨(some 29), .val (.ext (.t 23) 1), none⟩,
    ⟨(some 6), .allocN 6 [.str [], .nils, .nils, .nils, .nils], none⟩,
    ⟨none, .store 5 (.t 6) (.t 28), none⟩,
    ⟨(some 7), .val (.mov (.t 29)), none⟩]
def g62_8 : List Am.Item := [
    ⟨(some 30), .val (.load (some 5) (.t 6)), none⟩,
    ⟨(some 31), .call (.f 78) [(.t 30)], none⟩,
    ⟨(some 32), .val (.mkfn (.func 79) [] [(.t 1), (.t 3)]), none⟩,
    ⟨(some 33), .callF (.f 75) [(.t 31), (.t 32)], none⟩,
    ⟨(some 8), .val (.mov (.t 33)), none⟩]
def g62_9 : List Am.Item := [
    ⟨(some 34), .val (.mov (.t 8)), none⟩,
    ⟨(some 35), .val (.un .not (.t 34)), none⟩]
def g62_10 : List Am.Item := [
    ⟨(some 36), .val (.load none (.t 3)), none⟩,
    ⟨(some 37), .val (.faddr 0 (.t 5)), none⟩,
    ⟨(some 38), .val (.load none (.t 37)), none⟩,
    ⟨none, .mput (.t 36) (.t 38) (.c (.bool true)), none⟩]
def g62_11 : List Am.Item := [
    ⟨(some 39), .val (.bin .num .add (.t 19) (.c (.int .i64 1))), none⟩,
    ⟨(some 19), .val (.mov (.t 39)), none⟩]
def l62_0 : RC := .gho (.drop 6) (.gho (.drop 5) (.seq (.reg g62_5) (.seq (.cond (.t 20) (.skip) (.exit 2)) (.seq (.block 3 (.seq (.reg g62_6) (.seq (.reg g62_7) (.seq (.reg g62_8) (.seq (.reg g62_9) (.cond (.t 35) (.reg g62_10) (.skip))))))) (.reg g62_11)))))
def g62_12 : List Am.Item := [
    ⟨(some 40), .val (.bin .num .add (.t 14) (.c (.int .i64 1))), none⟩,
    ⟨(some 14), .val (.mov (.t 40)), none⟩]
def l62_1 : RC := .gho (.drop 6) (.gho (.drop 5) (.seq (.reg g62_3) (.seq (.cond (.t 15) (.skip) (.exit 0)) (.seq (.block 1 (.seq (.reg g62_4) (.block 2 (.loop l62_0)))) (.reg g62_12)))))
def g62_13 : List Am.Item := [
    ⟨(some 41), .val (.load none (.t 3)), none⟩,
    ⟨(some 2), .val (.mov (.t 41)), none⟩]
def r62 : RC := .seq (.reg g62_0) (.seq (.reg g62_1) (.seq (.seq (.reg g62_2) (.block 0 (.loop l62_1))) (.seq (.reg g62_13) (.ret))))
def o62 : List RR := [.tmp 2]
theorem k62 : chkC Tryz.prog 42 r62 (Tryz.f62.body.getD .skip) = true := by decide +kernel
theorem q62 : chkR Tryz.prog Tryz.f62.results.toList o62 = true := by decide +kernel

/- wireschema/check.inMessage -/
def g63_0 : List Am.Item := [
    ⟨(some 3), .boxN 3 (.t 0), none⟩,
    ⟨(some 4), .boxN 4 (.t 1), none⟩,
    ⟨(some 6), .val (.mov (.c (.nils))), none⟩]
def g63_1 : List Am.Item := [
    ⟨(some 11), .val (.faddr 0 (.t 4)), none⟩,
    ⟨(some 12), .val (.load none (.t 11)), none⟩,
    ⟨(some 13), .val (.build [.str [], .int .i64 0, .nils] [(0, 1, (.t 12)), (1, 1, (.c (.int .i64 (-1))))]), none⟩,
    ⟨(some 14), .boxN 14 (.t 13), none⟩,
    ⟨(some 7), .val (.mov (.t 14)), none⟩]
def g63_2 : List Am.Item := [
    ⟨(some 15), .val (.mov (.t 7)), none⟩,
    ⟨(some 16), .val (.faddr 0 (.t 4)), none⟩,
    ⟨(some 17), .val (.load none (.t 16)), none⟩,
    ⟨(some 18), .call (.f 80) [(.t 17)], none⟩,
    ⟨(some 19), .callF (.f 59) [(.t 15), (.t 18), (.c (.int .i64 8))], none⟩]
def g63_3 : List Am.Item := [
    ⟨(some 20), .val (.mov (.t 7)), none⟩,
    ⟨(some 21), .val (.faddr 1 (.t 4)), none⟩,
    ⟨(some 22), .val (.load none (.t 21)), none⟩,
    ⟨(some 23), .val (.len 1 (.t 22)), none⟩,
    ⟨(some 24), .val (.bin .num .leq (.t 23) (.c (.int .i64 64))), none⟩,
    ⟨(some 25), .val (.mov (.t 24)), none⟩,
    ⟨(some 26), .val (.faddr 2 (.t 4)), (some (25, true))⟩,
    ⟨(some 27), .val (.load none (.t 26)), (some (25, true))⟩,
    ⟨(some 28), .val (.len 1 (.t 27)), (some (25, true))⟩,
    ⟨(some 29), .val (.faddr 3 (.t 4)), (some (25, true))⟩,
    ⟨(some 30), .val (.load none (.t 29)), (some (25, true))⟩,
    ⟨(some 31), .val (.len 1 (.t 30)), (some (25, true))⟩,
    ⟨(some 32), .val (.mnx true (.t 28) (.t 31)), (some (25, true))⟩,
    ⟨(some 33), .val (.bin .num .leq (.t 32) (.c (.int .i64 16))), (some (25, true))⟩,
    ⟨(some 34), .val (.pick (.t 25) (.t 33) (.c (.bool false))), none⟩,
    ⟨(some 35), .callF (.f 59) [(.t 20), (.t 34), (.c (.int .i64 3))], none⟩]
def g63_4 : List Am.Item := [
    ⟨(some 36), .val (.faddr 1 (.t 4)), none⟩,
    ⟨(some 37), .val (.load none (.t 36)), none⟩,
    ⟨(some 38), .val (.len 1 (.t 37)), none⟩,
    ⟨(some 39), .val (.mov (.c (.int .i64 0))), none⟩]
def g63_5 : List Am.Item := [
    ⟨(some 40), .val (.bin .num .lss (.t 39) (.t 38)), none⟩]
def g63_6 : List Am.Item := [
    ⟨(some 41), .val (.mov (.t 39)), none⟩,
    ⟨(some 8), .val (.mov (.t 41)), none⟩]
def g63_7 : List Am.Item := [
    ⟨(some 42), .val (.mov (.t 7)), none⟩,
    ⟨(some 43), .val (.load (some 3) (.t 3)), none⟩,
    ⟨(some 44), .val (.load (some 5) (.t 4)), none⟩,
    ⟨(some 45), .val (.mov (.t 8)), none⟩,
    ⟨(some 46), .callF (.f 81) [(.t 42), (.t 43), (.t 44), (.t 45)], none⟩]
def g63_8 : List Am.Item := [
    ⟨(some 47), .val (.bin .num .add (.t 39) (.c (.int .i64 1))), none⟩,
    ⟨(some 39), .val (.mov (.t 47)), none⟩]
def l63_0 : RC := .seq (.reg g63_5) (.seq (.cond (.t 40) (.skip) (.exit 0)) (.seq (.block 1 (.seq (.reg g63_6) (.reg g63_7))) (.reg g63_8)))
def g63_9 : List Am.Item := [
    ⟨(some 48), .val (.mov (.t 7)), none⟩,
    ⟨(some 49), .val (.faddr 2 (.t 4)), none⟩,
    ⟨(some 50), .val (.load none (.t 49)), none⟩,
    ⟨(some 51), .callF (.f 82) [(.t 48), (.t 50), (.c (.int .i64 1)), (.c (.int .i64 65535))], none⟩]
def g63_10 : List Am.Item := [
    ⟨(some 52), .val (.faddr 3 (.t 4)), none⟩,
    ⟨(some 53), .val (.load none (.t 52)), none⟩,
    ⟨(some 54), .val (.len 1 (.t 53)), none⟩,
    ⟨(some 55), .val (.mov (.c (.int .i64 0))), none⟩]
def g63_11 : List Am.Item := [
    ⟨(some 56), .val (.bin .num .lss (.t 55) (.t 54)), none⟩]
def g63_12 : List Am.Item := [
    ⟨(some 57), .val (.iaddr 1 none (.t 53) (.t 55)), none⟩,
    ⟨(some 58), .val (.load none (.t 57)), none⟩,
    ⟨(some 10), .val (.mov (.t 58)), none⟩]
def g63_13 : List Am.Item := [
    ⟨(some 59), .val (.mov (.t 7)), none⟩,
    ⟨(some 60), .val (.mov (.t 10)), none⟩,
    ⟨(some 61), .call (.f 83) [(.t 60)], none⟩,
    ⟨(some 62), .callF (.f 59) [(.t 59), (.t 61), (.c (.int .i64 7))], none⟩]
def g63_14 : List Am.Item := [
    ⟨(some 63), .val (.bin .num .add (.t 55) (.c (.int .i64 1))), none⟩,
    ⟨(some 55), .val (.mov (.t 63)), none⟩]
def l63_1 : RC := .seq (.reg g63_11) (.seq (.cond (.t 56) (.skip) (.exit 2)) (.seq (.block 3 (.seq (.reg g63_12) (.reg g63_13))) (.reg g63_14)))
def g63_15 : List Am.Item := [
    ⟨(some 64), .val (.mov (.t 7)), none⟩,
    ⟨(some 65), .val (.faddr 4 (.t 4)), none⟩,
    ⟨(some 66), .val (.load none (.t 65)), none⟩,
    ⟨(some 67), .callF (.f 84) [(.t 64), (.t 66), (.c (.int .i64 1))], none⟩]
def g63_16 : List Am.Item := [
    ⟨(some 68), .val (.mov (.t 7)), none⟩,
    ⟨(some 69), .val (.load (some 3) (.t 3)), none⟩,
    ⟨(some 70), .val (.load (some 5) (.t 4)), none⟩,
    ⟨(some 71), .val (.mov (.t 2)), none⟩,
    ⟨(some 72), .call (.f 85) [(.t 69), (.t 70), (.t 71)], none⟩,
    ⟨(some 73), .val (.un .not (.t 72)), none⟩,
    ⟨(some 74), .callF (.f 59) [(.t 68), (.t 73), (.c (.int .i64 19))], none⟩]
def g63_17 : List Am.Item := [
    ⟨(some 75), .val (.mov (.t 7)), none⟩,
    ⟨(some 76), .val (.nilck (.t 75)), none⟩,
    ⟨(some 77), .val (.faddr 2 (.t 76)), none⟩,
    ⟨(some 78), .val (.load none (.t 77)), none⟩,
    ⟨(some 6), .val (.mov (.t 78)), none⟩]
def r63 : RC := .seq (.reg g63_0) (.seq (.reg g63_1) (.seq (.reg g63_2) (.seq (.reg g63_3) (.seq (.seq (.reg g63_4) (.block 0 (.loop l63_0))) (.seq (.reg g63_9) (.seq (.seq (.reg g63_10) (.block 2 (.loop l63_1))) (.seq (.reg g63_15) (.seq (.reg g63_16) (.seq (.reg g63_17) (.ret))))))))))
def o63 : List RR := [.tmp 6]
theorem k63 : chkC Tryz.prog 79 r63 (Tryz.f63.body.getD .skip) = true := by decide +kernel
theorem q63 : chkR Tryz.prog Tryz.f63.results.toList o63 = true := by decide +kernel

/- slices.IndexFunc[[]wireschema/api.Message,wireschema/api.Message] -/
def g66_0 : List Am.Item := [
    ⟨(some 4), .val (.mov (.c (.int .i64 0))), none⟩]
def g66_1 : List Am.Item := [
    ⟨(some 6), .val (.mov (.t 0)), none⟩,
    ⟨(some 7), .val (.len 1 (.t 6)), none⟩,
    ⟨(some 8), .val (.mov (.c (.int .i64 0))), none⟩]
def g66_2 : List Am.Item := [
    ⟨(some 9), .val (.bin .num .lss (.t 8) (.t 7)), none⟩]
def g66_3 : List Am.Item := [
    ⟨(some 10), .val (.mov (.t 8)), none⟩,
    ⟨(some 5), .val (.mov (.t 10)), none⟩]
def g66_4 : List Am.Item := [
    ⟨(some 11), .val (.mov (.t 1)), none⟩,
    ⟨(some 12), .val (.mov (.t 0)), none⟩,
    ⟨(some 13), .val (.mov (.t 5)), none⟩,
    ⟨(some 14), .val (.iaddr 5 none (.t 12) (.t 13)), none⟩,
    ⟨(some 15), .val (.load (some 5) (.t 14)), none⟩,
    ⟨(some 16), .callF (.t 11) [(.t 15)], none⟩]
def g66_5 : List Am.Item := [
    ⟨(some 17), .val (.mov (.t 5)), none⟩,
    ⟨(some 4), .val (.mov (.t 17)), none⟩]
def g66_6 : List Am.Item := [
    ⟨(some 18), .val (.bin .num .add (.t 8) (.c (.int .i64 1))), none⟩,
    ⟨(some 8), .val (.mov (.t 18)), none⟩]
def l66_0 : RC := .seq (.reg g66_2) (.seq (.cond (.t 9) (.skip) (.exit 0)) (.seq (.block 1 (.seq (.reg g66_3) (.seq (.reg g66_4) (.cond (.t 16) (.seq (.reg g66_5) (.ret)) (.skip))))) (.reg g66_6)))
def g66_7 : List Am.Item := [
    ⟨(some 4), .val (.mov (.c (.int .i64 (-1)))), none⟩]
def r66 : RC := .seq (.reg g66_0) (.seq (.seq (.reg g66_1) (.block 0 (.loop l66_0))) (.seq (.reg g66_7) (.ret)))
def o66 : List RR := [.tmp 4]
theorem k66 : chkC Tryz.prog 19 r66 (Tryz.f66.body.getD .skip) = true := by decide +kernel
theorem q66 : chkR Tryz.prog Tryz.f66.results.toList o66 = true := by decide +kernel

/- wireschema/note.index -/
def g70_0 : List Am.Item := [
    ⟨(some 3), .boxN 3 (.t 1), none⟩,
    ⟨(some 4), .val (.mov (.c (.int .i64 0))), none⟩]
def g70_1 : List Am.Item := [
    ⟨(some 5), .val (.mov (.t 0)), none⟩,
    ⟨(some 6), .val (.mkfn (.func 91) [] [(.t 3)]), none⟩,
    ⟨(some 7), .callF (.f 90) [(.t 5), (.t 6)], none⟩,
    ⟨(some 4), .val (.mov (.t 7)), none⟩]
def r70 : RC := .seq (.reg g70_0) (.seq (.reg g70_1) (.ret))
def o70 : List RR := [.tmp 4]
theorem k70 : chkC Tryz.prog 8 r70 (Tryz.f70.body.getD .skip) = true := by decide +kernel
theorem q70 : chkR Tryz.prog Tryz.f70.results.toList o70 = true := by decide +kernel

/- slices.IndexFunc[[]wireschema/api.Slot,wireschema/api.Slot] -/
def g73_0 : List Am.Item := [
    ⟨(some 4), .val (.mov (.c (.int .i64 0))), none⟩]
def g73_1 : List Am.Item := [
    ⟨(some 6), .val (.mov (.t 0)), none⟩,
    ⟨(some 7), .val (.len 1 (.t 6)), none⟩,
    ⟨(some 8), .val (.mov (.c (.int .i64 0))), none⟩]
def g73_2 : List Am.Item := [
    ⟨(some 9), .val (.bin .num .lss (.t 8) (.t 7)), none⟩]
def g73_3 : List Am.Item := [
    ⟨(some 10), .val (.mov (.t 8)), none⟩,
    ⟨(some 5), .val (.mov (.t 10)), none⟩]
def g73_4 : List Am.Item := [
    ⟨(some 11), .val (.mov (.t 1)), none⟩,
    ⟨(some 12), .val (.mov (.t 0)), none⟩,
    ⟨(some 13), .val (.mov (.t 5)), none⟩,
    ⟨(some 14), .val (.iaddr 8 none (.t 12) (.t 13)), none⟩,
    ⟨(some 15), .val (.load (some 8) (.t 14)), none⟩,
    ⟨(some 16), .callF (.t 11) [(.t 15)], none⟩]
def g73_5 : List Am.Item := [
    ⟨(some 17), .val (.mov (.t 5)), none⟩,
    ⟨(some 4), .val (.mov (.t 17)), none⟩]
def g73_6 : List Am.Item := [
    ⟨(some 18), .val (.bin .num .add (.t 8) (.c (.int .i64 1))), none⟩,
    ⟨(some 8), .val (.mov (.t 18)), none⟩]
def l73_0 : RC := .seq (.reg g73_2) (.seq (.cond (.t 9) (.skip) (.exit 0)) (.seq (.block 1 (.seq (.reg g73_3) (.seq (.reg g73_4) (.cond (.t 16) (.seq (.reg g73_5) (.ret)) (.skip))))) (.reg g73_6)))
def g73_7 : List Am.Item := [
    ⟨(some 4), .val (.mov (.c (.int .i64 (-1)))), none⟩]
def r73 : RC := .seq (.reg g73_0) (.seq (.seq (.reg g73_1) (.block 0 (.loop l73_0))) (.seq (.reg g73_7) (.ret)))
def o73 : List RR := [.tmp 4]
theorem k73 : chkC Tryz.prog 19 r73 (Tryz.f73.body.getD .skip) = true := by decide +kernel
theorem q73 : chkR Tryz.prog Tryz.f73.results.toList o73 = true := by decide +kernel

/- slices.ContainsFunc[[]string,string] -/
def g75_0 : List Am.Item := [
    ⟨(some 4), .val (.mov (.c (.bool false))), none⟩]
def g75_1 : List Am.Item := [
    ⟨(some 5), .val (.mov (.t 0)), none⟩,
    ⟨(some 6), .val (.mov (.t 1)), none⟩,
    ⟨(some 7), .callF (.f 94) [(.t 5), (.t 6)], none⟩,
    ⟨(some 8), .val (.bin .num .geq (.t 7) (.c (.int .i64 0))), none⟩,
    ⟨(some 4), .val (.mov (.t 8)), none⟩]
def r75 : RC := .seq (.reg g75_0) (.seq (.reg g75_1) (.ret))
def o75 : List RR := [.tmp 4]
theorem k75 : chkC Tryz.prog 9 r75 (Tryz.f75.body.getD .skip) = true := by decide +kernel
theorem q75 : chkR Tryz.prog Tryz.f75.results.toList o75 = true := by decide +kernel

/- wireschema/check.message -/
def g77_0 : List Am.Item := [
    ⟨(some 2), .boxN 2 (.t 0), none⟩,
    ⟨(some 3), .boxN 3 (.t 1), none⟩,
    ⟨(some 4), .allocN 4 [.str [], .nils, .nils, .nils, .nils], none⟩,
    ⟨(some 5), .val (.mov (.c (.bool false))), none⟩]
def g77_1 : List Am.Item := [
    ⟨(some 7), .val (.faddr 0 (.t 2)), none⟩,
    ⟨(some 8), .val (.load none (.t 7)), none⟩,
    ⟨(some 9), .val (.mkfn (.func 95) [] [(.t 3)]), none⟩,
    ⟨(some 10), .callF (.f 66) [(.t 8), (.t 9)], none⟩,
    ⟨(some 6), .val (.mov (.t 10)), none⟩]
def g77_2 : List Am.Item := [
    ⟨(some 11), .val (.mov (.t 6)), none⟩,
    ⟨(some 12), .val (.bin .num .lss (.t 11) (.c (.int .i64 0))), none⟩]
def g77_3 : List Am.Item := [
    ⟨(some 13), .val (.build [.str [], .nils, .nils, .nils, .nils] []), none⟩,
    ⟨none, .store 5 (.t 4) (.t 13), none⟩,
    ⟨(some 5), .val (.mov (.c (.bool false))), none⟩]
def g77_4 : List Am.Item := [
    ⟨(some 14), .val (.faddr 0 (.t 2)), none⟩,
    ⟨(some 15), .val (.load none (.t 14)), none⟩,
    ⟨(some 16), .val (.mov (.t 6)), none⟩,
    ⟨(some 17), .val (.iaddr 5 none (.t 15) (.t 16)), none⟩,
    ⟨(some 18), .val (.load (some 5) (.t 17)), none⟩,
    ⟨none, .store 5 (.t 4) (.t 18), none⟩,
    ⟨(some 5), .val (.mov (.c (.bool true))), none⟩]
def r77 : RC := .seq (.reg g77_0) (.seq (.reg g77_1) (.seq (.seq (.reg g77_2) (.cond (.t 12) (.seq (.reg g77_3) (.ret)) (.skip))) (.seq (.reg g77_4) (.ret))))
def o77 : List RR := [.cell 4 (some 5), .tmp 5]
theorem k77 : chkC Tryz.prog 19 r77 (Tryz.f77.body.getD .skip) = true := by decide +kernel
theorem q77 : chkR Tryz.prog Tryz.f77.results.toList o77 = true := by decide +kernel

/- wireschema/check.needs -/
def g78_0 : List Am.Item := [
    ⟨(some 1), .boxN 1 (.t 0), none⟩,
    ⟨(some 2), .val (.mov (.c (.nils))), none⟩]
def g78_1 : List Am.Item := [
    ⟨(some 3), .val (.mov (.c (.nils))), none⟩]
def g78_2 : List Am.Item := [
    ⟨(some 6), .val (.faddr 1 (.t 1)), none⟩,
    ⟨(some 7), .val (.load none (.t 6)), none⟩,
    ⟨(some 8), .val (.len 1 (.t 7)), none⟩,
    ⟨(some 9), .val (.mov (.c (.int .i64 0))), none⟩]
def g78_3 : List Am.Item := [
    ⟨(some 10), .val (.bin .num .lss (.t 9) (.t 8)), none⟩]
def g78_4 : List Am.Item := [
    ⟨(some 11), .val (.iaddr 16 none (.t 7) (.t 9)), none⟩,
    ⟨(some 12), .val (.load (some 16) (.t 11)), none⟩,
    ⟨(some 5), .allocN 5 [.int .i64 0, .str [], .int .i64 0, .int .i64 0, .int .i64 0, .str [], .str [], .bool false, .int .i64 0, .int .u64 0, .str [], .nils, .nils, .nils, .nils, .nils], none⟩,
    ⟨none, .store 16 (.t 5) (.t 12), none⟩]
def g78_5 : List Am.Item := [
    ⟨(some 13), .val (.faddr 2 (.t 5)), none⟩,
    ⟨(some 14), .val (.load none (.t 13)), none⟩,
    ⟨(some 15), .val (.bin .num .eql (.t 14) (.c (.int .i64 1))), none⟩,
    ⟨(some 16), .val (.mov (.t 15)), none⟩,
    ⟨(some 17), .val (.faddr 4 (.t 5)), (some (16, true))⟩,
    ⟨(some 18), .val (.faddr 0 (.t 17)), (some (16, true))⟩,
    ⟨(some 19), .val (.load none (.t 18)), (some (16, true))⟩,
    ⟨(some 20), .val (.bin .num .eql (.t 19) (.c (.int .i64 10))), (some (16, true))⟩,
    ⟨(some 21), .val (.pick (.t 16) (.t 20) (.c (.bool false))), none⟩]
def g78_6 : List Am.Item := [
    ⟨(some 22), .val (.mov (.t 3)), none⟩,
    ⟨(some 23), .val (.faddr 4 (.t 5)), none⟩,
    ⟨(some 24), .val (.faddr 1 (.t 23)), none⟩,
    ⟨(some 25), .val (.load none (.t 24)), none⟩,
    ⟨(some 26), .bsl 1 1 [.str []] [(0, 1, (.t 25))], none⟩,
    ⟨(some 27), .app 1 16 9 (.t 22) (.t 26), none⟩,
    ⟨(some 3), .val (.mov (.t 27)), none⟩]
def g78_7 : List Am.Item := [
    ⟨(some 28), .val (.bin .num .add (.t 9) (.c (.int .i64 1))), none⟩,
    ⟨(some 9), .val (.mov (.t 28)), none⟩]
def l78_0 : RC := .gho (.drop 5) (.seq (.reg g78_3) (.seq (.cond (.t 10) (.skip) (.exit 0)) (.seq (.block 1 (.seq (.reg g78_4) (.seq (.reg g78_5) (.cond (.t 21) (.reg g78_6) (.skip))))) (.reg g78_7))))
def g78_8 : List Am.Item := [
    ⟨(some 29), .val (.mov (.t 3)), none⟩,
    ⟨(some 2), .val (.mov (.t 29)), none⟩]
def r78 : RC := .seq (.reg g78_0) (.seq (.reg g78_1) (.gho (.vec 3 3 1) (.seq (.seq (.reg g78_2) (.block 0 (.loop l78_0))) (.seq (.reg g78_8) (.ret)))))
def o78 : List RR := [.tmp 2]
theorem k78 : chkC Tryz.prog 30 r78 (Tryz.f78.body.getD .skip) = true := by decide +kernel
theorem q78 : chkR Tryz.prog Tryz.f78.results.toList o78 = true := by decide +kernel

/- wireschema/check.usableName -/
def g80_0 : List Am.Item := [
    ⟨(some 2), .val (.mov (.c (.bool false))), none⟩]
def g80_1 : List Am.Item := [
    ⟨(some 3), .val (.mov (.t 0)), none⟩,
    ⟨(some 4), .call (.f 96) [(.t 3)], none⟩,
    ⟨(some 5), .val (.mov (.t 4)), none⟩,
    ⟨(some 6), .val (.mov (.t 0)), (some (5, true))⟩,
    ⟨(some 7), .call (.f 97) [(.t 6), (.c (.str [46]))], (some (5, true))⟩,
    ⟨(some 8), .callF (.f 75) [(.t 7), (.f 98)], (some (5, true))⟩,
    ⟨(some 9), .val (.un .not (.t 8)), (some (5, true))⟩,
    ⟨(some 10), .val (.pick (.t 5) (.t 9) (.c (.bool false))), none⟩,
    ⟨(some 2), .val (.mov (.t 10)), none⟩]
def r80 : RC := .seq (.reg g80_0) (.seq (.reg g80_1) (.ret))
def o80 : List RR := [.tmp 2]
theorem k80 : chkC Tryz.prog 11 r80 (Tryz.f80.body.getD .skip) = true := by decide +kernel
theorem q80 : chkR Tryz.prog Tryz.f80.results.toList o80 = true := by decide +kernel

/- (*wireschema/check.finder).field -/
def g81_0 : List Am.Item := [
    ⟨(some 5), .boxN 5 (.t 1), none⟩,
    ⟨(some 6), .boxN 6 (.t 2), none⟩]
def g81_1 : List Am.Item := [
    ⟨(some 9), .val (.faddr 1 (.t 6)), none⟩,
    ⟨(some 10), .val (.load none (.t 9)), none⟩,
    ⟨(some 11), .val (.mov (.t 3)), none⟩,
    ⟨(some 12), .val (.iaddr 16 none (.t 10) (.t 11)), none⟩,
    ⟨(some 13), .val (.load (some 16) (.t 12)), none⟩,
    ⟨(some 8), .allocN 8 [.int .i64 0, .str [], .int .i64 0, .int .i64 0, .int .i64 0, .str [], .str [], .bool false, .int .i64 0, .int .u64 0, .str [], .nils, .nils, .nils, .nils, .nils], none⟩,
    ⟨none, .store 16 (.t 8) (.t 13), none⟩]
def g81_2 : List Am.Item := [
    ⟨(some 14), .val (.mov (.t 0)), none⟩,
    ⟨(some 15), .val (.faddr 0 (.t 8)), none⟩,
    ⟨(some 16), .val (.load none (.t 15)), none⟩,
    ⟨(some 17), .val (.nilck (.t 14)), none⟩,
    ⟨(some 18), .val (.faddr 1 (.t 17)), none⟩,
    ⟨none, .store 1 (.t 18) (.t 16), none⟩]
def g81_3 : List Am.Item := [
    ⟨(some 19), .val (.mov (.t 0)), none⟩,
    ⟨(some 20), .val (.faddr 0 (.t 8)), none⟩,
    ⟨(some 21), .val (.load none (.t 20)), none⟩,
    ⟨(some 22), .val (.bin .num .geq (.t 21) (.c (.int .i64 1))), none⟩,
    ⟨(some 23), .val (.mov (.t 22)), none⟩,
    ⟨(some 24), .val (.faddr 0 (.t 8)), (some (23, true))⟩,
    ⟨(some 25), .val (.load none (.t 24)), (some (23, true))⟩,
    ⟨(some 26), .val (.bin .num .leq (.t 25) (.c (.int .i64 65535))), (some (23, true))⟩,
    ⟨(some 27), .val (.pick (.t 23) (.t 26) (.c (.bool false))), none⟩,
    ⟨(some 28), .callF (.f 59) [(.t 19), (.t 27), (.c (.int .i64 6))], none⟩]
def g81_4 : List Am.Item := [
    ⟨(some 29), .val (.mov (.t 0)), none⟩,
    ⟨(some 30), .val (.mov (.t 3)), none⟩,
    ⟨(some 31), .val (.bin .num .eql (.t 30) (.c (.int .i64 0))), none⟩,
    ⟨(some 32), .val (.mov (.t 31)), none⟩,
    ⟨(some 33), .val (.faddr 0 (.t 8)), (some (32, false))⟩,
    ⟨(some 34), .val (.loadv 0 8 none (.t 33)), (some (32, false))⟩,
    ⟨(some 35), .val (.faddr 1 (.t 6)), (some (32, false))⟩,
    ⟨(some 36), .val (.loadv 0 6 none (.t 35)), (some (32, false))⟩,
    ⟨(some 37), .val (.mov (.t 3)), (some (32, false))⟩,
    ⟨(some 38), .val (.bin .num .sub (.t 37) (.c (.int .i64 1))), (some (32, false))⟩,
    ⟨(some 39), .val (.iaddr 16 none (.t 36) (.t 38)), (some (32, false))⟩,
    ⟨(some 40), .val (.faddr 0 (.t 39)), (some (32, false))⟩,
    ⟨(some 41), .val (.loadr none (.t 40)), (some (32, false))⟩,
    ⟨(some 42), .val (.bin .num .gtr (.t 34) (.t 41)), (some (32, false))⟩,
    ⟨(some 43), .val (.pick (.t 32) (.c (.bool true)) (.t 42)), none⟩,
    ⟨(some 44), .callF (.f 59) [(.t 29), (.t 43), (.c (.int .i64 11))], none⟩]
def g81_5 : List Am.Item := [
    ⟨(some 45), .val (.mov (.t 0)), none⟩,
    ⟨(some 46), .val (.faddr 1 (.t 8)), none⟩,
    ⟨(some 47), .val (.load none (.t 46)), none⟩,
    ⟨(some 48), .call (.f 86) [(.t 47)], none⟩,
    ⟨(some 49), .callF (.f 59) [(.t 45), (.t 48), (.c (.int .i64 8))], none⟩]
def g81_6 : List Am.Item := [
    ⟨(some 50), .val (.mov (.t 0)), none⟩,
    ⟨(some 51), .val (.faddr 1 (.t 6)), none⟩,
    ⟨(some 52), .val (.load none (.t 51)), none⟩,
    ⟨(some 53), .val (.mov (.t 3)), none⟩,
    ⟨(some 54), .callF (.f 99) [(.t 52), (.t 53), (.f 100)], none⟩,
    ⟨(some 55), .val (.un .not (.t 54)), none⟩,
    ⟨(some 56), .callF (.f 59) [(.t 50), (.t 55), (.c (.int .i64 9))], none⟩]
def g81_7 : List Am.Item := [
    ⟨(some 57), .val (.mov (.t 0)), none⟩,
    ⟨(some 58), .val (.faddr 2 (.t 6)), none⟩,
    ⟨(some 59), .val (.load none (.t 58)), none⟩,
    ⟨(some 60), .val (.faddr 0 (.t 8)), none⟩,
    ⟨(some 61), .val (.load none (.t 60)), none⟩,
    ⟨(some 62), .call (.f 89) [(.t 59), (.t 61)], none⟩,
    ⟨(some 63), .val (.un .not (.t 62)), none⟩,
    ⟨(some 64), .val (.mov (.t 63)), none⟩,
    ⟨(some 65), .val (.faddr 3 (.t 6)), (some (64, true))⟩,
    ⟨(some 66), .val (.load none (.t 65)), (some (64, true))⟩,
    ⟨(some 67), .val (.faddr 1 (.t 8)), (some (64, true))⟩,
    ⟨(some 68), .val (.load none (.t 67)), (some (64, true))⟩,
    ⟨(some 69), .call (.f 48) [(.t 66), (.t 68)], (some (64, true))⟩,
    ⟨(some 70), .val (.un .not (.t 69)), (some (64, true))⟩,
    ⟨(some 71), .val (.pick (.t 64) (.t 70) (.c (.bool false))), none⟩,
    ⟨(some 72), .callF (.f 59) [(.t 57), (.t 71), (.c (.int .i64 21))], none⟩]
def g81_8 : List Am.Item := [
    ⟨(some 73), .val (.mov (.t 0)), none⟩,
    ⟨(some 74), .val (.faddr 2 (.t 8)), none⟩,
    ⟨(some 75), .val (.load none (.t 74)), none⟩,
    ⟨(some 76), .val (.bin .num .geq (.t 75) (.c (.int .i64 1))), none⟩,
    ⟨(some 77), .val (.mov (.t 76)), none⟩,
    ⟨(some 78), .val (.faddr 2 (.t 8)), (some (77, true))⟩,
    ⟨(some 79), .val (.load none (.t 78)), (some (77, true))⟩,
    ⟨(some 80), .val (.bin .num .leq (.t 79) (.c (.int .i64 5))), (some (77, true))⟩,
    ⟨(some 81), .val (.pick (.t 77) (.t 80) (.c (.bool false))), none⟩,
    ⟨(some 82), .val (.mov (.t 81)), none⟩,
    ⟨(some 83), .val (.faddr 2 (.t 8)), (some (82, true))⟩,
    ⟨(some 84), .val (.load none (.t 83)), (some (82, true))⟩,
    ⟨(some 85), .val (.faddr 3 (.t 8)), (some (82, true))⟩,
    ⟨(some 86), .val (.load none (.t 85)), (some (82, true))⟩,
    ⟨(some 87), .call (.f 101) [(.t 84), (.t 86)], (some (82, true))⟩,
    ⟨(some 88), .val (.pick (.t 82) (.t 87) (.c (.bool false))), none⟩,
    ⟨(some 89), .callF (.f 59) [(.t 73), (.t 88), (.c (.int .i64 1))], none⟩]
def g81_9 : List Am.Item := [
    ⟨(some 90), .val (.mov (.t 0)), none⟩,
    ⟨(some 91), .val (.load (some 3) (.t 5)), none⟩,
    ⟨(some 92), .val (.load (some 16) (.t 8)), none⟩,
    ⟨(some 93), .call (.f 102) [(.t 91), (.t 92)], none⟩,
    ⟨(some 94), .callF (.f 59) [(.t 90), (.t 93), (.c (.int .i64 12))], none⟩]
def g81_10 : List Am.Item := [
    ⟨(some 95), .val (.mov (.t 0)), none⟩,
    ⟨(some 96), .val (.load (some 5) (.t 6)), none⟩,
    ⟨(some 97), .val (.mov (.t 3)), none⟩,
    ⟨(some 98), .call (.f 103) [(.t 96), (.t 97)], none⟩,
    ⟨(some 99), .callF (.f 59) [(.t 95), (.t 98), (.c (.int .i64 15))], none⟩]
def g81_11 : List Am.Item := [
    ⟨(some 100), .val (.mov (.t 0)), none⟩,
    ⟨(some 101), .val (.load (some 3) (.t 5)), none⟩,
    ⟨(some 102), .val (.load (some 16) (.t 8)), none⟩,
    ⟨(some 103), .call (.f 104) [(.t 101), (.t 102)], none⟩,
    ⟨(some 104), .callF (.f 59) [(.t 100), (.t 103), (.c (.int .i64 1))], none⟩]
def g81_12 : List Am.Item := [
    ⟨(some 105), .val (.mov (.t 0)), none⟩,
    ⟨(some 106), .val (.faddr 15 (.t 8)), none⟩,
    ⟨(some 107), .val (.load none (.t 106)), none⟩,
    ⟨(some 108), .callF (.f 84) [(.t 105), (.t 107), (.c (.int .i64 2))], none⟩]
def g81_13 : List Am.Item := [
    ⟨(some 109), .val (.mov (.t 0)), none⟩,
    ⟨(some 110), .val (.nilck (.t 109)), none⟩,
    ⟨(some 111), .val (.faddr 1 (.t 110)), none⟩,
    ⟨none, .store 1 (.t 111) (.c (.int .i64 (-1))), none⟩]
def r81 : RC := .seq (.reg g81_0) (.seq (.reg g81_1) (.seq (.reg g81_2) (.seq (.reg g81_3) (.seq (.draw g81_4) (.seq (.reg g81_5) (.seq (.reg g81_6) (.seq (.reg g81_7) (.seq (.reg g81_8) (.seq (.reg g81_9) (.seq (.reg g81_10) (.seq (.reg g81_11) (.seq (.reg g81_12) (.reg g81_13)))))))))))))
def o81 : List RR := []
theorem k81 : chkC Tryz.prog 112 r81 (Tryz.f81.body.getD .skip) = true := by decide +kernel
theorem q81 : chkR Tryz.prog Tryz.f81.results.toList o81 = true := by decide +kernel

/- (*wireschema/check.finder).spans -/
def g82_0 : List Am.Item := [
    ⟨(some 10), .val (.mov (.t 1)), none⟩,
    ⟨(some 11), .val (.len 1 (.t 10)), none⟩,
    ⟨(some 12), .val (.mov (.c (.int .i64 0))), none⟩]
def g82_1 : List Am.Item := [
    ⟨(some 13), .val (.bin .num .lss (.t 12) (.t 11)), none⟩]
def g82_2 : List Am.Item := [
    ⟨(some 14), .val (.mov (.t 12)), none⟩,
    ⟨(some 15), .val (.iaddr 2 none (.t 10) (.t 12)), none⟩,
    ⟨(some 16), .val (.load (some 2) (.t 15)), none⟩,
    ⟨(some 9), .allocN 9 [.int .i64 0, .int .i64 0], none⟩,
    ⟨(some 8), .val (.mov (.t 14)), none⟩,
    ⟨none, .store 2 (.t 9) (.t 16), none⟩]
def g82_3 : List Am.Item := [
    ⟨(some 17), .val (.mov (.t 0)), none⟩,
    ⟨(some 18), .val (.faddr 0 (.t 9)), none⟩,
    ⟨(some 19), .val (.load none (.t 18)), none⟩,
    ⟨(some 20), .val (.mov (.t 2)), none⟩,
    ⟨(some 21), .val (.bin .num .geq (.t 19) (.t 20)), none⟩,
    ⟨(some 22), .val (.mov (.t 21)), none⟩,
    ⟨(some 23), .val (.faddr 1 (.t 9)), (some (22, true))⟩,
    ⟨(some 24), .val (.load none (.t 23)), (some (22, true))⟩,
    ⟨(some 25), .val (.mov (.t 3)), (some (22, true))⟩,
    ⟨(some 26), .val (.bin .num .leq (.t 24) (.t 25)), (some (22, true))⟩,
    ⟨(some 27), .val (.pick (.t 22) (.t 26) (.c (.bool false))), none⟩,
    ⟨(some 28), .val (.mov (.t 27)), none⟩,
    ⟨(some 29), .val (.faddr 0 (.t 9)), (some (28, true))⟩,
    ⟨(some 30), .val (.load none (.t 29)), (some (28, true))⟩,
    ⟨(some 31), .val (.faddr 1 (.t 9)), (some (28, true))⟩,
    ⟨(some 32), .val (.load none (.t 31)), (some (28, true))⟩,
    ⟨(some 33), .val (.bin .num .leq (.t 30) (.t 32)), (some (28, true))⟩,
    ⟨(some 34), .val (.pick (.t 28) (.t 33) (.c (.bool false))), none⟩,
    ⟨(some 35), .callF (.f 59) [(.t 17), (.t 34), (.c (.int .i64 6))], none⟩]
def g82_4 : List Am.Item := [
    ⟨(some 36), .val (.mov (.t 0)), none⟩,
    ⟨(some 37), .val (.mov (.t 8)), none⟩,
    ⟨(some 38), .val (.bin .num .eql (.t 37) (.c (.int .i64 0))), none⟩,
    ⟨(some 39), .val (.mov (.t 38)), none⟩,
    ⟨(some 40), .val (.faddr 0 (.t 9)), (some (39, false))⟩,
    ⟨(some 41), .val (.loadv 0 9 none (.t 40)), (some (39, false))⟩,
    ⟨(some 42), .val (.mov (.t 1)), (some (39, false))⟩,
    ⟨(some 43), .val (.mov (.t 8)), (some (39, false))⟩,
    ⟨(some 44), .val (.bin .num .sub (.t 43) (.c (.int .i64 1))), (some (39, false))⟩,
    ⟨(some 45), .val (.iaddr 2 none (.t 42) (.t 44)), (some (39, false))⟩,
    ⟨(some 46), .val (.faddr 1 (.t 45)), (some (39, false))⟩,
    ⟨(some 47), .val (.loadr none (.t 46)), (some (39, false))⟩,
    ⟨(some 48), .val (.bin .num .gtr (.t 41) (.t 47)), (some (39, false))⟩,
    ⟨(some 49), .val (.pick (.t 39) (.c (.bool true)) (.t 48)), none⟩,
    ⟨(some 50), .callF (.f 59) [(.t 36), (.t 49), (.c (.int .i64 11))], none⟩]
def g82_5 : List Am.Item := [
    ⟨(some 51), .val (.bin .num .add (.t 12) (.c (.int .i64 1))), none⟩,
    ⟨(some 12), .val (.mov (.t 51)), none⟩]
def l82_0 : RC := .gho (.drop 9) (.seq (.reg g82_1) (.seq (.cond (.t 13) (.skip) (.exit 0)) (.seq (.block 1 (.seq (.reg g82_2) (.seq (.reg g82_3) (.draw g82_4)))) (.reg g82_5))))
def r82 : RC := .seq (.reg g82_0) (.block 0 (.loop l82_0))
def o82 : List RR := []
theorem k82 : chkC Tryz.prog 52 r82 (Tryz.f82.body.getD .skip) = true := by decide +kernel
theorem q82 : chkR Tryz.prog Tryz.f82.results.toList o82 = true := by decide +kernel

/- (*wireschema/check.finder).noted -/
def g84_0 : List Am.Item := [
    ⟨(some 7), .val (.mov (.t 1)), none⟩,
    ⟨(some 8), .val (.mov (.t 2)), none⟩,
    ⟨(some 9), .call (.f 106) [(.t 7), (.t 8)], none⟩,
    ⟨(some 6), .val (.mov (.t 9)), none⟩]
def g84_1 : List Am.Item := [
    ⟨(some 10), .val (.mov (.t 0)), none⟩,
    ⟨(some 11), .val (.mov (.t 6)), none⟩,
    ⟨(some 12), .val (.bin .num .eql (.t 11) (.c (.int .i64 0))), none⟩,
    ⟨(some 13), .val (.mov (.t 6)), none⟩,
    ⟨(some 14), .callF (.f 59) [(.t 10), (.t 12), (.t 13)], none⟩]
def r84 : RC := .seq (.reg g84_0) (.reg g84_1)
def o84 : List RR := []
theorem k84 : chkC Tryz.prog 15 r84 (Tryz.f84.body.getD .skip) = true := by decide +kernel
theorem q84 : chkR Tryz.prog Tryz.f84.results.toList o84 = true := by decide +kernel

/- wireschema/check.cyclic -/
def g85_0 : List Am.Item := [
    ⟨(some 3), .boxN 3 (.t 0), none⟩,
    ⟨(some 4), .boxN 4 (.t 1), none⟩,
    ⟨(some 5), .boxN 5 (.t 2), none⟩,
    ⟨(some 6), .val (.mov (.c (.bool false))), none⟩]
def g85_1 : List Am.Item := [
    ⟨(some 7), .val (.load (some 5) (.t 4)), none⟩,
    ⟨(some 8), .call (.f 78) [(.t 7)], none⟩,
    ⟨(some 9), .val (.mkfn (.func 107) [] [(.t 3), (.t 5)]), none⟩,
    ⟨(some 10), .callF (.f 75) [(.t 8), (.t 9)], none⟩,
    ⟨(some 6), .val (.mov (.t 10)), none⟩]
def r85 : RC := .seq (.reg g85_0) (.seq (.reg g85_1) (.ret))
def o85 : List RR := [.tmp 6]
theorem k85 : chkC Tryz.prog 11 r85 (Tryz.f85.body.getD .skip) = true := by decide +kernel
theorem q85 : chkR Tryz.prog Tryz.f85.results.toList o85 = true := by decide +kernel

/- wireschema/check.usablePart -/
def g86_0 : List Am.Item := [
    ⟨(some 2), .val (.mov (.c (.bool false))), none⟩]
def g86_1 : List Am.Item := [
    ⟨(some 3), .val (.mov (.t 0)), none⟩,
    ⟨(some 4), .call (.f 108) [(.t 3)], none⟩,
    ⟨(some 5), .val (.mov (.t 4)), none⟩,
    ⟨(some 6), .val (.mov (.t 0)), (some (5, true))⟩,
    ⟨(some 7), .call (.f 98) [(.t 6)], (some (5, true))⟩,
    ⟨(some 8), .val (.un .not (.t 7)), (some (5, true))⟩,
    ⟨(some 9), .val (.pick (.t 5) (.t 8) (.c (.bool false))), none⟩,
    ⟨(some 2), .val (.mov (.t 9)), none⟩]
def r86 : RC := .seq (.reg g86_0) (.seq (.reg g86_1) (.ret))
def o86 : List RR := [.tmp 2]
theorem k86 : chkC Tryz.prog 10 r86 (Tryz.f86.body.getD .skip) = true := by decide +kernel
theorem q86 : chkR Tryz.prog Tryz.f86.results.toList o86 = true := by decide +kernel

/- wireschema/check.Reserved -/
def g89_0 : List Am.Item := [
    ⟨(some 3), .boxN 3 (.t 1), none⟩,
    ⟨(some 4), .val (.mov (.c (.bool false))), none⟩]
def g89_1 : List Am.Item := [
    ⟨(some 5), .val (.mov (.t 0)), none⟩,
    ⟨(some 6), .val (.mkfn (.func 111) [] [(.t 3)]), none⟩,
    ⟨(some 7), .callF (.f 110) [(.t 5), (.t 6)], none⟩,
    ⟨(some 4), .val (.mov (.t 7)), none⟩]
def r89 : RC := .seq (.reg g89_0) (.seq (.reg g89_1) (.ret))
def o89 : List RR := [.tmp 4]
theorem k89 : chkC Tryz.prog 8 r89 (Tryz.f89.body.getD .skip) = true := by decide +kernel
theorem q89 : chkR Tryz.prog Tryz.f89.results.toList o89 = true := by decide +kernel

/- slices.IndexFunc[[]wireschema/api.Note,wireschema/api.Note] -/
def g90_0 : List Am.Item := [
    ⟨(some 4), .val (.mov (.c (.int .i64 0))), none⟩]
def g90_1 : List Am.Item := [
    ⟨(some 6), .val (.mov (.t 0)), none⟩,
    ⟨(some 7), .val (.len 1 (.t 6)), none⟩,
    ⟨(some 8), .val (.mov (.c (.int .i64 0))), none⟩]
def g90_2 : List Am.Item := [
    ⟨(some 9), .val (.bin .num .lss (.t 8) (.t 7)), none⟩]
def g90_3 : List Am.Item := [
    ⟨(some 10), .val (.mov (.t 8)), none⟩,
    ⟨(some 5), .val (.mov (.t 10)), none⟩]
def g90_4 : List Am.Item := [
    ⟨(some 11), .val (.mov (.t 1)), none⟩,
    ⟨(some 12), .val (.mov (.t 0)), none⟩,
    ⟨(some 13), .val (.mov (.t 5)), none⟩,
    ⟨(some 14), .val (.iaddr 8 none (.t 12) (.t 13)), none⟩,
    ⟨(some 15), .val (.load (some 8) (.t 14)), none⟩,
    ⟨(some 16), .callF (.t 11) [(.t 15)], none⟩]
def g90_5 : List Am.Item := [
    ⟨(some 17), .val (.mov (.t 5)), none⟩,
    ⟨(some 4), .val (.mov (.t 17)), none⟩]
def g90_6 : List Am.Item := [
    ⟨(some 18), .val (.bin .num .add (.t 8) (.c (.int .i64 1))), none⟩,
    ⟨(some 8), .val (.mov (.t 18)), none⟩]
def l90_0 : RC := .seq (.reg g90_2) (.seq (.cond (.t 9) (.skip) (.exit 0)) (.seq (.block 1 (.seq (.reg g90_3) (.seq (.reg g90_4) (.cond (.t 16) (.seq (.reg g90_5) (.ret)) (.skip))))) (.reg g90_6)))
def g90_7 : List Am.Item := [
    ⟨(some 4), .val (.mov (.c (.int .i64 (-1)))), none⟩]
def r90 : RC := .seq (.reg g90_0) (.seq (.seq (.reg g90_1) (.block 0 (.loop l90_0))) (.seq (.reg g90_7) (.ret)))
def o90 : List RR := [.tmp 4]
theorem k90 : chkC Tryz.prog 19 r90 (Tryz.f90.body.getD .skip) = true := by decide +kernel
theorem q90 : chkR Tryz.prog Tryz.f90.results.toList o90 = true := by decide +kernel

/- slices.IndexFunc[[]string,string] -/
def g94_0 : List Am.Item := [
    ⟨(some 4), .val (.mov (.c (.int .i64 0))), none⟩]
def g94_1 : List Am.Item := [
    ⟨(some 6), .val (.mov (.t 0)), none⟩,
    ⟨(some 7), .val (.len 1 (.t 6)), none⟩,
    ⟨(some 8), .val (.mov (.c (.int .i64 0))), none⟩]
def g94_2 : List Am.Item := [
    ⟨(some 9), .val (.bin .num .lss (.t 8) (.t 7)), none⟩]
def g94_3 : List Am.Item := [
    ⟨(some 10), .val (.mov (.t 8)), none⟩,
    ⟨(some 5), .val (.mov (.t 10)), none⟩]
def g94_4 : List Am.Item := [
    ⟨(some 11), .val (.mov (.t 1)), none⟩,
    ⟨(some 12), .val (.mov (.t 0)), none⟩,
    ⟨(some 13), .val (.mov (.t 5)), none⟩,
    ⟨(some 14), .val (.iaddr 1 none (.t 12) (.t 13)), none⟩,
    ⟨(some 15), .val (.load none (.t 14)), none⟩,
    ⟨(some 16), .callF (.t 11) [(.t 15)], none⟩]
def g94_5 : List Am.Item := [
    ⟨(some 17), .val (.mov (.t 5)), none⟩,
    ⟨(some 4), .val (.mov (.t 17)), none⟩]
def g94_6 : List Am.Item := [
    ⟨(some 18), .val (.bin .num .add (.t 8) (.c (.int .i64 1))), none⟩,
    ⟨(some 8), .val (.mov (.t 18)), none⟩]
def l94_0 : RC := .seq (.reg g94_2) (.seq (.cond (.t 9) (.skip) (.exit 0)) (.seq (.block 1 (.seq (.reg g94_3) (.seq (.reg g94_4) (.cond (.t 16) (.seq (.reg g94_5) (.ret)) (.skip))))) (.reg g94_6)))
def g94_7 : List Am.Item := [
    ⟨(some 4), .val (.mov (.c (.int .i64 (-1)))), none⟩]
def r94 : RC := .seq (.reg g94_0) (.seq (.seq (.reg g94_1) (.block 0 (.loop l94_0))) (.seq (.reg g94_7) (.ret)))
def o94 : List RR := [.tmp 4]
theorem k94 : chkC Tryz.prog 19 r94 (Tryz.f94.body.getD .skip) = true := by decide +kernel
theorem q94 : chkR Tryz.prog Tryz.f94.results.toList o94 = true := by decide +kernel

/- wireschema/check.message$1 -/
def g95_0 : List Am.Item := [
    ⟨(some 2), .boxN 2 (.t 0), none⟩,
    ⟨(some 3), .val (.mov (.c (.bool false))), none⟩]
def g95_1 : List Am.Item := [
    ⟨(some 4), .val (.faddr 0 (.t 2)), none⟩,
    ⟨(some 5), .val (.load none (.t 4)), none⟩,
    ⟨(some 6), .val (.load none (.t 1)), none⟩,
    ⟨(some 7), .val (.bin .str .eql (.t 5) (.t 6)), none⟩,
    ⟨(some 3), .val (.mov (.t 7)), none⟩]
def r95 : RC := .seq (.reg g95_0) (.seq (.reg g95_1) (.ret))
def o95 : List RR := [.tmp 3]
theorem k95 : chkC Tryz.prog 8 r95 (Tryz.f95.body.getD .skip) = true := by decide +kernel
theorem q95 : chkR Tryz.prog Tryz.f95.results.toList o95 = true := by decide +kernel

/- wireschema/ident.IsFull -/
def g96_0 : List Am.Item := [
    ⟨(some 2), .val (.mov (.c (.bool false))), none⟩]
def g96_1 : List Am.Item := [
    ⟨(some 5), .val (.mov (.t 0)), none⟩,
    ⟨(some 6), .call (.f 97) [(.t 5), (.c (.str [46]))], none⟩,
    ⟨(some 7), .val (.len 1 (.t 6)), none⟩,
    ⟨(some 8), .val (.mov (.c (.int .i64 0))), none⟩]
def g96_2 : List Am.Item := [
    ⟨(some 9), .val (.bin .num .lss (.t 8) (.t 7)), none⟩]
def g96_3 : List Am.Item := [
    ⟨(some 10), .val (.iaddr 1 none (.t 6) (.t 8)), none⟩,
    ⟨(some 11), .val (.load none (.t 10)), none⟩,
    ⟨(some 4), .val (.mov (.t 11)), none⟩]
def g96_4 : List Am.Item := [
    ⟨(some 12), .val (.mov (.t 4)), none⟩,
    ⟨(some 13), .call (.f 108) [(.t 12)], none⟩,
    ⟨(some 14), .val (.un .not (.t 13)), none⟩]
def g96_5 : List Am.Item := [
    ⟨(some 2), .val (.mov (.c (.bool false))), none⟩]
def g96_6 : List Am.Item := [
    ⟨(some 15), .val (.bin .num .add (.t 8) (.c (.int .i64 1))), none⟩,
    ⟨(some 8), .val (.mov (.t 15)), none⟩]
def l96_0 : RC := .seq (.reg g96_2) (.seq (.cond (.t 9) (.skip) (.exit 0)) (.seq (.block 1 (.seq (.reg g96_3) (.seq (.reg g96_4) (.cond (.t 14) (.seq (.reg g96_5) (.ret)) (.skip))))) (.reg g96_6)))
def g96_7 : List Am.Item := [
    ⟨(some 16), .val (.mov (.t 0)), none⟩,
    ⟨(some 17), .val (.len 0 (.t 16)), none⟩,
    ⟨(some 18), .val (.bin .num .leq (.t 17) (.c (.int .i64 120))), none⟩,
    ⟨(some 2), .val (.mov (.t 18)), none⟩]
def r96 : RC := .seq (.reg g96_0) (.seq (.seq (.reg g96_1) (.block 0 (.loop l96_0))) (.seq (.reg g96_7) (.ret)))
def o96 : List RR := [.tmp 2]
theorem k96 : chkC Tryz.prog 19 r96 (Tryz.f96.body.getD .skip) = true := by decide +kernel
theorem q96 : chkR Tryz.prog Tryz.f96.results.toList o96 = true := by decide +kernel

/- strings.Split -/
def g97_0 : List Am.Item := [
    ⟨(some 4), .val (.mov (.c (.nils))), none⟩]
def g97_1 : List Am.Item := [
    ⟨(some 5), .val (.mov (.t 0)), none⟩,
    ⟨(some 6), .val (.mov (.t 1)), none⟩,
    ⟨(some 7), .call (.f 116) [(.t 5), (.t 6), (.c (.int .i64 0)), (.c (.int .i64 (-1)))], none⟩,
    ⟨(some 4), .val (.mov (.t 7)), none⟩]
def r97 : RC := .seq (.reg g97_0) (.seq (.reg g97_1) (.ret))
def o97 : List RR := [.tmp 4]
theorem k97 : chkC Tryz.prog 8 r97 (Tryz.f97.body.getD .skip) = true := by decide +kernel
theorem q97 : chkR Tryz.prog Tryz.f97.results.toList o97 = true := by decide +kernel

/- wireschema/ident.IsWord -/
def g98_0 : List Am.Item := [
    ⟨(some 2), .val (.mov (.c (.bool false))), none⟩]
def g98_1 : List Am.Item := [
    ⟨(some 3), .val (.mov (.t 0)), none⟩]
def g98_2 : List Am.Item := [
    ⟨(some 5), .val (.bin .str .eql (.t 3) (.c (.str [109, 101, 115, 115, 97, 103, 101]))), none⟩,
    ⟨(some 4), .val (.mov (.t 5)), none⟩]
def g98_3 : List Am.Item := [
    ⟨(some 6), .val (.bin .str .eql (.t 3) (.c (.str [101, 110, 117, 109]))), none⟩,
    ⟨(some 4), .val (.mov (.t 6)), none⟩]
def g98_4 : List Am.Item := [
    ⟨(some 7), .val (.bin .str .eql (.t 3) (.c (.str [115, 101, 114, 118, 105, 99, 101]))), none⟩,
    ⟨(some 4), .val (.mov (.t 7)), none⟩]
def g98_5 : List Am.Item := [
    ⟨(some 8), .val (.bin .str .eql (.t 3) (.c (.str [117, 110, 105, 111, 110]))), none⟩,
    ⟨(some 4), .val (.mov (.t 8)), none⟩]
def g98_6 : List Am.Item := [
    ⟨(some 9), .val (.bin .str .eql (.t 3) (.c (.str [109, 97, 112]))), none⟩,
    ⟨(some 4), .val (.mov (.t 9)), none⟩]
def g98_7 : List Am.Item := [
    ⟨(some 10), .val (.bin .str .eql (.t 3) (.c (.str [108, 105, 115, 116]))), none⟩,
    ⟨(some 4), .val (.mov (.t 10)), none⟩]
def g98_8 : List Am.Item := [
    ⟨(some 11), .val (.bin .str .eql (.t 3) (.c (.str [114, 101, 113, 117, 105, 114, 101, 100]))), none⟩,
    ⟨(some 4), .val (.mov (.t 11)), none⟩]
def g98_9 : List Am.Item := [
    ⟨(some 12), .val (.bin .str .eql (.t 3) (.c (.str [111, 112, 116, 105, 111, 110, 97, 108]))), none⟩,
    ⟨(some 4), .val (.mov (.t 12)), none⟩]
def g98_10 : List Am.Item := [
    ⟨(some 13), .val (.bin .str .eql (.t 3) (.c (.str [112, 108, 97, 105, 110]))), none⟩,
    ⟨(some 4), .val (.mov (.t 13)), none⟩]
def g98_11 : List Am.Item := [
    ⟨(some 14), .val (.bin .str .eql (.t 3) (.c (.str [100, 101, 102, 97, 117, 108, 116]))), none⟩,
    ⟨(some 4), .val (.mov (.t 14)), none⟩]
def g98_12 : List Am.Item := [
    ⟨(some 15), .val (.bin .str .eql (.t 3) (.c (.str [114, 101, 115, 101, 114, 118, 101, 100]))), none⟩,
    ⟨(some 4), .val (.mov (.t 15)), none⟩]
def g98_13 : List Am.Item := [
    ⟨(some 2), .val (.mov (.c (.bool true))), none⟩]
def g98_14 : List Am.Item := [
    ⟨(some 17), .val (.bin .str .eql (.t 3) (.c (.str [105, 109, 112, 111, 114, 116]))), none⟩,
    ⟨(some 16), .val (.mov (.t 17)), none⟩]
def g98_15 : List Am.Item := [
    ⟨(some 18), .val (.bin .str .eql (.t 3) (.c (.str [115, 112, 97, 99, 101]))), none⟩,
    ⟨(some 16), .val (.mov (.t 18)), none⟩]
def g98_16 : List Am.Item := [
    ⟨(some 19), .val (.bin .str .eql (.t 3) (.c (.str [114, 112, 99]))), none⟩,
    ⟨(some 16), .val (.mov (.t 19)), none⟩]
def g98_17 : List Am.Item := [
    ⟨(some 20), .val (.bin .str .eql (.t 3) (.c (.str [115, 116, 114, 101, 97, 109]))), none⟩,
    ⟨(some 16), .val (.mov (.t 20)), none⟩]
def g98_18 : List Am.Item := [
    ⟨(some 21), .val (.bin .str .eql (.t 3) (.c (.str [114, 101, 116, 117, 114, 110, 115]))), none⟩,
    ⟨(some 16), .val (.mov (.t 21)), none⟩]
def g98_19 : List Am.Item := [
    ⟨(some 22), .val (.bin .str .eql (.t 3) (.c (.str [111, 112, 101, 110]))), none⟩,
    ⟨(some 16), .val (.mov (.t 22)), none⟩]
def g98_20 : List Am.Item := [
    ⟨(some 23), .val (.bin .str .eql (.t 3) (.c (.str [116, 114, 117, 101]))), none⟩,
    ⟨(some 16), .val (.mov (.t 23)), none⟩]
def g98_21 : List Am.Item := [
    ⟨(some 24), .val (.bin .str .eql (.t 3) (.c (.str [102, 97, 108, 115, 101]))), none⟩,
    ⟨(some 16), .val (.mov (.t 24)), none⟩]
def g98_22 : List Am.Item := [
    ⟨(some 25), .val (.bin .str .eql (.t 3) (.c (.str [110, 97, 110]))), none⟩,
    ⟨(some 16), .val (.mov (.t 25)), none⟩]
def g98_23 : List Am.Item := [
    ⟨(some 26), .val (.bin .str .eql (.t 3) (.c (.str [105, 110, 102]))), none⟩,
    ⟨(some 16), .val (.mov (.t 26)), none⟩]
def g98_24 : List Am.Item := [
    ⟨(some 2), .val (.mov (.c (.bool true))), none⟩]
def g98_25 : List Am.Item := [
    ⟨(some 2), .val (.mov (.c (.bool false))), none⟩]
def r98 : RC := .seq (.reg g98_0) (.seq (.seq (.reg g98_1) (.block 0 (.seq (.seq (.reg g98_2) (.cond (.t 4) (.skip) (.seq (.reg g98_3) (.cond (.t 4) (.skip) (.seq (.reg g98_4) (.cond (.t 4) (.skip) (.seq (.reg g98_5) (.cond (.t 4) (.skip) (.seq (.reg g98_6) (.cond (.t 4) (.skip) (.seq (.reg g98_7) (.cond (.t 4) (.skip) (.seq (.reg g98_8) (.cond (.t 4) (.skip) (.seq (.reg g98_9) (.cond (.t 4) (.skip) (.seq (.reg g98_10) (.cond (.t 4) (.skip) (.seq (.reg g98_11) (.cond (.t 4) (.skip) (.reg g98_12))))))))))))))))))))) (.cond (.t 4) (.seq (.reg g98_13) (.ret)) (.seq (.seq (.reg g98_14) (.cond (.t 16) (.skip) (.seq (.reg g98_15) (.cond (.t 16) (.skip) (.seq (.reg g98_16) (.cond (.t 16) (.skip) (.seq (.reg g98_17) (.cond (.t 16) (.skip) (.seq (.reg g98_18) (.cond (.t 16) (.skip) (.seq (.reg g98_19) (.cond (.t 16) (.skip) (.seq (.reg g98_20) (.cond (.t 16) (.skip) (.seq (.reg g98_21) (.cond (.t 16) (.skip) (.seq (.reg g98_22) (.cond (.t 16) (.skip) (.reg g98_23))))))))))))))))))) (.cond (.t 16) (.seq (.reg g98_24) (.ret)) (.skip))))))) (.seq (.reg g98_25) (.ret)))
def o98 : List RR := [.tmp 2]
theorem k98 : chkC Tryz.prog 27 r98 (Tryz.f98.body.getD .skip) = true := by decide +kernel
theorem q98 : chkR Tryz.prog Tryz.f98.results.toList o98 = true := by decide +kernel

/- wireschema/check.seen[wireschema/api.Field] -/
def g99_0 : List Am.Item := [
    ⟨(some 3), .boxN 3 (.t 0), none⟩,
    ⟨(some 4), .boxN 4 (.t 1), none⟩,
    ⟨(some 5), .boxN 5 (.t 2), none⟩,
    ⟨(some 6), .val (.mov (.c (.bool false))), none⟩]
def g99_1 : List Am.Item := [
    ⟨(some 7), .val (.load none (.t 3)), none⟩,
    ⟨(some 8), .val (.load none (.t 4)), none⟩,
    ⟨(some 9), .val (.slc (some 16) (.t 7) none (some (.t 8)) none), none⟩,
    ⟨(some 10), .val (.mkfn (.func 118) [] [(.t 5), (.t 3), (.t 4)]), none⟩,
    ⟨(some 11), .callF (.f 117) [(.t 9), (.t 10)], none⟩,
    ⟨(some 6), .val (.mov (.t 11)), none⟩]
def r99 : RC := .seq (.reg g99_0) (.seq (.reg g99_1) (.ret))
def o99 : List RR := [.tmp 6]
theorem k99 : chkC Tryz.prog 12 r99 (Tryz.f99.body.getD .skip) = true := by decide +kernel
theorem q99 : chkR Tryz.prog Tryz.f99.results.toList o99 = true := by decide +kernel

/- wireschema/check.keyed -/
def g101_0 : List Am.Item := [
    ⟨(some 4), .val (.mov (.c (.bool false))), none⟩]
def g101_1 : List Am.Item := [
    ⟨(some 5), .val (.mov (.t 0)), none⟩,
    ⟨(some 6), .val (.bin .num .neq (.t 5) (.c (.int .i64 5))), none⟩]
def g101_2 : List Am.Item := [
    ⟨(some 7), .val (.mov (.t 1)), none⟩,
    ⟨(some 8), .val (.bin .num .eql (.t 7) (.c (.int .i64 0))), none⟩,
    ⟨(some 4), .val (.mov (.t 8)), none⟩]
def g101_3 : List Am.Item := [
    ⟨(some 9), .val (.mov (.t 1)), none⟩,
    ⟨(some 10), .val (.bin .num .geq (.t 9) (.c (.int .i64 1))), none⟩,
    ⟨(some 11), .val (.mov (.t 10)), none⟩,
    ⟨(some 12), .val (.mov (.t 1)), (some (11, true))⟩,
    ⟨(some 13), .val (.bin .num .leq (.t 12) (.c (.int .i64 7))), (some (11, true))⟩,
    ⟨(some 14), .val (.pick (.t 11) (.t 13) (.c (.bool false))), none⟩,
    ⟨(some 15), .val (.mov (.t 14)), none⟩,
    ⟨(some 16), .val (.mov (.t 1)), (some (15, true))⟩,
    ⟨(some 17), .val (.bin .num .neq (.t 16) (.c (.int .i64 6))), (some (15, true))⟩,
    ⟨(some 18), .val (.pick (.t 15) (.t 17) (.c (.bool false))), none⟩,
    ⟨(some 4), .val (.mov (.t 18)), none⟩]
def r101 : RC := .seq (.reg g101_0) (.seq (.seq (.reg g101_1) (.cond (.t 6) (.seq (.reg g101_2) (.ret)) (.skip))) (.seq (.reg g101_3) (.ret)))
def o101 : List RR := [.tmp 4]
theorem k101 : chkC Tryz.prog 19 r101 (Tryz.f101.body.getD .skip) = true := by decide +kernel
theorem q101 : chkR Tryz.prog Tryz.f101.results.toList o101 = true := by decide +kernel

/- wireschema/check.typed -/
def g102_0 : List Am.Item := [
    ⟨(some 2), .boxN 2 (.t 0), none⟩,
    ⟨(some 3), .boxN 3 (.t 1), none⟩,
    ⟨(some 4), .val (.mov (.c (.bool false))), none⟩]
def g102_1 : List Am.Item := [
    ⟨(some 10), .val (.faddr 4 (.t 3)), none⟩,
    ⟨(some 11), .val (.faddr 0 (.t 10)), none⟩,
    ⟨(some 12), .val (.load none (.t 11)), none⟩,
    ⟨(some 13), .val (.bin .num .geq (.t 12) (.c (.int .i64 1))), none⟩,
    ⟨(some 14), .val (.mov (.t 13)), none⟩,
    ⟨(some 15), .val (.faddr 4 (.t 3)), (some (14, true))⟩,
    ⟨(some 16), .val (.faddr 0 (.t 15)), (some (14, true))⟩,
    ⟨(some 17), .val (.load none (.t 16)), (some (14, true))⟩,
    ⟨(some 18), .val (.bin .num .leq (.t 17) (.c (.int .i64 8))), (some (14, true))⟩,
    ⟨(some 19), .val (.pick (.t 14) (.t 18) (.c (.bool false))), none⟩,
    ⟨(some 9), .val (.mov (.t 19)), none⟩]
def g102_2 : List Am.Item := [
    ⟨(some 20), .val (.faddr 4 (.t 3)), none⟩,
    ⟨(some 21), .val (.faddr 1 (.t 20)), none⟩,
    ⟨(some 22), .val (.load none (.t 21)), none⟩,
    ⟨(some 23), .val (.bin .str .eql (.t 22) (.c (.str []))), none⟩,
    ⟨(some 4), .val (.mov (.t 23)), none⟩]
def g102_3 : List Am.Item := [
    ⟨(some 25), .val (.faddr 4 (.t 3)), none⟩,
    ⟨(some 26), .val (.faddr 0 (.t 25)), none⟩,
    ⟨(some 27), .val (.load none (.t 26)), none⟩,
    ⟨(some 28), .val (.bin .num .eql (.t 27) (.c (.int .i64 9))), none⟩,
    ⟨(some 24), .val (.mov (.t 28)), none⟩]
def g102_4 : List Am.Item := [
    ⟨(some 30), .val (.load (some 3) (.t 2)), none⟩,
    ⟨(some 31), .val (.faddr 4 (.t 3)), none⟩,
    ⟨(some 32), .val (.faddr 1 (.t 31)), none⟩,
    ⟨(some 33), .val (.load none (.t 32)), none⟩,
    ⟨(some 34), .call (.f 119) [(.t 30), (.t 33)], none⟩,
    ⟨(some 29), .val (.mov (.t 34)), none⟩,
    ⟨(some 35), .val (.ext (.t 29) 0), none⟩,
    ⟨(some 36), .val (.ext (.t 29) 1), none⟩,
    ⟨(some 5), .allocN 5 [.str [], .bool false, .nils, .nils, .nils], none⟩,
    ⟨none, .store 5 (.t 5) (.t 35), none⟩,
    ⟨(some 6), .val (.mov (.t 36)), none⟩]
def g102_5 : List Am.Item := [
    ⟨(some 37), .val (.mov (.t 6)), none⟩,
    ⟨(some 4), .val (.mov (.t 37)), none⟩]
def g102_6 : List Am.Item := [
    ⟨(some 39), .val (.faddr 4 (.t 3)), none⟩,
    ⟨(some 40), .val (.faddr 0 (.t 39)), none⟩,
    ⟨(some 41), .val (.load none (.t 40)), none⟩,
    ⟨(some 42), .val (.bin .num .eql (.t 41) (.c (.int .i64 10))), none⟩,
    ⟨(some 38), .val (.mov (.t 42)), none⟩]
def g102_7 : List Am.Item := [
    ⟨(some 44), .val (.load (some 3) (.t 2)), none⟩,
    ⟨(some 45), .val (.faddr 4 (.t 3)), none⟩,
    ⟨(some 46), .val (.faddr 1 (.t 45)), none⟩,
    ⟨(some 47), .val (.load none (.t 46)), none⟩,
    ⟨(some 48), .call (.f 77) [(.t 44), (.t 47)], none⟩,
    ⟨(some 43), .val (.mov (.t 48)), none⟩,
    ⟨(some 49), .val (.ext (.t 43) 0), none⟩,
    ⟨(some 50), .val (.ext (.t 43) 1), none⟩,
    ⟨(some 7), .allocN 7 [.str [], .nils, .nils, .nils, .nils], none⟩,
    ⟨none, .store 5 (.t 7) (.t 49), none⟩,
    ⟨(some 8), .val (.mov (.t 50)), none⟩]
def g102_8 : List Am.Item := [
    ⟨(some 51), .val (.mov (.t 8)), none⟩,
    ⟨(some 52), .val (.mov (.t 51)), none⟩,
    ⟨(some 53), .val (.faddr 2 (.t 3)), (some (52, true))⟩,
    ⟨(some 54), .val (.load none (.t 53)), (some (52, true))⟩,
    ⟨(some 55), .val (.bin .num .neq (.t 54) (.c (.int .i64 3))), (some (52, true))⟩,
    ⟨(some 56), .val (.pick (.t 52) (.t 55) (.c (.bool false))), none⟩,
    ⟨(some 4), .val (.mov (.t 56)), none⟩]
def g102_9 : List Am.Item := [
    ⟨(some 4), .val (.mov (.c (.bool false))), none⟩]
def r102 : RC := .seq (.reg g102_0) (.seq (.block 0 (.seq (.reg g102_1) (.cond (.t 9) (.seq (.reg g102_2) (.ret)) (.seq (.reg g102_3) (.cond (.t 24) (.seq (.reg g102_4) (.seq (.reg g102_5) (.ret))) (.seq (.reg g102_6) (.cond (.t 38) (.seq (.reg g102_7) (.seq (.reg g102_8) (.ret))) (.skip)))))))) (.seq (.reg g102_9) (.ret)))
def o102 : List RR := [.tmp 4]
theorem k102 : chkC Tryz.prog 57 r102 (Tryz.f102.body.getD .skip) = true := by decide +kernel
theorem q102 : chkR Tryz.prog Tryz.f102.results.toList o102 = true := by decide +kernel

/- wireschema/check.united -/
def g103_0 : List Am.Item := [
    ⟨(some 2), .boxN 2 (.t 0), none⟩,
    ⟨(some 4), .val (.mov (.c (.bool false))), none⟩]
def g103_1 : List Am.Item := [
    ⟨(some 7), .val (.faddr 1 (.t 2)), none⟩,
    ⟨(some 8), .val (.load none (.t 7)), none⟩,
    ⟨(some 9), .val (.mov (.t 1)), none⟩,
    ⟨(some 10), .val (.iaddr 16 none (.t 8) (.t 9)), none⟩,
    ⟨(some 11), .val (.load (some 16) (.t 10)), none⟩,
    ⟨(some 5), .allocN 5 [.int .i64 0, .str [], .int .i64 0, .int .i64 0, .int .i64 0, .str [], .str [], .bool false, .int .i64 0, .int .u64 0, .str [], .nils, .nils, .nils, .nils, .nils], none⟩,
    ⟨none, .store 16 (.t 5) (.t 11), none⟩]
def g103_2 : List Am.Item := [
    ⟨(some 12), .val (.faddr 6 (.t 5)), none⟩,
    ⟨(some 13), .val (.load none (.t 12)), none⟩,
    ⟨(some 14), .val (.bin .str .eql (.t 13) (.c (.str []))), none⟩]
def g103_3 : List Am.Item := [
    ⟨(some 4), .val (.mov (.c (.bool true))), none⟩]
def g103_4 : List Am.Item := [
    ⟨(some 15), .val (.faddr 2 (.t 5)), none⟩,
    ⟨(some 16), .val (.load none (.t 15)), none⟩,
    ⟨(some 17), .val (.bin .num .neq (.t 16) (.c (.int .i64 2))), none⟩,
    ⟨(some 18), .val (.mov (.t 17)), none⟩,
    ⟨(some 19), .val (.faddr 6 (.t 5)), (some (18, false))⟩,
    ⟨(some 20), .val (.load none (.t 19)), (some (18, false))⟩,
    ⟨(some 21), .call (.f 86) [(.t 20)], (some (18, false))⟩,
    ⟨(some 22), .val (.un .not (.t 21)), (some (18, false))⟩,
    ⟨(some 23), .val (.pick (.t 18) (.c (.bool true)) (.t 22)), none⟩,
    ⟨(some 24), .val (.mov (.t 23)), none⟩,
    ⟨(some 25), .val (.faddr 1 (.t 2)), (some (24, false))⟩,
    ⟨(some 26), .val (.load none (.t 25)), (some (24, false))⟩,
    ⟨(some 27), .val (.mkfn (.func 120) [] [(.t 5)]), (some (24, false))⟩,
    ⟨(some 28), .callF (.f 117) [(.t 26), (.t 27)], (some (24, false))⟩,
    ⟨(some 29), .val (.pick (.t 24) (.c (.bool true)) (.t 28)), none⟩]
def g103_5 : List Am.Item := [
    ⟨(some 4), .val (.mov (.c (.bool false))), none⟩]
def g103_6 : List Am.Item := [
    ⟨(some 30), .val (.faddr 1 (.t 2)), none⟩,
    ⟨(some 31), .val (.load none (.t 30)), none⟩,
    ⟨(some 32), .val (.mov (.t 1)), none⟩,
    ⟨(some 33), .val (.slc (some 16) (.t 31) none (some (.t 32)) none), none⟩,
    ⟨(some 34), .val (.mkfn (.func 121) [] [(.t 5)]), none⟩,
    ⟨(some 35), .callF (.f 117) [(.t 33), (.t 34)], none⟩,
    ⟨(some 6), .val (.mov (.t 35)), none⟩]
def g103_7 : List Am.Item := [
    ⟨(some 36), .val (.mov (.t 6)), none⟩,
    ⟨(some 37), .val (.un .not (.t 36)), none⟩,
    ⟨(some 38), .val (.mov (.t 37)), none⟩,
    ⟨(some 39), .val (.faddr 1 (.t 2)), (some (38, false))⟩,
    ⟨(some 40), .val (.loadv 0 2 none (.t 39)), (some (38, false))⟩,
    ⟨(some 41), .val (.mov (.t 1)), (some (38, false))⟩,
    ⟨(some 42), .val (.bin .num .sub (.t 41) (.c (.int .i64 1))), (some (38, false))⟩,
    ⟨(some 43), .val (.iaddr 16 none (.t 40) (.t 42)), (some (38, false))⟩,
    ⟨(some 44), .val (.faddr 6 (.t 43)), (some (38, false))⟩,
    ⟨(some 45), .val (.loadr none (.t 44)), (some (38, false))⟩,
    ⟨(some 46), .val (.faddr 6 (.t 5)), (some (38, false))⟩,
    ⟨(some 47), .val (.loadv 0 5 none (.t 46)), (some (38, false))⟩,
    ⟨(some 48), .val (.bin .str .eql (.t 45) (.t 47)), (some (38, false))⟩,
    ⟨(some 49), .val (.pick (.t 38) (.c (.bool true)) (.t 48)), none⟩,
    ⟨(some 4), .val (.mov (.t 49)), none⟩]
def r103 : RC := .seq (.reg g103_0) (.seq (.reg g103_1) (.seq (.seq (.reg g103_2) (.cond (.t 14) (.seq (.reg g103_3) (.ret)) (.skip))) (.seq (.seq (.reg g103_4) (.cond (.t 29) (.seq (.reg g103_5) (.ret)) (.skip))) (.seq (.reg g103_6) (.seq (.draw g103_7) (.ret))))))
def o103 : List RR := [.tmp 4]
theorem k103 : chkC Tryz.prog 50 r103 (Tryz.f103.body.getD .skip) = true := by decide +kernel
theorem q103 : chkR Tryz.prog Tryz.f103.results.toList o103 = true := by decide +kernel

/- wireschema/check.defaulted -/
def g104_0 : List Am.Item := [
    ⟨(some 2), .boxN 2 (.t 0), none⟩,
    ⟨(some 3), .boxN 3 (.t 1), none⟩,
    ⟨(some 4), .val (.mov (.c (.bool false))), none⟩]
def g104_1 : List Am.Item := [
    ⟨(some 7), .val (.faddr 7 (.t 3)), none⟩,
    ⟨(some 8), .val (.load none (.t 7)), none⟩,
    ⟨(some 9), .val (.un .not (.t 8)), none⟩]
def g104_2 : List Am.Item := [
    ⟨(some 10), .val (.faddr 8 (.t 3)), none⟩,
    ⟨(some 11), .val (.load (some 7) (.t 10)), none⟩,
    ⟨(some 12), .call (.f 122) [(.t 11)], none⟩,
    ⟨(some 4), .val (.mov (.t 12)), none⟩]
def g104_3 : List Am.Item := [
    ⟨(some 13), .val (.faddr 2 (.t 3)), none⟩,
    ⟨(some 14), .val (.loadv 0 3 none (.t 13)), none⟩,
    ⟨(some 15), .val (.bin .num .neq (.t 14) (.c (.int .i64 2))), none⟩,
    ⟨(some 16), .val (.mov (.t 15)), none⟩,
    ⟨(some 17), .val (.faddr 6 (.t 3)), (some (16, false))⟩,
    ⟨(some 18), .val (.loadv 0 3 none (.t 17)), (some (16, false))⟩,
    ⟨(some 19), .val (.bin .str .neq (.t 18) (.c (.str []))), (some (16, false))⟩,
    ⟨(some 20), .val (.pick (.t 16) (.c (.bool true)) (.t 19)), none⟩,
    ⟨(some 21), .val (.mov (.t 20)), none⟩,
    ⟨(some 22), .val (.faddr 4 (.t 3)), (some (21, false))⟩,
    ⟨(some 23), .val (.faddr 0 (.t 22)), (some (21, false))⟩,
    ⟨(some 24), .val (.loadv 0 3 none (.t 23)), (some (21, false))⟩,
    ⟨(some 25), .val (.faddr 8 (.t 3)), (some (21, false))⟩,
    ⟨(some 26), .val (.loadv 0 3 (some 7) (.t 25)), (some (21, false))⟩,
    ⟨(some 27), .call (.f 123) [(.t 24), (.t 26)], (some (21, false))⟩,
    ⟨(some 28), .val (.un .not (.t 27)), (some (21, false))⟩,
    ⟨(some 29), .val (.pick (.t 21) (.c (.bool true)) (.t 28)), none⟩,
    ⟨(some 30), .val (.mov (.t 29)), none⟩,
    ⟨(some 31), .val (.faddr 8 (.t 3)), (some (30, false))⟩,
    ⟨(some 32), .val (.loadv 0 3 (some 7) (.t 31)), (some (30, false))⟩,
    ⟨(some 33), .call (.f 124) [(.t 32)], (some (30, false))⟩,
    ⟨(some 34), .val (.fld 1 none (.t 33)), (some (30, false))⟩,
    ⟨(some 35), .val (.faddr 8 (.t 3)), (some (30, false))⟩,
    ⟨(some 36), .val (.faddr 1 (.t 35)), (some (30, false))⟩,
    ⟨(some 37), .val (.loadv 0 3 none (.t 36)), (some (30, false))⟩,
    ⟨(some 38), .val (.bin .num .neq (.t 34) (.t 37)), (some (30, false))⟩,
    ⟨(some 39), .val (.pick (.t 30) (.c (.bool true)) (.t 38)), none⟩]
def g104_4 : List Am.Item := [
    ⟨(some 4), .val (.mov (.c (.bool false))), none⟩]
def g104_5 : List Am.Item := [
    ⟨(some 40), .val (.faddr 4 (.t 3)), none⟩,
    ⟨(some 41), .val (.faddr 0 (.t 40)), none⟩,
    ⟨(some 42), .val (.load none (.t 41)), none⟩,
    ⟨(some 43), .val (.bin .num .neq (.t 42) (.c (.int .i64 9))), none⟩]
def g104_6 : List Am.Item := [
    ⟨(some 4), .val (.mov (.c (.bool true))), none⟩]
def g104_7 : List Am.Item := [
    ⟨(some 45), .val (.load (some 3) (.t 2)), none⟩,
    ⟨(some 46), .val (.faddr 4 (.t 3)), none⟩,
    ⟨(some 47), .val (.faddr 1 (.t 46)), none⟩,
    ⟨(some 48), .val (.load none (.t 47)), none⟩,
    ⟨(some 49), .call (.f 119) [(.t 45), (.t 48)], none⟩,
    ⟨(some 44), .val (.mov (.t 49)), none⟩,
    ⟨(some 50), .val (.ext (.t 44) 0), none⟩,
    ⟨(some 51), .val (.ext (.t 44) 1), none⟩,
    ⟨(some 5), .allocN 5 [.str [], .bool false, .nils, .nils, .nils], none⟩,
    ⟨none, .store 5 (.t 5) (.t 50), none⟩,
    ⟨(some 6), .val (.mov (.t 51)), none⟩]
def g104_8 : List Am.Item := [
    ⟨(some 52), .val (.mov (.t 6)), none⟩,
    ⟨(some 53), .val (.mov (.t 52)), none⟩,
    ⟨(some 54), .val (.faddr 2 (.t 5)), (some (53, true))⟩,
    ⟨(some 55), .val (.load none (.t 54)), (some (53, true))⟩,
    ⟨(some 56), .val (.mkfn (.func 125) [] [(.t 3)]), (some (53, true))⟩,
    ⟨(some 57), .callF (.f 31) [(.t 55), (.t 56)], (some (53, true))⟩,
    ⟨(some 58), .val (.pick (.t 53) (.t 57) (.c (.bool false))), none⟩,
    ⟨(some 4), .val (.mov (.t 58)), none⟩]
def r104 : RC := .seq (.reg g104_0) (.seq (.seq (.reg g104_1) (.cond (.t 9) (.seq (.reg g104_2) (.ret)) (.skip))) (.seq (.seq (.draw g104_3) (.cond (.t 39) (.seq (.reg g104_4) (.ret)) (.skip))) (.seq (.seq (.reg g104_5) (.cond (.t 43) (.seq (.reg g104_6) (.ret)) (.skip))) (.seq (.reg g104_7) (.seq (.reg g104_8) (.ret))))))
def o104 : List RR := [.tmp 4]
theorem k104 : chkC Tryz.prog 59 r104 (Tryz.f104.body.getD .skip) = true := by decide +kernel
theorem q104 : chkR Tryz.prog Tryz.f104.results.toList o104 = true := by decide +kernel

/- wireschema/note.Check -/
def g106_0 : List Am.Item := [
    ⟨(some 4), .val (.mov (.c (.int .i64 0))), none⟩]
def g106_1 : List Am.Item := [
    ⟨(some 9), .val (.mov (.t 0)), none⟩,
    ⟨(some 10), .val (.len 1 (.t 9)), none⟩,
    ⟨(some 11), .val (.bin .num .gtr (.t 10) (.c (.int .i64 8))), none⟩]
def g106_2 : List Am.Item := [
    ⟨(some 4), .val (.mov (.c (.int .i64 3))), none⟩]
def g106_3 : List Am.Item := [
    ⟨(some 5), .val (.mov (.c (.str []))), none⟩]
def g106_4 : List Am.Item := [
    ⟨(some 12), .val (.mov (.t 0)), none⟩,
    ⟨(some 13), .val (.len 1 (.t 12)), none⟩,
    ⟨(some 14), .val (.mov (.c (.int .i64 0))), none⟩]
def g106_5 : List Am.Item := [
    ⟨(some 15), .val (.bin .num .lss (.t 14) (.t 13)), none⟩]
def g106_6 : List Am.Item := [
    ⟨(some 16), .val (.mov (.t 14)), none⟩,
    ⟨(some 17), .val (.iaddr 8 none (.t 12) (.t 14)), none⟩,
    ⟨(some 18), .val (.load (some 8) (.t 17)), none⟩,
    ⟨(some 7), .allocN 7 [.str [], .int .i64 0, .int .u64 0, .str [], .nils, .nils, .nils, .nils], none⟩,
    ⟨(some 6), .val (.mov (.t 16)), none⟩,
    ⟨none, .store 8 (.t 7) (.t 18), none⟩]
def g106_7 : List Am.Item := [
    ⟨(some 19), .val (.load (some 8) (.t 7)), none⟩,
    ⟨(some 20), .val (.mov (.t 1)), none⟩,
    ⟨(some 21), .val (.mov (.t 5)), none⟩,
    ⟨(some 22), .val (.mov (.t 6)), none⟩,
    ⟨(some 23), .val (.bin .num .gtr (.t 22) (.c (.int .i64 0))), none⟩,
    ⟨(some 24), .call (.f 127) [(.t 19), (.t 20), (.t 21), (.t 23)], none⟩,
    ⟨(some 8), .val (.mov (.t 24)), none⟩]
def g106_8 : List Am.Item := [
    ⟨(some 25), .val (.mov (.t 8)), none⟩,
    ⟨(some 26), .val (.bin .num .neq (.t 25) (.c (.int .i64 0))), none⟩]
def g106_9 : List Am.Item := [
    ⟨(some 27), .val (.mov (.t 8)), none⟩,
    ⟨(some 4), .val (.mov (.t 27)), none⟩]
def g106_10 : List Am.Item := [
    ⟨(some 28), .val (.faddr 0 (.t 7)), none⟩,
    ⟨(some 29), .val (.load none (.t 28)), none⟩,
    ⟨(some 5), .val (.mov (.t 29)), none⟩]
def g106_11 : List Am.Item := [
    ⟨(some 30), .val (.bin .num .add (.t 14) (.c (.int .i64 1))), none⟩,
    ⟨(some 14), .val (.mov (.t 30)), none⟩]
def l106_0 : RC := .gho (.drop 7) (.seq (.reg g106_5) (.seq (.cond (.t 15) (.skip) (.exit 0)) (.seq (.block 1 (.seq (.reg g106_6) (.seq (.seq (.reg g106_7) (.seq (.reg g106_8) (.cond (.t 26) (.seq (.reg g106_9) (.ret)) (.skip)))) (.reg g106_10)))) (.reg g106_11))))
def g106_12 : List Am.Item := [
    ⟨(some 4), .val (.mov (.c (.int .i64 0))), none⟩]
def r106 : RC := .seq (.reg g106_0) (.seq (.seq (.reg g106_1) (.cond (.t 11) (.seq (.reg g106_2) (.ret)) (.skip))) (.seq (.reg g106_3) (.seq (.seq (.reg g106_4) (.block 0 (.loop l106_0))) (.seq (.reg g106_12) (.ret)))))
def o106 : List RR := [.tmp 4]
theorem k106 : chkC Tryz.prog 31 r106 (Tryz.f106.body.getD .skip) = true := by decide +kernel
theorem q106 : chkR Tryz.prog Tryz.f106.results.toList o106 = true := by decide +kernel

/- wireschema/ident.IsPart -/
def g108_0 : List Am.Item := [
    ⟨(some 2), .val (.mov (.c (.bool false))), none⟩]
def g108_1 : List Am.Item := [
    ⟨(some 6), .val (.mov (.t 0)), none⟩,
    ⟨(some 7), .rngs 7 (.t 6), none⟩]
def g108_2 : List Am.Item := [
    ⟨(some 8), .nxts (.t 7), none⟩,
    ⟨(some 9), .val (.ext (.t 8) 0), none⟩]
def g108_3 : List Am.Item := [
    ⟨(some 10), .val (.ext (.t 8) 1), none⟩,
    ⟨(some 11), .val (.ext (.t 8) 2), none⟩,
    ⟨(some 3), .val (.mov (.t 10)), none⟩,
    ⟨(some 4), .val (.mov (.t 11)), none⟩]
def g108_4 : List Am.Item := [
    ⟨(some 12), .val (.mov (.t 4)), none⟩,
    ⟨(some 13), .call (.f 128) [(.t 12)], none⟩,
    ⟨(some 5), .val (.mov (.t 13)), none⟩]
def g108_5 : List Am.Item := [
    ⟨(some 14), .val (.mov (.t 5)), none⟩,
    ⟨(some 15), .val (.bin .num .eql (.t 14) (.c (.int .i64 0))), none⟩,
    ⟨(some 16), .val (.mov (.t 15)), none⟩,
    ⟨(some 17), .val (.mov (.t 3)), (some (16, false))⟩,
    ⟨(some 18), .val (.bin .num .eql (.t 17) (.c (.int .i64 0))), (some (16, false))⟩,
    ⟨(some 19), .val (.mov (.t 18)), (some (16, false))⟩,
    ⟨(some 20), .val (.mov (.t 5)), (some (19, true))⟩,
    ⟨(some 21), .val (.bin .num .neq (.t 20) (.c (.int .i64 1))), (some (19, true))⟩,
    ⟨(some 22), .val (.pick (.t 19) (.t 21) (.c (.bool false))), (some (16, false))⟩,
    ⟨(some 23), .val (.mov (.t 22)), (some (16, false))⟩,
    ⟨(some 24), .val (.mov (.t 5)), (some (23, true))⟩,
    ⟨(some 25), .val (.bin .num .neq (.t 24) (.c (.int .i64 2))), (some (23, true))⟩,
    ⟨(some 26), .val (.pick (.t 23) (.t 25) (.c (.bool false))), (some (16, false))⟩,
    ⟨(some 27), .val (.pick (.t 16) (.c (.bool true)) (.t 26)), none⟩]
def g108_6 : List Am.Item := [
    ⟨(some 2), .val (.mov (.c (.bool false))), none⟩]
def l108_0 : RC := .seq (.reg g108_2) (.seq (.cond (.t 9) (.skip) (.exit 0)) (.block 1 (.seq (.reg g108_3) (.seq (.reg g108_4) (.seq (.reg g108_5) (.cond (.t 27) (.seq (.reg g108_6) (.ret)) (.skip)))))))
def g108_7 : List Am.Item := [
    ⟨(some 28), .val (.mov (.t 0)), none⟩,
    ⟨(some 29), .val (.len 0 (.t 28)), none⟩,
    ⟨(some 30), .val (.bin .num .geq (.t 29) (.c (.int .i64 1))), none⟩,
    ⟨(some 31), .val (.mov (.t 30)), none⟩,
    ⟨(some 32), .val (.mov (.t 0)), (some (31, true))⟩,
    ⟨(some 33), .val (.len 0 (.t 32)), (some (31, true))⟩,
    ⟨(some 34), .val (.bin .num .leq (.t 33) (.c (.int .i64 40))), (some (31, true))⟩,
    ⟨(some 35), .val (.pick (.t 31) (.t 34) (.c (.bool false))), none⟩,
    ⟨(some 2), .val (.mov (.t 35)), none⟩]
def r108 : RC := .seq (.reg g108_0) (.seq (.seq (.reg g108_1) (.block 0 (.loop l108_0))) (.seq (.reg g108_7) (.ret)))
def o108 : List RR := [.tmp 2]
theorem k108 : chkC Tryz.prog 36 r108 (Tryz.f108.body.getD .skip) = true := by decide +kernel
theorem q108 : chkR Tryz.prog Tryz.f108.results.toList o108 = true := by decide +kernel

/- slices.ContainsFunc[[]wireschema/api.Span,wireschema/api.Span] -/
def g110_0 : List Am.Item := [
    ⟨(some 4), .val (.mov (.c (.bool false))), none⟩]
def g110_1 : List Am.Item := [
    ⟨(some 5), .val (.mov (.t 0)), none⟩,
    ⟨(some 6), .val (.mov (.t 1)), none⟩,
    ⟨(some 7), .callF (.f 129) [(.t 5), (.t 6)], none⟩,
    ⟨(some 8), .val (.bin .num .geq (.t 7) (.c (.int .i64 0))), none⟩,
    ⟨(some 4), .val (.mov (.t 8)), none⟩]
def r110 : RC := .seq (.reg g110_0) (.seq (.reg g110_1) (.ret))
def o110 : List RR := [.tmp 4]
theorem k110 : chkC Tryz.prog 9 r110 (Tryz.f110.body.getD .skip) = true := by decide +kernel
theorem q110 : chkR Tryz.prog Tryz.f110.results.toList o110 = true := by decide +kernel

/- strings.genSplit -/
def g116_0 : List Am.Item := [
    ⟨(some 8), .val (.mov (.c (.nils))), none⟩]
def g116_1 : List Am.Item := [
    ⟨(some 12), .val (.mov (.t 3)), none⟩,
    ⟨(some 13), .val (.bin .num .eql (.t 12) (.c (.int .i64 0))), none⟩]
def g116_2 : List Am.Item := [
    ⟨(some 8), .val (.mov (.c (.nils))), none⟩]
def g116_3 : List Am.Item := [
    ⟨(some 14), .val (.mov (.t 1)), none⟩,
    ⟨(some 15), .val (.bin .str .eql (.t 14) (.c (.str []))), none⟩]
def g116_4 : List Am.Item := [
    ⟨(some 16), .val (.mov (.t 0)), none⟩,
    ⟨(some 17), .val (.mov (.t 3)), none⟩,
    ⟨(some 18), .call (.f 132) [(.t 16), (.t 17)], none⟩,
    ⟨(some 8), .val (.mov (.t 18)), none⟩]
def g116_5 : List Am.Item := [
    ⟨(some 19), .val (.mov (.t 3)), none⟩,
    ⟨(some 20), .val (.bin .num .lss (.t 19) (.c (.int .i64 0))), none⟩]
def g116_6 : List Am.Item := [
    ⟨(some 21), .val (.mov (.t 0)), none⟩,
    ⟨(some 22), .val (.mov (.t 1)), none⟩,
    ⟨(some 23), .call (.f 133) [(.t 21), (.t 22)], none⟩,
    ⟨(some 24), .val (.bin .num .add (.t 23) (.c (.int .i64 1))), none⟩,
    ⟨(some 3), .val (.mov (.t 24)), none⟩]
def g116_7 : List Am.Item := [
    ⟨(some 25), .val (.mov (.t 3)), none⟩,
    ⟨(some 26), .val (.mov (.t 0)), none⟩,
    ⟨(some 27), .val (.len 0 (.t 26)), none⟩,
    ⟨(some 28), .val (.bin .num .add (.t 27) (.c (.int .i64 1))), none⟩,
    ⟨(some 29), .val (.mnx false (.t 25) (.t 28)), none⟩,
    ⟨(some 3), .val (.mov (.t 29)), none⟩]
def g116_8 : List Am.Item := [
    ⟨(some 30), .val (.mov (.t 3)), none⟩,
    ⟨(some 31), .mk 31 9 1 16 [.str []] (.t 30) (.t 30), none⟩,
    ⟨(some 9), .val (.mov (.t 31)), none⟩]
def g116_9 : List Am.Item := [
    ⟨(some 32), .val (.mov (.t 3)), none⟩,
    ⟨(some 33), .val (.bin .num .sub (.t 32) (.c (.int .i64 1))), none⟩,
    ⟨(some 3), .val (.mov (.t 33)), none⟩]
def g116_10 : List Am.Item := [
    ⟨(some 10), .val (.mov (.c (.int .i64 0))), none⟩]
def g116_11 : List Am.Item := [
    ⟨(some 34), .val (.mov (.t 10)), none⟩,
    ⟨(some 35), .val (.mov (.t 3)), none⟩,
    ⟨(some 36), .val (.bin .num .lss (.t 34) (.t 35)), none⟩]
def g116_12 : List Am.Item := [
    ⟨(some 37), .val (.mov (.t 0)), none⟩,
    ⟨(some 38), .val (.mov (.t 1)), none⟩,
    ⟨(some 39), .call (.f 134) [(.t 37), (.t 38)], none⟩,
    ⟨(some 11), .val (.mov (.t 39)), none⟩]
def g116_13 : List Am.Item := [
    ⟨(some 40), .val (.mov (.t 11)), none⟩,
    ⟨(some 41), .val (.bin .num .lss (.t 40) (.c (.int .i64 0))), none⟩]
def g116_14 : List Am.Item := [
    ⟨(some 42), .val (.mov (.t 9)), none⟩,
    ⟨(some 43), .val (.mov (.t 10)), none⟩,
    ⟨(some 44), .val (.mov (.t 0)), none⟩,
    ⟨(some 45), .val (.mov (.t 11)), none⟩,
    ⟨(some 46), .val (.mov (.t 2)), none⟩,
    ⟨(some 47), .val (.bin .num .add (.t 45) (.t 46)), none⟩,
    ⟨(some 48), .val (.slc none (.t 44) none (some (.t 47)) none), none⟩,
    ⟨(some 49), .val (.iaddr 1 none (.t 42) (.t 43)), none⟩,
    ⟨none, .store 1 (.t 49) (.t 48), none⟩]
def g116_15 : List Am.Item := [
    ⟨(some 50), .val (.mov (.t 0)), none⟩,
    ⟨(some 51), .val (.mov (.t 11)), none⟩,
    ⟨(some 52), .val (.mov (.t 1)), none⟩,
    ⟨(some 53), .val (.len 0 (.t 52)), none⟩,
    ⟨(some 54), .val (.bin .num .add (.t 51) (.t 53)), none⟩,
    ⟨(some 55), .val (.slc none (.t 50) (some (.t 54)) none none), none⟩,
    ⟨(some 0), .val (.mov (.t 55)), none⟩]
def g116_16 : List Am.Item := [
    ⟨(some 56), .val (.mov (.t 10)), none⟩,
    ⟨(some 57), .val (.bin .num .add (.t 56) (.c (.int .i64 1))), none⟩,
    ⟨(some 10), .val (.mov (.t 57)), none⟩]
def l116_0 : RC := .seq (.seq (.reg g116_11) (.cond (.t 36) (.skip) (.exit 0))) (.block 1 (.seq (.reg g116_12) (.seq (.seq (.reg g116_13) (.cond (.t 41) (.exit 0) (.skip))) (.seq (.reg g116_14) (.seq (.reg g116_15) (.reg g116_16))))))
def g116_17 : List Am.Item := [
    ⟨(some 58), .val (.mov (.t 9)), none⟩,
    ⟨(some 59), .val (.mov (.t 10)), none⟩,
    ⟨(some 60), .val (.mov (.t 0)), none⟩,
    ⟨(some 61), .val (.iaddr 1 none (.t 58) (.t 59)), none⟩,
    ⟨none, .store 1 (.t 61) (.t 60), none⟩]
def g116_18 : List Am.Item := [
    ⟨(some 62), .val (.mov (.t 9)), none⟩,
    ⟨(some 63), .val (.mov (.t 10)), none⟩,
    ⟨(some 64), .val (.bin .num .add (.t 63) (.c (.int .i64 1))), none⟩,
    ⟨(some 65), .val (.slc (some 1) (.t 62) none (some (.t 64)) none), none⟩,
    ⟨(some 8), .val (.mov (.t 65)), none⟩]
def r116 : RC := .seq (.reg g116_0) (.seq (.seq (.reg g116_1) (.cond (.t 13) (.seq (.reg g116_2) (.ret)) (.skip))) (.seq (.seq (.reg g116_3) (.cond (.t 15) (.seq (.reg g116_4) (.ret)) (.skip))) (.seq (.seq (.reg g116_5) (.cond (.t 20) (.reg g116_6) (.skip))) (.seq (.reg g116_7) (.seq (.reg g116_8) (.seq (.reg g116_9) (.seq (.reg g116_10) (.seq (.block 0 (.loop l116_0)) (.seq (.reg g116_17) (.seq (.reg g116_18) (.ret)))))))))))
def o116 : List RR := [.tmp 8]
theorem k116 : chkC Tryz.prog 66 r116 (Tryz.f116.body.getD .skip) = true := by decide +kernel
theorem q116 : chkR Tryz.prog Tryz.f116.results.toList o116 = true := by decide +kernel

/- slices.ContainsFunc[[]wireschema/api.Field,wireschema/api.Field] -/
def g117_0 : List Am.Item := [
    ⟨(some 4), .val (.mov (.c (.bool false))), none⟩]
def g117_1 : List Am.Item := [
    ⟨(some 5), .val (.mov (.t 0)), none⟩,
    ⟨(some 6), .val (.mov (.t 1)), none⟩,
    ⟨(some 7), .callF (.f 135) [(.t 5), (.t 6)], none⟩,
    ⟨(some 8), .val (.bin .num .geq (.t 7) (.c (.int .i64 0))), none⟩,
    ⟨(some 4), .val (.mov (.t 8)), none⟩]
def r117 : RC := .seq (.reg g117_0) (.seq (.reg g117_1) (.ret))
def o117 : List RR := [.tmp 4]
theorem k117 : chkC Tryz.prog 9 r117 (Tryz.f117.body.getD .skip) = true := by decide +kernel
theorem q117 : chkR Tryz.prog Tryz.f117.results.toList o117 = true := by decide +kernel

/- wireschema/check.zero -/
def g122_0 : List Am.Item := [
    ⟨(some 1), .boxN 1 (.t 0), none⟩,
    ⟨(some 2), .val (.mov (.c (.bool false))), none⟩]
def g122_1 : List Am.Item := [
    ⟨(some 3), .val (.faddr 0 (.t 1)), none⟩,
    ⟨(some 4), .val (.load none (.t 3)), none⟩,
    ⟨(some 5), .val (.bin .num .eql (.t 4) (.c (.int .i64 0))), none⟩,
    ⟨(some 6), .val (.mov (.t 5)), none⟩,
    ⟨(some 7), .val (.faddr 1 (.t 1)), (some (6, true))⟩,
    ⟨(some 8), .val (.load none (.t 7)), (some (6, true))⟩,
    ⟨(some 9), .val (.bin .num .eql (.t 8) (.c (.int .u64 0))), (some (6, true))⟩,
    ⟨(some 10), .val (.pick (.t 6) (.t 9) (.c (.bool false))), none⟩,
    ⟨(some 11), .val (.mov (.t 10)), none⟩,
    ⟨(some 12), .val (.faddr 2 (.t 1)), (some (11, true))⟩,
    ⟨(some 13), .val (.load none (.t 12)), (some (11, true))⟩,
    ⟨(some 14), .val (.bin .str .eql (.t 13) (.c (.str []))), (some (11, true))⟩,
    ⟨(some 15), .val (.pick (.t 11) (.t 14) (.c (.bool false))), none⟩,
    ⟨(some 16), .val (.mov (.t 15)), none⟩,
    ⟨(some 17), .val (.faddr 3 (.t 1)), (some (16, true))⟩,
    ⟨(some 18), .val (.load none (.t 17)), (some (16, true))⟩,
    ⟨(some 19), .val (.len 1 (.t 18)), (some (16, true))⟩,
    ⟨(some 20), .val (.faddr 4 (.t 1)), (some (16, true))⟩,
    ⟨(some 21), .val (.load none (.t 20)), (some (16, true))⟩,
    ⟨(some 22), .val (.len 1 (.t 21)), (some (16, true))⟩,
    ⟨(some 23), .val (.bin .num .add (.t 19) (.t 22)), (some (16, true))⟩,
    ⟨(some 24), .val (.faddr 5 (.t 1)), (some (16, true))⟩,
    ⟨(some 25), .val (.load none (.t 24)), (some (16, true))⟩,
    ⟨(some 26), .val (.len 1 (.t 25)), (some (16, true))⟩,
    ⟨(some 27), .val (.bin .num .add (.t 23) (.t 26)), (some (16, true))⟩,
    ⟨(some 28), .val (.faddr 6 (.t 1)), (some (16, true))⟩,
    ⟨(some 29), .val (.load none (.t 28)), (some (16, true))⟩,
    ⟨(some 30), .val (.len 1 (.t 29)), (some (16, true))⟩,
    ⟨(some 31), .val (.bin .num .add (.t 27) (.t 30)), (some (16, true))⟩,
    ⟨(some 32), .val (.bin .num .eql (.t 31) (.c (.int .i64 0))), (some (16, true))⟩,
    ⟨(some 33), .val (.pick (.t 16) (.t 32) (.c (.bool false))), none⟩,
    ⟨(some 2), .val (.mov (.t 33)), none⟩]
def r122 : RC := .seq (.reg g122_0) (.seq (.reg g122_1) (.ret))
def o122 : List RR := [.tmp 2]
theorem k122 : chkC Tryz.prog 34 r122 (Tryz.f122.body.getD .skip) = true := by decide +kernel
theorem q122 : chkR Tryz.prog Tryz.f122.results.toList o122 = true := by decide +kernel

/- wireschema/ident.class -/
def g128_0 : List Am.Item := [
    ⟨(some 2), .val (.mov (.c (.int .i64 0))), none⟩]
def g128_1 : List Am.Item := [
    ⟨(some 4), .val (.mov (.t 0)), none⟩,
    ⟨(some 5), .val (.bin .num .geq (.t 4) (.c (.int .i32 97))), none⟩,
    ⟨(some 6), .val (.mov (.t 5)), none⟩,
    ⟨(some 7), .val (.mov (.t 0)), (some (6, true))⟩,
    ⟨(some 8), .val (.bin .num .leq (.t 7) (.c (.int .i32 122))), (some (6, true))⟩,
    ⟨(some 9), .val (.pick (.t 6) (.t 8) (.c (.bool false))), none⟩,
    ⟨(some 3), .val (.mov (.t 9)), none⟩]
def g128_2 : List Am.Item := [
    ⟨(some 2), .val (.mov (.c (.int .i64 1))), none⟩]
def g128_3 : List Am.Item := [
    ⟨(some 11), .val (.mov (.t 0)), none⟩,
    ⟨(some 12), .val (.bin .num .geq (.t 11) (.c (.int .i32 65))), none⟩,
    ⟨(some 13), .val (.mov (.t 12)), none⟩,
    ⟨(some 14), .val (.mov (.t 0)), (some (13, true))⟩,
    ⟨(some 15), .val (.bin .num .leq (.t 14) (.c (.int .i32 90))), (some (13, true))⟩,
    ⟨(some 16), .val (.pick (.t 13) (.t 15) (.c (.bool false))), none⟩,
    ⟨(some 10), .val (.mov (.t 16)), none⟩]
def g128_4 : List Am.Item := [
    ⟨(some 2), .val (.mov (.c (.int .i64 2))), none⟩]
def g128_5 : List Am.Item := [
    ⟨(some 18), .val (.mov (.t 0)), none⟩,
    ⟨(some 19), .val (.bin .num .geq (.t 18) (.c (.int .i32 48))), none⟩,
    ⟨(some 20), .val (.mov (.t 19)), none⟩,
    ⟨(some 21), .val (.mov (.t 0)), (some (20, true))⟩,
    ⟨(some 22), .val (.bin .num .leq (.t 21) (.c (.int .i32 57))), (some (20, true))⟩,
    ⟨(some 23), .val (.pick (.t 20) (.t 22) (.c (.bool false))), none⟩,
    ⟨(some 17), .val (.mov (.t 23)), none⟩]
def g128_6 : List Am.Item := [
    ⟨(some 2), .val (.mov (.c (.int .i64 3))), none⟩]
def g128_7 : List Am.Item := [
    ⟨(some 25), .val (.mov (.t 0)), none⟩,
    ⟨(some 26), .val (.bin .num .eql (.t 25) (.c (.int .i32 95))), none⟩,
    ⟨(some 24), .val (.mov (.t 26)), none⟩]
def g128_8 : List Am.Item := [
    ⟨(some 2), .val (.mov (.c (.int .i64 4))), none⟩]
def g128_9 : List Am.Item := [
    ⟨(some 2), .val (.mov (.c (.int .i64 0))), none⟩]
def r128 : RC := .seq (.reg g128_0) (.seq (.block 0 (.seq (.reg g128_1) (.cond (.t 3) (.seq (.reg g128_2) (.ret)) (.seq (.reg g128_3) (.cond (.t 10) (.seq (.reg g128_4) (.ret)) (.seq (.reg g128_5) (.cond (.t 17) (.seq (.reg g128_6) (.ret)) (.seq (.reg g128_7) (.cond (.t 24) (.seq (.reg g128_8) (.ret)) (.skip)))))))))) (.seq (.reg g128_9) (.ret)))
def o128 : List RR := [.tmp 2]
theorem k128 : chkC Tryz.prog 27 r128 (Tryz.f128.body.getD .skip) = true := by decide +kernel
theorem q128 : chkR Tryz.prog Tryz.f128.results.toList o128 = true := by decide +kernel

/- slices.IndexFunc[[]wireschema/api.Span,wireschema/api.Span] -/
def g129_0 : List Am.Item := [
    ⟨(some 4), .val (.mov (.c (.int .i64 0))), none⟩]
def g129_1 : List Am.Item := [
    ⟨(some 6), .val (.mov (.t 0)), none⟩,
    ⟨(some 7), .val (.len 1 (.t 6)), none⟩,
    ⟨(some 8), .val (.mov (.c (.int .i64 0))), none⟩]
def g129_2 : List Am.Item := [
    ⟨(some 9), .val (.bin .num .lss (.t 8) (.t 7)), none⟩]
def g129_3 : List Am.Item := [
    ⟨(some 10), .val (.mov (.t 8)), none⟩,
    ⟨(some 5), .val (.mov (.t 10)), none⟩]
def g129_4 : List Am.Item := [
    ⟨(some 11), .val (.mov (.t 1)), none⟩,
    ⟨(some 12), .val (.mov (.t 0)), none⟩,
    ⟨(some 13), .val (.mov (.t 5)), none⟩,
    ⟨(some 14), .val (.iaddr 2 none (.t 12) (.t 13)), none⟩,
    ⟨(some 15), .val (.load (some 2) (.t 14)), none⟩,
    ⟨(some 16), .callF (.t 11) [(.t 15)], none⟩]
def g129_5 : List Am.Item := [
    ⟨(some 17), .val (.mov (.t 5)), none⟩,
    ⟨(some 4), .val (.mov (.t 17)), none⟩]
def g129_6 : List Am.Item := [
    ⟨(some 18), .val (.bin .num .add (.t 8) (.c (.int .i64 1))), none⟩,
    ⟨(some 8), .val (.mov (.t 18)), none⟩]
def l129_0 : RC := .seq (.reg g129_2) (.seq (.cond (.t 9) (.skip) (.exit 0)) (.seq (.block 1 (.seq (.reg g129_3) (.seq (.reg g129_4) (.cond (.t 16) (.seq (.reg g129_5) (.ret)) (.skip))))) (.reg g129_6)))
def g129_7 : List Am.Item := [
    ⟨(some 4), .val (.mov (.c (.int .i64 (-1)))), none⟩]
def r129 : RC := .seq (.reg g129_0) (.seq (.seq (.reg g129_1) (.block 0 (.loop l129_0))) (.seq (.reg g129_7) (.ret)))
def o129 : List RR := [.tmp 4]
theorem k129 : chkC Tryz.prog 19 r129 (Tryz.f129.body.getD .skip) = true := by decide +kernel
theorem q129 : chkR Tryz.prog Tryz.f129.results.toList o129 = true := by decide +kernel

/- strings.Count -/
def g133_0 : List Am.Item := [
    ⟨(some 4), .val (.mov (.c (.int .i64 0))), none⟩]
def g133_1 : List Am.Item := [
    ⟨(some 7), .val (.mov (.t 1)), none⟩,
    ⟨(some 8), .val (.len 0 (.t 7)), none⟩,
    ⟨(some 9), .val (.bin .num .eql (.t 8) (.c (.int .i64 0))), none⟩]
def g133_2 : List Am.Item := [
    ⟨(some 10), .val (.mov (.t 0)), none⟩,
    ⟨(some 11), .call (.f 153) [(.t 10)], none⟩,
    ⟨(some 12), .val (.bin .num .add (.t 11) (.c (.int .i64 1))), none⟩,
    ⟨(some 4), .val (.mov (.t 12)), none⟩]
def g133_3 : List Am.Item := [
    ⟨(some 13), .val (.mov (.t 1)), none⟩,
    ⟨(some 14), .val (.len 0 (.t 13)), none⟩,
    ⟨(some 15), .val (.bin .num .eql (.t 14) (.c (.int .i64 1))), none⟩]
def g133_4 : List Am.Item := [
    ⟨(some 16), .val (.mov (.t 0)), none⟩,
    ⟨(some 17), .val (.mov (.t 1)), none⟩,
    ⟨(some 18), .val (.idx (.t 17) (.c (.int .i64 0))), none⟩,
    ⟨(some 19), .xb true 155 (.t 16) (.t 18), none⟩,
    ⟨(some 4), .val (.mov (.t 19)), none⟩]
def g133_5 : List Am.Item := [
    ⟨(some 5), .val (.mov (.c (.int .i64 0))), none⟩]
def g133_6 : List Am.Item := [
    ⟨(some 20), .val (.mov (.t 0)), none⟩,
    ⟨(some 21), .val (.mov (.t 1)), none⟩,
    ⟨(some 22), .call (.f 134) [(.t 20), (.t 21)], none⟩,
    ⟨(some 6), .val (.mov (.t 22)), none⟩]
def g133_7 : List Am.Item := [
    ⟨(some 23), .val (.mov (.t 6)), none⟩,
    ⟨(some 24), .val (.bin .num .eql (.t 23) (.c (.int .i64 (-1)))), none⟩]
def g133_8 : List Am.Item := [
    ⟨(some 25), .val (.mov (.t 5)), none⟩,
    ⟨(some 4), .val (.mov (.t 25)), none⟩]
def g133_9 : List Am.Item := [
    ⟨(some 26), .val (.mov (.t 5)), none⟩,
    ⟨(some 27), .val (.bin .num .add (.t 26) (.c (.int .i64 1))), none⟩,
    ⟨(some 5), .val (.mov (.t 27)), none⟩]
def g133_10 : List Am.Item := [
    ⟨(some 28), .val (.mov (.t 0)), none⟩,
    ⟨(some 29), .val (.mov (.t 6)), none⟩,
    ⟨(some 30), .val (.mov (.t 1)), none⟩,
    ⟨(some 31), .val (.len 0 (.t 30)), none⟩,
    ⟨(some 32), .val (.bin .num .add (.t 29) (.t 31)), none⟩,
    ⟨(some 33), .val (.slc none (.t 28) (some (.t 32)) none none), none⟩,
    ⟨(some 0), .val (.mov (.t 33)), none⟩]
def l133_0 : RC := .block 1 (.seq (.reg g133_6) (.seq (.seq (.reg g133_7) (.cond (.t 24) (.seq (.reg g133_8) (.ret)) (.skip))) (.seq (.reg g133_9) (.reg g133_10))))
def r133 : RC := .seq (.reg g133_0) (.seq (.seq (.reg g133_1) (.cond (.t 9) (.seq (.reg g133_2) (.ret)) (.skip))) (.seq (.seq (.reg g133_3) (.cond (.t 15) (.seq (.reg g133_4) (.ret)) (.skip))) (.seq (.reg g133_5) (.block 0 (.loop l133_0)))))
def o133 : List RR := [.tmp 4]
theorem k133 : chkC Tryz.prog 34 r133 (Tryz.f133.body.getD .skip) = true := by decide +kernel
theorem q133 : chkR Tryz.prog Tryz.f133.results.toList o133 = true := by decide +kernel

/- slices.IndexFunc[[]wireschema/api.Field,wireschema/api.Field] -/
def g135_0 : List Am.Item := [
    ⟨(some 4), .val (.mov (.c (.int .i64 0))), none⟩]
def g135_1 : List Am.Item := [
    ⟨(some 6), .val (.mov (.t 0)), none⟩,
    ⟨(some 7), .val (.len 1 (.t 6)), none⟩,
    ⟨(some 8), .val (.mov (.c (.int .i64 0))), none⟩]
def g135_2 : List Am.Item := [
    ⟨(some 9), .val (.bin .num .lss (.t 8) (.t 7)), none⟩]
def g135_3 : List Am.Item := [
    ⟨(some 10), .val (.mov (.t 8)), none⟩,
    ⟨(some 5), .val (.mov (.t 10)), none⟩]
def g135_4 : List Am.Item := [
    ⟨(some 11), .val (.mov (.t 1)), none⟩,
    ⟨(some 12), .val (.mov (.t 0)), none⟩,
    ⟨(some 13), .val (.mov (.t 5)), none⟩,
    ⟨(some 14), .val (.iaddr 16 none (.t 12) (.t 13)), none⟩,
    ⟨(some 15), .val (.load (some 16) (.t 14)), none⟩,
    ⟨(some 16), .callF (.t 11) [(.t 15)], none⟩]
def g135_5 : List Am.Item := [
    ⟨(some 17), .val (.mov (.t 5)), none⟩,
    ⟨(some 4), .val (.mov (.t 17)), none⟩]
def g135_6 : List Am.Item := [
    ⟨(some 18), .val (.bin .num .add (.t 8) (.c (.int .i64 1))), none⟩,
    ⟨(some 8), .val (.mov (.t 18)), none⟩]
def l135_0 : RC := .seq (.reg g135_2) (.seq (.cond (.t 9) (.skip) (.exit 0)) (.seq (.block 1 (.seq (.reg g135_3) (.seq (.reg g135_4) (.cond (.t 16) (.seq (.reg g135_5) (.ret)) (.skip))))) (.reg g135_6)))
def g135_7 : List Am.Item := [
    ⟨(some 4), .val (.mov (.c (.int .i64 (-1)))), none⟩]
def r135 : RC := .seq (.reg g135_0) (.seq (.seq (.reg g135_1) (.block 0 (.loop l135_0))) (.seq (.reg g135_7) (.ret)))
def o135 : List RR := [.tmp 4]
theorem k135 : chkC Tryz.prog 19 r135 (Tryz.f135.body.getD .skip) = true := by decide +kernel
theorem q135 : chkR Tryz.prog Tryz.f135.results.toList o135 = true := by decide +kernel

/- wireschema/plan.Op -/
def g15_0 : List Am.Item := [
    ⟨(some 2), .boxN 2 (.t 0), none⟩,
    ⟨(some 3), .boxN 3 (.t 1), none⟩,
    ⟨(some 4), .allocN 4 [.int .i64 0, .str [], .str [], .int .i64 0, .int .i64 0, .int .i64 0, .int .i64 0, .int .i64 0], none⟩,
    ⟨(some 5), .val (.mov (.c (.bool false))), none⟩]
def g15_1 : List Am.Item := [
    ⟨(some 6), .val (.mkfn (.func 27) [] [(.t 3)]), none⟩,
    ⟨(some 7), .val (.build [.nilf] [(0, 1, (.t 6))]), none⟩,
    ⟨(some 8), .val (.load (some 3) (.t 2)), none⟩,
    ⟨(some 9), .callF (.f 28) [(.t 7), (.t 8)], none⟩,
    ⟨(some 10), .val (.ext (.t 9) 0), none⟩,
    ⟨(some 11), .val (.ext (.t 9) 1), none⟩,
    ⟨none, .store 8 (.t 4) (.t 10), none⟩,
    ⟨(some 5), .val (.mov (.t 11)), none⟩]
def r15 : RC := .seq (.reg g15_0) (.seq (.reg g15_1) (.ret))
def o15 : List RR := [.cell 4 (some 8), .tmp 5]
theorem k15 : chkC Tryz.prog 12 r15 (Tryz.f15.body.getD .skip) = true := by decide +kernel
theorem q15 : chkR Tryz.prog Tryz.f15.results.toList o15 = true := by decide +kernel

/- wireschema/plan.Op$1 -/
def g27_0 : List Am.Item := [
    ⟨(some 2), .boxN 2 (.t 0), none⟩,
    ⟨(some 3), .val (.mov (.c (.bool false))), none⟩]
def g27_1 : List Am.Item := [
    ⟨(some 4), .val (.faddr 0 (.t 2)), none⟩,
    ⟨(some 5), .val (.load none (.t 4)), none⟩,
    ⟨(some 6), .val (.load none (.t 1)), none⟩,
    ⟨(some 7), .val (.bin .num .eql (.t 5) (.t 6)), none⟩,
    ⟨(some 3), .val (.mov (.t 7)), none⟩]
def r27 : RC := .seq (.reg g27_0) (.seq (.reg g27_1) (.ret))
def o27 : List RR := [.tmp 3]
theorem k27 : chkC Tryz.prog 8 r27 (Tryz.f27.body.getD .skip) = true := by decide +kernel
theorem q27 : chkR Tryz.prog Tryz.f27.results.toList o27 = true := by decide +kernel

/- (wireschema/plan.finder).in -/
def g28_0 : List Am.Item := [
    ⟨(some 2), .boxN 2 (.t 0), none⟩,
    ⟨(some 3), .boxN 3 (.t 1), none⟩,
    ⟨(some 4), .allocN 4 [.int .i64 0, .str [], .str [], .int .i64 0, .int .i64 0, .int .i64 0, .int .i64 0, .int .i64 0], none⟩,
    ⟨(some 5), .val (.mov (.c (.bool false))), none⟩]
def g28_1 : List Am.Item := [
    ⟨(some 7), .val (.faddr 1 (.t 3)), none⟩,
    ⟨(some 8), .val (.load none (.t 7)), none⟩,
    ⟨(some 9), .val (.faddr 0 (.t 2)), none⟩,
    ⟨(some 10), .val (.load none (.t 9)), none⟩,
    ⟨(some 11), .callF (.f 42) [(.t 8), (.t 10)], none⟩,
    ⟨(some 6), .val (.mov (.t 11)), none⟩]
def g28_2 : List Am.Item := [
    ⟨(some 12), .val (.mov (.t 6)), none⟩,
    ⟨(some 13), .val (.bin .num .lss (.t 12) (.c (.int .i64 0))), none⟩]
def g28_3 : List Am.Item := [
    ⟨(some 14), .val (.build [.int .i64 0, .str [], .str [], .int .i64 0, .int .i64 0, .int .i64 0, .int .i64 0, .int .i64 0] []), none⟩,
    ⟨none, .store 8 (.t 4) (.t 14), none⟩,
    ⟨(some 5), .val (.mov (.c (.bool false))), none⟩]
def g28_4 : List Am.Item := [
    ⟨(some 15), .val (.faddr 1 (.t 3)), none⟩,
    ⟨(some 16), .val (.load none (.t 15)), none⟩,
    ⟨(some 17), .val (.mov (.t 6)), none⟩,
    ⟨(some 18), .val (.iaddr 8 none (.t 16) (.t 17)), none⟩,
    ⟨(some 19), .val (.load (some 8) (.t 18)), none⟩,
    ⟨none, .store 8 (.t 4) (.t 19), none⟩,
    ⟨(some 5), .val (.mov (.c (.bool true))), none⟩]
def r28 : RC := .seq (.reg g28_0) (.seq (.reg g28_1) (.seq (.seq (.reg g28_2) (.cond (.t 13) (.seq (.reg g28_3) (.ret)) (.skip))) (.seq (.reg g28_4) (.ret))))
def o28 : List RR := [.cell 4 (some 8), .tmp 5]
theorem k28 : chkC Tryz.prog 20 r28 (Tryz.f28.body.getD .skip) = true := by decide +kernel
theorem q28 : chkR Tryz.prog Tryz.f28.results.toList o28 = true := by decide +kernel

/- slices.IndexFunc[[]wireschema/api.Op,wireschema/api.Op] -/
def g42_0 : List Am.Item := [
    ⟨(some 4), .val (.mov (.c (.int .i64 0))), none⟩]
def g42_1 : List Am.Item := [
    ⟨(some 6), .val (.mov (.t 0)), none⟩,
    ⟨(some 7), .val (.len 1 (.t 6)), none⟩,
    ⟨(some 8), .val (.mov (.c (.int .i64 0))), none⟩]
def g42_2 : List Am.Item := [
    ⟨(some 9), .val (.bin .num .lss (.t 8) (.t 7)), none⟩]
def g42_3 : List Am.Item := [
    ⟨(some 10), .val (.mov (.t 8)), none⟩,
    ⟨(some 5), .val (.mov (.t 10)), none⟩]
def g42_4 : List Am.Item := [
    ⟨(some 11), .val (.mov (.t 1)), none⟩,
    ⟨(some 12), .val (.mov (.t 0)), none⟩,
    ⟨(some 13), .val (.mov (.t 5)), none⟩,
    ⟨(some 14), .val (.iaddr 8 none (.t 12) (.t 13)), none⟩,
    ⟨(some 15), .val (.load (some 8) (.t 14)), none⟩,
    ⟨(some 16), .callF (.t 11) [(.t 15)], none⟩]
def g42_5 : List Am.Item := [
    ⟨(some 17), .val (.mov (.t 5)), none⟩,
    ⟨(some 4), .val (.mov (.t 17)), none⟩]
def g42_6 : List Am.Item := [
    ⟨(some 18), .val (.bin .num .add (.t 8) (.c (.int .i64 1))), none⟩,
    ⟨(some 8), .val (.mov (.t 18)), none⟩]
def l42_0 : RC := .seq (.reg g42_2) (.seq (.cond (.t 9) (.skip) (.exit 0)) (.seq (.block 1 (.seq (.reg g42_3) (.seq (.reg g42_4) (.cond (.t 16) (.seq (.reg g42_5) (.ret)) (.skip))))) (.reg g42_6)))
def g42_7 : List Am.Item := [
    ⟨(some 4), .val (.mov (.c (.int .i64 (-1)))), none⟩]
def r42 : RC := .seq (.reg g42_0) (.seq (.seq (.reg g42_1) (.block 0 (.loop l42_0))) (.seq (.reg g42_7) (.ret)))
def o42 : List RR := [.tmp 4]
theorem k42 : chkC Tryz.prog 19 r42 (Tryz.f42.body.getD .skip) = true := by decide +kernel
theorem q42 : chkR Tryz.prog Tryz.f42.results.toList o42 = true := by decide +kernel

/- wireschema/plan.Find -/
def g13_0 : List Am.Item := [
    ⟨(some 2), .boxN 2 (.t 0), none⟩,
    ⟨(some 3), .boxN 3 (.t 1), none⟩,
    ⟨(some 4), .val (.mov (.c (.int .i64 0))), none⟩,
    ⟨(some 5), .val (.mov (.c (.bool false))), none⟩]
def g13_1 : List Am.Item := [
    ⟨(some 7), .val (.faddr 0 (.t 2)), none⟩,
    ⟨(some 8), .val (.load none (.t 7)), none⟩,
    ⟨(some 9), .val (.mkfn (.func 26) [] [(.t 3)]), none⟩,
    ⟨(some 10), .callF (.f 25) [(.t 8), (.t 9)], none⟩,
    ⟨(some 6), .val (.mov (.t 10)), none⟩]
def g13_2 : List Am.Item := [
    ⟨(some 11), .val (.mov (.t 6)), none⟩,
    ⟨(some 12), .val (.mnx true (.t 11) (.c (.int .i64 0))), none⟩,
    ⟨(some 13), .val (.mov (.t 6)), none⟩,
    ⟨(some 14), .val (.bin .num .geq (.t 13) (.c (.int .i64 0))), none⟩,
    ⟨(some 4), .val (.mov (.t 12)), none⟩,
    ⟨(some 5), .val (.mov (.t 14)), none⟩]
def r13 : RC := .seq (.reg g13_0) (.seq (.reg g13_1) (.seq (.reg g13_2) (.ret)))
def o13 : List RR := [.tmp 4, .tmp 5]
theorem k13 : chkC Tryz.prog 15 r13 (Tryz.f13.body.getD .skip) = true := by decide +kernel
theorem q13 : chkR Tryz.prog Tryz.f13.results.toList o13 = true := by decide +kernel

/- wireschema/plan.Find$1 -/
def g26_0 : List Am.Item := [
    ⟨(some 2), .boxN 2 (.t 0), none⟩,
    ⟨(some 3), .val (.mov (.c (.bool false))), none⟩]
def g26_1 : List Am.Item := [
    ⟨(some 4), .val (.faddr 0 (.t 2)), none⟩,
    ⟨(some 5), .val (.load none (.t 4)), none⟩,
    ⟨(some 6), .val (.load none (.t 1)), none⟩,
    ⟨(some 7), .val (.bin .str .eql (.t 5) (.t 6)), none⟩,
    ⟨(some 3), .val (.mov (.t 7)), none⟩]
def r26 : RC := .seq (.reg g26_0) (.seq (.reg g26_1) (.ret))
def o26 : List RR := [.tmp 3]
theorem k26 : chkC Tryz.prog 8 r26 (Tryz.f26.body.getD .skip) = true := by decide +kernel
theorem q26 : chkR Tryz.prog Tryz.f26.results.toList o26 = true := by decide +kernel

/- slices.IndexFunc[[]wireschema/api.Prog,wireschema/api.Prog] -/
def g25_0 : List Am.Item := [
    ⟨(some 4), .val (.mov (.c (.int .i64 0))), none⟩]
def g25_1 : List Am.Item := [
    ⟨(some 6), .val (.mov (.t 0)), none⟩,
    ⟨(some 7), .val (.len 1 (.t 6)), none⟩,
    ⟨(some 8), .val (.mov (.c (.int .i64 0))), none⟩]
def g25_2 : List Am.Item := [
    ⟨(some 9), .val (.bin .num .lss (.t 8) (.t 7)), none⟩]
def g25_3 : List Am.Item := [
    ⟨(some 10), .val (.mov (.t 8)), none⟩,
    ⟨(some 5), .val (.mov (.t 10)), none⟩]
def g25_4 : List Am.Item := [
    ⟨(some 11), .val (.mov (.t 1)), none⟩,
    ⟨(some 12), .val (.mov (.t 0)), none⟩,
    ⟨(some 13), .val (.mov (.t 5)), none⟩,
    ⟨(some 14), .val (.iaddr 3 none (.t 12) (.t 13)), none⟩,
    ⟨(some 15), .val (.load (some 3) (.t 14)), none⟩,
    ⟨(some 16), .callF (.t 11) [(.t 15)], none⟩]
def g25_5 : List Am.Item := [
    ⟨(some 17), .val (.mov (.t 5)), none⟩,
    ⟨(some 4), .val (.mov (.t 17)), none⟩]
def g25_6 : List Am.Item := [
    ⟨(some 18), .val (.bin .num .add (.t 8) (.c (.int .i64 1))), none⟩,
    ⟨(some 8), .val (.mov (.t 18)), none⟩]
def l25_0 : RC := .seq (.reg g25_2) (.seq (.cond (.t 9) (.skip) (.exit 0)) (.seq (.block 1 (.seq (.reg g25_3) (.seq (.reg g25_4) (.cond (.t 16) (.seq (.reg g25_5) (.ret)) (.skip))))) (.reg g25_6)))
def g25_7 : List Am.Item := [
    ⟨(some 4), .val (.mov (.c (.int .i64 (-1)))), none⟩]
def r25 : RC := .seq (.reg g25_0) (.seq (.seq (.reg g25_1) (.block 0 (.loop l25_0))) (.seq (.reg g25_7) (.ret)))
def o25 : List RR := [.tmp 4]
theorem k25 : chkC Tryz.prog 19 r25 (Tryz.f25.body.getD .skip) = true := by decide +kernel
theorem q25 : chkR Tryz.prog Tryz.f25.results.toList o25 = true := by decide +kernel

/- wireschema/plan.Named -/
def g17_0 : List Am.Item := [
    ⟨(some 2), .boxN 2 (.t 0), none⟩,
    ⟨(some 3), .boxN 3 (.t 1), none⟩,
    ⟨(some 4), .allocN 4 [.int .i64 0, .str [], .str [], .int .i64 0, .int .i64 0, .int .i64 0, .int .i64 0, .int .i64 0], none⟩,
    ⟨(some 5), .val (.mov (.c (.bool false))), none⟩]
def g17_1 : List Am.Item := [
    ⟨(some 9), .val (.mkfn (.func 29) [] [(.t 3)]), none⟩,
    ⟨(some 10), .val (.build [.nilf] [(0, 1, (.t 9))]), none⟩,
    ⟨(some 11), .val (.load (some 3) (.t 2)), none⟩,
    ⟨(some 12), .callF (.f 28) [(.t 10), (.t 11)], none⟩,
    ⟨(some 8), .val (.mov (.t 12)), none⟩,
    ⟨(some 13), .val (.ext (.t 8) 0), none⟩,
    ⟨(some 14), .val (.ext (.t 8) 1), none⟩,
    ⟨(some 6), .allocN 6 [.int .i64 0, .str [], .str [], .int .i64 0, .int .i64 0, .int .i64 0, .int .i64 0, .int .i64 0], none⟩,
    ⟨none, .store 8 (.t 6) (.t 13), none⟩,
    ⟨(some 7), .val (.mov (.t 14)), none⟩]
def g17_2 : List Am.Item := [
    ⟨(some 15), .val (.mov (.t 7)), none⟩]
def g17_3 : List Am.Item := [
    ⟨(some 16), .val (.load (some 8) (.t 6)), none⟩,
    ⟨none, .store 8 (.t 4) (.t 16), none⟩,
    ⟨(some 5), .val (.mov (.c (.bool true))), none⟩]
def g17_4 : List Am.Item := [
    ⟨(some 17), .val (.mkfn (.func 30) [] [(.t 3)]), none⟩,
    ⟨(some 18), .val (.build [.nilf] [(0, 1, (.t 17))]), none⟩,
    ⟨(some 19), .val (.load (some 3) (.t 2)), none⟩,
    ⟨(some 20), .callF (.f 28) [(.t 18), (.t 19)], none⟩,
    ⟨(some 21), .val (.ext (.t 20) 0), none⟩,
    ⟨(some 22), .val (.ext (.t 20) 1), none⟩,
    ⟨none, .store 8 (.t 4) (.t 21), none⟩,
    ⟨(some 5), .val (.mov (.t 22)), none⟩]
def r17 : RC := .seq (.reg g17_0) (.seq (.seq (.reg g17_1) (.seq (.reg g17_2) (.cond (.t 15) (.seq (.reg g17_3) (.ret)) (.skip)))) (.seq (.reg g17_4) (.ret)))
def o17 : List RR := [.cell 4 (some 8), .tmp 5]
theorem k17 : chkC Tryz.prog 23 r17 (Tryz.f17.body.getD .skip) = true := by decide +kernel
theorem q17 : chkR Tryz.prog Tryz.f17.results.toList o17 = true := by decide +kernel

/- wireschema/plan.Named$1 -/
def g29_0 : List Am.Item := [
    ⟨(some 2), .boxN 2 (.t 0), none⟩,
    ⟨(some 3), .val (.mov (.c (.bool false))), none⟩]
def g29_1 : List Am.Item := [
    ⟨(some 4), .val (.faddr 1 (.t 2)), none⟩,
    ⟨(some 5), .val (.load none (.t 4)), none⟩,
    ⟨(some 6), .val (.load none (.t 1)), none⟩,
    ⟨(some 7), .val (.bin .str .eql (.t 5) (.t 6)), none⟩,
    ⟨(some 3), .val (.mov (.t 7)), none⟩]
def r29 : RC := .seq (.reg g29_0) (.seq (.reg g29_1) (.ret))
def o29 : List RR := [.tmp 3]
theorem k29 : chkC Tryz.prog 8 r29 (Tryz.f29.body.getD .skip) = true := by decide +kernel
theorem q29 : chkR Tryz.prog Tryz.f29.results.toList o29 = true := by decide +kernel

/- wireschema/plan.Named$2 -/
def g30_0 : List Am.Item := [
    ⟨(some 2), .boxN 2 (.t 0), none⟩,
    ⟨(some 3), .val (.mov (.c (.bool false))), none⟩]
def g30_1 : List Am.Item := [
    ⟨(some 4), .val (.faddr 2 (.t 2)), none⟩,
    ⟨(some 5), .val (.load none (.t 4)), none⟩,
    ⟨(some 6), .val (.load none (.t 1)), none⟩,
    ⟨(some 7), .val (.bin .str .eql (.t 5) (.t 6)), none⟩,
    ⟨(some 8), .val (.mov (.t 7)), none⟩,
    ⟨(some 9), .val (.load none (.t 1)), (some (8, true))⟩,
    ⟨(some 10), .val (.bin .str .neq (.t 9) (.c (.str []))), (some (8, true))⟩,
    ⟨(some 11), .val (.pick (.t 8) (.t 10) (.c (.bool false))), none⟩,
    ⟨(some 3), .val (.mov (.t 11)), none⟩]
def r30 : RC := .seq (.reg g30_0) (.seq (.reg g30_1) (.ret))
def o30 : List RR := [.tmp 3]
theorem k30 : chkC Tryz.prog 12 r30 (Tryz.f30.body.getD .skip) = true := by decide +kernel
theorem q30 : chkR Tryz.prog Tryz.f30.results.toList o30 = true := by decide +kernel

/- wireschema/plan.Accepts -/
def g19_0 : List Am.Item := [
    ⟨(some 3), .boxN 3 (.t 0), none⟩,
    ⟨(some 5), .boxN 5 (.t 2), none⟩,
    ⟨(some 6), .val (.mov (.c (.bool false))), none⟩]
def g19_1 : List Am.Item := [
    ⟨(some 8), .val (.mov (.t 1)), none⟩,
    ⟨(some 9), .val (.bin .num .lss (.t 8) (.c (.int .i64 0))), none⟩,
    ⟨(some 10), .val (.mov (.t 9)), none⟩,
    ⟨(some 11), .val (.mov (.t 1)), (some (10, false))⟩,
    ⟨(some 12), .val (.faddr 1 (.t 3)), (some (10, false))⟩,
    ⟨(some 13), .val (.load none (.t 12)), (some (10, false))⟩,
    ⟨(some 14), .val (.len 1 (.t 13)), (some (10, false))⟩,
    ⟨(some 15), .val (.bin .num .geq (.t 11) (.t 14)), (some (10, false))⟩,
    ⟨(some 16), .val (.pick (.t 10) (.c (.bool true)) (.t 15)), none⟩,
    ⟨(some 17), .val (.mov (.t 16)), none⟩,
    ⟨(some 18), .val (.load none (.t 5)), (some (17, false))⟩,
    ⟨(some 19), .val (.bin .num .gtr (.t 18) (.c (.int .u64 2147483647))), (some (17, false))⟩,
    ⟨(some 20), .val (.pick (.t 17) (.c (.bool true)) (.t 19)), none⟩]
def g19_2 : List Am.Item := [
    ⟨(some 6), .val (.mov (.c (.bool false))), none⟩]
def g19_3 : List Am.Item := [
    ⟨(some 21), .val (.faddr 1 (.t 3)), none⟩,
    ⟨(some 22), .val (.load none (.t 21)), none⟩,
    ⟨(some 23), .val (.mov (.t 1)), none⟩,
    ⟨(some 24), .val (.iaddr 5 none (.t 22) (.t 23)), none⟩,
    ⟨(some 25), .val (.load (some 5) (.t 24)), none⟩,
    ⟨(some 7), .allocN 7 [.str [], .bool false, .nils, .nils, .nils], none⟩,
    ⟨none, .store 5 (.t 7) (.t 25), none⟩]
def g19_4 : List Am.Item := [
    ⟨(some 26), .val (.faddr 1 (.t 7)), none⟩,
    ⟨(some 27), .val (.load none (.t 26)), none⟩,
    ⟨(some 28), .val (.mov (.t 27)), none⟩,
    ⟨(some 29), .val (.faddr 2 (.t 7)), (some (28, false))⟩,
    ⟨(some 30), .val (.load none (.t 29)), (some (28, false))⟩,
    ⟨(some 31), .val (.mkfn (.func 32) [] [(.t 5)]), (some (28, false))⟩,
    ⟨(some 32), .callF (.f 31) [(.t 30), (.t 31)], (some (28, false))⟩,
    ⟨(some 33), .val (.pick (.t 28) (.c (.bool true)) (.t 32)), none⟩,
    ⟨(some 6), .val (.mov (.t 33)), none⟩]
def r19 : RC := .seq (.reg g19_0) (.seq (.seq (.reg g19_1) (.cond (.t 20) (.seq (.reg g19_2) (.ret)) (.skip))) (.seq (.reg g19_3) (.seq (.reg g19_4) (.ret))))
def o19 : List RR := [.tmp 6]
theorem k19 : chkC Tryz.prog 34 r19 (Tryz.f19.body.getD .skip) = true := by decide +kernel
theorem q19 : chkR Tryz.prog Tryz.f19.results.toList o19 = true := by decide +kernel

/- wireschema/plan.Accepts$1 -/
def g32_0 : List Am.Item := [
    ⟨(some 2), .boxN 2 (.t 0), none⟩,
    ⟨(some 3), .val (.mov (.c (.bool false))), none⟩]
def g32_1 : List Am.Item := [
    ⟨(some 4), .val (.faddr 1 (.t 2)), none⟩,
    ⟨(some 5), .val (.load none (.t 4)), none⟩,
    ⟨(some 6), .val (.cvi .u64 (.t 5)), none⟩,
    ⟨(some 7), .val (.load none (.t 1)), none⟩,
    ⟨(some 8), .val (.bin .num .eql (.t 6) (.t 7)), none⟩,
    ⟨(some 3), .val (.mov (.t 8)), none⟩]
def r32 : RC := .seq (.reg g32_0) (.seq (.reg g32_1) (.ret))
def o32 : List RR := [.tmp 3]
theorem k32 : chkC Tryz.prog 9 r32 (Tryz.f32.body.getD .skip) = true := by decide +kernel
theorem q32 : chkR Tryz.prog Tryz.f32.results.toList o32 = true := by decide +kernel

/- slices.ContainsFunc[[]wireschema/api.Item,wireschema/api.Item] -/
def g31_0 : List Am.Item := [
    ⟨(some 4), .val (.mov (.c (.bool false))), none⟩]
def g31_1 : List Am.Item := [
    ⟨(some 5), .val (.mov (.t 0)), none⟩,
    ⟨(some 6), .val (.mov (.t 1)), none⟩,
    ⟨(some 7), .callF (.f 43) [(.t 5), (.t 6)], none⟩,
    ⟨(some 8), .val (.bin .num .geq (.t 7) (.c (.int .i64 0))), none⟩,
    ⟨(some 4), .val (.mov (.t 8)), none⟩]
def r31 : RC := .seq (.reg g31_0) (.seq (.reg g31_1) (.ret))
def o31 : List RR := [.tmp 4]
theorem k31 : chkC Tryz.prog 9 r31 (Tryz.f31.body.getD .skip) = true := by decide +kernel
theorem q31 : chkR Tryz.prog Tryz.f31.results.toList o31 = true := by decide +kernel

/- slices.IndexFunc[[]wireschema/api.Item,wireschema/api.Item] -/
def g43_0 : List Am.Item := [
    ⟨(some 4), .val (.mov (.c (.int .i64 0))), none⟩]
def g43_1 : List Am.Item := [
    ⟨(some 6), .val (.mov (.t 0)), none⟩,
    ⟨(some 7), .val (.len 1 (.t 6)), none⟩,
    ⟨(some 8), .val (.mov (.c (.int .i64 0))), none⟩]
def g43_2 : List Am.Item := [
    ⟨(some 9), .val (.bin .num .lss (.t 8) (.t 7)), none⟩]
def g43_3 : List Am.Item := [
    ⟨(some 10), .val (.mov (.t 8)), none⟩,
    ⟨(some 5), .val (.mov (.t 10)), none⟩]
def g43_4 : List Am.Item := [
    ⟨(some 11), .val (.mov (.t 1)), none⟩,
    ⟨(some 12), .val (.mov (.t 0)), none⟩,
    ⟨(some 13), .val (.mov (.t 5)), none⟩,
    ⟨(some 14), .val (.iaddr 3 none (.t 12) (.t 13)), none⟩,
    ⟨(some 15), .val (.load (some 3) (.t 14)), none⟩,
    ⟨(some 16), .callF (.t 11) [(.t 15)], none⟩]
def g43_5 : List Am.Item := [
    ⟨(some 17), .val (.mov (.t 5)), none⟩,
    ⟨(some 4), .val (.mov (.t 17)), none⟩]
def g43_6 : List Am.Item := [
    ⟨(some 18), .val (.bin .num .add (.t 8) (.c (.int .i64 1))), none⟩,
    ⟨(some 8), .val (.mov (.t 18)), none⟩]
def l43_0 : RC := .seq (.reg g43_2) (.seq (.cond (.t 9) (.skip) (.exit 0)) (.seq (.block 1 (.seq (.reg g43_3) (.seq (.reg g43_4) (.cond (.t 16) (.seq (.reg g43_5) (.ret)) (.skip))))) (.reg g43_6)))
def g43_7 : List Am.Item := [
    ⟨(some 4), .val (.mov (.c (.int .i64 (-1)))), none⟩]
def r43 : RC := .seq (.reg g43_0) (.seq (.seq (.reg g43_1) (.block 0 (.loop l43_0))) (.seq (.reg g43_7) (.ret)))
def o43 : List RR := [.tmp 4]
theorem k43 : chkC Tryz.prog 19 r43 (Tryz.f43.body.getD .skip) = true := by decide +kernel
theorem q43 : chkR Tryz.prog Tryz.f43.results.toList o43 = true := by decide +kernel

/- wireschema/plan.Empty -/
def g9_0 : List Am.Item := [
    ⟨(some 1), .boxN 1 (.t 0), none⟩,
    ⟨(some 2), .val (.mov (.c (.bool false))), none⟩]
def g9_1 : List Am.Item := [
    ⟨(some 3), .val (.faddr 0 (.t 1)), none⟩,
    ⟨(some 4), .val (.load none (.t 3)), none⟩,
    ⟨(some 5), .val (.bin .num .eql (.t 4) (.c (.int .i64 11))), none⟩,
    ⟨(some 6), .val (.mov (.t 5)), none⟩,
    ⟨(some 7), .val (.faddr 3 (.t 1)), (some (6, true))⟩,
    ⟨(some 8), .val (.load none (.t 7)), (some (6, true))⟩,
    ⟨(some 9), .val (.len 1 (.t 8)), (some (6, true))⟩,
    ⟨(some 10), .val (.bin .num .eql (.t 9) (.c (.int .i64 0))), (some (6, true))⟩,
    ⟨(some 11), .val (.pick (.t 6) (.t 10) (.c (.bool false))), none⟩,
    ⟨(some 12), .val (.mov (.t 11)), none⟩,
    ⟨(some 13), .val (.faddr 0 (.t 1)), (some (12, false))⟩,
    ⟨(some 14), .val (.load none (.t 13)), (some (12, false))⟩,
    ⟨(some 15), .val (.bin .num .eql (.t 14) (.c (.int .i64 12))), (some (12, false))⟩,
    ⟨(some 16), .val (.mov (.t 15)), (some (12, false))⟩,
    ⟨(some 17), .val (.faddr 4 (.t 1)), (some (16, true))⟩,
    ⟨(some 18), .val (.load none (.t 17)), (some (16, true))⟩,
    ⟨(some 19), .val (.len 1 (.t 18)), (some (16, true))⟩,
    ⟨(some 20), .val (.bin .num .eql (.t 19) (.c (.int .i64 0))), (some (16, true))⟩,
    ⟨(some 21), .val (.pick (.t 16) (.t 20) (.c (.bool false))), (some (12, false))⟩,
    ⟨(some 22), .val (.pick (.t 12) (.c (.bool true)) (.t 21)), none⟩,
    ⟨(some 23), .val (.mov (.t 22)), none⟩,
    ⟨(some 24), .val (.load (some 7) (.t 1)), (some (23, false))⟩,
    ⟨(some 25), .call (.f 21) [(.t 24)], (some (23, false))⟩,
    ⟨(some 26), .val (.pick (.t 23) (.c (.bool true)) (.t 25)), none⟩,
    ⟨(some 2), .val (.mov (.t 26)), none⟩]
def r9 : RC := .seq (.reg g9_0) (.seq (.reg g9_1) (.ret))
def o9 : List RR := [.tmp 2]
theorem k9 : chkC Tryz.prog 27 r9 (Tryz.f9.body.getD .skip) = true := by decide +kernel
theorem q9 : chkR Tryz.prog Tryz.f9.results.toList o9 = true := by decide +kernel

/- wireschema/scalar.IsZero -/
def g21_0 : List Am.Item := [
    ⟨(some 1), .boxN 1 (.t 0), none⟩,
    ⟨(some 2), .val (.mov (.c (.bool false))), none⟩]
def g21_1 : List Am.Item := [
    ⟨(some 3), .val (.faddr 0 (.t 1)), none⟩,
    ⟨(some 4), .val (.load none (.t 3)), none⟩,
    ⟨(some 5), .call (.f 33) [(.t 4)], none⟩,
    ⟨(some 6), .val (.mov (.t 5)), none⟩,
    ⟨(some 7), .val (.load (some 7) (.t 1)), (some (6, true))⟩,
    ⟨(some 8), .call (.f 34) [(.t 7)], (some (6, true))⟩,
    ⟨(some 9), .val (.pick (.t 6) (.t 8) (.c (.bool false))), none⟩,
    ⟨(some 10), .val (.mov (.t 9)), none⟩,
    ⟨(some 11), .val (.faddr 1 (.t 1)), (some (10, true))⟩,
    ⟨(some 12), .val (.load none (.t 11)), (some (10, true))⟩,
    ⟨(some 13), .val (.bin .num .eql (.t 12) (.c (.int .u64 0))), (some (10, true))⟩,
    ⟨(some 14), .val (.pick (.t 10) (.t 13) (.c (.bool false))), none⟩,
    ⟨(some 15), .val (.mov (.t 14)), none⟩,
    ⟨(some 16), .val (.faddr 2 (.t 1)), (some (15, true))⟩,
    ⟨(some 17), .val (.load none (.t 16)), (some (15, true))⟩,
    ⟨(some 18), .val (.bin .str .eql (.t 17) (.c (.str []))), (some (15, true))⟩,
    ⟨(some 19), .val (.pick (.t 15) (.t 18) (.c (.bool false))), none⟩,
    ⟨(some 2), .val (.mov (.t 19)), none⟩]
def r21 : RC := .seq (.reg g21_0) (.seq (.reg g21_1) (.ret))
def o21 : List RR := [.tmp 2]
theorem k21 : chkC Tryz.prog 20 r21 (Tryz.f21.body.getD .skip) = true := by decide +kernel
theorem q21 : chkR Tryz.prog Tryz.f21.results.toList o21 = true := by decide +kernel

/- wireschema/scalar.Is -/
def g33_0 : List Am.Item := [
    ⟨(some 2), .val (.mov (.c (.bool false))), none⟩]
def g33_1 : List Am.Item := [
    ⟨(some 3), .val (.mov (.t 0)), none⟩,
    ⟨(some 4), .val (.bin .num .geq (.t 3) (.c (.int .i64 1))), none⟩,
    ⟨(some 5), .val (.mov (.t 4)), none⟩,
    ⟨(some 6), .val (.mov (.t 0)), (some (5, true))⟩,
    ⟨(some 7), .val (.bin .num .leq (.t 6) (.c (.int .i64 9))), (some (5, true))⟩,
    ⟨(some 8), .val (.pick (.t 5) (.t 7) (.c (.bool false))), none⟩,
    ⟨(some 2), .val (.mov (.t 8)), none⟩]
def r33 : RC := .seq (.reg g33_0) (.seq (.reg g33_1) (.ret))
def o33 : List RR := [.tmp 2]
theorem k33 : chkC Tryz.prog 9 r33 (Tryz.f33.body.getD .skip) = true := by decide +kernel
theorem q33 : chkR Tryz.prog Tryz.f33.results.toList o33 = true := by decide +kernel

/- wireschema/scalar.lean -/
def g34_0 : List Am.Item := [
    ⟨(some 1), .boxN 1 (.t 0), none⟩,
    ⟨(some 2), .val (.mov (.c (.bool false))), none⟩]
def g34_1 : List Am.Item := [
    ⟨(some 3), .val (.faddr 3 (.t 1)), none⟩,
    ⟨(some 4), .val (.load none (.t 3)), none⟩,
    ⟨(some 5), .val (.len 1 (.t 4)), none⟩,
    ⟨(some 6), .val (.faddr 4 (.t 1)), none⟩,
    ⟨(some 7), .val (.load none (.t 6)), none⟩,
    ⟨(some 8), .val (.len 1 (.t 7)), none⟩,
    ⟨(some 9), .val (.bin .num .add (.t 5) (.t 8)), none⟩,
    ⟨(some 10), .val (.faddr 5 (.t 1)), none⟩,
    ⟨(some 11), .val (.load none (.t 10)), none⟩,
    ⟨(some 12), .val (.len 1 (.t 11)), none⟩,
    ⟨(some 13), .val (.bin .num .add (.t 9) (.t 12)), none⟩,
    ⟨(some 14), .val (.faddr 6 (.t 1)), none⟩,
    ⟨(some 15), .val (.load none (.t 14)), none⟩,
    ⟨(some 16), .val (.len 1 (.t 15)), none⟩,
    ⟨(some 17), .val (.bin .num .add (.t 13) (.t 16)), none⟩,
    ⟨(some 18), .val (.bin .num .gtr (.t 17) (.c (.int .i64 0))), none⟩]
def g34_2 : List Am.Item := [
    ⟨(some 2), .val (.mov (.c (.bool false))), none⟩]
def g34_3 : List Am.Item := [
    ⟨(some 19), .val (.faddr 0 (.t 1)), none⟩,
    ⟨(some 20), .val (.load none (.t 19)), none⟩,
    ⟨(some 21), .call (.f 44) [(.t 20)], none⟩]
def g34_4 : List Am.Item := [
    ⟨(some 22), .val (.faddr 1 (.t 1)), none⟩,
    ⟨(some 23), .val (.load none (.t 22)), none⟩,
    ⟨(some 24), .val (.bin .num .eql (.t 23) (.c (.int .u64 0))), none⟩,
    ⟨(some 2), .val (.mov (.t 24)), none⟩]
def g34_5 : List Am.Item := [
    ⟨(some 25), .val (.faddr 2 (.t 1)), none⟩,
    ⟨(some 26), .val (.load none (.t 25)), none⟩,
    ⟨(some 27), .val (.bin .str .eql (.t 26) (.c (.str []))), none⟩,
    ⟨(some 2), .val (.mov (.t 27)), none⟩]
def r34 : RC := .seq (.reg g34_0) (.seq (.seq (.reg g34_1) (.cond (.t 18) (.seq (.reg g34_2) (.ret)) (.skip))) (.seq (.seq (.reg g34_3) (.cond (.t 21) (.seq (.reg g34_4) (.ret)) (.skip))) (.seq (.reg g34_5) (.ret))))
def o34 : List RR := [.tmp 2]
theorem k34 : chkC Tryz.prog 28 r34 (Tryz.f34.body.getD .skip) = true := by decide +kernel
theorem q34 : chkR Tryz.prog Tryz.f34.results.toList o34 = true := by decide +kernel

/- wireschema/scalar.texty -/
def g44_0 : List Am.Item := [
    ⟨(some 2), .val (.mov (.c (.bool false))), none⟩]
def g44_1 : List Am.Item := [
    ⟨(some 3), .val (.mov (.t 0)), none⟩,
    ⟨(some 4), .val (.bin .num .eql (.t 3) (.c (.int .i64 7))), none⟩,
    ⟨(some 5), .val (.mov (.t 4)), none⟩,
    ⟨(some 6), .val (.mov (.t 0)), (some (5, false))⟩,
    ⟨(some 7), .val (.bin .num .eql (.t 6) (.c (.int .i64 8))), (some (5, false))⟩,
    ⟨(some 8), .val (.pick (.t 5) (.c (.bool true)) (.t 7)), none⟩,
    ⟨(some 2), .val (.mov (.t 8)), none⟩]
def r44 : RC := .seq (.reg g44_0) (.seq (.reg g44_1) (.ret))
def o44 : List RR := [.tmp 2]
theorem k44 : chkC Tryz.prog 9 r44 (Tryz.f44.body.getD .skip) = true := by decide +kernel
theorem q44 : chkR Tryz.prog Tryz.f44.results.toList o44 = true := by decide +kernel

/- wireschema/wireschemaref22.Wire -/
def g6_0 : List Am.Item := [
    ⟨(some 1), .boxN 1 (.t 0), none⟩,
    ⟨(some 2), .val (.mov (.c (.int .i64 0))), none⟩]
def g6_1 : List Am.Item := [
    ⟨(some 3), .val (.faddr 3 (.t 1)), none⟩,
    ⟨(some 4), .val (.load none (.t 3)), none⟩,
    ⟨(some 5), .val (.bin .num .eql (.t 4) (.c (.int .i64 5))), none⟩]
def g6_2 : List Am.Item := [
    ⟨(some 2), .val (.mov (.c (.int .i64 6))), none⟩]
def g6_3 : List Am.Item := [
    ⟨(some 6), .val (.load (some 8) (.t 1)), none⟩,
    ⟨(some 7), .call (.f 8) [(.t 6)], none⟩]
def g6_4 : List Am.Item := [
    ⟨(some 2), .val (.mov (.c (.int .i64 5))), none⟩]
def g6_5 : List Am.Item := [
    ⟨(some 8), .val (.faddr 5 (.t 1)), none⟩,
    ⟨(some 9), .val (.load none (.t 8)), none⟩]
def g6_6 : List Am.Item := [
    ⟨(some 11), .val (.bin .num .eql (.t 9) (.c (.int .i64 1))), none⟩,
    ⟨(some 10), .val (.mov (.t 11)), none⟩]
def g6_7 : List Am.Item := [
    ⟨(some 12), .val (.bin .num .eql (.t 9) (.c (.int .i64 4))), none⟩,
    ⟨(some 10), .val (.mov (.t 12)), none⟩]
def g6_8 : List Am.Item := [
    ⟨(some 13), .val (.bin .num .eql (.t 9) (.c (.int .i64 5))), none⟩,
    ⟨(some 10), .val (.mov (.t 13)), none⟩]
def g6_9 : List Am.Item := [
    ⟨(some 14), .val (.bin .num .eql (.t 9) (.c (.int .i64 9))), none⟩,
    ⟨(some 10), .val (.mov (.t 14)), none⟩]
def g6_10 : List Am.Item := [
    ⟨(some 2), .val (.mov (.c (.int .i64 0))), none⟩]
def g6_11 : List Am.Item := [
    ⟨(some 16), .val (.bin .num .eql (.t 9) (.c (.int .i64 2))), none⟩,
    ⟨(some 15), .val (.mov (.t 16)), none⟩]
def g6_12 : List Am.Item := [
    ⟨(some 17), .val (.bin .num .eql (.t 9) (.c (.int .i64 3))), none⟩,
    ⟨(some 15), .val (.mov (.t 17)), none⟩]
def g6_13 : List Am.Item := [
    ⟨(some 2), .val (.mov (.c (.int .i64 1))), none⟩]
def g6_14 : List Am.Item := [
    ⟨(some 19), .val (.bin .num .eql (.t 9) (.c (.int .i64 6))), none⟩,
    ⟨(some 18), .val (.mov (.t 19)), none⟩]
def g6_15 : List Am.Item := [
    ⟨(some 2), .val (.mov (.c (.int .i64 2))), none⟩]
def g6_16 : List Am.Item := [
    ⟨(some 21), .val (.bin .num .eql (.t 9) (.c (.int .i64 7))), none⟩,
    ⟨(some 20), .val (.mov (.t 21)), none⟩]
def g6_17 : List Am.Item := [
    ⟨(some 22), .val (.bin .num .eql (.t 9) (.c (.int .i64 8))), none⟩,
    ⟨(some 20), .val (.mov (.t 22)), none⟩]
def g6_18 : List Am.Item := [
    ⟨(some 2), .val (.mov (.c (.int .i64 3))), none⟩]
def g6_19 : List Am.Item := [
    ⟨(some 24), .val (.bin .num .eql (.t 9) (.c (.int .i64 10))), none⟩,
    ⟨(some 23), .val (.mov (.t 24)), none⟩]
def g6_20 : List Am.Item := [
    ⟨(some 2), .val (.mov (.c (.int .i64 4))), none⟩]
def g6_21 : List Am.Item := [
    ⟨(some 2), .val (.mov (.c (.int .i64 (-1)))), none⟩]
def r6 : RC := .seq (.reg g6_0) (.seq (.seq (.reg g6_1) (.cond (.t 5) (.seq (.reg g6_2) (.ret)) (.skip))) (.seq (.seq (.reg g6_3) (.cond (.t 7) (.seq (.reg g6_4) (.ret)) (.skip))) (.seq (.seq (.reg g6_5) (.block 0 (.seq (.seq (.reg g6_6) (.cond (.t 10) (.skip) (.seq (.reg g6_7) (.cond (.t 10) (.skip) (.seq (.reg g6_8) (.cond (.t 10) (.skip) (.reg g6_9))))))) (.cond (.t 10) (.seq (.reg g6_10) (.ret)) (.seq (.seq (.reg g6_11) (.cond (.t 15) (.skip) (.reg g6_12))) (.cond (.t 15) (.seq (.reg g6_13) (.ret)) (.seq (.reg g6_14) (.cond (.t 18) (.seq (.reg g6_15) (.ret)) (.seq (.seq (.reg g6_16) (.cond (.t 20) (.skip) (.reg g6_17))) (.cond (.t 20) (.seq (.reg g6_18) (.ret)) (.seq (.reg g6_19) (.cond (.t 23) (.seq (.reg g6_20) (.ret)) (.skip))))))))))))) (.seq (.reg g6_21) (.ret)))))
def o6 : List RR := [.tmp 2]
theorem k6 : chkC Tryz.prog 25 r6 (Tryz.f6.body.getD .skip) = true := by decide +kernel
theorem q6 : chkR Tryz.prog Tryz.f6.results.toList o6 = true := by decide +kernel

/- wireschema/wireschemaref22.Packed -/
def g8_0 : List Am.Item := [
    ⟨(some 1), .boxN 1 (.t 0), none⟩,
    ⟨(some 2), .val (.mov (.c (.bool false))), none⟩]
def g8_1 : List Am.Item := [
    ⟨(some 3), .val (.faddr 3 (.t 1)), none⟩,
    ⟨(some 4), .val (.load none (.t 3)), none⟩,
    ⟨(some 5), .val (.bin .num .eql (.t 4) (.c (.int .i64 4))), none⟩,
    ⟨(some 6), .val (.mov (.t 5)), none⟩,
    ⟨(some 7), .val (.faddr 5 (.t 1)), (some (6, true))⟩,
    ⟨(some 8), .val (.load none (.t 7)), (some (6, true))⟩,
    ⟨(some 9), .val (.bin .num .geq (.t 8) (.c (.int .i64 1))), (some (6, true))⟩,
    ⟨(some 10), .val (.mov (.t 9)), (some (6, true))⟩,
    ⟨(some 11), .val (.faddr 5 (.t 1)), (some (10, true))⟩,
    ⟨(some 12), .val (.load none (.t 11)), (some (10, true))⟩,
    ⟨(some 13), .val (.bin .num .leq (.t 12) (.c (.int .i64 6))), (some (10, true))⟩,
    ⟨(some 14), .val (.pick (.t 10) (.t 13) (.c (.bool false))), (some (6, true))⟩,
    ⟨(some 15), .val (.mov (.t 14)), (some (6, true))⟩,
    ⟨(some 16), .val (.faddr 5 (.t 1)), (some (15, false))⟩,
    ⟨(some 17), .val (.load none (.t 16)), (some (15, false))⟩,
    ⟨(some 18), .val (.bin .num .eql (.t 17) (.c (.int .i64 9))), (some (15, false))⟩,
    ⟨(some 19), .val (.pick (.t 15) (.c (.bool true)) (.t 18)), (some (6, true))⟩,
    ⟨(some 20), .val (.pick (.t 6) (.t 19) (.c (.bool false))), none⟩,
    ⟨(some 2), .val (.mov (.t 20)), none⟩]
def r8 : RC := .seq (.reg g8_0) (.seq (.reg g8_1) (.ret))
def o8 : List RR := [.tmp 2]
theorem k8 : chkC Tryz.prog 21 r8 (Tryz.f8.body.getD .skip) = true := by decide +kernel
theorem q8 : chkR Tryz.prog Tryz.f8.results.toList o8 = true := by decide +kernel

/- wireschema/wireschemaref22.Empty -/
def g10_0 : List Am.Item := [
    ⟨(some 1), .boxN 1 (.t 0), none⟩,
    ⟨(some 2), .val (.mov (.c (.bool false))), none⟩]
def g10_1 : List Am.Item := [
    ⟨(some 3), .val (.faddr 0 (.t 1)), none⟩,
    ⟨(some 4), .val (.load none (.t 3)), none⟩]
def g10_2 : List Am.Item := [
    ⟨(some 6), .val (.bin .num .eql (.t 4) (.c (.int .i64 11))), none⟩,
    ⟨(some 5), .val (.mov (.t 6)), none⟩]
def g10_3 : List Am.Item := [
    ⟨(some 7), .val (.faddr 3 (.t 1)), none⟩,
    ⟨(some 8), .val (.load none (.t 7)), none⟩,
    ⟨(some 9), .val (.len 1 (.t 8)), none⟩,
    ⟨(some 10), .val (.bin .num .eql (.t 9) (.c (.int .i64 0))), none⟩,
    ⟨(some 2), .val (.mov (.t 10)), none⟩]
def g10_4 : List Am.Item := [
    ⟨(some 12), .val (.bin .num .eql (.t 4) (.c (.int .i64 12))), none⟩,
    ⟨(some 11), .val (.mov (.t 12)), none⟩]
def g10_5 : List Am.Item := [
    ⟨(some 13), .val (.faddr 4 (.t 1)), none⟩,
    ⟨(some 14), .val (.load none (.t 13)), none⟩,
    ⟨(some 15), .val (.len 1 (.t 14)), none⟩,
    ⟨(some 16), .val (.bin .num .eql (.t 15) (.c (.int .i64 0))), none⟩,
    ⟨(some 2), .val (.mov (.t 16)), none⟩]
def g10_6 : List Am.Item := [
    ⟨(some 17), .val (.load (some 7) (.t 1)), none⟩,
    ⟨(some 18), .call (.f 22) [(.t 17)], none⟩,
    ⟨(some 2), .val (.mov (.t 18)), none⟩]
def r10 : RC := .seq (.reg g10_0) (.seq (.seq (.reg g10_1) (.block 0 (.seq (.reg g10_2) (.cond (.t 5) (.seq (.reg g10_3) (.ret)) (.seq (.reg g10_4) (.cond (.t 11) (.seq (.reg g10_5) (.ret)) (.skip))))))) (.seq (.reg g10_6) (.ret)))
def o10 : List RR := [.tmp 2]
theorem k10 : chkC Tryz.prog 19 r10 (Tryz.f10.body.getD .skip) = true := by decide +kernel
theorem q10 : chkR Tryz.prog Tryz.f10.results.toList o10 = true := by decide +kernel

/- wireschema/wireschemaref04.IsZero -/
def g22_0 : List Am.Item := [
    ⟨(some 1), .boxN 1 (.t 0), none⟩,
    ⟨(some 2), .val (.mov (.c (.bool false))), none⟩]
def g22_1 : List Am.Item := [
    ⟨(some 3), .val (.faddr 0 (.t 1)), none⟩,
    ⟨(some 4), .val (.load none (.t 3)), none⟩,
    ⟨(some 5), .call (.f 35) [(.t 4)], none⟩,
    ⟨(some 6), .val (.mov (.t 5)), none⟩,
    ⟨(some 7), .val (.faddr 1 (.t 1)), (some (6, true))⟩,
    ⟨(some 8), .val (.load none (.t 7)), (some (6, true))⟩,
    ⟨(some 9), .val (.bin .num .eql (.t 8) (.c (.int .u64 0))), (some (6, true))⟩,
    ⟨(some 10), .val (.pick (.t 6) (.t 9) (.c (.bool false))), none⟩,
    ⟨(some 11), .val (.mov (.t 10)), none⟩,
    ⟨(some 12), .val (.faddr 2 (.t 1)), (some (11, true))⟩,
    ⟨(some 13), .val (.load none (.t 12)), (some (11, true))⟩,
    ⟨(some 14), .val (.bin .str .eql (.t 13) (.c (.str []))), (some (11, true))⟩,
    ⟨(some 15), .val (.pick (.t 11) (.t 14) (.c (.bool false))), none⟩,
    ⟨(some 16), .val (.mov (.t 15)), none⟩,
    ⟨(some 17), .val (.load (some 7) (.t 1)), (some (16, true))⟩,
    ⟨(some 18), .call (.f 36) [(.t 17)], (some (16, true))⟩,
    ⟨(some 19), .val (.pick (.t 16) (.t 18) (.c (.bool false))), none⟩,
    ⟨(some 2), .val (.mov (.t 19)), none⟩]
def r22 : RC := .seq (.reg g22_0) (.seq (.reg g22_1) (.ret))
def o22 : List RR := [.tmp 2]
theorem k22 : chkC Tryz.prog 20 r22 (Tryz.f22.body.getD .skip) = true := by decide +kernel
theorem q22 : chkR Tryz.prog Tryz.f22.results.toList o22 = true := by decide +kernel

/- wireschema/wireschemaref04.Is -/
def g35_0 : List Am.Item := [
    ⟨(some 2), .val (.mov (.c (.bool false))), none⟩]
def g35_1 : List Am.Item := [
    ⟨(some 3), .val (.mov (.t 0)), none⟩,
    ⟨(some 4), .val (.bin .num .geq (.t 3) (.c (.int .i64 1))), none⟩,
    ⟨(some 5), .val (.mov (.t 4)), none⟩,
    ⟨(some 6), .val (.mov (.t 0)), (some (5, true))⟩,
    ⟨(some 7), .val (.bin .num .leq (.t 6) (.c (.int .i64 9))), (some (5, true))⟩,
    ⟨(some 8), .val (.pick (.t 5) (.t 7) (.c (.bool false))), none⟩,
    ⟨(some 2), .val (.mov (.t 8)), none⟩]
def r35 : RC := .seq (.reg g35_0) (.seq (.reg g35_1) (.ret))
def o35 : List RR := [.tmp 2]
theorem k35 : chkC Tryz.prog 9 r35 (Tryz.f35.body.getD .skip) = true := by decide +kernel
theorem q35 : chkR Tryz.prog Tryz.f35.results.toList o35 = true := by decide +kernel

/- wireschema/wireschemaref04.lone -/
def g36_0 : List Am.Item := [
    ⟨(some 1), .boxN 1 (.t 0), none⟩,
    ⟨(some 2), .val (.mov (.c (.bool false))), none⟩]
def g36_1 : List Am.Item := [
    ⟨(some 3), .val (.faddr 3 (.t 1)), none⟩,
    ⟨(some 4), .val (.load none (.t 3)), none⟩,
    ⟨(some 5), .val (.len 1 (.t 4)), none⟩,
    ⟨(some 6), .val (.bin .num .eql (.t 5) (.c (.int .i64 0))), none⟩,
    ⟨(some 7), .val (.mov (.t 6)), none⟩,
    ⟨(some 8), .val (.faddr 4 (.t 1)), (some (7, true))⟩,
    ⟨(some 9), .val (.load none (.t 8)), (some (7, true))⟩,
    ⟨(some 10), .val (.len 1 (.t 9)), (some (7, true))⟩,
    ⟨(some 11), .val (.bin .num .eql (.t 10) (.c (.int .i64 0))), (some (7, true))⟩,
    ⟨(some 12), .val (.pick (.t 7) (.t 11) (.c (.bool false))), none⟩,
    ⟨(some 13), .val (.mov (.t 12)), none⟩,
    ⟨(some 14), .val (.faddr 5 (.t 1)), (some (13, true))⟩,
    ⟨(some 15), .val (.load none (.t 14)), (some (13, true))⟩,
    ⟨(some 16), .val (.len 1 (.t 15)), (some (13, true))⟩,
    ⟨(some 17), .val (.bin .num .eql (.t 16) (.c (.int .i64 0))), (some (13, true))⟩,
    ⟨(some 18), .val (.pick (.t 13) (.t 17) (.c (.bool false))), none⟩,
    ⟨(some 19), .val (.mov (.t 18)), none⟩,
    ⟨(some 20), .val (.faddr 6 (.t 1)), (some (19, true))⟩,
    ⟨(some 21), .val (.load none (.t 20)), (some (19, true))⟩,
    ⟨(some 22), .val (.len 1 (.t 21)), (some (19, true))⟩,
    ⟨(some 23), .val (.bin .num .eql (.t 22) (.c (.int .i64 0))), (some (19, true))⟩,
    ⟨(some 24), .val (.pick (.t 19) (.t 23) (.c (.bool false))), none⟩,
    ⟨(some 2), .val (.mov (.t 24)), none⟩]
def r36 : RC := .seq (.reg g36_0) (.seq (.reg g36_1) (.ret))
def o36 : List RR := [.tmp 2]
theorem k36 : chkC Tryz.prog 25 r36 (Tryz.f36.body.getD .skip) = true := by decide +kernel
theorem q36 : chkR Tryz.prog Tryz.f36.results.toList o36 = true := by decide +kernel

/- wireschema/wireschemalaw22.Small -/
def g12_0 : List Am.Item := [
    ⟨(some 1), .boxN 1 (.t 0), none⟩,
    ⟨(some 2), .val (.mov (.c (.bool false))), none⟩]
def g12_1 : List Am.Item := [
    ⟨(some 6), .val (.faddr 0 (.t 1)), none⟩,
    ⟨(some 7), .val (.load none (.t 6)), none⟩,
    ⟨(some 8), .val (.len 1 (.t 7)), none⟩,
    ⟨(some 9), .val (.bin .num .leq (.t 8) (.c (.int .i64 70))), none⟩,
    ⟨(some 10), .val (.mov (.t 9)), none⟩,
    ⟨(some 11), .val (.faddr 1 (.t 1)), (some (10, true))⟩,
    ⟨(some 12), .val (.load none (.t 11)), (some (10, true))⟩,
    ⟨(some 13), .val (.len 1 (.t 12)), (some (10, true))⟩,
    ⟨(some 14), .val (.bin .num .leq (.t 13) (.c (.int .i64 70))), (some (10, true))⟩,
    ⟨(some 15), .val (.pick (.t 10) (.t 14) (.c (.bool false))), none⟩,
    ⟨(some 3), .val (.mov (.t 15)), none⟩]
def g12_2 : List Am.Item := [
    ⟨(some 4), .val (.mov (.c (.int .i64 0))), none⟩]
def g12_3 : List Am.Item := [
    ⟨(some 16), .val (.mov (.t 3)), none⟩,
    ⟨(some 17), .val (.mov (.t 16)), none⟩,
    ⟨(some 18), .val (.mov (.t 4)), (some (17, true))⟩,
    ⟨(some 19), .val (.faddr 0 (.t 1)), (some (17, true))⟩,
    ⟨(some 20), .val (.load none (.t 19)), (some (17, true))⟩,
    ⟨(some 21), .val (.len 1 (.t 20)), (some (17, true))⟩,
    ⟨(some 22), .val (.bin .num .lss (.t 18) (.t 21)), (some (17, true))⟩,
    ⟨(some 23), .val (.pick (.t 17) (.t 22) (.c (.bool false))), none⟩]
def g12_5 : List Am.Item := [
    ⟨(some 26), .val (.faddr 0 (.t 1)), none⟩,
    ⟨(some 27), .val (.load none (.t 26)), none⟩,
    ⟨(some 28), .val (.mov (.t 4)), none⟩,
    ⟨(some 29), .val (.iaddr 3 none (.t 27) (.t 28)), none⟩,
    ⟨(some 30), .val (.faddr 1 (.t 29)), none⟩,
    ⟨(some 31), .val (.load none (.t 30)), none⟩,
    ⟨(some 32), .val (.len 1 (.t 31)), none⟩,
    ⟨(some 33), .val (.bin .num .leq (.t 32) (.c (.int .i64 70))), none⟩,
    ⟨(some 3), .val (.mov (.t 33)), none⟩]
def g12_4 : List Am.Item := [
    ⟨(some 24), .val (.mov (.t 4)), none⟩,
    ⟨(some 25), .val (.bin .num .add (.t 24) (.c (.int .i64 1))), none⟩,
    ⟨(some 4), .val (.mov (.t 25)), none⟩]
def l12_0 : RC := .seq (.seq (.reg g12_3) (.cond (.t 23) (.skip) (.exit 0))) (.seq (.block 1 (.reg g12_5)) (.reg g12_4))
def g12_6 : List Am.Item := [
    ⟨(some 5), .val (.mov (.c (.int .i64 0))), none⟩]
def g12_7 : List Am.Item := [
    ⟨(some 34), .val (.mov (.t 3)), none⟩,
    ⟨(some 35), .val (.mov (.t 34)), none⟩,
    ⟨(some 36), .val (.mov (.t 5)), (some (35, true))⟩,
    ⟨(some 37), .val (.faddr 1 (.t 1)), (some (35, true))⟩,
    ⟨(some 38), .val (.load none (.t 37)), (some (35, true))⟩,
    ⟨(some 39), .val (.len 1 (.t 38)), (some (35, true))⟩,
    ⟨(some 40), .val (.bin .num .lss (.t 36) (.t 39)), (some (35, true))⟩,
    ⟨(some 41), .val (.pick (.t 35) (.t 40) (.c (.bool false))), none⟩]
def g12_9 : List Am.Item := [
    ⟨(some 44), .val (.faddr 1 (.t 1)), none⟩,
    ⟨(some 45), .val (.load none (.t 44)), none⟩,
    ⟨(some 46), .val (.mov (.t 5)), none⟩,
    ⟨(some 47), .val (.iaddr 5 none (.t 45) (.t 46)), none⟩,
    ⟨(some 48), .val (.faddr 2 (.t 47)), none⟩,
    ⟨(some 49), .val (.load none (.t 48)), none⟩,
    ⟨(some 50), .val (.len 1 (.t 49)), none⟩,
    ⟨(some 51), .val (.bin .num .leq (.t 50) (.c (.int .i64 70))), none⟩,
    ⟨(some 52), .val (.mov (.t 51)), none⟩,
    ⟨(some 53), .val (.faddr 1 (.t 1)), (some (52, true))⟩,
    ⟨(some 54), .val (.load none (.t 53)), (some (52, true))⟩,
    ⟨(some 55), .val (.mov (.t 5)), (some (52, true))⟩,
    ⟨(some 56), .val (.iaddr 5 none (.t 54) (.t 55)), (some (52, true))⟩,
    ⟨(some 57), .val (.faddr 3 (.t 56)), (some (52, true))⟩,
    ⟨(some 58), .val (.load none (.t 57)), (some (52, true))⟩,
    ⟨(some 59), .val (.len 1 (.t 58)), (some (52, true))⟩,
    ⟨(some 60), .val (.bin .num .leq (.t 59) (.c (.int .i64 70))), (some (52, true))⟩,
    ⟨(some 61), .val (.pick (.t 52) (.t 60) (.c (.bool false))), none⟩,
    ⟨(some 3), .val (.mov (.t 61)), none⟩]
def g12_8 : List Am.Item := [
    ⟨(some 42), .val (.mov (.t 5)), none⟩,
    ⟨(some 43), .val (.bin .num .add (.t 42) (.c (.int .i64 1))), none⟩,
    ⟨(some 5), .val (.mov (.t 43)), none⟩]
def l12_1 : RC := .seq (.seq (.reg g12_7) (.cond (.t 41) (.skip) (.exit 2))) (.seq (.block 3 (.reg g12_9)) (.reg g12_8))
def g12_10 : List Am.Item := [
    ⟨(some 62), .val (.mov (.t 3)), none⟩,
    ⟨(some 2), .val (.mov (.t 62)), none⟩]
def r12 : RC := .seq (.reg g12_0) (.seq (.reg g12_1) (.seq (.seq (.reg g12_2) (.block 0 (.loop l12_0))) (.seq (.seq (.reg g12_6) (.block 2 (.loop l12_1))) (.seq (.reg g12_10) (.ret)))))
def o12 : List RR := [.tmp 2]
theorem k12 : chkC Tryz.prog 63 r12 (Tryz.f12.body.getD .skip) = true := by decide +kernel
theorem q12 : chkR Tryz.prog Tryz.f12.results.toList o12 = true := by decide +kernel

/- wireschema/wireschemaref22.Find -/
def g14_0 : List Am.Item := [
    ⟨(some 2), .boxN 2 (.t 0), none⟩,
    ⟨(some 4), .val (.mov (.c (.int .i64 0))), none⟩,
    ⟨(some 5), .val (.mov (.c (.bool false))), none⟩]
def g14_1 : List Am.Item := [
    ⟨(some 6), .val (.mov (.c (.int .i64 0))), none⟩]
def g14_2 : List Am.Item := [
    ⟨(some 7), .val (.mov (.t 6)), none⟩,
    ⟨(some 8), .val (.faddr 0 (.t 2)), none⟩,
    ⟨(some 9), .val (.load none (.t 8)), none⟩,
    ⟨(some 10), .val (.len 1 (.t 9)), none⟩,
    ⟨(some 11), .val (.bin .num .lss (.t 7) (.t 10)), none⟩]
def g14_4 : List Am.Item := [
    ⟨(some 14), .val (.faddr 0 (.t 2)), none⟩,
    ⟨(some 15), .val (.load none (.t 14)), none⟩,
    ⟨(some 16), .val (.mov (.t 6)), none⟩,
    ⟨(some 17), .val (.iaddr 3 none (.t 15) (.t 16)), none⟩,
    ⟨(some 18), .val (.faddr 0 (.t 17)), none⟩,
    ⟨(some 19), .val (.load none (.t 18)), none⟩,
    ⟨(some 20), .val (.mov (.t 1)), none⟩,
    ⟨(some 21), .val (.bin .str .eql (.t 19) (.t 20)), none⟩]
def g14_5 : List Am.Item := [
    ⟨(some 22), .val (.mov (.t 6)), none⟩,
    ⟨(some 4), .val (.mov (.t 22)), none⟩,
    ⟨(some 5), .val (.mov (.c (.bool true))), none⟩]
def g14_3 : List Am.Item := [
    ⟨(some 12), .val (.mov (.t 6)), none⟩,
    ⟨(some 13), .val (.bin .num .add (.t 12) (.c (.int .i64 1))), none⟩,
    ⟨(some 6), .val (.mov (.t 13)), none⟩]
def l14_0 : RC := .seq (.seq (.reg g14_2) (.cond (.t 11) (.skip) (.exit 0))) (.seq (.block 1 (.seq (.reg g14_4) (.cond (.t 21) (.seq (.reg g14_5) (.ret)) (.skip)))) (.reg g14_3))
def g14_6 : List Am.Item := [
    ⟨(some 4), .val (.mov (.c (.int .i64 0))), none⟩,
    ⟨(some 5), .val (.mov (.c (.bool false))), none⟩]
def r14 : RC := .seq (.reg g14_0) (.seq (.seq (.reg g14_1) (.block 0 (.loop l14_0))) (.seq (.reg g14_6) (.ret)))
def o14 : List RR := [.tmp 4, .tmp 5]
theorem k14 : chkC Tryz.prog 23 r14 (Tryz.f14.body.getD .skip) = true := by decide +kernel
theorem q14 : chkR Tryz.prog Tryz.f14.results.toList o14 = true := by decide +kernel

/- wireschema/wireschemaref22.Op -/
def g16_0 : List Am.Item := [
    ⟨(some 2), .boxN 2 (.t 0), none⟩,
    ⟨(some 4), .allocN 4 [.int .i64 0, .str [], .str [], .int .i64 0, .int .i64 0, .int .i64 0, .int .i64 0, .int .i64 0], none⟩,
    ⟨(some 5), .val (.mov (.c (.bool false))), none⟩]
def g16_1 : List Am.Item := [
    ⟨(some 6), .val (.mov (.c (.int .i64 0))), none⟩]
def g16_2 : List Am.Item := [
    ⟨(some 7), .val (.mov (.t 6)), none⟩,
    ⟨(some 8), .val (.faddr 1 (.t 2)), none⟩,
    ⟨(some 9), .val (.load none (.t 8)), none⟩,
    ⟨(some 10), .val (.len 1 (.t 9)), none⟩,
    ⟨(some 11), .val (.bin .num .lss (.t 7) (.t 10)), none⟩]
def g16_4 : List Am.Item := [
    ⟨(some 14), .val (.faddr 1 (.t 2)), none⟩,
    ⟨(some 15), .val (.load none (.t 14)), none⟩,
    ⟨(some 16), .val (.mov (.t 6)), none⟩,
    ⟨(some 17), .val (.iaddr 8 none (.t 15) (.t 16)), none⟩,
    ⟨(some 18), .val (.faddr 0 (.t 17)), none⟩,
    ⟨(some 19), .val (.load none (.t 18)), none⟩,
    ⟨(some 20), .val (.mov (.t 1)), none⟩,
    ⟨(some 21), .val (.bin .num .eql (.t 19) (.t 20)), none⟩]
def g16_5 : List Am.Item := [
    ⟨(some 22), .val (.faddr 1 (.t 2)), none⟩,
    ⟨(some 23), .val (.load none (.t 22)), none⟩,
    ⟨(some 24), .val (.mov (.t 6)), none⟩,
    ⟨(some 25), .val (.iaddr 8 none (.t 23) (.t 24)), none⟩,
    ⟨(some 26), .val (.load (some 8) (.t 25)), none⟩,
    ⟨none, .store 8 (.t 4) (.t 26), none⟩,
    ⟨(some 5), .val (.mov (.c (.bool true))), none⟩]
def g16_3 : List Am.Item := [
    ⟨(some 12), .val (.mov (.t 6)), none⟩,
    ⟨(some 13), .val (.bin .num .add (.t 12) (.c (.int .i64 1))), none⟩,
    ⟨(some 6), .val (.mov (.t 13)), none⟩]
def l16_0 : RC := .seq (.seq (.reg g16_2) (.cond (.t 11) (.skip) (.exit 0))) (.seq (.block 1 (.seq (.reg g16_4) (.cond (.t 21) (.seq (.reg g16_5) (.ret)) (.skip)))) (.reg g16_3))
def g16_6 : List Am.Item := [
    ⟨(some 27), .val (.build [.int .i64 0, .str [], .str [], .int .i64 0, .int .i64 0, .int .i64 0, .int .i64 0, .int .i64 0] []), none⟩,
    ⟨none, .store 8 (.t 4) (.t 27), none⟩,
    ⟨(some 5), .val (.mov (.c (.bool false))), none⟩]
def r16 : RC := .seq (.reg g16_0) (.seq (.seq (.reg g16_1) (.block 0 (.loop l16_0))) (.seq (.reg g16_6) (.ret)))
def o16 : List RR := [.cell 4 (some 8), .tmp 5]
theorem k16 : chkC Tryz.prog 28 r16 (Tryz.f16.body.getD .skip) = true := by decide +kernel
theorem q16 : chkR Tryz.prog Tryz.f16.results.toList o16 = true := by decide +kernel

/- wireschema/wireschemaref22.Named -/
def g18_0 : List Am.Item := [
    ⟨(some 2), .boxN 2 (.t 0), none⟩,
    ⟨(some 4), .allocN 4 [.int .i64 0, .str [], .str [], .int .i64 0, .int .i64 0, .int .i64 0, .int .i64 0, .int .i64 0], none⟩,
    ⟨(some 5), .val (.mov (.c (.bool false))), none⟩]
def g18_1 : List Am.Item := [
    ⟨(some 6), .val (.mov (.c (.int .i64 0))), none⟩]
def g18_2 : List Am.Item := [
    ⟨(some 8), .val (.mov (.t 6)), none⟩,
    ⟨(some 9), .val (.faddr 1 (.t 2)), none⟩,
    ⟨(some 10), .val (.load none (.t 9)), none⟩,
    ⟨(some 11), .val (.len 1 (.t 10)), none⟩,
    ⟨(some 12), .val (.bin .num .lss (.t 8) (.t 11)), none⟩]
def g18_4 : List Am.Item := [
    ⟨(some 15), .val (.faddr 1 (.t 2)), none⟩,
    ⟨(some 16), .val (.load none (.t 15)), none⟩,
    ⟨(some 17), .val (.mov (.t 6)), none⟩,
    ⟨(some 18), .val (.iaddr 8 none (.t 16) (.t 17)), none⟩,
    ⟨(some 19), .val (.faddr 1 (.t 18)), none⟩,
    ⟨(some 20), .val (.load none (.t 19)), none⟩,
    ⟨(some 21), .val (.mov (.t 1)), none⟩,
    ⟨(some 22), .val (.bin .str .eql (.t 20) (.t 21)), none⟩]
def g18_5 : List Am.Item := [
    ⟨(some 23), .val (.faddr 1 (.t 2)), none⟩,
    ⟨(some 24), .val (.load none (.t 23)), none⟩,
    ⟨(some 25), .val (.mov (.t 6)), none⟩,
    ⟨(some 26), .val (.iaddr 8 none (.t 24) (.t 25)), none⟩,
    ⟨(some 27), .val (.load (some 8) (.t 26)), none⟩,
    ⟨none, .store 8 (.t 4) (.t 27), none⟩,
    ⟨(some 5), .val (.mov (.c (.bool true))), none⟩]
def g18_3 : List Am.Item := [
    ⟨(some 13), .val (.mov (.t 6)), none⟩,
    ⟨(some 14), .val (.bin .num .add (.t 13) (.c (.int .i64 1))), none⟩,
    ⟨(some 6), .val (.mov (.t 14)), none⟩]
def l18_0 : RC := .seq (.seq (.reg g18_2) (.cond (.t 12) (.skip) (.exit 0))) (.seq (.block 1 (.seq (.reg g18_4) (.cond (.t 22) (.seq (.reg g18_5) (.ret)) (.skip)))) (.reg g18_3))
def g18_6 : List Am.Item := [
    ⟨(some 7), .val (.mov (.c (.int .i64 0))), none⟩]
def g18_7 : List Am.Item := [
    ⟨(some 28), .val (.mov (.t 7)), none⟩,
    ⟨(some 29), .val (.faddr 1 (.t 2)), none⟩,
    ⟨(some 30), .val (.load none (.t 29)), none⟩,
    ⟨(some 31), .val (.len 1 (.t 30)), none⟩,
    ⟨(some 32), .val (.bin .num .lss (.t 28) (.t 31)), none⟩]
def g18_9 : List Am.Item := [
    ⟨(some 35), .val (.faddr 1 (.t 2)), none⟩,
    ⟨(some 36), .val (.load none (.t 35)), none⟩,
    ⟨(some 37), .val (.mov (.t 7)), none⟩,
    ⟨(some 38), .val (.iaddr 8 none (.t 36) (.t 37)), none⟩,
    ⟨(some 39), .val (.faddr 2 (.t 38)), none⟩,
    ⟨(some 40), .val (.load none (.t 39)), none⟩,
    ⟨(some 41), .val (.mov (.t 1)), none⟩,
    ⟨(some 42), .val (.bin .str .eql (.t 40) (.t 41)), none⟩,
    ⟨(some 43), .val (.mov (.t 42)), none⟩,
    ⟨(some 44), .val (.mov (.t 1)), (some (43, true))⟩,
    ⟨(some 45), .val (.bin .str .neq (.t 44) (.c (.str []))), (some (43, true))⟩,
    ⟨(some 46), .val (.pick (.t 43) (.t 45) (.c (.bool false))), none⟩]
def g18_10 : List Am.Item := [
    ⟨(some 47), .val (.faddr 1 (.t 2)), none⟩,
    ⟨(some 48), .val (.load none (.t 47)), none⟩,
    ⟨(some 49), .val (.mov (.t 7)), none⟩,
    ⟨(some 50), .val (.iaddr 8 none (.t 48) (.t 49)), none⟩,
    ⟨(some 51), .val (.load (some 8) (.t 50)), none⟩,
    ⟨none, .store 8 (.t 4) (.t 51), none⟩,
    ⟨(some 5), .val (.mov (.c (.bool true))), none⟩]
def g18_8 : List Am.Item := [
    ⟨(some 33), .val (.mov (.t 7)), none⟩,
    ⟨(some 34), .val (.bin .num .add (.t 33) (.c (.int .i64 1))), none⟩,
    ⟨(some 7), .val (.mov (.t 34)), none⟩]
def l18_1 : RC := .seq (.seq (.reg g18_7) (.cond (.t 32) (.skip) (.exit 2))) (.seq (.block 3 (.seq (.reg g18_9) (.cond (.t 46) (.seq (.reg g18_10) (.ret)) (.skip)))) (.reg g18_8))
def g18_11 : List Am.Item := [
    ⟨(some 52), .val (.build [.int .i64 0, .str [], .str [], .int .i64 0, .int .i64 0, .int .i64 0, .int .i64 0, .int .i64 0] []), none⟩,
    ⟨none, .store 8 (.t 4) (.t 52), none⟩,
    ⟨(some 5), .val (.mov (.c (.bool false))), none⟩]
def r18 : RC := .seq (.reg g18_0) (.seq (.seq (.reg g18_1) (.block 0 (.loop l18_0))) (.seq (.seq (.reg g18_6) (.block 2 (.loop l18_1))) (.seq (.reg g18_11) (.ret))))
def o18 : List RR := [.cell 4 (some 8), .tmp 5]
theorem k18 : chkC Tryz.prog 53 r18 (Tryz.f18.body.getD .skip) = true := by decide +kernel
theorem q18 : chkR Tryz.prog Tryz.f18.results.toList o18 = true := by decide +kernel

/- wireschema/wireschemaref22.Accepts -/
def g20_0 : List Am.Item := [
    ⟨(some 3), .boxN 3 (.t 0), none⟩,
    ⟨(some 6), .val (.mov (.c (.bool false))), none⟩]
def g20_1 : List Am.Item := [
    ⟨(some 9), .val (.mov (.t 1)), none⟩,
    ⟨(some 10), .val (.bin .num .lss (.t 9) (.c (.int .i64 0))), none⟩,
    ⟨(some 11), .val (.mov (.t 10)), none⟩,
    ⟨(some 12), .val (.mov (.t 1)), (some (11, false))⟩,
    ⟨(some 13), .val (.faddr 1 (.t 3)), (some (11, false))⟩,
    ⟨(some 14), .val (.load none (.t 13)), (some (11, false))⟩,
    ⟨(some 15), .val (.len 1 (.t 14)), (some (11, false))⟩,
    ⟨(some 16), .val (.bin .num .geq (.t 12) (.t 15)), (some (11, false))⟩,
    ⟨(some 17), .val (.pick (.t 11) (.c (.bool true)) (.t 16)), none⟩,
    ⟨(some 18), .val (.mov (.t 17)), none⟩,
    ⟨(some 19), .val (.mov (.t 2)), (some (18, false))⟩,
    ⟨(some 20), .val (.bin .num .gtr (.t 19) (.c (.int .u64 2147483647))), (some (18, false))⟩,
    ⟨(some 21), .val (.pick (.t 18) (.c (.bool true)) (.t 20)), none⟩]
def g20_2 : List Am.Item := [
    ⟨(some 6), .val (.mov (.c (.bool false))), none⟩]
def g20_3 : List Am.Item := [
    ⟨(some 22), .val (.faddr 1 (.t 3)), none⟩,
    ⟨(some 23), .val (.load none (.t 22)), none⟩,
    ⟨(some 24), .val (.mov (.t 1)), none⟩,
    ⟨(some 25), .val (.iaddr 5 none (.t 23) (.t 24)), none⟩,
    ⟨(some 26), .val (.faddr 1 (.t 25)), none⟩,
    ⟨(some 27), .val (.load none (.t 26)), none⟩,
    ⟨(some 7), .val (.mov (.t 27)), none⟩]
def g20_4 : List Am.Item := [
    ⟨(some 8), .val (.mov (.c (.int .i64 0))), none⟩]
def g20_5 : List Am.Item := [
    ⟨(some 28), .val (.mov (.t 8)), none⟩,
    ⟨(some 29), .val (.faddr 1 (.t 3)), none⟩,
    ⟨(some 30), .val (.load none (.t 29)), none⟩,
    ⟨(some 31), .val (.mov (.t 1)), none⟩,
    ⟨(some 32), .val (.iaddr 5 none (.t 30) (.t 31)), none⟩,
    ⟨(some 33), .val (.faddr 2 (.t 32)), none⟩,
    ⟨(some 34), .val (.load none (.t 33)), none⟩,
    ⟨(some 35), .val (.len 1 (.t 34)), none⟩,
    ⟨(some 36), .val (.bin .num .lss (.t 28) (.t 35)), none⟩]
def g20_7 : List Am.Item := [
    ⟨(some 39), .val (.mov (.t 7)), none⟩,
    ⟨(some 40), .val (.mov (.t 39)), none⟩,
    ⟨(some 41), .val (.faddr 1 (.t 3)), (some (40, false))⟩,
    ⟨(some 42), .val (.load none (.t 41)), (some (40, false))⟩,
    ⟨(some 43), .val (.mov (.t 1)), (some (40, false))⟩,
    ⟨(some 44), .val (.iaddr 5 none (.t 42) (.t 43)), (some (40, false))⟩,
    ⟨(some 45), .val (.faddr 2 (.t 44)), (some (40, false))⟩,
    ⟨(some 46), .val (.load none (.t 45)), (some (40, false))⟩,
    ⟨(some 47), .val (.mov (.t 8)), (some (40, false))⟩,
    ⟨(some 48), .val (.iaddr 3 none (.t 46) (.t 47)), (some (40, false))⟩,
    ⟨(some 49), .val (.faddr 1 (.t 48)), (some (40, false))⟩,
    ⟨(some 50), .val (.load none (.t 49)), (some (40, false))⟩,
    ⟨(some 51), .val (.mov (.t 2)), (some (40, false))⟩,
    ⟨(some 52), .val (.cvi .i64 (.t 51)), (some (40, false))⟩,
    ⟨(some 53), .val (.bin .num .eql (.t 50) (.t 52)), (some (40, false))⟩,
    ⟨(some 54), .val (.pick (.t 40) (.c (.bool true)) (.t 53)), none⟩,
    ⟨(some 7), .val (.mov (.t 54)), none⟩]
def g20_6 : List Am.Item := [
    ⟨(some 37), .val (.mov (.t 8)), none⟩,
    ⟨(some 38), .val (.bin .num .add (.t 37) (.c (.int .i64 1))), none⟩,
    ⟨(some 8), .val (.mov (.t 38)), none⟩]
def l20_0 : RC := .seq (.seq (.reg g20_5) (.cond (.t 36) (.skip) (.exit 0))) (.seq (.block 1 (.reg g20_7)) (.reg g20_6))
def g20_8 : List Am.Item := [
    ⟨(some 55), .val (.mov (.t 7)), none⟩,
    ⟨(some 6), .val (.mov (.t 55)), none⟩]
def r20 : RC := .seq (.reg g20_0) (.seq (.seq (.reg g20_1) (.cond (.t 21) (.seq (.reg g20_2) (.ret)) (.skip))) (.seq (.reg g20_3) (.seq (.seq (.reg g20_4) (.block 0 (.loop l20_0))) (.seq (.reg g20_8) (.ret)))))
def o20 : List RR := [.tmp 6]
theorem k20 : chkC Tryz.prog 56 r20 (Tryz.f20.body.getD .skip) = true := by decide +kernel
theorem q20 : chkR Tryz.prog Tryz.f20.results.toList o20 = true := by decide +kernel

/- wireschema/wireschemalaw22.PlanWires -/
def g3_0 : List Am.Item := [
    ⟨(some 2), .boxN 2 (.t 0), none⟩,
    ⟨(some 3), .boxN 3 (.t 1), none⟩,
    ⟨(some 4), .val (.mov (.c (.bool false))), none⟩]
def g3_1 : List Am.Item := [
    ⟨(some 5), .val (.loadv 0 2 (some 8) (.t 2)), none⟩,
    ⟨(some 6), .call (.f 5) [(.t 5)], none⟩,
    ⟨(some 7), .val (.loadv 0 2 (some 8) (.t 2)), none⟩,
    ⟨(some 8), .call (.f 6) [(.t 7)], none⟩,
    ⟨(some 9), .val (.bin .num .eql (.t 6) (.t 8)), none⟩,
    ⟨(some 10), .val (.mov (.t 9)), none⟩,
    ⟨(some 11), .val (.loadv 0 2 (some 8) (.t 2)), (some (10, true))⟩,
    ⟨(some 12), .call (.f 7) [(.t 11)], (some (10, true))⟩,
    ⟨(some 13), .val (.loadv 0 2 (some 8) (.t 2)), (some (10, true))⟩,
    ⟨(some 14), .call (.f 8) [(.t 13)], (some (10, true))⟩,
    ⟨(some 15), .val (.bin .bool .eql (.t 12) (.t 14)), (some (10, true))⟩,
    ⟨(some 16), .val (.pick (.t 10) (.t 15) (.c (.bool false))), none⟩,
    ⟨(some 17), .val (.mov (.t 16)), none⟩,
    ⟨(some 18), .val (.loadv 0 3 (some 7) (.t 3)), (some (17, true))⟩,
    ⟨(some 19), .call (.f 9) [(.t 18)], (some (17, true))⟩,
    ⟨(some 20), .val (.loadv 0 3 (some 7) (.t 3)), (some (17, true))⟩,
    ⟨(some 21), .call (.f 10) [(.t 20)], (some (17, true))⟩,
    ⟨(some 22), .val (.bin .bool .eql (.t 19) (.t 21)), (some (17, true))⟩,
    ⟨(some 23), .val (.pick (.t 17) (.t 22) (.c (.bool false))), none⟩,
    ⟨(some 24), .val (.mov (.t 23)), none⟩,
    ⟨(some 25), .call (.f 11) [], (some (24, true))⟩,
    ⟨(some 26), .val (.pick (.t 24) (.t 25) (.c (.bool false))), none⟩,
    ⟨(some 4), .val (.mov (.t 26)), none⟩]
def r3 : RC := .seq (.reg g3_0) (.seq (.draw g3_1) (.ret))
def o3 : List RR := [.tmp 4]
theorem k3 : chkC Tryz.prog 27 r3 (Tryz.f3.body.getD .skip) = true := by decide +kernel
theorem q3 : chkR Tryz.prog Tryz.f3.results.toList o3 = true := by decide +kernel

/- wireschema/wireschemalaw22.PlanFinds -/
def g4_0 : List Am.Item := [
    ⟨(some 4), .boxN 4 (.t 0), none⟩,
    ⟨(some 5), .boxN 5 (.t 1), none⟩,
    ⟨(some 7), .boxN 7 (.t 3), none⟩,
    ⟨(some 8), .val (.mov (.c (.bool false))), none⟩]
def g4_1 : List Am.Item := [
    ⟨(some 21), .val (.load (some 2) (.t 4)), none⟩,
    ⟨(some 22), .callR (.f 12) [(.t 21)], none⟩,
    ⟨(some 23), .val (.un .not (.t 22)), none⟩,
    ⟨(some 24), .val (.mov (.t 23)), none⟩,
    ⟨(some 25), .val (.faddr 1 (.t 5)), (some (24, false))⟩,
    ⟨(some 26), .val (.load none (.t 25)), (some (24, false))⟩,
    ⟨(some 27), .val (.len 1 (.t 26)), (some (24, false))⟩,
    ⟨(some 28), .val (.bin .num .gtr (.t 27) (.c (.int .i64 70))), (some (24, false))⟩,
    ⟨(some 29), .val (.pick (.t 24) (.c (.bool true)) (.t 28)), none⟩]
def g4_2 : List Am.Item := [
    ⟨(some 8), .val (.mov (.c (.bool true))), none⟩]
def g4_3 : List Am.Item := [
    ⟨(some 31), .val (.load (some 2) (.t 4)), none⟩,
    ⟨(some 32), .val (.mov (.t 2)), none⟩,
    ⟨(some 33), .call (.f 13) [(.t 31), (.t 32)], none⟩,
    ⟨(some 30), .val (.mov (.t 33)), none⟩,
    ⟨(some 34), .val (.ext (.t 30) 0), none⟩,
    ⟨(some 35), .val (.ext (.t 30) 1), none⟩,
    ⟨(some 9), .val (.mov (.t 34)), none⟩,
    ⟨(some 10), .val (.mov (.t 35)), none⟩]
def g4_4 : List Am.Item := [
    ⟨(some 37), .val (.load (some 2) (.t 4)), none⟩,
    ⟨(some 38), .val (.mov (.t 2)), none⟩,
    ⟨(some 39), .call (.f 14) [(.t 37), (.t 38)], none⟩,
    ⟨(some 36), .val (.mov (.t 39)), none⟩,
    ⟨(some 40), .val (.ext (.t 36) 0), none⟩,
    ⟨(some 41), .val (.ext (.t 36) 1), none⟩,
    ⟨(some 11), .val (.mov (.t 40)), none⟩,
    ⟨(some 12), .val (.mov (.t 41)), none⟩]
def g4_5 : List Am.Item := [
    ⟨(some 43), .val (.load (some 3) (.t 5)), none⟩,
    ⟨(some 44), .val (.iaddr 1 (some 2) (.t 7) (.c (.int .i64 0))), none⟩,
    ⟨(some 45), .val (.load none (.t 44)), none⟩,
    ⟨(some 46), .call (.f 15) [(.t 43), (.t 45)], none⟩,
    ⟨(some 42), .val (.mov (.t 46)), none⟩,
    ⟨(some 47), .val (.ext (.t 42) 0), none⟩,
    ⟨(some 48), .val (.ext (.t 42) 1), none⟩,
    ⟨(some 13), .allocN 13 [.int .i64 0, .str [], .str [], .int .i64 0, .int .i64 0, .int .i64 0, .int .i64 0, .int .i64 0], none⟩,
    ⟨none, .store 8 (.t 13) (.t 47), none⟩,
    ⟨(some 14), .val (.mov (.t 48)), none⟩]
def g4_6 : List Am.Item := [
    ⟨(some 50), .val (.load (some 3) (.t 5)), none⟩,
    ⟨(some 51), .val (.iaddr 1 (some 2) (.t 7) (.c (.int .i64 0))), none⟩,
    ⟨(some 52), .val (.load none (.t 51)), none⟩,
    ⟨(some 53), .call (.f 16) [(.t 50), (.t 52)], none⟩,
    ⟨(some 49), .val (.mov (.t 53)), none⟩,
    ⟨(some 54), .val (.ext (.t 49) 0), none⟩,
    ⟨(some 55), .val (.ext (.t 49) 1), none⟩,
    ⟨(some 15), .allocN 15 [.int .i64 0, .str [], .str [], .int .i64 0, .int .i64 0, .int .i64 0, .int .i64 0, .int .i64 0], none⟩,
    ⟨none, .store 8 (.t 15) (.t 54), none⟩,
    ⟨(some 16), .val (.mov (.t 55)), none⟩]
def g4_7 : List Am.Item := [
    ⟨(some 57), .val (.load (some 3) (.t 5)), none⟩,
    ⟨(some 58), .val (.mov (.t 2)), none⟩,
    ⟨(some 59), .call (.f 17) [(.t 57), (.t 58)], none⟩,
    ⟨(some 56), .val (.mov (.t 59)), none⟩,
    ⟨(some 60), .val (.ext (.t 56) 0), none⟩,
    ⟨(some 61), .val (.ext (.t 56) 1), none⟩,
    ⟨(some 17), .allocN 17 [.int .i64 0, .str [], .str [], .int .i64 0, .int .i64 0, .int .i64 0, .int .i64 0, .int .i64 0], none⟩,
    ⟨none, .store 8 (.t 17) (.t 60), none⟩,
    ⟨(some 18), .val (.mov (.t 61)), none⟩]
def g4_8 : List Am.Item := [
    ⟨(some 63), .val (.load (some 3) (.t 5)), none⟩,
    ⟨(some 64), .val (.mov (.t 2)), none⟩,
    ⟨(some 65), .call (.f 18) [(.t 63), (.t 64)], none⟩,
    ⟨(some 62), .val (.mov (.t 65)), none⟩,
    ⟨(some 66), .val (.ext (.t 62) 0), none⟩,
    ⟨(some 67), .val (.ext (.t 62) 1), none⟩,
    ⟨(some 19), .allocN 19 [.int .i64 0, .str [], .str [], .int .i64 0, .int .i64 0, .int .i64 0, .int .i64 0, .int .i64 0], none⟩,
    ⟨none, .store 8 (.t 19) (.t 66), none⟩,
    ⟨(some 20), .val (.mov (.t 67)), none⟩]
def g4_9 : List Am.Item := [
    ⟨(some 68), .val (.mov (.t 9)), none⟩,
    ⟨(some 69), .val (.mov (.t 11)), none⟩,
    ⟨(some 70), .val (.bin .num .eql (.t 68) (.t 69)), none⟩,
    ⟨(some 71), .val (.mov (.t 70)), none⟩,
    ⟨(some 72), .val (.mov (.t 10)), (some (71, true))⟩,
    ⟨(some 73), .val (.mov (.t 12)), (some (71, true))⟩,
    ⟨(some 74), .val (.bin .bool .eql (.t 72) (.t 73)), (some (71, true))⟩,
    ⟨(some 75), .val (.pick (.t 71) (.t 74) (.c (.bool false))), none⟩,
    ⟨(some 76), .val (.mov (.t 75)), none⟩,
    ⟨(some 77), .val (.loadv 0 13 (some 8) (.t 13)), (some (76, true))⟩,
    ⟨(some 78), .val (.loadv 0 15 (some 8) (.t 15)), (some (76, true))⟩,
    ⟨(some 79), .val (.eqs false [.num, .str, .str, .num, .num, .num, .num, .num] (.t 77) (.t 78)), (some (76, true))⟩,
    ⟨(some 80), .val (.pick (.t 76) (.t 79) (.c (.bool false))), none⟩,
    ⟨(some 81), .val (.mov (.t 80)), none⟩,
    ⟨(some 82), .val (.mov (.t 14)), (some (81, true))⟩,
    ⟨(some 83), .val (.mov (.t 16)), (some (81, true))⟩,
    ⟨(some 84), .val (.bin .bool .eql (.t 82) (.t 83)), (some (81, true))⟩,
    ⟨(some 85), .val (.pick (.t 81) (.t 84) (.c (.bool false))), none⟩,
    ⟨(some 86), .val (.mov (.t 85)), none⟩,
    ⟨(some 87), .val (.loadv 0 17 (some 8) (.t 17)), (some (86, true))⟩,
    ⟨(some 88), .val (.loadv 0 19 (some 8) (.t 19)), (some (86, true))⟩,
    ⟨(some 89), .val (.eqs false [.num, .str, .str, .num, .num, .num, .num, .num] (.t 87) (.t 88)), (some (86, true))⟩,
    ⟨(some 90), .val (.pick (.t 86) (.t 89) (.c (.bool false))), none⟩,
    ⟨(some 91), .val (.mov (.t 90)), none⟩,
    ⟨(some 92), .val (.mov (.t 18)), (some (91, true))⟩,
    ⟨(some 93), .val (.mov (.t 20)), (some (91, true))⟩,
    ⟨(some 94), .val (.bin .bool .eql (.t 92) (.t 93)), (some (91, true))⟩,
    ⟨(some 95), .val (.pick (.t 91) (.t 94) (.c (.bool false))), none⟩,
    ⟨(some 96), .val (.mov (.t 95)), none⟩,
    ⟨(some 97), .val (.loadv 0 4 (some 2) (.t 4)), (some (96, true))⟩,
    ⟨(some 98), .val (.iaddr 1 (some 2) (.t 7) (.c (.int .i64 0))), (some (96, true))⟩,
    ⟨(some 99), .val (.load none (.t 98)), (some (96, true))⟩,
    ⟨(some 100), .val (.iaddr 1 (some 2) (.t 7) (.c (.int .i64 1))), (some (96, true))⟩,
    ⟨(some 101), .val (.load none (.t 100)), (some (96, true))⟩,
    ⟨(some 102), .val (.cvi .u64 (.t 101)), (some (96, true))⟩,
    ⟨(some 103), .call (.f 19) [(.t 97), (.t 99), (.t 102)], (some (96, true))⟩,
    ⟨(some 104), .val (.loadv 0 4 (some 2) (.t 4)), (some (96, true))⟩,
    ⟨(some 105), .val (.iaddr 1 (some 2) (.t 7) (.c (.int .i64 0))), (some (96, true))⟩,
    ⟨(some 106), .val (.load none (.t 105)), (some (96, true))⟩,
    ⟨(some 107), .val (.iaddr 1 (some 2) (.t 7) (.c (.int .i64 1))), (some (96, true))⟩,
    ⟨(some 108), .val (.load none (.t 107)), (some (96, true))⟩,
    ⟨(some 109), .val (.cvi .u64 (.t 108)), (some (96, true))⟩,
    ⟨(some 110), .call (.f 20) [(.t 104), (.t 106), (.t 109)], (some (96, true))⟩,
    ⟨(some 111), .val (.bin .bool .eql (.t 103) (.t 110)), (some (96, true))⟩,
    ⟨(some 112), .val (.pick (.t 96) (.t 111) (.c (.bool false))), none⟩,
    ⟨(some 113), .val (.mov (.t 112)), none⟩,
    ⟨(some 114), .call (.f 11) [], (some (113, true))⟩,
    ⟨(some 115), .val (.pick (.t 113) (.t 114) (.c (.bool false))), none⟩,
    ⟨(some 8), .val (.mov (.t 115)), none⟩]
def r4 : RC := .seq (.reg g4_0) (.seq (.seq (.reg g4_1) (.cond (.t 29) (.seq (.reg g4_2) (.ret)) (.skip))) (.seq (.reg g4_3) (.seq (.reg g4_4) (.seq (.reg g4_5) (.seq (.reg g4_6) (.seq (.reg g4_7) (.seq (.reg g4_8) (.seq (.draw g4_9) (.ret)))))))))
def o4 : List RR := [.tmp 8]
theorem k4 : chkC Tryz.prog 116 r4 (Tryz.f4.body.getD .skip) = true := by decide +kernel
theorem q4 : chkR Tryz.prog Tryz.f4.results.toList o4 = true := by decide +kernel

end Go.Proofs.YtkjjfbknppahhaaGreatDoor.Rc

/- Plain laws of numbers: wrapping, bits of 64-bit numbers. -/
namespace Go.Proofs.YtkjjfbknppahhaaGreatDoor.Bt
open Go

theorem wu64 (n : Int) : IntKind.u64.wrap n = n % 18446744073709551616 := by simp [IntKind.wrap, IntKind.bits, IntKind.signed]
theorem wu8 (n : Int) : IntKind.u8.wrap n = n % 256 := by simp [IntKind.wrap, IntKind.bits, IntKind.signed]
theorem wi64 (n : Int) : IntKind.i64.wrap n = (n + 9223372036854775808) % 18446744073709551616 - 9223372036854775808 := IntKind.wrap_i64 n

theorem ofInt_nat {n : Nat} (h : n < 18446744073709551616) : (BitVec.ofInt 64 (n : Int)).toNat = n := by
  simp
  omega

theorem xor_u64 (a b : Nat) (ha : a < 18446744073709551616) (hb : b < 18446744073709551616) : bits .xor .u64 (a : Int) (b : Int) = ((a ^^^ b : Nat) : Int) := by
  have hx : a ^^^ b < 2 ^ 64 := Nat.xor_lt_two_pow (by omega) (by omega)
  show IntKind.u64.wrap ((BitVec.ofInt 64 (a : Int) ^^^ BitVec.ofInt 64 (b : Int)).toNat : Int) = _
  rw [BitVec.toNat_xor, ofInt_nat ha, ofInt_nat hb, wu64]
  omega
theorem and_u64 (a b : Nat) (ha : a < 18446744073709551616) (hb : b < 18446744073709551616) : bits .and .u64 (a : Int) (b : Int) = ((a &&& b : Nat) : Int) := by
  have hx : a &&& b < 2 ^ 64 := Nat.and_lt_two_pow _ (by omega)
  show IntKind.u64.wrap ((BitVec.ofInt 64 (a : Int) &&& BitVec.ofInt 64 (b : Int)).toNat : Int) = _
  rw [BitVec.toNat_and, ofInt_nat ha, ofInt_nat hb, wu64]
  omega
theorem or_u64 (a b : Nat) (ha : a < 18446744073709551616) (hb : b < 18446744073709551616) : bits .or .u64 (a : Int) (b : Int) = ((a ||| b : Nat) : Int) := by
  have hx : a ||| b < 2 ^ 64 := Nat.or_lt_two_pow (by omega) (by omega)
  show IntKind.u64.wrap ((BitVec.ofInt 64 (a : Int) ||| BitVec.ofInt 64 (b : Int)).toNat : Int) = _
  rw [BitVec.toNat_or, ofInt_nat ha, ofInt_nat hb, wu64]
  omega

theorem xor_ones_nat (a : Nat) (ha : a < 18446744073709551616) : a ^^^ 18446744073709551615 = 18446744073709551615 - a := by
  have h1 : (BitVec.ofNat 64 a ^^^ BitVec.allOnes 64).toNat = a ^^^ 18446744073709551615 := by
    rw [BitVec.toNat_xor, BitVec.toNat_ofNat, BitVec.toNat_allOnes, Nat.mod_eq_of_lt (by omega)]
  rw [← h1, BitVec.xor_allOnes, BitVec.toNat_not, BitVec.toNat_ofNat, Nat.mod_eq_of_lt (by omega)]

theorem xor_u64_zero (a : Int) (h0 : 0 ≤ a) (h1 : a < 18446744073709551616) : bits .xor .u64 a 0 = a := by
  obtain ⟨n, rfl⟩ := Int.eq_ofNat_of_zero_le h0
  have := xor_u64 n 0 (by omega) (by omega)
  rw [Nat.xor_zero] at this
  exact this
theorem xor_u64_ones (a : Int) (h0 : 0 ≤ a) (h1 : a < 18446744073709551616) : bits .xor .u64 a 18446744073709551615 = 18446744073709551615 - a := by
  obtain ⟨n, rfl⟩ := Int.eq_ofNat_of_zero_le h0
  have := xor_u64 n 18446744073709551615 (by omega) (by omega)
  rw [xor_ones_nat n (by omega)] at this
  rw [show ((18446744073709551615 : Nat) : Int) = 18446744073709551615 from rfl] at this
  rw [this]
  omega
theorem and_u64_one (a : Int) (h0 : 0 ≤ a) (h1 : a < 18446744073709551616) : bits .and .u64 a 1 = a % 2 := by
  obtain ⟨n, rfl⟩ := Int.eq_ofNat_of_zero_le h0
  have := and_u64 n 1 (by omega) (by omega)
  rw [Nat.and_one_is_mod] at this
  rw [show ((1 : Nat) : Int) = 1 from rfl] at this
  rw [this]
  omega
theorem xor_i64_zero (a : Int) (h0 : -9223372036854775808 ≤ a) (h1 : a < 9223372036854775808) : bits .xor .i64 a 0 = a := by
  show IntKind.i64.wrap ((BitVec.ofInt 64 a ^^^ BitVec.ofInt 64 0).toNat : Int) = _
  rw [BitVec.toNat_xor, show (BitVec.ofInt 64 0).toNat = 0 from rfl, Nat.xor_zero, BitVec.toNat_ofInt, wi64]
  omega
theorem xor_i64_ones (a : Int) (h0 : -9223372036854775808 ≤ a) (h1 : a < 9223372036854775808) : bits .xor .i64 a (-1) = -1 - a := by
  show IntKind.i64.wrap ((BitVec.ofInt 64 a ^^^ BitVec.ofInt 64 (-1)).toNat : Int) = _
  rw [BitVec.toNat_xor, show (BitVec.ofInt 64 (-1)).toNat = 18446744073709551615 from rfl, BitVec.toNat_ofInt, xor_ones_nat _ (by omega), wi64]
  omega

end Go.Proofs.YtkjjfbknppahhaaGreatDoor.Bt

/- Names, as the specification examines them: what is known of the answers. -/
set_option linter.unusedSimpArgs false
namespace Go.Proofs.YtkjjfbknppahhaaGreatDoor.Va
open Go Am Rc Bt

/-- A boolean. -/
def RB (v : AV) : Prop := ∃ b, v = .bool b
theorem rb (b : Bool) : RB (.bool b) = True := eq_true ⟨b, rfl⟩
theorem RB.rf {v : AV} {l : List AV} (h : RB v) : v.rf = true ∧ (AV.rfL l = true ∨ v.nl = true) := by
  obtain ⟨b, rfl⟩ := h
  exact ⟨rfl, .inr rfl⟩

end Go.Proofs.YtkjjfbknppahhaaGreatDoor.Va

/- Scalars: kinds, wire types, packed lists. -/
set_option linter.unusedSimpArgs false
namespace Go.Proofs.YtkjjfbknppahhaaGreatDoor.Va
open Go Am Rc Bt

/-- A kind of scalars. -/
def isk (k : Int) : Bool := decide (k ≥ 1) && decide (k ≤ 9)
/-- A kind of texts. -/
def txk (k : Int) : Bool := k == 7 || k == 8
/-- The wire type of an element of a kind. -/
def wk (k : Int) : Int := if k = 1 ∨ k = 4 ∨ k = 5 ∨ k = 9 then 0 else if k = 2 ∨ k = 3 then 1 else if k = 6 then 2 else if k = 7 ∨ k = 8 then 3 else if k = 10 then 4 else -1

theorem x35 (k : Int) : Fn1 Tryz.prog 35 [.int .i64 k] (.bool (isk k)) := by
  refine fn1_of_awp (rc := r35) (rs := o35) Tryz.func35 rfl rfl Tryz.ntmps35 k35 q35 (by simp) ?_
  simp only [g35_0, g35_1, r35, o35, isk, eES, eEX, Nat.reduceBEq, Int.reduceLE, Int.reduceLT, Int.reduceToNat, Int.reduceEq, ↓reduceIte, reduceCtorEq, Nat.reducePow, Nat.reduceAdd, Nat.reduceLeDiff, Nat.reduceLT, Nat.reduceSub, Nat.reduceEqDiff]
  cases h : decide (k ≥ 1) <;> simp only [h, Bool.true_and, Bool.false_and, eES, eEX, Nat.reduceBEq, Int.reduceLE, Int.reduceLT, Int.reduceToNat, Int.reduceEq, ↓reduceIte, reduceCtorEq, Nat.reducePow, Nat.reduceAdd, Nat.reduceLeDiff, Nat.reduceLT, Nat.reduceSub, Nat.reduceEqDiff]

theorem x33 (k : Int) : Fn1 Tryz.prog 33 [.int .i64 k] (.bool (isk k)) := by
  refine fn1_of_awp (rc := r33) (rs := o33) Tryz.func33 rfl rfl Tryz.ntmps33 k33 q33 (by simp) ?_
  simp only [g33_0, g33_1, r33, o33, isk, eES, eEX, Nat.reduceBEq, Int.reduceLE, Int.reduceLT, Int.reduceToNat, Int.reduceEq, ↓reduceIte, reduceCtorEq, Nat.reducePow, Nat.reduceAdd, Nat.reduceLeDiff, Nat.reduceLT, Nat.reduceSub, Nat.reduceEqDiff]
  cases h : decide (k ≥ 1) <;> simp only [h, Bool.true_and, Bool.false_and, eES, eEX, Nat.reduceBEq, Int.reduceLE, Int.reduceLT, Int.reduceToNat, Int.reduceEq, ↓reduceIte, reduceCtorEq, Nat.reducePow, Nat.reduceAdd, Nat.reduceLeDiff, Nat.reduceLT, Nat.reduceSub, Nat.reduceEqDiff]

theorem x44 (k : Int) : Fn1 Tryz.prog 44 [.int .i64 k] (.bool (txk k)) := by
  refine fn1_of_awp (rc := r44) (rs := o44) Tryz.func44 rfl rfl Tryz.ntmps44 k44 q44 (by simp) ?_
  simp only [g44_0, g44_1, r44, o44, txk, eES, eEX, Nat.reduceBEq, Int.reduceLE, Int.reduceLT, Int.reduceToNat, Int.reduceEq, ↓reduceIte, reduceCtorEq, Nat.reducePow, Nat.reduceAdd, Nat.reduceLeDiff, Nat.reduceLT, Nat.reduceSub, Nat.reduceEqDiff]
  cases h : (k == 7) <;> simp only [h, Bool.true_or, Bool.false_or, eES, eEX, Nat.reduceBEq, Int.reduceLE, Int.reduceLT, Int.reduceToNat, Int.reduceEq, ↓reduceIte, reduceCtorEq, Nat.reducePow, Nat.reduceAdd, Nat.reduceLeDiff, Nat.reduceLT, Nat.reduceSub, Nat.reduceEqDiff]

/-- The cells of an operation. -/
def oc (n : Int) (s a : List UInt8) (c k kd t u : Int) : AV := .agg [.int .i64 n, .str s, .str a, .int .i64 c, .int .i64 k, .int .i64 kd, .int .i64 t, .int .i64 u]

/-- A list that is written as one field. -/
def pk (c kd : Int) : Bool := c == 4 && ((decide (kd ≥ 1) && decide (kd ≤ 6)) || kd == 9)
/-- The wire type of a field. -/
def wkc (c kd : Int) : Int := if c = 5 then 6 else if pk c kd = true then 5 else wk kd

section
variable (n : Int) (s a : List UInt8) (c k kd t u : Int)

theorem y7 : Fn1 Tryz.prog 7 [oc n s a c k kd t u] (.bool (pk c kd)) := by
  refine fn1_of_awp (rc := r7) (rs := o7) Tryz.func7 rfl rfl Tryz.ntmps7 k7 q7 (by simp) ?_
  simp only [g7_0, g7_1, r7, o7, oc, pk, eES, eEX, Nat.reduceBEq, Int.reduceLE, Int.reduceLT, Int.reduceToNat, Int.reduceEq, ↓reduceIte, reduceCtorEq, Nat.reducePow, Nat.reduceAdd, Nat.reduceLeDiff, Nat.reduceLT, Nat.reduceSub, Nat.reduceEqDiff]
  cases h0 : (c == 4) <;> cases h1 : decide (kd ≥ 1) <;> cases h2 : decide (kd ≤ 6) <;> simp only [h0, h1, h2, Bool.true_and, Bool.false_and, Bool.true_or, Bool.false_or, Bool.or_false, eES, eEX, Nat.reduceBEq, Int.reduceLE, Int.reduceLT, Int.reduceToNat, Int.reduceEq, ↓reduceIte, reduceCtorEq, Nat.reducePow, Nat.reduceAdd, Nat.reduceLeDiff, Nat.reduceLT, Nat.reduceSub, Nat.reduceEqDiff]

theorem y8 : Fn1 Tryz.prog 8 [oc n s a c k kd t u] (.bool (pk c kd)) := by
  refine fn1_of_awp (rc := r8) (rs := o8) Tryz.func8 rfl rfl Tryz.ntmps8 k8 q8 (by simp) ?_
  simp only [g8_0, g8_1, r8, o8, oc, pk, eES, eEX, Nat.reduceBEq, Int.reduceLE, Int.reduceLT, Int.reduceToNat, Int.reduceEq, ↓reduceIte, reduceCtorEq, Nat.reducePow, Nat.reduceAdd, Nat.reduceLeDiff, Nat.reduceLT, Nat.reduceSub, Nat.reduceEqDiff]
  cases h0 : (c == 4) <;> cases h1 : decide (kd ≥ 1) <;> cases h2 : decide (kd ≤ 6) <;> simp only [h0, h1, h2, Bool.true_and, Bool.false_and, Bool.true_or, Bool.false_or, Bool.or_false, eES, eEX, Nat.reduceBEq, Int.reduceLE, Int.reduceLT, Int.reduceToNat, Int.reduceEq, ↓reduceIte, reduceCtorEq, Nat.reducePow, Nat.reduceAdd, Nat.reduceLeDiff, Nat.reduceLT, Nat.reduceSub, Nat.reduceEqDiff]

theorem y5 : Fn1 Tryz.prog 5 [oc n s a c k kd t u] (.int .i64 (wkc c kd)) := by
  have hP := y7 n s a c k kd t u
  simp only [oc] at hP
  refine fn1_of_awp (rc := r5) (rs := o5) Tryz.func5 rfl rfl Tryz.ntmps5 k5 q5 (by simp) ?_
  simp only [g5_0, g5_1, g5_2, g5_3, g5_4, g5_5, g5_6, g5_7, g5_8, g5_9, g5_10, g5_11, g5_12, g5_13, g5_14, g5_15, g5_16, g5_17, g5_18, g5_19, g5_20, g5_21, r5, o5, oc, eES, eEX, Nat.reduceBEq, Int.reduceLE, Int.reduceLT, Int.reduceToNat, Int.reduceEq, ↓reduceIte, reduceCtorEq, Nat.reducePow, Nat.reduceAdd, Nat.reduceLeDiff, Nat.reduceLT, Nat.reduceSub, Nat.reduceEqDiff]
  by_cases hc : c = 5
  · have b0 : (c == 5) = true := by simp [hc]
    simp only [b0, wkc, if_pos hc, eES, eEX, Nat.reduceBEq, Int.reduceLE, Int.reduceLT, Int.reduceToNat, Int.reduceEq, ↓reduceIte, reduceCtorEq, Nat.reducePow, Nat.reduceAdd, Nat.reduceLeDiff, Nat.reduceLT, Nat.reduceSub, Nat.reduceEqDiff]
  · have b0 : (c == 5) = false := by simp [hc]
    simp only [b0, wkc, if_neg hc, eES, eEX, Nat.reduceBEq, Int.reduceLE, Int.reduceLT, Int.reduceToNat, Int.reduceEq, ↓reduceIte, reduceCtorEq, Nat.reducePow, Nat.reduceAdd, Nat.reduceLeDiff, Nat.reduceLT, Nat.reduceSub, Nat.reduceEqDiff]
    refine aops_call hP rfl rfl rfl (.inl rfl) ?_
    cases pk c kd
    · simp only [Bool.false_eq_true, if_false, eES, eEX, Nat.reduceBEq, Int.reduceLE, Int.reduceLT, Int.reduceToNat, Int.reduceEq, ↓reduceIte, reduceCtorEq, Nat.reducePow, Nat.reduceAdd, Nat.reduceLeDiff, Nat.reduceLT, Nat.reduceSub, Nat.reduceEqDiff]
      repeat' (first | (refine csel_of (fun h => ?_) (fun h => ?_) <;> simp only [h, eES, eEX, Nat.reduceBEq, Int.reduceLE, Int.reduceLT, Int.reduceToNat, Int.reduceEq, ↓reduceIte, reduceCtorEq, Nat.reducePow, Nat.reduceAdd, Nat.reduceLeDiff, Nat.reduceLT, Nat.reduceSub, Nat.reduceEqDiff]) | (refine gsel_t (fun h => ?_) (fun h => ?_) <;> simp only [h, updO, eES, eEX, Nat.reduceBEq, Int.reduceLE, Int.reduceLT, Int.reduceToNat, Int.reduceEq, ↓reduceIte, reduceCtorEq, Nat.reducePow, Nat.reduceAdd, Nat.reduceLeDiff, Nat.reduceLT, Nat.reduceSub, Nat.reduceEqDiff]) | (refine gsel_f (fun h => ?_) (fun h => ?_) <;> simp only [h, updO, eES, eEX, Nat.reduceBEq, Int.reduceLE, Int.reduceLT, Int.reduceToNat, Int.reduceEq, ↓reduceIte, reduceCtorEq, Nat.reducePow, Nat.reduceAdd, Nat.reduceLeDiff, Nat.reduceLT, Nat.reduceSub, Nat.reduceEqDiff]))
      all_goals ((try simp only [decide_eq_true_eq, decide_eq_false_iff_not, beq_iff_eq, bne_iff_ne, beq_eq_false_iff_ne, bne_eq_false_iff_eq, ne_eq] at *) <;> unfold wk <;> (repeat' split) <;> first | rfl | (exfalso; omega))
    · simp only [if_true, eES, eEX, Nat.reduceBEq, Int.reduceLE, Int.reduceLT, Int.reduceToNat, Int.reduceEq, ↓reduceIte, reduceCtorEq, Nat.reducePow, Nat.reduceAdd, Nat.reduceLeDiff, Nat.reduceLT, Nat.reduceSub, Nat.reduceEqDiff]

theorem y6 : Fn1 Tryz.prog 6 [oc n s a c k kd t u] (.int .i64 (wkc c kd)) := by
  have hP := y8 n s a c k kd t u
  simp only [oc] at hP
  refine fn1_of_awp (rc := r6) (rs := o6) Tryz.func6 rfl rfl Tryz.ntmps6 k6 q6 (by simp) ?_
  simp only [g6_0, g6_1, g6_2, g6_3, g6_4, g6_5, g6_6, g6_7, g6_8, g6_9, g6_10, g6_11, g6_12, g6_13, g6_14, g6_15, g6_16, g6_17, g6_18, g6_19, g6_20, g6_21, r6, o6, oc, eES, eEX, Nat.reduceBEq, Int.reduceLE, Int.reduceLT, Int.reduceToNat, Int.reduceEq, ↓reduceIte, reduceCtorEq, Nat.reducePow, Nat.reduceAdd, Nat.reduceLeDiff, Nat.reduceLT, Nat.reduceSub, Nat.reduceEqDiff]
  by_cases hc : c = 5
  · have b0 : (c == 5) = true := by simp [hc]
    simp only [b0, wkc, if_pos hc, eES, eEX, Nat.reduceBEq, Int.reduceLE, Int.reduceLT, Int.reduceToNat, Int.reduceEq, ↓reduceIte, reduceCtorEq, Nat.reducePow, Nat.reduceAdd, Nat.reduceLeDiff, Nat.reduceLT, Nat.reduceSub, Nat.reduceEqDiff]
  · have b0 : (c == 5) = false := by simp [hc]
    simp only [b0, wkc, if_neg hc, eES, eEX, Nat.reduceBEq, Int.reduceLE, Int.reduceLT, Int.reduceToNat, Int.reduceEq, ↓reduceIte, reduceCtorEq, Nat.reducePow, Nat.reduceAdd, Nat.reduceLeDiff, Nat.reduceLT, Nat.reduceSub, Nat.reduceEqDiff]
    refine aops_call hP rfl rfl rfl (.inl rfl) ?_
    cases pk c kd
    · simp only [Bool.false_eq_true, if_false, eES, eEX, Nat.reduceBEq, Int.reduceLE, Int.reduceLT, Int.reduceToNat, Int.reduceEq, ↓reduceIte, reduceCtorEq, Nat.reducePow, Nat.reduceAdd, Nat.reduceLeDiff, Nat.reduceLT, Nat.reduceSub, Nat.reduceEqDiff]
      repeat' (first | (refine csel_of (fun h => ?_) (fun h => ?_) <;> simp only [h, eES, eEX, Nat.reduceBEq, Int.reduceLE, Int.reduceLT, Int.reduceToNat, Int.reduceEq, ↓reduceIte, reduceCtorEq, Nat.reducePow, Nat.reduceAdd, Nat.reduceLeDiff, Nat.reduceLT, Nat.reduceSub, Nat.reduceEqDiff]) | (refine gsel_t (fun h => ?_) (fun h => ?_) <;> simp only [h, updO, eES, eEX, Nat.reduceBEq, Int.reduceLE, Int.reduceLT, Int.reduceToNat, Int.reduceEq, ↓reduceIte, reduceCtorEq, Nat.reducePow, Nat.reduceAdd, Nat.reduceLeDiff, Nat.reduceLT, Nat.reduceSub, Nat.reduceEqDiff]) | (refine gsel_f (fun h => ?_) (fun h => ?_) <;> simp only [h, updO, eES, eEX, Nat.reduceBEq, Int.reduceLE, Int.reduceLT, Int.reduceToNat, Int.reduceEq, ↓reduceIte, reduceCtorEq, Nat.reducePow, Nat.reduceAdd, Nat.reduceLeDiff, Nat.reduceLT, Nat.reduceSub, Nat.reduceEqDiff]))
      all_goals ((try simp only [decide_eq_true_eq, decide_eq_false_iff_not, beq_iff_eq, bne_iff_ne, beq_eq_false_iff_ne, bne_eq_false_iff_eq, ne_eq] at *) <;> unfold wk <;> (repeat' split) <;> first | rfl | (exfalso; omega))
    · simp only [if_true, eES, eEX, Nat.reduceBEq, Int.reduceLE, Int.reduceLT, Int.reduceToNat, Int.reduceEq, ↓reduceIte, reduceCtorEq, Nat.reducePow, Nat.reduceAdd, Nat.reduceLeDiff, Nat.reduceLT, Nat.reduceSub, Nat.reduceEqDiff]

end

end Go.Proofs.YtkjjfbknppahhaaGreatDoor.Va

/- Names, as the specification examines them, in parts. -/
set_option linter.unusedSimpArgs false
namespace Go.Proofs.YtkjjfbknppahhaaGreatDoor.Va
open Go Am Rc Bt

theorem wi64_s (i : Nat) (n : Nat) (h : i < n) (hn : n ≤ maxLen) : IntKind.i64.wrap ((i : Int) + 1) = ((i + 1 : Nat) : Int) := by
  simp only [maxLen] at hn
  rw [wi64]; omega

theorem lt_t {i n : Nat} (h : i < n) : decide ((i : Int) < (n : Int)) = true := by simp; omega
theorem lt_f {i n : Nat} (h : ¬ i < n) : decide ((i : Int) < (n : Int)) = false := by simp; omega
theorem nneg (i : Nat) : (0 ≤ (i : Int)) = True := by simp

def PartI (s : List UInt8) (k : Nat) (st : St) : Prop :=
  ∃ f i, st = ⟨f, [noObs], []⟩ ∧ k = s.length - i ∧ f 0 = .str s ∧ f 3 = .int .i64 (i : Nat)

end Go.Proofs.YtkjjfbknppahhaaGreatDoor.Va

/- Arguments that are structs of texts and numbers: opened and shut. -/
namespace Go.Proofs.YtkjjfbknppahhaaGreatDoor.Br
open Go Am Go.RowKit Go.WideShapes Go.ChangeShapes Go.ChangeAt Go.Joins Go.Deep Go.WideElems Go.Maps

section
variable {H : Type} {enc : TypeId × Value → H} {P : Program} {W : World} {base : Nat} {sp : Nat → Bool} {held : Bool}

theorem array6 {α : Type} {cs : Array α} (h : cs.size = 6) : ∃ c0 c1 c2 c3 c4 c5, cs = #[c0, c1, c2, c3, c4, c5] := by
  obtain ⟨l⟩ := cs
  match l, h with
  | [c0, c1, c2, c3, c4, c5], _ => exact ⟨c0, c1, c2, c3, c4, c5, rfl⟩

/-- What the fields of a struct of one-cell fields read. -/
theorem open_six {r : Reach} {b0 : Nat} {t : TypeId} {f0 f1 f2 f3 f4 f5 : Field} {v : Value} {d : DataW H} {p : List MemPlace} (hs : P.underlying t = some (.struct #[f0, f1, f2, f3, f4, f5])) (hone : oneCellFields P #[f0, f1, f2, f3, f4, f5] = true) (hC : P.cellsOf t = 6)
    (hv : Value.okWide P W r b0 t v) (h : DataW.Trod enc P W base sp held t v d p) :
    ∃ (v0 v1 v2 v3 v4 v5 : Value) (y0 y1 y2 y3 y4 y5 : DataW H × List MemPlace) (n : Nat), v = .agg #[v0, v1, v2, v3, v4, v5] ∧ d = .agg [y0.1, y1.1, y2.1, y3.1, y4.1, y5.1] ∧ p = y0.2 ++ (y1.2 ++ (y2.2 ++ (y3.2 ++ (y4.2 ++ y5.2)))) ∧
      DataW.trod enc P W base sp held n f0.type [v0] = some y0 ∧ DataW.trod enc P W base sp held n f1.type [v1] = some y1 ∧ DataW.trod enc P W base sp held n f2.type [v2] = some y2 ∧ DataW.trod enc P W base sp held n f3.type [v3] = some y3 ∧
      DataW.trod enc P W base sp held n f4.type [v4] = some y4 ∧ DataW.trod enc P W base sp held n f5.type [v5] = some y5 := by
  obtain ⟨cs, rfl, hsz⟩ := okWide_struct hs hv
  obtain ⟨c0, c1, c2, c3, c4, c5, rfl⟩ := array6 (hsz.trans hC)
  obtain ⟨fuel, hf⟩ := h
  obtain ⟨xs, n, _, hx, _, hlen, hg⟩ := DataW.trod_struct hs hf
  have ho := fun i f => hone_of hone i f
  match xs, hlen with
  | [y0, y1, y2, y3, y4, y5], _ =>
    obtain ⟨o0, k0⟩ := ho 0 f0 rfl
    obtain ⟨o1, k1⟩ := ho 1 f1 rfl
    obtain ⟨o2, k2⟩ := ho 2 f2 rfl
    obtain ⟨o3, k3⟩ := ho 3 f3 rfl
    obtain ⟨o4, k4⟩ := ho 4 f4 rfl
    obtain ⟨o5, k5⟩ := ho 5 f5 rfl
    simp only [Prod.mk.injEq] at hx
    refine ⟨c0, c1, c2, c3, c4, c5, y0, y1, y2, y3, y4, y5, n, rfl, by rw [hx.1]; rfl, by rw [hx.2]; simp, ?_, ?_, ?_, ?_, ?_, ?_⟩
    · simpa [Value.cells, o0, k0] using hg 0 f0 rfl
    · simpa [Value.cells, o1, k1] using hg 1 f1 rfl
    · simpa [Value.cells, o2, k2] using hg 2 f2 rfl
    · simpa [Value.cells, o3, k3] using hg 3 f3 rfl
    · simpa [Value.cells, o4, k4] using hg 4 f4 rfl
    · simpa [Value.cells, o5, k5] using hg 5 f5 rfl

/-- A text and five numbers. -/
theorem open_cur {r : Reach} {b0 : Nat} {t ts ti : TypeId} {f0 f1 f2 f3 f4 f5 : Field} {v : Value} {d : DataW H} {p : List MemPlace} (hs : P.underlying t = some (.struct #[f0, f1, f2, f3, f4, f5])) (hone : oneCellFields P #[f0, f1, f2, f3, f4, f5] = true) (hC : P.cellsOf t = 6)
    (hts : P.underlying ts = some .string) (hti : P.underlying ti = some (.int .i64)) (hf : f0.type = ts ∧ f1.type = ti ∧ f2.type = ti ∧ f3.type = ti ∧ f4.type = ti ∧ f5.type = ti)
    (hv : Value.okWide P W r b0 t v) (h : DataW.Trod enc P W base sp held t v d p) :
    ∃ (s : ByteArray) (a b c e g : Int), v = .agg #[.string s, .int .i64 a, .int .i64 b, .int .i64 c, .int .i64 e, .int .i64 g] ∧ d = .agg [.lit (.string s.data.toList), .lit (.int .i64 a), .lit (.int .i64 b), .lit (.int .i64 c), .lit (.int .i64 e), .lit (.int .i64 g)] ∧ p = [] ∧
      s.size ≤ maxLen ∧ (Lit.int .i64 a).wf = true ∧ (Lit.int .i64 b).wf = true ∧ (Lit.int .i64 c).wf = true ∧ (Lit.int .i64 e).wf = true ∧ (Lit.int .i64 g).wf = true := by
  obtain ⟨v0, v1, v2, v3, v4, v5, y0, y1, y2, y3, y4, y5, n, rfl, rfl, rfl, h0, h1, h2, h3, h4, h5⟩ := open_six hs hone hC hv h
  obtain ⟨t0, t1, t2, t3, t4, t5⟩ := hf
  rw [t0] at h0
  rw [t1] at h1
  rw [t2] at h2
  rw [t3] at h3
  rw [t4] at h4
  rw [t5] at h5
  obtain ⟨s, e0, rfl, w0⟩ := DataW.trod_string hts h0
  obtain ⟨a, e1, rfl, w1⟩ := DataW.trod_int hti h1
  obtain ⟨b, e2, rfl, w2⟩ := DataW.trod_int hti h2
  obtain ⟨c, e3, rfl, w3⟩ := DataW.trod_int hti h3
  obtain ⟨e, e4, rfl, w4⟩ := DataW.trod_int hti h4
  obtain ⟨g, e5, rfl, w5⟩ := DataW.trod_int hti h5
  simp at e0 e1 e2 e3 e4 e5
  subst e0 e1 e2 e3 e4 e5
  exact ⟨s, a, b, c, e, g, rfl, rfl, rfl, w0, w1, w2, w3, w4, w5⟩

theorem shut_cur {t ts ti : TypeId} {f0 f1 f2 f3 f4 f5 : Field} (hs : P.underlying t = some (.struct #[f0, f1, f2, f3, f4, f5])) (hone : oneCellFields P #[f0, f1, f2, f3, f4, f5] = true) (hC : P.cellsOf t = 6)
    (hts : P.underlying ts = some .string) (hti : P.underlying ti = some (.int .i64)) (hf : f0.type = ts ∧ f1.type = ti ∧ f2.type = ti ∧ f3.type = ti ∧ f4.type = ti ∧ f5.type = ti)
    {s : ByteArray} {a b c e g : Int} (w0 : s.size ≤ maxLen) (w1 : (Lit.int .i64 a).wf = true) (w2 : (Lit.int .i64 b).wf = true) (w3 : (Lit.int .i64 c).wf = true) (w4 : (Lit.int .i64 e).wf = true) (w5 : (Lit.int .i64 g).wf = true) :
    DataW.Trod enc P W base sp held t (.agg #[.string s, .int .i64 a, .int .i64 b, .int .i64 c, .int .i64 e, .int .i64 g]) (.agg [.lit (.string s.data.toList), .lit (.int .i64 a), .lit (.int .i64 b), .lit (.int .i64 c), .lit (.int .i64 e), .lit (.int .i64 g)]) [] := by
  have hint : ∀ n : Int, (Lit.int .i64 n).wf = true → DataW.trod enc P W base sp held 1 ti [.int .i64 n] = some (.lit (.int .i64 n), []) := fun n hn => by simp [DataW.trod, hti, hn]
  have hstr : DataW.trod enc P W base sp held 1 ts [.string s] = some (.lit (.string s.data.toList), []) := by simp [DataW.trod, hts, w0]
  obtain ⟨t0, t1, t2, t3, t4, t5⟩ := hf
  have ho := fun i f => hone_of hone i f
  obtain ⟨o0, k0⟩ := ho 0 f0 rfl
  obtain ⟨o1, k1⟩ := ho 1 f1 rfl
  obtain ⟨o2, k2⟩ := ho 2 f2 rfl
  obtain ⟨o3, k3⟩ := ho 3 f3 rfl
  obtain ⟨o4, k4⟩ := ho 4 f4 rfl
  obtain ⟨o5, k5⟩ := ho 5 f5 rfl
  have := trod_struct_mk (enc := enc) (w := W) (base := base) (spare := sp) (held := held) (n := 1) (cs := [.string s, .int .i64 a, .int .i64 b, .int .i64 c, .int .i64 e, .int .i64 g])
    (xs := [(.lit (.string s.data.toList), []), (.lit (.int .i64 a), []), (.lit (.int .i64 b), []), (.lit (.int .i64 c), []), (.lit (.int .i64 e), []), (.lit (.int .i64 g), [])]) hs (by rw [hC]; rfl)
    (by rw [t0] at k0; rw [t1] at k1; rw [t2] at k2; rw [t3] at k3; rw [t4] at k4; rw [t5] at k5
        simp [o0, o1, o2, o3, o4, o5, k0, k1, t0, t1, t2, t3, t4, t5, hstr, hint _ w1, hint _ w2, hint _ w3, hint _ w4, hint _ w5])
  exact ⟨_, by simpa [Value.cells] using this⟩

theorem rep_cur {G : Gh} (s : ByteArray) (a b c e g : Int) : Rep G (.agg [.str s.data.toList, .int .i64 a, .int .i64 b, .int .i64 c, .int .i64 e, .int .i64 g]) (.agg #[.string s, .int .i64 a, .int .i64 b, .int .i64 c, .int .i64 e, .int .i64 g]) :=
  .agg (.cons (rep_str _) (.cons (.int _ _) (.cons (.int _ _) (.cons (.int _ _) (.cons (.int _ _) (.cons (.int _ _) .nil))))))

/-- Four numbers. -/
theorem open_lim {r : Reach} {b0 : Nat} {t ti : TypeId} {f0 f1 f2 f3 : Field} {v : Value} {d : DataW H} {p : List MemPlace} (hs : P.underlying t = some (.struct #[f0, f1, f2, f3])) (hone : oneCellFields P #[f0, f1, f2, f3] = true) (hC : P.cellsOf t = 4)
    (hti : P.underlying ti = some (.int .i64)) (hf : f0.type = ti ∧ f1.type = ti ∧ f2.type = ti ∧ f3.type = ti)
    (hv : Value.okWide P W r b0 t v) (h : DataW.Trod enc P W base sp held t v d p) :
    ∃ (a b c e : Int), v = .agg #[.int .i64 a, .int .i64 b, .int .i64 c, .int .i64 e] ∧ d = .agg [.lit (.int .i64 a), .lit (.int .i64 b), .lit (.int .i64 c), .lit (.int .i64 e)] ∧ p = [] ∧
      (Lit.int .i64 a).wf = true ∧ (Lit.int .i64 b).wf = true ∧ (Lit.int .i64 c).wf = true ∧ (Lit.int .i64 e).wf = true := by
  obtain ⟨v0, v1, v2, v3, y0, y1, y2, y3, n, rfl, rfl, rfl, h0, h1, h2, h3⟩ := open_agg4 hs hone hC hv h
  obtain ⟨t0, t1, t2, t3⟩ := hf
  rw [t0] at h0
  rw [t1] at h1
  rw [t2] at h2
  rw [t3] at h3
  obtain ⟨a, e0, rfl, w0⟩ := DataW.trod_int hti h0
  obtain ⟨b, e1, rfl, w1⟩ := DataW.trod_int hti h1
  obtain ⟨c, e2, rfl, w2⟩ := DataW.trod_int hti h2
  obtain ⟨e, e3, rfl, w3⟩ := DataW.trod_int hti h3
  simp at e0 e1 e2 e3
  subst e0 e1 e2 e3
  exact ⟨a, b, c, e, rfl, rfl, rfl, w0, w1, w2, w3⟩

theorem shut_lim {t ti : TypeId} {f0 f1 f2 f3 : Field} (hs : P.underlying t = some (.struct #[f0, f1, f2, f3])) (hone : oneCellFields P #[f0, f1, f2, f3] = true) (hC : P.cellsOf t = 4)
    (hti : P.underlying ti = some (.int .i64)) (hf : f0.type = ti ∧ f1.type = ti ∧ f2.type = ti ∧ f3.type = ti) {a b c e : Int} (w1 : (Lit.int .i64 a).wf = true) (w2 : (Lit.int .i64 b).wf = true) (w3 : (Lit.int .i64 c).wf = true) (w4 : (Lit.int .i64 e).wf = true) :
    DataW.Trod enc P W base sp held t (.agg #[.int .i64 a, .int .i64 b, .int .i64 c, .int .i64 e]) (.agg [.lit (.int .i64 a), .lit (.int .i64 b), .lit (.int .i64 c), .lit (.int .i64 e)]) [] := by
  have hint : ∀ n : Int, (Lit.int .i64 n).wf = true → ∃ m, DataW.trod enc P W base sp held m ti [.int .i64 n] = some (.lit (.int .i64 n), []) := fun n hn => ⟨1, by simp [DataW.trod, hti, hn]⟩
  obtain ⟨t0, t1, t2, t3⟩ := hf
  have := shut_agg4 (enc := enc) (w := W) (base := base) (spare := sp) (held := held) (y0 := (.lit (.int .i64 a), [])) (y1 := (.lit (.int .i64 b), [])) (y2 := (.lit (.int .i64 c), [])) (y3 := (.lit (.int .i64 e), [])) hs hone hC
    (by rw [t0]; exact hint _ w1) (by rw [t1]; exact hint _ w2) (by rw [t2]; exact hint _ w3) (by rw [t3]; exact hint _ w4)
  simpa using this

theorem rep_lim {G : Gh} (a b c e : Int) : Rep G (.agg [.int .i64 a, .int .i64 b, .int .i64 c, .int .i64 e]) (.agg #[.int .i64 a, .int .i64 b, .int .i64 c, .int .i64 e]) :=
  .agg (.cons (.int _ _) (.cons (.int _ _) (.cons (.int _ _) (.cons (.int _ _) .nil))))

end

end Go.Proofs.YtkjjfbknppahhaaGreatDoor.Br

/- Arguments that are slices whose elements hold no pointer: opened, and shut again. -/
namespace Go.Proofs.YtkjjfbknppahhaaGreatDoor.Br
open Go Am Go.RowKit Go.WideShapes Go.ChangeShapes Go.ChangeAt Go.Joins Go.Deep Go.WideElems Go.Maps

theorem flatMap_get {X α : Type} {f : X → List α} {sz : Nat} (hsz : 0 < sz) (hf : ∀ x, (f x).length = sz) : ∀ (xs : List X) (j : Nat), (xs.flatMap f)[j]? = (xs[j / sz]?).bind fun x => (f x)[j % sz]?
  | [], j => by simp
  | x :: xs, j => by
    rw [List.flatMap_cons]
    by_cases hj : j < sz
    · rw [List.getElem?_append_left (by rw [hf]; exact hj), Nat.div_eq_of_lt hj, Nat.mod_eq_of_lt hj]; rfl
    · obtain ⟨i, rfl⟩ : ∃ i, j = sz + i := ⟨j - sz, by omega⟩
      rw [List.getElem?_append_right (by rw [hf]; omega), hf, flatMap_get hsz hf xs, show sz + i - sz = i by omega, show (sz + i) / sz = i / sz + 1 by rw [Nat.add_div_left _ hsz], Nat.add_mod_left]
      rfl

section
variable {H : Type} {enc : TypeId × Value → H} {P : Program} {W : World}

/-- What the elements are. -/
structure El (enc : TypeId × Value → H) (P : Program) (e : TypeId) (sz : Nat) (X : Type) where
  av : X → AV
  vals : X → List Value
  dat : X → DataW H
  ok : X → Prop
  pos : 0 < sz
  len : ∀ x, (vals x).length = sz
  cells : ∀ x, (av x).cells.length = sz
  rfl' : ∀ x, AV.rfL (av x).cells = true
  leaf : ∀ x, (av x).cells.all AV.leaf = true
  rep : ∀ (G : Gh) x, RepL G (av x).cells (vals x)
  opened : ∀ {W : World} {n : Nat} {cs : List Value} {d : DataW H} {pl : List MemPlace}, cs.length = sz → DataW.trod enc P W 0 (fun _ => true) true n e cs = some (d, pl) → ∃ x, ok x ∧ cs = vals x ∧ d = dat x ∧ pl = []
  shut : ∀ (W : World) (sp : Nat → Bool) x, ok x → ∃ n, DataW.trod enc P W 0 sp true n e (vals x) = some (dat x, [])

theorem rep_flat {G : Gh} {X : Type} {f : X → AV} {g : X → List Value} (h : ∀ x, RepL G (f x).cells (g x)) : ∀ xs : List X, RepL G (flat (xs.map f)) (xs.flatMap g)
  | [] => .nil
  | x :: xs => by
    rw [List.flatMap_cons]
    show RepL G ((f x).cells ++ flat (xs.map f)) _
    exact RepL.append (h x) (rep_flat h xs)

theorem rfL_flat {X : Type} {f : X → AV} (h : ∀ x, AV.rfL (f x).cells = true) : ∀ xs : List X, AV.rfL (flat (xs.map f)) = true
  | [] => rfl
  | x :: xs => by
    show AV.rfL ((f x).cells ++ flat (xs.map f)) = true
    rw [rfL_append, h x, rfL_flat h xs]; rfl

theorem leaf_flat {X : Type} {f : X → AV} (h : ∀ x, (f x).cells.all AV.leaf = true) : ∀ xs : List X, (flat (xs.map f)).all AV.leaf = true
  | [] => rfl
  | x :: xs => by
    show ((f x).cells ++ flat (xs.map f)).all AV.leaf = true
    rw [List.all_append, h x, leaf_flat h xs]; rfl

theorem add_block (a : Addr) (i : Nat) : (a.add i).block = a.block := by
  unfold Addr.add; split <;> rfl

theorem cells_below {W W' : World} {base : Nat} {a : Addr} {n : Nat} {cs : List Value} (h : W.cells? base a n = some cs) (hn : 0 < n) (hb : Below W.heap.size W W') : W'.cells? base a n = some cs := by
  have hlt := World.cells?_block h hn
  obtain ⟨h1, h2, h3⟩ := World.cells?_some h
  refine World.cells?_of_each h1 h2 fun i hi => ?_
  rw [← h3 i hi]
  unfold World.cell?
  rw [add_block, hb.block _ hlt]

/-- A slice that is an argument: what it is to the machine, and that it reads as before whatever new memory there is. -/
theorem open_row {t e : TypeId} {sz : Nat} {X : Type} [Inhabited X] (E : El enc P e sz X) {r : Reach} {b0 : Nat} {v : Value} {d : DataW H} {p : List MemPlace} (ht : P.underlying t = some (.slice e)) (hC : P.cellsOf e = sz)
    (hv : Value.okWide P W r b0 t v) (h : DataW.Trod enc P W 0 (fun _ => true) true t v d p) :
    ∃ (y : AV) (xs : List X), ((y = .nils ∧ xs = []) ∨ y = .list (xs.map E.av)) ∧ (∀ x ∈ xs, E.ok x) ∧ (∃ rest, (d = .nil ∧ xs = []) ∨ d = .slice (xs.map E.dat) rest) ∧ Rep (Gh.bare fun b o => sv W b o) y v ∧
      ∀ (W' : World) (sp : Nat → Bool), Below W.heap.size W W' → (∀ q ∈ p, sp q.block = true) → DataW.Trod enc P W' 0 sp true t v d p := by
  obtain ⟨a0, len0, cap0, rfl⟩ := okWide_slice ht hv
  obtain ⟨fuel, hf⟩ := h
  have hf : DataW.trod enc P W 0 (fun _ => true) true fuel t [.slice a0 len0 cap0] = some (d, p) := by simpa [Value.cells] using hf
  rcases open_slice ht hf with ⟨hc, hx⟩ | ⟨a, len, cap, m, n, D, Pl, hc, _, hl, hm, hmm, hx, hel⟩
  · simp only [List.cons.injEq, Value.slice.injEq, and_true] at hc
    obtain ⟨rfl, rfl, rfl⟩ := hc
    obtain ⟨rfl, rfl⟩ := Prod.mk.inj hx
    exact ⟨.nils, [], .inl ⟨rfl, rfl⟩, (by simp), ⟨[], .inl ⟨rfl, rfl⟩⟩, .nils, fun W' sp _ _ => ⟨1, by simp [DataW.trod, Value.cells, ht]⟩⟩
  · simp only [List.cons.injEq, Value.slice.injEq, and_true] at hc
    obtain ⟨rfl, rfl, rfl⟩ := hc
    simp only [if_true] at hmm
    subst hmm
    obtain ⟨hd, hp⟩ := Prod.mk.inj hx
    rw [hC] at hel
    have hall : ∀ i, i < m → ∃ x : X, E.ok x ∧ W.cells? 0 (a.add (i * sz)) sz = some (E.vals x) ∧ D i = E.dat x ∧ Pl i = [] := by
      intro i hi
      obtain ⟨cs', h1, h2⟩ := hel i hi
      obtain ⟨_, hln, _⟩ := World.cells?_some h1
      obtain ⟨x, k, rfl, hD, hP⟩ := E.opened hln h2
      exact ⟨x, k, h1, hD, hP⟩
    have hpl : (List.range m).flatMap Pl = [] := by
      rw [List.flatMap_eq_nil_iff]
      intro i hi
      obtain ⟨_, _, _, _, h⟩ := hall i (List.mem_range.1 hi)
      exact h
    obtain ⟨F, hF⟩ := choose_lt hall
    have cellAt : ∀ i k, i < m → k < sz → W.cell? (a.add (i * sz + k)) = (E.vals (F i))[k]? := by
      intro i k hi hk
      obtain ⟨_, _, h3⟩ := World.cells?_some (hF i hi).2.1
      rw [← h3 k hk, add_add]
    have hspot : 0 < m → a.spot = none := by
      intro h0
      have := cellAt 0 0 h0 E.pos
      rw [Nat.zero_mul, show a.add (0 + 0) = a from rfl, List.getElem?_eq_getElem (by rw [E.len]; exact E.pos)] at this
      unfold World.cell? at this
      split at this
      · split at this
        · cases this
        · rename_i h; simpa using h
      · cases this
    have hDF : ∀ i, i < m → D i = E.dat (F i) := fun i hi => (hF i hi).2.2.1
    refine ⟨.list (((List.range len0).map F).map E.av), (List.range len0).map F, .inr rfl, ?_, ⟨(List.range (m - len0)).map fun j => D (len0 + j), .inr ?_⟩, ?_, ?_⟩
    · intro x hx
      obtain ⟨i, hi, rfl⟩ := List.mem_map.1 hx
      exact (hF i (by have := List.mem_range.1 hi; omega)).1
    · rw [hd]
      congr 1
      rw [List.map_map]
      exact List.map_congr_left fun i hi => hDF i (by have := List.mem_range.1 hi; omega)
    · refine .list (rep_flat (E.rep _) _) ?_ (rfL_flat E.rfl' _) (leaf_flat E.leaf _) ?_ (by simp) hl (by omega) (sz := sz)
      · intro x hx
        obtain ⟨z, _, rfl⟩ := List.mem_map.1 hx
        exact E.cells z
      · intro j u hj
        rw [flatMap_get E.pos E.len] at hj
        by_cases hi : j / sz < len0
        · rw [List.getElem?_map, List.getElem?_range hi] at hj
          have hj : (E.vals (F (j / sz)))[j % sz]? = some u := hj
          have hk := cellAt (j / sz) (j % sz) (by omega) (Nat.mod_lt _ E.pos)
          rw [hj, Nat.div_add_mod'] at hk
          have hs := hspot (Nat.lt_of_lt_of_le (Nat.lt_of_le_of_lt (Nat.zero_le _) hi) hl)
          obtain ⟨b, o, s⟩ := a
          subst hs
          refine ⟨b, o, rfl, ?_⟩
          refine sv_cell ?_
          show W.cell? ⟨b, o + j, none⟩ = some u
          rw [← hk]
          unfold Addr.add
          split
          · rename_i h; rw [h]; rfl
          · rfl
        · rw [List.getElem?_eq_none (by simp; omega)] at hj
          cases hj
    · intro W' sp hb hsp
      have each : ∀ i, i < m → ∃ cs n, W'.cells? 0 (a.add (i * P.cellsOf e)) (P.cellsOf e) = some cs ∧ DataW.trod enc P W' 0 sp true n e cs = some (D i, Pl i) := by
        intro i hi
        obtain ⟨h1, h2, h3, h4⟩ := hF i hi
        obtain ⟨n, hn⟩ := E.shut W' sp (F i) h1
        rw [hC]
        exact ⟨_, n, cells_below h2 E.pos hb, by rw [hn, h3, h4]⟩
      rw [hd, hp]
      cases hs : sp a.block with
      | true => exact shut_slice_whole ht (Nat.zero_le _) hl hm hs D Pl each
      | false =>
        have hm0 : m = 0 := by
          rcases Nat.eq_zero_or_pos m with h | h
          · exact h
          · have hmem : MemPlace.cell a.block (a.off + 0) ∈ p := by
              rw [hp, hC]
              exact List.mem_append_left _ (List.mem_map.2 ⟨0, List.mem_range.2 (Nat.mul_pos h E.pos), rfl⟩)
            have := hsp _ hmem
            rw [show (MemPlace.cell a.block (a.off + 0)).block = a.block from rfl, hs] at this
            cases this
        subst hm0
        obtain rfl : len0 = 0 := by omega
        exact shut_slice ht (Nat.zero_le _) hl hm hs D Pl each

/-- A nil slice reads as an empty list. -/
theorem rep_list {X : Type} {f : X → AV} {G : Gh} {y : AV} {xs : List X} {v : Value} (hy : (y = .nils ∧ xs = []) ∨ y = .list (xs.map f)) (h : Rep G y v) : Rep G (.list (xs.map f)) v := by
  rcases hy with ⟨rfl, rfl⟩ | rfl
  · exact h.nn0
  · exact h

/-- Elements that are structs of two numbers. -/
def elTwo {e ti : TypeId} {f0 f1 : Field} (hs : P.underlying e = some (.struct #[f0, f1])) (hone : oneCellFields P #[f0, f1] = true) (hC : P.cellsOf e = 2)
    (hti : P.underlying ti = some (.int .i64)) (hf : f0.type = ti ∧ f1.type = ti) : El enc P e 2 (Int × Int) where
  av o := .agg [.int .i64 o.1, .int .i64 o.2]
  vals o := [.int .i64 o.1, .int .i64 o.2]
  dat o := .agg [.lit (.int .i64 o.1), .lit (.int .i64 o.2)]
  ok o := (Lit.int .i64 o.1).wf = true ∧ (Lit.int .i64 o.2).wf = true
  pos := by decide
  len _ := rfl
  cells _ := rfl
  rfl' _ := rfl
  leaf _ := rfl
  rep _ _ := .cons (.int _ _) (.cons (.int _ _) .nil)
  opened := by
    intro W n cs d pl hlen h
    obtain ⟨xs, n, _, hx, _, hl2, hg⟩ := DataW.trod_struct hs h
    obtain ⟨t0, t1⟩ := hf
    have ho := fun i f => hone_of hone i f
    match cs, hlen, xs, hl2 with
    | [c0, c1], _, [y0, y1], _ =>
      obtain ⟨o0, k0⟩ := ho 0 f0 rfl
      obtain ⟨o1, k1⟩ := ho 1 f1 rfl
      have h0 : DataW.trod enc P W 0 (fun _ => true) true n f0.type [c0] = some y0 := by simpa [o0, k0] using hg 0 f0 rfl
      have h1 : DataW.trod enc P W 0 (fun _ => true) true n f1.type [c1] = some y1 := by simpa [o1, k1] using hg 1 f1 rfl
      rw [t0] at h0
      rw [t1] at h1
      obtain ⟨a, e0, rfl, w0⟩ := DataW.trod_int hti h0
      obtain ⟨b, e1, rfl, w1⟩ := DataW.trod_int hti h1
      simp at e0 e1
      subst e0 e1
      simp only [Prod.mk.injEq] at hx
      exact ⟨(a, b), ⟨w0, w1⟩, rfl, by rw [hx.1]; rfl, by rw [hx.2]; rfl⟩
  shut := by
    intro W sp o ho
    have hint : ∀ n : Int, (Lit.int .i64 n).wf = true → DataW.trod enc P W 0 sp true 1 ti [.int .i64 n] = some (.lit (.int .i64 n), []) := fun n hn => by simp [DataW.trod, hti, hn]
    obtain ⟨t0, t1⟩ := hf
    have hoo := fun i f => hone_of hone i f
    obtain ⟨o0, k0⟩ := hoo 0 f0 rfl
    obtain ⟨o1, k1⟩ := hoo 1 f1 rfl
    have := trod_struct_mk (enc := enc) (w := W) (base := 0) (spare := sp) (held := true) (n := 1) (cs := [.int .i64 o.1, .int .i64 o.2])
      (xs := [(.lit (.int .i64 o.1), []), (.lit (.int .i64 o.2), [])]) hs (by rw [hC]; rfl)
      (by rw [t0] at k0; rw [t1] at k1
          simp [o0, o1, k0, t0, t1, hint _ ho.1, hint _ ho.2])
    exact ⟨_, by simpa using this⟩

end
end Go.Proofs.YtkjjfbknppahhaaGreatDoor.Br

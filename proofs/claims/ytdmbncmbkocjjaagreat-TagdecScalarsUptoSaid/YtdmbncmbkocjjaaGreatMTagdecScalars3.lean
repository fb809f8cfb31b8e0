/- Parts of the proof, in order. -/
import Derived.WalkKit
import Derived.Lib.SmallJoins
import Derived.Deep.Slices
import Derived.DataShut
import Derived.Test.YtdmbncmbkocjjaaGreatRows
import Derived.Test.YtdmbncmbkocjjaaGreatProg
import Derived.Test.YtdmbncmbkocjjaaGreatMTagdecScalars2

/- The code of functions of the program, as the abstract machine has it. -/
namespace Go.Proofs.YtdmbncmbkocjjaaGreat.Rc
open Go Am

/- wireschema/wireschemaref22.limits -/
def g28_0 : List Am.Item := [
    ⟨(some 1), .boxN 1 (.t 0), none⟩,
    ⟨(some 2), .val (.mov (.c (.bool false))), none⟩]
def g28_1 : List Am.Item := [
    ⟨(some 7), .val (.faddr 0 (.t 1)), none⟩,
    ⟨(some 8), .val (.load none (.t 7)), none⟩,
    ⟨(some 9), .val (.len 1 (.t 8)), none⟩,
    ⟨(some 10), .val (.bin .num .leq (.t 9) (.c (.int .i64 64))), none⟩,
    ⟨(some 11), .val (.mov (.t 10)), none⟩,
    ⟨(some 12), .val (.faddr 1 (.t 1)), (some (11, true))⟩,
    ⟨(some 13), .val (.load none (.t 12)), (some (11, true))⟩,
    ⟨(some 14), .val (.len 1 (.t 13)), (some (11, true))⟩,
    ⟨(some 15), .val (.bin .num .leq (.t 14) (.c (.int .i64 64))), (some (11, true))⟩,
    ⟨(some 16), .val (.pick (.t 11) (.t 15) (.c (.bool false))), none⟩,
    ⟨(some 3), .val (.mov (.t 16)), none⟩]
def g28_2 : List Am.Item := [
    ⟨(some 4), .val (.mov (.c (.int .i64 0))), none⟩]
def g28_3 : List Am.Item := [
    ⟨(some 17), .val (.mov (.t 4)), none⟩,
    ⟨(some 18), .val (.faddr 0 (.t 1)), none⟩,
    ⟨(some 19), .val (.load none (.t 18)), none⟩,
    ⟨(some 20), .val (.len 1 (.t 19)), none⟩,
    ⟨(some 21), .val (.bin .num .lss (.t 17) (.t 20)), none⟩]
def g28_5 : List Am.Item := [
    ⟨(some 24), .val (.mov (.t 3)), none⟩,
    ⟨(some 25), .val (.mov (.t 24)), none⟩,
    ⟨(some 26), .val (.faddr 0 (.t 1)), (some (25, true))⟩,
    ⟨(some 27), .val (.load none (.t 26)), (some (25, true))⟩,
    ⟨(some 28), .val (.mov (.t 4)), (some (25, true))⟩,
    ⟨(some 29), .val (.iaddr 3 none (.t 27) (.t 28)), (some (25, true))⟩,
    ⟨(some 30), .val (.faddr 1 (.t 29)), (some (25, true))⟩,
    ⟨(some 31), .val (.load none (.t 30)), (some (25, true))⟩,
    ⟨(some 32), .val (.len 1 (.t 31)), (some (25, true))⟩,
    ⟨(some 33), .val (.bin .num .leq (.t 32) (.c (.int .i64 64))), (some (25, true))⟩,
    ⟨(some 34), .val (.pick (.t 25) (.t 33) (.c (.bool false))), none⟩,
    ⟨(some 3), .val (.mov (.t 34)), none⟩]
def g28_4 : List Am.Item := [
    ⟨(some 22), .val (.mov (.t 4)), none⟩,
    ⟨(some 23), .val (.bin .num .add (.t 22) (.c (.int .i64 1))), none⟩,
    ⟨(some 4), .val (.mov (.t 23)), none⟩]
def l28_0 : RC := .seq (.seq (.reg g28_3) (.cond (.t 21) (.skip) (.exit 0))) (.seq (.block 1 (.reg g28_5)) (.reg g28_4))
def g28_6 : List Am.Item := [
    ⟨(some 5), .val (.mov (.c (.int .i64 0))), none⟩]
def g28_7 : List Am.Item := [
    ⟨(some 35), .val (.mov (.t 5)), none⟩,
    ⟨(some 36), .val (.faddr 1 (.t 1)), none⟩,
    ⟨(some 37), .val (.load none (.t 36)), none⟩,
    ⟨(some 38), .val (.len 1 (.t 37)), none⟩,
    ⟨(some 39), .val (.bin .num .lss (.t 35) (.t 38)), none⟩]
def g28_9 : List Am.Item := [
    ⟨(some 42), .val (.faddr 1 (.t 1)), none⟩,
    ⟨(some 43), .val (.load none (.t 42)), none⟩,
    ⟨(some 44), .val (.mov (.t 5)), none⟩,
    ⟨(some 45), .val (.iaddr 5 none (.t 43) (.t 44)), none⟩,
    ⟨(some 46), .val (.faddr 2 (.t 45)), none⟩,
    ⟨(some 47), .val (.load none (.t 46)), none⟩,
    ⟨(some 48), .val (.len 1 (.t 47)), none⟩,
    ⟨(some 6), .val (.mov (.t 48)), none⟩]
def g28_10 : List Am.Item := [
    ⟨(some 49), .val (.mov (.t 3)), none⟩,
    ⟨(some 50), .val (.mov (.t 49)), none⟩,
    ⟨(some 51), .val (.mov (.t 6)), (some (50, true))⟩,
    ⟨(some 52), .val (.bin .num .geq (.t 51) (.c (.int .i64 1))), (some (50, true))⟩,
    ⟨(some 53), .val (.pick (.t 50) (.t 52) (.c (.bool false))), none⟩,
    ⟨(some 54), .val (.mov (.t 53)), none⟩,
    ⟨(some 55), .val (.mov (.t 6)), (some (54, true))⟩,
    ⟨(some 56), .val (.bin .num .leq (.t 55) (.c (.int .i64 64))), (some (54, true))⟩,
    ⟨(some 57), .val (.pick (.t 54) (.t 56) (.c (.bool false))), none⟩,
    ⟨(some 58), .val (.mov (.t 57)), none⟩,
    ⟨(some 59), .val (.faddr 1 (.t 1)), (some (58, true))⟩,
    ⟨(some 60), .val (.load none (.t 59)), (some (58, true))⟩,
    ⟨(some 61), .val (.mov (.t 5)), (some (58, true))⟩,
    ⟨(some 62), .val (.iaddr 5 none (.t 60) (.t 61)), (some (58, true))⟩,
    ⟨(some 63), .val (.faddr 3 (.t 62)), (some (58, true))⟩,
    ⟨(some 64), .val (.load none (.t 63)), (some (58, true))⟩,
    ⟨(some 65), .val (.len 1 (.t 64)), (some (58, true))⟩,
    ⟨(some 66), .val (.bin .num .leq (.t 65) (.c (.int .i64 16))), (some (58, true))⟩,
    ⟨(some 67), .val (.pick (.t 58) (.t 66) (.c (.bool false))), none⟩,
    ⟨(some 3), .val (.mov (.t 67)), none⟩]
def g28_8 : List Am.Item := [
    ⟨(some 40), .val (.mov (.t 5)), none⟩,
    ⟨(some 41), .val (.bin .num .add (.t 40) (.c (.int .i64 1))), none⟩,
    ⟨(some 5), .val (.mov (.t 41)), none⟩]
def l28_1 : RC := .seq (.seq (.reg g28_7) (.cond (.t 39) (.skip) (.exit 2))) (.seq (.block 3 (.seq (.reg g28_9) (.reg g28_10))) (.reg g28_8))
def g28_11 : List Am.Item := [
    ⟨(some 68), .val (.mov (.t 3)), none⟩,
    ⟨(some 2), .val (.mov (.t 68)), none⟩]
def r28 : RC := .seq (.reg g28_0) (.seq (.reg g28_1) (.seq (.seq (.reg g28_2) (.block 0 (.loop l28_0))) (.seq (.seq (.reg g28_6) (.block 2 (.loop l28_1))) (.seq (.reg g28_11) (.ret)))))
def o28 : List RR := [.tmp 2]
theorem k28 : chkC Tryz.prog 69 r28 (Tryz.f28.body.getD .skip) = true := by decide +kernel
theorem q28 : chkR Tryz.prog Tryz.f28.results.toList o28 = true := by decide +kernel

/- wireschema/wireschemaref22.names -/
def g29_0 : List Am.Item := [
    ⟨(some 1), .boxN 1 (.t 0), none⟩,
    ⟨(some 2), .val (.mov (.c (.bool false))), none⟩]
def g29_1 : List Am.Item := [
    ⟨(some 3), .val (.mov (.c (.bool true))), none⟩]
def g29_2 : List Am.Item := [
    ⟨(some 4), .val (.mov (.c (.int .i64 0))), none⟩]
def g29_3 : List Am.Item := [
    ⟨(some 8), .val (.mov (.t 4)), none⟩,
    ⟨(some 9), .val (.faddr 0 (.t 1)), none⟩,
    ⟨(some 10), .val (.load none (.t 9)), none⟩,
    ⟨(some 11), .val (.len 1 (.t 10)), none⟩,
    ⟨(some 12), .val (.bin .num .lss (.t 8) (.t 11)), none⟩]
def g29_5 : List Am.Item := [
    ⟨(some 15), .val (.mov (.t 3)), none⟩,
    ⟨(some 16), .val (.mov (.t 15)), none⟩,
    ⟨(some 17), .val (.faddr 0 (.t 1)), (some (16, true))⟩,
    ⟨(some 18), .val (.load none (.t 17)), (some (16, true))⟩,
    ⟨(some 19), .val (.mov (.t 4)), (some (16, true))⟩,
    ⟨(some 20), .val (.iaddr 3 none (.t 18) (.t 19)), (some (16, true))⟩,
    ⟨(some 21), .val (.faddr 0 (.t 20)), (some (16, true))⟩,
    ⟨(some 22), .val (.load none (.t 21)), (some (16, true))⟩,
    ⟨(some 23), .callR (.f 52) [(.t 22)], (some (16, true))⟩,
    ⟨(some 24), .val (.pick (.t 16) (.t 23) (.c (.bool false))), none⟩,
    ⟨(some 3), .val (.mov (.t 24)), none⟩]
def g29_6 : List Am.Item := [
    ⟨(some 5), .val (.mov (.c (.int .i64 0))), none⟩]
def g29_7 : List Am.Item := [
    ⟨(some 25), .val (.mov (.t 5)), none⟩,
    ⟨(some 26), .val (.faddr 0 (.t 1)), none⟩,
    ⟨(some 27), .val (.load none (.t 26)), none⟩,
    ⟨(some 28), .val (.mov (.t 4)), none⟩,
    ⟨(some 29), .val (.iaddr 3 none (.t 27) (.t 28)), none⟩,
    ⟨(some 30), .val (.faddr 1 (.t 29)), none⟩,
    ⟨(some 31), .val (.load none (.t 30)), none⟩,
    ⟨(some 32), .val (.len 1 (.t 31)), none⟩,
    ⟨(some 33), .val (.bin .num .lss (.t 25) (.t 32)), none⟩]
def g29_9 : List Am.Item := [
    ⟨(some 36), .val (.mov (.t 3)), none⟩,
    ⟨(some 37), .val (.mov (.t 36)), none⟩,
    ⟨(some 38), .val (.faddr 0 (.t 1)), (some (37, true))⟩,
    ⟨(some 39), .val (.load none (.t 38)), (some (37, true))⟩,
    ⟨(some 40), .val (.mov (.t 4)), (some (37, true))⟩,
    ⟨(some 41), .val (.iaddr 3 none (.t 39) (.t 40)), (some (37, true))⟩,
    ⟨(some 42), .val (.faddr 1 (.t 41)), (some (37, true))⟩,
    ⟨(some 43), .val (.load none (.t 42)), (some (37, true))⟩,
    ⟨(some 44), .val (.mov (.t 5)), (some (37, true))⟩,
    ⟨(some 45), .val (.iaddr 8 none (.t 43) (.t 44)), (some (37, true))⟩,
    ⟨(some 46), .val (.faddr 1 (.t 45)), (some (37, true))⟩,
    ⟨(some 47), .val (.load none (.t 46)), (some (37, true))⟩,
    ⟨(some 48), .callR (.f 53) [(.t 47)], (some (37, true))⟩,
    ⟨(some 49), .val (.pick (.t 37) (.t 48) (.c (.bool false))), none⟩,
    ⟨(some 3), .val (.mov (.t 49)), none⟩]
def g29_8 : List Am.Item := [
    ⟨(some 34), .val (.mov (.t 5)), none⟩,
    ⟨(some 35), .val (.bin .num .add (.t 34) (.c (.int .i64 1))), none⟩,
    ⟨(some 5), .val (.mov (.t 35)), none⟩]
def l29_0 : RC := .seq (.seq (.reg g29_7) (.cond (.t 33) (.skip) (.exit 2))) (.seq (.block 3 (.reg g29_9)) (.reg g29_8))
def g29_4 : List Am.Item := [
    ⟨(some 13), .val (.mov (.t 4)), none⟩,
    ⟨(some 14), .val (.bin .num .add (.t 13) (.c (.int .i64 1))), none⟩,
    ⟨(some 4), .val (.mov (.t 14)), none⟩]
def l29_1 : RC := .seq (.seq (.reg g29_3) (.cond (.t 12) (.skip) (.exit 0))) (.seq (.block 1 (.seq (.reg g29_5) (.seq (.reg g29_6) (.block 2 (.loop l29_0))))) (.reg g29_4))
def g29_10 : List Am.Item := [
    ⟨(some 6), .val (.mov (.c (.int .i64 0))), none⟩]
def g29_11 : List Am.Item := [
    ⟨(some 50), .val (.mov (.t 6)), none⟩,
    ⟨(some 51), .val (.faddr 1 (.t 1)), none⟩,
    ⟨(some 52), .val (.load none (.t 51)), none⟩,
    ⟨(some 53), .val (.len 1 (.t 52)), none⟩,
    ⟨(some 54), .val (.bin .num .lss (.t 50) (.t 53)), none⟩]
def g29_13 : List Am.Item := [
    ⟨(some 57), .val (.mov (.t 3)), none⟩,
    ⟨(some 58), .val (.mov (.t 57)), none⟩,
    ⟨(some 59), .val (.faddr 1 (.t 1)), (some (58, true))⟩,
    ⟨(some 60), .val (.load none (.t 59)), (some (58, true))⟩,
    ⟨(some 61), .val (.mov (.t 6)), (some (58, true))⟩,
    ⟨(some 62), .val (.iaddr 5 none (.t 60) (.t 61)), (some (58, true))⟩,
    ⟨(some 63), .val (.faddr 0 (.t 62)), (some (58, true))⟩,
    ⟨(some 64), .val (.load none (.t 63)), (some (58, true))⟩,
    ⟨(some 65), .callR (.f 52) [(.t 64)], (some (58, true))⟩,
    ⟨(some 66), .val (.pick (.t 58) (.t 65) (.c (.bool false))), none⟩,
    ⟨(some 3), .val (.mov (.t 66)), none⟩]
def g29_14 : List Am.Item := [
    ⟨(some 7), .val (.mov (.c (.int .i64 0))), none⟩]
def g29_15 : List Am.Item := [
    ⟨(some 67), .val (.mov (.t 7)), none⟩,
    ⟨(some 68), .val (.faddr 1 (.t 1)), none⟩,
    ⟨(some 69), .val (.load none (.t 68)), none⟩,
    ⟨(some 70), .val (.mov (.t 6)), none⟩,
    ⟨(some 71), .val (.iaddr 5 none (.t 69) (.t 70)), none⟩,
    ⟨(some 72), .val (.faddr 2 (.t 71)), none⟩,
    ⟨(some 73), .val (.load none (.t 72)), none⟩,
    ⟨(some 74), .val (.len 1 (.t 73)), none⟩,
    ⟨(some 75), .val (.bin .num .lss (.t 67) (.t 74)), none⟩]
def g29_17 : List Am.Item := [
    ⟨(some 78), .val (.mov (.t 3)), none⟩,
    ⟨(some 79), .val (.mov (.t 78)), none⟩,
    ⟨(some 80), .val (.faddr 1 (.t 1)), (some (79, true))⟩,
    ⟨(some 81), .val (.load none (.t 80)), (some (79, true))⟩,
    ⟨(some 82), .val (.mov (.t 6)), (some (79, true))⟩,
    ⟨(some 83), .val (.iaddr 5 none (.t 81) (.t 82)), (some (79, true))⟩,
    ⟨(some 84), .val (.faddr 2 (.t 83)), (some (79, true))⟩,
    ⟨(some 85), .val (.load none (.t 84)), (some (79, true))⟩,
    ⟨(some 86), .val (.mov (.t 7)), (some (79, true))⟩,
    ⟨(some 87), .val (.iaddr 3 none (.t 85) (.t 86)), (some (79, true))⟩,
    ⟨(some 88), .val (.faddr 0 (.t 87)), (some (79, true))⟩,
    ⟨(some 89), .val (.load none (.t 88)), (some (79, true))⟩,
    ⟨(some 90), .callR (.f 53) [(.t 89)], (some (79, true))⟩,
    ⟨(some 91), .val (.pick (.t 79) (.t 90) (.c (.bool false))), none⟩,
    ⟨(some 3), .val (.mov (.t 91)), none⟩]
def g29_16 : List Am.Item := [
    ⟨(some 76), .val (.mov (.t 7)), none⟩,
    ⟨(some 77), .val (.bin .num .add (.t 76) (.c (.int .i64 1))), none⟩,
    ⟨(some 7), .val (.mov (.t 77)), none⟩]
def l29_2 : RC := .seq (.seq (.reg g29_15) (.cond (.t 75) (.skip) (.exit 6))) (.seq (.block 7 (.reg g29_17)) (.reg g29_16))
def g29_12 : List Am.Item := [
    ⟨(some 55), .val (.mov (.t 6)), none⟩,
    ⟨(some 56), .val (.bin .num .add (.t 55) (.c (.int .i64 1))), none⟩,
    ⟨(some 6), .val (.mov (.t 56)), none⟩]
def l29_3 : RC := .seq (.seq (.reg g29_11) (.cond (.t 54) (.skip) (.exit 4))) (.seq (.block 5 (.seq (.reg g29_13) (.seq (.reg g29_14) (.block 6 (.loop l29_2))))) (.reg g29_12))
def g29_18 : List Am.Item := [
    ⟨(some 92), .val (.mov (.t 3)), none⟩,
    ⟨(some 2), .val (.mov (.t 92)), none⟩]
def r29 : RC := .seq (.reg g29_0) (.seq (.reg g29_1) (.seq (.seq (.reg g29_2) (.block 0 (.loop l29_1))) (.seq (.seq (.reg g29_10) (.block 4 (.loop l29_3))) (.seq (.reg g29_18) (.ret)))))
def o29 : List RR := [.tmp 2]
theorem k29 : chkC Tryz.prog 93 r29 (Tryz.f29.body.getD .skip) = true := by decide +kernel
theorem q29 : chkR Tryz.prog Tryz.f29.results.toList o29 = true := by decide +kernel

/- wireschema/wireschemaref22.ordered -/
def g30_0 : List Am.Item := [
    ⟨(some 1), .boxN 1 (.t 0), none⟩,
    ⟨(some 2), .val (.mov (.c (.bool false))), none⟩]
def g30_1 : List Am.Item := [
    ⟨(some 3), .val (.mov (.c (.bool true))), none⟩]
def g30_2 : List Am.Item := [
    ⟨(some 4), .val (.mov (.c (.int .i64 0))), none⟩]
def g30_3 : List Am.Item := [
    ⟨(some 8), .val (.mov (.t 4)), none⟩,
    ⟨(some 9), .val (.faddr 0 (.t 1)), none⟩,
    ⟨(some 10), .val (.load none (.t 9)), none⟩,
    ⟨(some 11), .val (.len 1 (.t 10)), none⟩,
    ⟨(some 12), .val (.bin .num .lss (.t 8) (.t 11)), none⟩]
def g30_5 : List Am.Item := [
    ⟨(some 15), .val (.mov (.t 3)), none⟩,
    ⟨(some 16), .val (.mov (.t 15)), none⟩,
    ⟨(some 17), .val (.mov (.t 4)), (some (16, true))⟩,
    ⟨(some 18), .val (.bin .num .eql (.t 17) (.c (.int .i64 0))), (some (16, true))⟩,
    ⟨(some 19), .val (.mov (.t 18)), (some (16, true))⟩,
    ⟨(some 20), .val (.faddr 0 (.t 1)), (some (19, false))⟩,
    ⟨(some 21), .val (.loadv 0 1 none (.t 20)), (some (19, false))⟩,
    ⟨(some 22), .val (.mov (.t 4)), (some (19, false))⟩,
    ⟨(some 23), .val (.bin .num .sub (.t 22) (.c (.int .i64 1))), (some (19, false))⟩,
    ⟨(some 24), .val (.iaddr 3 none (.t 21) (.t 23)), (some (19, false))⟩,
    ⟨(some 25), .val (.faddr 0 (.t 24)), (some (19, false))⟩,
    ⟨(some 26), .val (.loadr none (.t 25)), (some (19, false))⟩,
    ⟨(some 27), .val (.faddr 0 (.t 1)), (some (19, false))⟩,
    ⟨(some 28), .val (.loadv 0 1 none (.t 27)), (some (19, false))⟩,
    ⟨(some 29), .val (.mov (.t 4)), (some (19, false))⟩,
    ⟨(some 30), .val (.iaddr 3 none (.t 28) (.t 29)), (some (19, false))⟩,
    ⟨(some 31), .val (.faddr 0 (.t 30)), (some (19, false))⟩,
    ⟨(some 32), .val (.loadr none (.t 31)), (some (19, false))⟩,
    ⟨(some 33), .val (.bin .str .lss (.t 26) (.t 32)), (some (19, false))⟩,
    ⟨(some 34), .val (.pick (.t 19) (.c (.bool true)) (.t 33)), (some (16, true))⟩,
    ⟨(some 35), .val (.pick (.t 16) (.t 34) (.c (.bool false))), none⟩,
    ⟨(some 3), .val (.mov (.t 35)), none⟩]
def g30_6 : List Am.Item := [
    ⟨(some 5), .val (.mov (.c (.int .i64 1))), none⟩]
def g30_7 : List Am.Item := [
    ⟨(some 36), .val (.mov (.t 5)), none⟩,
    ⟨(some 37), .val (.faddr 0 (.t 1)), none⟩,
    ⟨(some 38), .val (.load none (.t 37)), none⟩,
    ⟨(some 39), .val (.mov (.t 4)), none⟩,
    ⟨(some 40), .val (.iaddr 3 none (.t 38) (.t 39)), none⟩,
    ⟨(some 41), .val (.faddr 1 (.t 40)), none⟩,
    ⟨(some 42), .val (.load none (.t 41)), none⟩,
    ⟨(some 43), .val (.len 1 (.t 42)), none⟩,
    ⟨(some 44), .val (.bin .num .lss (.t 36) (.t 43)), none⟩]
def g30_9 : List Am.Item := [
    ⟨(some 47), .val (.mov (.t 3)), none⟩,
    ⟨(some 48), .val (.mov (.t 47)), none⟩,
    ⟨(some 49), .val (.faddr 0 (.t 1)), (some (48, true))⟩,
    ⟨(some 50), .val (.loadv 0 1 none (.t 49)), (some (48, true))⟩,
    ⟨(some 51), .val (.mov (.t 4)), (some (48, true))⟩,
    ⟨(some 52), .val (.iaddr 3 none (.t 50) (.t 51)), (some (48, true))⟩,
    ⟨(some 53), .val (.faddr 1 (.t 52)), (some (48, true))⟩,
    ⟨(some 54), .val (.loadr none (.t 53)), (some (48, true))⟩,
    ⟨(some 55), .val (.mov (.t 5)), (some (48, true))⟩,
    ⟨(some 56), .val (.bin .num .sub (.t 55) (.c (.int .i64 1))), (some (48, true))⟩,
    ⟨(some 57), .val (.iaddr 8 none (.t 54) (.t 56)), (some (48, true))⟩,
    ⟨(some 58), .val (.faddr 0 (.t 57)), (some (48, true))⟩,
    ⟨(some 59), .val (.loadr none (.t 58)), (some (48, true))⟩,
    ⟨(some 60), .val (.faddr 0 (.t 1)), (some (48, true))⟩,
    ⟨(some 61), .val (.loadv 0 1 none (.t 60)), (some (48, true))⟩,
    ⟨(some 62), .val (.mov (.t 4)), (some (48, true))⟩,
    ⟨(some 63), .val (.iaddr 3 none (.t 61) (.t 62)), (some (48, true))⟩,
    ⟨(some 64), .val (.faddr 1 (.t 63)), (some (48, true))⟩,
    ⟨(some 65), .val (.loadr none (.t 64)), (some (48, true))⟩,
    ⟨(some 66), .val (.mov (.t 5)), (some (48, true))⟩,
    ⟨(some 67), .val (.iaddr 8 none (.t 65) (.t 66)), (some (48, true))⟩,
    ⟨(some 68), .val (.faddr 0 (.t 67)), (some (48, true))⟩,
    ⟨(some 69), .val (.loadr none (.t 68)), (some (48, true))⟩,
    ⟨(some 70), .val (.bin .num .lss (.t 59) (.t 69)), (some (48, true))⟩,
    ⟨(some 71), .val (.pick (.t 48) (.t 70) (.c (.bool false))), none⟩,
    ⟨(some 3), .val (.mov (.t 71)), none⟩]
def g30_8 : List Am.Item := [
    ⟨(some 45), .val (.mov (.t 5)), none⟩,
    ⟨(some 46), .val (.bin .num .add (.t 45) (.c (.int .i64 1))), none⟩,
    ⟨(some 5), .val (.mov (.t 46)), none⟩]
def l30_0 : RC := .seq (.seq (.reg g30_7) (.cond (.t 44) (.skip) (.exit 2))) (.seq (.block 3 (.draw g30_9)) (.reg g30_8))
def g30_4 : List Am.Item := [
    ⟨(some 13), .val (.mov (.t 4)), none⟩,
    ⟨(some 14), .val (.bin .num .add (.t 13) (.c (.int .i64 1))), none⟩,
    ⟨(some 4), .val (.mov (.t 14)), none⟩]
def l30_1 : RC := .seq (.seq (.reg g30_3) (.cond (.t 12) (.skip) (.exit 0))) (.seq (.block 1 (.seq (.draw g30_5) (.seq (.reg g30_6) (.block 2 (.loop l30_0))))) (.reg g30_4))
def g30_10 : List Am.Item := [
    ⟨(some 6), .val (.mov (.c (.int .i64 0))), none⟩]
def g30_11 : List Am.Item := [
    ⟨(some 72), .val (.mov (.t 6)), none⟩,
    ⟨(some 73), .val (.faddr 1 (.t 1)), none⟩,
    ⟨(some 74), .val (.load none (.t 73)), none⟩,
    ⟨(some 75), .val (.len 1 (.t 74)), none⟩,
    ⟨(some 76), .val (.bin .num .lss (.t 72) (.t 75)), none⟩]
def g30_13 : List Am.Item := [
    ⟨(some 79), .val (.mov (.t 3)), none⟩,
    ⟨(some 80), .val (.mov (.t 79)), none⟩,
    ⟨(some 81), .val (.mov (.t 6)), (some (80, true))⟩,
    ⟨(some 82), .val (.bin .num .eql (.t 81) (.c (.int .i64 0))), (some (80, true))⟩,
    ⟨(some 83), .val (.mov (.t 82)), (some (80, true))⟩,
    ⟨(some 84), .val (.faddr 1 (.t 1)), (some (83, false))⟩,
    ⟨(some 85), .val (.loadv 0 1 none (.t 84)), (some (83, false))⟩,
    ⟨(some 86), .val (.mov (.t 6)), (some (83, false))⟩,
    ⟨(some 87), .val (.bin .num .sub (.t 86) (.c (.int .i64 1))), (some (83, false))⟩,
    ⟨(some 88), .val (.iaddr 5 none (.t 85) (.t 87)), (some (83, false))⟩,
    ⟨(some 89), .val (.faddr 0 (.t 88)), (some (83, false))⟩,
    ⟨(some 90), .val (.loadr none (.t 89)), (some (83, false))⟩,
    ⟨(some 91), .val (.faddr 1 (.t 1)), (some (83, false))⟩,
    ⟨(some 92), .val (.loadv 0 1 none (.t 91)), (some (83, false))⟩,
    ⟨(some 93), .val (.mov (.t 6)), (some (83, false))⟩,
    ⟨(some 94), .val (.iaddr 5 none (.t 92) (.t 93)), (some (83, false))⟩,
    ⟨(some 95), .val (.faddr 0 (.t 94)), (some (83, false))⟩,
    ⟨(some 96), .val (.loadr none (.t 95)), (some (83, false))⟩,
    ⟨(some 97), .val (.bin .str .lss (.t 90) (.t 96)), (some (83, false))⟩,
    ⟨(some 98), .val (.pick (.t 83) (.c (.bool true)) (.t 97)), (some (80, true))⟩,
    ⟨(some 99), .val (.pick (.t 80) (.t 98) (.c (.bool false))), none⟩,
    ⟨(some 3), .val (.mov (.t 99)), none⟩]
def g30_14 : List Am.Item := [
    ⟨(some 7), .val (.mov (.c (.int .i64 1))), none⟩]
def g30_15 : List Am.Item := [
    ⟨(some 100), .val (.mov (.t 7)), none⟩,
    ⟨(some 101), .val (.faddr 1 (.t 1)), none⟩,
    ⟨(some 102), .val (.load none (.t 101)), none⟩,
    ⟨(some 103), .val (.mov (.t 6)), none⟩,
    ⟨(some 104), .val (.iaddr 5 none (.t 102) (.t 103)), none⟩,
    ⟨(some 105), .val (.faddr 2 (.t 104)), none⟩,
    ⟨(some 106), .val (.load none (.t 105)), none⟩,
    ⟨(some 107), .val (.len 1 (.t 106)), none⟩,
    ⟨(some 108), .val (.bin .num .lss (.t 100) (.t 107)), none⟩]
def g30_17 : List Am.Item := [
    ⟨(some 111), .val (.mov (.t 3)), none⟩,
    ⟨(some 112), .val (.mov (.t 111)), none⟩,
    ⟨(some 113), .val (.faddr 1 (.t 1)), (some (112, true))⟩,
    ⟨(some 114), .val (.loadv 0 1 none (.t 113)), (some (112, true))⟩,
    ⟨(some 115), .val (.mov (.t 6)), (some (112, true))⟩,
    ⟨(some 116), .val (.iaddr 5 none (.t 114) (.t 115)), (some (112, true))⟩,
    ⟨(some 117), .val (.faddr 2 (.t 116)), (some (112, true))⟩,
    ⟨(some 118), .val (.loadr none (.t 117)), (some (112, true))⟩,
    ⟨(some 119), .val (.mov (.t 7)), (some (112, true))⟩,
    ⟨(some 120), .val (.bin .num .sub (.t 119) (.c (.int .i64 1))), (some (112, true))⟩,
    ⟨(some 121), .val (.iaddr 3 none (.t 118) (.t 120)), (some (112, true))⟩,
    ⟨(some 122), .val (.faddr 1 (.t 121)), (some (112, true))⟩,
    ⟨(some 123), .val (.loadr none (.t 122)), (some (112, true))⟩,
    ⟨(some 124), .val (.faddr 1 (.t 1)), (some (112, true))⟩,
    ⟨(some 125), .val (.loadv 0 1 none (.t 124)), (some (112, true))⟩,
    ⟨(some 126), .val (.mov (.t 6)), (some (112, true))⟩,
    ⟨(some 127), .val (.iaddr 5 none (.t 125) (.t 126)), (some (112, true))⟩,
    ⟨(some 128), .val (.faddr 2 (.t 127)), (some (112, true))⟩,
    ⟨(some 129), .val (.loadr none (.t 128)), (some (112, true))⟩,
    ⟨(some 130), .val (.mov (.t 7)), (some (112, true))⟩,
    ⟨(some 131), .val (.iaddr 3 none (.t 129) (.t 130)), (some (112, true))⟩,
    ⟨(some 132), .val (.faddr 1 (.t 131)), (some (112, true))⟩,
    ⟨(some 133), .val (.loadr none (.t 132)), (some (112, true))⟩,
    ⟨(some 134), .val (.bin .num .lss (.t 123) (.t 133)), (some (112, true))⟩,
    ⟨(some 135), .val (.pick (.t 112) (.t 134) (.c (.bool false))), none⟩,
    ⟨(some 3), .val (.mov (.t 135)), none⟩]
def g30_16 : List Am.Item := [
    ⟨(some 109), .val (.mov (.t 7)), none⟩,
    ⟨(some 110), .val (.bin .num .add (.t 109) (.c (.int .i64 1))), none⟩,
    ⟨(some 7), .val (.mov (.t 110)), none⟩]
def l30_2 : RC := .seq (.seq (.reg g30_15) (.cond (.t 108) (.skip) (.exit 6))) (.seq (.block 7 (.draw g30_17)) (.reg g30_16))
def g30_12 : List Am.Item := [
    ⟨(some 77), .val (.mov (.t 6)), none⟩,
    ⟨(some 78), .val (.bin .num .add (.t 77) (.c (.int .i64 1))), none⟩,
    ⟨(some 6), .val (.mov (.t 78)), none⟩]
def l30_3 : RC := .seq (.seq (.reg g30_11) (.cond (.t 76) (.skip) (.exit 4))) (.seq (.block 5 (.seq (.draw g30_13) (.seq (.reg g30_14) (.block 6 (.loop l30_2))))) (.reg g30_12))
def g30_18 : List Am.Item := [
    ⟨(some 136), .val (.mov (.t 3)), none⟩,
    ⟨(some 2), .val (.mov (.t 136)), none⟩]
def r30 : RC := .seq (.reg g30_0) (.seq (.reg g30_1) (.seq (.seq (.reg g30_2) (.block 0 (.loop l30_1))) (.seq (.seq (.reg g30_10) (.block 4 (.loop l30_3))) (.seq (.reg g30_18) (.ret)))))
def o30 : List RR := [.tmp 2]
theorem k30 : chkC Tryz.prog 137 r30 (Tryz.f30.body.getD .skip) = true := by decide +kernel
theorem q30 : chkR Tryz.prog Tryz.f30.results.toList o30 = true := by decide +kernel

/- wireschema/wireschemaref22.single -/
def g31_0 : List Am.Item := [
    ⟨(some 1), .boxN 1 (.t 0), none⟩,
    ⟨(some 2), .val (.mov (.c (.bool false))), none⟩]
def g31_1 : List Am.Item := [
    ⟨(some 3), .val (.mov (.c (.bool true))), none⟩]
def g31_2 : List Am.Item := [
    ⟨(some 4), .val (.mov (.c (.int .i64 0))), none⟩]
def g31_3 : List Am.Item := [
    ⟨(some 13), .val (.mov (.t 4)), none⟩,
    ⟨(some 14), .val (.faddr 0 (.t 1)), none⟩,
    ⟨(some 15), .val (.load none (.t 14)), none⟩,
    ⟨(some 16), .val (.len 1 (.t 15)), none⟩,
    ⟨(some 17), .val (.bin .num .lss (.t 13) (.t 16)), none⟩]
def g31_5 : List Am.Item := [
    ⟨(some 5), .val (.mov (.c (.int .i64 0))), none⟩]
def g31_6 : List Am.Item := [
    ⟨(some 20), .val (.mov (.t 5)), none⟩,
    ⟨(some 21), .val (.faddr 1 (.t 1)), none⟩,
    ⟨(some 22), .val (.load none (.t 21)), none⟩,
    ⟨(some 23), .val (.len 1 (.t 22)), none⟩,
    ⟨(some 24), .val (.bin .num .lss (.t 20) (.t 23)), none⟩]
def g31_8 : List Am.Item := [
    ⟨(some 27), .val (.mov (.t 3)), none⟩,
    ⟨(some 28), .val (.mov (.t 27)), none⟩,
    ⟨(some 29), .val (.faddr 0 (.t 1)), (some (28, true))⟩,
    ⟨(some 30), .val (.loadv 0 1 none (.t 29)), (some (28, true))⟩,
    ⟨(some 31), .val (.mov (.t 4)), (some (28, true))⟩,
    ⟨(some 32), .val (.iaddr 3 none (.t 30) (.t 31)), (some (28, true))⟩,
    ⟨(some 33), .val (.faddr 0 (.t 32)), (some (28, true))⟩,
    ⟨(some 34), .val (.loadr none (.t 33)), (some (28, true))⟩,
    ⟨(some 35), .val (.faddr 1 (.t 1)), (some (28, true))⟩,
    ⟨(some 36), .val (.loadv 0 1 none (.t 35)), (some (28, true))⟩,
    ⟨(some 37), .val (.mov (.t 5)), (some (28, true))⟩,
    ⟨(some 38), .val (.iaddr 5 none (.t 36) (.t 37)), (some (28, true))⟩,
    ⟨(some 39), .val (.faddr 0 (.t 38)), (some (28, true))⟩,
    ⟨(some 40), .val (.loadr none (.t 39)), (some (28, true))⟩,
    ⟨(some 41), .val (.bin .str .neq (.t 34) (.t 40)), (some (28, true))⟩,
    ⟨(some 42), .val (.pick (.t 28) (.t 41) (.c (.bool false))), none⟩,
    ⟨(some 3), .val (.mov (.t 42)), none⟩]
def g31_7 : List Am.Item := [
    ⟨(some 25), .val (.mov (.t 5)), none⟩,
    ⟨(some 26), .val (.bin .num .add (.t 25) (.c (.int .i64 1))), none⟩,
    ⟨(some 5), .val (.mov (.t 26)), none⟩]
def l31_0 : RC := .seq (.seq (.reg g31_6) (.cond (.t 24) (.skip) (.exit 2))) (.seq (.block 3 (.draw g31_8)) (.reg g31_7))
def g31_9 : List Am.Item := [
    ⟨(some 43), .val (.faddr 0 (.t 1)), none⟩,
    ⟨(some 44), .val (.load none (.t 43)), none⟩,
    ⟨(some 45), .val (.mov (.t 4)), none⟩,
    ⟨(some 46), .val (.iaddr 3 none (.t 44) (.t 45)), none⟩,
    ⟨(some 47), .val (.faddr 1 (.t 46)), none⟩,
    ⟨(some 48), .val (.load none (.t 47)), none⟩,
    ⟨(some 6), .val (.mov (.t 48)), none⟩]
def g31_10 : List Am.Item := [
    ⟨(some 7), .val (.mov (.c (.int .i64 0))), none⟩]
def g31_11 : List Am.Item := [
    ⟨(some 49), .val (.mov (.t 7)), none⟩,
    ⟨(some 50), .val (.mov (.t 6)), none⟩,
    ⟨(some 51), .val (.len 1 (.t 50)), none⟩,
    ⟨(some 52), .val (.bin .num .lss (.t 49) (.t 51)), none⟩]
def g31_13 : List Am.Item := [
    ⟨(some 8), .val (.mov (.c (.int .i64 0))), none⟩]
def g31_14 : List Am.Item := [
    ⟨(some 55), .val (.mov (.t 8)), none⟩,
    ⟨(some 56), .val (.mov (.t 7)), none⟩,
    ⟨(some 57), .val (.bin .num .lss (.t 55) (.t 56)), none⟩]
def g31_16 : List Am.Item := [
    ⟨(some 60), .val (.mov (.t 3)), none⟩,
    ⟨(some 61), .val (.mov (.t 60)), none⟩,
    ⟨(some 62), .val (.mov (.t 6)), (some (61, true))⟩,
    ⟨(some 63), .val (.mov (.t 8)), (some (61, true))⟩,
    ⟨(some 64), .val (.iaddr 8 none (.t 62) (.t 63)), (some (61, true))⟩,
    ⟨(some 65), .val (.faddr 1 (.t 64)), (some (61, true))⟩,
    ⟨(some 66), .val (.loadr none (.t 65)), (some (61, true))⟩,
    ⟨(some 67), .val (.mov (.t 6)), (some (61, true))⟩,
    ⟨(some 68), .val (.mov (.t 7)), (some (61, true))⟩,
    ⟨(some 69), .val (.iaddr 8 none (.t 67) (.t 68)), (some (61, true))⟩,
    ⟨(some 70), .val (.faddr 1 (.t 69)), (some (61, true))⟩,
    ⟨(some 71), .val (.loadr none (.t 70)), (some (61, true))⟩,
    ⟨(some 72), .val (.bin .str .neq (.t 66) (.t 71)), (some (61, true))⟩,
    ⟨(some 73), .val (.pick (.t 61) (.t 72) (.c (.bool false))), none⟩,
    ⟨(some 3), .val (.mov (.t 73)), none⟩]
def g31_15 : List Am.Item := [
    ⟨(some 58), .val (.mov (.t 8)), none⟩,
    ⟨(some 59), .val (.bin .num .add (.t 58) (.c (.int .i64 1))), none⟩,
    ⟨(some 8), .val (.mov (.t 59)), none⟩]
def l31_1 : RC := .seq (.seq (.reg g31_14) (.cond (.t 57) (.skip) (.exit 6))) (.seq (.block 7 (.draw g31_16)) (.reg g31_15))
def g31_12 : List Am.Item := [
    ⟨(some 53), .val (.mov (.t 7)), none⟩,
    ⟨(some 54), .val (.bin .num .add (.t 53) (.c (.int .i64 1))), none⟩,
    ⟨(some 7), .val (.mov (.t 54)), none⟩]
def l31_2 : RC := .seq (.seq (.reg g31_11) (.cond (.t 52) (.skip) (.exit 4))) (.seq (.block 5 (.seq (.reg g31_13) (.block 6 (.loop l31_1)))) (.reg g31_12))
def g31_4 : List Am.Item := [
    ⟨(some 18), .val (.mov (.t 4)), none⟩,
    ⟨(some 19), .val (.bin .num .add (.t 18) (.c (.int .i64 1))), none⟩,
    ⟨(some 4), .val (.mov (.t 19)), none⟩]
def l31_3 : RC := .seq (.seq (.reg g31_3) (.cond (.t 17) (.skip) (.exit 0))) (.seq (.block 1 (.seq (.seq (.reg g31_5) (.block 2 (.loop l31_0))) (.seq (.reg g31_9) (.seq (.reg g31_10) (.block 4 (.loop l31_2)))))) (.reg g31_4))
def g31_17 : List Am.Item := [
    ⟨(some 9), .val (.mov (.c (.int .i64 0))), none⟩]
def g31_18 : List Am.Item := [
    ⟨(some 74), .val (.mov (.t 9)), none⟩,
    ⟨(some 75), .val (.faddr 1 (.t 1)), none⟩,
    ⟨(some 76), .val (.load none (.t 75)), none⟩,
    ⟨(some 77), .val (.len 1 (.t 76)), none⟩,
    ⟨(some 78), .val (.bin .num .lss (.t 74) (.t 77)), none⟩]
def g31_20 : List Am.Item := [
    ⟨(some 81), .val (.faddr 1 (.t 1)), none⟩,
    ⟨(some 82), .val (.load none (.t 81)), none⟩,
    ⟨(some 83), .val (.mov (.t 9)), none⟩,
    ⟨(some 84), .val (.iaddr 5 none (.t 82) (.t 83)), none⟩,
    ⟨(some 85), .val (.faddr 2 (.t 84)), none⟩,
    ⟨(some 86), .val (.load none (.t 85)), none⟩,
    ⟨(some 10), .val (.mov (.t 86)), none⟩]
def g31_21 : List Am.Item := [
    ⟨(some 11), .val (.mov (.c (.int .i64 0))), none⟩]
def g31_22 : List Am.Item := [
    ⟨(some 87), .val (.mov (.t 11)), none⟩,
    ⟨(some 88), .val (.mov (.t 10)), none⟩,
    ⟨(some 89), .val (.len 1 (.t 88)), none⟩,
    ⟨(some 90), .val (.bin .num .lss (.t 87) (.t 89)), none⟩]
def g31_24 : List Am.Item := [
    ⟨(some 12), .val (.mov (.c (.int .i64 0))), none⟩]
def g31_25 : List Am.Item := [
    ⟨(some 93), .val (.mov (.t 12)), none⟩,
    ⟨(some 94), .val (.mov (.t 11)), none⟩,
    ⟨(some 95), .val (.bin .num .lss (.t 93) (.t 94)), none⟩]
def g31_27 : List Am.Item := [
    ⟨(some 98), .val (.mov (.t 3)), none⟩,
    ⟨(some 99), .val (.mov (.t 98)), none⟩,
    ⟨(some 100), .val (.mov (.t 10)), (some (99, true))⟩,
    ⟨(some 101), .val (.mov (.t 12)), (some (99, true))⟩,
    ⟨(some 102), .val (.iaddr 3 none (.t 100) (.t 101)), (some (99, true))⟩,
    ⟨(some 103), .val (.faddr 0 (.t 102)), (some (99, true))⟩,
    ⟨(some 104), .val (.loadr none (.t 103)), (some (99, true))⟩,
    ⟨(some 105), .val (.mov (.t 10)), (some (99, true))⟩,
    ⟨(some 106), .val (.mov (.t 11)), (some (99, true))⟩,
    ⟨(some 107), .val (.iaddr 3 none (.t 105) (.t 106)), (some (99, true))⟩,
    ⟨(some 108), .val (.faddr 0 (.t 107)), (some (99, true))⟩,
    ⟨(some 109), .val (.loadr none (.t 108)), (some (99, true))⟩,
    ⟨(some 110), .val (.bin .str .neq (.t 104) (.t 109)), (some (99, true))⟩,
    ⟨(some 111), .val (.pick (.t 99) (.t 110) (.c (.bool false))), none⟩,
    ⟨(some 3), .val (.mov (.t 111)), none⟩]
def g31_26 : List Am.Item := [
    ⟨(some 96), .val (.mov (.t 12)), none⟩,
    ⟨(some 97), .val (.bin .num .add (.t 96) (.c (.int .i64 1))), none⟩,
    ⟨(some 12), .val (.mov (.t 97)), none⟩]
def l31_4 : RC := .seq (.seq (.reg g31_25) (.cond (.t 95) (.skip) (.exit 12))) (.seq (.block 13 (.draw g31_27)) (.reg g31_26))
def g31_23 : List Am.Item := [
    ⟨(some 91), .val (.mov (.t 11)), none⟩,
    ⟨(some 92), .val (.bin .num .add (.t 91) (.c (.int .i64 1))), none⟩,
    ⟨(some 11), .val (.mov (.t 92)), none⟩]
def l31_5 : RC := .seq (.seq (.reg g31_22) (.cond (.t 90) (.skip) (.exit 10))) (.seq (.block 11 (.seq (.reg g31_24) (.block 12 (.loop l31_4)))) (.reg g31_23))
def g31_19 : List Am.Item := [
    ⟨(some 79), .val (.mov (.t 9)), none⟩,
    ⟨(some 80), .val (.bin .num .add (.t 79) (.c (.int .i64 1))), none⟩,
    ⟨(some 9), .val (.mov (.t 80)), none⟩]
def l31_6 : RC := .seq (.seq (.reg g31_18) (.cond (.t 78) (.skip) (.exit 8))) (.seq (.block 9 (.seq (.reg g31_20) (.seq (.reg g31_21) (.block 10 (.loop l31_5))))) (.reg g31_19))
def g31_28 : List Am.Item := [
    ⟨(some 112), .val (.mov (.t 3)), none⟩,
    ⟨(some 2), .val (.mov (.t 112)), none⟩]
def r31 : RC := .seq (.reg g31_0) (.seq (.reg g31_1) (.seq (.seq (.reg g31_2) (.block 0 (.loop l31_3))) (.seq (.seq (.reg g31_17) (.block 8 (.loop l31_6))) (.seq (.reg g31_28) (.ret)))))
def o31 : List RR := [.tmp 2]
theorem k31 : chkC Tryz.prog 113 r31 (Tryz.f31.body.getD .skip) = true := by decide +kernel
theorem q31 : chkR Tryz.prog Tryz.f31.results.toList o31 = true := by decide +kernel

/- wireschema/wireschemaref22.ranges -/
def g32_0 : List Am.Item := [
    ⟨(some 1), .boxN 1 (.t 0), none⟩,
    ⟨(some 2), .val (.mov (.c (.bool false))), none⟩]
def g32_1 : List Am.Item := [
    ⟨(some 3), .val (.mov (.c (.bool true))), none⟩]
def g32_2 : List Am.Item := [
    ⟨(some 4), .val (.mov (.c (.int .i64 0))), none⟩]
def g32_3 : List Am.Item := [
    ⟨(some 13), .val (.mov (.t 4)), none⟩,
    ⟨(some 14), .val (.faddr 0 (.t 1)), none⟩,
    ⟨(some 15), .val (.load none (.t 14)), none⟩,
    ⟨(some 16), .val (.len 1 (.t 15)), none⟩,
    ⟨(some 17), .val (.bin .num .lss (.t 13) (.t 16)), none⟩]
def g32_5 : List Am.Item := [
    ⟨(some 5), .val (.mov (.c (.int .i64 0))), none⟩]
def g32_6 : List Am.Item := [
    ⟨(some 20), .val (.mov (.t 5)), none⟩,
    ⟨(some 21), .val (.faddr 0 (.t 1)), none⟩,
    ⟨(some 22), .val (.load none (.t 21)), none⟩,
    ⟨(some 23), .val (.mov (.t 4)), none⟩,
    ⟨(some 24), .val (.iaddr 3 none (.t 22) (.t 23)), none⟩,
    ⟨(some 25), .val (.faddr 1 (.t 24)), none⟩,
    ⟨(some 26), .val (.load none (.t 25)), none⟩,
    ⟨(some 27), .val (.len 1 (.t 26)), none⟩,
    ⟨(some 28), .val (.bin .num .lss (.t 20) (.t 27)), none⟩]
def g32_8 : List Am.Item := [
    ⟨(some 31), .val (.faddr 0 (.t 1)), none⟩,
    ⟨(some 32), .val (.load none (.t 31)), none⟩,
    ⟨(some 33), .val (.mov (.t 4)), none⟩,
    ⟨(some 34), .val (.iaddr 3 none (.t 32) (.t 33)), none⟩,
    ⟨(some 35), .val (.faddr 1 (.t 34)), none⟩,
    ⟨(some 36), .val (.load none (.t 35)), none⟩,
    ⟨(some 37), .val (.mov (.t 5)), none⟩,
    ⟨(some 38), .val (.iaddr 8 none (.t 36) (.t 37)), none⟩,
    ⟨(some 39), .val (.faddr 0 (.t 38)), none⟩,
    ⟨(some 40), .val (.load none (.t 39)), none⟩,
    ⟨(some 6), .val (.mov (.t 40)), none⟩]
def g32_9 : List Am.Item := [
    ⟨(some 41), .val (.mov (.t 3)), none⟩,
    ⟨(some 42), .val (.mov (.t 41)), none⟩,
    ⟨(some 43), .val (.mov (.t 6)), (some (42, true))⟩,
    ⟨(some 44), .val (.bin .num .geq (.t 43) (.c (.int .i64 1))), (some (42, true))⟩,
    ⟨(some 45), .val (.pick (.t 42) (.t 44) (.c (.bool false))), none⟩,
    ⟨(some 46), .val (.mov (.t 45)), none⟩,
    ⟨(some 47), .val (.mov (.t 6)), (some (46, true))⟩,
    ⟨(some 48), .val (.bin .num .leq (.t 47) (.c (.int .i64 65535))), (some (46, true))⟩,
    ⟨(some 49), .val (.pick (.t 46) (.t 48) (.c (.bool false))), none⟩,
    ⟨(some 3), .val (.mov (.t 49)), none⟩]
def g32_7 : List Am.Item := [
    ⟨(some 29), .val (.mov (.t 5)), none⟩,
    ⟨(some 30), .val (.bin .num .add (.t 29) (.c (.int .i64 1))), none⟩,
    ⟨(some 5), .val (.mov (.t 30)), none⟩]
def l32_0 : RC := .seq (.seq (.reg g32_6) (.cond (.t 28) (.skip) (.exit 2))) (.seq (.block 3 (.seq (.reg g32_8) (.reg g32_9))) (.reg g32_7))
def g32_4 : List Am.Item := [
    ⟨(some 18), .val (.mov (.t 4)), none⟩,
    ⟨(some 19), .val (.bin .num .add (.t 18) (.c (.int .i64 1))), none⟩,
    ⟨(some 4), .val (.mov (.t 19)), none⟩]
def l32_1 : RC := .seq (.seq (.reg g32_3) (.cond (.t 17) (.skip) (.exit 0))) (.seq (.block 1 (.seq (.reg g32_5) (.block 2 (.loop l32_0)))) (.reg g32_4))
def g32_10 : List Am.Item := [
    ⟨(some 7), .val (.mov (.c (.int .i64 0))), none⟩]
def g32_11 : List Am.Item := [
    ⟨(some 50), .val (.mov (.t 7)), none⟩,
    ⟨(some 51), .val (.faddr 1 (.t 1)), none⟩,
    ⟨(some 52), .val (.load none (.t 51)), none⟩,
    ⟨(some 53), .val (.len 1 (.t 52)), none⟩,
    ⟨(some 54), .val (.bin .num .lss (.t 50) (.t 53)), none⟩]
def g32_13 : List Am.Item := [
    ⟨(some 57), .val (.faddr 1 (.t 1)), none⟩,
    ⟨(some 58), .val (.load none (.t 57)), none⟩,
    ⟨(some 59), .val (.mov (.t 7)), none⟩,
    ⟨(some 60), .val (.iaddr 5 none (.t 58) (.t 59)), none⟩,
    ⟨(some 61), .val (.load (some 5) (.t 60)), none⟩,
    ⟨(some 8), .allocN 8 [.str [], .bool false, .nils, .nils, .nils], none⟩,
    ⟨none, .store 5 (.t 8) (.t 61), none⟩]
def g32_14 : List Am.Item := [
    ⟨(some 9), .val (.mov (.c (.int .i64 0))), none⟩]
def g32_15 : List Am.Item := [
    ⟨(some 62), .val (.mov (.t 9)), none⟩,
    ⟨(some 63), .val (.faddr 2 (.t 8)), none⟩,
    ⟨(some 64), .val (.load none (.t 63)), none⟩,
    ⟨(some 65), .val (.len 1 (.t 64)), none⟩,
    ⟨(some 66), .val (.bin .num .lss (.t 62) (.t 65)), none⟩]
def g32_17 : List Am.Item := [
    ⟨(some 69), .val (.faddr 2 (.t 8)), none⟩,
    ⟨(some 70), .val (.load none (.t 69)), none⟩,
    ⟨(some 71), .val (.mov (.t 9)), none⟩,
    ⟨(some 72), .val (.iaddr 3 none (.t 70) (.t 71)), none⟩,
    ⟨(some 73), .val (.faddr 1 (.t 72)), none⟩,
    ⟨(some 74), .val (.load none (.t 73)), none⟩,
    ⟨(some 10), .val (.mov (.t 74)), none⟩]
def g32_18 : List Am.Item := [
    ⟨(some 75), .val (.mov (.t 3)), none⟩,
    ⟨(some 76), .val (.mov (.t 75)), none⟩,
    ⟨(some 77), .val (.mov (.t 10)), (some (76, true))⟩,
    ⟨(some 78), .val (.bin .num .leq (.t 77) (.c (.int .i64 2147483647))), (some (76, true))⟩,
    ⟨(some 79), .val (.pick (.t 76) (.t 78) (.c (.bool false))), none⟩,
    ⟨(some 80), .val (.mov (.t 79)), none⟩,
    ⟨(some 81), .val (.mov (.t 9)), (some (80, true))⟩,
    ⟨(some 82), .val (.bin .num .gtr (.t 81) (.c (.int .i64 0))), (some (80, true))⟩,
    ⟨(some 83), .val (.mov (.t 82)), (some (80, true))⟩,
    ⟨(some 84), .val (.mov (.t 10)), (some (83, false))⟩,
    ⟨(some 85), .val (.bin .num .eql (.t 84) (.c (.int .i64 0))), (some (83, false))⟩,
    ⟨(some 86), .val (.pick (.t 83) (.c (.bool true)) (.t 85)), (some (80, true))⟩,
    ⟨(some 87), .val (.pick (.t 80) (.t 86) (.c (.bool false))), none⟩,
    ⟨(some 88), .val (.mov (.t 87)), none⟩,
    ⟨(some 89), .val (.faddr 3 (.t 8)), (some (88, true))⟩,
    ⟨(some 90), .val (.load none (.t 89)), (some (88, true))⟩,
    ⟨(some 91), .val (.mov (.t 10)), (some (88, true))⟩,
    ⟨(some 92), .callR (.f 54) [(.t 90), (.t 91)], (some (88, true))⟩,
    ⟨(some 93), .val (.un .not (.t 92)), (some (88, true))⟩,
    ⟨(some 94), .val (.pick (.t 88) (.t 93) (.c (.bool false))), none⟩,
    ⟨(some 3), .val (.mov (.t 94)), none⟩]
def g32_16 : List Am.Item := [
    ⟨(some 67), .val (.mov (.t 9)), none⟩,
    ⟨(some 68), .val (.bin .num .add (.t 67) (.c (.int .i64 1))), none⟩,
    ⟨(some 9), .val (.mov (.t 68)), none⟩]
def l32_2 : RC := .seq (.seq (.reg g32_15) (.cond (.t 66) (.skip) (.exit 6))) (.seq (.block 7 (.seq (.reg g32_17) (.reg g32_18))) (.reg g32_16))
def g32_19 : List Am.Item := [
    ⟨(some 11), .val (.mov (.c (.int .i64 0))), none⟩]
def g32_20 : List Am.Item := [
    ⟨(some 95), .val (.mov (.t 11)), none⟩,
    ⟨(some 96), .val (.faddr 3 (.t 8)), none⟩,
    ⟨(some 97), .val (.load none (.t 96)), none⟩,
    ⟨(some 98), .val (.len 1 (.t 97)), none⟩,
    ⟨(some 99), .val (.bin .num .lss (.t 95) (.t 98)), none⟩]
def g32_22 : List Am.Item := [
    ⟨(some 102), .val (.faddr 3 (.t 8)), none⟩,
    ⟨(some 103), .val (.load none (.t 102)), none⟩,
    ⟨(some 104), .val (.mov (.t 11)), none⟩,
    ⟨(some 105), .val (.iaddr 2 none (.t 103) (.t 104)), none⟩,
    ⟨(some 106), .val (.load (some 2) (.t 105)), none⟩,
    ⟨(some 12), .allocN 12 [.int .i64 0, .int .i64 0], none⟩,
    ⟨none, .store 2 (.t 12) (.t 106), none⟩]
def g32_23 : List Am.Item := [
    ⟨(some 107), .val (.mov (.t 3)), none⟩,
    ⟨(some 108), .val (.mov (.t 107)), none⟩,
    ⟨(some 109), .val (.faddr 0 (.t 12)), (some (108, true))⟩,
    ⟨(some 110), .val (.loadv 0 12 none (.t 109)), (some (108, true))⟩,
    ⟨(some 111), .val (.bin .num .geq (.t 110) (.c (.int .i64 0))), (some (108, true))⟩,
    ⟨(some 112), .val (.pick (.t 108) (.t 111) (.c (.bool false))), none⟩,
    ⟨(some 113), .val (.mov (.t 112)), none⟩,
    ⟨(some 114), .val (.faddr 1 (.t 12)), (some (113, true))⟩,
    ⟨(some 115), .val (.loadv 0 12 none (.t 114)), (some (113, true))⟩,
    ⟨(some 116), .val (.bin .num .leq (.t 115) (.c (.int .i64 2147483647))), (some (113, true))⟩,
    ⟨(some 117), .val (.pick (.t 113) (.t 116) (.c (.bool false))), none⟩,
    ⟨(some 118), .val (.mov (.t 117)), none⟩,
    ⟨(some 119), .val (.faddr 0 (.t 12)), (some (118, true))⟩,
    ⟨(some 120), .val (.loadv 0 12 none (.t 119)), (some (118, true))⟩,
    ⟨(some 121), .val (.faddr 1 (.t 12)), (some (118, true))⟩,
    ⟨(some 122), .val (.loadv 0 12 none (.t 121)), (some (118, true))⟩,
    ⟨(some 123), .val (.bin .num .leq (.t 120) (.t 122)), (some (118, true))⟩,
    ⟨(some 124), .val (.pick (.t 118) (.t 123) (.c (.bool false))), none⟩,
    ⟨(some 125), .val (.mov (.t 124)), none⟩,
    ⟨(some 126), .val (.mov (.t 11)), (some (125, true))⟩,
    ⟨(some 127), .val (.bin .num .eql (.t 126) (.c (.int .i64 0))), (some (125, true))⟩,
    ⟨(some 128), .val (.mov (.t 127)), (some (125, true))⟩,
    ⟨(some 129), .val (.faddr 0 (.t 12)), (some (128, false))⟩,
    ⟨(some 130), .val (.loadv 0 12 none (.t 129)), (some (128, false))⟩,
    ⟨(some 131), .val (.faddr 3 (.t 8)), (some (128, false))⟩,
    ⟨(some 132), .val (.loadv 0 8 none (.t 131)), (some (128, false))⟩,
    ⟨(some 133), .val (.mov (.t 11)), (some (128, false))⟩,
    ⟨(some 134), .val (.bin .num .sub (.t 133) (.c (.int .i64 1))), (some (128, false))⟩,
    ⟨(some 135), .val (.iaddr 2 none (.t 132) (.t 134)), (some (128, false))⟩,
    ⟨(some 136), .val (.faddr 1 (.t 135)), (some (128, false))⟩,
    ⟨(some 137), .val (.loadr none (.t 136)), (some (128, false))⟩,
    ⟨(some 138), .val (.bin .num .gtr (.t 130) (.t 137)), (some (128, false))⟩,
    ⟨(some 139), .val (.pick (.t 128) (.c (.bool true)) (.t 138)), (some (125, true))⟩,
    ⟨(some 140), .val (.pick (.t 125) (.t 139) (.c (.bool false))), none⟩,
    ⟨(some 3), .val (.mov (.t 140)), none⟩]
def g32_21 : List Am.Item := [
    ⟨(some 100), .val (.mov (.t 11)), none⟩,
    ⟨(some 101), .val (.bin .num .add (.t 100) (.c (.int .i64 1))), none⟩,
    ⟨(some 11), .val (.mov (.t 101)), none⟩]
def l32_3 : RC := .gho (.drop 12) (.seq (.seq (.reg g32_20) (.cond (.t 99) (.skip) (.exit 8))) (.seq (.block 9 (.seq (.reg g32_22) (.draw g32_23))) (.reg g32_21)))
def g32_12 : List Am.Item := [
    ⟨(some 55), .val (.mov (.t 7)), none⟩,
    ⟨(some 56), .val (.bin .num .add (.t 55) (.c (.int .i64 1))), none⟩,
    ⟨(some 7), .val (.mov (.t 56)), none⟩]
def l32_4 : RC := .gho (.drop 12) (.gho (.drop 8) (.seq (.seq (.reg g32_11) (.cond (.t 54) (.skip) (.exit 4))) (.seq (.block 5 (.seq (.reg g32_13) (.seq (.seq (.reg g32_14) (.block 6 (.loop l32_2))) (.seq (.reg g32_19) (.block 8 (.loop l32_3)))))) (.reg g32_12))))
def g32_24 : List Am.Item := [
    ⟨(some 141), .val (.mov (.t 3)), none⟩,
    ⟨(some 2), .val (.mov (.t 141)), none⟩]
def r32 : RC := .seq (.reg g32_0) (.seq (.reg g32_1) (.seq (.seq (.reg g32_2) (.block 0 (.loop l32_1))) (.seq (.seq (.reg g32_10) (.block 4 (.loop l32_4))) (.seq (.reg g32_24) (.ret)))))
def o32 : List RR := [.tmp 2]
theorem k32 : chkC Tryz.prog 142 r32 (Tryz.f32.body.getD .skip) = true := by decide +kernel
theorem q32 : chkR Tryz.prog Tryz.f32.results.toList o32 = true := by decide +kernel

/- wireschema/wireschemaref22.arguments -/
def g33_0 : List Am.Item := [
    ⟨(some 1), .boxN 1 (.t 0), none⟩,
    ⟨(some 2), .val (.mov (.c (.bool false))), none⟩]
def g33_1 : List Am.Item := [
    ⟨(some 3), .val (.mov (.c (.bool true))), none⟩]
def g33_2 : List Am.Item := [
    ⟨(some 4), .val (.mov (.c (.int .i64 0))), none⟩]
def g33_3 : List Am.Item := [
    ⟨(some 9), .val (.mov (.t 4)), none⟩,
    ⟨(some 10), .val (.faddr 1 (.t 1)), none⟩,
    ⟨(some 11), .val (.load none (.t 10)), none⟩,
    ⟨(some 12), .val (.len 1 (.t 11)), none⟩,
    ⟨(some 13), .val (.bin .num .lss (.t 9) (.t 12)), none⟩]
def g33_5 : List Am.Item := [
    ⟨(some 16), .val (.mov (.t 3)), none⟩,
    ⟨(some 17), .val (.mov (.t 16)), none⟩,
    ⟨(some 18), .val (.faddr 1 (.t 1)), (some (17, true))⟩,
    ⟨(some 19), .val (.load none (.t 18)), (some (17, true))⟩,
    ⟨(some 20), .val (.mov (.t 4)), (some (17, true))⟩,
    ⟨(some 21), .val (.iaddr 5 none (.t 19) (.t 20)), (some (17, true))⟩,
    ⟨(some 22), .val (.faddr 4 (.t 21)), (some (17, true))⟩,
    ⟨(some 23), .val (.load none (.t 22)), (some (17, true))⟩,
    ⟨(some 24), .val (.len 1 (.t 23)), (some (17, true))⟩,
    ⟨(some 25), .val (.bin .num .eql (.t 24) (.c (.int .i64 0))), (some (17, true))⟩,
    ⟨(some 26), .val (.pick (.t 17) (.t 25) (.c (.bool false))), none⟩,
    ⟨(some 3), .val (.mov (.t 26)), none⟩]
def g33_6 : List Am.Item := [
    ⟨(some 5), .val (.mov (.c (.int .i64 0))), none⟩]
def g33_7 : List Am.Item := [
    ⟨(some 27), .val (.mov (.t 5)), none⟩,
    ⟨(some 28), .val (.faddr 1 (.t 1)), none⟩,
    ⟨(some 29), .val (.load none (.t 28)), none⟩,
    ⟨(some 30), .val (.mov (.t 4)), none⟩,
    ⟨(some 31), .val (.iaddr 5 none (.t 29) (.t 30)), none⟩,
    ⟨(some 32), .val (.faddr 2 (.t 31)), none⟩,
    ⟨(some 33), .val (.load none (.t 32)), none⟩,
    ⟨(some 34), .val (.len 1 (.t 33)), none⟩,
    ⟨(some 35), .val (.bin .num .lss (.t 27) (.t 34)), none⟩]
def g33_9 : List Am.Item := [
    ⟨(some 38), .val (.faddr 1 (.t 1)), none⟩,
    ⟨(some 39), .val (.load none (.t 38)), none⟩,
    ⟨(some 40), .val (.mov (.t 4)), none⟩,
    ⟨(some 41), .val (.iaddr 5 none (.t 39) (.t 40)), none⟩,
    ⟨(some 42), .val (.faddr 2 (.t 41)), none⟩,
    ⟨(some 43), .val (.load none (.t 42)), none⟩,
    ⟨(some 44), .val (.mov (.t 5)), none⟩,
    ⟨(some 45), .val (.iaddr 3 none (.t 43) (.t 44)), none⟩,
    ⟨(some 46), .val (.faddr 2 (.t 45)), none⟩,
    ⟨(some 47), .val (.load none (.t 46)), none⟩,
    ⟨(some 6), .val (.mov (.t 47)), none⟩]
def g33_10 : List Am.Item := [
    ⟨(some 48), .val (.mov (.t 3)), none⟩,
    ⟨(some 49), .val (.mov (.t 48)), none⟩,
    ⟨(some 50), .val (.mov (.t 6)), (some (49, true))⟩,
    ⟨(some 51), .val (.len 1 (.t 50)), (some (49, true))⟩,
    ⟨(some 52), .val (.bin .num .eql (.t 51) (.c (.int .i64 0))), (some (49, true))⟩,
    ⟨(some 53), .val (.mov (.t 52)), (some (49, true))⟩,
    ⟨(some 54), .val (.mov (.t 6)), (some (53, false))⟩,
    ⟨(some 55), .val (.len 1 (.t 54)), (some (53, false))⟩,
    ⟨(some 56), .val (.bin .num .eql (.t 55) (.c (.int .i64 1))), (some (53, false))⟩,
    ⟨(some 57), .val (.mov (.t 56)), (some (53, false))⟩,
    ⟨(some 58), .val (.mov (.t 6)), (some (57, true))⟩,
    ⟨(some 59), .val (.iaddr 8 none (.t 58) (.c (.int .i64 0))), (some (57, true))⟩,
    ⟨(some 60), .val (.faddr 0 (.t 59)), (some (57, true))⟩,
    ⟨(some 61), .val (.load none (.t 60)), (some (57, true))⟩,
    ⟨(some 62), .val (.bin .str .eql (.t 61) (.c (.str [97, 108, 105, 97, 115]))), (some (57, true))⟩,
    ⟨(some 63), .val (.pick (.t 57) (.t 62) (.c (.bool false))), (some (53, false))⟩,
    ⟨(some 64), .val (.mov (.t 63)), (some (53, false))⟩,
    ⟨(some 65), .val (.mov (.t 6)), (some (64, true))⟩,
    ⟨(some 66), .callR (.f 55) [(.t 65), (.c (.int .i64 4))], (some (64, true))⟩,
    ⟨(some 67), .val (.bin .num .eql (.t 66) (.c (.int .i64 0))), (some (64, true))⟩,
    ⟨(some 68), .val (.pick (.t 64) (.t 67) (.c (.bool false))), (some (53, false))⟩,
    ⟨(some 69), .val (.pick (.t 53) (.c (.bool true)) (.t 68)), (some (49, true))⟩,
    ⟨(some 70), .val (.pick (.t 49) (.t 69) (.c (.bool false))), none⟩,
    ⟨(some 3), .val (.mov (.t 70)), none⟩]
def g33_8 : List Am.Item := [
    ⟨(some 36), .val (.mov (.t 5)), none⟩,
    ⟨(some 37), .val (.bin .num .add (.t 36) (.c (.int .i64 1))), none⟩,
    ⟨(some 5), .val (.mov (.t 37)), none⟩]
def l33_0 : RC := .seq (.seq (.reg g33_7) (.cond (.t 35) (.skip) (.exit 2))) (.seq (.block 3 (.seq (.reg g33_9) (.reg g33_10))) (.reg g33_8))
def g33_4 : List Am.Item := [
    ⟨(some 14), .val (.mov (.t 4)), none⟩,
    ⟨(some 15), .val (.bin .num .add (.t 14) (.c (.int .i64 1))), none⟩,
    ⟨(some 4), .val (.mov (.t 15)), none⟩]
def l33_1 : RC := .seq (.seq (.reg g33_3) (.cond (.t 13) (.skip) (.exit 0))) (.seq (.block 1 (.seq (.reg g33_5) (.seq (.reg g33_6) (.block 2 (.loop l33_0))))) (.reg g33_4))
def g33_11 : List Am.Item := [
    ⟨(some 7), .val (.mov (.c (.int .i64 0))), none⟩]
def g33_12 : List Am.Item := [
    ⟨(some 71), .val (.mov (.t 7)), none⟩,
    ⟨(some 72), .val (.faddr 0 (.t 1)), none⟩,
    ⟨(some 73), .val (.load none (.t 72)), none⟩,
    ⟨(some 74), .val (.len 1 (.t 73)), none⟩,
    ⟨(some 75), .val (.bin .num .lss (.t 71) (.t 74)), none⟩]
def g33_14 : List Am.Item := [
    ⟨(some 78), .val (.mov (.t 3)), none⟩,
    ⟨(some 79), .val (.mov (.t 78)), none⟩,
    ⟨(some 80), .val (.faddr 0 (.t 1)), (some (79, true))⟩,
    ⟨(some 81), .val (.load none (.t 80)), (some (79, true))⟩,
    ⟨(some 82), .val (.mov (.t 7)), (some (79, true))⟩,
    ⟨(some 83), .val (.iaddr 3 none (.t 81) (.t 82)), (some (79, true))⟩,
    ⟨(some 84), .val (.load (some 3) (.t 83)), (some (79, true))⟩,
    ⟨(some 85), .callR (.f 56) [(.t 84)], (some (79, true))⟩,
    ⟨(some 86), .val (.pick (.t 79) (.t 85) (.c (.bool false))), none⟩,
    ⟨(some 3), .val (.mov (.t 86)), none⟩]
def g33_15 : List Am.Item := [
    ⟨(some 8), .val (.mov (.c (.int .i64 0))), none⟩]
def g33_16 : List Am.Item := [
    ⟨(some 87), .val (.mov (.t 8)), none⟩,
    ⟨(some 88), .val (.faddr 0 (.t 1)), none⟩,
    ⟨(some 89), .val (.load none (.t 88)), none⟩,
    ⟨(some 90), .val (.mov (.t 7)), none⟩,
    ⟨(some 91), .val (.iaddr 3 none (.t 89) (.t 90)), none⟩,
    ⟨(some 92), .val (.faddr 1 (.t 91)), none⟩,
    ⟨(some 93), .val (.load none (.t 92)), none⟩,
    ⟨(some 94), .val (.len 1 (.t 93)), none⟩,
    ⟨(some 95), .val (.bin .num .lss (.t 87) (.t 94)), none⟩]
def g33_18 : List Am.Item := [
    ⟨(some 98), .val (.mov (.t 3)), none⟩,
    ⟨(some 99), .val (.mov (.t 98)), none⟩,
    ⟨(some 100), .val (.loadv 0 1 (some 2) (.t 1)), (some (99, true))⟩,
    ⟨(some 101), .val (.faddr 0 (.t 1)), (some (99, true))⟩,
    ⟨(some 102), .val (.loadv 0 1 none (.t 101)), (some (99, true))⟩,
    ⟨(some 103), .val (.mov (.t 7)), (some (99, true))⟩,
    ⟨(some 104), .val (.iaddr 3 none (.t 102) (.t 103)), (some (99, true))⟩,
    ⟨(some 105), .val (.faddr 1 (.t 104)), (some (99, true))⟩,
    ⟨(some 106), .val (.loadr none (.t 105)), (some (99, true))⟩,
    ⟨(some 107), .val (.mov (.t 8)), (some (99, true))⟩,
    ⟨(some 108), .val (.iaddr 8 none (.t 106) (.t 107)), (some (99, true))⟩,
    ⟨(some 109), .val (.loadr (some 8) (.t 108)), (some (99, true))⟩,
    ⟨(some 110), .callR (.f 57) [(.t 100), (.t 109)], (some (99, true))⟩,
    ⟨(some 111), .val (.pick (.t 99) (.t 110) (.c (.bool false))), none⟩,
    ⟨(some 3), .val (.mov (.t 111)), none⟩]
def g33_17 : List Am.Item := [
    ⟨(some 96), .val (.mov (.t 8)), none⟩,
    ⟨(some 97), .val (.bin .num .add (.t 96) (.c (.int .i64 1))), none⟩,
    ⟨(some 8), .val (.mov (.t 97)), none⟩]
def l33_2 : RC := .seq (.seq (.reg g33_16) (.cond (.t 95) (.skip) (.exit 6))) (.seq (.block 7 (.draw g33_18)) (.reg g33_17))
def g33_13 : List Am.Item := [
    ⟨(some 76), .val (.mov (.t 7)), none⟩,
    ⟨(some 77), .val (.bin .num .add (.t 76) (.c (.int .i64 1))), none⟩,
    ⟨(some 7), .val (.mov (.t 77)), none⟩]
def l33_3 : RC := .seq (.seq (.reg g33_12) (.cond (.t 75) (.skip) (.exit 4))) (.seq (.block 5 (.seq (.reg g33_14) (.seq (.reg g33_15) (.block 6 (.loop l33_2))))) (.reg g33_13))
def g33_19 : List Am.Item := [
    ⟨(some 112), .val (.mov (.t 3)), none⟩,
    ⟨(some 2), .val (.mov (.t 112)), none⟩]
def r33 : RC := .seq (.reg g33_0) (.seq (.reg g33_1) (.seq (.seq (.reg g33_2) (.block 0 (.loop l33_1))) (.seq (.seq (.reg g33_11) (.block 4 (.loop l33_3))) (.seq (.reg g33_19) (.ret)))))
def o33 : List RR := [.tmp 2]
theorem k33 : chkC Tryz.prog 113 r33 (Tryz.f33.body.getD .skip) = true := by decide +kernel
theorem q33 : chkR Tryz.prog Tryz.f33.results.toList o33 = true := by decide +kernel

/- wireschema/wireschemaref22.finite -/
def g34_0 : List Am.Item := [
    ⟨(some 1), .boxN 1 (.t 0), none⟩,
    ⟨(some 2), .val (.mov (.c (.bool false))), none⟩]
def g34_1 : List Am.Item := [
    ⟨(some 9), .val (.faddr 0 (.t 1)), none⟩,
    ⟨(some 10), .val (.load none (.t 9)), none⟩,
    ⟨(some 11), .val (.len 1 (.t 10)), none⟩,
    ⟨(some 12), .mk 12 4 1 1 [.bool false] (.t 11) (.t 11), none⟩,
    ⟨(some 3), .val (.mov (.t 12)), none⟩]
def g34_2 : List Am.Item := [
    ⟨(some 13), .val (.faddr 0 (.t 1)), none⟩,
    ⟨(some 14), .val (.load none (.t 13)), none⟩,
    ⟨(some 15), .val (.len 1 (.t 14)), none⟩,
    ⟨(some 16), .val (.bin .num .eql (.t 15) (.c (.int .i64 0))), none⟩,
    ⟨(some 4), .val (.mov (.t 16)), none⟩]
def g34_3 : List Am.Item := [
    ⟨(some 17), .val (.faddr 0 (.t 1)), none⟩,
    ⟨(some 18), .val (.load none (.t 17)), none⟩,
    ⟨(some 19), .val (.len 1 (.t 18)), none⟩,
    ⟨(some 20), .val (.mov (.c (.int .i64 0))), none⟩]
def g34_4 : List Am.Item := [
    ⟨(some 21), .val (.bin .num .lss (.t 20) (.t 19)), none⟩]
def g34_5 : List Am.Item := [
    ⟨(some 4), .val (.mov (.c (.bool true))), none⟩]
def g34_6 : List Am.Item := [
    ⟨(some 5), .val (.mov (.c (.int .i64 0))), none⟩]
def g34_7 : List Am.Item := [
    ⟨(some 22), .val (.mov (.t 5)), none⟩,
    ⟨(some 23), .val (.faddr 0 (.t 1)), none⟩,
    ⟨(some 24), .val (.load none (.t 23)), none⟩,
    ⟨(some 25), .val (.len 1 (.t 24)), none⟩,
    ⟨(some 26), .val (.bin .num .lss (.t 22) (.t 25)), none⟩]
def g34_9 : List Am.Item := [
    ⟨(some 6), .val (.mov (.c (.bool true))), none⟩]
def g34_10 : List Am.Item := [
    ⟨(some 7), .val (.mov (.c (.int .i64 0))), none⟩]
def g34_11 : List Am.Item := [
    ⟨(some 29), .val (.mov (.t 7)), none⟩,
    ⟨(some 30), .val (.faddr 0 (.t 1)), none⟩,
    ⟨(some 31), .val (.load none (.t 30)), none⟩,
    ⟨(some 32), .val (.mov (.t 5)), none⟩,
    ⟨(some 33), .val (.iaddr 3 none (.t 31) (.t 32)), none⟩,
    ⟨(some 34), .val (.faddr 1 (.t 33)), none⟩,
    ⟨(some 35), .val (.load none (.t 34)), none⟩,
    ⟨(some 36), .val (.len 1 (.t 35)), none⟩,
    ⟨(some 37), .val (.bin .num .lss (.t 29) (.t 36)), none⟩]
def g34_13 : List Am.Item := [
    ⟨(some 40), .val (.faddr 0 (.t 1)), none⟩,
    ⟨(some 41), .val (.load none (.t 40)), none⟩,
    ⟨(some 42), .val (.mov (.t 5)), none⟩,
    ⟨(some 43), .val (.iaddr 3 none (.t 41) (.t 42)), none⟩,
    ⟨(some 44), .val (.faddr 1 (.t 43)), none⟩,
    ⟨(some 45), .val (.load none (.t 44)), none⟩,
    ⟨(some 46), .val (.mov (.t 7)), none⟩,
    ⟨(some 47), .val (.iaddr 8 none (.t 45) (.t 46)), none⟩,
    ⟨(some 48), .val (.load (some 8) (.t 47)), none⟩,
    ⟨(some 8), .allocN 8 [.int .i64 0, .str [], .str [], .int .i64 0, .int .i64 0, .int .i64 0, .int .i64 0, .int .i64 0], none⟩,
    ⟨none, .store 8 (.t 8) (.t 48), none⟩]
def g34_14 : List Am.Item := [
    ⟨(some 49), .val (.mov (.t 6)), none⟩,
    ⟨(some 50), .val (.mov (.t 49)), none⟩,
    ⟨(some 51), .val (.faddr 3 (.t 8)), (some (50, true))⟩,
    ⟨(some 52), .val (.load none (.t 51)), (some (50, true))⟩,
    ⟨(some 53), .val (.bin .num .neq (.t 52) (.c (.int .i64 1))), (some (50, true))⟩,
    ⟨(some 54), .val (.mov (.t 53)), (some (50, true))⟩,
    ⟨(some 55), .val (.faddr 5 (.t 8)), (some (54, false))⟩,
    ⟨(some 56), .val (.load none (.t 55)), (some (54, false))⟩,
    ⟨(some 57), .val (.bin .num .neq (.t 56) (.c (.int .i64 10))), (some (54, false))⟩,
    ⟨(some 58), .val (.pick (.t 54) (.c (.bool true)) (.t 57)), (some (50, true))⟩,
    ⟨(some 59), .val (.mov (.t 58)), (some (50, true))⟩,
    ⟨(some 60), .val (.mov (.t 3)), (some (59, false))⟩,
    ⟨(some 61), .val (.faddr 6 (.t 8)), (some (59, false))⟩,
    ⟨(some 62), .val (.load none (.t 61)), (some (59, false))⟩,
    ⟨(some 63), .val (.iaddr 1 none (.t 60) (.t 62)), (some (59, false))⟩,
    ⟨(some 64), .val (.load none (.t 63)), (some (59, false))⟩,
    ⟨(some 65), .val (.pick (.t 59) (.c (.bool true)) (.t 64)), (some (50, true))⟩,
    ⟨(some 66), .val (.pick (.t 50) (.t 65) (.c (.bool false))), none⟩,
    ⟨(some 6), .val (.mov (.t 66)), none⟩]
def g34_12 : List Am.Item := [
    ⟨(some 38), .val (.mov (.t 7)), none⟩,
    ⟨(some 39), .val (.bin .num .add (.t 38) (.c (.int .i64 1))), none⟩,
    ⟨(some 7), .val (.mov (.t 39)), none⟩]
def l34_0 : RC := .gho (.drop 8) (.seq (.seq (.reg g34_11) (.cond (.t 37) (.skip) (.exit 4))) (.seq (.block 5 (.seq (.reg g34_13) (.reg g34_14))) (.reg g34_12)))
def g34_15 : List Am.Item := [
    ⟨(some 67), .val (.mov (.t 3)), none⟩,
    ⟨(some 68), .val (.mov (.t 5)), none⟩,
    ⟨(some 69), .val (.mov (.t 6)), none⟩,
    ⟨(some 70), .val (.iaddr 1 none (.t 67) (.t 68)), none⟩,
    ⟨none, .store 1 (.t 70) (.t 69), none⟩]
def g34_16 : List Am.Item := [
    ⟨(some 71), .val (.mov (.t 4)), none⟩,
    ⟨(some 72), .val (.mov (.t 71)), none⟩,
    ⟨(some 73), .val (.mov (.t 6)), (some (72, true))⟩,
    ⟨(some 74), .val (.pick (.t 72) (.t 73) (.c (.bool false))), none⟩,
    ⟨(some 4), .val (.mov (.t 74)), none⟩]
def g34_8 : List Am.Item := [
    ⟨(some 27), .val (.mov (.t 5)), none⟩,
    ⟨(some 28), .val (.bin .num .add (.t 27) (.c (.int .i64 1))), none⟩,
    ⟨(some 5), .val (.mov (.t 28)), none⟩]
def l34_1 : RC := .gho (.drop 8) (.seq (.seq (.reg g34_7) (.cond (.t 26) (.skip) (.exit 2))) (.seq (.block 3 (.seq (.reg g34_9) (.seq (.seq (.reg g34_10) (.block 4 (.loop l34_0))) (.seq (.reg g34_15) (.reg g34_16))))) (.reg g34_8)))
def g34_17 : List Am.Item := [
    ⟨(some 75), .val (.bin .num .add (.t 20) (.c (.int .i64 1))), none⟩,
    ⟨(some 20), .val (.mov (.t 75)), none⟩]
def l34_2 : RC := .gho (.drop 8) (.seq (.reg g34_4) (.seq (.cond (.t 21) (.skip) (.exit 0)) (.seq (.block 1 (.seq (.reg g34_5) (.seq (.reg g34_6) (.block 2 (.loop l34_1))))) (.reg g34_17))))
def g34_18 : List Am.Item := [
    ⟨(some 76), .val (.mov (.t 4)), none⟩,
    ⟨(some 2), .val (.mov (.t 76)), none⟩]
def r34 : RC := .seq (.reg g34_0) (.seq (.reg g34_1) (.seq (.reg g34_2) (.seq (.seq (.reg g34_3) (.block 0 (.loop l34_2))) (.seq (.reg g34_18) (.ret)))))
def o34 : List RR := [.tmp 2]
theorem k34 : chkC Tryz.prog 77 r34 (Tryz.f34.body.getD .skip) = true := by decide +kernel
theorem q34 : chkR Tryz.prog Tryz.f34.results.toList o34 = true := by decide +kernel

/- wireschema/wireschemaref22.defined -/
def g52_0 : List Am.Item := [
    ⟨(some 2), .val (.mov (.c (.bool false))), none⟩]
def g52_1 : List Am.Item := [
    ⟨(some 5), .val (.mov (.t 0)), none⟩,
    ⟨(some 6), .callR (.f 78) [(.t 5)], none⟩,
    ⟨(some 7), .val (.un .not (.t 6)), none⟩]
def g52_2 : List Am.Item := [
    ⟨(some 2), .val (.mov (.c (.bool false))), none⟩]
def g52_3 : List Am.Item := [
    ⟨(some 8), .val (.mov (.t 0)), none⟩,
    ⟨(some 9), .val (.bin .str .neq (.t 8) (.c (.str []))), none⟩]
def g52_4 : List Am.Item := [
    ⟨(some 11), .val (.mov (.t 0)), none⟩,
    ⟨(some 12), .callR (.f 79) [(.t 11)], none⟩,
    ⟨(some 10), .val (.mov (.t 12)), none⟩,
    ⟨(some 13), .val (.ext (.t 10) 0), none⟩,
    ⟨(some 14), .val (.ext (.t 10) 1), none⟩,
    ⟨(some 3), .val (.mov (.t 13)), none⟩,
    ⟨(some 4), .val (.mov (.t 14)), none⟩]
def g52_5 : List Am.Item := [
    ⟨(some 15), .val (.mov (.t 4)), none⟩,
    ⟨(some 16), .callR (.f 80) [(.t 15)], none⟩]
def g52_6 : List Am.Item := [
    ⟨(some 2), .val (.mov (.c (.bool false))), none⟩]
def g52_7 : List Am.Item := [
    ⟨(some 17), .val (.mov (.t 3)), none⟩,
    ⟨(some 0), .val (.mov (.t 17)), none⟩]
def l52_0 : RC := .seq (.seq (.reg g52_3) (.cond (.t 9) (.skip) (.exit 0))) (.block 1 (.seq (.reg g52_4) (.seq (.seq (.reg g52_5) (.cond (.t 16) (.seq (.reg g52_6) (.ret)) (.skip))) (.reg g52_7))))
def g52_8 : List Am.Item := [
    ⟨(some 2), .val (.mov (.c (.bool true))), none⟩]
def r52 : RC := .seq (.reg g52_0) (.seq (.seq (.reg g52_1) (.cond (.t 7) (.seq (.reg g52_2) (.ret)) (.skip))) (.seq (.block 0 (.loop l52_0)) (.seq (.reg g52_8) (.ret))))
def o52 : List RR := [.tmp 2]
theorem k52 : chkC Tryz.prog 18 r52 (Tryz.f52.body.getD .skip) = true := by decide +kernel
theorem q52 : chkR Tryz.prog Tryz.f52.results.toList o52 = true := by decide +kernel

/- wireschema/wireschemaref22.simple -/
def g53_0 : List Am.Item := [
    ⟨(some 2), .val (.mov (.c (.bool false))), none⟩]
def g53_1 : List Am.Item := [
    ⟨(some 3), .val (.mov (.t 0)), none⟩,
    ⟨(some 4), .callR (.f 81) [(.t 3)], none⟩,
    ⟨(some 5), .val (.mov (.t 4)), none⟩,
    ⟨(some 6), .val (.mov (.t 0)), (some (5, true))⟩,
    ⟨(some 7), .callR (.f 80) [(.t 6)], (some (5, true))⟩,
    ⟨(some 8), .val (.un .not (.t 7)), (some (5, true))⟩,
    ⟨(some 9), .val (.pick (.t 5) (.t 8) (.c (.bool false))), none⟩,
    ⟨(some 2), .val (.mov (.t 9)), none⟩]
def r53 : RC := .seq (.reg g53_0) (.seq (.reg g53_1) (.ret))
def o53 : List RR := [.tmp 2]
theorem k53 : chkC Tryz.prog 10 r53 (Tryz.f53.body.getD .skip) = true := by decide +kernel
theorem q53 : chkR Tryz.prog Tryz.f53.results.toList o53 = true := by decide +kernel

/- wireschema/wireschemaref12.Reserved -/
def g54_0 : List Am.Item := [
    ⟨(some 4), .val (.mov (.c (.bool false))), none⟩]
def g54_1 : List Am.Item := [
    ⟨(some 5), .val (.mov (.c (.int .i64 0))), none⟩]
def g54_2 : List Am.Item := [
    ⟨(some 6), .val (.mov (.t 5)), none⟩,
    ⟨(some 7), .val (.mov (.t 0)), none⟩,
    ⟨(some 8), .val (.len 1 (.t 7)), none⟩,
    ⟨(some 9), .val (.bin .num .lss (.t 6) (.t 8)), none⟩]
def g54_4 : List Am.Item := [
    ⟨(some 12), .val (.mov (.t 0)), none⟩,
    ⟨(some 13), .val (.mov (.t 5)), none⟩,
    ⟨(some 14), .val (.iaddr 2 none (.t 12) (.t 13)), none⟩,
    ⟨(some 15), .val (.faddr 0 (.t 14)), none⟩,
    ⟨(some 16), .val (.load none (.t 15)), none⟩,
    ⟨(some 17), .val (.mov (.t 1)), none⟩,
    ⟨(some 18), .val (.bin .num .leq (.t 16) (.t 17)), none⟩,
    ⟨(some 19), .val (.mov (.t 18)), none⟩,
    ⟨(some 20), .val (.mov (.t 1)), (some (19, true))⟩,
    ⟨(some 21), .val (.mov (.t 0)), (some (19, true))⟩,
    ⟨(some 22), .val (.mov (.t 5)), (some (19, true))⟩,
    ⟨(some 23), .val (.iaddr 2 none (.t 21) (.t 22)), (some (19, true))⟩,
    ⟨(some 24), .val (.faddr 1 (.t 23)), (some (19, true))⟩,
    ⟨(some 25), .val (.load none (.t 24)), (some (19, true))⟩,
    ⟨(some 26), .val (.bin .num .leq (.t 20) (.t 25)), (some (19, true))⟩,
    ⟨(some 27), .val (.pick (.t 19) (.t 26) (.c (.bool false))), none⟩]
def g54_5 : List Am.Item := [
    ⟨(some 4), .val (.mov (.c (.bool true))), none⟩]
def g54_3 : List Am.Item := [
    ⟨(some 10), .val (.mov (.t 5)), none⟩,
    ⟨(some 11), .val (.bin .num .add (.t 10) (.c (.int .i64 1))), none⟩,
    ⟨(some 5), .val (.mov (.t 11)), none⟩]
def l54_0 : RC := .seq (.seq (.reg g54_2) (.cond (.t 9) (.skip) (.exit 0))) (.seq (.block 1 (.seq (.reg g54_4) (.cond (.t 27) (.seq (.reg g54_5) (.ret)) (.skip)))) (.reg g54_3))
def g54_6 : List Am.Item := [
    ⟨(some 4), .val (.mov (.c (.bool false))), none⟩]
def r54 : RC := .seq (.reg g54_0) (.seq (.seq (.reg g54_1) (.block 0 (.loop l54_0))) (.seq (.reg g54_6) (.ret)))
def o54 : List RR := [.tmp 4]
theorem k54 : chkC Tryz.prog 28 r54 (Tryz.f54.body.getD .skip) = true := by decide +kernel
theorem q54 : chkR Tryz.prog Tryz.f54.results.toList o54 = true := by decide +kernel

/- wireschema/wireschemaref22.joined -/
def g56_0 : List Am.Item := [
    ⟨(some 1), .boxN 1 (.t 0), none⟩,
    ⟨(some 2), .val (.mov (.c (.bool false))), none⟩]
def g56_1 : List Am.Item := [
    ⟨(some 3), .val (.mov (.c (.int .i64 0))), none⟩]
def g56_2 : List Am.Item := [
    ⟨(some 4), .val (.mov (.c (.int .i64 0))), none⟩]
def g56_3 : List Am.Item := [
    ⟨(some 6), .val (.mov (.t 4)), none⟩,
    ⟨(some 7), .val (.faddr 1 (.t 1)), none⟩,
    ⟨(some 8), .val (.load none (.t 7)), none⟩,
    ⟨(some 9), .val (.len 1 (.t 8)), none⟩,
    ⟨(some 10), .val (.bin .num .lss (.t 6) (.t 9)), none⟩]
def g56_5 : List Am.Item := [
    ⟨(some 13), .val (.faddr 1 (.t 1)), none⟩,
    ⟨(some 14), .val (.load none (.t 13)), none⟩,
    ⟨(some 15), .val (.mov (.t 4)), none⟩,
    ⟨(some 16), .val (.iaddr 8 none (.t 14) (.t 15)), none⟩,
    ⟨(some 17), .val (.faddr 7 (.t 16)), none⟩,
    ⟨(some 18), .val (.load none (.t 17)), none⟩,
    ⟨(some 5), .val (.mov (.t 18)), none⟩]
def g56_6 : List Am.Item := [
    ⟨(some 20), .val (.mov (.t 5)), none⟩,
    ⟨(some 21), .val (.mov (.t 3)), none⟩,
    ⟨(some 22), .val (.bin .num .eql (.t 20) (.t 21)), none⟩,
    ⟨(some 19), .val (.mov (.t 22)), none⟩]
def g56_7 : List Am.Item := [
    ⟨(some 23), .val (.mov (.t 3)), none⟩,
    ⟨(some 24), .val (.bin .num .add (.t 23) (.c (.int .i64 1))), none⟩,
    ⟨(some 3), .val (.mov (.t 24)), none⟩]
def g56_8 : List Am.Item := [
    ⟨(some 26), .val (.mov (.t 5)), none⟩,
    ⟨(some 27), .val (.bin .num .neq (.t 26) (.c (.int .i64 (-1)))), none⟩,
    ⟨(some 28), .val (.mov (.t 27)), none⟩,
    ⟨(some 29), .val (.mov (.t 4)), (some (28, true))⟩,
    ⟨(some 30), .val (.bin .num .eql (.t 29) (.c (.int .i64 0))), (some (28, true))⟩,
    ⟨(some 31), .val (.mov (.t 30)), (some (28, true))⟩,
    ⟨(some 32), .val (.faddr 1 (.t 1)), (some (31, false))⟩,
    ⟨(some 33), .val (.load none (.t 32)), (some (31, false))⟩,
    ⟨(some 34), .val (.mov (.t 4)), (some (31, false))⟩,
    ⟨(some 35), .val (.bin .num .sub (.t 34) (.c (.int .i64 1))), (some (31, false))⟩,
    ⟨(some 36), .val (.iaddr 8 none (.t 33) (.t 35)), (some (31, false))⟩,
    ⟨(some 37), .val (.faddr 7 (.t 36)), (some (31, false))⟩,
    ⟨(some 38), .val (.load none (.t 37)), (some (31, false))⟩,
    ⟨(some 39), .val (.mov (.t 5)), (some (31, false))⟩,
    ⟨(some 40), .val (.bin .num .neq (.t 38) (.t 39)), (some (31, false))⟩,
    ⟨(some 41), .val (.pick (.t 31) (.c (.bool true)) (.t 40)), (some (28, true))⟩,
    ⟨(some 42), .val (.pick (.t 28) (.t 41) (.c (.bool false))), none⟩,
    ⟨(some 25), .val (.mov (.t 42)), none⟩]
def g56_9 : List Am.Item := [
    ⟨(some 2), .val (.mov (.c (.bool false))), none⟩]
def g56_4 : List Am.Item := [
    ⟨(some 11), .val (.mov (.t 4)), none⟩,
    ⟨(some 12), .val (.bin .num .add (.t 11) (.c (.int .i64 1))), none⟩,
    ⟨(some 4), .val (.mov (.t 12)), none⟩]
def l56_0 : RC := .seq (.seq (.reg g56_3) (.cond (.t 10) (.skip) (.exit 0))) (.seq (.block 1 (.seq (.reg g56_5) (.block 2 (.seq (.reg g56_6) (.cond (.t 19) (.reg g56_7) (.seq (.reg g56_8) (.cond (.t 25) (.seq (.reg g56_9) (.ret)) (.skip)))))))) (.reg g56_4))
def g56_10 : List Am.Item := [
    ⟨(some 43), .val (.faddr 2 (.t 1)), none⟩,
    ⟨(some 44), .val (.load none (.t 43)), none⟩,
    ⟨(some 45), .val (.mov (.t 3)), none⟩,
    ⟨(some 46), .val (.bin .num .eql (.t 44) (.t 45)), none⟩,
    ⟨(some 2), .val (.mov (.t 46)), none⟩]
def r56 : RC := .seq (.reg g56_0) (.seq (.reg g56_1) (.seq (.seq (.reg g56_2) (.block 0 (.loop l56_0))) (.seq (.reg g56_10) (.ret))))
def o56 : List RR := [.tmp 2]
theorem k56 : chkC Tryz.prog 47 r56 (Tryz.f56.body.getD .skip) = true := by decide +kernel
theorem q56 : chkR Tryz.prog Tryz.f56.results.toList o56 = true := by decide +kernel

/- wireschema/wireschemaref22.operation -/
def g57_0 : List Am.Item := [
    ⟨(some 2), .boxN 2 (.t 0), none⟩,
    ⟨(some 3), .boxN 3 (.t 1), none⟩,
    ⟨(some 4), .val (.mov (.c (.bool false))), none⟩]
def g57_1 : List Am.Item := [
    ⟨(some 6), .val (.faddr 2 (.t 3)), none⟩,
    ⟨(some 7), .val (.load none (.t 6)), none⟩,
    ⟨(some 8), .call (.f 19) [(.t 7)], none⟩,
    ⟨(some 9), .val (.un .not (.t 8)), none⟩,
    ⟨(some 10), .val (.mov (.t 9)), none⟩,
    ⟨(some 11), .val (.faddr 2 (.t 3)), (some (10, false))⟩,
    ⟨(some 12), .val (.load none (.t 11)), (some (10, false))⟩,
    ⟨(some 13), .val (.len 0 (.t 12)), (some (10, false))⟩,
    ⟨(some 14), .val (.bin .num .gtr (.t 13) (.c (.int .i64 4096))), (some (10, false))⟩,
    ⟨(some 15), .val (.pick (.t 10) (.c (.bool true)) (.t 14)), none⟩,
    ⟨(some 16), .val (.mov (.t 15)), none⟩,
    ⟨(some 17), .val (.faddr 3 (.t 3)), (some (16, false))⟩,
    ⟨(some 18), .val (.load none (.t 17)), (some (16, false))⟩,
    ⟨(some 19), .val (.bin .num .lss (.t 18) (.c (.int .i64 1))), (some (16, false))⟩,
    ⟨(some 20), .val (.pick (.t 16) (.c (.bool true)) (.t 19)), none⟩,
    ⟨(some 21), .val (.mov (.t 20)), none⟩,
    ⟨(some 22), .val (.faddr 3 (.t 3)), (some (21, false))⟩,
    ⟨(some 23), .val (.load none (.t 22)), (some (21, false))⟩,
    ⟨(some 24), .val (.bin .num .gtr (.t 23) (.c (.int .i64 5))), (some (21, false))⟩,
    ⟨(some 25), .val (.pick (.t 21) (.c (.bool true)) (.t 24)), none⟩,
    ⟨(some 26), .val (.mov (.t 25)), none⟩,
    ⟨(some 27), .val (.faddr 5 (.t 3)), (some (26, false))⟩,
    ⟨(some 28), .val (.load none (.t 27)), (some (26, false))⟩,
    ⟨(some 29), .val (.bin .num .lss (.t 28) (.c (.int .i64 1))), (some (26, false))⟩,
    ⟨(some 30), .val (.pick (.t 26) (.c (.bool true)) (.t 29)), none⟩,
    ⟨(some 31), .val (.mov (.t 30)), none⟩,
    ⟨(some 32), .val (.faddr 5 (.t 3)), (some (31, false))⟩,
    ⟨(some 33), .val (.load none (.t 32)), (some (31, false))⟩,
    ⟨(some 34), .val (.bin .num .gtr (.t 33) (.c (.int .i64 10))), (some (31, false))⟩,
    ⟨(some 35), .val (.pick (.t 31) (.c (.bool true)) (.t 34)), none⟩]
def g57_2 : List Am.Item := [
    ⟨(some 4), .val (.mov (.c (.bool false))), none⟩]
def g57_3 : List Am.Item := [
    ⟨(some 36), .val (.faddr 4 (.t 3)), none⟩,
    ⟨(some 37), .val (.load none (.t 36)), none⟩,
    ⟨(some 38), .val (.bin .num .geq (.t 37) (.c (.int .i64 1))), none⟩,
    ⟨(some 39), .val (.mov (.t 38)), none⟩,
    ⟨(some 40), .val (.faddr 4 (.t 3)), (some (39, true))⟩,
    ⟨(some 41), .val (.load none (.t 40)), (some (39, true))⟩,
    ⟨(some 42), .val (.bin .num .leq (.t 41) (.c (.int .i64 5))), (some (39, true))⟩,
    ⟨(some 43), .val (.pick (.t 39) (.t 42) (.c (.bool false))), none⟩,
    ⟨(some 44), .val (.mov (.t 43)), none⟩,
    ⟨(some 45), .val (.faddr 4 (.t 3)), (some (44, false))⟩,
    ⟨(some 46), .val (.load none (.t 45)), (some (44, false))⟩,
    ⟨(some 47), .val (.bin .num .eql (.t 46) (.c (.int .i64 7))), (some (44, false))⟩,
    ⟨(some 48), .val (.pick (.t 44) (.c (.bool true)) (.t 47)), none⟩,
    ⟨(some 5), .val (.mov (.t 48)), none⟩]
def g57_4 : List Am.Item := [
    ⟨(some 49), .val (.faddr 3 (.t 3)), none⟩,
    ⟨(some 50), .val (.load none (.t 49)), none⟩,
    ⟨(some 51), .val (.bin .num .neq (.t 50) (.c (.int .i64 5))), none⟩]
def g57_5 : List Am.Item := [
    ⟨(some 52), .val (.faddr 4 (.t 3)), none⟩,
    ⟨(some 53), .val (.load none (.t 52)), none⟩,
    ⟨(some 54), .val (.bin .num .eql (.t 53) (.c (.int .i64 0))), none⟩,
    ⟨(some 5), .val (.mov (.t 54)), none⟩]
def g57_6 : List Am.Item := [
    ⟨(some 55), .val (.mov (.t 5)), none⟩,
    ⟨(some 56), .val (.mov (.t 55)), none⟩,
    ⟨(some 57), .val (.load (some 2) (.t 2)), (some (56, true))⟩,
    ⟨(some 58), .val (.load (some 8) (.t 3)), (some (56, true))⟩,
    ⟨(some 59), .callR (.f 85) [(.t 57), (.t 58)], (some (56, true))⟩,
    ⟨(some 60), .val (.pick (.t 56) (.t 59) (.c (.bool false))), none⟩,
    ⟨(some 61), .val (.mov (.t 60)), none⟩,
    ⟨(some 62), .val (.faddr 7 (.t 3)), (some (61, true))⟩,
    ⟨(some 63), .val (.load none (.t 62)), (some (61, true))⟩,
    ⟨(some 64), .val (.bin .num .eql (.t 63) (.c (.int .i64 (-1)))), (some (61, true))⟩,
    ⟨(some 65), .val (.mov (.t 64)), (some (61, true))⟩,
    ⟨(some 66), .val (.faddr 3 (.t 3)), (some (65, false))⟩,
    ⟨(some 67), .val (.load none (.t 66)), (some (65, false))⟩,
    ⟨(some 68), .val (.bin .num .eql (.t 67) (.c (.int .i64 2))), (some (65, false))⟩,
    ⟨(some 69), .val (.pick (.t 65) (.c (.bool true)) (.t 68)), (some (61, true))⟩,
    ⟨(some 70), .val (.pick (.t 61) (.t 69) (.c (.bool false))), none⟩,
    ⟨(some 4), .val (.mov (.t 70)), none⟩]
def r57 : RC := .seq (.reg g57_0) (.seq (.seq (.reg g57_1) (.cond (.t 35) (.seq (.reg g57_2) (.ret)) (.skip))) (.seq (.reg g57_3) (.seq (.seq (.reg g57_4) (.cond (.t 51) (.reg g57_5) (.skip))) (.seq (.reg g57_6) (.ret)))))
def o57 : List RR := [.tmp 4]
theorem k57 : chkC Tryz.prog 71 r57 (Tryz.f57.body.getD .skip) = true := by decide +kernel
theorem q57 : chkR Tryz.prog Tryz.f57.results.toList o57 = true := by decide +kernel

/- wireschema/wireschemaref08.Check -/
def g55_0 : List Am.Item := [
    ⟨(some 4), .val (.mov (.c (.int .i64 0))), none⟩]
def g55_1 : List Am.Item := [
    ⟨(some 6), .val (.mov (.t 0)), none⟩,
    ⟨(some 7), .val (.len 1 (.t 6)), none⟩,
    ⟨(some 8), .val (.bin .num .gtr (.t 7) (.c (.int .i64 8))), none⟩]
def g55_2 : List Am.Item := [
    ⟨(some 4), .val (.mov (.c (.int .i64 3))), none⟩]
def g55_3 : List Am.Item := [
    ⟨(some 5), .val (.mov (.c (.int .i64 0))), none⟩]
def g55_4 : List Am.Item := [
    ⟨(some 9), .val (.mov (.t 5)), none⟩,
    ⟨(some 10), .val (.mov (.t 0)), none⟩,
    ⟨(some 11), .val (.len 1 (.t 10)), none⟩,
    ⟨(some 12), .val (.bin .num .lss (.t 9) (.t 11)), none⟩]
def g55_6 : List Am.Item := [
    ⟨(some 15), .val (.mov (.t 0)), none⟩,
    ⟨(some 16), .val (.mov (.t 5)), none⟩,
    ⟨(some 17), .val (.iaddr 8 none (.t 15) (.t 16)), none⟩,
    ⟨(some 18), .val (.faddr 0 (.t 17)), none⟩,
    ⟨(some 19), .val (.load none (.t 18)), none⟩,
    ⟨(some 20), .callR (.f 82) [(.t 19)], none⟩,
    ⟨(some 21), .val (.bin .num .eql (.t 20) (.c (.int .i64 0))), none⟩]
def g55_7 : List Am.Item := [
    ⟨(some 4), .val (.mov (.c (.int .i64 8))), none⟩]
def g55_8 : List Am.Item := [
    ⟨(some 22), .val (.mov (.t 0)), none⟩,
    ⟨(some 23), .val (.mov (.t 5)), none⟩,
    ⟨(some 24), .val (.iaddr 8 none (.t 22) (.t 23)), none⟩,
    ⟨(some 25), .val (.faddr 0 (.t 24)), none⟩,
    ⟨(some 26), .val (.load none (.t 25)), none⟩,
    ⟨(some 27), .val (.mov (.t 1)), none⟩,
    ⟨(some 28), .callR (.f 83) [(.t 26), (.t 27)], none⟩,
    ⟨(some 29), .val (.un .not (.t 28)), none⟩]
def g55_9 : List Am.Item := [
    ⟨(some 4), .val (.mov (.c (.int .i64 1))), none⟩]
def g55_10 : List Am.Item := [
    ⟨(some 30), .val (.mov (.t 0)), none⟩,
    ⟨(some 31), .val (.mov (.t 5)), none⟩,
    ⟨(some 32), .val (.iaddr 8 none (.t 30) (.t 31)), none⟩,
    ⟨(some 33), .val (.load (some 8) (.t 32)), none⟩,
    ⟨(some 34), .callR (.f 84) [(.t 33)], none⟩,
    ⟨(some 35), .val (.un .not (.t 34)), none⟩]
def g55_11 : List Am.Item := [
    ⟨(some 4), .val (.mov (.c (.int .i64 12))), none⟩]
def g55_12 : List Am.Item := [
    ⟨(some 36), .val (.mov (.t 5)), none⟩,
    ⟨(some 37), .val (.bin .num .gtr (.t 36) (.c (.int .i64 0))), none⟩,
    ⟨(some 38), .val (.mov (.t 37)), none⟩,
    ⟨(some 39), .val (.mov (.t 0)), (some (38, true))⟩,
    ⟨(some 40), .val (.mov (.t 5)), (some (38, true))⟩,
    ⟨(some 41), .val (.iaddr 8 none (.t 39) (.t 40)), (some (38, true))⟩,
    ⟨(some 42), .val (.faddr 0 (.t 41)), (some (38, true))⟩,
    ⟨(some 43), .val (.loadr none (.t 42)), (some (38, true))⟩,
    ⟨(some 44), .val (.mov (.t 0)), (some (38, true))⟩,
    ⟨(some 45), .val (.mov (.t 5)), (some (38, true))⟩,
    ⟨(some 46), .val (.bin .num .sub (.t 45) (.c (.int .i64 1))), (some (38, true))⟩,
    ⟨(some 47), .val (.iaddr 8 none (.t 44) (.t 46)), (some (38, true))⟩,
    ⟨(some 48), .val (.faddr 0 (.t 47)), (some (38, true))⟩,
    ⟨(some 49), .val (.loadr none (.t 48)), (some (38, true))⟩,
    ⟨(some 50), .val (.bin .str .lss (.t 43) (.t 49)), (some (38, true))⟩,
    ⟨(some 51), .val (.pick (.t 38) (.t 50) (.c (.bool false))), none⟩]
def g55_13 : List Am.Item := [
    ⟨(some 4), .val (.mov (.c (.int .i64 11))), none⟩]
def g55_14 : List Am.Item := [
    ⟨(some 52), .val (.mov (.t 5)), none⟩,
    ⟨(some 53), .val (.bin .num .gtr (.t 52) (.c (.int .i64 0))), none⟩,
    ⟨(some 54), .val (.mov (.t 53)), none⟩,
    ⟨(some 55), .val (.mov (.t 0)), (some (54, true))⟩,
    ⟨(some 56), .val (.mov (.t 5)), (some (54, true))⟩,
    ⟨(some 57), .val (.iaddr 8 none (.t 55) (.t 56)), (some (54, true))⟩,
    ⟨(some 58), .val (.faddr 0 (.t 57)), (some (54, true))⟩,
    ⟨(some 59), .val (.loadr none (.t 58)), (some (54, true))⟩,
    ⟨(some 60), .val (.mov (.t 0)), (some (54, true))⟩,
    ⟨(some 61), .val (.mov (.t 5)), (some (54, true))⟩,
    ⟨(some 62), .val (.bin .num .sub (.t 61) (.c (.int .i64 1))), (some (54, true))⟩,
    ⟨(some 63), .val (.iaddr 8 none (.t 60) (.t 62)), (some (54, true))⟩,
    ⟨(some 64), .val (.faddr 0 (.t 63)), (some (54, true))⟩,
    ⟨(some 65), .val (.loadr none (.t 64)), (some (54, true))⟩,
    ⟨(some 66), .val (.bin .str .eql (.t 59) (.t 65)), (some (54, true))⟩,
    ⟨(some 67), .val (.pick (.t 54) (.t 66) (.c (.bool false))), none⟩]
def g55_15 : List Am.Item := [
    ⟨(some 4), .val (.mov (.c (.int .i64 9))), none⟩]
def g55_5 : List Am.Item := [
    ⟨(some 13), .val (.mov (.t 5)), none⟩,
    ⟨(some 14), .val (.bin .num .add (.t 13) (.c (.int .i64 1))), none⟩,
    ⟨(some 5), .val (.mov (.t 14)), none⟩]
def l55_0 : RC := .seq (.seq (.reg g55_4) (.cond (.t 12) (.skip) (.exit 0))) (.seq (.block 1 (.seq (.seq (.reg g55_6) (.cond (.t 21) (.seq (.reg g55_7) (.ret)) (.skip))) (.seq (.seq (.reg g55_8) (.cond (.t 29) (.seq (.reg g55_9) (.ret)) (.skip))) (.seq (.seq (.reg g55_10) (.cond (.t 35) (.seq (.reg g55_11) (.ret)) (.skip))) (.seq (.seq (.draw g55_12) (.cond (.t 51) (.seq (.reg g55_13) (.ret)) (.skip))) (.seq (.draw g55_14) (.cond (.t 67) (.seq (.reg g55_15) (.ret)) (.skip)))))))) (.reg g55_5))
def g55_16 : List Am.Item := [
    ⟨(some 4), .val (.mov (.c (.int .i64 0))), none⟩]
def r55 : RC := .seq (.reg g55_0) (.seq (.seq (.reg g55_1) (.cond (.t 8) (.seq (.reg g55_2) (.ret)) (.skip))) (.seq (.seq (.reg g55_3) (.block 0 (.loop l55_0))) (.seq (.reg g55_16) (.ret))))
def o55 : List RR := [.tmp 4]
theorem k55 : chkC Tryz.prog 68 r55 (Tryz.f55.body.getD .skip) = true := by decide +kernel
theorem q55 : chkR Tryz.prog Tryz.f55.results.toList o55 = true := by decide +kernel

/- wireschema/wireschemaref08.Kind -/
def g82_0 : List Am.Item := [
    ⟨(some 2), .val (.mov (.c (.int .i64 0))), none⟩]
def g82_1 : List Am.Item := [
    ⟨(some 3), .val (.mov (.t 0)), none⟩]
def g82_2 : List Am.Item := [
    ⟨(some 5), .val (.bin .str .eql (.t 3) (.c (.str [100, 101, 112, 114, 101, 99, 97, 116, 101, 100]))), none⟩,
    ⟨(some 4), .val (.mov (.t 5)), none⟩]
def g82_3 : List Am.Item := [
    ⟨(some 6), .val (.bin .str .eql (.t 3) (.c (.str [115, 101, 99, 114, 101, 116]))), none⟩,
    ⟨(some 4), .val (.mov (.t 6)), none⟩]
def g82_4 : List Am.Item := [
    ⟨(some 7), .val (.bin .str .eql (.t 3) (.c (.str [105, 100, 101, 109, 112, 111, 116, 101, 110, 116]))), none⟩,
    ⟨(some 4), .val (.mov (.t 7)), none⟩]
def g82_5 : List Am.Item := [
    ⟨(some 2), .val (.mov (.c (.int .i64 1))), none⟩]
def g82_6 : List Am.Item := [
    ⟨(some 9), .val (.bin .str .eql (.t 3) (.c (.str [100, 111, 99]))), none⟩,
    ⟨(some 8), .val (.mov (.t 9)), none⟩]
def g82_7 : List Am.Item := [
    ⟨(some 10), .val (.bin .str .eql (.t 3) (.c (.str [97, 108, 105, 97, 115]))), none⟩,
    ⟨(some 8), .val (.mov (.t 10)), none⟩]
def g82_8 : List Am.Item := [
    ⟨(some 11), .val (.bin .str .eql (.t 3) (.c (.str [114, 111, 117, 116, 101]))), none⟩,
    ⟨(some 8), .val (.mov (.t 11)), none⟩]
def g82_9 : List Am.Item := [
    ⟨(some 12), .val (.bin .str .eql (.t 3) (.c (.str [111, 119, 110, 101, 114]))), none⟩,
    ⟨(some 8), .val (.mov (.t 12)), none⟩]
def g82_10 : List Am.Item := [
    ⟨(some 2), .val (.mov (.c (.int .i64 7))), none⟩]
def g82_11 : List Am.Item := [
    ⟨(some 14), .val (.bin .str .eql (.t 3) (.c (.str [115, 105, 110, 99, 101]))), none⟩,
    ⟨(some 13), .val (.mov (.t 14)), none⟩]
def g82_12 : List Am.Item := [
    ⟨(some 15), .val (.bin .str .eql (.t 3) (.c (.str [117, 110, 116, 105, 108]))), none⟩,
    ⟨(some 13), .val (.mov (.t 15)), none⟩]
def g82_13 : List Am.Item := [
    ⟨(some 16), .val (.bin .str .eql (.t 3) (.c (.str [108, 101, 110, 103, 116, 104]))), none⟩,
    ⟨(some 13), .val (.mov (.t 16)), none⟩]
def g82_14 : List Am.Item := [
    ⟨(some 17), .val (.bin .str .eql (.t 3) (.c (.str [116, 105, 109, 101, 111, 117, 116]))), none⟩,
    ⟨(some 13), .val (.mov (.t 17)), none⟩]
def g82_15 : List Am.Item := [
    ⟨(some 2), .val (.mov (.c (.int .i64 4))), none⟩]
def g82_16 : List Am.Item := [
    ⟨(some 19), .val (.bin .str .eql (.t 3) (.c (.str [109, 105, 110]))), none⟩,
    ⟨(some 18), .val (.mov (.t 19)), none⟩]
def g82_17 : List Am.Item := [
    ⟨(some 20), .val (.bin .str .eql (.t 3) (.c (.str [109, 97, 120]))), none⟩,
    ⟨(some 18), .val (.mov (.t 20)), none⟩]
def g82_18 : List Am.Item := [
    ⟨(some 2), .val (.mov (.c (.int .i64 3))), none⟩]
def g82_19 : List Am.Item := [
    ⟨(some 2), .val (.mov (.c (.int .i64 0))), none⟩]
def r82 : RC := .seq (.reg g82_0) (.seq (.seq (.reg g82_1) (.block 0 (.seq (.seq (.reg g82_2) (.cond (.t 4) (.skip) (.seq (.reg g82_3) (.cond (.t 4) (.skip) (.reg g82_4))))) (.cond (.t 4) (.seq (.reg g82_5) (.ret)) (.seq (.seq (.reg g82_6) (.cond (.t 8) (.skip) (.seq (.reg g82_7) (.cond (.t 8) (.skip) (.seq (.reg g82_8) (.cond (.t 8) (.skip) (.reg g82_9))))))) (.cond (.t 8) (.seq (.reg g82_10) (.ret)) (.seq (.seq (.reg g82_11) (.cond (.t 13) (.skip) (.seq (.reg g82_12) (.cond (.t 13) (.skip) (.seq (.reg g82_13) (.cond (.t 13) (.skip) (.reg g82_14))))))) (.cond (.t 13) (.seq (.reg g82_15) (.ret)) (.seq (.seq (.reg g82_16) (.cond (.t 18) (.skip) (.reg g82_17))) (.cond (.t 18) (.seq (.reg g82_18) (.ret)) (.skip))))))))))) (.seq (.reg g82_19) (.ret)))
def o82 : List RR := [.tmp 2]
theorem k82 : chkC Tryz.prog 21 r82 (Tryz.f82.body.getD .skip) = true := by decide +kernel
theorem q82 : chkR Tryz.prog Tryz.f82.results.toList o82 = true := by decide +kernel

/- wireschema/wireschemaref08.fits -/
def g83_0 : List Am.Item := [
    ⟨(some 4), .val (.mov (.c (.bool false))), none⟩]
def g83_1 : List Am.Item := [
    ⟨(some 5), .val (.mov (.t 0)), none⟩]
def g83_2 : List Am.Item := [
    ⟨(some 7), .val (.bin .str .eql (.t 5) (.c (.str [100, 101, 112, 114, 101, 99, 97, 116, 101, 100]))), none⟩,
    ⟨(some 6), .val (.mov (.t 7)), none⟩]
def g83_3 : List Am.Item := [
    ⟨(some 8), .val (.bin .str .eql (.t 5) (.c (.str [100, 111, 99]))), none⟩,
    ⟨(some 6), .val (.mov (.t 8)), none⟩]
def g83_4 : List Am.Item := [
    ⟨(some 9), .val (.mov (.t 1)), none⟩,
    ⟨(some 10), .val (.bin .num .geq (.t 9) (.c (.int .i64 1))), none⟩,
    ⟨(some 11), .val (.mov (.t 10)), none⟩,
    ⟨(some 12), .val (.mov (.t 1)), (some (11, true))⟩,
    ⟨(some 13), .val (.bin .num .leq (.t 12) (.c (.int .i64 6))), (some (11, true))⟩,
    ⟨(some 14), .val (.pick (.t 11) (.t 13) (.c (.bool false))), none⟩,
    ⟨(some 4), .val (.mov (.t 14)), none⟩]
def g83_5 : List Am.Item := [
    ⟨(some 16), .val (.bin .str .eql (.t 5) (.c (.str [97, 108, 105, 97, 115]))), none⟩,
    ⟨(some 15), .val (.mov (.t 16)), none⟩]
def g83_6 : List Am.Item := [
    ⟨(some 17), .val (.bin .str .eql (.t 5) (.c (.str [115, 105, 110, 99, 101]))), none⟩,
    ⟨(some 15), .val (.mov (.t 17)), none⟩]
def g83_7 : List Am.Item := [
    ⟨(some 18), .val (.bin .str .eql (.t 5) (.c (.str [117, 110, 116, 105, 108]))), none⟩,
    ⟨(some 15), .val (.mov (.t 18)), none⟩]
def g83_8 : List Am.Item := [
    ⟨(some 19), .val (.mov (.t 1)), none⟩,
    ⟨(some 20), .val (.bin .num .eql (.t 19) (.c (.int .i64 2))), none⟩,
    ⟨(some 21), .val (.mov (.t 20)), none⟩,
    ⟨(some 22), .val (.mov (.t 1)), (some (21, false))⟩,
    ⟨(some 23), .val (.bin .num .eql (.t 22) (.c (.int .i64 4))), (some (21, false))⟩,
    ⟨(some 24), .val (.pick (.t 21) (.c (.bool true)) (.t 23)), none⟩,
    ⟨(some 25), .val (.mov (.t 24)), none⟩,
    ⟨(some 26), .val (.mov (.t 1)), (some (25, false))⟩,
    ⟨(some 27), .val (.bin .num .eql (.t 26) (.c (.int .i64 6))), (some (25, false))⟩,
    ⟨(some 28), .val (.pick (.t 25) (.c (.bool true)) (.t 27)), none⟩,
    ⟨(some 4), .val (.mov (.t 28)), none⟩]
def g83_9 : List Am.Item := [
    ⟨(some 30), .val (.bin .str .eql (.t 5) (.c (.str [109, 105, 110]))), none⟩,
    ⟨(some 29), .val (.mov (.t 30)), none⟩]
def g83_10 : List Am.Item := [
    ⟨(some 31), .val (.bin .str .eql (.t 5) (.c (.str [109, 97, 120]))), none⟩,
    ⟨(some 29), .val (.mov (.t 31)), none⟩]
def g83_11 : List Am.Item := [
    ⟨(some 32), .val (.bin .str .eql (.t 5) (.c (.str [108, 101, 110, 103, 116, 104]))), none⟩,
    ⟨(some 29), .val (.mov (.t 32)), none⟩]
def g83_12 : List Am.Item := [
    ⟨(some 33), .val (.bin .str .eql (.t 5) (.c (.str [115, 101, 99, 114, 101, 116]))), none⟩,
    ⟨(some 29), .val (.mov (.t 33)), none⟩]
def g83_13 : List Am.Item := [
    ⟨(some 34), .val (.mov (.t 1)), none⟩,
    ⟨(some 35), .val (.bin .num .eql (.t 34) (.c (.int .i64 2))), none⟩,
    ⟨(some 4), .val (.mov (.t 35)), none⟩]
def g83_14 : List Am.Item := [
    ⟨(some 37), .val (.bin .str .eql (.t 5) (.c (.str [105, 100, 101, 109, 112, 111, 116, 101, 110, 116]))), none⟩,
    ⟨(some 36), .val (.mov (.t 37)), none⟩]
def g83_15 : List Am.Item := [
    ⟨(some 38), .val (.bin .str .eql (.t 5) (.c (.str [116, 105, 109, 101, 111, 117, 116]))), none⟩,
    ⟨(some 36), .val (.mov (.t 38)), none⟩]
def g83_16 : List Am.Item := [
    ⟨(some 39), .val (.bin .str .eql (.t 5) (.c (.str [114, 111, 117, 116, 101]))), none⟩,
    ⟨(some 36), .val (.mov (.t 39)), none⟩]
def g83_17 : List Am.Item := [
    ⟨(some 40), .val (.mov (.t 1)), none⟩,
    ⟨(some 41), .val (.bin .num .eql (.t 40) (.c (.int .i64 6))), none⟩,
    ⟨(some 4), .val (.mov (.t 41)), none⟩]
def g83_18 : List Am.Item := [
    ⟨(some 42), .val (.mov (.t 1)), none⟩,
    ⟨(some 43), .val (.bin .num .eql (.t 42) (.c (.int .i64 1))), none⟩,
    ⟨(some 44), .val (.mov (.t 43)), none⟩,
    ⟨(some 45), .val (.mov (.t 1)), (some (44, false))⟩,
    ⟨(some 46), .val (.bin .num .eql (.t 45) (.c (.int .i64 5))), (some (44, false))⟩,
    ⟨(some 47), .val (.pick (.t 44) (.c (.bool true)) (.t 46)), none⟩,
    ⟨(some 4), .val (.mov (.t 47)), none⟩]
def r83 : RC := .seq (.reg g83_0) (.seq (.seq (.reg g83_1) (.block 0 (.seq (.seq (.reg g83_2) (.cond (.t 6) (.skip) (.reg g83_3))) (.cond (.t 6) (.seq (.reg g83_4) (.ret)) (.seq (.seq (.reg g83_5) (.cond (.t 15) (.skip) (.seq (.reg g83_6) (.cond (.t 15) (.skip) (.reg g83_7))))) (.cond (.t 15) (.seq (.reg g83_8) (.ret)) (.seq (.seq (.reg g83_9) (.cond (.t 29) (.skip) (.seq (.reg g83_10) (.cond (.t 29) (.skip) (.seq (.reg g83_11) (.cond (.t 29) (.skip) (.reg g83_12))))))) (.cond (.t 29) (.seq (.reg g83_13) (.ret)) (.seq (.seq (.reg g83_14) (.cond (.t 36) (.skip) (.seq (.reg g83_15) (.cond (.t 36) (.skip) (.reg g83_16))))) (.cond (.t 36) (.seq (.reg g83_17) (.ret)) (.skip))))))))))) (.seq (.reg g83_18) (.ret)))
def o83 : List RR := [.tmp 4]
theorem k83 : chkC Tryz.prog 48 r83 (Tryz.f83.body.getD .skip) = true := by decide +kernel
theorem q83 : chkR Tryz.prog Tryz.f83.results.toList o83 = true := by decide +kernel

/- wireschema/wireschemaref08.Right -/
def g84_0 : List Am.Item := [
    ⟨(some 1), .boxN 1 (.t 0), none⟩,
    ⟨(some 2), .val (.mov (.c (.bool false))), none⟩]
def g84_1 : List Am.Item := [
    ⟨(some 4), .val (.faddr 0 (.t 1)), none⟩,
    ⟨(some 5), .val (.load none (.t 4)), none⟩,
    ⟨(some 6), .callR (.f 82) [(.t 5)], none⟩,
    ⟨(some 3), .val (.mov (.t 6)), none⟩]
def g84_2 : List Am.Item := [
    ⟨(some 7), .val (.mov (.t 3)), none⟩,
    ⟨(some 8), .val (.bin .num .neq (.t 7) (.c (.int .i64 0))), none⟩,
    ⟨(some 9), .val (.mov (.t 8)), none⟩,
    ⟨(some 10), .val (.faddr 1 (.t 1)), (some (9, true))⟩,
    ⟨(some 11), .val (.faddr 0 (.t 10)), (some (9, true))⟩,
    ⟨(some 12), .val (.load none (.t 11)), (some (9, true))⟩,
    ⟨(some 13), .val (.mov (.t 3)), (some (9, true))⟩,
    ⟨(some 14), .val (.bin .num .eql (.t 12) (.t 13)), (some (9, true))⟩,
    ⟨(some 15), .val (.pick (.t 9) (.t 14) (.c (.bool false))), none⟩,
    ⟨(some 16), .val (.mov (.t 15)), none⟩,
    ⟨(some 17), .val (.mov (.t 3)), (some (16, true))⟩,
    ⟨(some 18), .val (.faddr 1 (.t 1)), (some (16, true))⟩,
    ⟨(some 19), .val (.load (some 7) (.t 18)), (some (16, true))⟩,
    ⟨(some 20), .callR (.f 21) [(.t 17), (.t 19)], (some (16, true))⟩,
    ⟨(some 21), .val (.pick (.t 16) (.t 20) (.c (.bool false))), none⟩,
    ⟨(some 2), .val (.mov (.t 21)), none⟩]
def r84 : RC := .seq (.reg g84_0) (.seq (.reg g84_1) (.seq (.reg g84_2) (.ret)))
def o84 : List RR := [.tmp 2]
theorem k84 : chkC Tryz.prog 22 r84 (Tryz.f84.body.getD .skip) = true := by decide +kernel
theorem q84 : chkR Tryz.prog Tryz.f84.results.toList o84 = true := by decide +kernel

/- wireschema/wireschemaref22.target -/
def g85_0 : List Am.Item := [
    ⟨(some 2), .boxN 2 (.t 0), none⟩,
    ⟨(some 3), .boxN 3 (.t 1), none⟩,
    ⟨(some 4), .val (.mov (.c (.bool false))), none⟩]
def g85_1 : List Am.Item := [
    ⟨(some 5), .val (.faddr 5 (.t 3)), none⟩,
    ⟨(some 6), .val (.load none (.t 5)), none⟩]
def g85_2 : List Am.Item := [
    ⟨(some 8), .val (.bin .num .eql (.t 6) (.c (.int .i64 10))), none⟩,
    ⟨(some 7), .val (.mov (.t 8)), none⟩]
def g85_3 : List Am.Item := [
    ⟨(some 9), .val (.faddr 6 (.t 3)), none⟩,
    ⟨(some 10), .val (.load none (.t 9)), none⟩,
    ⟨(some 11), .val (.bin .num .geq (.t 10) (.c (.int .i64 0))), none⟩,
    ⟨(some 12), .val (.mov (.t 11)), none⟩,
    ⟨(some 13), .val (.faddr 6 (.t 3)), (some (12, true))⟩,
    ⟨(some 14), .val (.load none (.t 13)), (some (12, true))⟩,
    ⟨(some 15), .val (.faddr 0 (.t 2)), (some (12, true))⟩,
    ⟨(some 16), .val (.load none (.t 15)), (some (12, true))⟩,
    ⟨(some 17), .val (.len 1 (.t 16)), (some (12, true))⟩,
    ⟨(some 18), .val (.bin .num .lss (.t 14) (.t 17)), (some (12, true))⟩,
    ⟨(some 19), .val (.pick (.t 12) (.t 18) (.c (.bool false))), none⟩,
    ⟨(some 20), .val (.mov (.t 19)), none⟩,
    ⟨(some 21), .val (.faddr 3 (.t 3)), (some (20, true))⟩,
    ⟨(some 22), .val (.load none (.t 21)), (some (20, true))⟩,
    ⟨(some 23), .val (.bin .num .neq (.t 22) (.c (.int .i64 3))), (some (20, true))⟩,
    ⟨(some 24), .val (.pick (.t 20) (.t 23) (.c (.bool false))), none⟩,
    ⟨(some 4), .val (.mov (.t 24)), none⟩]
def g85_4 : List Am.Item := [
    ⟨(some 26), .val (.bin .num .eql (.t 6) (.c (.int .i64 9))), none⟩,
    ⟨(some 25), .val (.mov (.t 26)), none⟩]
def g85_5 : List Am.Item := [
    ⟨(some 27), .val (.faddr 6 (.t 3)), none⟩,
    ⟨(some 28), .val (.load none (.t 27)), none⟩,
    ⟨(some 29), .val (.bin .num .geq (.t 28) (.c (.int .i64 0))), none⟩,
    ⟨(some 30), .val (.mov (.t 29)), none⟩,
    ⟨(some 31), .val (.faddr 6 (.t 3)), (some (30, true))⟩,
    ⟨(some 32), .val (.load none (.t 31)), (some (30, true))⟩,
    ⟨(some 33), .val (.faddr 1 (.t 2)), (some (30, true))⟩,
    ⟨(some 34), .val (.load none (.t 33)), (some (30, true))⟩,
    ⟨(some 35), .val (.len 1 (.t 34)), (some (30, true))⟩,
    ⟨(some 36), .val (.bin .num .lss (.t 32) (.t 35)), (some (30, true))⟩,
    ⟨(some 37), .val (.pick (.t 30) (.t 36) (.c (.bool false))), none⟩,
    ⟨(some 4), .val (.mov (.t 37)), none⟩]
def g85_6 : List Am.Item := [
    ⟨(some 38), .val (.faddr 6 (.t 3)), none⟩,
    ⟨(some 39), .val (.load none (.t 38)), none⟩,
    ⟨(some 40), .val (.bin .num .eql (.t 39) (.c (.int .i64 (-1)))), none⟩,
    ⟨(some 4), .val (.mov (.t 40)), none⟩]
def r85 : RC := .seq (.reg g85_0) (.seq (.seq (.reg g85_1) (.block 0 (.seq (.reg g85_2) (.cond (.t 7) (.seq (.reg g85_3) (.ret)) (.seq (.reg g85_4) (.cond (.t 25) (.seq (.reg g85_5) (.ret)) (.skip))))))) (.seq (.reg g85_6) (.ret)))
def o85 : List RR := [.tmp 4]
theorem k85 : chkC Tryz.prog 41 r85 (Tryz.f85.body.getD .skip) = true := by decide +kernel
theorem q85 : chkR Tryz.prog Tryz.f85.results.toList o85 = true := by decide +kernel

/- wireschema/wireschemaref06.IsFull -/
def g78_0 : List Am.Item := [
    ⟨(some 2), .val (.mov (.c (.bool false))), none⟩]
def g78_1 : List Am.Item := [
    ⟨(some 5), .val (.mov (.t 0)), none⟩,
    ⟨(some 6), .val (.len 0 (.t 5)), none⟩,
    ⟨(some 7), .val (.bin .num .gtr (.t 6) (.c (.int .i64 120))), none⟩]
def g78_2 : List Am.Item := [
    ⟨(some 2), .val (.mov (.c (.bool false))), none⟩]
def g78_3 : List Am.Item := [
    ⟨(some 3), .val (.mov (.c (.str []))), none⟩]
def g78_4 : List Am.Item := [
    ⟨(some 4), .val (.mov (.c (.int .i64 0))), none⟩]
def g78_5 : List Am.Item := [
    ⟨(some 8), .val (.mov (.t 4)), none⟩,
    ⟨(some 9), .val (.mov (.t 0)), none⟩,
    ⟨(some 10), .val (.len 0 (.t 9)), none⟩,
    ⟨(some 11), .val (.bin .num .lss (.t 8) (.t 10)), none⟩]
def g78_7 : List Am.Item := [
    ⟨(some 14), .val (.mov (.t 0)), none⟩,
    ⟨(some 15), .val (.mov (.t 4)), none⟩,
    ⟨(some 16), .val (.idx (.t 14) (.t 15)), none⟩,
    ⟨(some 17), .val (.bin .num .neq (.t 16) (.c (.int .u8 46))), none⟩]
def g78_8 : List Am.Item := [
    ⟨(some 18), .val (.mov (.t 3)), none⟩,
    ⟨(some 19), .val (.mov (.t 0)), none⟩,
    ⟨(some 20), .val (.mov (.t 4)), none⟩,
    ⟨(some 21), .val (.mov (.t 4)), none⟩,
    ⟨(some 22), .val (.bin .num .add (.t 21) (.c (.int .i64 1))), none⟩,
    ⟨(some 23), .val (.slc none (.t 19) (some (.t 20)) (some (.t 22)) none), none⟩,
    ⟨(some 24), .val (.bin .str .add (.t 18) (.t 23)), none⟩,
    ⟨(some 3), .val (.mov (.t 24)), none⟩]
def g78_9 : List Am.Item := [
    ⟨(some 25), .val (.mov (.t 3)), none⟩,
    ⟨(some 26), .callR (.f 81) [(.t 25)], none⟩,
    ⟨(some 27), .val (.un .not (.t 26)), none⟩]
def g78_10 : List Am.Item := [
    ⟨(some 2), .val (.mov (.c (.bool false))), none⟩]
def g78_11 : List Am.Item := [
    ⟨(some 3), .val (.mov (.c (.str []))), none⟩]
def g78_6 : List Am.Item := [
    ⟨(some 12), .val (.mov (.t 4)), none⟩,
    ⟨(some 13), .val (.bin .num .add (.t 12) (.c (.int .i64 1))), none⟩,
    ⟨(some 4), .val (.mov (.t 13)), none⟩]
def l78_0 : RC := .seq (.seq (.reg g78_5) (.cond (.t 11) (.skip) (.exit 0))) (.seq (.block 1 (.seq (.seq (.reg g78_7) (.cond (.t 17) (.seq (.reg g78_8) (.exit 1)) (.skip))) (.seq (.seq (.reg g78_9) (.cond (.t 27) (.seq (.reg g78_10) (.ret)) (.skip))) (.reg g78_11)))) (.reg g78_6))
def g78_12 : List Am.Item := [
    ⟨(some 28), .val (.mov (.t 3)), none⟩,
    ⟨(some 29), .callR (.f 81) [(.t 28)], none⟩,
    ⟨(some 2), .val (.mov (.t 29)), none⟩]
def r78 : RC := .seq (.reg g78_0) (.seq (.seq (.reg g78_1) (.cond (.t 7) (.seq (.reg g78_2) (.ret)) (.skip))) (.seq (.reg g78_3) (.seq (.seq (.reg g78_4) (.block 0 (.loop l78_0))) (.seq (.reg g78_12) (.ret)))))
def o78 : List RR := [.tmp 2]
theorem k78 : chkC Tryz.prog 30 r78 (Tryz.f78.body.getD .skip) = true := by decide +kernel
theorem q78 : chkR Tryz.prog Tryz.f78.results.toList o78 = true := by decide +kernel

/- wireschema/wireschemaref06.IsPart -/
def g81_0 : List Am.Item := [
    ⟨(some 2), .val (.mov (.c (.bool false))), none⟩]
def g81_1 : List Am.Item := [
    ⟨(some 4), .val (.mov (.t 0)), none⟩,
    ⟨(some 5), .val (.len 0 (.t 4)), none⟩,
    ⟨(some 6), .val (.bin .num .eql (.t 5) (.c (.int .i64 0))), none⟩,
    ⟨(some 7), .val (.mov (.t 6)), none⟩,
    ⟨(some 8), .val (.mov (.t 0)), (some (7, false))⟩,
    ⟨(some 9), .val (.len 0 (.t 8)), (some (7, false))⟩,
    ⟨(some 10), .val (.bin .num .gtr (.t 9) (.c (.int .i64 40))), (some (7, false))⟩,
    ⟨(some 11), .val (.pick (.t 7) (.c (.bool true)) (.t 10)), none⟩,
    ⟨(some 12), .val (.mov (.t 11)), none⟩,
    ⟨(some 13), .val (.mov (.t 0)), (some (12, false))⟩,
    ⟨(some 14), .val (.idx (.t 13) (.c (.int .i64 0))), (some (12, false))⟩,
    ⟨(some 15), .callR (.f 105) [(.t 14)], (some (12, false))⟩,
    ⟨(some 16), .val (.un .not (.t 15)), (some (12, false))⟩,
    ⟨(some 17), .val (.mov (.t 16)), (some (12, false))⟩,
    ⟨(some 18), .val (.mov (.t 0)), (some (17, true))⟩,
    ⟨(some 19), .val (.idx (.t 18) (.c (.int .i64 0))), (some (17, true))⟩,
    ⟨(some 20), .callR (.f 106) [(.t 19)], (some (17, true))⟩,
    ⟨(some 21), .val (.un .not (.t 20)), (some (17, true))⟩,
    ⟨(some 22), .val (.pick (.t 17) (.t 21) (.c (.bool false))), (some (12, false))⟩,
    ⟨(some 23), .val (.pick (.t 12) (.c (.bool true)) (.t 22)), none⟩]
def g81_2 : List Am.Item := [
    ⟨(some 2), .val (.mov (.c (.bool false))), none⟩]
def g81_3 : List Am.Item := [
    ⟨(some 3), .val (.mov (.c (.int .i64 1))), none⟩]
def g81_4 : List Am.Item := [
    ⟨(some 24), .val (.mov (.t 3)), none⟩,
    ⟨(some 25), .val (.mov (.t 0)), none⟩,
    ⟨(some 26), .val (.len 0 (.t 25)), none⟩,
    ⟨(some 27), .val (.bin .num .lss (.t 24) (.t 26)), none⟩]
def g81_6 : List Am.Item := [
    ⟨(some 30), .val (.mov (.t 0)), none⟩,
    ⟨(some 31), .val (.mov (.t 3)), none⟩,
    ⟨(some 32), .val (.idx (.t 30) (.t 31)), none⟩,
    ⟨(some 33), .callR (.f 105) [(.t 32)], none⟩,
    ⟨(some 34), .val (.un .not (.t 33)), none⟩,
    ⟨(some 35), .val (.mov (.t 34)), none⟩,
    ⟨(some 36), .val (.mov (.t 0)), (some (35, true))⟩,
    ⟨(some 37), .val (.mov (.t 3)), (some (35, true))⟩,
    ⟨(some 38), .val (.idx (.t 36) (.t 37)), (some (35, true))⟩,
    ⟨(some 39), .callR (.f 106) [(.t 38)], (some (35, true))⟩,
    ⟨(some 40), .val (.un .not (.t 39)), (some (35, true))⟩,
    ⟨(some 41), .val (.pick (.t 35) (.t 40) (.c (.bool false))), none⟩,
    ⟨(some 42), .val (.mov (.t 41)), none⟩,
    ⟨(some 43), .val (.mov (.t 0)), (some (42, true))⟩,
    ⟨(some 44), .val (.mov (.t 3)), (some (42, true))⟩,
    ⟨(some 45), .val (.idx (.t 43) (.t 44)), (some (42, true))⟩,
    ⟨(some 46), .val (.bin .num .neq (.t 45) (.c (.int .u8 95))), (some (42, true))⟩,
    ⟨(some 47), .val (.pick (.t 42) (.t 46) (.c (.bool false))), none⟩,
    ⟨(some 48), .val (.mov (.t 47)), none⟩,
    ⟨(some 49), .val (.mov (.t 0)), (some (48, true))⟩,
    ⟨(some 50), .val (.mov (.t 3)), (some (48, true))⟩,
    ⟨(some 51), .val (.idx (.t 49) (.t 50)), (some (48, true))⟩,
    ⟨(some 52), .val (.bin .num .lss (.t 51) (.c (.int .u8 48))), (some (48, true))⟩,
    ⟨(some 53), .val (.mov (.t 52)), (some (48, true))⟩,
    ⟨(some 54), .val (.mov (.t 0)), (some (53, false))⟩,
    ⟨(some 55), .val (.mov (.t 3)), (some (53, false))⟩,
    ⟨(some 56), .val (.idx (.t 54) (.t 55)), (some (53, false))⟩,
    ⟨(some 57), .val (.bin .num .gtr (.t 56) (.c (.int .u8 57))), (some (53, false))⟩,
    ⟨(some 58), .val (.pick (.t 53) (.c (.bool true)) (.t 57)), (some (48, true))⟩,
    ⟨(some 59), .val (.pick (.t 48) (.t 58) (.c (.bool false))), none⟩]
def g81_7 : List Am.Item := [
    ⟨(some 2), .val (.mov (.c (.bool false))), none⟩]
def g81_5 : List Am.Item := [
    ⟨(some 28), .val (.mov (.t 3)), none⟩,
    ⟨(some 29), .val (.bin .num .add (.t 28) (.c (.int .i64 1))), none⟩,
    ⟨(some 3), .val (.mov (.t 29)), none⟩]
def l81_0 : RC := .seq (.seq (.reg g81_4) (.cond (.t 27) (.skip) (.exit 0))) (.seq (.block 1 (.seq (.reg g81_6) (.cond (.t 59) (.seq (.reg g81_7) (.ret)) (.skip)))) (.reg g81_5))
def g81_8 : List Am.Item := [
    ⟨(some 2), .val (.mov (.c (.bool true))), none⟩]
def r81 : RC := .seq (.reg g81_0) (.seq (.seq (.reg g81_1) (.cond (.t 23) (.seq (.reg g81_2) (.ret)) (.skip))) (.seq (.seq (.reg g81_3) (.block 0 (.loop l81_0))) (.seq (.reg g81_8) (.ret))))
def o81 : List RR := [.tmp 2]
theorem k81 : chkC Tryz.prog 60 r81 (Tryz.f81.body.getD .skip) = true := by decide +kernel
theorem q81 : chkR Tryz.prog Tryz.f81.results.toList o81 = true := by decide +kernel

/- wireschema/wireschemaref06.IsWord -/
def g80_0 : List Am.Item := [
    ⟨(some 2), .val (.mov (.c (.bool false))), none⟩]
def g80_1 : List Am.Item := [
    ⟨(some 3), .val (.mov (.t 0)), none⟩]
def g80_2 : List Am.Item := [
    ⟨(some 5), .val (.bin .str .eql (.t 3) (.c (.str [109, 101, 115, 115, 97, 103, 101]))), none⟩,
    ⟨(some 4), .val (.mov (.t 5)), none⟩]
def g80_3 : List Am.Item := [
    ⟨(some 6), .val (.bin .str .eql (.t 3) (.c (.str [101, 110, 117, 109]))), none⟩,
    ⟨(some 4), .val (.mov (.t 6)), none⟩]
def g80_4 : List Am.Item := [
    ⟨(some 7), .val (.bin .str .eql (.t 3) (.c (.str [115, 101, 114, 118, 105, 99, 101]))), none⟩,
    ⟨(some 4), .val (.mov (.t 7)), none⟩]
def g80_5 : List Am.Item := [
    ⟨(some 8), .val (.bin .str .eql (.t 3) (.c (.str [117, 110, 105, 111, 110]))), none⟩,
    ⟨(some 4), .val (.mov (.t 8)), none⟩]
def g80_6 : List Am.Item := [
    ⟨(some 9), .val (.bin .str .eql (.t 3) (.c (.str [109, 97, 112]))), none⟩,
    ⟨(some 4), .val (.mov (.t 9)), none⟩]
def g80_7 : List Am.Item := [
    ⟨(some 10), .val (.bin .str .eql (.t 3) (.c (.str [108, 105, 115, 116]))), none⟩,
    ⟨(some 4), .val (.mov (.t 10)), none⟩]
def g80_8 : List Am.Item := [
    ⟨(some 11), .val (.bin .str .eql (.t 3) (.c (.str [114, 101, 113, 117, 105, 114, 101, 100]))), none⟩,
    ⟨(some 4), .val (.mov (.t 11)), none⟩]
def g80_9 : List Am.Item := [
    ⟨(some 12), .val (.bin .str .eql (.t 3) (.c (.str [111, 112, 116, 105, 111, 110, 97, 108]))), none⟩,
    ⟨(some 4), .val (.mov (.t 12)), none⟩]
def g80_10 : List Am.Item := [
    ⟨(some 13), .val (.bin .str .eql (.t 3) (.c (.str [112, 108, 97, 105, 110]))), none⟩,
    ⟨(some 4), .val (.mov (.t 13)), none⟩]
def g80_11 : List Am.Item := [
    ⟨(some 14), .val (.bin .str .eql (.t 3) (.c (.str [100, 101, 102, 97, 117, 108, 116]))), none⟩,
    ⟨(some 4), .val (.mov (.t 14)), none⟩]
def g80_12 : List Am.Item := [
    ⟨(some 15), .val (.bin .str .eql (.t 3) (.c (.str [114, 101, 115, 101, 114, 118, 101, 100]))), none⟩,
    ⟨(some 4), .val (.mov (.t 15)), none⟩]
def g80_13 : List Am.Item := [
    ⟨(some 16), .val (.bin .str .eql (.t 3) (.c (.str [105, 109, 112, 111, 114, 116]))), none⟩,
    ⟨(some 4), .val (.mov (.t 16)), none⟩]
def g80_14 : List Am.Item := [
    ⟨(some 17), .val (.bin .str .eql (.t 3) (.c (.str [115, 112, 97, 99, 101]))), none⟩,
    ⟨(some 4), .val (.mov (.t 17)), none⟩]
def g80_15 : List Am.Item := [
    ⟨(some 18), .val (.bin .str .eql (.t 3) (.c (.str [114, 112, 99]))), none⟩,
    ⟨(some 4), .val (.mov (.t 18)), none⟩]
def g80_16 : List Am.Item := [
    ⟨(some 19), .val (.bin .str .eql (.t 3) (.c (.str [115, 116, 114, 101, 97, 109]))), none⟩,
    ⟨(some 4), .val (.mov (.t 19)), none⟩]
def g80_17 : List Am.Item := [
    ⟨(some 20), .val (.bin .str .eql (.t 3) (.c (.str [114, 101, 116, 117, 114, 110, 115]))), none⟩,
    ⟨(some 4), .val (.mov (.t 20)), none⟩]
def g80_18 : List Am.Item := [
    ⟨(some 21), .val (.bin .str .eql (.t 3) (.c (.str [111, 112, 101, 110]))), none⟩,
    ⟨(some 4), .val (.mov (.t 21)), none⟩]
def g80_19 : List Am.Item := [
    ⟨(some 22), .val (.bin .str .eql (.t 3) (.c (.str [116, 114, 117, 101]))), none⟩,
    ⟨(some 4), .val (.mov (.t 22)), none⟩]
def g80_20 : List Am.Item := [
    ⟨(some 23), .val (.bin .str .eql (.t 3) (.c (.str [102, 97, 108, 115, 101]))), none⟩,
    ⟨(some 4), .val (.mov (.t 23)), none⟩]
def g80_21 : List Am.Item := [
    ⟨(some 24), .val (.bin .str .eql (.t 3) (.c (.str [110, 97, 110]))), none⟩,
    ⟨(some 4), .val (.mov (.t 24)), none⟩]
def g80_22 : List Am.Item := [
    ⟨(some 25), .val (.bin .str .eql (.t 3) (.c (.str [105, 110, 102]))), none⟩,
    ⟨(some 4), .val (.mov (.t 25)), none⟩]
def g80_23 : List Am.Item := [
    ⟨(some 2), .val (.mov (.c (.bool true))), none⟩]
def g80_24 : List Am.Item := [
    ⟨(some 2), .val (.mov (.c (.bool false))), none⟩]
def r80 : RC := .seq (.reg g80_0) (.seq (.seq (.reg g80_1) (.block 0 (.seq (.seq (.reg g80_2) (.cond (.t 4) (.skip) (.seq (.reg g80_3) (.cond (.t 4) (.skip) (.seq (.reg g80_4) (.cond (.t 4) (.skip) (.seq (.reg g80_5) (.cond (.t 4) (.skip) (.seq (.reg g80_6) (.cond (.t 4) (.skip) (.seq (.reg g80_7) (.cond (.t 4) (.skip) (.seq (.reg g80_8) (.cond (.t 4) (.skip) (.seq (.reg g80_9) (.cond (.t 4) (.skip) (.seq (.reg g80_10) (.cond (.t 4) (.skip) (.seq (.reg g80_11) (.cond (.t 4) (.skip) (.seq (.reg g80_12) (.cond (.t 4) (.skip) (.seq (.reg g80_13) (.cond (.t 4) (.skip) (.seq (.reg g80_14) (.cond (.t 4) (.skip) (.seq (.reg g80_15) (.cond (.t 4) (.skip) (.seq (.reg g80_16) (.cond (.t 4) (.skip) (.seq (.reg g80_17) (.cond (.t 4) (.skip) (.seq (.reg g80_18) (.cond (.t 4) (.skip) (.seq (.reg g80_19) (.cond (.t 4) (.skip) (.seq (.reg g80_20) (.cond (.t 4) (.skip) (.seq (.reg g80_21) (.cond (.t 4) (.skip) (.reg g80_22))))))))))))))))))))))))))))))))))))))))) (.cond (.t 4) (.seq (.reg g80_23) (.ret)) (.skip))))) (.seq (.reg g80_24) (.ret)))
def o80 : List RR := [.tmp 2]
theorem k80 : chkC Tryz.prog 26 r80 (Tryz.f80.body.getD .skip) = true := by decide +kernel
theorem q80 : chkR Tryz.prog Tryz.f80.results.toList o80 = true := by decide +kernel

/- wireschema/wireschemaref06.Split -/
def g79_0 : List Am.Item := [
    ⟨(some 2), .val (.mov (.c (.str []))), none⟩,
    ⟨(some 3), .val (.mov (.c (.str []))), none⟩]
def g79_1 : List Am.Item := [
    ⟨(some 5), .val (.mov (.t 0)), none⟩,
    ⟨(some 6), .val (.len 0 (.t 5)), none⟩,
    ⟨(some 7), .val (.bin .num .sub (.t 6) (.c (.int .i64 1))), none⟩,
    ⟨(some 4), .val (.mov (.t 7)), none⟩]
def g79_2 : List Am.Item := [
    ⟨(some 8), .val (.mov (.t 4)), none⟩,
    ⟨(some 9), .val (.bin .num .geq (.t 8) (.c (.int .i64 0))), none⟩]
def g79_4 : List Am.Item := [
    ⟨(some 12), .val (.mov (.t 0)), none⟩,
    ⟨(some 13), .val (.mov (.t 4)), none⟩,
    ⟨(some 14), .val (.idx (.t 12) (.t 13)), none⟩,
    ⟨(some 15), .val (.bin .num .eql (.t 14) (.c (.int .u8 46))), none⟩]
def g79_5 : List Am.Item := [
    ⟨(some 16), .val (.mov (.t 0)), none⟩,
    ⟨(some 17), .val (.mov (.t 4)), none⟩,
    ⟨(some 18), .val (.slc none (.t 16) none (some (.t 17)) none), none⟩,
    ⟨(some 19), .val (.mov (.t 0)), none⟩,
    ⟨(some 20), .val (.mov (.t 4)), none⟩,
    ⟨(some 21), .val (.bin .num .add (.t 20) (.c (.int .i64 1))), none⟩,
    ⟨(some 22), .val (.slc none (.t 19) (some (.t 21)) none none), none⟩,
    ⟨(some 2), .val (.mov (.t 18)), none⟩,
    ⟨(some 3), .val (.mov (.t 22)), none⟩]
def g79_3 : List Am.Item := [
    ⟨(some 10), .val (.mov (.t 4)), none⟩,
    ⟨(some 11), .val (.bin .num .sub (.t 10) (.c (.int .i64 1))), none⟩,
    ⟨(some 4), .val (.mov (.t 11)), none⟩]
def l79_0 : RC := .seq (.seq (.reg g79_2) (.cond (.t 9) (.skip) (.exit 0))) (.seq (.block 1 (.seq (.reg g79_4) (.cond (.t 15) (.seq (.draw g79_5) (.ret)) (.skip)))) (.reg g79_3))
def g79_6 : List Am.Item := [
    ⟨(some 23), .val (.mov (.t 0)), none⟩,
    ⟨(some 2), .val (.mov (.c (.str []))), none⟩,
    ⟨(some 3), .val (.mov (.t 23)), none⟩]
def r79 : RC := .seq (.reg g79_0) (.seq (.seq (.reg g79_1) (.block 0 (.loop l79_0))) (.seq (.reg g79_6) (.ret)))
def o79 : List RR := [.tmp 2, .tmp 3]
theorem k79 : chkC Tryz.prog 24 r79 (Tryz.f79.body.getD .skip) = true := by decide +kernel
theorem q79 : chkR Tryz.prog Tryz.f79.results.toList o79 = true := by decide +kernel

/- wireschema/wireschemaref06.small -/
def g105_0 : List Am.Item := [
    ⟨(some 2), .val (.mov (.c (.bool false))), none⟩]
def g105_1 : List Am.Item := [
    ⟨(some 3), .val (.mov (.t 0)), none⟩,
    ⟨(some 4), .val (.bin .num .geq (.t 3) (.c (.int .u8 97))), none⟩,
    ⟨(some 5), .val (.mov (.t 4)), none⟩,
    ⟨(some 6), .val (.mov (.t 0)), (some (5, true))⟩,
    ⟨(some 7), .val (.bin .num .leq (.t 6) (.c (.int .u8 122))), (some (5, true))⟩,
    ⟨(some 8), .val (.pick (.t 5) (.t 7) (.c (.bool false))), none⟩,
    ⟨(some 2), .val (.mov (.t 8)), none⟩]
def r105 : RC := .seq (.reg g105_0) (.seq (.reg g105_1) (.ret))
def o105 : List RR := [.tmp 2]
theorem k105 : chkC Tryz.prog 9 r105 (Tryz.f105.body.getD .skip) = true := by decide +kernel
theorem q105 : chkR Tryz.prog Tryz.f105.results.toList o105 = true := by decide +kernel

/- wireschema/wireschemaref06.capital -/
def g106_0 : List Am.Item := [
    ⟨(some 2), .val (.mov (.c (.bool false))), none⟩]
def g106_1 : List Am.Item := [
    ⟨(some 3), .val (.mov (.t 0)), none⟩,
    ⟨(some 4), .val (.bin .num .geq (.t 3) (.c (.int .u8 65))), none⟩,
    ⟨(some 5), .val (.mov (.t 4)), none⟩,
    ⟨(some 6), .val (.mov (.t 0)), (some (5, true))⟩,
    ⟨(some 7), .val (.bin .num .leq (.t 6) (.c (.int .u8 90))), (some (5, true))⟩,
    ⟨(some 8), .val (.pick (.t 5) (.t 7) (.c (.bool false))), none⟩,
    ⟨(some 2), .val (.mov (.t 8)), none⟩]
def r106 : RC := .seq (.reg g106_0) (.seq (.reg g106_1) (.ret))
def o106 : List RR := [.tmp 2]
theorem k106 : chkC Tryz.prog 9 r106 (Tryz.f106.body.getD .skip) = true := by decide +kernel
theorem q106 : chkR Tryz.prog Tryz.f106.results.toList o106 = true := by decide +kernel

/- wireschema/wireschemaref22.Check -/
def g9_0 : List Am.Item := [
    ⟨(some 1), .boxN 1 (.t 0), none⟩,
    ⟨(some 2), .val (.mov (.c (.int .i64 0))), none⟩]
def g9_1 : List Am.Item := [
    ⟨(some 4), .val (.load (some 2) (.t 1)), none⟩,
    ⟨(some 5), .callR (.f 28) [(.t 4)], none⟩,
    ⟨(some 6), .val (.un .not (.t 5)), none⟩,
    ⟨(some 3), .val (.mov (.t 6)), none⟩]
def g9_2 : List Am.Item := [
    ⟨(some 2), .val (.mov (.c (.int .i64 3))), none⟩]
def g9_3 : List Am.Item := [
    ⟨(some 8), .val (.load (some 2) (.t 1)), none⟩,
    ⟨(some 9), .callR (.f 29) [(.t 8)], none⟩,
    ⟨(some 10), .val (.un .not (.t 9)), none⟩,
    ⟨(some 7), .val (.mov (.t 10)), none⟩]
def g9_4 : List Am.Item := [
    ⟨(some 2), .val (.mov (.c (.int .i64 8))), none⟩]
def g9_5 : List Am.Item := [
    ⟨(some 12), .val (.load (some 2) (.t 1)), none⟩,
    ⟨(some 13), .callR (.f 30) [(.t 12)], none⟩,
    ⟨(some 14), .val (.un .not (.t 13)), none⟩,
    ⟨(some 11), .val (.mov (.t 14)), none⟩]
def g9_6 : List Am.Item := [
    ⟨(some 2), .val (.mov (.c (.int .i64 11))), none⟩]
def g9_7 : List Am.Item := [
    ⟨(some 16), .val (.load (some 2) (.t 1)), none⟩,
    ⟨(some 17), .callR (.f 31) [(.t 16)], none⟩,
    ⟨(some 18), .val (.un .not (.t 17)), none⟩,
    ⟨(some 15), .val (.mov (.t 18)), none⟩]
def g9_8 : List Am.Item := [
    ⟨(some 2), .val (.mov (.c (.int .i64 9))), none⟩]
def g9_9 : List Am.Item := [
    ⟨(some 20), .val (.load (some 2) (.t 1)), none⟩,
    ⟨(some 21), .callR (.f 32) [(.t 20)], none⟩,
    ⟨(some 22), .val (.un .not (.t 21)), none⟩,
    ⟨(some 19), .val (.mov (.t 22)), none⟩]
def g9_10 : List Am.Item := [
    ⟨(some 2), .val (.mov (.c (.int .i64 6))), none⟩]
def g9_11 : List Am.Item := [
    ⟨(some 24), .val (.load (some 2) (.t 1)), none⟩,
    ⟨(some 25), .callR (.f 33) [(.t 24)], none⟩,
    ⟨(some 26), .val (.un .not (.t 25)), none⟩,
    ⟨(some 23), .val (.mov (.t 26)), none⟩]
def g9_12 : List Am.Item := [
    ⟨(some 2), .val (.mov (.c (.int .i64 1))), none⟩]
def g9_13 : List Am.Item := [
    ⟨(some 28), .val (.load (some 2) (.t 1)), none⟩,
    ⟨(some 29), .callR (.f 34) [(.t 28)], none⟩,
    ⟨(some 30), .val (.un .not (.t 29)), none⟩,
    ⟨(some 27), .val (.mov (.t 30)), none⟩]
def g9_14 : List Am.Item := [
    ⟨(some 2), .val (.mov (.c (.int .i64 19))), none⟩]
def g9_15 : List Am.Item := [
    ⟨(some 2), .val (.mov (.c (.int .i64 0))), none⟩]
def r9 : RC := .seq (.reg g9_0) (.seq (.block 0 (.seq (.reg g9_1) (.cond (.t 3) (.seq (.reg g9_2) (.ret)) (.seq (.reg g9_3) (.cond (.t 7) (.seq (.reg g9_4) (.ret)) (.seq (.reg g9_5) (.cond (.t 11) (.seq (.reg g9_6) (.ret)) (.seq (.reg g9_7) (.cond (.t 15) (.seq (.reg g9_8) (.ret)) (.seq (.reg g9_9) (.cond (.t 19) (.seq (.reg g9_10) (.ret)) (.seq (.reg g9_11) (.cond (.t 23) (.seq (.reg g9_12) (.ret)) (.seq (.reg g9_13) (.cond (.t 27) (.seq (.reg g9_14) (.ret)) (.skip)))))))))))))))) (.seq (.reg g9_15) (.ret)))
def o9 : List RR := [.tmp 2]
theorem k9 : chkC Tryz.prog 31 r9 (Tryz.f9.body.getD .skip) = true := by decide +kernel
theorem q9 : chkR Tryz.prog Tryz.f9.results.toList o9 = true := by decide +kernel

/- wireschema/wireschemalaw25.usable -/
def g4_0 : List Am.Item := [
    ⟨(some 1), .boxN 1 (.t 0), none⟩,
    ⟨(some 2), .val (.mov (.c (.bool false))), none⟩]
def g4_1 : List Am.Item := [
    ⟨(some 3), .val (.faddr 0 (.t 1)), none⟩,
    ⟨(some 4), .val (.load none (.t 3)), none⟩,
    ⟨(some 5), .val (.len 1 (.t 4)), none⟩,
    ⟨(some 6), .val (.bin .num .leq (.t 5) (.c (.int .i64 8))), none⟩,
    ⟨(some 7), .val (.mov (.t 6)), none⟩,
    ⟨(some 8), .val (.faddr 1 (.t 1)), (some (7, true))⟩,
    ⟨(some 9), .val (.load none (.t 8)), (some (7, true))⟩,
    ⟨(some 10), .val (.len 1 (.t 9)), (some (7, true))⟩,
    ⟨(some 11), .val (.bin .num .leq (.t 10) (.c (.int .i64 8))), (some (7, true))⟩,
    ⟨(some 12), .val (.pick (.t 7) (.t 11) (.c (.bool false))), none⟩,
    ⟨(some 13), .val (.mov (.t 12)), none⟩,
    ⟨(some 14), .val (.load (some 2) (.t 1)), (some (13, true))⟩,
    ⟨(some 15), .callR (.f 9) [(.t 14)], (some (13, true))⟩,
    ⟨(some 16), .val (.bin .num .eql (.t 15) (.c (.int .i64 0))), (some (13, true))⟩,
    ⟨(some 17), .val (.pick (.t 13) (.t 16) (.c (.bool false))), none⟩,
    ⟨(some 2), .val (.mov (.t 17)), none⟩]
def r4 : RC := .seq (.reg g4_0) (.seq (.reg g4_1) (.ret))
def o4 : List RR := [.tmp 2]
theorem k4 : chkC Tryz.prog 18 r4 (Tryz.f4.body.getD .skip) = true := by decide +kernel
theorem q4 : chkR Tryz.prog Tryz.f4.results.toList o4 = true := by decide +kernel

/- wireschema/utf.Bad -/
def g36_0 : List Am.Item := [
    ⟨(some 2), .val (.mov (.c (.int .i64 0))), none⟩]
def g36_1 : List Am.Item := [
    ⟨(some 5), .val (.mov (.t 0)), none⟩,
    ⟨(some 6), .rngs 6 (.t 5), none⟩]
def g36_2 : List Am.Item := [
    ⟨(some 7), .nxts (.t 6), none⟩,
    ⟨(some 8), .val (.ext (.t 7) 0), none⟩]
def g36_3 : List Am.Item := [
    ⟨(some 9), .val (.ext (.t 7) 1), none⟩,
    ⟨(some 10), .val (.ext (.t 7) 2), none⟩,
    ⟨(some 3), .val (.mov (.t 9)), none⟩,
    ⟨(some 4), .val (.mov (.t 10)), none⟩]
def g36_4 : List Am.Item := [
    ⟨(some 11), .val (.mov (.t 0)), none⟩,
    ⟨(some 12), .val (.mov (.t 3)), none⟩,
    ⟨(some 13), .val (.mov (.t 4)), none⟩,
    ⟨(some 14), .call (.f 59) [(.t 11), (.t 12), (.t 13)], none⟩]
def g36_5 : List Am.Item := [
    ⟨(some 15), .val (.mov (.t 3)), none⟩,
    ⟨(some 2), .val (.mov (.t 15)), none⟩]
def l36_0 : RC := .seq (.reg g36_2) (.seq (.cond (.t 8) (.skip) (.exit 0)) (.block 1 (.seq (.reg g36_3) (.seq (.reg g36_4) (.cond (.t 14) (.seq (.reg g36_5) (.ret)) (.skip))))))
def g36_6 : List Am.Item := [
    ⟨(some 2), .val (.mov (.c (.int .i64 (-1)))), none⟩]
def r36 : RC := .seq (.reg g36_0) (.seq (.seq (.reg g36_1) (.block 0 (.loop l36_0))) (.seq (.reg g36_6) (.ret)))
def o36 : List RR := [.tmp 2]
theorem k36 : chkC Tryz.prog 16 r36 (Tryz.f36.body.getD .skip) = true := by decide +kernel
theorem q36 : chkR Tryz.prog Tryz.f36.results.toList o36 = true := by decide +kernel

/- wireschema/wireschemaref03.between -/
def g88_0 : List Am.Item := [
    ⟨(some 8), .val (.mov (.c (.bool false))), none⟩]
def g88_1 : List Am.Item := [
    ⟨(some 9), .val (.mov (.t 1)), none⟩,
    ⟨(some 10), .val (.mov (.t 0)), none⟩,
    ⟨(some 11), .val (.len 0 (.t 10)), none⟩,
    ⟨(some 12), .val (.bin .num .lss (.t 9) (.t 11)), none⟩,
    ⟨(some 13), .val (.mov (.t 12)), none⟩,
    ⟨(some 14), .val (.mov (.t 0)), (some (13, true))⟩,
    ⟨(some 15), .val (.mov (.t 1)), (some (13, true))⟩,
    ⟨(some 16), .val (.idx (.t 14) (.t 15)), (some (13, true))⟩,
    ⟨(some 17), .val (.mov (.t 2)), (some (13, true))⟩,
    ⟨(some 18), .val (.bin .num .geq (.t 16) (.t 17)), (some (13, true))⟩,
    ⟨(some 19), .val (.pick (.t 13) (.t 18) (.c (.bool false))), none⟩,
    ⟨(some 20), .val (.mov (.t 19)), none⟩,
    ⟨(some 21), .val (.mov (.t 0)), (some (20, true))⟩,
    ⟨(some 22), .val (.mov (.t 1)), (some (20, true))⟩,
    ⟨(some 23), .val (.idx (.t 21) (.t 22)), (some (20, true))⟩,
    ⟨(some 24), .val (.mov (.t 3)), (some (20, true))⟩,
    ⟨(some 25), .val (.bin .num .leq (.t 23) (.t 24)), (some (20, true))⟩,
    ⟨(some 26), .val (.pick (.t 20) (.t 25) (.c (.bool false))), none⟩,
    ⟨(some 8), .val (.mov (.t 26)), none⟩]
def r88 : RC := .seq (.reg g88_0) (.seq (.reg g88_1) (.ret))
def o88 : List RR := [.tmp 8]
theorem k88 : chkC Tryz.prog 27 r88 (Tryz.f88.body.getD .skip) = true := by decide +kernel
theorem q88 : chkR Tryz.prog Tryz.f88.results.toList o88 = true := by decide +kernel

/- wireschema/wireschemaref03.tail -/
def g87_0 : List Am.Item := [
    ⟨(some 6), .val (.mov (.c (.bool false))), none⟩]
def g87_1 : List Am.Item := [
    ⟨(some 7), .val (.mov (.c (.int .i64 0))), none⟩]
def g87_2 : List Am.Item := [
    ⟨(some 8), .val (.mov (.t 7)), none⟩,
    ⟨(some 9), .val (.mov (.t 2)), none⟩,
    ⟨(some 10), .val (.bin .num .lss (.t 8) (.t 9)), none⟩]
def g87_4 : List Am.Item := [
    ⟨(some 13), .val (.mov (.t 0)), none⟩,
    ⟨(some 14), .val (.mov (.t 1)), none⟩,
    ⟨(some 15), .val (.mov (.t 7)), none⟩,
    ⟨(some 16), .val (.bin .num .add (.t 14) (.t 15)), none⟩,
    ⟨(some 17), .call (.f 88) [(.t 13), (.t 16), (.c (.int .u8 128)), (.c (.int .u8 191))], none⟩,
    ⟨(some 18), .val (.un .not (.t 17)), none⟩]
def g87_5 : List Am.Item := [
    ⟨(some 6), .val (.mov (.c (.bool false))), none⟩]
def g87_3 : List Am.Item := [
    ⟨(some 11), .val (.mov (.t 7)), none⟩,
    ⟨(some 12), .val (.bin .num .add (.t 11) (.c (.int .i64 1))), none⟩,
    ⟨(some 7), .val (.mov (.t 12)), none⟩]
def l87_0 : RC := .seq (.seq (.reg g87_2) (.cond (.t 10) (.skip) (.exit 0))) (.seq (.block 1 (.seq (.reg g87_4) (.cond (.t 18) (.seq (.reg g87_5) (.ret)) (.skip)))) (.reg g87_3))
def g87_6 : List Am.Item := [
    ⟨(some 6), .val (.mov (.c (.bool true))), none⟩]
def r87 : RC := .seq (.reg g87_0) (.seq (.seq (.reg g87_1) (.block 0 (.loop l87_0))) (.seq (.reg g87_6) (.ret)))
def o87 : List RR := [.tmp 6]
theorem k87 : chkC Tryz.prog 19 r87 (Tryz.f87.body.getD .skip) = true := by decide +kernel
theorem q87 : chkR Tryz.prog Tryz.f87.results.toList o87 = true := by decide +kernel

/- wireschema/wireschemaref03.Size -/
def g63_0 : List Am.Item := [
    ⟨(some 4), .val (.mov (.c (.int .i64 0))), none⟩]
def g63_1 : List Am.Item := [
    ⟨(some 6), .val (.mov (.t 0)), none⟩,
    ⟨(some 7), .val (.mov (.t 1)), none⟩,
    ⟨(some 8), .val (.idx (.t 6) (.t 7)), none⟩,
    ⟨(some 5), .val (.mov (.t 8)), none⟩]
def g63_2 : List Am.Item := [
    ⟨(some 10), .val (.mov (.t 5)), none⟩,
    ⟨(some 11), .val (.bin .num .lss (.t 10) (.c (.int .u8 128))), none⟩,
    ⟨(some 9), .val (.mov (.t 11)), none⟩]
def g63_3 : List Am.Item := [
    ⟨(some 4), .val (.mov (.c (.int .i64 1))), none⟩]
def g63_4 : List Am.Item := [
    ⟨(some 13), .val (.mov (.t 5)), none⟩,
    ⟨(some 14), .val (.bin .num .geq (.t 13) (.c (.int .u8 194))), none⟩,
    ⟨(some 15), .val (.mov (.t 14)), none⟩,
    ⟨(some 16), .val (.mov (.t 5)), (some (15, true))⟩,
    ⟨(some 17), .val (.bin .num .leq (.t 16) (.c (.int .u8 223))), (some (15, true))⟩,
    ⟨(some 18), .val (.pick (.t 15) (.t 17) (.c (.bool false))), none⟩,
    ⟨(some 19), .val (.mov (.t 18)), none⟩,
    ⟨(some 20), .val (.mov (.t 0)), (some (19, true))⟩,
    ⟨(some 21), .val (.mov (.t 1)), (some (19, true))⟩,
    ⟨(some 22), .val (.bin .num .add (.t 21) (.c (.int .i64 1))), (some (19, true))⟩,
    ⟨(some 23), .call (.f 87) [(.t 20), (.t 22), (.c (.int .i64 1))], (some (19, true))⟩,
    ⟨(some 24), .val (.pick (.t 19) (.t 23) (.c (.bool false))), none⟩,
    ⟨(some 12), .val (.mov (.t 24)), none⟩]
def g63_5 : List Am.Item := [
    ⟨(some 4), .val (.mov (.c (.int .i64 2))), none⟩]
def g63_6 : List Am.Item := [
    ⟨(some 26), .val (.mov (.t 5)), none⟩,
    ⟨(some 27), .val (.bin .num .eql (.t 26) (.c (.int .u8 224))), none⟩,
    ⟨(some 28), .val (.mov (.t 27)), none⟩,
    ⟨(some 29), .val (.mov (.t 0)), (some (28, true))⟩,
    ⟨(some 30), .val (.mov (.t 1)), (some (28, true))⟩,
    ⟨(some 31), .val (.bin .num .add (.t 30) (.c (.int .i64 1))), (some (28, true))⟩,
    ⟨(some 32), .call (.f 88) [(.t 29), (.t 31), (.c (.int .u8 160)), (.c (.int .u8 191))], (some (28, true))⟩,
    ⟨(some 33), .val (.pick (.t 28) (.t 32) (.c (.bool false))), none⟩,
    ⟨(some 34), .val (.mov (.t 33)), none⟩,
    ⟨(some 35), .val (.mov (.t 0)), (some (34, true))⟩,
    ⟨(some 36), .val (.mov (.t 1)), (some (34, true))⟩,
    ⟨(some 37), .val (.bin .num .add (.t 36) (.c (.int .i64 2))), (some (34, true))⟩,
    ⟨(some 38), .call (.f 87) [(.t 35), (.t 37), (.c (.int .i64 1))], (some (34, true))⟩,
    ⟨(some 39), .val (.pick (.t 34) (.t 38) (.c (.bool false))), none⟩,
    ⟨(some 25), .val (.mov (.t 39)), none⟩]
def g63_7 : List Am.Item := [
    ⟨(some 4), .val (.mov (.c (.int .i64 3))), none⟩]
def g63_8 : List Am.Item := [
    ⟨(some 41), .val (.mov (.t 5)), none⟩,
    ⟨(some 42), .val (.bin .num .eql (.t 41) (.c (.int .u8 237))), none⟩,
    ⟨(some 43), .val (.mov (.t 42)), none⟩,
    ⟨(some 44), .val (.mov (.t 0)), (some (43, true))⟩,
    ⟨(some 45), .val (.mov (.t 1)), (some (43, true))⟩,
    ⟨(some 46), .val (.bin .num .add (.t 45) (.c (.int .i64 1))), (some (43, true))⟩,
    ⟨(some 47), .call (.f 88) [(.t 44), (.t 46), (.c (.int .u8 128)), (.c (.int .u8 159))], (some (43, true))⟩,
    ⟨(some 48), .val (.pick (.t 43) (.t 47) (.c (.bool false))), none⟩,
    ⟨(some 49), .val (.mov (.t 48)), none⟩,
    ⟨(some 50), .val (.mov (.t 0)), (some (49, true))⟩,
    ⟨(some 51), .val (.mov (.t 1)), (some (49, true))⟩,
    ⟨(some 52), .val (.bin .num .add (.t 51) (.c (.int .i64 2))), (some (49, true))⟩,
    ⟨(some 53), .call (.f 87) [(.t 50), (.t 52), (.c (.int .i64 1))], (some (49, true))⟩,
    ⟨(some 54), .val (.pick (.t 49) (.t 53) (.c (.bool false))), none⟩,
    ⟨(some 40), .val (.mov (.t 54)), none⟩]
def g63_9 : List Am.Item := [
    ⟨(some 4), .val (.mov (.c (.int .i64 3))), none⟩]
def g63_10 : List Am.Item := [
    ⟨(some 56), .val (.mov (.t 5)), none⟩,
    ⟨(some 57), .val (.bin .num .geq (.t 56) (.c (.int .u8 225))), none⟩,
    ⟨(some 58), .val (.mov (.t 57)), none⟩,
    ⟨(some 59), .val (.mov (.t 5)), (some (58, true))⟩,
    ⟨(some 60), .val (.bin .num .leq (.t 59) (.c (.int .u8 239))), (some (58, true))⟩,
    ⟨(some 61), .val (.pick (.t 58) (.t 60) (.c (.bool false))), none⟩,
    ⟨(some 62), .val (.mov (.t 61)), none⟩,
    ⟨(some 63), .val (.mov (.t 5)), (some (62, true))⟩,
    ⟨(some 64), .val (.bin .num .neq (.t 63) (.c (.int .u8 237))), (some (62, true))⟩,
    ⟨(some 65), .val (.pick (.t 62) (.t 64) (.c (.bool false))), none⟩,
    ⟨(some 66), .val (.mov (.t 65)), none⟩,
    ⟨(some 67), .val (.mov (.t 0)), (some (66, true))⟩,
    ⟨(some 68), .val (.mov (.t 1)), (some (66, true))⟩,
    ⟨(some 69), .val (.bin .num .add (.t 68) (.c (.int .i64 1))), (some (66, true))⟩,
    ⟨(some 70), .call (.f 87) [(.t 67), (.t 69), (.c (.int .i64 2))], (some (66, true))⟩,
    ⟨(some 71), .val (.pick (.t 66) (.t 70) (.c (.bool false))), none⟩,
    ⟨(some 55), .val (.mov (.t 71)), none⟩]
def g63_11 : List Am.Item := [
    ⟨(some 4), .val (.mov (.c (.int .i64 3))), none⟩]
def g63_12 : List Am.Item := [
    ⟨(some 73), .val (.mov (.t 5)), none⟩,
    ⟨(some 74), .val (.bin .num .eql (.t 73) (.c (.int .u8 240))), none⟩,
    ⟨(some 75), .val (.mov (.t 74)), none⟩,
    ⟨(some 76), .val (.mov (.t 0)), (some (75, true))⟩,
    ⟨(some 77), .val (.mov (.t 1)), (some (75, true))⟩,
    ⟨(some 78), .val (.bin .num .add (.t 77) (.c (.int .i64 1))), (some (75, true))⟩,
    ⟨(some 79), .call (.f 88) [(.t 76), (.t 78), (.c (.int .u8 144)), (.c (.int .u8 191))], (some (75, true))⟩,
    ⟨(some 80), .val (.pick (.t 75) (.t 79) (.c (.bool false))), none⟩,
    ⟨(some 81), .val (.mov (.t 80)), none⟩,
    ⟨(some 82), .val (.mov (.t 0)), (some (81, true))⟩,
    ⟨(some 83), .val (.mov (.t 1)), (some (81, true))⟩,
    ⟨(some 84), .val (.bin .num .add (.t 83) (.c (.int .i64 2))), (some (81, true))⟩,
    ⟨(some 85), .call (.f 87) [(.t 82), (.t 84), (.c (.int .i64 2))], (some (81, true))⟩,
    ⟨(some 86), .val (.pick (.t 81) (.t 85) (.c (.bool false))), none⟩,
    ⟨(some 72), .val (.mov (.t 86)), none⟩]
def g63_13 : List Am.Item := [
    ⟨(some 4), .val (.mov (.c (.int .i64 4))), none⟩]
def g63_14 : List Am.Item := [
    ⟨(some 88), .val (.mov (.t 5)), none⟩,
    ⟨(some 89), .val (.bin .num .geq (.t 88) (.c (.int .u8 241))), none⟩,
    ⟨(some 90), .val (.mov (.t 89)), none⟩,
    ⟨(some 91), .val (.mov (.t 5)), (some (90, true))⟩,
    ⟨(some 92), .val (.bin .num .leq (.t 91) (.c (.int .u8 243))), (some (90, true))⟩,
    ⟨(some 93), .val (.pick (.t 90) (.t 92) (.c (.bool false))), none⟩,
    ⟨(some 94), .val (.mov (.t 93)), none⟩,
    ⟨(some 95), .val (.mov (.t 0)), (some (94, true))⟩,
    ⟨(some 96), .val (.mov (.t 1)), (some (94, true))⟩,
    ⟨(some 97), .val (.bin .num .add (.t 96) (.c (.int .i64 1))), (some (94, true))⟩,
    ⟨(some 98), .call (.f 87) [(.t 95), (.t 97), (.c (.int .i64 3))], (some (94, true))⟩,
    ⟨(some 99), .val (.pick (.t 94) (.t 98) (.c (.bool false))), none⟩,
    ⟨(some 87), .val (.mov (.t 99)), none⟩]
def g63_15 : List Am.Item := [
    ⟨(some 4), .val (.mov (.c (.int .i64 4))), none⟩]
def g63_16 : List Am.Item := [
    ⟨(some 101), .val (.mov (.t 5)), none⟩,
    ⟨(some 102), .val (.bin .num .eql (.t 101) (.c (.int .u8 244))), none⟩,
    ⟨(some 103), .val (.mov (.t 102)), none⟩,
    ⟨(some 104), .val (.mov (.t 0)), (some (103, true))⟩,
    ⟨(some 105), .val (.mov (.t 1)), (some (103, true))⟩,
    ⟨(some 106), .val (.bin .num .add (.t 105) (.c (.int .i64 1))), (some (103, true))⟩,
    ⟨(some 107), .call (.f 88) [(.t 104), (.t 106), (.c (.int .u8 128)), (.c (.int .u8 143))], (some (103, true))⟩,
    ⟨(some 108), .val (.pick (.t 103) (.t 107) (.c (.bool false))), none⟩,
    ⟨(some 109), .val (.mov (.t 108)), none⟩,
    ⟨(some 110), .val (.mov (.t 0)), (some (109, true))⟩,
    ⟨(some 111), .val (.mov (.t 1)), (some (109, true))⟩,
    ⟨(some 112), .val (.bin .num .add (.t 111) (.c (.int .i64 2))), (some (109, true))⟩,
    ⟨(some 113), .call (.f 87) [(.t 110), (.t 112), (.c (.int .i64 2))], (some (109, true))⟩,
    ⟨(some 114), .val (.pick (.t 109) (.t 113) (.c (.bool false))), none⟩,
    ⟨(some 100), .val (.mov (.t 114)), none⟩]
def g63_17 : List Am.Item := [
    ⟨(some 4), .val (.mov (.c (.int .i64 4))), none⟩]
def g63_18 : List Am.Item := [
    ⟨(some 4), .val (.mov (.c (.int .i64 0))), none⟩]
def r63 : RC := .seq (.reg g63_0) (.seq (.reg g63_1) (.seq (.block 0 (.seq (.reg g63_2) (.cond (.t 9) (.seq (.reg g63_3) (.ret)) (.seq (.reg g63_4) (.cond (.t 12) (.seq (.reg g63_5) (.ret)) (.seq (.reg g63_6) (.cond (.t 25) (.seq (.reg g63_7) (.ret)) (.seq (.reg g63_8) (.cond (.t 40) (.seq (.reg g63_9) (.ret)) (.seq (.reg g63_10) (.cond (.t 55) (.seq (.reg g63_11) (.ret)) (.seq (.reg g63_12) (.cond (.t 72) (.seq (.reg g63_13) (.ret)) (.seq (.reg g63_14) (.cond (.t 87) (.seq (.reg g63_15) (.ret)) (.seq (.reg g63_16) (.cond (.t 100) (.seq (.reg g63_17) (.ret)) (.skip)))))))))))))))))) (.seq (.reg g63_18) (.ret))))
def o63 : List RR := [.tmp 4]
theorem k63 : chkC Tryz.prog 115 r63 (Tryz.f63.body.getD .skip) = true := by decide +kernel
theorem q63 : chkR Tryz.prog Tryz.f63.results.toList o63 = true := by decide +kernel

/- wireschema/wireschemaref03.Bad -/
def g44_0 : List Am.Item := [
    ⟨(some 2), .val (.mov (.c (.int .i64 0))), none⟩]
def g44_1 : List Am.Item := [
    ⟨(some 3), .val (.mov (.c (.int .i64 0))), none⟩]
def g44_2 : List Am.Item := [
    ⟨(some 5), .val (.mov (.t 3)), none⟩,
    ⟨(some 6), .val (.mov (.t 0)), none⟩,
    ⟨(some 7), .val (.len 0 (.t 6)), none⟩,
    ⟨(some 8), .val (.bin .num .lss (.t 5) (.t 7)), none⟩]
def g44_3 : List Am.Item := [
    ⟨(some 9), .val (.mov (.t 0)), none⟩,
    ⟨(some 10), .val (.mov (.t 3)), none⟩,
    ⟨(some 11), .call (.f 63) [(.t 9), (.t 10)], none⟩,
    ⟨(some 4), .val (.mov (.t 11)), none⟩]
def g44_4 : List Am.Item := [
    ⟨(some 12), .val (.mov (.t 4)), none⟩,
    ⟨(some 13), .val (.bin .num .eql (.t 12) (.c (.int .i64 0))), none⟩]
def g44_5 : List Am.Item := [
    ⟨(some 14), .val (.mov (.t 3)), none⟩,
    ⟨(some 2), .val (.mov (.t 14)), none⟩]
def g44_6 : List Am.Item := [
    ⟨(some 15), .val (.mov (.t 3)), none⟩,
    ⟨(some 16), .val (.mov (.t 4)), none⟩,
    ⟨(some 17), .val (.bin .num .add (.t 15) (.t 16)), none⟩,
    ⟨(some 3), .val (.mov (.t 17)), none⟩]
def l44_0 : RC := .seq (.seq (.reg g44_2) (.cond (.t 8) (.skip) (.exit 0))) (.block 1 (.seq (.reg g44_3) (.seq (.seq (.reg g44_4) (.cond (.t 13) (.seq (.reg g44_5) (.ret)) (.skip))) (.reg g44_6))))
def g44_7 : List Am.Item := [
    ⟨(some 2), .val (.mov (.c (.int .i64 (-1)))), none⟩]
def r44 : RC := .seq (.reg g44_0) (.seq (.seq (.reg g44_1) (.block 0 (.loop l44_0))) (.seq (.reg g44_7) (.ret)))
def o44 : List RR := [.tmp 2]
theorem k44 : chkC Tryz.prog 18 r44 (Tryz.f44.body.getD .skip) = true := by decide +kernel
theorem q44 : chkR Tryz.prog Tryz.f44.results.toList o44 = true := by decide +kernel

/- wireschema/wireschemaref03.Valid -/
def g19_0 : List Am.Item := [
    ⟨(some 2), .val (.mov (.c (.bool false))), none⟩]
def g19_1 : List Am.Item := [
    ⟨(some 3), .val (.mov (.t 0)), none⟩,
    ⟨(some 4), .call (.f 44) [(.t 3)], none⟩,
    ⟨(some 5), .val (.bin .num .lss (.t 4) (.c (.int .i64 0))), none⟩,
    ⟨(some 2), .val (.mov (.t 5)), none⟩]
def r19 : RC := .seq (.reg g19_0) (.seq (.reg g19_1) (.ret))
def o19 : List RR := [.tmp 2]
theorem k19 : chkC Tryz.prog 6 r19 (Tryz.f19.body.getD .skip) = true := by decide +kernel
theorem q19 : chkR Tryz.prog Tryz.f19.results.toList o19 = true := by decide +kernel

/- wireschema/wireschemaref04.Is -/
def g17_0 : List Am.Item := [
    ⟨(some 2), .val (.mov (.c (.bool false))), none⟩]
def g17_1 : List Am.Item := [
    ⟨(some 3), .val (.mov (.t 0)), none⟩,
    ⟨(some 4), .val (.bin .num .geq (.t 3) (.c (.int .i64 1))), none⟩,
    ⟨(some 5), .val (.mov (.t 4)), none⟩,
    ⟨(some 6), .val (.mov (.t 0)), (some (5, true))⟩,
    ⟨(some 7), .val (.bin .num .leq (.t 6) (.c (.int .i64 9))), (some (5, true))⟩,
    ⟨(some 8), .val (.pick (.t 5) (.t 7) (.c (.bool false))), none⟩,
    ⟨(some 2), .val (.mov (.t 8)), none⟩]
def r17 : RC := .seq (.reg g17_0) (.seq (.reg g17_1) (.ret))
def o17 : List RR := [.tmp 2]
theorem k17 : chkC Tryz.prog 9 r17 (Tryz.f17.body.getD .skip) = true := by decide +kernel
theorem q17 : chkR Tryz.prog Tryz.f17.results.toList o17 = true := by decide +kernel

/- wireschema/wireschemaref04.lone -/
def g45_0 : List Am.Item := [
    ⟨(some 1), .boxN 1 (.t 0), none⟩,
    ⟨(some 2), .val (.mov (.c (.bool false))), none⟩]
def g45_1 : List Am.Item := [
    ⟨(some 3), .val (.faddr 3 (.t 1)), none⟩,
    ⟨(some 4), .val (.load none (.t 3)), none⟩,
    ⟨(some 5), .val (.len 1 (.t 4)), none⟩,
    ⟨(some 6), .val (.bin .num .eql (.t 5) (.c (.int .i64 0))), none⟩,
    ⟨(some 7), .val (.mov (.t 6)), none⟩,
    ⟨(some 8), .val (.faddr 4 (.t 1)), (some (7, true))⟩,
    ⟨(some 9), .val (.load none (.t 8)), (some (7, true))⟩,
    ⟨(some 10), .val (.len 1 (.t 9)), (some (7, true))⟩,
    ⟨(some 11), .val (.bin .num .eql (.t 10) (.c (.int .i64 0))), (some (7, true))⟩,
    ⟨(some 12), .val (.pick (.t 7) (.t 11) (.c (.bool false))), none⟩,
    ⟨(some 13), .val (.mov (.t 12)), none⟩,
    ⟨(some 14), .val (.faddr 5 (.t 1)), (some (13, true))⟩,
    ⟨(some 15), .val (.load none (.t 14)), (some (13, true))⟩,
    ⟨(some 16), .val (.len 1 (.t 15)), (some (13, true))⟩,
    ⟨(some 17), .val (.bin .num .eql (.t 16) (.c (.int .i64 0))), (some (13, true))⟩,
    ⟨(some 18), .val (.pick (.t 13) (.t 17) (.c (.bool false))), none⟩,
    ⟨(some 19), .val (.mov (.t 18)), none⟩,
    ⟨(some 20), .val (.faddr 6 (.t 1)), (some (19, true))⟩,
    ⟨(some 21), .val (.load none (.t 20)), (some (19, true))⟩,
    ⟨(some 22), .val (.len 1 (.t 21)), (some (19, true))⟩,
    ⟨(some 23), .val (.bin .num .eql (.t 22) (.c (.int .i64 0))), (some (19, true))⟩,
    ⟨(some 24), .val (.pick (.t 19) (.t 23) (.c (.bool false))), none⟩,
    ⟨(some 2), .val (.mov (.t 24)), none⟩]
def r45 : RC := .seq (.reg g45_0) (.seq (.reg g45_1) (.ret))
def o45 : List RR := [.tmp 2]
theorem k45 : chkC Tryz.prog 25 r45 (Tryz.f45.body.getD .skip) = true := by decide +kernel
theorem q45 : chkR Tryz.prog Tryz.f45.results.toList o45 = true := by decide +kernel

/- wireschema/wireschemaref04.texts -/
def g46_0 : List Am.Item := [
    ⟨(some 2), .val (.mov (.c (.bool false))), none⟩]
def g46_1 : List Am.Item := [
    ⟨(some 3), .val (.mov (.t 0)), none⟩,
    ⟨(some 4), .val (.bin .num .eql (.t 3) (.c (.int .i64 7))), none⟩,
    ⟨(some 5), .val (.mov (.t 4)), none⟩,
    ⟨(some 6), .val (.mov (.t 0)), (some (5, false))⟩,
    ⟨(some 7), .val (.bin .num .eql (.t 6) (.c (.int .i64 8))), (some (5, false))⟩,
    ⟨(some 8), .val (.pick (.t 5) (.c (.bool true)) (.t 7)), none⟩,
    ⟨(some 2), .val (.mov (.t 8)), none⟩]
def r46 : RC := .seq (.reg g46_0) (.seq (.reg g46_1) (.ret))
def o46 : List RR := [.tmp 2]
theorem k46 : chkC Tryz.prog 9 r46 (Tryz.f46.body.getD .skip) = true := by decide +kernel
theorem q46 : chkR Tryz.prog Tryz.f46.results.toList o46 = true := by decide +kernel

/- wireschema/wireschemaref04.Class -/
def g47_0 : List Am.Item := [
    ⟨(some 2), .val (.mov (.c (.int .i64 0))), none⟩]
def g47_1 : List Am.Item := [
    ⟨(some 4), .val (.mov (.t 0)), none⟩,
    ⟨(some 5), .val (.bin .num .rem (.t 4) (.c (.int .u64 9223372036854775808))), none⟩,
    ⟨(some 3), .val (.mov (.t 5)), none⟩]
def g47_2 : List Am.Item := [
    ⟨(some 7), .val (.mov (.t 3)), none⟩,
    ⟨(some 8), .val (.bin .num .gtr (.t 7) (.c (.int .u64 9218868437227405312))), none⟩,
    ⟨(some 6), .val (.mov (.t 8)), none⟩]
def g47_3 : List Am.Item := [
    ⟨(some 2), .val (.mov (.c (.int .i64 0))), none⟩]
def g47_4 : List Am.Item := [
    ⟨(some 10), .val (.mov (.t 3)), none⟩,
    ⟨(some 11), .val (.bin .num .eql (.t 10) (.c (.int .u64 9218868437227405312))), none⟩,
    ⟨(some 9), .val (.mov (.t 11)), none⟩]
def g47_5 : List Am.Item := [
    ⟨(some 2), .val (.mov (.c (.int .i64 1))), none⟩]
def g47_6 : List Am.Item := [
    ⟨(some 13), .val (.mov (.t 3)), none⟩,
    ⟨(some 14), .val (.bin .num .eql (.t 13) (.c (.int .u64 0))), none⟩,
    ⟨(some 12), .val (.mov (.t 14)), none⟩]
def g47_7 : List Am.Item := [
    ⟨(some 2), .val (.mov (.c (.int .i64 2))), none⟩]
def g47_8 : List Am.Item := [
    ⟨(some 16), .val (.mov (.t 3)), none⟩,
    ⟨(some 17), .val (.bin .num .lss (.t 16) (.c (.int .u64 4503599627370496))), none⟩,
    ⟨(some 15), .val (.mov (.t 17)), none⟩]
def g47_9 : List Am.Item := [
    ⟨(some 2), .val (.mov (.c (.int .i64 3))), none⟩]
def g47_10 : List Am.Item := [
    ⟨(some 2), .val (.mov (.c (.int .i64 4))), none⟩]
def r47 : RC := .seq (.reg g47_0) (.seq (.reg g47_1) (.seq (.block 0 (.seq (.reg g47_2) (.cond (.t 6) (.seq (.reg g47_3) (.ret)) (.seq (.reg g47_4) (.cond (.t 9) (.seq (.reg g47_5) (.ret)) (.seq (.reg g47_6) (.cond (.t 12) (.seq (.reg g47_7) (.ret)) (.seq (.reg g47_8) (.cond (.t 15) (.seq (.reg g47_9) (.ret)) (.skip)))))))))) (.seq (.reg g47_10) (.ret))))
def o47 : List RR := [.tmp 2]
theorem k47 : chkC Tryz.prog 18 r47 (Tryz.f47.body.getD .skip) = true := by decide +kernel
theorem q47 : chkR Tryz.prog Tryz.f47.results.toList o47 = true := by decide +kernel

/- wireschema/wireschemaref04.Fits -/
def g21_0 : List Am.Item := [
    ⟨(some 3), .boxN 3 (.t 1), none⟩,
    ⟨(some 4), .val (.mov (.c (.bool false))), none⟩]
def g21_1 : List Am.Item := [
    ⟨(some 6), .val (.mov (.t 0)), none⟩,
    ⟨(some 7), .callR (.f 17) [(.t 6)], none⟩,
    ⟨(some 8), .val (.un .not (.t 7)), none⟩,
    ⟨(some 9), .val (.mov (.t 8)), none⟩,
    ⟨(some 10), .val (.faddr 0 (.t 3)), (some (9, false))⟩,
    ⟨(some 11), .val (.load none (.t 10)), (some (9, false))⟩,
    ⟨(some 12), .val (.mov (.t 0)), (some (9, false))⟩,
    ⟨(some 13), .val (.bin .num .neq (.t 11) (.t 12)), (some (9, false))⟩,
    ⟨(some 14), .val (.pick (.t 9) (.c (.bool true)) (.t 13)), none⟩,
    ⟨(some 15), .val (.mov (.t 14)), none⟩,
    ⟨(some 16), .val (.load (some 7) (.t 3)), (some (15, false))⟩,
    ⟨(some 17), .callR (.f 45) [(.t 16)], (some (15, false))⟩,
    ⟨(some 18), .val (.un .not (.t 17)), (some (15, false))⟩,
    ⟨(some 19), .val (.pick (.t 15) (.c (.bool true)) (.t 18)), none⟩]
def g21_2 : List Am.Item := [
    ⟨(some 4), .val (.mov (.c (.bool false))), none⟩]
def g21_3 : List Am.Item := [
    ⟨(some 20), .val (.mov (.t 0)), none⟩,
    ⟨(some 21), .callR (.f 46) [(.t 20)], none⟩]
def g21_4 : List Am.Item := [
    ⟨(some 22), .val (.faddr 1 (.t 3)), none⟩,
    ⟨(some 23), .val (.load none (.t 22)), none⟩,
    ⟨(some 24), .val (.bin .num .eql (.t 23) (.c (.int .u64 0))), none⟩,
    ⟨(some 25), .val (.mov (.t 24)), none⟩,
    ⟨(some 26), .val (.faddr 2 (.t 3)), (some (25, true))⟩,
    ⟨(some 27), .val (.load none (.t 26)), (some (25, true))⟩,
    ⟨(some 28), .val (.len 0 (.t 27)), (some (25, true))⟩,
    ⟨(some 29), .val (.bin .num .leq (.t 28) (.c (.int .i64 4096))), (some (25, true))⟩,
    ⟨(some 30), .val (.pick (.t 25) (.t 29) (.c (.bool false))), none⟩,
    ⟨(some 31), .val (.mov (.t 30)), none⟩,
    ⟨(some 32), .val (.mov (.t 0)), (some (31, true))⟩,
    ⟨(some 33), .val (.bin .num .eql (.t 32) (.c (.int .i64 8))), (some (31, true))⟩,
    ⟨(some 34), .val (.mov (.t 33)), (some (31, true))⟩,
    ⟨(some 35), .val (.faddr 2 (.t 3)), (some (34, false))⟩,
    ⟨(some 36), .val (.load none (.t 35)), (some (34, false))⟩,
    ⟨(some 37), .call (.f 19) [(.t 36)], (some (34, false))⟩,
    ⟨(some 38), .val (.pick (.t 34) (.c (.bool true)) (.t 37)), (some (31, true))⟩,
    ⟨(some 39), .val (.pick (.t 31) (.t 38) (.c (.bool false))), none⟩,
    ⟨(some 4), .val (.mov (.t 39)), none⟩]
def g21_5 : List Am.Item := [
    ⟨(some 40), .val (.faddr 2 (.t 3)), none⟩,
    ⟨(some 41), .val (.load none (.t 40)), none⟩,
    ⟨(some 42), .val (.bin .str .neq (.t 41) (.c (.str []))), none⟩]
def g21_6 : List Am.Item := [
    ⟨(some 4), .val (.mov (.c (.bool false))), none⟩]
def g21_7 : List Am.Item := [
    ⟨(some 43), .val (.mov (.t 0)), none⟩]
def g21_8 : List Am.Item := [
    ⟨(some 45), .val (.bin .num .eql (.t 43) (.c (.int .i64 1))), none⟩,
    ⟨(some 44), .val (.mov (.t 45)), none⟩]
def g21_9 : List Am.Item := [
    ⟨(some 46), .val (.faddr 1 (.t 3)), none⟩,
    ⟨(some 47), .val (.load none (.t 46)), none⟩,
    ⟨(some 48), .val (.bin .num .leq (.t 47) (.c (.int .u64 1))), none⟩,
    ⟨(some 4), .val (.mov (.t 48)), none⟩]
def g21_10 : List Am.Item := [
    ⟨(some 50), .val (.bin .num .eql (.t 43) (.c (.int .i64 2))), none⟩,
    ⟨(some 49), .val (.mov (.t 50)), none⟩]
def g21_11 : List Am.Item := [
    ⟨(some 51), .val (.faddr 1 (.t 3)), none⟩,
    ⟨(some 52), .val (.load none (.t 51)), none⟩,
    ⟨(some 53), .val (.cvi .i64 (.t 52)), none⟩,
    ⟨(some 5), .val (.mov (.t 53)), none⟩]
def g21_12 : List Am.Item := [
    ⟨(some 54), .val (.mov (.t 5)), none⟩,
    ⟨(some 55), .val (.bin .num .geq (.t 54) (.c (.int .i64 (-2147483648)))), none⟩,
    ⟨(some 56), .val (.mov (.t 55)), none⟩,
    ⟨(some 57), .val (.mov (.t 5)), (some (56, true))⟩,
    ⟨(some 58), .val (.bin .num .leq (.t 57) (.c (.int .i64 2147483647))), (some (56, true))⟩,
    ⟨(some 59), .val (.pick (.t 56) (.t 58) (.c (.bool false))), none⟩,
    ⟨(some 4), .val (.mov (.t 59)), none⟩]
def g21_13 : List Am.Item := [
    ⟨(some 61), .val (.bin .num .eql (.t 43) (.c (.int .i64 4))), none⟩,
    ⟨(some 60), .val (.mov (.t 61)), none⟩]
def g21_14 : List Am.Item := [
    ⟨(some 62), .val (.faddr 1 (.t 3)), none⟩,
    ⟨(some 63), .val (.load none (.t 62)), none⟩,
    ⟨(some 64), .val (.bin .num .lss (.t 63) (.c (.int .u64 4294967296))), none⟩,
    ⟨(some 4), .val (.mov (.t 64)), none⟩]
def g21_15 : List Am.Item := [
    ⟨(some 66), .val (.bin .num .eql (.t 43) (.c (.int .i64 9))), none⟩,
    ⟨(some 65), .val (.mov (.t 66)), none⟩]
def g21_16 : List Am.Item := [
    ⟨(some 67), .val (.faddr 1 (.t 3)), none⟩,
    ⟨(some 68), .val (.load none (.t 67)), none⟩,
    ⟨(some 69), .val (.bin .num .lss (.t 68) (.c (.int .u64 2147483648))), none⟩,
    ⟨(some 4), .val (.mov (.t 69)), none⟩]
def g21_17 : List Am.Item := [
    ⟨(some 4), .val (.mov (.c (.bool true))), none⟩]
def r21 : RC := .seq (.reg g21_0) (.seq (.seq (.reg g21_1) (.cond (.t 19) (.seq (.reg g21_2) (.ret)) (.skip))) (.seq (.seq (.reg g21_3) (.cond (.t 21) (.seq (.reg g21_4) (.ret)) (.skip))) (.seq (.seq (.reg g21_5) (.cond (.t 42) (.seq (.reg g21_6) (.ret)) (.skip))) (.seq (.seq (.reg g21_7) (.block 0 (.seq (.reg g21_8) (.cond (.t 44) (.seq (.reg g21_9) (.ret)) (.seq (.reg g21_10) (.cond (.t 49) (.seq (.reg g21_11) (.seq (.reg g21_12) (.ret))) (.seq (.reg g21_13) (.cond (.t 60) (.seq (.reg g21_14) (.ret)) (.seq (.reg g21_15) (.cond (.t 65) (.seq (.reg g21_16) (.ret)) (.skip))))))))))) (.seq (.reg g21_17) (.ret))))))
def o21 : List RR := [.tmp 4]
theorem k21 : chkC Tryz.prog 70 r21 (Tryz.f21.body.getD .skip) = true := by decide +kernel
theorem q21 : chkR Tryz.prog Tryz.f21.results.toList o21 = true := by decide +kernel

/- wireschema/wireschemaref04.Norm -/
def g23_0 : List Am.Item := [
    ⟨(some 1), .boxN 1 (.t 0), none⟩,
    ⟨(some 2), .allocN 2 [.int .i64 0, .int .u64 0, .str [], .nils, .nils, .nils, .nils], none⟩]
def g23_1 : List Am.Item := [
    ⟨(some 3), .val (.faddr 0 (.t 1)), none⟩,
    ⟨(some 4), .val (.load none (.t 3)), none⟩,
    ⟨(some 5), .val (.bin .num .eql (.t 4) (.c (.int .i64 6))), none⟩,
    ⟨(some 6), .val (.mov (.t 5)), none⟩,
    ⟨(some 7), .val (.faddr 1 (.t 1)), (some (6, true))⟩,
    ⟨(some 8), .val (.load none (.t 7)), (some (6, true))⟩,
    ⟨(some 9), .call (.f 47) [(.t 8)], (some (6, true))⟩,
    ⟨(some 10), .val (.bin .num .eql (.t 9) (.c (.int .i64 0))), (some (6, true))⟩,
    ⟨(some 11), .val (.pick (.t 6) (.t 10) (.c (.bool false))), none⟩]
def g23_2 : List Am.Item := [
    ⟨(some 12), .val (.faddr 1 (.t 1)), none⟩,
    ⟨none, .store 1 (.t 12) (.c (.int .u64 9221120237041090560)), none⟩]
def g23_3 : List Am.Item := [
    ⟨(some 13), .val (.load (some 7) (.t 1)), none⟩,
    ⟨none, .store 7 (.t 2) (.t 13), none⟩]
def r23 : RC := .seq (.reg g23_0) (.seq (.seq (.reg g23_1) (.cond (.t 11) (.reg g23_2) (.skip))) (.seq (.reg g23_3) (.ret)))
def o23 : List RR := [.cell 2 (some 7)]
theorem k23 : chkC Tryz.prog 14 r23 (Tryz.f23.body.getD .skip) = true := by decide +kernel
theorem q23 : chkR Tryz.prog Tryz.f23.results.toList o23 = true := by decide +kernel

/- wireschema/wireschemaref04.rank -/
def g90_0 : List Am.Item := [
    ⟨(some 1), .boxN 1 (.t 0), none⟩,
    ⟨(some 2), .val (.mov (.c (.int .u64 0))), none⟩]
def g90_1 : List Am.Item := [
    ⟨(some 4), .val (.faddr 0 (.t 1)), none⟩,
    ⟨(some 5), .val (.load none (.t 4)), none⟩,
    ⟨(some 6), .call (.f 108) [(.t 5)], none⟩,
    ⟨(some 3), .val (.mov (.t 6)), none⟩]
def g90_2 : List Am.Item := [
    ⟨(some 7), .val (.faddr 1 (.t 1)), none⟩,
    ⟨(some 8), .val (.load none (.t 7)), none⟩,
    ⟨(some 9), .val (.bin .num .add (.t 8) (.c (.int .u64 9223372036854775808))), none⟩,
    ⟨(some 2), .val (.mov (.t 9)), none⟩]
def g90_3 : List Am.Item := [
    ⟨(some 11), .val (.faddr 0 (.t 1)), none⟩,
    ⟨(some 12), .val (.load none (.t 11)), none⟩,
    ⟨(some 13), .val (.bin .num .neq (.t 12) (.c (.int .i64 6))), none⟩,
    ⟨(some 10), .val (.mov (.t 13)), none⟩]
def g90_4 : List Am.Item := [
    ⟨(some 14), .val (.faddr 1 (.t 1)), none⟩,
    ⟨(some 15), .val (.load none (.t 14)), none⟩,
    ⟨(some 2), .val (.mov (.t 15)), none⟩]
def g90_5 : List Am.Item := [
    ⟨(some 17), .val (.faddr 1 (.t 1)), none⟩,
    ⟨(some 18), .val (.load none (.t 17)), none⟩,
    ⟨(some 19), .call (.f 47) [(.t 18)], none⟩,
    ⟨(some 20), .val (.bin .num .eql (.t 19) (.c (.int .i64 0))), none⟩,
    ⟨(some 16), .val (.mov (.t 20)), none⟩]
def g90_6 : List Am.Item := [
    ⟨(some 2), .val (.mov (.c (.int .u64 18446744073709551615))), none⟩]
def g90_7 : List Am.Item := [
    ⟨(some 22), .val (.faddr 1 (.t 1)), none⟩,
    ⟨(some 23), .val (.load none (.t 22)), none⟩,
    ⟨(some 24), .val (.bin .num .geq (.t 23) (.c (.int .u64 9223372036854775808))), none⟩,
    ⟨(some 21), .val (.mov (.t 24)), none⟩]
def g90_8 : List Am.Item := [
    ⟨(some 25), .val (.faddr 1 (.t 1)), none⟩,
    ⟨(some 26), .val (.load none (.t 25)), none⟩,
    ⟨(some 27), .val (.bin .num .sub (.c (.int .u64 18446744073709551615)) (.t 26)), none⟩,
    ⟨(some 2), .val (.mov (.t 27)), none⟩]
def g90_9 : List Am.Item := [
    ⟨(some 28), .val (.faddr 1 (.t 1)), none⟩,
    ⟨(some 29), .val (.load none (.t 28)), none⟩,
    ⟨(some 30), .val (.bin .num .add (.t 29) (.c (.int .u64 9223372036854775808))), none⟩,
    ⟨(some 2), .val (.mov (.t 30)), none⟩]
def r90 : RC := .seq (.reg g90_0) (.seq (.block 0 (.seq (.reg g90_1) (.cond (.t 3) (.seq (.reg g90_2) (.ret)) (.seq (.reg g90_3) (.cond (.t 10) (.seq (.reg g90_4) (.ret)) (.seq (.reg g90_5) (.cond (.t 16) (.seq (.reg g90_6) (.ret)) (.seq (.reg g90_7) (.cond (.t 21) (.seq (.reg g90_8) (.ret)) (.skip)))))))))) (.seq (.reg g90_9) (.ret)))
def o90 : List RR := [.tmp 2]
theorem k90 : chkC Tryz.prog 31 r90 (Tryz.f90.body.getD .skip) = true := by decide +kernel
theorem q90 : chkR Tryz.prog Tryz.f90.results.toList o90 = true := by decide +kernel

/- wireschema/wireschemaref04.signed -/
def g108_0 : List Am.Item := [
    ⟨(some 2), .val (.mov (.c (.bool false))), none⟩]
def g108_1 : List Am.Item := [
    ⟨(some 3), .val (.mov (.t 0)), none⟩,
    ⟨(some 4), .val (.bin .num .eql (.t 3) (.c (.int .i64 2))), none⟩,
    ⟨(some 5), .val (.mov (.t 4)), none⟩,
    ⟨(some 6), .val (.mov (.t 0)), (some (5, false))⟩,
    ⟨(some 7), .val (.bin .num .eql (.t 6) (.c (.int .i64 3))), (some (5, false))⟩,
    ⟨(some 8), .val (.pick (.t 5) (.c (.bool true)) (.t 7)), none⟩,
    ⟨(some 2), .val (.mov (.t 8)), none⟩]
def r108 : RC := .seq (.reg g108_0) (.seq (.reg g108_1) (.ret))
def o108 : List RR := [.tmp 2]
theorem k108 : chkC Tryz.prog 9 r108 (Tryz.f108.body.getD .skip) = true := by decide +kernel
theorem q108 : chkR Tryz.prog Tryz.f108.results.toList o108 = true := by decide +kernel

/- wireschema/wireschemaref04.Cmp -/
def g69_0 : List Am.Item := [
    ⟨(some 2), .boxN 2 (.t 0), none⟩,
    ⟨(some 3), .boxN 3 (.t 1), none⟩,
    ⟨(some 4), .val (.mov (.c (.int .i64 0))), none⟩]
def g69_1 : List Am.Item := [
    ⟨(some 6), .val (.faddr 0 (.t 2)), none⟩,
    ⟨(some 7), .val (.load none (.t 6)), none⟩,
    ⟨(some 8), .val (.faddr 0 (.t 3)), none⟩,
    ⟨(some 9), .val (.load none (.t 8)), none⟩,
    ⟨(some 10), .val (.bin .num .lss (.t 7) (.t 9)), none⟩,
    ⟨(some 5), .val (.mov (.t 10)), none⟩]
def g69_2 : List Am.Item := [
    ⟨(some 4), .val (.mov (.c (.int .i64 (-1)))), none⟩]
def g69_3 : List Am.Item := [
    ⟨(some 12), .val (.faddr 0 (.t 2)), none⟩,
    ⟨(some 13), .val (.load none (.t 12)), none⟩,
    ⟨(some 14), .val (.faddr 0 (.t 3)), none⟩,
    ⟨(some 15), .val (.load none (.t 14)), none⟩,
    ⟨(some 16), .val (.bin .num .gtr (.t 13) (.t 15)), none⟩,
    ⟨(some 11), .val (.mov (.t 16)), none⟩]
def g69_4 : List Am.Item := [
    ⟨(some 4), .val (.mov (.c (.int .i64 1))), none⟩]
def g69_5 : List Am.Item := [
    ⟨(some 18), .val (.faddr 0 (.t 2)), none⟩,
    ⟨(some 19), .val (.load none (.t 18)), none⟩,
    ⟨(some 20), .callR (.f 17) [(.t 19)], none⟩,
    ⟨(some 21), .val (.un .not (.t 20)), none⟩,
    ⟨(some 17), .val (.mov (.t 21)), none⟩]
def g69_6 : List Am.Item := [
    ⟨(some 4), .val (.mov (.c (.int .i64 0))), none⟩]
def g69_7 : List Am.Item := [
    ⟨(some 23), .val (.faddr 0 (.t 2)), none⟩,
    ⟨(some 24), .val (.load none (.t 23)), none⟩,
    ⟨(some 25), .callR (.f 46) [(.t 24)], none⟩,
    ⟨(some 26), .val (.mov (.t 25)), none⟩,
    ⟨(some 27), .val (.faddr 2 (.t 2)), (some (26, true))⟩,
    ⟨(some 28), .val (.load none (.t 27)), (some (26, true))⟩,
    ⟨(some 29), .val (.faddr 2 (.t 3)), (some (26, true))⟩,
    ⟨(some 30), .val (.load none (.t 29)), (some (26, true))⟩,
    ⟨(some 31), .val (.bin .str .lss (.t 28) (.t 30)), (some (26, true))⟩,
    ⟨(some 32), .val (.pick (.t 26) (.t 31) (.c (.bool false))), none⟩,
    ⟨(some 22), .val (.mov (.t 32)), none⟩]
def g69_8 : List Am.Item := [
    ⟨(some 4), .val (.mov (.c (.int .i64 (-1)))), none⟩]
def g69_9 : List Am.Item := [
    ⟨(some 34), .val (.faddr 0 (.t 2)), none⟩,
    ⟨(some 35), .val (.load none (.t 34)), none⟩,
    ⟨(some 36), .callR (.f 46) [(.t 35)], none⟩,
    ⟨(some 37), .val (.mov (.t 36)), none⟩,
    ⟨(some 38), .val (.faddr 2 (.t 2)), (some (37, true))⟩,
    ⟨(some 39), .val (.load none (.t 38)), (some (37, true))⟩,
    ⟨(some 40), .val (.faddr 2 (.t 3)), (some (37, true))⟩,
    ⟨(some 41), .val (.load none (.t 40)), (some (37, true))⟩,
    ⟨(some 42), .val (.bin .str .gtr (.t 39) (.t 41)), (some (37, true))⟩,
    ⟨(some 43), .val (.pick (.t 37) (.t 42) (.c (.bool false))), none⟩,
    ⟨(some 33), .val (.mov (.t 43)), none⟩]
def g69_10 : List Am.Item := [
    ⟨(some 4), .val (.mov (.c (.int .i64 1))), none⟩]
def g69_11 : List Am.Item := [
    ⟨(some 45), .val (.faddr 0 (.t 2)), none⟩,
    ⟨(some 46), .val (.load none (.t 45)), none⟩,
    ⟨(some 47), .callR (.f 46) [(.t 46)], none⟩,
    ⟨(some 44), .val (.mov (.t 47)), none⟩]
def g69_12 : List Am.Item := [
    ⟨(some 4), .val (.mov (.c (.int .i64 0))), none⟩]
def g69_13 : List Am.Item := [
    ⟨(some 49), .val (.loadv 0 2 (some 7) (.t 2)), none⟩,
    ⟨(some 50), .call (.f 90) [(.t 49)], none⟩,
    ⟨(some 51), .val (.loadv 0 3 (some 7) (.t 3)), none⟩,
    ⟨(some 52), .call (.f 90) [(.t 51)], none⟩,
    ⟨(some 53), .val (.bin .num .lss (.t 50) (.t 52)), none⟩,
    ⟨(some 48), .val (.mov (.t 53)), none⟩]
def g69_14 : List Am.Item := [
    ⟨(some 4), .val (.mov (.c (.int .i64 (-1)))), none⟩]
def g69_15 : List Am.Item := [
    ⟨(some 55), .val (.loadv 0 2 (some 7) (.t 2)), none⟩,
    ⟨(some 56), .call (.f 90) [(.t 55)], none⟩,
    ⟨(some 57), .val (.loadv 0 3 (some 7) (.t 3)), none⟩,
    ⟨(some 58), .call (.f 90) [(.t 57)], none⟩,
    ⟨(some 59), .val (.bin .num .gtr (.t 56) (.t 58)), none⟩,
    ⟨(some 54), .val (.mov (.t 59)), none⟩]
def g69_16 : List Am.Item := [
    ⟨(some 4), .val (.mov (.c (.int .i64 1))), none⟩]
def g69_17 : List Am.Item := [
    ⟨(some 4), .val (.mov (.c (.int .i64 0))), none⟩]
def r69 : RC := .seq (.reg g69_0) (.seq (.block 0 (.seq (.reg g69_1) (.cond (.t 5) (.seq (.reg g69_2) (.ret)) (.seq (.reg g69_3) (.cond (.t 11) (.seq (.reg g69_4) (.ret)) (.seq (.reg g69_5) (.cond (.t 17) (.seq (.reg g69_6) (.ret)) (.seq (.reg g69_7) (.cond (.t 22) (.seq (.reg g69_8) (.ret)) (.seq (.reg g69_9) (.cond (.t 33) (.seq (.reg g69_10) (.ret)) (.seq (.reg g69_11) (.cond (.t 44) (.seq (.reg g69_12) (.ret)) (.seq (.draw g69_13) (.cond (.t 48) (.seq (.reg g69_14) (.ret)) (.seq (.draw g69_15) (.cond (.t 54) (.seq (.reg g69_16) (.ret)) (.skip)))))))))))))))))) (.seq (.reg g69_17) (.ret)))
def o69 : List RR := [.tmp 4]
theorem k69 : chkC Tryz.prog 60 r69 (Tryz.f69.body.getD .skip) = true := by decide +kernel
theorem q69 : chkR Tryz.prog Tryz.f69.results.toList o69 = true := by decide +kernel

/- wireschema/wireschemaref01.Zag -/
def g20_0 : List Am.Item := [
    ⟨(some 2), .val (.mov (.c (.int .i64 0))), none⟩]
def g20_1 : List Am.Item := [
    ⟨(some 3), .val (.mov (.t 0)), none⟩,
    ⟨(some 4), .val (.bin .num .rem (.t 3) (.c (.int .u64 2))), none⟩,
    ⟨(some 5), .val (.bin .num .eql (.t 4) (.c (.int .u64 0))), none⟩]
def g20_2 : List Am.Item := [
    ⟨(some 6), .val (.mov (.t 0)), none⟩,
    ⟨(some 7), .val (.bin .num .quo (.t 6) (.c (.int .u64 2))), none⟩,
    ⟨(some 8), .val (.cvi .i64 (.t 7)), none⟩,
    ⟨(some 2), .val (.mov (.t 8)), none⟩]
def g20_3 : List Am.Item := [
    ⟨(some 9), .val (.mov (.t 0)), none⟩,
    ⟨(some 10), .val (.bin .num .quo (.t 9) (.c (.int .u64 2))), none⟩,
    ⟨(some 11), .val (.cvi .i64 (.t 10)), none⟩,
    ⟨(some 12), .val (.un .neg (.t 11)), none⟩,
    ⟨(some 13), .val (.bin .num .sub (.t 12) (.c (.int .i64 1))), none⟩,
    ⟨(some 2), .val (.mov (.t 13)), none⟩]
def r20 : RC := .seq (.reg g20_0) (.seq (.seq (.reg g20_1) (.cond (.t 5) (.seq (.reg g20_2) (.ret)) (.skip))) (.seq (.reg g20_3) (.ret)))
def o20 : List RR := [.tmp 2]
theorem k20 : chkC Tryz.prog 14 r20 (Tryz.f20.body.getD .skip) = true := by decide +kernel
theorem q20 : chkR Tryz.prog Tryz.f20.results.toList o20 = true := by decide +kernel

/- wireschema/wireschemaref22.Packed -/
def g62_0 : List Am.Item := [
    ⟨(some 1), .boxN 1 (.t 0), none⟩,
    ⟨(some 2), .val (.mov (.c (.bool false))), none⟩]
def g62_1 : List Am.Item := [
    ⟨(some 3), .val (.faddr 3 (.t 1)), none⟩,
    ⟨(some 4), .val (.load none (.t 3)), none⟩,
    ⟨(some 5), .val (.bin .num .eql (.t 4) (.c (.int .i64 4))), none⟩,
    ⟨(some 6), .val (.mov (.t 5)), none⟩,
    ⟨(some 7), .val (.faddr 5 (.t 1)), (some (6, true))⟩,
    ⟨(some 8), .val (.load none (.t 7)), (some (6, true))⟩,
    ⟨(some 9), .val (.bin .num .geq (.t 8) (.c (.int .i64 1))), (some (6, true))⟩,
    ⟨(some 10), .val (.mov (.t 9)), (some (6, true))⟩,
    ⟨(some 11), .val (.faddr 5 (.t 1)), (some (10, true))⟩,
    ⟨(some 12), .val (.load none (.t 11)), (some (10, true))⟩,
    ⟨(some 13), .val (.bin .num .leq (.t 12) (.c (.int .i64 6))), (some (10, true))⟩,
    ⟨(some 14), .val (.pick (.t 10) (.t 13) (.c (.bool false))), (some (6, true))⟩,
    ⟨(some 15), .val (.mov (.t 14)), (some (6, true))⟩,
    ⟨(some 16), .val (.faddr 5 (.t 1)), (some (15, false))⟩,
    ⟨(some 17), .val (.load none (.t 16)), (some (15, false))⟩,
    ⟨(some 18), .val (.bin .num .eql (.t 17) (.c (.int .i64 9))), (some (15, false))⟩,
    ⟨(some 19), .val (.pick (.t 15) (.c (.bool true)) (.t 18)), (some (6, true))⟩,
    ⟨(some 20), .val (.pick (.t 6) (.t 19) (.c (.bool false))), none⟩,
    ⟨(some 2), .val (.mov (.t 20)), none⟩]
def r62 : RC := .seq (.reg g62_0) (.seq (.reg g62_1) (.ret))
def o62 : List RR := [.tmp 2]
theorem k62 : chkC Tryz.prog 21 r62 (Tryz.f62.body.getD .skip) = true := by decide +kernel
theorem q62 : chkR Tryz.prog Tryz.f62.results.toList o62 = true := by decide +kernel

/- wireschema/wireschemaref22.Wire -/
def g42_0 : List Am.Item := [
    ⟨(some 1), .boxN 1 (.t 0), none⟩,
    ⟨(some 2), .val (.mov (.c (.int .i64 0))), none⟩]
def g42_1 : List Am.Item := [
    ⟨(some 3), .val (.faddr 3 (.t 1)), none⟩,
    ⟨(some 4), .val (.load none (.t 3)), none⟩,
    ⟨(some 5), .val (.bin .num .eql (.t 4) (.c (.int .i64 5))), none⟩]
def g42_2 : List Am.Item := [
    ⟨(some 2), .val (.mov (.c (.int .i64 6))), none⟩]
def g42_3 : List Am.Item := [
    ⟨(some 6), .val (.load (some 8) (.t 1)), none⟩,
    ⟨(some 7), .call (.f 62) [(.t 6)], none⟩]
def g42_4 : List Am.Item := [
    ⟨(some 2), .val (.mov (.c (.int .i64 5))), none⟩]
def g42_5 : List Am.Item := [
    ⟨(some 8), .val (.faddr 5 (.t 1)), none⟩,
    ⟨(some 9), .val (.load none (.t 8)), none⟩]
def g42_6 : List Am.Item := [
    ⟨(some 11), .val (.bin .num .eql (.t 9) (.c (.int .i64 1))), none⟩,
    ⟨(some 10), .val (.mov (.t 11)), none⟩]
def g42_7 : List Am.Item := [
    ⟨(some 12), .val (.bin .num .eql (.t 9) (.c (.int .i64 4))), none⟩,
    ⟨(some 10), .val (.mov (.t 12)), none⟩]
def g42_8 : List Am.Item := [
    ⟨(some 13), .val (.bin .num .eql (.t 9) (.c (.int .i64 5))), none⟩,
    ⟨(some 10), .val (.mov (.t 13)), none⟩]
def g42_9 : List Am.Item := [
    ⟨(some 14), .val (.bin .num .eql (.t 9) (.c (.int .i64 9))), none⟩,
    ⟨(some 10), .val (.mov (.t 14)), none⟩]
def g42_10 : List Am.Item := [
    ⟨(some 2), .val (.mov (.c (.int .i64 0))), none⟩]
def g42_11 : List Am.Item := [
    ⟨(some 16), .val (.bin .num .eql (.t 9) (.c (.int .i64 2))), none⟩,
    ⟨(some 15), .val (.mov (.t 16)), none⟩]
def g42_12 : List Am.Item := [
    ⟨(some 17), .val (.bin .num .eql (.t 9) (.c (.int .i64 3))), none⟩,
    ⟨(some 15), .val (.mov (.t 17)), none⟩]
def g42_13 : List Am.Item := [
    ⟨(some 2), .val (.mov (.c (.int .i64 1))), none⟩]
def g42_14 : List Am.Item := [
    ⟨(some 19), .val (.bin .num .eql (.t 9) (.c (.int .i64 6))), none⟩,
    ⟨(some 18), .val (.mov (.t 19)), none⟩]
def g42_15 : List Am.Item := [
    ⟨(some 2), .val (.mov (.c (.int .i64 2))), none⟩]
def g42_16 : List Am.Item := [
    ⟨(some 21), .val (.bin .num .eql (.t 9) (.c (.int .i64 7))), none⟩,
    ⟨(some 20), .val (.mov (.t 21)), none⟩]
def g42_17 : List Am.Item := [
    ⟨(some 22), .val (.bin .num .eql (.t 9) (.c (.int .i64 8))), none⟩,
    ⟨(some 20), .val (.mov (.t 22)), none⟩]
def g42_18 : List Am.Item := [
    ⟨(some 2), .val (.mov (.c (.int .i64 3))), none⟩]
def g42_19 : List Am.Item := [
    ⟨(some 24), .val (.bin .num .eql (.t 9) (.c (.int .i64 10))), none⟩,
    ⟨(some 23), .val (.mov (.t 24)), none⟩]
def g42_20 : List Am.Item := [
    ⟨(some 2), .val (.mov (.c (.int .i64 4))), none⟩]
def g42_21 : List Am.Item := [
    ⟨(some 2), .val (.mov (.c (.int .i64 (-1)))), none⟩]
def r42 : RC := .seq (.reg g42_0) (.seq (.seq (.reg g42_1) (.cond (.t 5) (.seq (.reg g42_2) (.ret)) (.skip))) (.seq (.seq (.reg g42_3) (.cond (.t 7) (.seq (.reg g42_4) (.ret)) (.skip))) (.seq (.seq (.reg g42_5) (.block 0 (.seq (.seq (.reg g42_6) (.cond (.t 10) (.skip) (.seq (.reg g42_7) (.cond (.t 10) (.skip) (.seq (.reg g42_8) (.cond (.t 10) (.skip) (.reg g42_9))))))) (.cond (.t 10) (.seq (.reg g42_10) (.ret)) (.seq (.seq (.reg g42_11) (.cond (.t 15) (.skip) (.reg g42_12))) (.cond (.t 15) (.seq (.reg g42_13) (.ret)) (.seq (.reg g42_14) (.cond (.t 18) (.seq (.reg g42_15) (.ret)) (.seq (.seq (.reg g42_16) (.cond (.t 20) (.skip) (.reg g42_17))) (.cond (.t 20) (.seq (.reg g42_18) (.ret)) (.seq (.reg g42_19) (.cond (.t 23) (.seq (.reg g42_20) (.ret)) (.skip))))))))))))) (.seq (.reg g42_21) (.ret)))))
def o42 : List RR := [.tmp 2]
theorem k42 : chkC Tryz.prog 25 r42 (Tryz.f42.body.getD .skip) = true := by decide +kernel
theorem q42 : chkR Tryz.prog Tryz.f42.results.toList o42 = true := by decide +kernel

/- wireschema/wireschemaref25.single -/
def g43_0 : List Am.Item := [
    ⟨(some 1), .boxN 1 (.t 0), none⟩,
    ⟨(some 2), .allocN 2 [.int .i64 0, .str [], .str [], .int .i64 0, .int .i64 0, .int .i64 0, .int .i64 0, .int .i64 0], none⟩]
def g43_1 : List Am.Item := [
    ⟨(some 3), .val (.faddr 3 (.t 1)), none⟩,
    ⟨none, .store 1 (.t 3) (.c (.int .i64 2)), none⟩]
def g43_2 : List Am.Item := [
    ⟨(some 4), .val (.load (some 8) (.t 1)), none⟩,
    ⟨none, .store 8 (.t 2) (.t 4), none⟩]
def r43 : RC := .seq (.reg g43_0) (.seq (.reg g43_1) (.seq (.reg g43_2) (.ret)))
def o43 : List RR := [.cell 2 (some 8)]
theorem k43 : chkC Tryz.prog 5 r43 (Tryz.f43.body.getD .skip) = true := by decide +kernel
theorem q43 : chkR Tryz.prog Tryz.f43.results.toList o43 = true := by decide +kernel

/- wireschema/wireschemaref25.Wire -/
def g18_0 : List Am.Item := [
    ⟨(some 1), .boxN 1 (.t 0), none⟩,
    ⟨(some 2), .val (.mov (.c (.int .i64 0))), none⟩]
def g18_1 : List Am.Item := [
    ⟨(some 3), .val (.load (some 8) (.t 1)), none⟩,
    ⟨(some 4), .call (.f 43) [(.t 3)], none⟩,
    ⟨(some 5), .call (.f 42) [(.t 4)], none⟩,
    ⟨(some 2), .val (.mov (.t 5)), none⟩]
def r18 : RC := .seq (.reg g18_0) (.seq (.reg g18_1) (.ret))
def o18 : List RR := [.tmp 2]
theorem k18 : chkC Tryz.prog 6 r18 (Tryz.f18.body.getD .skip) = true := by decide +kernel
theorem q18 : chkR Tryz.prog Tryz.f18.results.toList o18 = true := by decide +kernel

/- wireschema/wireschemaref22.Accepts -/
def g22_0 : List Am.Item := [
    ⟨(some 3), .boxN 3 (.t 0), none⟩,
    ⟨(some 6), .val (.mov (.c (.bool false))), none⟩]
def g22_1 : List Am.Item := [
    ⟨(some 9), .val (.mov (.t 1)), none⟩,
    ⟨(some 10), .val (.bin .num .lss (.t 9) (.c (.int .i64 0))), none⟩,
    ⟨(some 11), .val (.mov (.t 10)), none⟩,
    ⟨(some 12), .val (.mov (.t 1)), (some (11, false))⟩,
    ⟨(some 13), .val (.faddr 1 (.t 3)), (some (11, false))⟩,
    ⟨(some 14), .val (.load none (.t 13)), (some (11, false))⟩,
    ⟨(some 15), .val (.len 1 (.t 14)), (some (11, false))⟩,
    ⟨(some 16), .val (.bin .num .geq (.t 12) (.t 15)), (some (11, false))⟩,
    ⟨(some 17), .val (.pick (.t 11) (.c (.bool true)) (.t 16)), none⟩,
    ⟨(some 18), .val (.mov (.t 17)), none⟩,
    ⟨(some 19), .val (.mov (.t 2)), (some (18, false))⟩,
    ⟨(some 20), .val (.bin .num .gtr (.t 19) (.c (.int .u64 2147483647))), (some (18, false))⟩,
    ⟨(some 21), .val (.pick (.t 18) (.c (.bool true)) (.t 20)), none⟩]
def g22_2 : List Am.Item := [
    ⟨(some 6), .val (.mov (.c (.bool false))), none⟩]
def g22_3 : List Am.Item := [
    ⟨(some 22), .val (.faddr 1 (.t 3)), none⟩,
    ⟨(some 23), .val (.load none (.t 22)), none⟩,
    ⟨(some 24), .val (.mov (.t 1)), none⟩,
    ⟨(some 25), .val (.iaddr 5 none (.t 23) (.t 24)), none⟩,
    ⟨(some 26), .val (.faddr 1 (.t 25)), none⟩,
    ⟨(some 27), .val (.load none (.t 26)), none⟩,
    ⟨(some 7), .val (.mov (.t 27)), none⟩]
def g22_4 : List Am.Item := [
    ⟨(some 8), .val (.mov (.c (.int .i64 0))), none⟩]
def g22_5 : List Am.Item := [
    ⟨(some 28), .val (.mov (.t 8)), none⟩,
    ⟨(some 29), .val (.faddr 1 (.t 3)), none⟩,
    ⟨(some 30), .val (.load none (.t 29)), none⟩,
    ⟨(some 31), .val (.mov (.t 1)), none⟩,
    ⟨(some 32), .val (.iaddr 5 none (.t 30) (.t 31)), none⟩,
    ⟨(some 33), .val (.faddr 2 (.t 32)), none⟩,
    ⟨(some 34), .val (.load none (.t 33)), none⟩,
    ⟨(some 35), .val (.len 1 (.t 34)), none⟩,
    ⟨(some 36), .val (.bin .num .lss (.t 28) (.t 35)), none⟩]
def g22_7 : List Am.Item := [
    ⟨(some 39), .val (.mov (.t 7)), none⟩,
    ⟨(some 40), .val (.mov (.t 39)), none⟩,
    ⟨(some 41), .val (.faddr 1 (.t 3)), (some (40, false))⟩,
    ⟨(some 42), .val (.load none (.t 41)), (some (40, false))⟩,
    ⟨(some 43), .val (.mov (.t 1)), (some (40, false))⟩,
    ⟨(some 44), .val (.iaddr 5 none (.t 42) (.t 43)), (some (40, false))⟩,
    ⟨(some 45), .val (.faddr 2 (.t 44)), (some (40, false))⟩,
    ⟨(some 46), .val (.load none (.t 45)), (some (40, false))⟩,
    ⟨(some 47), .val (.mov (.t 8)), (some (40, false))⟩,
    ⟨(some 48), .val (.iaddr 3 none (.t 46) (.t 47)), (some (40, false))⟩,
    ⟨(some 49), .val (.faddr 1 (.t 48)), (some (40, false))⟩,
    ⟨(some 50), .val (.load none (.t 49)), (some (40, false))⟩,
    ⟨(some 51), .val (.mov (.t 2)), (some (40, false))⟩,
    ⟨(some 52), .val (.cvi .i64 (.t 51)), (some (40, false))⟩,
    ⟨(some 53), .val (.bin .num .eql (.t 50) (.t 52)), (some (40, false))⟩,
    ⟨(some 54), .val (.pick (.t 40) (.c (.bool true)) (.t 53)), none⟩,
    ⟨(some 7), .val (.mov (.t 54)), none⟩]
def g22_6 : List Am.Item := [
    ⟨(some 37), .val (.mov (.t 8)), none⟩,
    ⟨(some 38), .val (.bin .num .add (.t 37) (.c (.int .i64 1))), none⟩,
    ⟨(some 8), .val (.mov (.t 38)), none⟩]
def l22_0 : RC := .seq (.seq (.reg g22_5) (.cond (.t 36) (.skip) (.exit 0))) (.seq (.block 1 (.reg g22_7)) (.reg g22_6))
def g22_8 : List Am.Item := [
    ⟨(some 55), .val (.mov (.t 7)), none⟩,
    ⟨(some 6), .val (.mov (.t 55)), none⟩]
def r22 : RC := .seq (.reg g22_0) (.seq (.seq (.reg g22_1) (.cond (.t 21) (.seq (.reg g22_2) (.ret)) (.skip))) (.seq (.reg g22_3) (.seq (.seq (.reg g22_4) (.block 0 (.loop l22_0))) (.seq (.reg g22_8) (.ret)))))
def o22 : List RR := [.tmp 6]
theorem k22 : chkC Tryz.prog 56 r22 (Tryz.f22.body.getD .skip) = true := by decide +kernel
theorem q22 : chkR Tryz.prog Tryz.f22.results.toList o22 = true := by decide +kernel

/- wireschema/wireschemaref25.Scalar -/
def g6_0 : List Am.Item := [
    ⟨(some 3), .boxN 3 (.t 0), none⟩,
    ⟨(some 4), .boxN 4 (.t 1), none⟩,
    ⟨(some 5), .boxN 5 (.t 2), none⟩,
    ⟨(some 6), .allocN 6 [.int .i64 0, .int .u64 0, .str [], .nils, .nils, .nils, .nils], none⟩,
    ⟨(some 7), .val (.mov (.c (.int .i64 0))), none⟩]
def g6_1 : List Am.Item := [
    ⟨(some 9), .val (.faddr 5 (.t 4)), none⟩,
    ⟨(some 10), .val (.load none (.t 9)), none⟩,
    ⟨(some 11), .callR (.f 17) [(.t 10)], none⟩,
    ⟨(some 12), .val (.un .not (.t 11)), none⟩]
def g6_2 : List Am.Item := [
    ⟨(some 13), .val (.build [.int .i64 0, .int .u64 0, .str [], .nils, .nils, .nils, .nils] []), none⟩,
    ⟨none, .store 7 (.t 6) (.t 13), none⟩,
    ⟨(some 7), .val (.mov (.c (.int .i64 12))), none⟩]
def g6_3 : List Am.Item := [
    ⟨(some 14), .val (.faddr 1 (.t 5)), none⟩,
    ⟨(some 15), .val (.loadv 0 5 none (.t 14)), none⟩,
    ⟨(some 16), .val (.loadv 0 4 (some 8) (.t 4)), none⟩,
    ⟨(some 17), .call (.f 18) [(.t 16)], none⟩,
    ⟨(some 18), .val (.bin .num .neq (.t 15) (.t 17)), none⟩]
def g6_4 : List Am.Item := [
    ⟨(some 19), .val (.build [.int .i64 0, .int .u64 0, .str [], .nils, .nils, .nils, .nils] []), none⟩,
    ⟨none, .store 7 (.t 6) (.t 19), none⟩,
    ⟨(some 7), .val (.mov (.c (.int .i64 13))), none⟩]
def g6_5 : List Am.Item := [
    ⟨(some 20), .val (.faddr 5 (.t 4)), none⟩,
    ⟨(some 21), .val (.load none (.t 20)), none⟩,
    ⟨(some 22), .val (.build [.int .i64 0, .int .u64 0, .str [], .nils, .nils, .nils, .nils] [(0, 1, (.t 21))]), none⟩,
    ⟨(some 8), .allocN 8 [.int .i64 0, .int .u64 0, .str [], .nils, .nils, .nils, .nils], none⟩,
    ⟨none, .store 7 (.t 8) (.t 22), none⟩]
def g6_6 : List Am.Item := [
    ⟨(some 23), .val (.faddr 1 (.t 5)), none⟩,
    ⟨(some 24), .val (.load none (.t 23)), none⟩]
def g6_8 : List Am.Item := [
    ⟨(some 29), .val (.bin .num .eql (.t 24) (.c (.int .i64 3))), none⟩,
    ⟨(some 28), .val (.mov (.t 29)), none⟩]
def g6_9 : List Am.Item := [
    ⟨(some 30), .val (.faddr 5 (.t 4)), none⟩,
    ⟨(some 31), .val (.load none (.t 30)), none⟩,
    ⟨(some 32), .val (.bin .num .eql (.t 31) (.c (.int .i64 7))), none⟩,
    ⟨(some 33), .val (.mov (.t 32)), none⟩,
    ⟨(some 34), .val (.faddr 3 (.t 5)), (some (33, true))⟩,
    ⟨(some 35), .val (.load none (.t 34)), (some (33, true))⟩,
    ⟨(some 36), .call (.f 19) [(.t 35)], (some (33, true))⟩,
    ⟨(some 37), .val (.un .not (.t 36)), (some (33, true))⟩,
    ⟨(some 38), .val (.pick (.t 33) (.t 37) (.c (.bool false))), none⟩]
def g6_10 : List Am.Item := [
    ⟨(some 39), .val (.build [.int .i64 0, .int .u64 0, .str [], .nils, .nils, .nils, .nils] []), none⟩,
    ⟨none, .store 7 (.t 6) (.t 39), none⟩,
    ⟨(some 7), .val (.mov (.c (.int .i64 7))), none⟩]
def g6_11 : List Am.Item := [
    ⟨(some 40), .val (.faddr 3 (.t 5)), none⟩,
    ⟨(some 41), .val (.load none (.t 40)), none⟩,
    ⟨(some 42), .val (.faddr 2 (.t 8)), none⟩,
    ⟨none, .store 1 (.t 42) (.t 41), none⟩]
def g6_12 : List Am.Item := [
    ⟨(some 43), .val (.load (some 7) (.t 8)), none⟩,
    ⟨none, .store 7 (.t 6) (.t 43), none⟩,
    ⟨(some 7), .val (.mov (.c (.int .i64 0))), none⟩]
def g6_13 : List Am.Item := [
    ⟨(some 45), .val (.bin .num .eql (.t 24) (.c (.int .i64 1))), none⟩,
    ⟨(some 44), .val (.mov (.t 45)), none⟩]
def g6_14 : List Am.Item := [
    ⟨(some 46), .val (.faddr 2 (.t 5)), none⟩,
    ⟨(some 47), .val (.load none (.t 46)), none⟩,
    ⟨(some 48), .call (.f 20) [(.t 47)], none⟩,
    ⟨(some 49), .val (.cvi .u64 (.t 48)), none⟩,
    ⟨(some 50), .val (.faddr 1 (.t 8)), none⟩,
    ⟨none, .store 1 (.t 50) (.t 49), none⟩]
def g6_7 : List Am.Item := [
    ⟨(some 25), .val (.faddr 2 (.t 5)), none⟩,
    ⟨(some 26), .val (.load none (.t 25)), none⟩,
    ⟨(some 27), .val (.faddr 1 (.t 8)), none⟩,
    ⟨none, .store 1 (.t 27) (.t 26), none⟩]
def g6_15 : List Am.Item := [
    ⟨(some 51), .val (.faddr 5 (.t 4)), none⟩,
    ⟨(some 52), .val (.load none (.t 51)), none⟩,
    ⟨(some 53), .val (.load (some 7) (.t 8)), none⟩,
    ⟨(some 54), .callR (.f 21) [(.t 52), (.t 53)], none⟩,
    ⟨(some 55), .val (.un .not (.t 54)), none⟩]
def g6_16 : List Am.Item := [
    ⟨(some 56), .val (.build [.int .i64 0, .int .u64 0, .str [], .nils, .nils, .nils, .nils] []), none⟩,
    ⟨none, .store 7 (.t 6) (.t 56), none⟩,
    ⟨(some 7), .val (.mov (.c (.int .i64 6))), none⟩]
def g6_17 : List Am.Item := [
    ⟨(some 57), .val (.faddr 5 (.t 4)), none⟩,
    ⟨(some 58), .val (.load none (.t 57)), none⟩,
    ⟨(some 59), .val (.bin .num .eql (.t 58) (.c (.int .i64 9))), none⟩,
    ⟨(some 60), .val (.mov (.t 59)), none⟩,
    ⟨(some 61), .val (.load (some 2) (.t 3)), (some (60, true))⟩,
    ⟨(some 62), .val (.faddr 6 (.t 4)), (some (60, true))⟩,
    ⟨(some 63), .val (.load none (.t 62)), (some (60, true))⟩,
    ⟨(some 64), .val (.faddr 1 (.t 8)), (some (60, true))⟩,
    ⟨(some 65), .val (.load none (.t 64)), (some (60, true))⟩,
    ⟨(some 66), .call (.f 22) [(.t 61), (.t 63), (.t 65)], (some (60, true))⟩,
    ⟨(some 67), .val (.un .not (.t 66)), (some (60, true))⟩,
    ⟨(some 68), .val (.pick (.t 60) (.t 67) (.c (.bool false))), none⟩]
def g6_18 : List Am.Item := [
    ⟨(some 69), .val (.build [.int .i64 0, .int .u64 0, .str [], .nils, .nils, .nils, .nils] []), none⟩,
    ⟨none, .store 7 (.t 6) (.t 69), none⟩,
    ⟨(some 7), .val (.mov (.c (.int .i64 16))), none⟩]
def g6_19 : List Am.Item := [
    ⟨(some 70), .val (.load (some 7) (.t 8)), none⟩,
    ⟨(some 71), .call (.f 23) [(.t 70)], none⟩,
    ⟨none, .store 7 (.t 6) (.t 71), none⟩,
    ⟨(some 7), .val (.mov (.c (.int .i64 0))), none⟩]
def r6 : RC := .seq (.reg g6_0) (.seq (.seq (.reg g6_1) (.cond (.t 12) (.seq (.reg g6_2) (.ret)) (.skip))) (.seq (.seq (.draw g6_3) (.cond (.t 18) (.seq (.reg g6_4) (.ret)) (.skip))) (.seq (.reg g6_5) (.seq (.seq (.reg g6_6) (.block 0 (.seq (.reg g6_8) (.cond (.t 28) (.seq (.seq (.reg g6_9) (.cond (.t 38) (.seq (.reg g6_10) (.ret)) (.skip))) (.seq (.reg g6_11) (.seq (.reg g6_12) (.ret)))) (.seq (.reg g6_13) (.cond (.t 44) (.reg g6_14) (.reg g6_7))))))) (.seq (.seq (.reg g6_15) (.cond (.t 55) (.seq (.reg g6_16) (.ret)) (.skip))) (.seq (.seq (.reg g6_17) (.cond (.t 68) (.seq (.reg g6_18) (.ret)) (.skip))) (.seq (.reg g6_19) (.ret))))))))
def o6 : List RR := [.cell 6 (some 7), .tmp 7]
theorem k6 : chkC Tryz.prog 72 r6 (Tryz.f6.body.getD .skip) = true := by decide +kernel
theorem q6 : chkR Tryz.prog Tryz.f6.results.toList o6 = true := by decide +kernel

/- wireschema/wireschemaref16.Cmp -/
def g48_0 : List Am.Item := [
    ⟨(some 2), .boxN 2 (.t 0), none⟩,
    ⟨(some 3), .boxN 3 (.t 1), none⟩,
    ⟨(some 4), .val (.mov (.c (.int .i64 0))), none⟩]
def g48_1 : List Am.Item := [
    ⟨(some 6), .val (.faddr 0 (.t 2)), none⟩,
    ⟨(some 7), .val (.load none (.t 6)), none⟩,
    ⟨(some 8), .val (.faddr 0 (.t 3)), none⟩,
    ⟨(some 9), .val (.load none (.t 8)), none⟩,
    ⟨(some 10), .val (.bin .num .neq (.t 7) (.t 9)), none⟩]
def g48_2 : List Am.Item := [
    ⟨(some 11), .val (.faddr 0 (.t 2)), none⟩,
    ⟨(some 12), .val (.load none (.t 11)), none⟩,
    ⟨(some 13), .val (.faddr 0 (.t 3)), none⟩,
    ⟨(some 14), .val (.load none (.t 13)), none⟩,
    ⟨(some 15), .call (.f 64) [(.t 12), (.t 14)], none⟩,
    ⟨(some 4), .val (.mov (.t 15)), none⟩]
def g48_3 : List Am.Item := [
    ⟨(some 16), .val (.faddr 0 (.t 2)), none⟩,
    ⟨(some 17), .val (.load none (.t 16)), none⟩]
def g48_4 : List Am.Item := [
    ⟨(some 19), .val (.bin .num .eql (.t 17) (.c (.int .i64 11))), none⟩,
    ⟨(some 18), .val (.mov (.t 19)), none⟩]
def g48_5 : List Am.Item := [
    ⟨(some 20), .val (.faddr 3 (.t 2)), none⟩,
    ⟨(some 21), .val (.load none (.t 20)), none⟩,
    ⟨(some 22), .val (.faddr 3 (.t 3)), none⟩,
    ⟨(some 23), .val (.load none (.t 22)), none⟩,
    ⟨(some 24), .call (.f 65) [(.t 21), (.t 23)], none⟩,
    ⟨(some 4), .val (.mov (.t 24)), none⟩]
def g48_6 : List Am.Item := [
    ⟨(some 26), .val (.bin .num .eql (.t 17) (.c (.int .i64 12))), none⟩,
    ⟨(some 25), .val (.mov (.t 26)), none⟩]
def g48_7 : List Am.Item := [
    ⟨(some 27), .val (.faddr 4 (.t 2)), none⟩,
    ⟨(some 28), .val (.load none (.t 27)), none⟩,
    ⟨(some 29), .val (.faddr 4 (.t 3)), none⟩,
    ⟨(some 30), .val (.load none (.t 29)), none⟩,
    ⟨(some 31), .call (.f 66) [(.t 28), (.t 30)], none⟩,
    ⟨(some 4), .val (.mov (.t 31)), none⟩]
def g48_8 : List Am.Item := [
    ⟨(some 33), .val (.bin .num .eql (.t 17) (.c (.int .i64 10))), none⟩,
    ⟨(some 32), .val (.mov (.t 33)), none⟩]
def g48_9 : List Am.Item := [
    ⟨(some 34), .val (.faddr 5 (.t 2)), none⟩,
    ⟨(some 35), .val (.load none (.t 34)), none⟩,
    ⟨(some 36), .val (.faddr 5 (.t 3)), none⟩,
    ⟨(some 37), .val (.load none (.t 36)), none⟩,
    ⟨(some 38), .call (.f 67) [(.t 35), (.t 37)], none⟩,
    ⟨(some 5), .val (.mov (.t 38)), none⟩]
def g48_10 : List Am.Item := [
    ⟨(some 39), .val (.mov (.t 5)), none⟩,
    ⟨(some 40), .val (.bin .num .neq (.t 39) (.c (.int .i64 0))), none⟩]
def g48_11 : List Am.Item := [
    ⟨(some 41), .val (.mov (.t 5)), none⟩,
    ⟨(some 4), .val (.mov (.t 41)), none⟩]
def g48_12 : List Am.Item := [
    ⟨(some 42), .val (.faddr 6 (.t 2)), none⟩,
    ⟨(some 43), .val (.load none (.t 42)), none⟩,
    ⟨(some 44), .val (.faddr 6 (.t 3)), none⟩,
    ⟨(some 45), .val (.load none (.t 44)), none⟩,
    ⟨(some 46), .call (.f 68) [(.t 43), (.t 45)], none⟩,
    ⟨(some 4), .val (.mov (.t 46)), none⟩]
def g48_13 : List Am.Item := [
    ⟨(some 47), .val (.load (some 7) (.t 2)), none⟩,
    ⟨(some 48), .val (.load (some 7) (.t 3)), none⟩,
    ⟨(some 49), .call (.f 69) [(.t 47), (.t 48)], none⟩,
    ⟨(some 4), .val (.mov (.t 49)), none⟩]
def r48 : RC := .seq (.reg g48_0) (.seq (.seq (.reg g48_1) (.cond (.t 10) (.seq (.reg g48_2) (.ret)) (.skip))) (.seq (.seq (.reg g48_3) (.block 0 (.seq (.reg g48_4) (.cond (.t 18) (.seq (.reg g48_5) (.ret)) (.seq (.reg g48_6) (.cond (.t 25) (.seq (.reg g48_7) (.ret)) (.seq (.reg g48_8) (.cond (.t 32) (.seq (.seq (.reg g48_9) (.seq (.reg g48_10) (.cond (.t 40) (.seq (.reg g48_11) (.ret)) (.skip)))) (.seq (.reg g48_12) (.ret))) (.skip))))))))) (.seq (.reg g48_13) (.ret))))
def o48 : List RR := [.tmp 4]
theorem k48 : chkC Tryz.prog 50 r48 (Tryz.f48.body.getD .skip) = true := by decide +kernel
theorem q48 : chkR Tryz.prog Tryz.f48.results.toList o48 = true := by decide +kernel

/- wireschema/wireschemaref16.Equal -/
def g24_0 : List Am.Item := [
    ⟨(some 2), .boxN 2 (.t 0), none⟩,
    ⟨(some 3), .boxN 3 (.t 1), none⟩,
    ⟨(some 4), .val (.mov (.c (.bool false))), none⟩]
def g24_1 : List Am.Item := [
    ⟨(some 5), .val (.load (some 7) (.t 2)), none⟩,
    ⟨(some 6), .val (.load (some 7) (.t 3)), none⟩,
    ⟨(some 7), .call (.f 48) [(.t 5), (.t 6)], none⟩,
    ⟨(some 8), .val (.bin .num .eql (.t 7) (.c (.int .i64 0))), none⟩,
    ⟨(some 4), .val (.mov (.t 8)), none⟩]
def r24 : RC := .seq (.reg g24_0) (.seq (.reg g24_1) (.ret))
def o24 : List RR := [.tmp 4]
theorem k24 : chkC Tryz.prog 9 r24 (Tryz.f24.body.getD .skip) = true := by decide +kernel
theorem q24 : chkR Tryz.prog Tryz.f24.results.toList o24 = true := by decide +kernel

/- wireschema/wireschemalaw25.same -/
def g7_0 : List Am.Item := [
    ⟨(some 2), .boxN 2 (.t 0), none⟩,
    ⟨(some 3), .boxN 3 (.t 1), none⟩,
    ⟨(some 4), .val (.mov (.c (.bool false))), none⟩]
def g7_1 : List Am.Item := [
    ⟨(some 5), .val (.load (some 7) (.t 2)), none⟩,
    ⟨(some 6), .val (.load (some 7) (.t 3)), none⟩,
    ⟨(some 7), .call (.f 24) [(.t 5), (.t 6)], none⟩,
    ⟨(some 4), .val (.mov (.t 7)), none⟩]
def r7 : RC := .seq (.reg g7_0) (.seq (.reg g7_1) (.ret))
def o7 : List RR := [.tmp 4]
theorem k7 : chkC Tryz.prog 8 r7 (Tryz.f7.body.getD .skip) = true := by decide +kernel
theorem q7 : chkR Tryz.prog Tryz.f7.results.toList o7 = true := by decide +kernel

/- wireschema/wireschemalaw25.TagdecScalars -/
def g3_0 : List Am.Item := [
    ⟨(some 3), .boxN 3 (.t 0), none⟩,
    ⟨(some 4), .boxN 4 (.t 1), none⟩,
    ⟨(some 5), .boxN 5 (.t 2), none⟩,
    ⟨(some 6), .val (.mov (.c (.bool false))), none⟩]
def g3_1 : List Am.Item := [
    ⟨(some 12), .val (.load (some 2) (.t 3)), none⟩,
    ⟨(some 13), .callR (.f 4) [(.t 12)], none⟩,
    ⟨(some 14), .val (.un .not (.t 13)), none⟩]
def g3_2 : List Am.Item := [
    ⟨(some 6), .val (.mov (.c (.bool true))), none⟩]
def g3_3 : List Am.Item := [
    ⟨(some 7), .allocN 7 [.int .i64 0, .str [], .str [], .int .i64 0, .int .i64 0, .int .i64 0, .int .i64 0, .int .i64 0], none⟩]
def g3_4 : List Am.Item := [
    ⟨(some 15), .val (.iaddr 1 (some 2) (.t 4) (.c (.int .i64 0))), none⟩,
    ⟨(some 16), .val (.load none (.t 15)), none⟩,
    ⟨(some 17), .val (.bin .num .geq (.t 16) (.c (.int .i64 0))), none⟩,
    ⟨(some 18), .val (.mov (.t 17)), none⟩,
    ⟨(some 19), .val (.iaddr 1 (some 2) (.t 4) (.c (.int .i64 0))), (some (18, true))⟩,
    ⟨(some 20), .val (.load none (.t 19)), (some (18, true))⟩,
    ⟨(some 21), .val (.faddr 0 (.t 3)), (some (18, true))⟩,
    ⟨(some 22), .val (.loadv 0 3 none (.t 21)), (some (18, true))⟩,
    ⟨(some 23), .val (.len 1 (.t 22)), (some (18, true))⟩,
    ⟨(some 24), .val (.bin .num .lss (.t 20) (.t 23)), (some (18, true))⟩,
    ⟨(some 25), .val (.pick (.t 18) (.t 24) (.c (.bool false))), none⟩,
    ⟨(some 26), .val (.mov (.t 25)), none⟩,
    ⟨(some 27), .val (.iaddr 1 (some 2) (.t 4) (.c (.int .i64 1))), (some (26, true))⟩,
    ⟨(some 28), .val (.load none (.t 27)), (some (26, true))⟩,
    ⟨(some 29), .val (.bin .num .geq (.t 28) (.c (.int .i64 0))), (some (26, true))⟩,
    ⟨(some 30), .val (.pick (.t 26) (.t 29) (.c (.bool false))), none⟩,
    ⟨(some 31), .val (.mov (.t 30)), none⟩,
    ⟨(some 32), .val (.iaddr 1 (some 2) (.t 4) (.c (.int .i64 1))), (some (31, true))⟩,
    ⟨(some 33), .val (.load none (.t 32)), (some (31, true))⟩,
    ⟨(some 34), .val (.faddr 0 (.t 3)), (some (31, true))⟩,
    ⟨(some 35), .val (.loadv 0 3 none (.t 34)), (some (31, true))⟩,
    ⟨(some 36), .val (.iaddr 1 (some 2) (.t 4) (.c (.int .i64 0))), (some (31, true))⟩,
    ⟨(some 37), .val (.load none (.t 36)), (some (31, true))⟩,
    ⟨(some 38), .val (.iaddr 3 none (.t 35) (.t 37)), (some (31, true))⟩,
    ⟨(some 39), .val (.faddr 1 (.t 38)), (some (31, true))⟩,
    ⟨(some 40), .val (.loadr none (.t 39)), (some (31, true))⟩,
    ⟨(some 41), .val (.len 1 (.t 40)), (some (31, true))⟩,
    ⟨(some 42), .val (.bin .num .lss (.t 33) (.t 41)), (some (31, true))⟩,
    ⟨(some 43), .val (.pick (.t 31) (.t 42) (.c (.bool false))), none⟩]
def g3_5 : List Am.Item := [
    ⟨(some 44), .val (.faddr 0 (.t 3)), none⟩,
    ⟨(some 45), .val (.loadv 0 3 none (.t 44)), none⟩,
    ⟨(some 46), .val (.iaddr 1 (some 2) (.t 4) (.c (.int .i64 0))), none⟩,
    ⟨(some 47), .val (.load none (.t 46)), none⟩,
    ⟨(some 48), .val (.iaddr 3 none (.t 45) (.t 47)), none⟩,
    ⟨(some 49), .val (.faddr 1 (.t 48)), none⟩,
    ⟨(some 50), .val (.loadr none (.t 49)), none⟩,
    ⟨(some 51), .val (.iaddr 1 (some 2) (.t 4) (.c (.int .i64 1))), none⟩,
    ⟨(some 52), .val (.load none (.t 51)), none⟩,
    ⟨(some 53), .val (.iaddr 8 none (.t 50) (.t 52)), none⟩,
    ⟨(some 54), .val (.loadr (some 8) (.t 53)), none⟩,
    ⟨none, .storev 0 7 8 (.t 7) (.t 54), none⟩]
def g3_6 : List Am.Item := [
    ⟨(some 56), .val (.load (some 2) (.t 3)), none⟩,
    ⟨(some 57), .val (.load (some 8) (.t 7)), none⟩,
    ⟨(some 58), .val (.load (some 4) (.t 5)), none⟩,
    ⟨(some 59), .call (.f 5) [(.t 56), (.t 57), (.t 58)], none⟩,
    ⟨(some 55), .val (.mov (.t 59)), none⟩,
    ⟨(some 60), .val (.ext (.t 55) 0), none⟩,
    ⟨(some 61), .val (.ext (.t 55) 1), none⟩,
    ⟨(some 8), .allocN 8 [.int .i64 0, .int .u64 0, .str [], .nils, .nils, .nils, .nils], none⟩,
    ⟨none, .store 7 (.t 8) (.t 60), none⟩,
    ⟨(some 9), .val (.mov (.t 61)), none⟩]
def g3_7 : List Am.Item := [
    ⟨(some 63), .val (.load (some 2) (.t 3)), none⟩,
    ⟨(some 64), .val (.load (some 8) (.t 7)), none⟩,
    ⟨(some 65), .val (.load (some 4) (.t 5)), none⟩,
    ⟨(some 66), .call (.f 6) [(.t 63), (.t 64), (.t 65)], none⟩,
    ⟨(some 62), .val (.mov (.t 66)), none⟩,
    ⟨(some 67), .val (.ext (.t 62) 0), none⟩,
    ⟨(some 68), .val (.ext (.t 62) 1), none⟩,
    ⟨(some 10), .allocN 10 [.int .i64 0, .int .u64 0, .str [], .nils, .nils, .nils, .nils], none⟩,
    ⟨none, .store 7 (.t 10) (.t 67), none⟩,
    ⟨(some 11), .val (.mov (.t 68)), none⟩]
def g3_8 : List Am.Item := [
    ⟨(some 69), .val (.mov (.t 9)), none⟩,
    ⟨(some 70), .val (.mov (.t 11)), none⟩,
    ⟨(some 71), .val (.bin .num .eql (.t 69) (.t 70)), none⟩,
    ⟨(some 72), .val (.mov (.t 71)), none⟩,
    ⟨(some 73), .val (.load (some 7) (.t 8)), (some (72, true))⟩,
    ⟨(some 74), .val (.load (some 7) (.t 10)), (some (72, true))⟩,
    ⟨(some 75), .call (.f 7) [(.t 73), (.t 74)], (some (72, true))⟩,
    ⟨(some 76), .val (.pick (.t 72) (.t 75) (.c (.bool false))), none⟩,
    ⟨(some 77), .val (.mov (.t 76)), none⟩,
    ⟨(some 78), .call (.f 8) [], (some (77, true))⟩,
    ⟨(some 79), .val (.pick (.t 77) (.t 78) (.c (.bool false))), none⟩,
    ⟨(some 6), .val (.mov (.t 79)), none⟩]
def r3 : RC := .seq (.reg g3_0) (.seq (.seq (.reg g3_1) (.cond (.t 14) (.seq (.reg g3_2) (.ret)) (.skip))) (.seq (.reg g3_3) (.seq (.seq (.draw g3_4) (.cond (.t 43) (.draw g3_5) (.skip))) (.seq (.reg g3_6) (.seq (.reg g3_7) (.seq (.reg g3_8) (.ret)))))))
def o3 : List RR := [.tmp 6]
theorem k3 : chkC Tryz.prog 80 r3 (Tryz.f3.body.getD .skip) = true := by decide +kernel
theorem q3 : chkR Tryz.prog Tryz.f3.results.toList o3 = true := by decide +kernel

end Go.Proofs.YtdmbncmbkocjjaaGreat.Rc

/- Plain laws of numbers: wrapping, bits of 64-bit numbers. -/
namespace Go.Proofs.YtdmbncmbkocjjaaGreat.Bt
open Go

theorem wu64 (n : Int) : IntKind.u64.wrap n = n % 18446744073709551616 := by simp [IntKind.wrap, IntKind.bits, IntKind.signed]
theorem wu8 (n : Int) : IntKind.u8.wrap n = n % 256 := by simp [IntKind.wrap, IntKind.bits, IntKind.signed]
theorem wi64 (n : Int) : IntKind.i64.wrap n = (n + 9223372036854775808) % 18446744073709551616 - 9223372036854775808 := IntKind.wrap_i64 n

theorem ofInt_nat {n : Nat} (h : n < 18446744073709551616) : (BitVec.ofInt 64 (n : Int)).toNat = n := by
  simp
  omega

theorem xor_u64 (a b : Nat) (ha : a < 18446744073709551616) (hb : b < 18446744073709551616) : bits .xor .u64 (a : Int) (b : Int) = ((a ^^^ b : Nat) : Int) := by
  have hx : a ^^^ b < 2 ^ 64 := Nat.xor_lt_two_pow (by omega) (by omega)
  show IntKind.u64.wrap ((BitVec.ofInt 64 (a : Int) ^^^ BitVec.ofInt 64 (b : Int)).toNat : Int) = _
  rw [BitVec.toNat_xor, ofInt_nat ha, ofInt_nat hb, wu64]
  omega
theorem and_u64 (a b : Nat) (ha : a < 18446744073709551616) (hb : b < 18446744073709551616) : bits .and .u64 (a : Int) (b : Int) = ((a &&& b : Nat) : Int) := by
  have hx : a &&& b < 2 ^ 64 := Nat.and_lt_two_pow _ (by omega)
  show IntKind.u64.wrap ((BitVec.ofInt 64 (a : Int) &&& BitVec.ofInt 64 (b : Int)).toNat : Int) = _
  rw [BitVec.toNat_and, ofInt_nat ha, ofInt_nat hb, wu64]
  omega
theorem or_u64 (a b : Nat) (ha : a < 18446744073709551616) (hb : b < 18446744073709551616) : bits .or .u64 (a : Int) (b : Int) = ((a ||| b : Nat) : Int) := by
  have hx : a ||| b < 2 ^ 64 := Nat.or_lt_two_pow (by omega) (by omega)
  show IntKind.u64.wrap ((BitVec.ofInt 64 (a : Int) ||| BitVec.ofInt 64 (b : Int)).toNat : Int) = _
  rw [BitVec.toNat_or, ofInt_nat ha, ofInt_nat hb, wu64]
  omega

theorem xor_ones_nat (a : Nat) (ha : a < 18446744073709551616) : a ^^^ 18446744073709551615 = 18446744073709551615 - a := by
  have h1 : (BitVec.ofNat 64 a ^^^ BitVec.allOnes 64).toNat = a ^^^ 18446744073709551615 := by
    rw [BitVec.toNat_xor, BitVec.toNat_ofNat, BitVec.toNat_allOnes, Nat.mod_eq_of_lt (by omega)]
  rw [← h1, BitVec.xor_allOnes, BitVec.toNat_not, BitVec.toNat_ofNat, Nat.mod_eq_of_lt (by omega)]

theorem xor_u64_zero (a : Int) (h0 : 0 ≤ a) (h1 : a < 18446744073709551616) : bits .xor .u64 a 0 = a := by
  obtain ⟨n, rfl⟩ := Int.eq_ofNat_of_zero_le h0
  have := xor_u64 n 0 (by omega) (by omega)
  rw [Nat.xor_zero] at this
  exact this
theorem xor_u64_ones (a : Int) (h0 : 0 ≤ a) (h1 : a < 18446744073709551616) : bits .xor .u64 a 18446744073709551615 = 18446744073709551615 - a := by
  obtain ⟨n, rfl⟩ := Int.eq_ofNat_of_zero_le h0
  have := xor_u64 n 18446744073709551615 (by omega) (by omega)
  rw [xor_ones_nat n (by omega)] at this
  rw [show ((18446744073709551615 : Nat) : Int) = 18446744073709551615 from rfl] at this
  rw [this]
  omega
theorem and_u64_one (a : Int) (h0 : 0 ≤ a) (h1 : a < 18446744073709551616) : bits .and .u64 a 1 = a % 2 := by
  obtain ⟨n, rfl⟩ := Int.eq_ofNat_of_zero_le h0
  have := and_u64 n 1 (by omega) (by omega)
  rw [Nat.and_one_is_mod] at this
  rw [show ((1 : Nat) : Int) = 1 from rfl] at this
  rw [this]
  omega
theorem xor_i64_zero (a : Int) (h0 : -9223372036854775808 ≤ a) (h1 : a < 9223372036854775808) : bits .xor .i64 a 0 = a := by
  show IntKind.i64.wrap ((BitVec.ofInt 64 a ^^^ BitVec.ofInt 64 0).toNat : Int) = _
  rw [BitVec.toNat_xor, show (BitVec.ofInt 64 0).toNat = 0 from rfl, Nat.xor_zero, BitVec.toNat_ofInt, wi64]
  omega
theorem xor_i64_ones (a : Int) (h0 : -9223372036854775808 ≤ a) (h1 : a < 9223372036854775808) : bits .xor .i64 a (-1) = -1 - a := by
  show IntKind.i64.wrap ((BitVec.ofInt 64 a ^^^ BitVec.ofInt 64 (-1)).toNat : Int) = _
  rw [BitVec.toNat_xor, show (BitVec.ofInt 64 (-1)).toNat = 18446744073709551615 from rfl, BitVec.toNat_ofInt, xor_ones_nat _ (by omega), wi64]
  omega

end Go.Proofs.YtdmbncmbkocjjaaGreat.Bt

/- Names, as the specification examines them: what is known of the answers. -/
set_option linter.unusedSimpArgs false
namespace Go.Proofs.YtdmbncmbkocjjaaGreat.Va
open Go Am Rc Bt

/-- A boolean. -/
def RB (v : AV) : Prop := ∃ b, v = .bool b
theorem rb (b : Bool) : RB (.bool b) = True := eq_true ⟨b, rfl⟩
theorem RB.rf {v : AV} {l : List AV} (h : RB v) : v.rf = true ∧ (AV.rfL l = true ∨ v.nl = true) := by
  obtain ⟨b, rfl⟩ := h
  exact ⟨rfl, .inr rfl⟩

theorem c105 (b : Int) : Fn? Tryz.prog 105 [.int .u8 b] RB := by
  refine fnR_of_awp (rc := r105) (rs := o105) Tryz.func105 rfl rfl Tryz.ntmps105 k105 q105 (by simp) ?_
  simp only [g105_0, g105_1, r105, o105, eES, eEX, Nat.reduceBEq, Int.reduceLE, Int.reduceLT, Int.reduceToNat, Int.reduceEq, ↓reduceIte, reduceCtorEq, Nat.reducePow, Nat.reduceAdd, Nat.reduceLeDiff, Nat.reduceLT, Nat.reduceSub, Nat.reduceEqDiff]
  repeat' (first | (refine csel_of (fun h => ?_) (fun h => ?_) <;> simp only [h, rb, eES, eEX, Nat.reduceBEq, Int.reduceLE, Int.reduceLT, Int.reduceToNat, Int.reduceEq, ↓reduceIte, reduceCtorEq, Nat.reducePow, Nat.reduceAdd, Nat.reduceLeDiff, Nat.reduceLT, Nat.reduceSub, Nat.reduceEqDiff]) | (refine gsel_t (fun h => ?_) (fun h => ?_) <;> simp only [h, updO, rb, eES, eEX, Nat.reduceBEq, Int.reduceLE, Int.reduceLT, Int.reduceToNat, Int.reduceEq, ↓reduceIte, reduceCtorEq, Nat.reducePow, Nat.reduceAdd, Nat.reduceLeDiff, Nat.reduceLT, Nat.reduceSub, Nat.reduceEqDiff]) | (refine gsel_f (fun h => ?_) (fun h => ?_) <;> simp only [h, updO, rb, eES, eEX, Nat.reduceBEq, Int.reduceLE, Int.reduceLT, Int.reduceToNat, Int.reduceEq, ↓reduceIte, reduceCtorEq, Nat.reducePow, Nat.reduceAdd, Nat.reduceLeDiff, Nat.reduceLT, Nat.reduceSub, Nat.reduceEqDiff]))

theorem c106 (b : Int) : Fn? Tryz.prog 106 [.int .u8 b] RB := by
  refine fnR_of_awp (rc := r106) (rs := o106) Tryz.func106 rfl rfl Tryz.ntmps106 k106 q106 (by simp) ?_
  simp only [g106_0, g106_1, r106, o106, eES, eEX, Nat.reduceBEq, Int.reduceLE, Int.reduceLT, Int.reduceToNat, Int.reduceEq, ↓reduceIte, reduceCtorEq, Nat.reducePow, Nat.reduceAdd, Nat.reduceLeDiff, Nat.reduceLT, Nat.reduceSub, Nat.reduceEqDiff]
  repeat' (first | (refine csel_of (fun h => ?_) (fun h => ?_) <;> simp only [h, rb, eES, eEX, Nat.reduceBEq, Int.reduceLE, Int.reduceLT, Int.reduceToNat, Int.reduceEq, ↓reduceIte, reduceCtorEq, Nat.reducePow, Nat.reduceAdd, Nat.reduceLeDiff, Nat.reduceLT, Nat.reduceSub, Nat.reduceEqDiff]) | (refine gsel_t (fun h => ?_) (fun h => ?_) <;> simp only [h, updO, rb, eES, eEX, Nat.reduceBEq, Int.reduceLE, Int.reduceLT, Int.reduceToNat, Int.reduceEq, ↓reduceIte, reduceCtorEq, Nat.reducePow, Nat.reduceAdd, Nat.reduceLeDiff, Nat.reduceLT, Nat.reduceSub, Nat.reduceEqDiff]) | (refine gsel_f (fun h => ?_) (fun h => ?_) <;> simp only [h, updO, rb, eES, eEX, Nat.reduceBEq, Int.reduceLE, Int.reduceLT, Int.reduceToNat, Int.reduceEq, ↓reduceIte, reduceCtorEq, Nat.reducePow, Nat.reduceAdd, Nat.reduceLeDiff, Nat.reduceLT, Nat.reduceSub, Nat.reduceEqDiff]))

theorem c80 (s : List UInt8) : Fn? Tryz.prog 80 [.str s] RB := by
  refine fnR_of_awp (rc := r80) (rs := o80) Tryz.func80 rfl rfl Tryz.ntmps80 k80 q80 (by simp) ?_
  simp only [g80_0, g80_1, g80_2, g80_3, g80_4, g80_5, g80_6, g80_7, g80_8, g80_9, g80_10, g80_11, g80_12, g80_13, g80_14, g80_15, g80_16, g80_17, g80_18, g80_19, g80_20, g80_21, g80_22, g80_23, g80_24, r80, o80, astr, eES, eEX, Nat.reduceBEq, Int.reduceLE, Int.reduceLT, Int.reduceToNat, Int.reduceEq, ↓reduceIte, reduceCtorEq, Nat.reducePow, Nat.reduceAdd, Nat.reduceLeDiff, Nat.reduceLT, Nat.reduceSub, Nat.reduceEqDiff]
  repeat' (first | (refine csel_of (fun h => ?_) (fun h => ?_) <;> simp only [h, rb, astr, eES, eEX, Nat.reduceBEq, Int.reduceLE, Int.reduceLT, Int.reduceToNat, Int.reduceEq, ↓reduceIte, reduceCtorEq, Nat.reducePow, Nat.reduceAdd, Nat.reduceLeDiff, Nat.reduceLT, Nat.reduceSub, Nat.reduceEqDiff]) | (refine gsel_t (fun h => ?_) (fun h => ?_) <;> simp only [h, updO, rb, astr, eES, eEX, Nat.reduceBEq, Int.reduceLE, Int.reduceLT, Int.reduceToNat, Int.reduceEq, ↓reduceIte, reduceCtorEq, Nat.reducePow, Nat.reduceAdd, Nat.reduceLeDiff, Nat.reduceLT, Nat.reduceSub, Nat.reduceEqDiff]) | (refine gsel_f (fun h => ?_) (fun h => ?_) <;> simp only [h, updO, rb, astr, eES, eEX, Nat.reduceBEq, Int.reduceLE, Int.reduceLT, Int.reduceToNat, Int.reduceEq, ↓reduceIte, reduceCtorEq, Nat.reducePow, Nat.reduceAdd, Nat.reduceLeDiff, Nat.reduceLT, Nat.reduceSub, Nat.reduceEqDiff]))

end Go.Proofs.YtdmbncmbkocjjaaGreat.Va

/- Names, as the specification examines them, in parts. -/
set_option linter.unusedSimpArgs false
namespace Go.Proofs.YtdmbncmbkocjjaaGreat.Va
open Go Am Rc Bt

theorem wi64_s (i : Nat) (n : Nat) (h : i < n) (hn : n ≤ maxLen) : IntKind.i64.wrap ((i : Int) + 1) = ((i + 1 : Nat) : Int) := by
  simp only [maxLen] at hn
  rw [wi64]; omega

theorem lt_t {i n : Nat} (h : i < n) : decide ((i : Int) < (n : Int)) = true := by simp; omega
theorem lt_f {i n : Nat} (h : ¬ i < n) : decide ((i : Int) < (n : Int)) = false := by simp; omega
theorem nneg (i : Nat) : (0 ≤ (i : Int)) = True := by simp

def PartI (s : List UInt8) (k : Nat) (st : St) : Prop :=
  ∃ f i, st = ⟨f, [noObs], []⟩ ∧ k = s.length - i ∧ f 0 = .str s ∧ f 3 = .int .i64 (i : Nat)

theorem part_loop (s : List UInt8) (hs : s.length ≤ maxLen) (f : Fr) (h0 : f 0 = .str s) (h3 : f 3 = .int .i64 1) (Q : Exit → St → Prop) (hx : ∀ f, Q (.exit 0) (⟨f, [noObs], []⟩ : St)) (hr : ∀ f, f 2 = .bool false → Q .ret (⟨f, [noObs], []⟩ : St)) : awp Tryz.prog (.loop l81_0) ⟨f, [noObs], []⟩ Q := by
  refine awp_loop (PartI s) _ ⟨_, 1, rfl, rfl, h0, h3⟩ ?_
  rintro n st ⟨f, i, rfl, rfl, h0, h3⟩
  simp only [l81_0, g81_0, g81_1, g81_2, g81_3, g81_4, g81_6, g81_7, g81_5, g81_8, r81, o81, h0, h3, eES, eEX, Nat.reduceBEq, Int.reduceLE, Int.reduceLT, Int.reduceToNat, Int.reduceEq, ↓reduceIte, reduceCtorEq, Nat.reducePow, Nat.reduceAdd, Nat.reduceLeDiff, Nat.reduceLT, Nat.reduceSub, Nat.reduceEqDiff]
  by_cases hlt : i < s.length
  · obtain ⟨c, hc⟩ : ∃ c, s[i]? = some c := ⟨s[i], List.getElem?_eq_getElem hlt⟩
    have e1 := wi64_s i _ hlt hs
    have fin : ∀ f' : Fr, f' 0 = .str s → f' 3 = .int .i64 ((i + 1 : Nat) : Int) → ∃ k, k < s.length - i ∧ PartI s k ⟨f', [noObs], []⟩ := by
      intro f' g0 g3
      exact ⟨s.length - (i + 1), by omega, _, i + 1, rfl, rfl, g0, g3⟩
    simp only [lt_t hlt, nneg, Int.toNat_natCast, hc, h0, h3, eES, eEX, Nat.reduceBEq, Int.reduceLE, Int.reduceLT, Int.reduceToNat, Int.reduceEq, ↓reduceIte, reduceCtorEq, Nat.reducePow, Nat.reduceAdd, Nat.reduceLeDiff, Nat.reduceLT, Nat.reduceSub, Nat.reduceEqDiff]
    repeat' (first | (refine csel_of (fun h => ?_) (fun h => ?_) <;> simp only [h, nneg, Int.toNat_natCast, hc, h0, h3, e1, eES, eEX, Nat.reduceBEq, Int.reduceLE, Int.reduceLT, Int.reduceToNat, Int.reduceEq, ↓reduceIte, reduceCtorEq, Nat.reducePow, Nat.reduceAdd, Nat.reduceLeDiff, Nat.reduceLT, Nat.reduceSub, Nat.reduceEqDiff]) | (refine gsel_t (fun h => ?_) (fun h => ?_) <;> simp only [h, updO, nneg, Int.toNat_natCast, hc, h0, h3, e1, eES, eEX, Nat.reduceBEq, Int.reduceLE, Int.reduceLT, Int.reduceToNat, Int.reduceEq, ↓reduceIte, reduceCtorEq, Nat.reducePow, Nat.reduceAdd, Nat.reduceLeDiff, Nat.reduceLT, Nat.reduceSub, Nat.reduceEqDiff]) | (refine gsel_f (fun h => ?_) (fun h => ?_) <;> simp only [h, updO, nneg, Int.toNat_natCast, hc, h0, h3, e1, eES, eEX, Nat.reduceBEq, Int.reduceLE, Int.reduceLT, Int.reduceToNat, Int.reduceEq, ↓reduceIte, reduceCtorEq, Nat.reducePow, Nat.reduceAdd, Nat.reduceLeDiff, Nat.reduceLT, Nat.reduceSub, Nat.reduceEqDiff]) | ((with_reducible apply aops_callR (k := 105) (R := RB)); (case h2 => exact fun _ h => h.rf); (case hy => rfl); (case h1 => rfl); (case hk => exact c105 _); rintro _ ⟨b, rfl⟩; cases b <;> simp only [nneg, Int.toNat_natCast, hc, h0, h3, e1, eES, eEX, Nat.reduceBEq, Int.reduceLE, Int.reduceLT, Int.reduceToNat, Int.reduceEq, ↓reduceIte, reduceCtorEq, Nat.reducePow, Nat.reduceAdd, Nat.reduceLeDiff, Nat.reduceLT, Nat.reduceSub, Nat.reduceEqDiff]) | ((with_reducible apply aops_callR (k := 106) (R := RB)); (case h2 => exact fun _ h => h.rf); (case hy => rfl); (case h1 => rfl); (case hk => exact c106 _); rintro _ ⟨b, rfl⟩; cases b <;> simp only [nneg, Int.toNat_natCast, hc, h0, h3, e1, eES, eEX, Nat.reduceBEq, Int.reduceLE, Int.reduceLT, Int.reduceToNat, Int.reduceEq, ↓reduceIte, reduceCtorEq, Nat.reducePow, Nat.reduceAdd, Nat.reduceLeDiff, Nat.reduceLT, Nat.reduceSub, Nat.reduceEqDiff]))
    all_goals first
      | exact fin _ (by first | exact h0 | simp only [h0, eES, eEX, Nat.reduceBEq, Int.reduceLE, Int.reduceLT, Int.reduceToNat, Int.reduceEq, ↓reduceIte, reduceCtorEq, Nat.reducePow, Nat.reduceAdd, Nat.reduceLeDiff, Nat.reduceLT, Nat.reduceSub, Nat.reduceEqDiff]) (by first | rfl | simp only [eES, eEX, Nat.reduceBEq, Int.reduceLE, Int.reduceLT, Int.reduceToNat, Int.reduceEq, ↓reduceIte, reduceCtorEq, Nat.reducePow, Nat.reduceAdd, Nat.reduceLeDiff, Nat.reduceLT, Nat.reduceSub, Nat.reduceEqDiff])
      | exact hr _ (by first | rfl | simp only [eES, eEX, Nat.reduceBEq, Int.reduceLE, Int.reduceLT, Int.reduceToNat, Int.reduceEq, ↓reduceIte, reduceCtorEq, Nat.reducePow, Nat.reduceAdd, Nat.reduceLeDiff, Nat.reduceLT, Nat.reduceSub, Nat.reduceEqDiff])
  · simp only [lt_f hlt, h0, h3, eES, eEX, Nat.reduceBEq, Int.reduceLE, Int.reduceLT, Int.reduceToNat, Int.reduceEq, ↓reduceIte, reduceCtorEq, Nat.reducePow, Nat.reduceAdd, Nat.reduceLeDiff, Nat.reduceLT, Nat.reduceSub, Nat.reduceEqDiff]
    exact hx _

theorem c81 (s : List UInt8) (hs : s.length ≤ maxLen) : Fn? Tryz.prog 81 [.str s] RB := by
  refine fnR_of_awp (rc := r81) (rs := o81) Tryz.func81 rfl rfl Tryz.ntmps81 k81 q81 (by simp) ?_
  simp only [g81_0, g81_1, g81_2, g81_3, g81_4, g81_6, g81_7, g81_5, g81_8, r81, o81, eES, eEX, Nat.reduceBEq, Int.reduceLE, Int.reduceLT, Int.reduceToNat, Int.reduceEq, ↓reduceIte, reduceCtorEq, Nat.reducePow, Nat.reduceAdd, Nat.reduceLeDiff, Nat.reduceLT, Nat.reduceSub, Nat.reduceEqDiff]
  cases s with
  | nil =>
    have b0 : (((0 : Nat) : Int) == 0) = true := rfl
    simp only [List.length_nil, b0, rb, eES, eEX, Nat.reduceBEq, Int.reduceLE, Int.reduceLT, Int.reduceToNat, Int.reduceEq, ↓reduceIte, reduceCtorEq, Nat.reducePow, Nat.reduceAdd, Nat.reduceLeDiff, Nat.reduceLT, Nat.reduceSub, Nat.reduceEqDiff]
  | cons c t =>
    have b0 : (((c :: t).length : Int) == 0) = false := by simp; omega
    simp only [b0, List.getElem?_cons_zero, rb, eES, eEX, Nat.reduceBEq, Int.reduceLE, Int.reduceLT, Int.reduceToNat, Int.reduceEq, ↓reduceIte, reduceCtorEq, Nat.reducePow, Nat.reduceAdd, Nat.reduceLeDiff, Nat.reduceLT, Nat.reduceSub, Nat.reduceEqDiff]
    repeat' (first | (refine csel_of (fun h => ?_) (fun h => ?_) <;> simp only [h, List.getElem?_cons_zero, rb, eES, eEX, Nat.reduceBEq, Int.reduceLE, Int.reduceLT, Int.reduceToNat, Int.reduceEq, ↓reduceIte, reduceCtorEq, Nat.reducePow, Nat.reduceAdd, Nat.reduceLeDiff, Nat.reduceLT, Nat.reduceSub, Nat.reduceEqDiff]) | (refine gsel_t (fun h => ?_) (fun h => ?_) <;> simp only [h, updO, List.getElem?_cons_zero, rb, eES, eEX, Nat.reduceBEq, Int.reduceLE, Int.reduceLT, Int.reduceToNat, Int.reduceEq, ↓reduceIte, reduceCtorEq, Nat.reducePow, Nat.reduceAdd, Nat.reduceLeDiff, Nat.reduceLT, Nat.reduceSub, Nat.reduceEqDiff]) | (refine gsel_f (fun h => ?_) (fun h => ?_) <;> simp only [h, updO, List.getElem?_cons_zero, rb, eES, eEX, Nat.reduceBEq, Int.reduceLE, Int.reduceLT, Int.reduceToNat, Int.reduceEq, ↓reduceIte, reduceCtorEq, Nat.reducePow, Nat.reduceAdd, Nat.reduceLeDiff, Nat.reduceLT, Nat.reduceSub, Nat.reduceEqDiff]) | ((with_reducible apply aops_callR (k := 105) (R := RB)); (case h2 => exact fun _ h => h.rf); (case hy => rfl); (case h1 => rfl); (case hk => exact c105 _); rintro _ ⟨b, rfl⟩; cases b <;> simp only [List.getElem?_cons_zero, rb, eES, eEX, Nat.reduceBEq, Int.reduceLE, Int.reduceLT, Int.reduceToNat, Int.reduceEq, ↓reduceIte, reduceCtorEq, Nat.reducePow, Nat.reduceAdd, Nat.reduceLeDiff, Nat.reduceLT, Nat.reduceSub, Nat.reduceEqDiff]) | ((with_reducible apply aops_callR (k := 106) (R := RB)); (case h2 => exact fun _ h => h.rf); (case hy => rfl); (case h1 => rfl); (case hk => exact c106 _); rintro _ ⟨b, rfl⟩; cases b <;> simp only [List.getElem?_cons_zero, rb, eES, eEX, Nat.reduceBEq, Int.reduceLE, Int.reduceLT, Int.reduceToNat, Int.reduceEq, ↓reduceIte, reduceCtorEq, Nat.reducePow, Nat.reduceAdd, Nat.reduceLeDiff, Nat.reduceLT, Nat.reduceSub, Nat.reduceEqDiff]))
    all_goals
      refine part_loop (c :: t) hs _ (by first | rfl | simp only [eES, eEX, Nat.reduceBEq, Int.reduceLE, Int.reduceLT, Int.reduceToNat, Int.reduceEq, ↓reduceIte, reduceCtorEq, Nat.reducePow, Nat.reduceAdd, Nat.reduceLeDiff, Nat.reduceLT, Nat.reduceSub, Nat.reduceEqDiff]) (by first | rfl | simp only [eES, eEX, Nat.reduceBEq, Int.reduceLE, Int.reduceLT, Int.reduceToNat, Int.reduceEq, ↓reduceIte, reduceCtorEq, Nat.reducePow, Nat.reduceAdd, Nat.reduceLeDiff, Nat.reduceLT, Nat.reduceSub, Nat.reduceEqDiff]) _ (fun f => ?_) (fun f h2 => ?_)
      · simp only [rb, eES, eEX, Nat.reduceBEq, Int.reduceLE, Int.reduceLT, Int.reduceToNat, Int.reduceEq, ↓reduceIte, reduceCtorEq, Nat.reducePow, Nat.reduceAdd, Nat.reduceLeDiff, Nat.reduceLT, Nat.reduceSub, Nat.reduceEqDiff]
      · simp only [h2, rb, eES, eEX, Nat.reduceBEq, Int.reduceLE, Int.reduceLT, Int.reduceToNat, Int.reduceEq, ↓reduceIte, reduceCtorEq, Nat.reducePow, Nat.reduceAdd, Nat.reduceLeDiff, Nat.reduceLT, Nat.reduceSub, Nat.reduceEqDiff]

end Go.Proofs.YtdmbncmbkocjjaaGreat.Va

/- Arguments that are structs of texts and numbers: opened and shut. -/
namespace Go.Proofs.YtdmbncmbkocjjaaGreat.Br
open Go Am Go.RowKit Go.WideShapes Go.ChangeShapes Go.ChangeAt Go.Joins Go.Deep Go.WideElems Go.Maps

section
variable {H : Type} {enc : TypeId × Value → H} {P : Program} {W : World} {base : Nat} {sp : Nat → Bool} {held : Bool}

theorem array6 {α : Type} {cs : Array α} (h : cs.size = 6) : ∃ c0 c1 c2 c3 c4 c5, cs = #[c0, c1, c2, c3, c4, c5] := by
  obtain ⟨l⟩ := cs
  match l, h with
  | [c0, c1, c2, c3, c4, c5], _ => exact ⟨c0, c1, c2, c3, c4, c5, rfl⟩

/-- What the fields of a struct of one-cell fields read. -/
theorem open_six {r : Reach} {b0 : Nat} {t : TypeId} {f0 f1 f2 f3 f4 f5 : Field} {v : Value} {d : DataW H} {p : List MemPlace} (hs : P.underlying t = some (.struct #[f0, f1, f2, f3, f4, f5])) (hone : oneCellFields P #[f0, f1, f2, f3, f4, f5] = true) (hC : P.cellsOf t = 6)
    (hv : Value.okWide P W r b0 t v) (h : DataW.Trod enc P W base sp held t v d p) :
    ∃ (v0 v1 v2 v3 v4 v5 : Value) (y0 y1 y2 y3 y4 y5 : DataW H × List MemPlace) (n : Nat), v = .agg #[v0, v1, v2, v3, v4, v5] ∧ d = .agg [y0.1, y1.1, y2.1, y3.1, y4.1, y5.1] ∧ p = y0.2 ++ (y1.2 ++ (y2.2 ++ (y3.2 ++ (y4.2 ++ y5.2)))) ∧
      DataW.trod enc P W base sp held n f0.type [v0] = some y0 ∧ DataW.trod enc P W base sp held n f1.type [v1] = some y1 ∧ DataW.trod enc P W base sp held n f2.type [v2] = some y2 ∧ DataW.trod enc P W base sp held n f3.type [v3] = some y3 ∧
      DataW.trod enc P W base sp held n f4.type [v4] = some y4 ∧ DataW.trod enc P W base sp held n f5.type [v5] = some y5 := by
  obtain ⟨cs, rfl, hsz⟩ := okWide_struct hs hv
  obtain ⟨c0, c1, c2, c3, c4, c5, rfl⟩ := array6 (hsz.trans hC)
  obtain ⟨fuel, hf⟩ := h
  obtain ⟨xs, n, _, hx, _, hlen, hg⟩ := DataW.trod_struct hs hf
  have ho := fun i f => hone_of hone i f
  match xs, hlen with
  | [y0, y1, y2, y3, y4, y5], _ =>
    obtain ⟨o0, k0⟩ := ho 0 f0 rfl
    obtain ⟨o1, k1⟩ := ho 1 f1 rfl
    obtain ⟨o2, k2⟩ := ho 2 f2 rfl
    obtain ⟨o3, k3⟩ := ho 3 f3 rfl
    obtain ⟨o4, k4⟩ := ho 4 f4 rfl
    obtain ⟨o5, k5⟩ := ho 5 f5 rfl
    simp only [Prod.mk.injEq] at hx
    refine ⟨c0, c1, c2, c3, c4, c5, y0, y1, y2, y3, y4, y5, n, rfl, by rw [hx.1]; rfl, by rw [hx.2]; simp, ?_, ?_, ?_, ?_, ?_, ?_⟩
    · simpa [Value.cells, o0, k0] using hg 0 f0 rfl
    · simpa [Value.cells, o1, k1] using hg 1 f1 rfl
    · simpa [Value.cells, o2, k2] using hg 2 f2 rfl
    · simpa [Value.cells, o3, k3] using hg 3 f3 rfl
    · simpa [Value.cells, o4, k4] using hg 4 f4 rfl
    · simpa [Value.cells, o5, k5] using hg 5 f5 rfl

/-- A text and five numbers. -/
theorem open_cur {r : Reach} {b0 : Nat} {t ts ti : TypeId} {f0 f1 f2 f3 f4 f5 : Field} {v : Value} {d : DataW H} {p : List MemPlace} (hs : P.underlying t = some (.struct #[f0, f1, f2, f3, f4, f5])) (hone : oneCellFields P #[f0, f1, f2, f3, f4, f5] = true) (hC : P.cellsOf t = 6)
    (hts : P.underlying ts = some .string) (hti : P.underlying ti = some (.int .i64)) (hf : f0.type = ts ∧ f1.type = ti ∧ f2.type = ti ∧ f3.type = ti ∧ f4.type = ti ∧ f5.type = ti)
    (hv : Value.okWide P W r b0 t v) (h : DataW.Trod enc P W base sp held t v d p) :
    ∃ (s : ByteArray) (a b c e g : Int), v = .agg #[.string s, .int .i64 a, .int .i64 b, .int .i64 c, .int .i64 e, .int .i64 g] ∧ d = .agg [.lit (.string s.data.toList), .lit (.int .i64 a), .lit (.int .i64 b), .lit (.int .i64 c), .lit (.int .i64 e), .lit (.int .i64 g)] ∧ p = [] ∧
      s.size ≤ maxLen ∧ (Lit.int .i64 a).wf = true ∧ (Lit.int .i64 b).wf = true ∧ (Lit.int .i64 c).wf = true ∧ (Lit.int .i64 e).wf = true ∧ (Lit.int .i64 g).wf = true := by
  obtain ⟨v0, v1, v2, v3, v4, v5, y0, y1, y2, y3, y4, y5, n, rfl, rfl, rfl, h0, h1, h2, h3, h4, h5⟩ := open_six hs hone hC hv h
  obtain ⟨t0, t1, t2, t3, t4, t5⟩ := hf
  rw [t0] at h0
  rw [t1] at h1
  rw [t2] at h2
  rw [t3] at h3
  rw [t4] at h4
  rw [t5] at h5
  obtain ⟨s, e0, rfl, w0⟩ := DataW.trod_string hts h0
  obtain ⟨a, e1, rfl, w1⟩ := DataW.trod_int hti h1
  obtain ⟨b, e2, rfl, w2⟩ := DataW.trod_int hti h2
  obtain ⟨c, e3, rfl, w3⟩ := DataW.trod_int hti h3
  obtain ⟨e, e4, rfl, w4⟩ := DataW.trod_int hti h4
  obtain ⟨g, e5, rfl, w5⟩ := DataW.trod_int hti h5
  simp at e0 e1 e2 e3 e4 e5
  subst e0 e1 e2 e3 e4 e5
  exact ⟨s, a, b, c, e, g, rfl, rfl, rfl, w0, w1, w2, w3, w4, w5⟩

theorem shut_cur {t ts ti : TypeId} {f0 f1 f2 f3 f4 f5 : Field} (hs : P.underlying t = some (.struct #[f0, f1, f2, f3, f4, f5])) (hone : oneCellFields P #[f0, f1, f2, f3, f4, f5] = true) (hC : P.cellsOf t = 6)
    (hts : P.underlying ts = some .string) (hti : P.underlying ti = some (.int .i64)) (hf : f0.type = ts ∧ f1.type = ti ∧ f2.type = ti ∧ f3.type = ti ∧ f4.type = ti ∧ f5.type = ti)
    {s : ByteArray} {a b c e g : Int} (w0 : s.size ≤ maxLen) (w1 : (Lit.int .i64 a).wf = true) (w2 : (Lit.int .i64 b).wf = true) (w3 : (Lit.int .i64 c).wf = true) (w4 : (Lit.int .i64 e).wf = true) (w5 : (Lit.int .i64 g).wf = true) :
    DataW.Trod enc P W base sp held t (.agg #[.string s, .int .i64 a, .int .i64 b, .int .i64 c, .int .i64 e, .int .i64 g]) (.agg [.lit (.string s.data.toList), .lit (.int .i64 a), .lit (.int .i64 b), .lit (.int .i64 c), .lit (.int .i64 e), .lit (.int .i64 g)]) [] := by
  have hint : ∀ n : Int, (Lit.int .i64 n).wf = true → DataW.trod enc P W base sp held 1 ti [.int .i64 n] = some (.lit (.int .i64 n), []) := fun n hn => by simp [DataW.trod, hti, hn]
  have hstr : DataW.trod enc P W base sp held 1 ts [.string s] = some (.lit (.string s.data.toList), []) := by simp [DataW.trod, hts, w0]
  obtain ⟨t0, t1, t2, t3, t4, t5⟩ := hf
  have ho := fun i f => hone_of hone i f
  obtain ⟨o0, k0⟩ := ho 0 f0 rfl
  obtain ⟨o1, k1⟩ := ho 1 f1 rfl
  obtain ⟨o2, k2⟩ := ho 2 f2 rfl
  obtain ⟨o3, k3⟩ := ho 3 f3 rfl
  obtain ⟨o4, k4⟩ := ho 4 f4 rfl
  obtain ⟨o5, k5⟩ := ho 5 f5 rfl
  have := trod_struct_mk (enc := enc) (w := W) (base := base) (spare := sp) (held := held) (n := 1) (cs := [.string s, .int .i64 a, .int .i64 b, .int .i64 c, .int .i64 e, .int .i64 g])
    (xs := [(.lit (.string s.data.toList), []), (.lit (.int .i64 a), []), (.lit (.int .i64 b), []), (.lit (.int .i64 c), []), (.lit (.int .i64 e), []), (.lit (.int .i64 g), [])]) hs (by rw [hC]; rfl)
    (by rw [t0] at k0; rw [t1] at k1; rw [t2] at k2; rw [t3] at k3; rw [t4] at k4; rw [t5] at k5
        simp [o0, o1, o2, o3, o4, o5, k0, k1, t0, t1, t2, t3, t4, t5, hstr, hint _ w1, hint _ w2, hint _ w3, hint _ w4, hint _ w5])
  exact ⟨_, by simpa [Value.cells] using this⟩

theorem rep_cur {G : Gh} (s : ByteArray) (a b c e g : Int) : Rep G (.agg [.str s.data.toList, .int .i64 a, .int .i64 b, .int .i64 c, .int .i64 e, .int .i64 g]) (.agg #[.string s, .int .i64 a, .int .i64 b, .int .i64 c, .int .i64 e, .int .i64 g]) :=
  .agg (.cons (rep_str _) (.cons (.int _ _) (.cons (.int _ _) (.cons (.int _ _) (.cons (.int _ _) (.cons (.int _ _) .nil))))))

/-- Four numbers. -/
theorem open_lim {r : Reach} {b0 : Nat} {t ti : TypeId} {f0 f1 f2 f3 : Field} {v : Value} {d : DataW H} {p : List MemPlace} (hs : P.underlying t = some (.struct #[f0, f1, f2, f3])) (hone : oneCellFields P #[f0, f1, f2, f3] = true) (hC : P.cellsOf t = 4)
    (hti : P.underlying ti = some (.int .i64)) (hf : f0.type = ti ∧ f1.type = ti ∧ f2.type = ti ∧ f3.type = ti)
    (hv : Value.okWide P W r b0 t v) (h : DataW.Trod enc P W base sp held t v d p) :
    ∃ (a b c e : Int), v = .agg #[.int .i64 a, .int .i64 b, .int .i64 c, .int .i64 e] ∧ d = .agg [.lit (.int .i64 a), .lit (.int .i64 b), .lit (.int .i64 c), .lit (.int .i64 e)] ∧ p = [] ∧
      (Lit.int .i64 a).wf = true ∧ (Lit.int .i64 b).wf = true ∧ (Lit.int .i64 c).wf = true ∧ (Lit.int .i64 e).wf = true := by
  obtain ⟨v0, v1, v2, v3, y0, y1, y2, y3, n, rfl, rfl, rfl, h0, h1, h2, h3⟩ := open_agg4 hs hone hC hv h
  obtain ⟨t0, t1, t2, t3⟩ := hf
  rw [t0] at h0
  rw [t1] at h1
  rw [t2] at h2
  rw [t3] at h3
  obtain ⟨a, e0, rfl, w0⟩ := DataW.trod_int hti h0
  obtain ⟨b, e1, rfl, w1⟩ := DataW.trod_int hti h1
  obtain ⟨c, e2, rfl, w2⟩ := DataW.trod_int hti h2
  obtain ⟨e, e3, rfl, w3⟩ := DataW.trod_int hti h3
  simp at e0 e1 e2 e3
  subst e0 e1 e2 e3
  exact ⟨a, b, c, e, rfl, rfl, rfl, w0, w1, w2, w3⟩

theorem shut_lim {t ti : TypeId} {f0 f1 f2 f3 : Field} (hs : P.underlying t = some (.struct #[f0, f1, f2, f3])) (hone : oneCellFields P #[f0, f1, f2, f3] = true) (hC : P.cellsOf t = 4)
    (hti : P.underlying ti = some (.int .i64)) (hf : f0.type = ti ∧ f1.type = ti ∧ f2.type = ti ∧ f3.type = ti) {a b c e : Int} (w1 : (Lit.int .i64 a).wf = true) (w2 : (Lit.int .i64 b).wf = true) (w3 : (Lit.int .i64 c).wf = true) (w4 : (Lit.int .i64 e).wf = true) :
    DataW.Trod enc P W base sp held t (.agg #[.int .i64 a, .int .i64 b, .int .i64 c, .int .i64 e]) (.agg [.lit (.int .i64 a), .lit (.int .i64 b), .lit (.int .i64 c), .lit (.int .i64 e)]) [] := by
  have hint : ∀ n : Int, (Lit.int .i64 n).wf = true → ∃ m, DataW.trod enc P W base sp held m ti [.int .i64 n] = some (.lit (.int .i64 n), []) := fun n hn => ⟨1, by simp [DataW.trod, hti, hn]⟩
  obtain ⟨t0, t1, t2, t3⟩ := hf
  have := shut_agg4 (enc := enc) (w := W) (base := base) (spare := sp) (held := held) (y0 := (.lit (.int .i64 a), [])) (y1 := (.lit (.int .i64 b), [])) (y2 := (.lit (.int .i64 c), [])) (y3 := (.lit (.int .i64 e), [])) hs hone hC
    (by rw [t0]; exact hint _ w1) (by rw [t1]; exact hint _ w2) (by rw [t2]; exact hint _ w3) (by rw [t3]; exact hint _ w4)
  simpa using this

theorem rep_lim {G : Gh} (a b c e : Int) : Rep G (.agg [.int .i64 a, .int .i64 b, .int .i64 c, .int .i64 e]) (.agg #[.int .i64 a, .int .i64 b, .int .i64 c, .int .i64 e]) :=
  .agg (.cons (.int _ _) (.cons (.int _ _) (.cons (.int _ _) (.cons (.int _ _) .nil))))

end

end Go.Proofs.YtdmbncmbkocjjaaGreat.Br

/- Arguments that are slices whose elements hold no pointer: opened, and shut again. -/
namespace Go.Proofs.YtdmbncmbkocjjaaGreat.Br
open Go Am Go.RowKit Go.WideShapes Go.ChangeShapes Go.ChangeAt Go.Joins Go.Deep Go.WideElems Go.Maps

theorem flatMap_get {X α : Type} {f : X → List α} {sz : Nat} (hsz : 0 < sz) (hf : ∀ x, (f x).length = sz) : ∀ (xs : List X) (j : Nat), (xs.flatMap f)[j]? = (xs[j / sz]?).bind fun x => (f x)[j % sz]?
  | [], j => by simp
  | x :: xs, j => by
    rw [List.flatMap_cons]
    by_cases hj : j < sz
    · rw [List.getElem?_append_left (by rw [hf]; exact hj), Nat.div_eq_of_lt hj, Nat.mod_eq_of_lt hj]; rfl
    · obtain ⟨i, rfl⟩ : ∃ i, j = sz + i := ⟨j - sz, by omega⟩
      rw [List.getElem?_append_right (by rw [hf]; omega), hf, flatMap_get hsz hf xs, show sz + i - sz = i by omega, show (sz + i) / sz = i / sz + 1 by rw [Nat.add_div_left _ hsz], Nat.add_mod_left]
      rfl

section
variable {H : Type} {enc : TypeId × Value → H} {P : Program} {W : World}

/-- What the elements are. -/
structure El (enc : TypeId × Value → H) (P : Program) (e : TypeId) (sz : Nat) (X : Type) where
  av : X → AV
  vals : X → List Value
  dat : X → DataW H
  ok : X → Prop
  pos : 0 < sz
  len : ∀ x, (vals x).length = sz
  cells : ∀ x, (av x).cells.length = sz
  rfl' : ∀ x, AV.rfL (av x).cells = true
  leaf : ∀ x, (av x).cells.all AV.leaf = true
  rep : ∀ (G : Gh) x, RepL G (av x).cells (vals x)
  opened : ∀ {W : World} {n : Nat} {cs : List Value} {d : DataW H} {pl : List MemPlace}, cs.length = sz → DataW.trod enc P W 0 (fun _ => true) true n e cs = some (d, pl) → ∃ x, ok x ∧ cs = vals x ∧ d = dat x ∧ pl = []
  shut : ∀ (W : World) (sp : Nat → Bool) x, ok x → ∃ n, DataW.trod enc P W 0 sp true n e (vals x) = some (dat x, [])

theorem rep_flat {G : Gh} {X : Type} {f : X → AV} {g : X → List Value} (h : ∀ x, RepL G (f x).cells (g x)) : ∀ xs : List X, RepL G (flat (xs.map f)) (xs.flatMap g)
  | [] => .nil
  | x :: xs => by
    rw [List.flatMap_cons]
    show RepL G ((f x).cells ++ flat (xs.map f)) _
    exact RepL.append (h x) (rep_flat h xs)

theorem rfL_flat {X : Type} {f : X → AV} (h : ∀ x, AV.rfL (f x).cells = true) : ∀ xs : List X, AV.rfL (flat (xs.map f)) = true
  | [] => rfl
  | x :: xs => by
    show AV.rfL ((f x).cells ++ flat (xs.map f)) = true
    rw [rfL_append, h x, rfL_flat h xs]; rfl

theorem leaf_flat {X : Type} {f : X → AV} (h : ∀ x, (f x).cells.all AV.leaf = true) : ∀ xs : List X, (flat (xs.map f)).all AV.leaf = true
  | [] => rfl
  | x :: xs => by
    show ((f x).cells ++ flat (xs.map f)).all AV.leaf = true
    rw [List.all_append, h x, leaf_flat h xs]; rfl

theorem add_block (a : Addr) (i : Nat) : (a.add i).block = a.block := by
  unfold Addr.add; split <;> rfl

theorem cells_below {W W' : World} {base : Nat} {a : Addr} {n : Nat} {cs : List Value} (h : W.cells? base a n = some cs) (hn : 0 < n) (hb : Below W.heap.size W W') : W'.cells? base a n = some cs := by
  have hlt := World.cells?_block h hn
  obtain ⟨h1, h2, h3⟩ := World.cells?_some h
  refine World.cells?_of_each h1 h2 fun i hi => ?_
  rw [← h3 i hi]
  unfold World.cell?
  rw [add_block, hb.block _ hlt]

/-- A slice that is an argument: what it is to the machine, and that it reads as before whatever new memory there is. -/
theorem open_row {t e : TypeId} {sz : Nat} {X : Type} [Inhabited X] (E : El enc P e sz X) {r : Reach} {b0 : Nat} {v : Value} {d : DataW H} {p : List MemPlace} (ht : P.underlying t = some (.slice e)) (hC : P.cellsOf e = sz)
    (hv : Value.okWide P W r b0 t v) (h : DataW.Trod enc P W 0 (fun _ => true) true t v d p) :
    ∃ (y : AV) (xs : List X), ((y = .nils ∧ xs = []) ∨ y = .list (xs.map E.av)) ∧ (∀ x ∈ xs, E.ok x) ∧ (∃ rest, (d = .nil ∧ xs = []) ∨ d = .slice (xs.map E.dat) rest) ∧ Rep (Gh.bare fun b o => W.cell? ⟨b, o, none⟩) y v ∧
      ∀ (W' : World) (sp : Nat → Bool), Below W.heap.size W W' → (∀ q ∈ p, sp q.block = true) → DataW.Trod enc P W' 0 sp true t v d p := by
  obtain ⟨a0, len0, cap0, rfl⟩ := okWide_slice ht hv
  obtain ⟨fuel, hf⟩ := h
  have hf : DataW.trod enc P W 0 (fun _ => true) true fuel t [.slice a0 len0 cap0] = some (d, p) := by simpa [Value.cells] using hf
  rcases open_slice ht hf with ⟨hc, hx⟩ | ⟨a, len, cap, m, n, D, Pl, hc, _, hl, hm, hmm, hx, hel⟩
  · simp only [List.cons.injEq, Value.slice.injEq, and_true] at hc
    obtain ⟨rfl, rfl, rfl⟩ := hc
    obtain ⟨rfl, rfl⟩ := Prod.mk.inj hx
    exact ⟨.nils, [], .inl ⟨rfl, rfl⟩, (by simp), ⟨[], .inl ⟨rfl, rfl⟩⟩, .nils, fun W' sp _ _ => ⟨1, by simp [DataW.trod, Value.cells, ht]⟩⟩
  · simp only [List.cons.injEq, Value.slice.injEq, and_true] at hc
    obtain ⟨rfl, rfl, rfl⟩ := hc
    simp only [if_true] at hmm
    subst hmm
    obtain ⟨hd, hp⟩ := Prod.mk.inj hx
    rw [hC] at hel
    have hall : ∀ i, i < m → ∃ x : X, E.ok x ∧ W.cells? 0 (a.add (i * sz)) sz = some (E.vals x) ∧ D i = E.dat x ∧ Pl i = [] := by
      intro i hi
      obtain ⟨cs', h1, h2⟩ := hel i hi
      obtain ⟨_, hln, _⟩ := World.cells?_some h1
      obtain ⟨x, k, rfl, hD, hP⟩ := E.opened hln h2
      exact ⟨x, k, h1, hD, hP⟩
    have hpl : (List.range m).flatMap Pl = [] := by
      rw [List.flatMap_eq_nil_iff]
      intro i hi
      obtain ⟨_, _, _, _, h⟩ := hall i (List.mem_range.1 hi)
      exact h
    obtain ⟨F, hF⟩ := choose_lt hall
    have cellAt : ∀ i k, i < m → k < sz → W.cell? (a.add (i * sz + k)) = (E.vals (F i))[k]? := by
      intro i k hi hk
      obtain ⟨_, _, h3⟩ := World.cells?_some (hF i hi).2.1
      rw [← h3 k hk, add_add]
    have hspot : 0 < m → a.spot = none := by
      intro h0
      have := cellAt 0 0 h0 E.pos
      rw [Nat.zero_mul, show a.add (0 + 0) = a from rfl, List.getElem?_eq_getElem (by rw [E.len]; exact E.pos)] at this
      unfold World.cell? at this
      split at this
      · split at this
        · cases this
        · rename_i h; simpa using h
      · cases this
    have hDF : ∀ i, i < m → D i = E.dat (F i) := fun i hi => (hF i hi).2.2.1
    refine ⟨.list (((List.range len0).map F).map E.av), (List.range len0).map F, .inr rfl, ?_, ⟨(List.range (m - len0)).map fun j => D (len0 + j), .inr ?_⟩, ?_, ?_⟩
    · intro x hx
      obtain ⟨i, hi, rfl⟩ := List.mem_map.1 hx
      exact (hF i (by have := List.mem_range.1 hi; omega)).1
    · rw [hd]
      congr 1
      rw [List.map_map]
      exact List.map_congr_left fun i hi => hDF i (by have := List.mem_range.1 hi; omega)
    · refine .list (rep_flat (E.rep _) _) ?_ (rfL_flat E.rfl' _) (leaf_flat E.leaf _) ?_ (by simp) hl (by omega) (sz := sz)
      · intro x hx
        obtain ⟨z, _, rfl⟩ := List.mem_map.1 hx
        exact E.cells z
      · intro j u hj
        rw [flatMap_get E.pos E.len] at hj
        by_cases hi : j / sz < len0
        · rw [List.getElem?_map, List.getElem?_range hi] at hj
          have hj : (E.vals (F (j / sz)))[j % sz]? = some u := hj
          have hk := cellAt (j / sz) (j % sz) (by omega) (Nat.mod_lt _ E.pos)
          rw [hj, Nat.div_add_mod'] at hk
          have hs := hspot (Nat.lt_of_lt_of_le (Nat.lt_of_le_of_lt (Nat.zero_le _) hi) hl)
          obtain ⟨b, o, s⟩ := a
          subst hs
          refine ⟨b, o, rfl, ?_⟩
          show W.cell? ⟨b, o + j, none⟩ = some u
          rw [← hk]
          unfold Addr.add
          split
          · rename_i h; rw [h]; rfl
          · rfl
        · rw [List.getElem?_eq_none (by simp; omega)] at hj
          cases hj
    · intro W' sp hb hsp
      have each : ∀ i, i < m → ∃ cs n, W'.cells? 0 (a.add (i * P.cellsOf e)) (P.cellsOf e) = some cs ∧ DataW.trod enc P W' 0 sp true n e cs = some (D i, Pl i) := by
        intro i hi
        obtain ⟨h1, h2, h3, h4⟩ := hF i hi
        obtain ⟨n, hn⟩ := E.shut W' sp (F i) h1
        rw [hC]
        exact ⟨_, n, cells_below h2 E.pos hb, by rw [hn, h3, h4]⟩
      rw [hd, hp]
      cases hs : sp a.block with
      | true => exact shut_slice_whole ht (Nat.zero_le _) hl hm hs D Pl each
      | false =>
        have hm0 : m = 0 := by
          rcases Nat.eq_zero_or_pos m with h | h
          · exact h
          · have hmem : MemPlace.cell a.block (a.off + 0) ∈ p := by
              rw [hp, hC]
              exact List.mem_append_left _ (List.mem_map.2 ⟨0, List.mem_range.2 (Nat.mul_pos h E.pos), rfl⟩)
            have := hsp _ hmem
            rw [show (MemPlace.cell a.block (a.off + 0)).block = a.block from rfl, hs] at this
            cases this
        subst hm0
        obtain rfl : len0 = 0 := by omega
        exact shut_slice ht (Nat.zero_le _) hl hm hs D Pl each

/-- A nil slice reads as an empty list. -/
theorem rep_list {X : Type} {f : X → AV} {G : Gh} {y : AV} {xs : List X} {v : Value} (hy : (y = .nils ∧ xs = []) ∨ y = .list (xs.map f)) (h : Rep G y v) : Rep G (.list (xs.map f)) v := by
  rcases hy with ⟨rfl, rfl⟩ | rfl
  · exact h.nn0
  · exact h

/-- Elements that are structs of two numbers. -/
def elTwo {e ti : TypeId} {f0 f1 : Field} (hs : P.underlying e = some (.struct #[f0, f1])) (hone : oneCellFields P #[f0, f1] = true) (hC : P.cellsOf e = 2)
    (hti : P.underlying ti = some (.int .i64)) (hf : f0.type = ti ∧ f1.type = ti) : El enc P e 2 (Int × Int) where
  av o := .agg [.int .i64 o.1, .int .i64 o.2]
  vals o := [.int .i64 o.1, .int .i64 o.2]
  dat o := .agg [.lit (.int .i64 o.1), .lit (.int .i64 o.2)]
  ok o := (Lit.int .i64 o.1).wf = true ∧ (Lit.int .i64 o.2).wf = true
  pos := by decide
  len _ := rfl
  cells _ := rfl
  rfl' _ := rfl
  leaf _ := rfl
  rep _ _ := .cons (.int _ _) (.cons (.int _ _) .nil)
  opened := by
    intro W n cs d pl hlen h
    obtain ⟨xs, n, _, hx, _, hl2, hg⟩ := DataW.trod_struct hs h
    obtain ⟨t0, t1⟩ := hf
    have ho := fun i f => hone_of hone i f
    match cs, hlen, xs, hl2 with
    | [c0, c1], _, [y0, y1], _ =>
      obtain ⟨o0, k0⟩ := ho 0 f0 rfl
      obtain ⟨o1, k1⟩ := ho 1 f1 rfl
      have h0 : DataW.trod enc P W 0 (fun _ => true) true n f0.type [c0] = some y0 := by simpa [o0, k0] using hg 0 f0 rfl
      have h1 : DataW.trod enc P W 0 (fun _ => true) true n f1.type [c1] = some y1 := by simpa [o1, k1] using hg 1 f1 rfl
      rw [t0] at h0
      rw [t1] at h1
      obtain ⟨a, e0, rfl, w0⟩ := DataW.trod_int hti h0
      obtain ⟨b, e1, rfl, w1⟩ := DataW.trod_int hti h1
      simp at e0 e1
      subst e0 e1
      simp only [Prod.mk.injEq] at hx
      exact ⟨(a, b), ⟨w0, w1⟩, rfl, by rw [hx.1]; rfl, by rw [hx.2]; rfl⟩
  shut := by
    intro W sp o ho
    have hint : ∀ n : Int, (Lit.int .i64 n).wf = true → DataW.trod enc P W 0 sp true 1 ti [.int .i64 n] = some (.lit (.int .i64 n), []) := fun n hn => by simp [DataW.trod, hti, hn]
    obtain ⟨t0, t1⟩ := hf
    have hoo := fun i f => hone_of hone i f
    obtain ⟨o0, k0⟩ := hoo 0 f0 rfl
    obtain ⟨o1, k1⟩ := hoo 1 f1 rfl
    have := trod_struct_mk (enc := enc) (w := W) (base := 0) (spare := sp) (held := true) (n := 1) (cs := [.int .i64 o.1, .int .i64 o.2])
      (xs := [(.lit (.int .i64 o.1), []), (.lit (.int .i64 o.2), [])]) hs (by rw [hC]; rfl)
      (by rw [t0] at k0; rw [t1] at k1
          simp [o0, o1, k0, t0, t1, hint _ ho.1, hint _ ho.2])
    exact ⟨_, by simpa using this⟩

end
end Go.Proofs.YtdmbncmbkocjjaaGreat.Br

/- Arguments of types without pointers (numbers, texts, structs, slices of such, as deep as they go): what they are to the machine. -/
namespace Go.Proofs.YtdmbncmbkocjjaaGreat.Br
open Go Am Go.RowKit Go.WideShapes Go.ChangeShapes Go.ChangeAt Go.Joins Go.Deep Go.WideElems Go.Maps

/-- An element, of its cells. -/
def elemV : List AV → AV
  | [x] => x
  | l => .agg l

/-- Fields one behind the other from a cell on. -/
def consec (P : Program) : Nat → List Field → Nat → Bool
  | o, [], n => Nat.beq o n
  | o, f :: fs, n => Nat.beq f.offset o && consec P (o + P.cellsOf f.type) fs n

/-- Types that hold no pointer, and whose parts are of these types again. -/
def plain1 (P : Program) (ts : List TypeId) (t : TypeId) : Bool :=
  match P.underlying t with
  | some (.int _) | some .bool | some .string => P.cellsOf t == 1
  | some (.struct fs) => consec P 0 fs.toList (P.cellsOf t) && fs.toList.all fun f => ts.contains f.type
  | some (.slice e) => P.cellsOf t == 1 && decide (0 < P.cellsOf e) && ts.contains e
  | _ => false
def plainS (P : Program) (ts : List TypeId) : Bool := ts.all (plain1 P ts)

/-- The cells of a value of such a type; its texts have at most M bytes. -/
def Has (P : Program) (M : Nat) : Nat → TypeId → List AV → Prop
  | 0, _, _ => False
  | k + 1, t, cs => match P.underlying t with
    | some (.int ik) => ∃ n, cs = [.int ik n] ∧ (Lit.int ik n).wf = true
    | some .bool => ∃ b, cs = [.bool b]
    | some .string => ∃ s, cs = [.str s] ∧ s.length ≤ M
    | some (.struct fs) => HasL (Has P M k) fs.toList cs
    | some (.slice e) => ∃ l : List (List AV), cs = [.list (l.map elemV)] ∧ l.length ≤ maxLen ∧ ∀ c ∈ l, Has P M k e c
    | _ => False
where
  HasL (h : TypeId → List AV → Prop) : List Field → List AV → Prop
    | [], cs => cs = []
    | f :: fs, cs => ∃ a b, cs = a ++ b ∧ h f.type a ∧ HasL h fs b

theorem elemV_cells {l : List AV} (h : l.all AV.leaf = true) : (elemV l).cells = l := by
  match l, h with
  | [], _ => rfl
  | [x], h => cases x <;> first | rfl | simp [AV.leaf] at h
  | _ :: _ :: _, _ => rfl

theorem repL_flatten {G : Gh} : ∀ {ls : List (List AV)} {cs : List (List Value)}, ls.length = cs.length → (∀ i (h1 : i < ls.length) (h2 : i < cs.length), RepL G ls[i] cs[i]) → RepL G ls.flatten cs.flatten
  | [], [], _, _ => .nil
  | l :: ls, c :: cs, hn, h => by
    rw [List.flatten_cons, List.flatten_cons]
    exact RepL.append (h 0 (by simp) (by simp)) (repL_flatten (by simpa using hn) fun i h1 h2 => h (i + 1) (by simpa using h1) (by simpa using h2))
  | [], _ :: _, hn, _ => by simp at hn
  | _ :: _, [], hn, _ => by simp at hn

section
variable {H : Type} {enc : TypeId × Value → H} {P : Program} {W : World} {M : Nat}

theorem bulk_mem {d : DataW H} : ∀ {l : List (DataW H)}, d ∈ l → Rows.uptoBulk d ≤ Rows.uptoBulkAll l
  | [], h => by cases h
  | x :: l, h => by
    rw [Rows.uptoBulkAll]
    rcases List.mem_cons.1 h with rfl | h
    · omega
    · have := bulk_mem h
      omega

/-- What the reading of some cells gives. -/
def Opn (W : World) (h : List AV → Prop) (n : Nat) (cs : List Value) : Prop :=
  ∃ avs, h avs ∧ RepL (Gh.bare fun b o => W.cell? ⟨b, o, none⟩) avs cs ∧ avs.length = n ∧ AV.rfL avs = true ∧ avs.all AV.leaf = true

theorem open_fields {h : TypeId → List AV → Prop} {cs : List Value} : ∀ (fs : List Field) (o : Nat), consec P o fs cs.length = true → (∀ f ∈ fs, Opn W (h f.type) (P.cellsOf f.type) ((cs.drop f.offset).take (P.cellsOf f.type))) →
    Opn W (Has.HasL h fs) (cs.length - o) (cs.drop o)
  | [], o, hc, _ => by
    have e : o = cs.length := Nat.eq_of_beq_eq_true hc
    refine ⟨[], rfl, ?_, by simp [e], rfl, rfl⟩
    rw [e, List.drop_length]
    exact .nil
  | f :: fs, o, hc, hf => by
    simp only [consec, Bool.and_eq_true] at hc
    have eo : f.offset = o := Nat.eq_of_beq_eq_true hc.1
    obtain ⟨a, a1, a2, a3, a4, a5⟩ := hf f (by simp)
    obtain ⟨b, b1, b2, b3, b4, b5⟩ := open_fields fs _ hc.2 fun g hg => hf g (by simp [hg])
    rw [eo] at a2
    refine ⟨a ++ b, ⟨a, b, rfl, a1, b1⟩, ?_, ?_, by rw [rfL_append, a4, b4] <;> rfl, by rw [List.all_append, a5, b5] <;> rfl⟩
    · have := RepL.append a2 b2
      rwa [← List.drop_drop, List.take_append_drop] at this
    · have hlen : a.length = ((cs.drop o).take (P.cellsOf f.type)).length := (RepL.length a2).symm
      rw [List.length_append, a3, b3]
      rw [a3, List.length_take, List.length_drop] at hlen
      omega

theorem open_deep {ts : List TypeId} (hP : plainS P ts = true) : ∀ (k : Nat) (t : TypeId) (cs : List Value) (d : DataW H) (pl : List MemPlace), ts.contains t = true → DataW.trod enc P W 0 (fun _ => true) true k t cs = some (d, pl) → (M = maxLen ∨ Rows.uptoBulk d ≤ M) →
    Opn W (Has P M k t) (P.cellsOf t) cs
  | 0, _, _, _, _, _, h, _ => by simp [DataW.trod] at h
  | k + 1, t, cs, d, pl, ht, h, hb => by
    have hp := List.all_eq_true.1 hP t (by simpa using ht)
    unfold plain1 at hp
    split at hp
    · rename_i ik hu
      obtain ⟨v, rfl, _, hw⟩ := DataW.trod_int hu h
      refine ⟨[.int ik v], ?_, .cons (.int ik v) .nil, by rw [beq_iff_eq] at hp; simp [hp], rfl, rfl⟩
      simp only [Has, hu]
      exact ⟨v, rfl, hw⟩
    · rename_i hu
      obtain ⟨b, rfl, _⟩ := DataW.trod_bool hu h
      refine ⟨[.bool b], ?_, .cons (.bool b) .nil, by rw [beq_iff_eq] at hp; simp [hp], rfl, rfl⟩
      simp only [Has, hu]
      exact ⟨b, rfl⟩
    · rename_i hu
      obtain ⟨⟨⟨s⟩⟩, rfl, e, hw⟩ := DataW.trod_string hu h
      have hw : s.length ≤ M := by
        rcases hb with rfl | hb
        · exact hw
        · cases e
          rw [Rows.uptoBulk] at hb
          exact Nat.le_trans (Nat.le_succ _) hb
      refine ⟨[.str s], ?_, .cons (.str s) .nil, by rw [beq_iff_eq] at hp; simp [hp], rfl, rfl⟩
      simp only [Has, hu]
      exact ⟨s, rfl, hw⟩
    · rename_i fs hu
      simp only [Bool.and_eq_true, List.all_eq_true] at hp
      obtain ⟨xs, n', hk, e, hlen, hxl, hx⟩ := DataW.trod_struct hu h
      obtain rfl : k = n' := by omega
      have hbx : ∀ x ∈ xs, M = maxLen ∨ Rows.uptoBulk x.1 ≤ M := fun x hx => hb.imp id fun hb => by
        cases e
        rw [Rows.uptoBulk] at hb
        have := bulk_mem (l := xs.map (·.1)) (List.mem_map.2 ⟨x, hx, rfl⟩)
        omega
      have := open_fields (W := W) (h := Has P M k) (cs := cs) fs.toList 0 (by rw [hlen]; exact hp.1) (fun f hf => by
        obtain ⟨i, hi⟩ := List.mem_iff_getElem?.1 hf
        have hi' : fs[i]? = some f := by simpa using hi
        have hlt : i < fs.size := by
          have := List.getElem?_eq_some_iff.1 hi
          simpa using this.1
        have h2 := hx i f hi'
        rw [List.getElem?_eq_getElem (by omega)] at h2
        exact open_deep hP k f.type _ _ _ (hp.2 f hf) h2 (hbx _ (List.getElem_mem _)))
      rw [List.drop_zero, Nat.sub_zero, hlen] at this
      obtain ⟨avs, h1, h2⟩ := this
      refine ⟨avs, ?_, h2⟩
      simp only [Has, hu]
      exact h1
    · rename_i e hu
      simp only [Bool.and_eq_true, decide_eq_true_eq, beq_iff_eq] at hp
      obtain ⟨⟨h1, h0⟩, hpe⟩ := hp
      rcases DataW.trod_slice hu h with ⟨rfl, _⟩ | ⟨a, len, cap, elems, rest, n', hk, rfl, e0, _, hl, hm, hln0, hel, _⟩
      · refine ⟨[.list []], ?_, .cons (.list (cs := []) (sz := 0) .nil (by simp) rfl rfl (by simp) rfl (Nat.zero_le _) (Nat.zero_le _)) .nil, by simp [h1], rfl, rfl⟩
        simp only [Has, hu]
        exact ⟨[], rfl, Nat.zero_le _, by simp⟩
      · obtain rfl : k = n' := by omega
        have hbx : ∀ x ∈ elems, M = maxLen ∨ Rows.uptoBulk x.1 ≤ M := fun x hx => hb.imp id fun hb => by
          cases e0
          rw [Rows.uptoBulk] at hb
          have := bulk_mem (l := elems.map (·.1)) (List.mem_map.2 ⟨x, hx, rfl⟩)
          omega
        haveI : Inhabited ({c : List Value // c.length = P.cellsOf e} × List AV) := ⟨(⟨List.replicate (P.cellsOf e) (.bool false), by simp⟩, [])⟩
        obtain ⟨F, hF⟩ := choose_lt (α := {c : List Value // c.length = P.cellsOf e} × List AV) (n := len) (p := fun i x => W.cells? 0 (a.add (i * P.cellsOf e)) (P.cellsOf e) = some x.1.1 ∧ Has P M k e x.2 ∧ RepL (Gh.bare fun b o => W.cell? ⟨b, o, none⟩) x.2 x.1.1 ∧ x.2.length = P.cellsOf e ∧ AV.rfL x.2 = true ∧ x.2.all AV.leaf = true) (fun i hi => by
          have hb := hel i hi
          rw [List.getElem?_eq_getElem (by omega)] at hb
          obtain ⟨cs', c1, c2⟩ := Option.bind_eq_some_iff.1 hb
          obtain ⟨_, hln, _⟩ := World.cells?_some c1
          obtain ⟨avs, o1, o2, o3, o4, o5⟩ := open_deep hP k e cs' _ _ hpe c2 (hbx _ (List.getElem_mem _))
          exact ⟨(⟨cs', hln⟩, avs), c1, o1, o2, o3, o4, o5⟩)
        have cellAt : ∀ i j, i < len → j < P.cellsOf e → W.cell? (a.add (i * P.cellsOf e + j)) = (F i).1.1[j]? := by
          intro i j hi hj
          obtain ⟨_, _, h3⟩ := World.cells?_some (hF i hi).1
          rw [← h3 j hj, add_add]
        have hspot : 0 < len → a.spot = none := by
          intro hc
          have := cellAt 0 0 hc h0
          rw [Nat.zero_mul, show a.add (0 + 0) = a from rfl, List.getElem?_eq_getElem (by rw [(F 0).1.2]; exact h0)] at this
          unfold World.cell? at this
          split at this
          · split at this
            · cases this
            · rename_i h; simpa using h
          · cases this
        have hel' : ∀ c ∈ (List.range len).map (fun i => (F i).2), ∃ i, i < len ∧ c = (F i).2 := by
          intro c hc
          obtain ⟨i, hi, rfl⟩ := List.mem_map.1 hc
          exact ⟨i, List.mem_range.1 hi, rfl⟩
        have hflat : ∀ L : List (List AV), (∀ c ∈ L, c.all AV.leaf = true) → flat (L.map elemV) = L.flatten := by
          intro L
          induction L with
          | nil => intro _; rfl
          | cons c L ih =>
            intro hh
            show (elemV c).cells ++ flat (L.map elemV) = c ++ L.flatten
            rw [elemV_cells (hh c (by simp)), ih fun x hx => hh x (by simp [hx])]
        have hrf : ∀ L : List (List AV), (∀ c ∈ L, AV.rfL c = true) → AV.rfL L.flatten = true := by
          intro L
          induction L with
          | nil => intro _; rfl
          | cons c L ih =>
            intro hh
            rw [List.flatten_cons, rfL_append, hh c (by simp), ih fun x hx => hh x (by simp [hx])] <;> rfl
        have hlf : ∀ L : List (List AV), (∀ c ∈ L, c.all AV.leaf = true) → L.flatten.all AV.leaf = true := by
          intro L
          induction L with
          | nil => intro _; rfl
          | cons c L ih =>
            intro hh
            rw [List.flatten_cons, List.all_append, hh c (by simp), ih fun x hx => hh x (by simp [hx])] <;> rfl
        have hl1 : ∀ c ∈ (List.range len).map (fun i => (F i).2), c.all AV.leaf = true := fun c hc => by
          obtain ⟨i, hi, rfl⟩ := hel' c hc
          exact (hF i hi).2.2.2.2.2
        have hl2 : ∀ c ∈ (List.range len).map (fun i => (F i).2), AV.rfL c = true := fun c hc => by
          obtain ⟨i, hi, rfl⟩ := hel' c hc
          exact (hF i hi).2.2.2.2.1
        refine ⟨[.list (((List.range len).map fun i => (F i).2).map elemV)], ?_, .cons (.list (cs := ((List.range len).map fun i => (F i).1.1).flatten) (sz := P.cellsOf e) ?_ ?_ ?_ ?_ ?_ (by simp) hl (by omega)) .nil, by simp [h1], rfl, rfl⟩
        · simp only [Has, hu]
          refine ⟨_, rfl, by simp; omega, ?_⟩
          intro c hc
          obtain ⟨i, hi, rfl⟩ := hel' c hc
          exact (hF i hi).2.1
        · rw [hflat _ hl1]
          refine repL_flatten (by simp) fun i g1 g2 => ?_
          simp only [List.length_map, List.length_range] at g1
          simp only [List.getElem_map, List.getElem_range]
          exact (hF i (by omega)).2.2.1
        · intro x hx
          obtain ⟨c, hc, rfl⟩ := List.mem_map.1 hx
          rw [elemV_cells (hl1 c hc)]
          obtain ⟨i, hi, rfl⟩ := hel' c hc
          exact (hF i hi).2.2.2.1
        · rw [hflat _ hl1]; exact hrf _ hl2
        · rw [hflat _ hl1]; exact hlf _ hl1
        · intro j u hj
          rw [← List.flatMap_def, flatMap_get h0 (fun i => (F i).1.2)] at hj
          by_cases hi : j / P.cellsOf e < len
          · rw [List.getElem?_range hi] at hj
            have hj : (F (j / P.cellsOf e)).1.1[j % P.cellsOf e]? = some u := hj
            have hk := cellAt (j / P.cellsOf e) (j % P.cellsOf e) (by omega) (Nat.mod_lt _ h0)
            rw [hj, Nat.div_add_mod'] at hk
            have hs := hspot (Nat.lt_of_le_of_lt (Nat.zero_le _) hi)
            obtain ⟨b, o, s⟩ := a
            subst hs
            refine ⟨b, o, rfl, ?_⟩
            show W.cell? ⟨b, o + j, none⟩ = some u
            rw [← hk]
            unfold Addr.add
            split
            · rename_i h; rw [h]; rfl
            · rfl
          · rw [List.getElem?_eq_none (by simp; omega)] at hj
            cases hj
    · cases hp

/-- An argument reads the same in a later world. -/
theorem deep_stays {t : TypeId} {v : Value} {d : DataW H} {p : List MemPlace} (hl : laidOutB P = true) (hr : P.readableRec t = true) (hrow : t < P.types.size) (h : DataW.Trod enc P W 0 (fun _ => true) true t v d p) :
    ∀ (W' : World) (sp : Nat → Bool), Below W.heap.size W W' → (∀ q ∈ p, sp q.block = true) → DataW.Trod enc P W' 0 sp true t v d p := by
  intro W' sp hb hs
  obtain ⟨n, hn⟩ := h
  exact Trod_stays hl hr hrow ⟨n, hn⟩ (fun x hx => hb.same (DataW.trod_lt n _ _ _ hn x hx)) hs

/-- An argument that is a struct. -/
theorem open_struct {t : TypeId} {fs : Array Field} {ts : List TypeId} {r : Reach} {b0 : Nat} {v : Value} {d : DataW H} {p : List MemPlace} (hP : plainS P ts = true) (ht : ts.contains t = true) (hs : P.underlying t = some (.struct fs)) (hv : Value.okWide P W r b0 t v)
    (h : DataW.Trod enc P W 0 (fun _ => true) true t v d p) (hb : M = maxLen ∨ Rows.uptoBulk d ≤ M) : ∃ k avs, Has P M k t avs ∧ Rep (Gh.bare fun b o => W.cell? ⟨b, o, none⟩) (.agg avs) v := by
  obtain ⟨⟨cs⟩, rfl, _⟩ := okWide_struct hs hv
  obtain ⟨n, hn⟩ := h
  obtain ⟨avs, h1, h2, _⟩ := open_deep hP n t _ _ _ ht hn hb
  exact ⟨n, avs, h1, .agg h2⟩

/-- An argument that is a slice. -/
theorem open_slc {t e : TypeId} {ts : List TypeId} {r : Reach} {b0 : Nat} {v : Value} {d : DataW H} {p : List MemPlace} (hP : plainS P ts = true) (ht : ts.contains t = true) (hs : P.underlying t = some (.slice e)) (hv : Value.okWide P W r b0 t v)
    (h : DataW.Trod enc P W 0 (fun _ => true) true t v d p) (hb : M = maxLen ∨ Rows.uptoBulk d ≤ M) : ∃ (k : Nat) (l : List (List AV)), (∀ c ∈ l, Has P M k e c) ∧ l.length ≤ maxLen ∧ Rep (Gh.bare fun b o => W.cell? ⟨b, o, none⟩) (.list (l.map elemV)) v := by
  obtain ⟨a0, len0, cap0, rfl⟩ := okWide_slice hs hv
  obtain ⟨n, hn⟩ := h
  obtain ⟨avs, h1, h2, _⟩ := open_deep hP n t _ _ _ ht hn hb
  cases n with
  | zero => cases h1
  | succ k =>
  simp only [Has, hs] at h1
  obtain ⟨l, rfl, h3, h4⟩ := h1
  refine ⟨k, l, h4, h3, ?_⟩
  have h2 : RepL (Gh.bare fun b o => W.cell? ⟨b, o, none⟩) [.list (l.map elemV)] [.slice a0 len0 cap0] := h2
  cases h2 with
  | cons h _ => exact h

/-- Cells by what they are. -/
theorem list_of {X : Type} {f : X → List AV} {ok : X → Prop} : ∀ {l : List (List AV)}, (∀ c ∈ l, ∃ x, ok x ∧ c = f x) → ∃ xs : List X, l = xs.map f ∧ ∀ x ∈ xs, ok x
  | [], _ => ⟨[], rfl, by simp⟩
  | c :: l, h => by
    obtain ⟨x, hx, rfl⟩ := h c (by simp)
    obtain ⟨xs, rfl, hxs⟩ := list_of (l := l) fun c hc => h c (by simp [hc])
    exact ⟨x :: xs, rfl, by simpa using ⟨hx, hxs⟩⟩

end

end Go.Proofs.YtdmbncmbkocjjaaGreat.Br

/- Plans as arguments: what their cells are. -/
namespace Go.Proofs.YtdmbncmbkocjjaaGreat.Br
open Go Am

section
variable {P : Program} {M k : Nat} {t : TypeId} {cs : List AV}

theorem has_int {ik : IntKind} (hu : P.underlying t = some (.int ik)) (h : Has P M k t cs) : ∃ n, cs = [.int ik n] ∧ (Lit.int ik n).wf = true := by
  cases k with
  | zero => cases h
  | succ k => simpa only [Has, hu] using h

theorem has_bool (hu : P.underlying t = some .bool) (h : Has P M k t cs) : ∃ b, cs = [.bool b] := by
  cases k with
  | zero => cases h
  | succ k => simpa only [Has, hu] using h

theorem has_str (hu : P.underlying t = some .string) (h : Has P M k t cs) : ∃ s, cs = [.str s] ∧ s.length ≤ M := by
  cases k with
  | zero => cases h
  | succ k => simpa only [Has, hu] using h

theorem has_slice {e : TypeId} (hu : P.underlying t = some (.slice e)) (h : Has P M k t cs) : ∃ (k' : Nat) (l : List (List AV)), cs = [.list (l.map elemV)] ∧ l.length ≤ maxLen ∧ ∀ c ∈ l, Has P M k' e c := by
  cases k with
  | zero => cases h
  | succ k =>
    simp only [Has, hu] at h
    exact ⟨k, h⟩

theorem has_struct {fs : Array Field} (hu : P.underlying t = some (.struct fs)) (h : Has P M k t cs) : ∃ k', Has.HasL (Has P M k') fs.toList cs := by
  cases k with
  | zero => cases h
  | succ k =>
    simp only [Has, hu] at h
    exact ⟨k, h⟩

end

/-- An operation. -/
structure PO where
  num : Int
  name : List UInt8
  alias : List UInt8
  card : Int
  key : Int
  kind : Int
  target : Int
  union : Int

def PO.cells (o : PO) : List AV := [.int .i64 o.num, .str o.name, .str o.alias, .int .i64 o.card, .int .i64 o.key, .int .i64 o.kind, .int .i64 o.target, .int .i64 o.union]

structure PO.ok (M : Nat) (o : PO) : Prop where
  num : (Lit.int .i64 o.num).wf = true
  name : o.name.length ≤ M
  alias : o.alias.length ≤ M
  card : (Lit.int .i64 o.card).wf = true
  key : (Lit.int .i64 o.key).wf = true
  kind : (Lit.int .i64 o.kind).wf = true
  target : (Lit.int .i64 o.target).wf = true
  union : (Lit.int .i64 o.union).wf = true

theorem has_op {M k : Nat} {cs : List AV} (h : Has Tryz.prog M k 32 cs) : ∃ o : PO, o.ok M ∧ cs = o.cells := by
  obtain ⟨k, h⟩ := has_struct Tryz.underlying32 h
  simp only [Has.HasL] at h
  obtain ⟨_, _, rfl, h0, _, _, rfl, h1, _, _, rfl, h2, _, _, rfl, h3, _, _, rfl, h4, _, _, rfl, h5, _, _, rfl, h6, _, _, rfl, h7, rfl⟩ := h
  obtain ⟨a0, rfl, w0⟩ := has_int Tryz.underlying3 h0
  obtain ⟨a1, rfl, w1⟩ := has_str Tryz.underlying9 h1
  obtain ⟨a2, rfl, w2⟩ := has_str Tryz.underlying9 h2
  obtain ⟨a3, rfl, w3⟩ := has_int Tryz.underlying3 h3
  obtain ⟨a4, rfl, w4⟩ := has_int Tryz.underlying3 h4
  obtain ⟨a5, rfl, w5⟩ := has_int Tryz.underlying3 h5
  obtain ⟨a6, rfl, w6⟩ := has_int Tryz.underlying3 h6
  obtain ⟨a7, rfl, w7⟩ := has_int Tryz.underlying3 h7
  exact ⟨⟨a0, a1, a2, a3, a4, a5, a6, a7⟩, ⟨w0, w1, w2, w3, w4, w5, w6, w7⟩, rfl⟩

/-- What is known of a program: its operations. -/
structure PG where
  name : List UInt8
  ops : List PO
  unions : Int

def PG.cells (g : PG) : List AV := [.str g.name, .list (g.ops.map fun o => .agg o.cells), .int .i64 g.unions]

structure PG.ok (M : Nat) (g : PG) : Prop where
  name : g.name.length ≤ M
  len : g.ops.length ≤ maxLen
  ops : ∀ o ∈ g.ops, o.ok M
  unions : (Lit.int .i64 g.unions).wf = true

theorem has_prog {M k : Nat} {cs : List AV} (h : Has Tryz.prog M k 35 cs) : ∃ g : PG, g.ok M ∧ cs = g.cells := by
  obtain ⟨k, h⟩ := has_struct Tryz.underlying35 h
  simp only [Has.HasL] at h
  obtain ⟨_, _, rfl, h0, _, _, rfl, h1, _, _, rfl, h2, rfl⟩ := h
  obtain ⟨a0, rfl, w0⟩ := has_str Tryz.underlying9 h0
  obtain ⟨k', l, rfl, w1, hl⟩ := has_slice Tryz.underlying33 h1
  obtain ⟨a2, rfl, w2⟩ := has_int Tryz.underlying3 h2
  obtain ⟨ops, rfl, hok⟩ := list_of (f := PO.cells) (ok := PO.ok M) fun c hc => has_op (hl c hc)
  refine ⟨⟨a0, ops, a2⟩, ⟨w0, by simpa using w1, hok, w2⟩, ?_⟩
  simp only [PG.cells, List.map_map, List.cons_append, List.nil_append]
  rfl

/-- Numbers that are kept free. -/
structure PS where
  lo : Int
  hi : Int

def PS.cells (x : PS) : List AV := [.int .i64 x.lo, .int .i64 x.hi]
def PS.ok (x : PS) : Prop := (Lit.int .i64 x.lo).wf = true ∧ (Lit.int .i64 x.hi).wf = true

theorem has_span {M k : Nat} {cs : List AV} (h : Has Tryz.prog M k 83 cs) : ∃ x : PS, x.ok ∧ cs = x.cells := by
  obtain ⟨k, h⟩ := has_struct Tryz.underlying83 h
  simp only [Has.HasL] at h
  obtain ⟨_, _, rfl, h0, _, _, rfl, h1, rfl⟩ := h
  obtain ⟨a0, rfl, w0⟩ := has_int Tryz.underlying3 h0
  obtain ⟨a1, rfl, w1⟩ := has_int Tryz.underlying3 h1
  exact ⟨⟨a0, a1⟩, ⟨w0, w1⟩, rfl⟩

/-- A note: its value is left as it is. -/
structure PN where
  name : List UInt8
  val : List AV

def PN.cells (x : PN) : List AV := .str x.name :: x.val
def PN.ok (P : Program) (M : Nat) (t : TypeId) (x : PN) : Prop := x.name.length ≤ M ∧ ∃ k, Has P M k t x.val

theorem has_note {M k : Nat} {cs : List AV} (h : Has Tryz.prog M k 85 cs) : ∃ x : PN, x.ok Tryz.prog M 41 ∧ cs = x.cells := by
  obtain ⟨k, h⟩ := has_struct Tryz.underlying85 h
  simp only [Has.HasL] at h
  obtain ⟨_, _, rfl, h0, a1, _, rfl, h1, rfl⟩ := h
  obtain ⟨a0, rfl, w0⟩ := has_str Tryz.underlying9 h0
  exact ⟨⟨a0, a1⟩, ⟨w0, k, h1⟩, by simp [PN.cells]⟩

structure PI where
  name : List UInt8
  num : Int
  notes : List PN

def PI.cells (x : PI) : List AV := [.str x.name, .int .i64 x.num, .list (x.notes.map fun n => elemV n.cells)]

structure PI.ok (M : Nat) (x : PI) : Prop where
  name : x.name.length ≤ M
  num : (Lit.int .i64 x.num).wf = true
  len : x.notes.length ≤ maxLen
  notes : ∀ n ∈ x.notes, n.ok Tryz.prog M 41

theorem has_item {M k : Nat} {cs : List AV} (h : Has Tryz.prog M k 73 cs) : ∃ x : PI, x.ok M ∧ cs = x.cells := by
  obtain ⟨k, h⟩ := has_struct Tryz.underlying73 h
  simp only [Has.HasL] at h
  obtain ⟨_, _, rfl, h0, _, _, rfl, h1, _, _, rfl, h2, rfl⟩ := h
  obtain ⟨a0, rfl, w0⟩ := has_str Tryz.underlying9 h0
  obtain ⟨a1, rfl, w1⟩ := has_int Tryz.underlying3 h1
  obtain ⟨k', l, rfl, w2, hl⟩ := has_slice Tryz.underlying68 h2
  obtain ⟨ns, rfl, hok⟩ := list_of (f := PN.cells) (ok := PN.ok Tryz.prog M 41) fun c hc => has_note (hl c hc)
  refine ⟨⟨a0, a1, ns⟩, ⟨w0, w1, by simpa using w2, hok⟩, ?_⟩
  simp only [PI.cells, List.map_map, List.cons_append, List.nil_append]
  rfl

structure PE where
  name : List UInt8
  opn : Bool
  items : List PI
  free : List PS
  notes : List PN

def PE.cells (x : PE) : List AV := [.str x.name, .bool x.opn, .list (x.items.map fun n => .agg n.cells), .list (x.free.map fun n => .agg n.cells), .list (x.notes.map fun n => elemV n.cells)]

structure PE.ok (M : Nat) (x : PE) : Prop where
  name : x.name.length ≤ M
  len1 : x.items.length ≤ maxLen
  items : ∀ n ∈ x.items, n.ok M
  len2 : x.free.length ≤ maxLen
  free : ∀ n ∈ x.free, n.ok
  len3 : x.notes.length ≤ maxLen
  notes : ∀ n ∈ x.notes, n.ok Tryz.prog M 41

theorem has_enum {M k : Nat} {cs : List AV} (h : Has Tryz.prog M k 70 cs) : ∃ x : PE, x.ok M ∧ cs = x.cells := by
  obtain ⟨k, h⟩ := has_struct Tryz.underlying70 h
  simp only [Has.HasL] at h
  obtain ⟨_, _, rfl, h0, _, _, rfl, h1, _, _, rfl, h2, _, _, rfl, h3, _, _, rfl, h4, rfl⟩ := h
  obtain ⟨a0, rfl, w0⟩ := has_str Tryz.underlying9 h0
  obtain ⟨a1, rfl⟩ := has_bool Tryz.underlying4 h1
  obtain ⟨k2, l2, rfl, w2, hl2⟩ := has_slice Tryz.underlying66 h2
  obtain ⟨k3, l3, rfl, w3, hl3⟩ := has_slice Tryz.underlying67 h3
  obtain ⟨k4, l4, rfl, w4, hl4⟩ := has_slice Tryz.underlying68 h4
  obtain ⟨x2, rfl, o2⟩ := list_of (f := PI.cells) (ok := PI.ok M) fun c hc => has_item (hl2 c hc)
  obtain ⟨x3, rfl, o3⟩ := list_of (f := PS.cells) (ok := PS.ok) fun c hc => has_span (hl3 c hc)
  obtain ⟨x4, rfl, o4⟩ := list_of (f := PN.cells) (ok := PN.ok Tryz.prog M 41) fun c hc => has_note (hl4 c hc)
  refine ⟨⟨a0, a1, x2, x3, x4⟩, ⟨w0, by simpa using w2, o2, by simpa using w3, o3, by simpa using w4, o4⟩, ?_⟩
  simp only [PE.cells, List.map_map, List.cons_append, List.nil_append]
  rfl

structure PL where
  progs : List PG
  enums : List PE

def PL.av (p : PL) : AV := .agg [.list (p.progs.map fun n => .agg n.cells), .list (p.enums.map fun n => .agg n.cells)]

structure PL.ok (M : Nat) (x : PL) : Prop where
  len1 : x.progs.length ≤ maxLen
  progs : ∀ n ∈ x.progs, n.ok M
  len2 : x.enums.length ≤ maxLen
  enums : ∀ n ∈ x.enums, n.ok M

theorem has_plan {M k : Nat} {cs : List AV} (h : Has Tryz.prog M k 25 cs) : ∃ x : PL, x.ok M ∧ .agg cs = x.av := by
  obtain ⟨k, h⟩ := has_struct Tryz.underlying25 h
  simp only [Has.HasL] at h
  obtain ⟨_, _, rfl, h0, _, _, rfl, h1, rfl⟩ := h
  obtain ⟨k2, l2, rfl, w2, hl2⟩ := has_slice Tryz.underlying22 h0
  obtain ⟨k3, l3, rfl, w3, hl3⟩ := has_slice Tryz.underlying23 h1
  obtain ⟨x2, rfl, o2⟩ := list_of (f := PG.cells) (ok := PG.ok M) fun c hc => has_prog (hl2 c hc)
  obtain ⟨x3, rfl, o3⟩ := list_of (f := PE.cells) (ok := PE.ok M) fun c hc => has_enum (hl3 c hc)
  refine ⟨⟨x2, x3⟩, ⟨by simpa using w2, o2, by simpa using w3, o3⟩, ?_⟩
  simp only [PL.av, List.map_map, List.cons_append, List.nil_append]
  rfl

end Go.Proofs.YtdmbncmbkocjjaaGreat.Br

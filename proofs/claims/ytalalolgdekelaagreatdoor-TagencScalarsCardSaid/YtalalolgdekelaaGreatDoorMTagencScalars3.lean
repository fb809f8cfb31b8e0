/- Parts of the proof, in order. -/
import Derived.Test.YtalalolgdekelaaGreatDoorProg
import Derived.Test.YtalalolgdekelaaGreatDoorMTagencScalars2

/- The code of functions of the program, as the abstract machine has it. -/
namespace Go.Proofs.YtalalolgdekelaaGreatDoor.Rc
open Go Am

/- wireschema/wireschemalaw24.awake -/
def g5_0 : List Am.Item := [
    ⟨(some 0), .val (.mov (.c (.bool false))), none⟩]
def g5_1 : List Am.Item := [
    ⟨(some 11), .val (.build [.int .i64 0, .int .u64 0, .str [], .nils, .nils, .nils, .nils] [(0, 1, (.c (.int .i64 4))), (1, 1, (.c (.int .u64 1)))]), none⟩,
    ⟨(some 1), .allocN 1 [.int .i64 0, .int .u64 0, .str [], .nils, .nils, .nils, .nils], none⟩,
    ⟨none, .store 7 (.t 1) (.t 11), none⟩]
def g5_2 : List Am.Item := [
    ⟨(some 12), .val (.build [.int .i64 0, .int .u64 0, .str [], .nils, .nils, .nils, .nils] [(0, 1, (.c (.int .i64 4))), (1, 1, (.c (.int .u64 2)))]), none⟩,
    ⟨(some 2), .allocN 2 [.int .i64 0, .int .u64 0, .str [], .nils, .nils, .nils, .nils], none⟩,
    ⟨none, .store 7 (.t 2) (.t 12), none⟩]
def g5_3 : List Am.Item := [
    ⟨(some 13), .val (.load (some 7) (.t 1)), none⟩,
    ⟨(some 14), .val (.load (some 7) (.t 2)), none⟩,
    ⟨(some 15), .bsl 7 2 [.int .i64 0, .int .u64 0, .str [], .nils, .nils, .nils, .nils] [(0, 7, (.t 13)), (7, 7, (.t 14))], none⟩,
    ⟨(some 16), .val (.build [.int .i64 0, .int .u64 0, .str [], .nils, .nils, .nils, .nils] [(0, 1, (.c (.int .i64 11))), (3, 1, (.t 15))]), none⟩,
    ⟨(some 17), .val (.build [.int .i64 0, .int .i64 0, .int .u64 0, .str [], .nils, .nils, .nils, .nils] [(0, 1, (.c (.int .i64 3))), (1, 7, (.t 16))]), none⟩,
    ⟨(some 3), .allocN 3 [.int .i64 0, .int .i64 0, .int .u64 0, .str [], .nils, .nils, .nils, .nils], none⟩,
    ⟨none, .store 8 (.t 3) (.t 17), none⟩]
def g5_4 : List Am.Item := [
    ⟨(some 18), .val (.build [.int .i64 0, .int .u64 0, .str [], .nils, .nils, .nils, .nils] [(0, 1, (.c (.int .i64 4))), (1, 1, (.c (.int .u64 5)))]), none⟩,
    ⟨(some 19), .val (.build [.int .i64 0, .int .i64 0, .int .u64 0, .str [], .nils, .nils, .nils, .nils] [(0, 1, (.c (.int .i64 1))), (1, 7, (.t 18))]), none⟩,
    ⟨(some 20), .val (.build [.int .i64 0, .int .u64 0, .str [], .nils, .nils, .nils, .nils] [(0, 1, (.c (.int .i64 2))), (1, 1, (.c (.int .u64 18446744073709551615)))]), none⟩,
    ⟨(some 21), .val (.build [.int .i64 0, .int .i64 0, .int .u64 0, .str [], .nils, .nils, .nils, .nils] [(0, 1, (.c (.int .i64 2))), (1, 7, (.t 20))]), none⟩,
    ⟨(some 22), .val (.load (some 8) (.t 3)), none⟩,
    ⟨(some 23), .bsl 8 3 [.int .i64 0, .int .i64 0, .int .u64 0, .str [], .nils, .nils, .nils, .nils] [(0, 8, (.t 19)), (8, 8, (.t 21)), (16, 8, (.t 22))], none⟩,
    ⟨(some 24), .val (.build [.int .i64 0, .int .u64 0, .str [], .nils, .nils, .nils, .nils] [(0, 1, (.c (.int .i64 10))), (5, 1, (.t 23))]), none⟩,
    ⟨(some 4), .allocN 4 [.int .i64 0, .int .u64 0, .str [], .nils, .nils, .nils, .nils], none⟩,
    ⟨none, .store 7 (.t 4) (.t 24), none⟩]
def g5_5 : List Am.Item := [
    ⟨(some 26), .call (.f 11) [], none⟩,
    ⟨(some 27), .val (.loadv 0 4 (some 7) (.t 4)), none⟩,
    ⟨(some 28), .call (.f 10) [(.t 26), (.c (.str [97, 46, 77])), (.t 27)], none⟩,
    ⟨(some 25), .val (.mov (.t 28)), none⟩,
    ⟨(some 29), .val (.ext (.t 25) 0), none⟩,
    ⟨(some 30), .val (.ext (.t 25) 1), none⟩,
    ⟨(some 5), .val (.mov (.t 29)), none⟩,
    ⟨(some 6), .val (.mov (.t 30)), none⟩]
def g5_6 : List Am.Item := [
    ⟨(some 32), .call (.f 11) [], none⟩,
    ⟨(some 33), .val (.loadv 0 4 (some 7) (.t 4)), none⟩,
    ⟨(some 34), .call (.f 10) [(.t 32), (.c (.str [97, 46, 78])), (.t 33)], none⟩,
    ⟨(some 31), .val (.mov (.t 34)), none⟩,
    ⟨(some 35), .val (.ext (.t 31) 0), none⟩,
    ⟨(some 36), .val (.ext (.t 31) 1), none⟩,
    ⟨(some 7), .val (.mov (.t 35)), none⟩,
    ⟨(some 8), .val (.mov (.t 36)), none⟩]
def g5_7 : List Am.Item := [
    ⟨(some 37), .call (.f 11) [], none⟩,
    ⟨(some 38), .val (.loadv 0 3 (some 8) (.t 3)), none⟩,
    ⟨(some 39), .call (.f 12) [(.t 37), (.c (.int .i64 0)), (.t 38)], none⟩,
    ⟨(some 9), .val (.mov (.t 39)), none⟩]
def g5_8 : List Am.Item := [
    ⟨(some 40), .val (.build [.int .i64 0, .int .u64 0, .str [], .nils, .nils, .nils, .nils] [(0, 1, (.c (.int .i64 2))), (1, 1, (.c (.int .u64 18446744073709551615)))]), none⟩,
    ⟨(some 41), .call (.f 7) [(.t 40)], none⟩,
    ⟨(some 10), .allocN 10 [.int .i64 0, .int .i64 0, .int .u64 0, .str []], none⟩,
    ⟨none, .store 4 (.t 10) (.t 41), none⟩]
def g5_9 : List Am.Item := [
    ⟨(some 42), .val (.mov (.t 5)), none⟩,
    ⟨(some 43), .val (.bin .str .eql (.t 42) (.c (.str [8, 5, 17, 1, 29, 3, 0, 1, 2]))), none⟩,
    ⟨(some 44), .val (.mov (.t 43)), none⟩,
    ⟨(some 45), .val (.mov (.t 6)), (some (44, true))⟩,
    ⟨(some 46), .val (.bin .num .eql (.t 45) (.c (.int .i64 0))), (some (44, true))⟩,
    ⟨(some 47), .val (.pick (.t 44) (.t 46) (.c (.bool false))), none⟩,
    ⟨(some 48), .val (.mov (.t 47)), none⟩,
    ⟨(some 49), .val (.mov (.t 8)), (some (48, true))⟩,
    ⟨(some 50), .val (.bin .num .eql (.t 49) (.c (.int .i64 10))), (some (48, true))⟩,
    ⟨(some 51), .val (.pick (.t 48) (.t 50) (.c (.bool false))), none⟩,
    ⟨(some 52), .val (.mov (.t 51)), none⟩,
    ⟨(some 53), .call (.f 11) [], (some (52, true))⟩,
    ⟨(some 54), .val (.loadv 0 4 (some 7) (.t 4)), (some (52, true))⟩,
    ⟨(some 55), .call (.f 13) [(.t 53), (.c (.int .i64 0)), (.t 54)], (some (52, true))⟩,
    ⟨(some 56), .val (.mov (.t 5)), (some (52, true))⟩,
    ⟨(some 57), .val (.bin .str .eql (.t 55) (.t 56)), (some (52, true))⟩,
    ⟨(some 58), .val (.pick (.t 52) (.t 57) (.c (.bool false))), none⟩,
    ⟨(some 59), .val (.mov (.t 58)), none⟩,
    ⟨(some 60), .call (.f 11) [], (some (59, true))⟩,
    ⟨(some 61), .val (.loadv 0 4 (some 7) (.t 4)), (some (59, true))⟩,
    ⟨(some 62), .call (.f 14) [(.t 60), (.c (.str [97, 46, 77])), (.t 61)], (some (59, true))⟩,
    ⟨(some 63), .val (.bin .num .eql (.t 62) (.c (.int .i64 9))), (some (59, true))⟩,
    ⟨(some 64), .val (.pick (.t 59) (.t 63) (.c (.bool false))), none⟩,
    ⟨(some 65), .val (.mov (.t 64)), none⟩,
    ⟨(some 66), .call (.f 11) [], (some (65, true))⟩,
    ⟨(some 67), .val (.loadv 0 4 (some 7) (.t 4)), (some (65, true))⟩,
    ⟨(some 68), .call (.f 14) [(.t 66), (.c (.str [])), (.t 67)], (some (65, true))⟩,
    ⟨(some 69), .val (.bin .num .eql (.t 68) (.c (.int .i64 (-1)))), (some (65, true))⟩,
    ⟨(some 70), .val (.pick (.t 65) (.t 69) (.c (.bool false))), none⟩,
    ⟨(some 71), .val (.mov (.t 70)), none⟩,
    ⟨(some 72), .val (.mov (.t 9)), (some (71, true))⟩,
    ⟨(some 73), .val (.len 1 (.t 72)), (some (71, true))⟩,
    ⟨(some 74), .val (.bin .num .eql (.t 73) (.c (.int .i64 1))), (some (71, true))⟩,
    ⟨(some 75), .val (.pick (.t 71) (.t 74) (.c (.bool false))), none⟩,
    ⟨(some 76), .val (.mov (.t 75)), none⟩,
    ⟨(some 77), .val (.mov (.t 9)), (some (76, true))⟩,
    ⟨(some 78), .val (.iaddr 4 none (.t 77) (.c (.int .i64 0))), (some (76, true))⟩,
    ⟨(some 79), .val (.faddr 1 (.t 78)), (some (76, true))⟩,
    ⟨(some 80), .val (.loadr none (.t 79)), (some (76, true))⟩,
    ⟨(some 81), .val (.bin .num .eql (.t 80) (.c (.int .i64 5))), (some (76, true))⟩,
    ⟨(some 82), .val (.pick (.t 76) (.t 81) (.c (.bool false))), none⟩,
    ⟨(some 83), .val (.mov (.t 82)), none⟩,
    ⟨(some 84), .val (.mov (.t 9)), (some (83, true))⟩,
    ⟨(some 85), .val (.iaddr 4 none (.t 84) (.c (.int .i64 0))), (some (83, true))⟩,
    ⟨(some 86), .val (.faddr 3 (.t 85)), (some (83, true))⟩,
    ⟨(some 87), .val (.loadr none (.t 86)), (some (83, true))⟩,
    ⟨(some 88), .val (.bin .str .eql (.t 87) (.c (.str [0, 1, 2]))), (some (83, true))⟩,
    ⟨(some 89), .val (.pick (.t 83) (.t 88) (.c (.bool false))), none⟩,
    ⟨(some 90), .val (.mov (.t 89)), none⟩,
    ⟨(some 91), .val (.faddr 1 (.t 10)), (some (90, true))⟩,
    ⟨(some 92), .val (.loadv 0 10 none (.t 91)), (some (90, true))⟩,
    ⟨(some 93), .val (.bin .num .eql (.t 92) (.c (.int .i64 1))), (some (90, true))⟩,
    ⟨(some 94), .val (.pick (.t 90) (.t 93) (.c (.bool false))), none⟩,
    ⟨(some 95), .val (.mov (.t 94)), none⟩,
    ⟨(some 96), .val (.faddr 2 (.t 10)), (some (95, true))⟩,
    ⟨(some 97), .val (.loadv 0 10 none (.t 96)), (some (95, true))⟩,
    ⟨(some 98), .val (.bin .num .eql (.t 97) (.c (.int .u64 1))), (some (95, true))⟩,
    ⟨(some 99), .val (.pick (.t 95) (.t 98) (.c (.bool false))), none⟩,
    ⟨(some 0), .val (.mov (.t 99)), none⟩]
def r5 : RC := .seq (.reg g5_0) (.seq (.reg g5_1) (.seq (.reg g5_2) (.seq (.reg g5_3) (.seq (.reg g5_4) (.seq (.draw g5_5) (.seq (.draw g5_6) (.seq (.draw g5_7) (.seq (.reg g5_8) (.seq (.draw g5_9) (.ret))))))))))
def o5 : List RR := [.tmp 0]
theorem k5 : chkC Tryz.prog 100 r5 (Tryz.f5.body.getD .skip) = true := by decide +kernel
theorem q5 : chkR Tryz.prog Tryz.f5.results.toList o5 = true := by decide +kernel

/- wireschema/tagenc.Scalar -/
def g7_0 : List Am.Item := [
    ⟨(some 1), .boxN 1 (.t 0), none⟩,
    ⟨(some 2), .allocN 2 [.int .i64 0, .int .i64 0, .int .u64 0, .str []], none⟩]
def g7_1 : List Am.Item := [
    ⟨(some 3), .val (.faddr 0 (.t 1)), none⟩,
    ⟨(some 4), .val (.load none (.t 3)), none⟩]
def g7_2 : List Am.Item := [
    ⟨(some 6), .val (.bin .num .eql (.t 4) (.c (.int .i64 1))), none⟩,
    ⟨(some 5), .val (.mov (.t 6)), none⟩]
def g7_3 : List Am.Item := [
    ⟨(some 7), .val (.bin .num .eql (.t 4) (.c (.int .i64 4))), none⟩,
    ⟨(some 5), .val (.mov (.t 7)), none⟩]
def g7_4 : List Am.Item := [
    ⟨(some 8), .val (.bin .num .eql (.t 4) (.c (.int .i64 5))), none⟩,
    ⟨(some 5), .val (.mov (.t 8)), none⟩]
def g7_5 : List Am.Item := [
    ⟨(some 9), .val (.bin .num .eql (.t 4) (.c (.int .i64 9))), none⟩,
    ⟨(some 5), .val (.mov (.t 9)), none⟩]
def g7_6 : List Am.Item := [
    ⟨(some 10), .val (.faddr 1 (.t 1)), none⟩,
    ⟨(some 11), .val (.load none (.t 10)), none⟩,
    ⟨(some 12), .val (.build [.int .i64 0, .int .i64 0, .int .u64 0, .str []] [(1, 1, (.c (.int .i64 0))), (2, 1, (.t 11))]), none⟩,
    ⟨none, .store 4 (.t 2) (.t 12), none⟩]
def g7_7 : List Am.Item := [
    ⟨(some 14), .val (.bin .num .eql (.t 4) (.c (.int .i64 2))), none⟩,
    ⟨(some 13), .val (.mov (.t 14)), none⟩]
def g7_8 : List Am.Item := [
    ⟨(some 15), .val (.bin .num .eql (.t 4) (.c (.int .i64 3))), none⟩,
    ⟨(some 13), .val (.mov (.t 15)), none⟩]
def g7_9 : List Am.Item := [
    ⟨(some 16), .val (.faddr 1 (.t 1)), none⟩,
    ⟨(some 17), .val (.load none (.t 16)), none⟩,
    ⟨(some 18), .val (.cvi .i64 (.t 17)), none⟩,
    ⟨(some 19), .call (.f 15) [(.t 18)], none⟩,
    ⟨(some 20), .val (.build [.int .i64 0, .int .i64 0, .int .u64 0, .str []] [(1, 1, (.c (.int .i64 1))), (2, 1, (.t 19))]), none⟩,
    ⟨none, .store 4 (.t 2) (.t 20), none⟩]
def g7_10 : List Am.Item := [
    ⟨(some 22), .val (.bin .num .eql (.t 4) (.c (.int .i64 6))), none⟩,
    ⟨(some 21), .val (.mov (.t 22)), none⟩]
def g7_11 : List Am.Item := [
    ⟨(some 23), .val (.load (some 7) (.t 1)), none⟩,
    ⟨(some 24), .call (.f 16) [(.t 23)], none⟩,
    ⟨(some 25), .val (.fld 1 none (.t 24)), none⟩,
    ⟨(some 26), .val (.build [.int .i64 0, .int .i64 0, .int .u64 0, .str []] [(1, 1, (.c (.int .i64 2))), (2, 1, (.t 25))]), none⟩,
    ⟨none, .store 4 (.t 2) (.t 26), none⟩]
def g7_12 : List Am.Item := [
    ⟨(some 28), .val (.bin .num .eql (.t 4) (.c (.int .i64 7))), none⟩,
    ⟨(some 27), .val (.mov (.t 28)), none⟩]
def g7_13 : List Am.Item := [
    ⟨(some 29), .val (.bin .num .eql (.t 4) (.c (.int .i64 8))), none⟩,
    ⟨(some 27), .val (.mov (.t 29)), none⟩]
def g7_14 : List Am.Item := [
    ⟨(some 30), .val (.faddr 2 (.t 1)), none⟩,
    ⟨(some 31), .val (.load none (.t 30)), none⟩,
    ⟨(some 32), .val (.build [.int .i64 0, .int .i64 0, .int .u64 0, .str []] [(1, 1, (.c (.int .i64 3))), (3, 1, (.t 31))]), none⟩,
    ⟨none, .store 4 (.t 2) (.t 32), none⟩]
def g7_15 : List Am.Item := [
    ⟨(some 33), .val (.build [.int .i64 0, .int .i64 0, .int .u64 0, .str []] []), none⟩,
    ⟨none, .store 4 (.t 2) (.t 33), none⟩]
def r7 : RC := .seq (.reg g7_0) (.seq (.seq (.reg g7_1) (.block 0 (.seq (.seq (.reg g7_2) (.cond (.t 5) (.skip) (.seq (.reg g7_3) (.cond (.t 5) (.skip) (.seq (.reg g7_4) (.cond (.t 5) (.skip) (.reg g7_5))))))) (.cond (.t 5) (.seq (.reg g7_6) (.ret)) (.seq (.seq (.reg g7_7) (.cond (.t 13) (.skip) (.reg g7_8))) (.cond (.t 13) (.seq (.reg g7_9) (.ret)) (.seq (.reg g7_10) (.cond (.t 21) (.seq (.reg g7_11) (.ret)) (.seq (.seq (.reg g7_12) (.cond (.t 27) (.skip) (.reg g7_13))) (.cond (.t 27) (.seq (.reg g7_14) (.ret)) (.skip))))))))))) (.seq (.reg g7_15) (.ret)))
def o7 : List RR := [.cell 2 (some 4)]
theorem k7 : chkC Tryz.prog 34 r7 (Tryz.f7.body.getD .skip) = true := by decide +kernel
theorem q7 : chkR Tryz.prog Tryz.f7.results.toList o7 = true := by decide +kernel

/- wireschema/tagenc.Encode -/
def g10_0 : List Am.Item := [
    ⟨(some 3), .boxN 3 (.t 0), none⟩,
    ⟨(some 5), .boxN 5 (.t 2), none⟩,
    ⟨(some 6), .val (.mov (.c (.str []))), none⟩,
    ⟨(some 7), .val (.mov (.c (.int .i64 0))), none⟩]
def g10_1 : List Am.Item := [
    ⟨(some 13), .val (.load (some 2) (.t 3)), none⟩,
    ⟨(some 14), .val (.mov (.t 1)), none⟩,
    ⟨(some 15), .call (.f 19) [(.t 13), (.t 14)], none⟩,
    ⟨(some 12), .val (.mov (.t 15)), none⟩,
    ⟨(some 16), .val (.ext (.t 12) 0), none⟩,
    ⟨(some 17), .val (.ext (.t 12) 1), none⟩,
    ⟨(some 8), .val (.mov (.t 16)), none⟩,
    ⟨(some 9), .val (.mov (.t 17)), none⟩]
def g10_2 : List Am.Item := [
    ⟨(some 18), .val (.mov (.t 9)), none⟩,
    ⟨(some 19), .val (.un .not (.t 18)), none⟩]
def g10_3 : List Am.Item := [
    ⟨(some 6), .val (.mov (.c (.str []))), none⟩,
    ⟨(some 7), .val (.mov (.c (.int .i64 10))), none⟩]
def g10_4 : List Am.Item := [
    ⟨(some 20), .val (.load (some 2) (.t 3)), none⟩,
    ⟨(some 21), .val (.mov (.t 8)), none⟩,
    ⟨(some 22), .call (.f 20) [(.t 20), (.t 21)], none⟩,
    ⟨(some 23), .val (.un .not (.t 22)), none⟩]
def g10_5 : List Am.Item := [
    ⟨(some 6), .val (.mov (.c (.str []))), none⟩,
    ⟨(some 7), .val (.mov (.c (.int .i64 1))), none⟩]
def g10_6 : List Am.Item := [
    ⟨(some 24), .val (.load (some 2) (.t 3)), none⟩,
    ⟨(some 25), .val (.mov (.t 8)), none⟩,
    ⟨(some 26), .val (.load (some 7) (.t 5)), none⟩,
    ⟨(some 27), .call (.f 21) [(.t 24), (.t 25), (.t 26)], none⟩,
    ⟨(some 10), .val (.mov (.t 27)), none⟩]
def g10_7 : List Am.Item := [
    ⟨(some 28), .val (.mov (.t 10)), none⟩,
    ⟨(some 29), .val (.bin .num .neq (.t 28) (.c (.int .i64 0))), none⟩]
def g10_8 : List Am.Item := [
    ⟨(some 30), .val (.mov (.t 10)), none⟩,
    ⟨(some 6), .val (.mov (.c (.str []))), none⟩,
    ⟨(some 7), .val (.mov (.t 30)), none⟩]
def g10_9 : List Am.Item := [
    ⟨(some 31), .val (.load (some 2) (.t 3)), none⟩,
    ⟨(some 32), .val (.build [.nils, .nils] [(0, 2, (.t 31))]), none⟩,
    ⟨(some 33), .val (.mov (.t 8)), none⟩,
    ⟨(some 34), .val (.load (some 7) (.t 5)), none⟩,
    ⟨(some 35), .call (.f 22) [(.t 32), (.t 33), (.t 34)], none⟩,
    ⟨(some 11), .val (.mov (.t 35)), none⟩]
def g10_10 : List Am.Item := [
    ⟨(some 36), .val (.mov (.t 11)), none⟩,
    ⟨(some 37), .val (.len 0 (.t 36)), none⟩,
    ⟨(some 38), .val (.bin .num .gtr (.t 37) (.c (.int .i64 65536))), none⟩]
def g10_11 : List Am.Item := [
    ⟨(some 6), .val (.mov (.c (.str []))), none⟩,
    ⟨(some 7), .val (.mov (.c (.int .i64 3))), none⟩]
def g10_12 : List Am.Item := [
    ⟨(some 39), .val (.mov (.t 11)), none⟩,
    ⟨(some 6), .val (.mov (.t 39)), none⟩,
    ⟨(some 7), .val (.mov (.c (.int .i64 0))), none⟩]
def r10 : RC := .seq (.reg g10_0) (.seq (.reg g10_1) (.seq (.seq (.reg g10_2) (.cond (.t 19) (.seq (.reg g10_3) (.ret)) (.skip))) (.seq (.seq (.reg g10_4) (.cond (.t 23) (.seq (.reg g10_5) (.ret)) (.skip))) (.seq (.seq (.reg g10_6) (.seq (.reg g10_7) (.cond (.t 29) (.seq (.reg g10_8) (.ret)) (.skip)))) (.seq (.reg g10_9) (.seq (.seq (.reg g10_10) (.cond (.t 38) (.seq (.reg g10_11) (.ret)) (.skip))) (.seq (.reg g10_12) (.ret))))))))
def o10 : List RR := [.tmp 6, .tmp 7]
theorem k10 : chkC Tryz.prog 40 r10 (Tryz.f10.body.getD .skip) = true := by decide +kernel
theorem q10 : chkR Tryz.prog Tryz.f10.results.toList o10 = true := by decide +kernel

/- wireschema/wireschemalaw24.sample -/
def g11_0 : List Am.Item := [
    ⟨(some 0), .allocN 0 [.nils, .nils], none⟩]
def g11_1 : List Am.Item := [
    ⟨(some 1), .val (.build [.int .i64 0, .str [], .str [], .int .i64 0, .int .i64 0, .int .i64 0, .int .i64 0, .int .i64 0] [(0, 1, (.c (.int .i64 1))), (1, 1, (.c (.str [97]))), (3, 1, (.c (.int .i64 3))), (5, 1, (.c (.int .i64 4))), (6, 1, (.c (.int .i64 (-1)))), (7, 1, (.c (.int .i64 (-1))))]), none⟩,
    ⟨(some 2), .val (.build [.int .i64 0, .str [], .str [], .int .i64 0, .int .i64 0, .int .i64 0, .int .i64 0, .int .i64 0] [(0, 1, (.c (.int .i64 2))), (1, 1, (.c (.str [98]))), (3, 1, (.c (.int .i64 2))), (5, 1, (.c (.int .i64 2))), (6, 1, (.c (.int .i64 (-1)))), (7, 1, (.c (.int .i64 (-1))))]), none⟩,
    ⟨(some 3), .val (.build [.int .i64 0, .str [], .str [], .int .i64 0, .int .i64 0, .int .i64 0, .int .i64 0, .int .i64 0] [(0, 1, (.c (.int .i64 3))), (1, 1, (.c (.str [99]))), (3, 1, (.c (.int .i64 4))), (5, 1, (.c (.int .i64 4))), (6, 1, (.c (.int .i64 (-1)))), (7, 1, (.c (.int .i64 (-1))))]), none⟩,
    ⟨(some 4), .bsl 8 3 [.int .i64 0, .str [], .str [], .int .i64 0, .int .i64 0, .int .i64 0, .int .i64 0, .int .i64 0] [(0, 8, (.t 1)), (8, 8, (.t 2)), (16, 8, (.t 3))], none⟩,
    ⟨(some 5), .val (.build [.str [], .nils, .int .i64 0] [(0, 1, (.c (.str [97, 46, 77]))), (1, 1, (.t 4))]), none⟩,
    ⟨(some 6), .bsl 3 1 [.str [], .nils, .int .i64 0] [(0, 3, (.t 5))], none⟩,
    ⟨(some 7), .val (.build [.nils, .nils] [(0, 1, (.t 6))]), none⟩,
    ⟨none, .store 2 (.t 0) (.t 7), none⟩]
def r11 : RC := .seq (.reg g11_0) (.seq (.reg g11_1) (.ret))
def o11 : List RR := [.cell 0 (some 2)]
theorem k11 : chkC Tryz.prog 8 r11 (Tryz.f11.body.getD .skip) = true := by decide +kernel
theorem q11 : chkR Tryz.prog Tryz.f11.results.toList o11 = true := by decide +kernel

/- wireschema/tagenc.Raws -/
def g12_0 : List Am.Item := [
    ⟨(some 3), .boxN 3 (.t 0), none⟩,
    ⟨(some 5), .boxN 5 (.t 2), none⟩,
    ⟨(some 6), .val (.mov (.c (.nils))), none⟩]
def g12_1 : List Am.Item := [
    ⟨(some 7), .val (.load (some 2) (.t 3)), none⟩,
    ⟨(some 8), .val (.mov (.t 1)), none⟩,
    ⟨(some 9), .call (.f 20) [(.t 7), (.t 8)], none⟩,
    ⟨(some 10), .val (.un .not (.t 9)), none⟩]
def g12_2 : List Am.Item := [
    ⟨(some 6), .val (.mov (.c (.nils))), none⟩]
def g12_3 : List Am.Item := [
    ⟨(some 11), .val (.load (some 2) (.t 3)), none⟩,
    ⟨(some 12), .val (.build [.nils, .nils] [(0, 2, (.t 11))]), none⟩,
    ⟨(some 13), .val (.mov (.t 1)), none⟩,
    ⟨(some 14), .val (.load (some 8) (.t 5)), none⟩,
    ⟨(some 15), .call (.f 23) [(.t 12), (.t 13), (.t 14)], none⟩,
    ⟨(some 6), .val (.mov (.t 15)), none⟩]
def r12 : RC := .seq (.reg g12_0) (.seq (.seq (.reg g12_1) (.cond (.t 10) (.seq (.reg g12_2) (.ret)) (.skip))) (.seq (.reg g12_3) (.ret)))
def o12 : List RR := [.tmp 6]
theorem k12 : chkC Tryz.prog 16 r12 (Tryz.f12.body.getD .skip) = true := by decide +kernel
theorem q12 : chkR Tryz.prog Tryz.f12.results.toList o12 = true := by decide +kernel

/- wireschema/tagenc.Body -/
def g13_0 : List Am.Item := [
    ⟨(some 3), .boxN 3 (.t 0), none⟩,
    ⟨(some 5), .boxN 5 (.t 2), none⟩,
    ⟨(some 6), .val (.mov (.c (.str []))), none⟩]
def g13_1 : List Am.Item := [
    ⟨(some 7), .val (.load (some 2) (.t 3)), none⟩,
    ⟨(some 8), .val (.mov (.t 1)), none⟩,
    ⟨(some 9), .call (.f 20) [(.t 7), (.t 8)], none⟩,
    ⟨(some 10), .val (.un .not (.t 9)), none⟩]
def g13_2 : List Am.Item := [
    ⟨(some 6), .val (.mov (.c (.str []))), none⟩]
def g13_3 : List Am.Item := [
    ⟨(some 11), .val (.load (some 2) (.t 3)), none⟩,
    ⟨(some 12), .val (.build [.nils, .nils] [(0, 2, (.t 11))]), none⟩,
    ⟨(some 13), .val (.mov (.t 1)), none⟩,
    ⟨(some 14), .val (.load (some 7) (.t 5)), none⟩,
    ⟨(some 15), .call (.f 22) [(.t 12), (.t 13), (.t 14)], none⟩,
    ⟨(some 6), .val (.mov (.t 15)), none⟩]
def r13 : RC := .seq (.reg g13_0) (.seq (.seq (.reg g13_1) (.cond (.t 10) (.seq (.reg g13_2) (.ret)) (.skip))) (.seq (.reg g13_3) (.ret)))
def o13 : List RR := [.tmp 6]
theorem k13 : chkC Tryz.prog 16 r13 (Tryz.f13.body.getD .skip) = true := by decide +kernel
theorem q13 : chkR Tryz.prog Tryz.f13.results.toList o13 = true := by decide +kernel

/- wireschema/tagenc.Size -/
def g14_0 : List Am.Item := [
    ⟨(some 3), .boxN 3 (.t 0), none⟩,
    ⟨(some 5), .boxN 5 (.t 2), none⟩,
    ⟨(some 6), .val (.mov (.c (.int .i64 0))), none⟩]
def g14_1 : List Am.Item := [
    ⟨(some 10), .val (.load (some 2) (.t 3)), none⟩,
    ⟨(some 11), .val (.mov (.t 1)), none⟩,
    ⟨(some 12), .val (.load (some 7) (.t 5)), none⟩,
    ⟨(some 13), .call (.f 10) [(.t 10), (.t 11), (.t 12)], none⟩,
    ⟨(some 9), .val (.mov (.t 13)), none⟩,
    ⟨(some 14), .val (.ext (.t 9) 0), none⟩,
    ⟨(some 15), .val (.ext (.t 9) 1), none⟩,
    ⟨(some 7), .val (.mov (.t 14)), none⟩,
    ⟨(some 8), .val (.mov (.t 15)), none⟩]
def g14_2 : List Am.Item := [
    ⟨(some 16), .val (.mov (.t 8)), none⟩,
    ⟨(some 17), .val (.bin .num .neq (.t 16) (.c (.int .i64 0))), none⟩]
def g14_3 : List Am.Item := [
    ⟨(some 6), .val (.mov (.c (.int .i64 (-1)))), none⟩]
def g14_4 : List Am.Item := [
    ⟨(some 18), .val (.mov (.t 7)), none⟩,
    ⟨(some 19), .val (.len 0 (.t 18)), none⟩,
    ⟨(some 6), .val (.mov (.t 19)), none⟩]
def r14 : RC := .seq (.reg g14_0) (.seq (.reg g14_1) (.seq (.seq (.reg g14_2) (.cond (.t 17) (.seq (.reg g14_3) (.ret)) (.skip))) (.seq (.reg g14_4) (.ret))))
def o14 : List RR := [.tmp 6]
theorem k14 : chkC Tryz.prog 20 r14 (Tryz.f14.body.getD .skip) = true := by decide +kernel
theorem q14 : chkR Tryz.prog Tryz.f14.results.toList o14 = true := by decide +kernel

/- wireschema/varint.Zig -/
def g15_0 : List Am.Item := [
    ⟨(some 2), .val (.mov (.c (.int .u64 0))), none⟩]
def g15_1 : List Am.Item := [
    ⟨(some 3), .val (.mov (.t 0)), none⟩,
    ⟨(some 4), .val (.cvi .u64 (.t 3)), none⟩,
    ⟨(some 5), .val (.bin .num .shl (.t 4) (.c (.int .u64 1))), none⟩,
    ⟨(some 6), .val (.mov (.t 0)), none⟩,
    ⟨(some 7), .val (.bin .num .shr (.t 6) (.c (.int .u64 63))), none⟩,
    ⟨(some 8), .val (.cvi .u64 (.t 7)), none⟩,
    ⟨(some 9), .val (.bin .num .xor (.t 5) (.t 8)), none⟩,
    ⟨(some 2), .val (.mov (.t 9)), none⟩]
def r15 : RC := .seq (.reg g15_0) (.seq (.reg g15_1) (.ret))
def o15 : List RR := [.tmp 2]
theorem k15 : chkC Tryz.prog 10 r15 (Tryz.f15.body.getD .skip) = true := by decide +kernel
theorem q15 : chkR Tryz.prog Tryz.f15.results.toList o15 = true := by decide +kernel

/- wireschema/scalar.Norm -/
def g16_0 : List Am.Item := [
    ⟨(some 1), .boxN 1 (.t 0), none⟩,
    ⟨(some 2), .allocN 2 [.int .i64 0, .int .u64 0, .str [], .nils, .nils, .nils, .nils], none⟩]
def g16_1 : List Am.Item := [
    ⟨(some 3), .val (.faddr 0 (.t 1)), none⟩,
    ⟨(some 4), .val (.load none (.t 3)), none⟩,
    ⟨(some 5), .val (.bin .num .eql (.t 4) (.c (.int .i64 6))), none⟩,
    ⟨(some 6), .val (.mov (.t 5)), none⟩,
    ⟨(some 7), .val (.faddr 1 (.t 1)), (some (6, true))⟩,
    ⟨(some 8), .val (.load none (.t 7)), (some (6, true))⟩,
    ⟨(some 9), .call (.f 24) [(.t 8)], (some (6, true))⟩,
    ⟨(some 10), .val (.bin .num .eql (.t 9) (.c (.int .i64 0))), (some (6, true))⟩,
    ⟨(some 11), .val (.pick (.t 6) (.t 10) (.c (.bool false))), none⟩]
def g16_2 : List Am.Item := [
    ⟨(some 12), .val (.faddr 1 (.t 1)), none⟩,
    ⟨none, .store 1 (.t 12) (.c (.int .u64 9221120237041090560)), none⟩]
def g16_3 : List Am.Item := [
    ⟨(some 13), .val (.load (some 7) (.t 1)), none⟩,
    ⟨none, .store 7 (.t 2) (.t 13), none⟩]
def r16 : RC := .seq (.reg g16_0) (.seq (.seq (.reg g16_1) (.cond (.t 11) (.reg g16_2) (.skip))) (.seq (.reg g16_3) (.ret)))
def o16 : List RR := [.cell 2 (some 7)]
theorem k16 : chkC Tryz.prog 14 r16 (Tryz.f16.body.getD .skip) = true := by decide +kernel
theorem q16 : chkR Tryz.prog Tryz.f16.results.toList o16 = true := by decide +kernel

/- wireschema/plan.Find -/
def g19_0 : List Am.Item := [
    ⟨(some 2), .boxN 2 (.t 0), none⟩,
    ⟨(some 3), .boxN 3 (.t 1), none⟩,
    ⟨(some 4), .val (.mov (.c (.int .i64 0))), none⟩,
    ⟨(some 5), .val (.mov (.c (.bool false))), none⟩]
def g19_1 : List Am.Item := [
    ⟨(some 7), .val (.faddr 0 (.t 2)), none⟩,
    ⟨(some 8), .val (.load none (.t 7)), none⟩,
    ⟨(some 9), .val (.mkfn (.func 27) [] [(.t 3)]), none⟩,
    ⟨(some 10), .callF (.f 26) [(.t 8), (.t 9)], none⟩,
    ⟨(some 6), .val (.mov (.t 10)), none⟩]
def g19_2 : List Am.Item := [
    ⟨(some 11), .val (.mov (.t 6)), none⟩,
    ⟨(some 12), .val (.mnx true (.t 11) (.c (.int .i64 0))), none⟩,
    ⟨(some 13), .val (.mov (.t 6)), none⟩,
    ⟨(some 14), .val (.bin .num .geq (.t 13) (.c (.int .i64 0))), none⟩,
    ⟨(some 4), .val (.mov (.t 12)), none⟩,
    ⟨(some 5), .val (.mov (.t 14)), none⟩]
def r19 : RC := .seq (.reg g19_0) (.seq (.reg g19_1) (.seq (.reg g19_2) (.ret)))
def o19 : List RR := [.tmp 4, .tmp 5]
theorem k19 : chkC Tryz.prog 15 r19 (Tryz.f19.body.getD .skip) = true := by decide +kernel
theorem q19 : chkR Tryz.prog Tryz.f19.results.toList o19 = true := by decide +kernel

/- wireschema/tagenc.usable -/
def g20_0 : List Am.Item := [
    ⟨(some 2), .boxN 2 (.t 0), none⟩,
    ⟨(some 4), .val (.mov (.c (.bool false))), none⟩]
def g20_1 : List Am.Item := [
    ⟨(some 5), .val (.mov (.t 1)), none⟩,
    ⟨(some 6), .val (.bin .num .geq (.t 5) (.c (.int .i64 0))), none⟩,
    ⟨(some 7), .val (.mov (.t 6)), none⟩,
    ⟨(some 8), .val (.mov (.t 1)), (some (7, true))⟩,
    ⟨(some 9), .val (.faddr 0 (.t 2)), (some (7, true))⟩,
    ⟨(some 10), .val (.load none (.t 9)), (some (7, true))⟩,
    ⟨(some 11), .val (.len 1 (.t 10)), (some (7, true))⟩,
    ⟨(some 12), .val (.bin .num .lss (.t 8) (.t 11)), (some (7, true))⟩,
    ⟨(some 13), .val (.pick (.t 7) (.t 12) (.c (.bool false))), none⟩,
    ⟨(some 14), .val (.mov (.t 13)), none⟩,
    ⟨(some 15), .val (.load (some 2) (.t 2)), (some (14, true))⟩,
    ⟨(some 16), .call (.f 28) [(.t 15)], (some (14, true))⟩,
    ⟨(some 17), .val (.bin .num .eql (.t 16) (.c (.int .i64 0))), (some (14, true))⟩,
    ⟨(some 18), .val (.pick (.t 14) (.t 17) (.c (.bool false))), none⟩,
    ⟨(some 4), .val (.mov (.t 18)), none⟩]
def r20 : RC := .seq (.reg g20_0) (.seq (.reg g20_1) (.ret))
def o20 : List RR := [.tmp 4]
theorem k20 : chkC Tryz.prog 19 r20 (Tryz.f20.body.getD .skip) = true := by decide +kernel
theorem q20 : chkR Tryz.prog Tryz.f20.results.toList o20 = true := by decide +kernel

/- wireschema/plan.Fits -/
def g21_0 : List Am.Item := [
    ⟨(some 3), .boxN 3 (.t 0), none⟩,
    ⟨(some 5), .boxN 5 (.t 2), none⟩,
    ⟨(some 6), .val (.mov (.c (.int .i64 0))), none⟩]
def g21_1 : List Am.Item := [
    ⟨(some 8), .val (.mov (.t 1)), none⟩,
    ⟨(some 9), .val (.bin .num .lss (.t 8) (.c (.int .i64 0))), none⟩,
    ⟨(some 10), .val (.mov (.t 9)), none⟩,
    ⟨(some 11), .val (.mov (.t 1)), (some (10, false))⟩,
    ⟨(some 12), .val (.faddr 0 (.t 3)), (some (10, false))⟩,
    ⟨(some 13), .val (.load none (.t 12)), (some (10, false))⟩,
    ⟨(some 14), .val (.len 1 (.t 13)), (some (10, false))⟩,
    ⟨(some 15), .val (.bin .num .geq (.t 11) (.t 14)), (some (10, false))⟩,
    ⟨(some 16), .val (.pick (.t 10) (.c (.bool true)) (.t 15)), none⟩]
def g21_2 : List Am.Item := [
    ⟨(some 6), .val (.mov (.c (.int .i64 10))), none⟩]
def g21_3 : List Am.Item := [
    ⟨(some 17), .val (.loadv 0 3 (some 2) (.t 3)), none⟩,
    ⟨(some 18), .val (.build [.nils, .nils] [(0, 2, (.t 17))]), none⟩,
    ⟨(some 19), .val (.faddr 0 (.t 3)), none⟩,
    ⟨(some 20), .val (.loadv 0 3 none (.t 19)), none⟩,
    ⟨(some 21), .val (.mov (.t 1)), none⟩,
    ⟨(some 22), .val (.iaddr 3 none (.t 20) (.t 21)), none⟩,
    ⟨(some 23), .val (.loadr (some 3) (.t 22)), none⟩,
    ⟨(some 24), .val (.loadv 0 5 (some 7) (.t 5)), none⟩,
    ⟨(some 25), .call (.f 29) [(.t 18), (.t 23), (.t 24), (.c (.int .i64 1))], none⟩,
    ⟨(some 7), .val (.mov (.t 25)), none⟩]
def g21_4 : List Am.Item := [
    ⟨(some 26), .val (.mov (.t 7)), none⟩,
    ⟨(some 27), .val (.bin .num .neq (.t 26) (.c (.int .i64 0))), none⟩]
def g21_5 : List Am.Item := [
    ⟨(some 28), .val (.mov (.t 7)), none⟩,
    ⟨(some 6), .val (.mov (.t 28)), none⟩]
def g21_6 : List Am.Item := [
    ⟨(some 29), .val (.load (some 7) (.t 5)), none⟩,
    ⟨(some 30), .call (.f 30) [(.t 29)], none⟩,
    ⟨(some 31), .val (.bin .num .gtr (.t 30) (.c (.int .i64 4096))), none⟩]
def g21_7 : List Am.Item := [
    ⟨(some 6), .val (.mov (.c (.int .i64 3))), none⟩]
def g21_8 : List Am.Item := [
    ⟨(some 6), .val (.mov (.c (.int .i64 0))), none⟩]
def r21 : RC := .seq (.reg g21_0) (.seq (.seq (.reg g21_1) (.cond (.t 16) (.seq (.reg g21_2) (.ret)) (.skip))) (.seq (.seq (.draw g21_3) (.seq (.reg g21_4) (.cond (.t 27) (.seq (.reg g21_5) (.ret)) (.skip)))) (.seq (.seq (.reg g21_6) (.cond (.t 31) (.seq (.reg g21_7) (.ret)) (.skip))) (.seq (.reg g21_8) (.ret)))))
def o21 : List RR := [.tmp 6]
theorem k21 : chkC Tryz.prog 32 r21 (Tryz.f21.body.getD .skip) = true := by decide +kernel
theorem q21 : chkR Tryz.prog Tryz.f21.results.toList o21 = true := by decide +kernel

/- (wireschema/tagenc.writer).body -/
def g22_0 : List Am.Item := [
    ⟨(some 3), .boxN 3 (.t 0), none⟩,
    ⟨(some 5), .boxN 5 (.t 2), none⟩,
    ⟨(some 6), .val (.mov (.c (.str []))), none⟩]
def g22_1 : List Am.Item := [
    ⟨(some 12), .val (.faddr 0 (.t 3)), none⟩,
    ⟨(some 13), .val (.load (some 2) (.t 12)), none⟩,
    ⟨(some 14), .val (.mov (.t 1)), none⟩,
    ⟨(some 15), .val (.load (some 7) (.t 5)), none⟩,
    ⟨(some 16), .call (.f 31) [(.t 13), (.t 14), (.t 15)], none⟩,
    ⟨(some 7), .allocN 7 [.int .i64 0, .int .u64 0, .str [], .nils, .nils, .nils, .nils], none⟩,
    ⟨none, .store 7 (.t 7) (.t 16), none⟩]
def g22_2 : List Am.Item := [
    ⟨(some 8), .val (.mov (.c (.nils))), none⟩]
def g22_3 : List Am.Item := [
    ⟨(some 17), .val (.faddr 6 (.t 7)), none⟩,
    ⟨(some 18), .val (.load none (.t 17)), none⟩,
    ⟨(some 9), .val (.mov (.t 18)), none⟩]
def g22_4 : List Am.Item := [
    ⟨(some 19), .val (.faddr 5 (.t 7)), none⟩,
    ⟨(some 20), .val (.load none (.t 19)), none⟩,
    ⟨(some 21), .val (.len 1 (.t 20)), none⟩,
    ⟨(some 22), .val (.mov (.c (.int .i64 0))), none⟩]
def g22_5 : List Am.Item := [
    ⟨(some 23), .val (.bin .num .lss (.t 22) (.t 21)), none⟩]
def g22_6 : List Am.Item := [
    ⟨(some 24), .val (.iaddr 8 none (.t 20) (.t 22)), none⟩,
    ⟨(some 25), .val (.load (some 8) (.t 24)), none⟩,
    ⟨(some 11), .allocN 11 [.int .i64 0, .int .i64 0, .int .u64 0, .str [], .nils, .nils, .nils, .nils], none⟩,
    ⟨none, .store 8 (.t 11) (.t 25), none⟩]
def g22_7 : List Am.Item := [
    ⟨(some 26), .val (.mov (.t 9)), none⟩,
    ⟨(some 27), .val (.len 1 (.t 26)), none⟩,
    ⟨(some 28), .val (.bin .num .gtr (.t 27) (.c (.int .i64 0))), none⟩,
    ⟨(some 29), .val (.mov (.t 28)), none⟩,
    ⟨(some 30), .val (.mov (.t 9)), (some (29, true))⟩,
    ⟨(some 31), .val (.iaddr 4 none (.t 30) (.c (.int .i64 0))), (some (29, true))⟩,
    ⟨(some 32), .val (.faddr 0 (.t 31)), (some (29, true))⟩,
    ⟨(some 33), .val (.loadr none (.t 32)), (some (29, true))⟩,
    ⟨(some 34), .val (.faddr 0 (.t 11)), (some (29, true))⟩,
    ⟨(some 35), .val (.loadv 0 11 none (.t 34)), (some (29, true))⟩,
    ⟨(some 36), .val (.bin .num .lss (.t 33) (.t 35)), (some (29, true))⟩,
    ⟨(some 37), .val (.pick (.t 29) (.t 36) (.c (.bool false))), none⟩]
def g22_8 : List Am.Item := [
    ⟨(some 38), .val (.mov (.t 8)), none⟩,
    ⟨(some 39), .val (.mov (.t 9)), none⟩,
    ⟨(some 40), .val (.iaddr 4 none (.t 39) (.c (.int .i64 0))), none⟩,
    ⟨(some 41), .val (.load (some 4) (.t 40)), none⟩,
    ⟨(some 42), .bsl 4 1 [.int .i64 0, .int .i64 0, .int .u64 0, .str []] [(0, 4, (.t 41))], none⟩,
    ⟨(some 43), .app 4 40 33 (.t 38) (.t 42), none⟩,
    ⟨(some 8), .val (.mov (.t 43)), none⟩]
def g22_9 : List Am.Item := [
    ⟨(some 44), .val (.mov (.t 9)), none⟩,
    ⟨(some 45), .val (.slc (some 4) (.t 44) (some (.c (.int .i64 1))) none none), none⟩,
    ⟨(some 9), .val (.mov (.t 45)), none⟩]
def l22_0 : RC := .seq (.seq (.draw g22_7) (.cond (.t 37) (.skip) (.exit 2))) (.block 3 (.seq (.reg g22_8) (.reg g22_9)))
def g22_10 : List Am.Item := [
    ⟨(some 46), .val (.mov (.t 8)), none⟩,
    ⟨(some 47), .val (.load (some 2) (.t 3)), none⟩,
    ⟨(some 48), .val (.mov (.t 1)), none⟩,
    ⟨(some 49), .val (.load (some 8) (.t 11)), none⟩,
    ⟨(some 50), .call (.f 23) [(.t 47), (.t 48), (.t 49)], none⟩,
    ⟨(some 51), .app 4 40 33 (.t 46) (.t 50), none⟩,
    ⟨(some 8), .val (.mov (.t 51)), none⟩]
def g22_11 : List Am.Item := [
    ⟨(some 52), .val (.bin .num .add (.t 22) (.c (.int .i64 1))), none⟩,
    ⟨(some 22), .val (.mov (.t 52)), none⟩]
def l22_1 : RC := .gho (.drop 11) (.seq (.reg g22_5) (.seq (.cond (.t 23) (.skip) (.exit 0)) (.seq (.block 1 (.seq (.reg g22_6) (.seq (.block 2 (.loop l22_0)) (.reg g22_10)))) (.reg g22_11))))
def g22_12 : List Am.Item := [
    ⟨(some 53), .val (.mov (.t 8)), none⟩,
    ⟨(some 54), .val (.mov (.t 9)), none⟩,
    ⟨(some 55), .app 4 40 33 (.t 53) (.t 54), none⟩,
    ⟨(some 56), .call (.f 32) [(.t 55)], none⟩,
    ⟨(some 6), .val (.mov (.t 56)), none⟩]
def r22 : RC := .seq (.reg g22_0) (.seq (.reg g22_1) (.seq (.reg g22_2) (.gho (.vec 8 8 4) (.seq (.reg g22_3) (.seq (.seq (.reg g22_4) (.block 0 (.loop l22_1))) (.seq (.reg g22_12) (.ret)))))))
def o22 : List RR := [.tmp 6]
theorem k22 : chkC Tryz.prog 57 r22 (Tryz.f22.body.getD .skip) = true := by decide +kernel
theorem q22 : chkR Tryz.prog Tryz.f22.results.toList o22 = true := by decide +kernel

/- (wireschema/tagenc.writer).slot -/
def g23_0 : List Am.Item := [
    ⟨(some 3), .boxN 3 (.t 0), none⟩,
    ⟨(some 5), .boxN 5 (.t 2), none⟩,
    ⟨(some 6), .val (.mov (.c (.nils))), none⟩]
def g23_1 : List Am.Item := [
    ⟨(some 10), .val (.faddr 0 (.t 3)), none⟩,
    ⟨(some 11), .val (.faddr 0 (.t 10)), none⟩,
    ⟨(some 12), .val (.loadv 0 3 none (.t 11)), none⟩,
    ⟨(some 13), .val (.mov (.t 1)), none⟩,
    ⟨(some 14), .val (.iaddr 3 none (.t 12) (.t 13)), none⟩,
    ⟨(some 15), .val (.loadr (some 3) (.t 14)), none⟩,
    ⟨(some 16), .val (.faddr 0 (.t 5)), none⟩,
    ⟨(some 17), .val (.loadv 0 5 none (.t 16)), none⟩,
    ⟨(some 18), .call (.f 33) [(.t 15), (.t 17)], none⟩,
    ⟨(some 9), .val (.mov (.t 18)), none⟩,
    ⟨(some 19), .val (.ext (.t 9) 0), none⟩,
    ⟨(some 20), .val (.ext (.t 9) 1), none⟩,
    ⟨(some 7), .allocN 7 [.int .i64 0, .str [], .str [], .int .i64 0, .int .i64 0, .int .i64 0, .int .i64 0, .int .i64 0], none⟩,
    ⟨none, .storev 0 7 8 (.t 7) (.t 19), none⟩,
    ⟨(some 8), .val (.mov (.t 20)), none⟩]
def g23_2 : List Am.Item := [
    ⟨(some 21), .val (.mov (.t 8)), none⟩,
    ⟨(some 22), .val (.un .not (.t 21)), none⟩]
def g23_3 : List Am.Item := [
    ⟨(some 6), .val (.mov (.c (.nils))), none⟩]
def g23_4 : List Am.Item := [
    ⟨(some 23), .val (.loadv 0 7 (some 8) (.t 7)), none⟩,
    ⟨(some 24), .call (.f 34) [(.t 23)], none⟩,
    ⟨(some 25), .val (.loadv 0 3 (some 2) (.t 3)), none⟩,
    ⟨(some 26), .val (.loadv 0 7 (some 8) (.t 7)), none⟩,
    ⟨(some 27), .val (.faddr 1 (.t 5)), none⟩,
    ⟨(some 28), .val (.loadv 0 5 (some 7) (.t 27)), none⟩,
    ⟨(some 29), .callF (.t 24) [(.t 25), (.t 26), (.t 28)], none⟩,
    ⟨(some 6), .val (.mov (.t 29)), none⟩]
def r23 : RC := .seq (.reg g23_0) (.seq (.draw g23_1) (.seq (.seq (.reg g23_2) (.cond (.t 22) (.seq (.reg g23_3) (.ret)) (.skip))) (.seq (.draw g23_4) (.ret))))
def o23 : List RR := [.tmp 6]
theorem k23 : chkC Tryz.prog 30 r23 (Tryz.f23.body.getD .skip) = true := by decide +kernel
theorem q23 : chkR Tryz.prog Tryz.f23.results.toList o23 = true := by decide +kernel

/- slices.IndexFunc[[]wireschema/api.Prog,wireschema/api.Prog] -/
def g26_0 : List Am.Item := [
    ⟨(some 4), .val (.mov (.c (.int .i64 0))), none⟩]
def g26_1 : List Am.Item := [
    ⟨(some 6), .val (.mov (.t 0)), none⟩,
    ⟨(some 7), .val (.len 1 (.t 6)), none⟩,
    ⟨(some 8), .val (.mov (.c (.int .i64 0))), none⟩]
def g26_2 : List Am.Item := [
    ⟨(some 9), .val (.bin .num .lss (.t 8) (.t 7)), none⟩]
def g26_3 : List Am.Item := [
    ⟨(some 10), .val (.mov (.t 8)), none⟩,
    ⟨(some 5), .val (.mov (.t 10)), none⟩]
def g26_4 : List Am.Item := [
    ⟨(some 11), .val (.mov (.t 1)), none⟩,
    ⟨(some 12), .val (.mov (.t 0)), none⟩,
    ⟨(some 13), .val (.mov (.t 5)), none⟩,
    ⟨(some 14), .val (.iaddr 3 none (.t 12) (.t 13)), none⟩,
    ⟨(some 15), .val (.load (some 3) (.t 14)), none⟩,
    ⟨(some 16), .callF (.t 11) [(.t 15)], none⟩]
def g26_5 : List Am.Item := [
    ⟨(some 17), .val (.mov (.t 5)), none⟩,
    ⟨(some 4), .val (.mov (.t 17)), none⟩]
def g26_6 : List Am.Item := [
    ⟨(some 18), .val (.bin .num .add (.t 8) (.c (.int .i64 1))), none⟩,
    ⟨(some 8), .val (.mov (.t 18)), none⟩]
def l26_0 : RC := .seq (.reg g26_2) (.seq (.cond (.t 9) (.skip) (.exit 0)) (.seq (.block 1 (.seq (.reg g26_3) (.seq (.reg g26_4) (.cond (.t 16) (.seq (.reg g26_5) (.ret)) (.skip))))) (.reg g26_6)))
def g26_7 : List Am.Item := [
    ⟨(some 4), .val (.mov (.c (.int .i64 (-1)))), none⟩]
def r26 : RC := .seq (.reg g26_0) (.seq (.seq (.reg g26_1) (.block 0 (.loop l26_0))) (.seq (.reg g26_7) (.ret)))
def o26 : List RR := [.tmp 4]
theorem k26 : chkC Tryz.prog 19 r26 (Tryz.f26.body.getD .skip) = true := by decide +kernel
theorem q26 : chkR Tryz.prog Tryz.f26.results.toList o26 = true := by decide +kernel

/- wireschema/plan.Find$1 -/
def g27_0 : List Am.Item := [
    ⟨(some 2), .boxN 2 (.t 0), none⟩,
    ⟨(some 3), .val (.mov (.c (.bool false))), none⟩]
def g27_1 : List Am.Item := [
    ⟨(some 4), .val (.faddr 0 (.t 2)), none⟩,
    ⟨(some 5), .val (.load none (.t 4)), none⟩,
    ⟨(some 6), .val (.load none (.t 1)), none⟩,
    ⟨(some 7), .val (.bin .str .eql (.t 5) (.t 6)), none⟩,
    ⟨(some 3), .val (.mov (.t 7)), none⟩]
def r27 : RC := .seq (.reg g27_0) (.seq (.reg g27_1) (.ret))
def o27 : List RR := [.tmp 3]
theorem k27 : chkC Tryz.prog 8 r27 (Tryz.f27.body.getD .skip) = true := by decide +kernel
theorem q27 : chkR Tryz.prog Tryz.f27.results.toList o27 = true := by decide +kernel

/- wireschema/plan.Check -/
def g28_0 : List Am.Item := [
    ⟨(some 1), .boxN 1 (.t 0), none⟩,
    ⟨(some 2), .val (.mov (.c (.int .i64 0))), none⟩]
def g28_1 : List Am.Item := [
    ⟨(some 4), .val (.load (some 2) (.t 1)), none⟩,
    ⟨(some 5), .call (.f 35) [(.t 4)], none⟩,
    ⟨(some 3), .val (.mov (.t 5)), none⟩]
def g28_2 : List Am.Item := [
    ⟨(some 2), .val (.mov (.c (.int .i64 3))), none⟩]
def g28_3 : List Am.Item := [
    ⟨(some 7), .val (.load (some 2) (.t 1)), none⟩,
    ⟨(some 8), .call (.f 36) [(.t 7)], none⟩,
    ⟨(some 6), .val (.mov (.t 8)), none⟩]
def g28_4 : List Am.Item := [
    ⟨(some 2), .val (.mov (.c (.int .i64 8))), none⟩]
def g28_5 : List Am.Item := [
    ⟨(some 10), .val (.load (some 2) (.t 1)), none⟩,
    ⟨(some 11), .call (.f 37) [(.t 10)], none⟩,
    ⟨(some 9), .val (.mov (.t 11)), none⟩]
def g28_6 : List Am.Item := [
    ⟨(some 2), .val (.mov (.c (.int .i64 11))), none⟩]
def g28_7 : List Am.Item := [
    ⟨(some 13), .val (.load (some 2) (.t 1)), none⟩,
    ⟨(some 14), .call (.f 38) [(.t 13)], none⟩,
    ⟨(some 12), .val (.mov (.t 14)), none⟩]
def g28_8 : List Am.Item := [
    ⟨(some 2), .val (.mov (.c (.int .i64 9))), none⟩]
def g28_9 : List Am.Item := [
    ⟨(some 16), .val (.load (some 2) (.t 1)), none⟩,
    ⟨(some 17), .call (.f 39) [(.t 16)], none⟩,
    ⟨(some 15), .val (.mov (.t 17)), none⟩]
def g28_10 : List Am.Item := [
    ⟨(some 2), .val (.mov (.c (.int .i64 6))), none⟩]
def g28_11 : List Am.Item := [
    ⟨(some 19), .val (.load (some 2) (.t 1)), none⟩,
    ⟨(some 20), .call (.f 40) [(.t 19)], none⟩,
    ⟨(some 18), .val (.mov (.t 20)), none⟩]
def g28_12 : List Am.Item := [
    ⟨(some 2), .val (.mov (.c (.int .i64 1))), none⟩]
def g28_13 : List Am.Item := [
    ⟨(some 22), .val (.load (some 2) (.t 1)), none⟩,
    ⟨(some 23), .call (.f 41) [(.t 22)], none⟩,
    ⟨(some 21), .val (.mov (.t 23)), none⟩]
def g28_14 : List Am.Item := [
    ⟨(some 2), .val (.mov (.c (.int .i64 19))), none⟩]
def g28_15 : List Am.Item := [
    ⟨(some 2), .val (.mov (.c (.int .i64 0))), none⟩]
def r28 : RC := .seq (.reg g28_0) (.seq (.block 0 (.seq (.reg g28_1) (.cond (.t 3) (.seq (.reg g28_2) (.ret)) (.seq (.reg g28_3) (.cond (.t 6) (.seq (.reg g28_4) (.ret)) (.seq (.reg g28_5) (.cond (.t 9) (.seq (.reg g28_6) (.ret)) (.seq (.reg g28_7) (.cond (.t 12) (.seq (.reg g28_8) (.ret)) (.seq (.reg g28_9) (.cond (.t 15) (.seq (.reg g28_10) (.ret)) (.seq (.reg g28_11) (.cond (.t 18) (.seq (.reg g28_12) (.ret)) (.seq (.reg g28_13) (.cond (.t 21) (.seq (.reg g28_14) (.ret)) (.skip)))))))))))))))) (.seq (.reg g28_15) (.ret)))
def o28 : List RR := [.tmp 2]
theorem k28 : chkC Tryz.prog 24 r28 (Tryz.f28.body.getD .skip) = true := by decide +kernel
theorem q28 : chkR Tryz.prog Tryz.f28.results.toList o28 = true := by decide +kernel

/- (wireschema/plan.examiner).message -/
def g29_0 : List Am.Item := [
    ⟨(some 4), .boxN 4 (.t 0), none⟩,
    ⟨(some 5), .boxN 5 (.t 1), none⟩,
    ⟨(some 6), .boxN 6 (.t 2), none⟩,
    ⟨(some 8), .val (.mov (.c (.int .i64 0))), none⟩]
def g29_1 : List Am.Item := [
    ⟨(some 17), .val (.faddr 0 (.t 6)), none⟩,
    ⟨(some 18), .val (.load none (.t 17)), none⟩,
    ⟨(some 19), .val (.bin .num .neq (.t 18) (.c (.int .i64 10))), none⟩,
    ⟨(some 20), .val (.mov (.t 19)), none⟩,
    ⟨(some 21), .val (.load (some 7) (.t 6)), (some (20, false))⟩,
    ⟨(some 22), .call (.f 42) [(.t 21)], (some (20, false))⟩,
    ⟨(some 23), .val (.pick (.t 20) (.c (.bool true)) (.t 22)), none⟩,
    ⟨(some 16), .val (.mov (.t 23)), none⟩]
def g29_2 : List Am.Item := [
    ⟨(some 8), .val (.mov (.c (.int .i64 12))), none⟩]
def g29_3 : List Am.Item := [
    ⟨(some 25), .val (.mov (.t 3)), none⟩,
    ⟨(some 26), .val (.bin .num .gtr (.t 25) (.c (.int .i64 16))), none⟩,
    ⟨(some 24), .val (.mov (.t 26)), none⟩]
def g29_4 : List Am.Item := [
    ⟨(some 8), .val (.mov (.c (.int .i64 17))), none⟩]
def g29_5 : List Am.Item := [
    ⟨(some 27), .val (.faddr 5 (.t 6)), none⟩,
    ⟨(some 28), .val (.load none (.t 27)), none⟩,
    ⟨(some 29), .val (.len 1 (.t 28)), none⟩,
    ⟨(some 30), .val (.mov (.c (.int .i64 0))), none⟩]
def g29_6 : List Am.Item := [
    ⟨(some 31), .val (.bin .num .lss (.t 30) (.t 29)), none⟩]
def g29_7 : List Am.Item := [
    ⟨(some 32), .val (.mov (.t 30)), none⟩,
    ⟨(some 9), .val (.mov (.t 32)), none⟩]
def g29_8 : List Am.Item := [
    ⟨(some 33), .val (.load (some 2) (.t 4)), none⟩,
    ⟨(some 34), .val (.load (some 3) (.t 5)), none⟩,
    ⟨(some 35), .val (.faddr 5 (.t 6)), none⟩,
    ⟨(some 36), .val (.load none (.t 35)), none⟩,
    ⟨(some 37), .val (.mov (.t 9)), none⟩,
    ⟨(some 38), .val (.mov (.t 3)), none⟩,
    ⟨(some 39), .call (.f 43) [(.t 33), (.t 34), (.t 36), (.t 37), (.t 38)], none⟩,
    ⟨(some 10), .val (.mov (.t 39)), none⟩]
def g29_9 : List Am.Item := [
    ⟨(some 40), .val (.mov (.t 10)), none⟩,
    ⟨(some 41), .val (.bin .num .neq (.t 40) (.c (.int .i64 0))), none⟩]
def g29_10 : List Am.Item := [
    ⟨(some 42), .val (.mov (.t 10)), none⟩,
    ⟨(some 8), .val (.mov (.t 42)), none⟩]
def g29_11 : List Am.Item := [
    ⟨(some 43), .val (.bin .num .add (.t 30) (.c (.int .i64 1))), none⟩,
    ⟨(some 30), .val (.mov (.t 43)), none⟩]
def l29_0 : RC := .seq (.reg g29_6) (.seq (.cond (.t 31) (.skip) (.exit 1)) (.seq (.block 2 (.seq (.reg g29_7) (.seq (.reg g29_8) (.seq (.reg g29_9) (.cond (.t 41) (.seq (.reg g29_10) (.ret)) (.skip)))))) (.reg g29_11)))
def g29_12 : List Am.Item := [
    ⟨(some 44), .val (.faddr 1 (.t 5)), none⟩,
    ⟨(some 45), .val (.load none (.t 44)), none⟩,
    ⟨(some 46), .val (.len 1 (.t 45)), none⟩,
    ⟨(some 47), .val (.mov (.c (.int .i64 0))), none⟩]
def g29_13 : List Am.Item := [
    ⟨(some 48), .val (.bin .num .lss (.t 47) (.t 46)), none⟩]
def g29_14 : List Am.Item := [
    ⟨(some 49), .val (.iaddr 8 none (.t 45) (.t 47)), none⟩,
    ⟨(some 50), .val (.load (some 8) (.t 49)), none⟩,
    ⟨(some 12), .allocN 12 [.int .i64 0, .str [], .str [], .int .i64 0, .int .i64 0, .int .i64 0, .int .i64 0, .int .i64 0], none⟩,
    ⟨none, .store 8 (.t 12) (.t 50), none⟩]
def g29_15 : List Am.Item := [
    ⟨(some 51), .val (.faddr 3 (.t 12)), none⟩,
    ⟨(some 52), .val (.load none (.t 51)), none⟩,
    ⟨(some 53), .val (.bin .num .eql (.t 52) (.c (.int .i64 1))), none⟩,
    ⟨(some 54), .val (.mov (.t 53)), none⟩,
    ⟨(some 55), .val (.faddr 5 (.t 6)), (some (54, true))⟩,
    ⟨(some 56), .val (.load none (.t 55)), (some (54, true))⟩,
    ⟨(some 57), .val (.mkfn (.func 45) [] [(.t 12)]), (some (54, true))⟩,
    ⟨(some 58), .callF (.f 44) [(.t 56), (.t 57)], (some (54, true))⟩,
    ⟨(some 59), .val (.un .not (.t 58)), (some (54, true))⟩,
    ⟨(some 60), .val (.pick (.t 54) (.t 59) (.c (.bool false))), none⟩]
def g29_16 : List Am.Item := [
    ⟨(some 8), .val (.mov (.c (.int .i64 14))), none⟩]
def g29_17 : List Am.Item := [
    ⟨(some 61), .val (.bin .num .add (.t 47) (.c (.int .i64 1))), none⟩,
    ⟨(some 47), .val (.mov (.t 61)), none⟩]
def l29_1 : RC := .gho (.drop 12) (.seq (.reg g29_13) (.seq (.cond (.t 48) (.skip) (.exit 3)) (.seq (.block 4 (.seq (.reg g29_14) (.seq (.reg g29_15) (.cond (.t 60) (.seq (.reg g29_16) (.ret)) (.skip))))) (.reg g29_17))))
def g29_18 : List Am.Item := [
    ⟨(some 62), .val (.faddr 6 (.t 6)), none⟩,
    ⟨(some 63), .val (.load none (.t 62)), none⟩,
    ⟨(some 64), .val (.len 1 (.t 63)), none⟩,
    ⟨(some 65), .val (.mov (.c (.int .i64 0))), none⟩]
def g29_19 : List Am.Item := [
    ⟨(some 66), .val (.bin .num .lss (.t 65) (.t 64)), none⟩]
def g29_20 : List Am.Item := [
    ⟨(some 67), .val (.iaddr 4 none (.t 63) (.t 65)), none⟩,
    ⟨(some 68), .val (.load (some 4) (.t 67)), none⟩,
    ⟨(some 14), .allocN 14 [.int .i64 0, .int .i64 0, .int .u64 0, .str []], none⟩,
    ⟨none, .store 4 (.t 14) (.t 68), none⟩]
def g29_21 : List Am.Item := [
    ⟨(some 69), .val (.load (some 2) (.t 4)), none⟩,
    ⟨(some 70), .val (.load (some 3) (.t 5)), none⟩,
    ⟨(some 71), .val (.load (some 4) (.t 14)), none⟩,
    ⟨(some 72), .call (.f 46) [(.t 69), (.t 70), (.t 71)], none⟩,
    ⟨(some 15), .val (.mov (.t 72)), none⟩]
def g29_22 : List Am.Item := [
    ⟨(some 73), .val (.mov (.t 15)), none⟩,
    ⟨(some 74), .val (.bin .num .neq (.t 73) (.c (.int .i64 0))), none⟩]
def g29_23 : List Am.Item := [
    ⟨(some 75), .val (.mov (.t 15)), none⟩,
    ⟨(some 8), .val (.mov (.t 75)), none⟩]
def g29_24 : List Am.Item := [
    ⟨(some 76), .val (.bin .num .add (.t 65) (.c (.int .i64 1))), none⟩,
    ⟨(some 65), .val (.mov (.t 76)), none⟩]
def l29_2 : RC := .gho (.drop 14) (.seq (.reg g29_19) (.seq (.cond (.t 66) (.skip) (.exit 5)) (.seq (.block 6 (.seq (.reg g29_20) (.seq (.reg g29_21) (.seq (.reg g29_22) (.cond (.t 74) (.seq (.reg g29_23) (.ret)) (.skip)))))) (.reg g29_24))))
def g29_25 : List Am.Item := [
    ⟨(some 8), .val (.mov (.c (.int .i64 0))), none⟩]
def r29 : RC := .seq (.reg g29_0) (.seq (.block 0 (.seq (.reg g29_1) (.cond (.t 16) (.seq (.reg g29_2) (.ret)) (.seq (.reg g29_3) (.cond (.t 24) (.seq (.reg g29_4) (.ret)) (.skip)))))) (.seq (.seq (.reg g29_5) (.block 1 (.loop l29_0))) (.seq (.seq (.reg g29_12) (.block 3 (.loop l29_1))) (.seq (.seq (.reg g29_18) (.block 5 (.loop l29_2))) (.seq (.reg g29_25) (.ret))))))
def o29 : List RR := [.tmp 8]
theorem k29 : chkC Tryz.prog 77 r29 (Tryz.f29.body.getD .skip) = true := by decide +kernel
theorem q29 : chkR Tryz.prog Tryz.f29.results.toList o29 = true := by decide +kernel

/- wireschema/value.Count -/
def g30_0 : List Am.Item := [
    ⟨(some 1), .boxN 1 (.t 0), none⟩,
    ⟨(some 2), .val (.mov (.c (.int .i64 0))), none⟩]
def g30_1 : List Am.Item := [
    ⟨(some 6), .val (.faddr 6 (.t 1)), none⟩,
    ⟨(some 7), .val (.load none (.t 6)), none⟩,
    ⟨(some 8), .val (.len 1 (.t 7)), none⟩,
    ⟨(some 9), .val (.bin .num .add (.c (.int .i64 1)) (.t 8)), none⟩,
    ⟨(some 3), .val (.mov (.t 9)), none⟩]
def g30_2 : List Am.Item := [
    ⟨(some 10), .val (.load (some 7) (.t 1)), none⟩,
    ⟨(some 11), .call (.f 47) [(.t 10)], none⟩,
    ⟨(some 12), .val (.len 1 (.t 11)), none⟩,
    ⟨(some 13), .val (.mov (.c (.int .i64 0))), none⟩]
def g30_3 : List Am.Item := [
    ⟨(some 14), .val (.bin .num .lss (.t 13) (.t 12)), none⟩]
def g30_4 : List Am.Item := [
    ⟨(some 15), .val (.iaddr 7 none (.t 11) (.t 13)), none⟩,
    ⟨(some 16), .val (.load (some 7) (.t 15)), none⟩,
    ⟨(some 5), .allocN 5 [.int .i64 0, .int .u64 0, .str [], .nils, .nils, .nils, .nils], none⟩,
    ⟨none, .store 7 (.t 5) (.t 16), none⟩]
def g30_5 : List Am.Item := [
    ⟨(some 17), .val (.mov (.t 3)), none⟩,
    ⟨(some 18), .val (.load (some 7) (.t 5)), none⟩,
    ⟨(some 19), .call (.f 30) [(.t 18)], none⟩,
    ⟨(some 20), .val (.bin .num .add (.t 17) (.t 19)), none⟩,
    ⟨(some 3), .val (.mov (.t 20)), none⟩]
def g30_6 : List Am.Item := [
    ⟨(some 21), .val (.bin .num .add (.t 13) (.c (.int .i64 1))), none⟩,
    ⟨(some 13), .val (.mov (.t 21)), none⟩]
def l30_0 : RC := .gho (.drop 5) (.seq (.reg g30_3) (.seq (.cond (.t 14) (.skip) (.exit 0)) (.seq (.block 1 (.seq (.reg g30_4) (.reg g30_5))) (.reg g30_6))))
def g30_7 : List Am.Item := [
    ⟨(some 22), .val (.mov (.t 3)), none⟩,
    ⟨(some 2), .val (.mov (.t 22)), none⟩]
def r30 : RC := .seq (.reg g30_0) (.seq (.reg g30_1) (.seq (.seq (.reg g30_2) (.block 0 (.loop l30_0))) (.seq (.reg g30_7) (.ret))))
def o30 : List RR := [.tmp 2]
theorem k30 : chkC Tryz.prog 23 r30 (Tryz.f30.body.getD .skip) = true := by decide +kernel
theorem q30 : chkR Tryz.prog Tryz.f30.results.toList o30 = true := by decide +kernel

/- wireschema/plan.Norm -/
def g31_0 : List Am.Item := [
    ⟨(some 3), .boxN 3 (.t 0), none⟩,
    ⟨(some 5), .boxN 5 (.t 2), none⟩,
    ⟨(some 6), .allocN 6 [.int .i64 0, .int .u64 0, .str [], .nils, .nils, .nils, .nils], none⟩]
def g31_1 : List Am.Item := [
    ⟨(some 14), .val (.faddr 6 (.t 5)), none⟩,
    ⟨(some 15), .val (.load none (.t 14)), none⟩,
    ⟨(some 16), .callF (.f 48) [(.t 15)], none⟩,
    ⟨(some 17), .val (.build [.int .i64 0, .int .u64 0, .str [], .nils, .nils, .nils, .nils] [(0, 1, (.c (.int .i64 10))), (6, 1, (.t 16))]), none⟩,
    ⟨(some 7), .allocN 7 [.int .i64 0, .int .u64 0, .str [], .nils, .nils, .nils, .nils], none⟩,
    ⟨none, .store 7 (.t 7) (.t 17), none⟩]
def g31_2 : List Am.Item := [
    ⟨(some 18), .val (.mov (.t 1)), none⟩,
    ⟨(some 19), .val (.bin .num .lss (.t 18) (.c (.int .i64 0))), none⟩,
    ⟨(some 20), .val (.mov (.t 19)), none⟩,
    ⟨(some 21), .val (.mov (.t 1)), (some (20, false))⟩,
    ⟨(some 22), .val (.faddr 0 (.t 3)), (some (20, false))⟩,
    ⟨(some 23), .val (.load none (.t 22)), (some (20, false))⟩,
    ⟨(some 24), .val (.len 1 (.t 23)), (some (20, false))⟩,
    ⟨(some 25), .val (.bin .num .geq (.t 21) (.t 24)), (some (20, false))⟩,
    ⟨(some 26), .val (.pick (.t 20) (.c (.bool true)) (.t 25)), none⟩]
def g31_3 : List Am.Item := [
    ⟨(some 27), .val (.load (some 7) (.t 7)), none⟩,
    ⟨none, .store 7 (.t 6) (.t 27), none⟩]
def g31_4 : List Am.Item := [
    ⟨(some 28), .val (.faddr 5 (.t 5)), none⟩,
    ⟨(some 29), .val (.load none (.t 28)), none⟩,
    ⟨(some 30), .call (.f 49) [(.t 29)], none⟩,
    ⟨(some 31), .val (.len 1 (.t 30)), none⟩,
    ⟨(some 32), .val (.mov (.c (.int .i64 0))), none⟩]
def g31_5 : List Am.Item := [
    ⟨(some 33), .val (.bin .num .lss (.t 32) (.t 31)), none⟩]
def g31_6 : List Am.Item := [
    ⟨(some 34), .val (.iaddr 8 none (.t 30) (.t 32)), none⟩,
    ⟨(some 35), .val (.load (some 8) (.t 34)), none⟩,
    ⟨(some 9), .allocN 9 [.int .i64 0, .int .i64 0, .int .u64 0, .str [], .nils, .nils, .nils, .nils], none⟩,
    ⟨none, .store 8 (.t 9) (.t 35), none⟩]
def g31_7 : List Am.Item := [
    ⟨(some 37), .val (.faddr 0 (.t 3)), none⟩,
    ⟨(some 38), .val (.loadv 0 3 none (.t 37)), none⟩,
    ⟨(some 39), .val (.mov (.t 1)), none⟩,
    ⟨(some 40), .val (.iaddr 3 none (.t 38) (.t 39)), none⟩,
    ⟨(some 41), .val (.loadr (some 3) (.t 40)), none⟩,
    ⟨(some 42), .val (.faddr 0 (.t 9)), none⟩,
    ⟨(some 43), .val (.loadv 0 9 none (.t 42)), none⟩,
    ⟨(some 44), .call (.f 33) [(.t 41), (.t 43)], none⟩,
    ⟨(some 36), .val (.mov (.t 44)), none⟩,
    ⟨(some 45), .val (.ext (.t 36) 0), none⟩,
    ⟨(some 46), .val (.ext (.t 36) 1), none⟩,
    ⟨(some 10), .allocN 10 [.int .i64 0, .str [], .str [], .int .i64 0, .int .i64 0, .int .i64 0, .int .i64 0, .int .i64 0], none⟩,
    ⟨none, .storev 0 10 8 (.t 10) (.t 45), none⟩,
    ⟨(some 11), .val (.mov (.t 46)), none⟩]
def g31_8 : List Am.Item := [
    ⟨(some 47), .val (.faddr 3 (.t 10)), none⟩,
    ⟨(some 48), .val (.load none (.t 47)), none⟩,
    ⟨(some 49), .val (.bin .num .eql (.t 48) (.c (.int .i64 3))), none⟩,
    ⟨(some 50), .val (.mov (.t 49)), none⟩,
    ⟨(some 51), .val (.faddr 3 (.t 10)), (some (50, false))⟩,
    ⟨(some 52), .val (.load none (.t 51)), (some (50, false))⟩,
    ⟨(some 53), .val (.bin .num .eql (.t 52) (.c (.int .i64 4))), (some (50, false))⟩,
    ⟨(some 54), .val (.pick (.t 50) (.c (.bool true)) (.t 53)), none⟩,
    ⟨(some 55), .val (.mov (.t 54)), none⟩,
    ⟨(some 56), .val (.faddr 3 (.t 10)), (some (55, false))⟩,
    ⟨(some 57), .val (.load none (.t 56)), (some (55, false))⟩,
    ⟨(some 58), .val (.bin .num .eql (.t 57) (.c (.int .i64 5))), (some (55, false))⟩,
    ⟨(some 59), .val (.pick (.t 55) (.c (.bool true)) (.t 58)), none⟩,
    ⟨(some 12), .val (.mov (.t 59)), none⟩]
def g31_9 : List Am.Item := [
    ⟨(some 60), .val (.load (some 2) (.t 3)), none⟩,
    ⟨(some 61), .val (.load (some 8) (.t 10)), none⟩,
    ⟨(some 62), .val (.faddr 1 (.t 9)), none⟩,
    ⟨(some 63), .val (.load (some 7) (.t 62)), none⟩,
    ⟨(some 64), .call (.f 50) [(.t 60), (.t 61), (.t 63)], none⟩,
    ⟨(some 13), .allocN 13 [.int .i64 0, .int .u64 0, .str [], .nils, .nils, .nils, .nils], none⟩,
    ⟨none, .store 7 (.t 13) (.t 64), none⟩]
def g31_10 : List Am.Item := [
    ⟨(some 65), .val (.mov (.t 12)), none⟩,
    ⟨(some 66), .val (.un .not (.t 65)), none⟩,
    ⟨(some 67), .val (.mov (.t 66)), none⟩,
    ⟨(some 68), .val (.load (some 7) (.t 13)), (some (67, false))⟩,
    ⟨(some 69), .call (.f 51) [(.t 68)], (some (67, false))⟩,
    ⟨(some 70), .val (.un .not (.t 69)), (some (67, false))⟩,
    ⟨(some 71), .val (.pick (.t 67) (.c (.bool true)) (.t 70)), none⟩]
def g31_11 : List Am.Item := [
    ⟨(some 72), .val (.faddr 5 (.t 7)), none⟩,
    ⟨(some 73), .val (.load none (.t 72)), none⟩,
    ⟨(some 74), .val (.faddr 0 (.t 9)), none⟩,
    ⟨(some 75), .val (.load none (.t 74)), none⟩,
    ⟨(some 76), .val (.load (some 7) (.t 13)), none⟩,
    ⟨(some 77), .val (.build [.int .i64 0, .int .i64 0, .int .u64 0, .str [], .nils, .nils, .nils, .nils] [(0, 1, (.t 75)), (1, 7, (.t 76))]), none⟩,
    ⟨(some 78), .bsl 8 1 [.int .i64 0, .int .i64 0, .int .u64 0, .str [], .nils, .nils, .nils, .nils] [(0, 8, (.t 77))], none⟩,
    ⟨(some 79), .app 8 136 38 (.t 73) (.t 78), none⟩,
    ⟨(some 80), .val (.faddr 5 (.t 7)), none⟩,
    ⟨none, .store 1 (.t 80) (.t 79), none⟩]
def g31_12 : List Am.Item := [
    ⟨(some 81), .val (.bin .num .add (.t 32) (.c (.int .i64 1))), none⟩,
    ⟨(some 32), .val (.mov (.t 81)), none⟩]
def l31_0 : RC := .gho (.drop 13) (.gho (.drop 10) (.gho (.drop 9) (.seq (.reg g31_5) (.seq (.cond (.t 33) (.skip) (.exit 0)) (.seq (.block 1 (.seq (.reg g31_6) (.seq (.draw g31_7) (.seq (.reg g31_8) (.seq (.reg g31_9) (.seq (.reg g31_10) (.cond (.t 71) (.reg g31_11) (.skip)))))))) (.reg g31_12))))))
def g31_13 : List Am.Item := [
    ⟨(some 82), .val (.faddr 6 (.t 7)), none⟩,
    ⟨(some 83), .val (.load none (.t 82)), none⟩,
    ⟨(some 84), .callF (.f 52) [(.t 83), (.f 53)], none⟩]
def g31_14 : List Am.Item := [
    ⟨(some 85), .val (.load (some 7) (.t 7)), none⟩,
    ⟨none, .store 7 (.t 6) (.t 85), none⟩]
def r31 : RC := .seq (.reg g31_0) (.seq (.reg g31_1) (.gho (.vecc 7 5 1100 8) (.seq (.seq (.reg g31_2) (.cond (.t 26) (.seq (.reg g31_3) (.ret)) (.skip))) (.seq (.seq (.reg g31_4) (.block 0 (.loop l31_0))) (.seq (.reg g31_13) (.seq (.reg g31_14) (.ret)))))))
def o31 : List RR := [.cell 6 (some 7)]
theorem k31 : chkC Tryz.prog 86 r31 (Tryz.f31.body.getD .skip) = true := by decide +kernel
theorem q31 : chkR Tryz.prog Tryz.f31.results.toList o31 = true := by decide +kernel

/- wireschema/unknown.Put -/
def g32_0 : List Am.Item := [
    ⟨(some 2), .val (.mov (.c (.str []))), none⟩]
def g32_1 : List Am.Item := [
    ⟨(some 3), .allocN 2097 [.nilp, .nils], none⟩]
def g32_2 : List Am.Item := [
    ⟨(some 8), .val (.mov (.t 0)), none⟩,
    ⟨(some 9), .val (.len 1 (.t 8)), none⟩,
    ⟨(some 10), .val (.mov (.c (.int .i64 0))), none⟩]
def g32_3 : List Am.Item := [
    ⟨(some 11), .val (.bin .num .lss (.t 10) (.t 9)), none⟩]
def g32_4 : List Am.Item := [
    ⟨(some 12), .val (.iaddr 4 none (.t 8) (.t 10)), none⟩,
    ⟨(some 13), .val (.load (some 4) (.t 12)), none⟩,
    ⟨(some 5), .allocN 5 [.int .i64 0, .int .i64 0, .int .u64 0, .str []], none⟩,
    ⟨none, .store 4 (.t 5) (.t 13), none⟩]
def g32_5 : List Am.Item := [
    ⟨(some 14), .val (.load (some 4) (.t 5)), none⟩,
    ⟨(some 15), .call (.f 55) [(.t 14)], none⟩,
    ⟨(some 16), .val (.un .not (.t 15)), none⟩]
def g32_6 : List Am.Item := [
    ⟨(some 18), .val (.faddr 0 (.t 5)), none⟩,
    ⟨(some 19), .val (.load none (.t 18)), none⟩,
    ⟨(some 20), .val (.faddr 1 (.t 5)), none⟩,
    ⟨(some 21), .val (.load none (.t 20)), none⟩,
    ⟨(some 22), .call (.f 56) [(.t 19), (.t 21)], none⟩,
    ⟨(some 17), .val (.mov (.t 22)), none⟩,
    ⟨(some 23), .val (.ext (.t 17) 0), none⟩,
    ⟨(some 24), .val (.ext (.t 17) 1), none⟩,
    ⟨(some 6), .val (.mov (.t 23)), none⟩,
    ⟨(some 7), .val (.mov (.t 24)), none⟩]
def g32_7 : List Am.Item := [
    ⟨(some 25), .val (.mov (.t 6)), none⟩,
    ⟨(some 26), .callF (.f 57) [(.t 3), (.t 25)], none⟩]
def g32_10 : List Am.Item := [
    ⟨(some 37), .val (.faddr 1 (.t 5)), none⟩,
    ⟨(some 38), .val (.load none (.t 37)), none⟩,
    ⟨(some 39), .val (.bin .num .eql (.t 38) (.c (.int .i64 2))), none⟩,
    ⟨(some 36), .val (.mov (.t 39)), none⟩]
def g32_11 : List Am.Item := [
    ⟨(some 40), .val (.faddr 2 (.t 5)), none⟩,
    ⟨(some 41), .val (.load none (.t 40)), none⟩,
    ⟨(some 42), .call (.f 58) [(.t 41)], none⟩,
    ⟨(some 43), .callF (.f 57) [(.t 3), (.t 42)], none⟩]
def g32_12 : List Am.Item := [
    ⟨(some 45), .val (.faddr 1 (.t 5)), none⟩,
    ⟨(some 46), .val (.load none (.t 45)), none⟩,
    ⟨(some 47), .call (.f 59) [(.t 46)], none⟩,
    ⟨(some 44), .val (.mov (.t 47)), none⟩]
def g32_13 : List Am.Item := [
    ⟨(some 48), .val (.faddr 2 (.t 5)), none⟩,
    ⟨(some 49), .val (.load none (.t 48)), none⟩,
    ⟨(some 50), .call (.f 60) [(.t 49)], none⟩,
    ⟨(some 51), .callF (.f 57) [(.t 3), (.t 50)], none⟩]
def g32_8 : List Am.Item := [
    ⟨(some 27), .val (.faddr 3 (.t 5)), none⟩,
    ⟨(some 28), .val (.load none (.t 27)), none⟩,
    ⟨(some 29), .val (.len 0 (.t 28)), none⟩,
    ⟨(some 30), .val (.cvi .u64 (.t 29)), none⟩,
    ⟨(some 31), .call (.f 60) [(.t 30)], none⟩,
    ⟨(some 32), .callF (.f 57) [(.t 3), (.t 31)], none⟩]
def g32_9 : List Am.Item := [
    ⟨(some 33), .val (.faddr 3 (.t 5)), none⟩,
    ⟨(some 34), .val (.load none (.t 33)), none⟩,
    ⟨(some 35), .callF (.f 57) [(.t 3), (.t 34)], none⟩]
def g32_14 : List Am.Item := [
    ⟨(some 52), .val (.bin .num .add (.t 10) (.c (.int .i64 1))), none⟩,
    ⟨(some 10), .val (.mov (.t 52)), none⟩]
def l32_0 : RC := .gho (.drop 5) (.seq (.reg g32_3) (.seq (.cond (.t 11) (.skip) (.exit 0)) (.seq (.block 1 (.seq (.reg g32_4) (.seq (.seq (.reg g32_5) (.cond (.t 16) (.exit 1) (.skip))) (.seq (.reg g32_6) (.seq (.reg g32_7) (.block 2 (.seq (.reg g32_10) (.cond (.t 36) (.reg g32_11) (.seq (.reg g32_12) (.cond (.t 44) (.reg g32_13) (.seq (.reg g32_8) (.reg g32_9)))))))))))) (.reg g32_14))))
def g32_15 : List Am.Item := [
    ⟨(some 53), .callF (.f 61) [(.t 3)], none⟩,
    ⟨(some 2), .val (.mov (.t 53)), none⟩]
def r32 : RC := .seq (.reg g32_0) (.seq (.reg g32_1) (.gho (.vecc 2097 1 2005 1) (.seq (.seq (.reg g32_2) (.block 0 (.loop l32_0))) (.seq (.reg g32_15) (.ret)))))
def o32 : List RR := [.tmp 2]
theorem k32 : chkC Tryz.prog 54 r32 (Tryz.f32.body.getD .skip) = true := by decide +kernel
theorem q32 : chkR Tryz.prog Tryz.f32.results.toList o32 = true := by decide +kernel

/- wireschema/plan.Op -/
def g33_0 : List Am.Item := [
    ⟨(some 2), .boxN 2 (.t 0), none⟩,
    ⟨(some 3), .boxN 3 (.t 1), none⟩,
    ⟨(some 4), .allocN 4 [.int .i64 0, .str [], .str [], .int .i64 0, .int .i64 0, .int .i64 0, .int .i64 0, .int .i64 0], none⟩,
    ⟨(some 5), .val (.mov (.c (.bool false))), none⟩]
def g33_1 : List Am.Item := [
    ⟨(some 6), .val (.mkfn (.func 62) [] [(.t 3)]), none⟩,
    ⟨(some 7), .val (.build [.nilf] [(0, 1, (.t 6))]), none⟩,
    ⟨(some 8), .val (.load (some 3) (.t 2)), none⟩,
    ⟨(some 9), .callF (.f 63) [(.t 7), (.t 8)], none⟩,
    ⟨(some 10), .val (.ext (.t 9) 0), none⟩,
    ⟨(some 11), .val (.ext (.t 9) 1), none⟩,
    ⟨none, .store 8 (.t 4) (.t 10), none⟩,
    ⟨(some 5), .val (.mov (.t 11)), none⟩]
def r33 : RC := .seq (.reg g33_0) (.seq (.reg g33_1) (.ret))
def o33 : List RR := [.cell 4 (some 8), .tmp 5]
theorem k33 : chkC Tryz.prog 12 r33 (Tryz.f33.body.getD .skip) = true := by decide +kernel
theorem q33 : chkR Tryz.prog Tryz.f33.results.toList o33 = true := by decide +kernel

/- wireschema/tagenc.way -/
def g34_0 : List Am.Item := [
    ⟨(some 1), .boxN 1 (.t 0), none⟩,
    ⟨(some 2), .val (.mov (.c (.nilf))), none⟩]
def g34_1 : List Am.Item := [
    ⟨(some 4), .val (.faddr 3 (.t 1)), none⟩,
    ⟨(some 5), .val (.load none (.t 4)), none⟩,
    ⟨(some 6), .val (.bin .num .eql (.t 5) (.c (.int .i64 5))), none⟩,
    ⟨(some 3), .val (.mov (.t 6)), none⟩]
def g34_2 : List Am.Item := [
    ⟨(some 2), .val (.mov (.f 64)), none⟩]
def g34_3 : List Am.Item := [
    ⟨(some 8), .val (.load (some 8) (.t 1)), none⟩,
    ⟨(some 9), .call (.f 65) [(.t 8)], none⟩,
    ⟨(some 7), .val (.mov (.t 9)), none⟩]
def g34_4 : List Am.Item := [
    ⟨(some 2), .val (.mov (.f 66)), none⟩]
def g34_5 : List Am.Item := [
    ⟨(some 11), .val (.faddr 3 (.t 1)), none⟩,
    ⟨(some 12), .val (.load none (.t 11)), none⟩,
    ⟨(some 13), .val (.bin .num .eql (.t 12) (.c (.int .i64 4))), none⟩,
    ⟨(some 10), .val (.mov (.t 13)), none⟩]
def g34_6 : List Am.Item := [
    ⟨(some 2), .val (.mov (.f 67)), none⟩]
def g34_7 : List Am.Item := [
    ⟨(some 2), .val (.mov (.f 68)), none⟩]
def r34 : RC := .seq (.reg g34_0) (.seq (.block 0 (.seq (.reg g34_1) (.cond (.t 3) (.seq (.reg g34_2) (.ret)) (.seq (.reg g34_3) (.cond (.t 7) (.seq (.reg g34_4) (.ret)) (.seq (.reg g34_5) (.cond (.t 10) (.seq (.reg g34_6) (.ret)) (.skip)))))))) (.seq (.reg g34_7) (.ret)))
def o34 : List RR := [.tmp 2]
theorem k34 : chkC Tryz.prog 14 r34 (Tryz.f34.body.getD .skip) = true := by decide +kernel
theorem q34 : chkR Tryz.prog Tryz.f34.results.toList o34 = true := by decide +kernel

/- wireschema/plan.limited -/
def g35_0 : List Am.Item := [
    ⟨(some 1), .boxN 1 (.t 0), none⟩,
    ⟨(some 2), .val (.mov (.c (.bool false))), none⟩]
def g35_1 : List Am.Item := [
    ⟨(some 3), .val (.faddr 0 (.t 1)), none⟩,
    ⟨(some 4), .val (.load none (.t 3)), none⟩,
    ⟨(some 5), .val (.len 1 (.t 4)), none⟩,
    ⟨(some 6), .val (.faddr 1 (.t 1)), none⟩,
    ⟨(some 7), .val (.load none (.t 6)), none⟩,
    ⟨(some 8), .val (.len 1 (.t 7)), none⟩,
    ⟨(some 9), .val (.mnx true (.t 5) (.t 8)), none⟩,
    ⟨(some 10), .val (.bin .num .gtr (.t 9) (.c (.int .i64 64))), none⟩,
    ⟨(some 11), .val (.mov (.t 10)), none⟩,
    ⟨(some 12), .val (.faddr 0 (.t 1)), (some (11, false))⟩,
    ⟨(some 13), .val (.load none (.t 12)), (some (11, false))⟩,
    ⟨(some 14), .callF (.f 69) [(.t 13), (.f 70)], (some (11, false))⟩,
    ⟨(some 15), .val (.pick (.t 11) (.c (.bool true)) (.t 14)), none⟩,
    ⟨(some 16), .val (.mov (.t 15)), none⟩,
    ⟨(some 17), .val (.faddr 1 (.t 1)), (some (16, false))⟩,
    ⟨(some 18), .val (.load none (.t 17)), (some (16, false))⟩,
    ⟨(some 19), .callF (.f 71) [(.t 18), (.f 72)], (some (16, false))⟩,
    ⟨(some 20), .val (.pick (.t 16) (.c (.bool true)) (.t 19)), none⟩,
    ⟨(some 2), .val (.mov (.t 20)), none⟩]
def r35 : RC := .seq (.reg g35_0) (.seq (.reg g35_1) (.ret))
def o35 : List RR := [.tmp 2]
theorem k35 : chkC Tryz.prog 21 r35 (Tryz.f35.body.getD .skip) = true := by decide +kernel
theorem q35 : chkR Tryz.prog Tryz.f35.results.toList o35 = true := by decide +kernel

/- wireschema/plan.misnamed -/
def g36_0 : List Am.Item := [
    ⟨(some 1), .boxN 1 (.t 0), none⟩,
    ⟨(some 2), .val (.mov (.c (.bool false))), none⟩]
def g36_1 : List Am.Item := [
    ⟨(some 3), .val (.faddr 0 (.t 1)), none⟩,
    ⟨(some 4), .val (.load none (.t 3)), none⟩,
    ⟨(some 5), .callF (.f 69) [(.t 4), (.f 73)], none⟩,
    ⟨(some 6), .val (.mov (.t 5)), none⟩,
    ⟨(some 7), .val (.faddr 1 (.t 1)), (some (6, false))⟩,
    ⟨(some 8), .val (.load none (.t 7)), (some (6, false))⟩,
    ⟨(some 9), .callF (.f 71) [(.t 8), (.f 78)], (some (6, false))⟩,
    ⟨(some 10), .val (.pick (.t 6) (.c (.bool true)) (.t 9)), none⟩,
    ⟨(some 2), .val (.mov (.t 10)), none⟩]
def r36 : RC := .seq (.reg g36_0) (.seq (.reg g36_1) (.ret))
def o36 : List RR := [.tmp 2]
theorem k36 : chkC Tryz.prog 11 r36 (Tryz.f36.body.getD .skip) = true := by decide +kernel
theorem q36 : chkR Tryz.prog Tryz.f36.results.toList o36 = true := by decide +kernel

/- wireschema/plan.unordered -/
def g37_0 : List Am.Item := [
    ⟨(some 1), .boxN 1 (.t 0), none⟩,
    ⟨(some 2), .val (.mov (.c (.bool false))), none⟩]
def g37_1 : List Am.Item := [
    ⟨(some 3), .val (.faddr 0 (.t 1)), none⟩,
    ⟨(some 4), .val (.load none (.t 3)), none⟩,
    ⟨(some 5), .callF (.f 81) [(.t 4), (.f 82)], none⟩,
    ⟨(some 6), .val (.un .not (.t 5)), none⟩,
    ⟨(some 7), .val (.mov (.t 6)), none⟩,
    ⟨(some 8), .val (.faddr 1 (.t 1)), (some (7, false))⟩,
    ⟨(some 9), .val (.load none (.t 8)), (some (7, false))⟩,
    ⟨(some 10), .callF (.f 83) [(.t 9), (.f 84)], (some (7, false))⟩,
    ⟨(some 11), .val (.un .not (.t 10)), (some (7, false))⟩,
    ⟨(some 12), .val (.pick (.t 7) (.c (.bool true)) (.t 11)), none⟩,
    ⟨(some 13), .val (.mov (.t 12)), none⟩,
    ⟨(some 14), .val (.faddr 0 (.t 1)), (some (13, false))⟩,
    ⟨(some 15), .val (.load none (.t 14)), (some (13, false))⟩,
    ⟨(some 16), .callF (.f 69) [(.t 15), (.f 85)], (some (13, false))⟩,
    ⟨(some 17), .val (.pick (.t 13) (.c (.bool true)) (.t 16)), none⟩,
    ⟨(some 18), .val (.mov (.t 17)), none⟩,
    ⟨(some 19), .val (.faddr 1 (.t 1)), (some (18, false))⟩,
    ⟨(some 20), .val (.load none (.t 19)), (some (18, false))⟩,
    ⟨(some 21), .callF (.f 71) [(.t 20), (.f 88)], (some (18, false))⟩,
    ⟨(some 22), .val (.pick (.t 18) (.c (.bool true)) (.t 21)), none⟩,
    ⟨(some 2), .val (.mov (.t 22)), none⟩]
def r37 : RC := .seq (.reg g37_0) (.seq (.reg g37_1) (.ret))
def o37 : List RR := [.tmp 2]
theorem k37 : chkC Tryz.prog 23 r37 (Tryz.f37.body.getD .skip) = true := by decide +kernel
theorem q37 : chkR Tryz.prog Tryz.f37.results.toList o37 = true := by decide +kernel

/- wireschema/plan.twice -/
def g38_0 : List Am.Item := [
    ⟨(some 1), .boxN 1 (.t 0), none⟩,
    ⟨(some 2), .val (.mov (.c (.bool false))), none⟩]
def g38_1 : List Am.Item := [
    ⟨(some 3), .val (.faddr 0 (.t 1)), none⟩,
    ⟨(some 4), .val (.load none (.t 3)), none⟩,
    ⟨(some 5), .val (.mkfn (.func 91) [] [(.t 1)]), none⟩,
    ⟨(some 6), .callF (.f 69) [(.t 4), (.t 5)], none⟩,
    ⟨(some 7), .val (.mov (.t 6)), none⟩,
    ⟨(some 8), .val (.faddr 1 (.t 1)), (some (7, false))⟩,
    ⟨(some 9), .val (.load none (.t 8)), (some (7, false))⟩,
    ⟨(some 10), .callF (.f 71) [(.t 9), (.f 95)], (some (7, false))⟩,
    ⟨(some 11), .val (.pick (.t 7) (.c (.bool true)) (.t 10)), none⟩,
    ⟨(some 2), .val (.mov (.t 11)), none⟩]
def r38 : RC := .seq (.reg g38_0) (.seq (.reg g38_1) (.ret))
def o38 : List RR := [.tmp 2]
theorem k38 : chkC Tryz.prog 12 r38 (Tryz.f38.body.getD .skip) = true := by decide +kernel
theorem q38 : chkR Tryz.prog Tryz.f38.results.toList o38 = true := by decide +kernel

/- wireschema/plan.ranged -/
def g39_0 : List Am.Item := [
    ⟨(some 1), .boxN 1 (.t 0), none⟩,
    ⟨(some 2), .val (.mov (.c (.bool false))), none⟩]
def g39_1 : List Am.Item := [
    ⟨(some 3), .val (.faddr 0 (.t 1)), none⟩,
    ⟨(some 4), .val (.load none (.t 3)), none⟩,
    ⟨(some 5), .callF (.f 69) [(.t 4), (.f 98)], none⟩,
    ⟨(some 6), .val (.mov (.t 5)), none⟩,
    ⟨(some 7), .val (.faddr 1 (.t 1)), (some (6, false))⟩,
    ⟨(some 8), .val (.load none (.t 7)), (some (6, false))⟩,
    ⟨(some 9), .callF (.f 71) [(.t 8), (.f 100)], (some (6, false))⟩,
    ⟨(some 10), .val (.pick (.t 6) (.c (.bool true)) (.t 9)), none⟩,
    ⟨(some 2), .val (.mov (.t 10)), none⟩]
def r39 : RC := .seq (.reg g39_0) (.seq (.reg g39_1) (.ret))
def o39 : List RR := [.tmp 2]
theorem k39 : chkC Tryz.prog 11 r39 (Tryz.f39.body.getD .skip) = true := by decide +kernel
theorem q39 : chkR Tryz.prog Tryz.f39.results.toList o39 = true := by decide +kernel

/- wireschema/plan.wrong -/
def g40_0 : List Am.Item := [
    ⟨(some 1), .boxN 1 (.t 0), none⟩,
    ⟨(some 2), .val (.mov (.c (.bool false))), none⟩]
def g40_1 : List Am.Item := [
    ⟨(some 3), .val (.faddr 0 (.t 1)), none⟩,
    ⟨(some 4), .val (.load none (.t 3)), none⟩,
    ⟨(some 5), .val (.mkfn (.func 101) [] [(.t 1)]), none⟩,
    ⟨(some 6), .callF (.f 69) [(.t 4), (.t 5)], none⟩,
    ⟨(some 7), .val (.mov (.t 6)), none⟩,
    ⟨(some 8), .val (.faddr 1 (.t 1)), (some (7, false))⟩,
    ⟨(some 9), .val (.load none (.t 8)), (some (7, false))⟩,
    ⟨(some 10), .callF (.f 71) [(.t 9), (.f 107)], (some (7, false))⟩,
    ⟨(some 11), .val (.pick (.t 7) (.c (.bool true)) (.t 10)), none⟩,
    ⟨(some 2), .val (.mov (.t 11)), none⟩]
def r40 : RC := .seq (.reg g40_0) (.seq (.reg g40_1) (.ret))
def o40 : List RR := [.tmp 2]
theorem k40 : chkC Tryz.prog 12 r40 (Tryz.f40.body.getD .skip) = true := by decide +kernel
theorem q40 : chkR Tryz.prog Tryz.f40.results.toList o40 = true := by decide +kernel

/- wireschema/plan.endless -/
def g41_0 : List Am.Item := [
    ⟨(some 1), .boxN 1 (.t 0), none⟩,
    ⟨(some 2), .val (.mov (.c (.bool false))), none⟩]
def g41_1 : List Am.Item := [
    ⟨(some 6), .val (.faddr 0 (.t 1)), none⟩,
    ⟨(some 7), .val (.load none (.t 6)), none⟩,
    ⟨(some 8), .val (.len 1 (.t 7)), none⟩,
    ⟨(some 9), .mk 9 4 1 1 [.bool false] (.t 8) (.t 8), none⟩,
    ⟨(some 3), .allocN 3 [.nils], none⟩,
    ⟨none, .store 1 (.t 3) (.t 9), none⟩]
def g41_2 : List Am.Item := [
    ⟨(some 10), .val (.faddr 0 (.t 1)), none⟩,
    ⟨(some 11), .val (.load none (.t 10)), none⟩,
    ⟨(some 12), .val (.len 1 (.t 11)), none⟩,
    ⟨(some 13), .val (.mov (.c (.int .i64 0))), none⟩]
def g41_3 : List Am.Item := [
    ⟨(some 14), .val (.bin .num .lss (.t 13) (.t 12)), none⟩]
def g41_4 : List Am.Item := [
    ⟨(some 15), .val (.faddr 0 (.t 1)), none⟩,
    ⟨(some 16), .val (.load none (.t 15)), none⟩,
    ⟨(some 17), .val (.len 1 (.t 16)), none⟩,
    ⟨(some 18), .val (.mov (.c (.int .i64 0))), none⟩]
def g41_5 : List Am.Item := [
    ⟨(some 19), .val (.bin .num .lss (.t 18) (.t 17)), none⟩]
def g41_6 : List Am.Item := [
    ⟨(some 20), .val (.mov (.t 18)), none⟩,
    ⟨(some 21), .val (.iaddr 3 none (.t 16) (.t 18)), none⟩,
    ⟨(some 22), .val (.load (some 3) (.t 21)), none⟩,
    ⟨(some 5), .allocN 5 [.str [], .nils, .int .i64 0], none⟩,
    ⟨(some 4), .val (.mov (.t 20)), none⟩,
    ⟨none, .store 3 (.t 5) (.t 22), none⟩]
def g41_7 : List Am.Item := [
    ⟨(some 23), .val (.loadv 0 3 none (.t 3)), none⟩,
    ⟨(some 24), .val (.mov (.t 4)), none⟩,
    ⟨(some 25), .val (.loadv 0 3 none (.t 3)), none⟩,
    ⟨(some 26), .val (.mov (.t 4)), none⟩,
    ⟨(some 27), .val (.iaddr 1 none (.t 25) (.t 26)), none⟩,
    ⟨(some 28), .val (.loadr none (.t 27)), none⟩,
    ⟨(some 29), .val (.mov (.t 28)), none⟩,
    ⟨(some 30), .val (.faddr 1 (.t 5)), (some (29, false))⟩,
    ⟨(some 31), .val (.loadv 0 5 none (.t 30)), (some (29, false))⟩,
    ⟨(some 32), .val (.mkfn (.func 110) [] [(.t 3)]), (some (29, false))⟩,
    ⟨(some 33), .callK 0 3 (.f 75) [(.t 31), (.t 32)], (some (29, false))⟩,
    ⟨(some 34), .val (.un .not (.t 33)), (some (29, false))⟩,
    ⟨(some 35), .val (.pick (.t 29) (.c (.bool true)) (.t 34)), none⟩,
    ⟨(some 36), .val (.iaddr 1 none (.t 23) (.t 24)), none⟩,
    ⟨none, .store 1 (.t 36) (.t 35), none⟩]
def g41_8 : List Am.Item := [
    ⟨(some 37), .val (.bin .num .add (.t 18) (.c (.int .i64 1))), none⟩,
    ⟨(some 18), .val (.mov (.t 37)), none⟩]
def l41_0 : RC := .gho (.drop 5) (.seq (.reg g41_5) (.seq (.cond (.t 19) (.skip) (.exit 2)) (.seq (.block 3 (.seq (.reg g41_6) (.draw g41_7))) (.reg g41_8))))
def g41_9 : List Am.Item := [
    ⟨(some 38), .val (.bin .num .add (.t 13) (.c (.int .i64 1))), none⟩,
    ⟨(some 13), .val (.mov (.t 38)), none⟩]
def l41_1 : RC := .gho (.drop 5) (.seq (.reg g41_3) (.seq (.cond (.t 14) (.skip) (.exit 0)) (.seq (.block 1 (.seq (.reg g41_4) (.block 2 (.loop l41_0)))) (.reg g41_9))))
def g41_10 : List Am.Item := [
    ⟨(some 39), .val (.load none (.t 3)), none⟩,
    ⟨(some 40), .call (.f 111) [(.t 39), (.c (.bool false))], none⟩,
    ⟨(some 2), .val (.mov (.t 40)), none⟩]
def r41 : RC := .seq (.reg g41_0) (.seq (.reg g41_1) (.seq (.seq (.reg g41_2) (.block 0 (.loop l41_1))) (.seq (.reg g41_10) (.ret))))
def o41 : List RR := [.tmp 2]
theorem k41 : chkC Tryz.prog 41 r41 (Tryz.f41.body.getD .skip) = true := by decide +kernel
theorem q41 : chkR Tryz.prog Tryz.f41.results.toList o41 = true := by decide +kernel

/- wireschema/plan.other -/
def g42_0 : List Am.Item := [
    ⟨(some 1), .boxN 1 (.t 0), none⟩,
    ⟨(some 2), .val (.mov (.c (.bool false))), none⟩]
def g42_1 : List Am.Item := [
    ⟨(some 4), .val (.faddr 0 (.t 1)), none⟩,
    ⟨(some 5), .val (.load none (.t 4)), none⟩,
    ⟨(some 6), .val (.bin .num .eql (.t 5) (.c (.int .i64 7))), none⟩,
    ⟨(some 7), .val (.mov (.t 6)), none⟩,
    ⟨(some 8), .val (.faddr 0 (.t 1)), (some (7, false))⟩,
    ⟨(some 9), .val (.load none (.t 8)), (some (7, false))⟩,
    ⟨(some 10), .val (.bin .num .eql (.t 9) (.c (.int .i64 8))), (some (7, false))⟩,
    ⟨(some 11), .val (.pick (.t 7) (.c (.bool true)) (.t 10)), none⟩,
    ⟨(some 3), .val (.mov (.t 11)), none⟩]
def g42_2 : List Am.Item := [
    ⟨(some 12), .val (.faddr 0 (.t 1)), none⟩,
    ⟨(some 13), .val (.load none (.t 12)), none⟩,
    ⟨(some 14), .val (.bin .num .neq (.t 13) (.c (.int .i64 11))), none⟩,
    ⟨(some 15), .val (.mov (.t 14)), none⟩,
    ⟨(some 16), .val (.faddr 3 (.t 1)), (some (15, true))⟩,
    ⟨(some 17), .val (.load none (.t 16)), (some (15, true))⟩,
    ⟨(some 18), .val (.len 1 (.t 17)), (some (15, true))⟩,
    ⟨(some 19), .val (.bin .num .gtr (.t 18) (.c (.int .i64 0))), (some (15, true))⟩,
    ⟨(some 20), .val (.pick (.t 15) (.t 19) (.c (.bool false))), none⟩,
    ⟨(some 21), .val (.mov (.t 20)), none⟩,
    ⟨(some 22), .val (.faddr 0 (.t 1)), (some (21, false))⟩,
    ⟨(some 23), .val (.load none (.t 22)), (some (21, false))⟩,
    ⟨(some 24), .val (.bin .num .neq (.t 23) (.c (.int .i64 12))), (some (21, false))⟩,
    ⟨(some 25), .val (.mov (.t 24)), (some (21, false))⟩,
    ⟨(some 26), .val (.faddr 4 (.t 1)), (some (25, true))⟩,
    ⟨(some 27), .val (.load none (.t 26)), (some (25, true))⟩,
    ⟨(some 28), .val (.len 1 (.t 27)), (some (25, true))⟩,
    ⟨(some 29), .val (.bin .num .gtr (.t 28) (.c (.int .i64 0))), (some (25, true))⟩,
    ⟨(some 30), .val (.pick (.t 25) (.t 29) (.c (.bool false))), (some (21, false))⟩,
    ⟨(some 31), .val (.pick (.t 21) (.c (.bool true)) (.t 30)), none⟩,
    ⟨(some 32), .val (.mov (.t 31)), none⟩,
    ⟨(some 33), .val (.faddr 0 (.t 1)), (some (32, false))⟩,
    ⟨(some 34), .val (.load none (.t 33)), (some (32, false))⟩,
    ⟨(some 35), .val (.bin .num .neq (.t 34) (.c (.int .i64 10))), (some (32, false))⟩,
    ⟨(some 36), .val (.mov (.t 35)), (some (32, false))⟩,
    ⟨(some 37), .val (.faddr 5 (.t 1)), (some (36, true))⟩,
    ⟨(some 38), .val (.load none (.t 37)), (some (36, true))⟩,
    ⟨(some 39), .val (.len 1 (.t 38)), (some (36, true))⟩,
    ⟨(some 40), .val (.faddr 6 (.t 1)), (some (36, true))⟩,
    ⟨(some 41), .val (.load none (.t 40)), (some (36, true))⟩,
    ⟨(some 42), .val (.len 1 (.t 41)), (some (36, true))⟩,
    ⟨(some 43), .val (.bin .num .add (.t 39) (.t 42)), (some (36, true))⟩,
    ⟨(some 44), .val (.bin .num .gtr (.t 43) (.c (.int .i64 0))), (some (36, true))⟩,
    ⟨(some 45), .val (.pick (.t 36) (.t 44) (.c (.bool false))), (some (32, false))⟩,
    ⟨(some 46), .val (.pick (.t 32) (.c (.bool true)) (.t 45)), none⟩,
    ⟨(some 47), .val (.mov (.t 46)), none⟩,
    ⟨(some 48), .val (.faddr 1 (.t 1)), (some (47, false))⟩,
    ⟨(some 49), .val (.load none (.t 48)), (some (47, false))⟩,
    ⟨(some 50), .val (.bin .num .neq (.t 49) (.c (.int .u64 0))), (some (47, false))⟩,
    ⟨(some 51), .val (.mov (.t 50)), (some (47, false))⟩,
    ⟨(some 52), .val (.mov (.t 3)), (some (51, true))⟩,
    ⟨(some 53), .val (.mov (.t 52)), (some (51, true))⟩,
    ⟨(some 54), .val (.faddr 0 (.t 1)), (some (53, false))⟩,
    ⟨(some 55), .val (.load none (.t 54)), (some (53, false))⟩,
    ⟨(some 56), .val (.bin .num .geq (.t 55) (.c (.int .i64 10))), (some (53, false))⟩,
    ⟨(some 57), .val (.mov (.t 56)), (some (53, false))⟩,
    ⟨(some 58), .val (.faddr 0 (.t 1)), (some (57, true))⟩,
    ⟨(some 59), .val (.load none (.t 58)), (some (57, true))⟩,
    ⟨(some 60), .val (.bin .num .leq (.t 59) (.c (.int .i64 12))), (some (57, true))⟩,
    ⟨(some 61), .val (.pick (.t 57) (.t 60) (.c (.bool false))), (some (53, false))⟩,
    ⟨(some 62), .val (.pick (.t 53) (.c (.bool true)) (.t 61)), (some (51, true))⟩,
    ⟨(some 63), .val (.pick (.t 51) (.t 62) (.c (.bool false))), (some (47, false))⟩,
    ⟨(some 64), .val (.pick (.t 47) (.c (.bool true)) (.t 63)), none⟩,
    ⟨(some 65), .val (.mov (.t 64)), none⟩,
    ⟨(some 66), .val (.faddr 2 (.t 1)), (some (65, false))⟩,
    ⟨(some 67), .val (.load none (.t 66)), (some (65, false))⟩,
    ⟨(some 68), .val (.bin .str .neq (.t 67) (.c (.str []))), (some (65, false))⟩,
    ⟨(some 69), .val (.mov (.t 68)), (some (65, false))⟩,
    ⟨(some 70), .val (.mov (.t 3)), (some (69, true))⟩,
    ⟨(some 71), .val (.un .not (.t 70)), (some (69, true))⟩,
    ⟨(some 72), .val (.pick (.t 69) (.t 71) (.c (.bool false))), (some (65, false))⟩,
    ⟨(some 73), .val (.pick (.t 65) (.c (.bool true)) (.t 72)), none⟩,
    ⟨(some 2), .val (.mov (.t 73)), none⟩]
def r42 : RC := .seq (.reg g42_0) (.seq (.reg g42_1) (.seq (.reg g42_2) (.ret)))
def o42 : List RR := [.tmp 2]
theorem k42 : chkC Tryz.prog 74 r42 (Tryz.f42.body.getD .skip) = true := by decide +kernel
theorem q42 : chkR Tryz.prog Tryz.f42.results.toList o42 = true := by decide +kernel

/- (wireschema/plan.examiner).slot -/
def g43_0 : List Am.Item := [
    ⟨(some 5), .boxN 5 (.t 0), none⟩,
    ⟨(some 6), .boxN 6 (.t 1), none⟩,
    ⟨(some 10), .val (.mov (.c (.int .i64 0))), none⟩]
def g43_1 : List Am.Item := [
    ⟨(some 18), .val (.loadv 0 6 (some 3) (.t 6)), none⟩,
    ⟨(some 19), .val (.mov (.t 2)), none⟩,
    ⟨(some 20), .val (.mov (.t 3)), none⟩,
    ⟨(some 21), .val (.iaddr 8 none (.t 19) (.t 20)), none⟩,
    ⟨(some 22), .val (.faddr 0 (.t 21)), none⟩,
    ⟨(some 23), .val (.loadr none (.t 22)), none⟩,
    ⟨(some 24), .call (.f 33) [(.t 18), (.t 23)], none⟩,
    ⟨(some 17), .val (.mov (.t 24)), none⟩,
    ⟨(some 25), .val (.ext (.t 17) 0), none⟩,
    ⟨(some 26), .val (.ext (.t 17) 1), none⟩,
    ⟨(some 11), .allocN 11 [.int .i64 0, .str [], .str [], .int .i64 0, .int .i64 0, .int .i64 0, .int .i64 0, .int .i64 0], none⟩,
    ⟨none, .storev 0 11 8 (.t 11) (.t 25), none⟩,
    ⟨(some 12), .val (.mov (.t 26)), none⟩]
def g43_2 : List Am.Item := [
    ⟨(some 27), .val (.mov (.t 12)), none⟩,
    ⟨(some 28), .val (.un .not (.t 27)), none⟩]
def g43_3 : List Am.Item := [
    ⟨(some 10), .val (.mov (.c (.int .i64 8))), none⟩]
def g43_4 : List Am.Item := [
    ⟨(some 29), .val (.mov (.t 2)), none⟩,
    ⟨(some 30), .val (.mov (.t 3)), none⟩,
    ⟨(some 31), .val (.slc (some 8) (.t 29) none (some (.t 30)) none), none⟩,
    ⟨(some 32), .val (.mkfn (.func 112) [] [(.t 11)]), none⟩,
    ⟨(some 33), .callF (.f 44) [(.t 31), (.t 32)], none⟩]
def g43_5 : List Am.Item := [
    ⟨(some 10), .val (.mov (.c (.int .i64 9))), none⟩]
def g43_6 : List Am.Item := [
    ⟨(some 34), .val (.mov (.t 2)), none⟩,
    ⟨(some 35), .val (.mov (.t 3)), none⟩,
    ⟨(some 36), .val (.slc (some 8) (.t 34) none (some (.t 35)) none), none⟩,
    ⟨(some 37), .val (.len 1 (.t 36)), none⟩,
    ⟨(some 38), .val (.mov (.c (.int .i64 0))), none⟩]
def g43_7 : List Am.Item := [
    ⟨(some 39), .val (.bin .num .lss (.t 38) (.t 37)), none⟩]
def g43_8 : List Am.Item := [
    ⟨(some 40), .val (.iaddr 8 none (.t 36) (.t 38)), none⟩,
    ⟨(some 41), .val (.load (some 8) (.t 40)), none⟩,
    ⟨(some 14), .allocN 14 [.int .i64 0, .int .i64 0, .int .u64 0, .str [], .nils, .nils, .nils, .nils], none⟩,
    ⟨none, .store 8 (.t 14) (.t 41), none⟩]
def g43_9 : List Am.Item := [
    ⟨(some 43), .val (.load (some 3) (.t 6)), none⟩,
    ⟨(some 44), .val (.faddr 0 (.t 14)), none⟩,
    ⟨(some 45), .val (.load none (.t 44)), none⟩,
    ⟨(some 46), .call (.f 33) [(.t 43), (.t 45)], none⟩,
    ⟨(some 42), .val (.mov (.t 46)), none⟩,
    ⟨(some 47), .val (.ext (.t 42) 0), none⟩,
    ⟨(some 48), .val (.ext (.t 42) 1), none⟩,
    ⟨(some 15), .allocN 15 [.int .i64 0, .str [], .str [], .int .i64 0, .int .i64 0, .int .i64 0, .int .i64 0, .int .i64 0], none⟩,
    ⟨none, .store 8 (.t 15) (.t 47), none⟩,
    ⟨(some 16), .val (.mov (.t 48)), none⟩]
def g43_10 : List Am.Item := [
    ⟨(some 49), .val (.faddr 7 (.t 11)), none⟩,
    ⟨(some 50), .val (.load none (.t 49)), none⟩,
    ⟨(some 51), .val (.bin .num .neq (.t 50) (.c (.int .i64 (-1)))), none⟩,
    ⟨(some 52), .val (.mov (.t 51)), none⟩,
    ⟨(some 53), .val (.faddr 7 (.t 15)), (some (52, true))⟩,
    ⟨(some 54), .val (.load none (.t 53)), (some (52, true))⟩,
    ⟨(some 55), .val (.faddr 7 (.t 11)), (some (52, true))⟩,
    ⟨(some 56), .val (.load none (.t 55)), (some (52, true))⟩,
    ⟨(some 57), .val (.bin .num .eql (.t 54) (.t 56)), (some (52, true))⟩,
    ⟨(some 58), .val (.pick (.t 52) (.t 57) (.c (.bool false))), none⟩]
def g43_11 : List Am.Item := [
    ⟨(some 10), .val (.mov (.c (.int .i64 15))), none⟩]
def g43_12 : List Am.Item := [
    ⟨(some 59), .val (.bin .num .add (.t 38) (.c (.int .i64 1))), none⟩,
    ⟨(some 38), .val (.mov (.t 59)), none⟩]
def l43_0 : RC := .gho (.drop 15) (.gho (.drop 14) (.seq (.reg g43_7) (.seq (.cond (.t 39) (.skip) (.exit 0)) (.seq (.block 1 (.seq (.reg g43_8) (.seq (.reg g43_9) (.seq (.reg g43_10) (.cond (.t 58) (.seq (.reg g43_11) (.ret)) (.skip)))))) (.reg g43_12)))))
def g43_13 : List Am.Item := [
    ⟨(some 60), .val (.loadv 0 5 (some 2) (.t 5)), none⟩,
    ⟨(some 61), .val (.loadv 0 11 (some 8) (.t 11)), none⟩,
    ⟨(some 62), .val (.mov (.t 2)), none⟩,
    ⟨(some 63), .val (.mov (.t 3)), none⟩,
    ⟨(some 64), .val (.iaddr 8 none (.t 62) (.t 63)), none⟩,
    ⟨(some 65), .val (.faddr 1 (.t 64)), none⟩,
    ⟨(some 66), .val (.loadr (some 7) (.t 65)), none⟩,
    ⟨(some 67), .val (.mov (.t 4)), none⟩,
    ⟨(some 68), .call (.f 113) [(.t 60), (.t 61), (.t 66), (.t 67)], none⟩,
    ⟨(some 10), .val (.mov (.t 68)), none⟩]
def r43 : RC := .seq (.reg g43_0) (.seq (.draw g43_1) (.seq (.seq (.reg g43_2) (.cond (.t 28) (.seq (.reg g43_3) (.ret)) (.skip))) (.seq (.seq (.reg g43_4) (.cond (.t 33) (.seq (.reg g43_5) (.ret)) (.skip))) (.seq (.seq (.reg g43_6) (.block 0 (.loop l43_0))) (.seq (.draw g43_13) (.ret))))))
def o43 : List RR := [.tmp 10]
theorem k43 : chkC Tryz.prog 69 r43 (Tryz.f43.body.getD .skip) = true := by decide +kernel
theorem q43 : chkR Tryz.prog Tryz.f43.results.toList o43 = true := by decide +kernel

/- slices.ContainsFunc[[]wireschema/api.Slot,wireschema/api.Slot] -/
def g44_0 : List Am.Item := [
    ⟨(some 4), .val (.mov (.c (.bool false))), none⟩]
def g44_1 : List Am.Item := [
    ⟨(some 5), .val (.mov (.t 0)), none⟩,
    ⟨(some 6), .val (.mov (.t 1)), none⟩,
    ⟨(some 7), .callF (.f 114) [(.t 5), (.t 6)], none⟩,
    ⟨(some 8), .val (.bin .num .geq (.t 7) (.c (.int .i64 0))), none⟩,
    ⟨(some 4), .val (.mov (.t 8)), none⟩]
def r44 : RC := .seq (.reg g44_0) (.seq (.reg g44_1) (.ret))
def o44 : List RR := [.tmp 4]
theorem k44 : chkC Tryz.prog 9 r44 (Tryz.f44.body.getD .skip) = true := by decide +kernel
theorem q44 : chkR Tryz.prog Tryz.f44.results.toList o44 = true := by decide +kernel

/- wireschema/value.inner -/
def g47_0 : List Am.Item := [
    ⟨(some 1), .boxN 1 (.t 0), none⟩,
    ⟨(some 2), .val (.mov (.c (.nils))), none⟩]
def g47_1 : List Am.Item := [
    ⟨(some 8), .val (.faddr 3 (.t 1)), none⟩,
    ⟨(some 9), .val (.load none (.t 8)), none⟩,
    ⟨(some 10), .callF (.f 116) [(.t 9)], none⟩,
    ⟨(some 3), .val (.mov (.t 10)), none⟩]
def g47_2 : List Am.Item := [
    ⟨(some 11), .val (.faddr 4 (.t 1)), none⟩,
    ⟨(some 12), .val (.load none (.t 11)), none⟩,
    ⟨(some 13), .val (.len 1 (.t 12)), none⟩,
    ⟨(some 14), .val (.mov (.c (.int .i64 0))), none⟩]
def g47_3 : List Am.Item := [
    ⟨(some 15), .val (.bin .num .lss (.t 14) (.t 13)), none⟩]
def g47_4 : List Am.Item := [
    ⟨(some 16), .val (.iaddr 14 none (.t 12) (.t 14)), none⟩,
    ⟨(some 17), .val (.load (some 14) (.t 16)), none⟩,
    ⟨(some 5), .allocN 5 [.int .i64 0, .int .u64 0, .str [], .nils, .nils, .nils, .nils, .int .i64 0, .int .u64 0, .str [], .nils, .nils, .nils, .nils], none⟩,
    ⟨none, .store 14 (.t 5) (.t 17), none⟩]
def g47_5 : List Am.Item := [
    ⟨(some 18), .val (.mov (.t 3)), none⟩,
    ⟨(some 19), .val (.faddr 0 (.t 5)), none⟩,
    ⟨(some 20), .val (.load (some 7) (.t 19)), none⟩,
    ⟨(some 21), .val (.faddr 7 (.t 5)), none⟩,
    ⟨(some 22), .val (.load (some 7) (.t 21)), none⟩,
    ⟨(some 23), .bsl 7 2 [.int .i64 0, .int .u64 0, .str [], .nils, .nils, .nils, .nils] [(0, 7, (.t 20)), (7, 7, (.t 22))], none⟩,
    ⟨(some 24), .app 7 128 28 (.t 18) (.t 23), none⟩,
    ⟨(some 3), .val (.mov (.t 24)), none⟩]
def g47_6 : List Am.Item := [
    ⟨(some 25), .val (.bin .num .add (.t 14) (.c (.int .i64 1))), none⟩,
    ⟨(some 14), .val (.mov (.t 25)), none⟩]
def l47_0 : RC := .gho (.drop 5) (.seq (.reg g47_3) (.seq (.cond (.t 15) (.skip) (.exit 0)) (.seq (.block 1 (.seq (.reg g47_4) (.reg g47_5))) (.reg g47_6))))
def g47_7 : List Am.Item := [
    ⟨(some 26), .val (.faddr 5 (.t 1)), none⟩,
    ⟨(some 27), .val (.load none (.t 26)), none⟩,
    ⟨(some 28), .val (.len 1 (.t 27)), none⟩,
    ⟨(some 29), .val (.mov (.c (.int .i64 0))), none⟩]
def g47_8 : List Am.Item := [
    ⟨(some 30), .val (.bin .num .lss (.t 29) (.t 28)), none⟩]
def g47_9 : List Am.Item := [
    ⟨(some 31), .val (.iaddr 8 none (.t 27) (.t 29)), none⟩,
    ⟨(some 32), .val (.load (some 8) (.t 31)), none⟩,
    ⟨(some 7), .allocN 7 [.int .i64 0, .int .i64 0, .int .u64 0, .str [], .nils, .nils, .nils, .nils], none⟩,
    ⟨none, .store 8 (.t 7) (.t 32), none⟩]
def g47_10 : List Am.Item := [
    ⟨(some 33), .val (.mov (.t 3)), none⟩,
    ⟨(some 34), .val (.faddr 1 (.t 7)), none⟩,
    ⟨(some 35), .val (.load (some 7) (.t 34)), none⟩,
    ⟨(some 36), .bsl 7 1 [.int .i64 0, .int .u64 0, .str [], .nils, .nils, .nils, .nils] [(0, 7, (.t 35))], none⟩,
    ⟨(some 37), .app 7 128 28 (.t 33) (.t 36), none⟩,
    ⟨(some 3), .val (.mov (.t 37)), none⟩]
def g47_11 : List Am.Item := [
    ⟨(some 38), .val (.bin .num .add (.t 29) (.c (.int .i64 1))), none⟩,
    ⟨(some 29), .val (.mov (.t 38)), none⟩]
def l47_1 : RC := .gho (.drop 7) (.seq (.reg g47_8) (.seq (.cond (.t 30) (.skip) (.exit 2)) (.seq (.block 3 (.seq (.reg g47_9) (.reg g47_10))) (.reg g47_11))))
def g47_12 : List Am.Item := [
    ⟨(some 39), .val (.mov (.t 3)), none⟩,
    ⟨(some 2), .val (.mov (.t 39)), none⟩]
def r47 : RC := .seq (.reg g47_0) (.seq (.reg g47_1) (.seq (.seq (.reg g47_2) (.block 0 (.loop l47_0))) (.seq (.seq (.reg g47_7) (.block 2 (.loop l47_1))) (.seq (.reg g47_12) (.ret)))))
def o47 : List RR := [.tmp 2]
theorem k47 : chkC Tryz.prog 40 r47 (Tryz.f47.body.getD .skip) = true := by decide +kernel
theorem q47 : chkR Tryz.prog Tryz.f47.results.toList o47 = true := by decide +kernel

/- slices.Clone[[]wireschema/api.Raw,wireschema/api.Raw] -/
def g48_0 : List Am.Item := [
    ⟨(some 2), .val (.mov (.c (.nils))), none⟩]
def g48_1 : List Am.Item := [
    ⟨(some 3), .val (.mov (.t 0)), none⟩,
    ⟨(some 4), .isnil false (.t 3), none⟩]
def g48_2 : List Am.Item := [
    ⟨(some 2), .val (.mov (.c (.nils))), none⟩]
def g48_3 : List Am.Item := [
    ⟨(some 5), .bsl0 5 4, none⟩,
    ⟨(some 6), .val (.mov (.t 0)), none⟩,
    ⟨(some 7), .app 4 40 33 (.t 5) (.t 6), none⟩,
    ⟨(some 2), .val (.mov (.t 7)), none⟩]
def r48 : RC := .seq (.reg g48_0) (.seq (.seq (.reg g48_1) (.cond (.t 4) (.seq (.reg g48_2) (.gho (.vec 2 2 4) (.gho (.give 2 2 1 1000) (.ret)))) (.skip))) (.seq (.reg g48_3) (.gho (.give 2 5 1 1000) (.ret))))
def o48 : List RR := [.tmp 2]
theorem k48 : chkC Tryz.prog 8 r48 (Tryz.f48.body.getD .skip) = true := by decide +kernel
theorem q48 : chkR Tryz.prog Tryz.f48.results.toList o48 = true := by decide +kernel

/- wireschema/order.Slots -/
def g49_0 : List Am.Item := [
    ⟨(some 2), .val (.mov (.c (.nils))), none⟩]
def g49_1 : List Am.Item := [
    ⟨(some 7), .val (.mov (.t 0)), none⟩,
    ⟨(some 8), .callF (.f 117) [(.t 7)], none⟩,
    ⟨(some 3), .val (.mov (.t 8)), none⟩]
def g49_2 : List Am.Item := [
    ⟨(some 9), .val (.mov (.t 3)), none⟩,
    ⟨(some 10), .callF (.f 118) [(.t 9), (.f 119)], none⟩]
def g49_3 : List Am.Item := [
    ⟨(some 4), .val (.mov (.c (.nils))), none⟩]
def g49_4 : List Am.Item := [
    ⟨(some 11), .val (.mov (.t 3)), none⟩,
    ⟨(some 12), .val (.len 1 (.t 11)), none⟩,
    ⟨(some 13), .val (.mov (.c (.int .i64 0))), none⟩]
def g49_5 : List Am.Item := [
    ⟨(some 14), .val (.bin .num .lss (.t 13) (.t 12)), none⟩]
def g49_6 : List Am.Item := [
    ⟨(some 15), .val (.mov (.t 13)), none⟩,
    ⟨(some 16), .val (.iaddr 8 none (.t 11) (.t 13)), none⟩,
    ⟨(some 17), .val (.load (some 8) (.t 16)), none⟩,
    ⟨(some 6), .allocN 6 [.int .i64 0, .int .i64 0, .int .u64 0, .str [], .nils, .nils, .nils, .nils], none⟩,
    ⟨(some 5), .val (.mov (.t 15)), none⟩,
    ⟨none, .store 8 (.t 6) (.t 17), none⟩]
def g49_7 : List Am.Item := [
    ⟨(some 18), .val (.mov (.t 5)), none⟩,
    ⟨(some 19), .val (.bin .num .add (.t 18) (.c (.int .i64 1))), none⟩,
    ⟨(some 20), .val (.mov (.t 3)), none⟩,
    ⟨(some 21), .val (.len 1 (.t 20)), none⟩,
    ⟨(some 22), .val (.bin .num .eql (.t 19) (.t 21)), none⟩,
    ⟨(some 23), .val (.mov (.t 22)), none⟩,
    ⟨(some 24), .val (.faddr 0 (.t 6)), (some (23, false))⟩,
    ⟨(some 25), .val (.loadv 0 6 none (.t 24)), (some (23, false))⟩,
    ⟨(some 26), .val (.mov (.t 3)), (some (23, false))⟩,
    ⟨(some 27), .val (.mov (.t 5)), (some (23, false))⟩,
    ⟨(some 28), .val (.bin .num .add (.t 27) (.c (.int .i64 1))), (some (23, false))⟩,
    ⟨(some 29), .val (.iaddr 8 none (.t 26) (.t 28)), (some (23, false))⟩,
    ⟨(some 30), .val (.faddr 0 (.t 29)), (some (23, false))⟩,
    ⟨(some 31), .val (.loadr none (.t 30)), (some (23, false))⟩,
    ⟨(some 32), .val (.bin .num .neq (.t 25) (.t 31)), (some (23, false))⟩,
    ⟨(some 33), .val (.pick (.t 23) (.c (.bool true)) (.t 32)), none⟩]
def g49_8 : List Am.Item := [
    ⟨(some 34), .val (.mov (.t 4)), none⟩,
    ⟨(some 35), .val (.load (some 8) (.t 6)), none⟩,
    ⟨(some 36), .bsl 8 1 [.int .i64 0, .int .i64 0, .int .u64 0, .str [], .nils, .nils, .nils, .nils] [(0, 8, (.t 35))], none⟩,
    ⟨(some 37), .app 8 136 38 (.t 34) (.t 36), none⟩,
    ⟨(some 4), .val (.mov (.t 37)), none⟩]
def g49_9 : List Am.Item := [
    ⟨(some 38), .val (.bin .num .add (.t 13) (.c (.int .i64 1))), none⟩,
    ⟨(some 13), .val (.mov (.t 38)), none⟩]
def l49_0 : RC := .gho (.drop 6) (.seq (.reg g49_5) (.seq (.cond (.t 14) (.skip) (.exit 0)) (.seq (.block 1 (.seq (.reg g49_6) (.seq (.draw g49_7) (.cond (.t 33) (.reg g49_8) (.skip))))) (.reg g49_9))))
def g49_10 : List Am.Item := [
    ⟨(some 39), .val (.mov (.t 4)), none⟩,
    ⟨(some 2), .val (.mov (.t 39)), none⟩]
def r49 : RC := .seq (.reg g49_0) (.seq (.reg g49_1) (.seq (.reg g49_2) (.seq (.reg g49_3) (.gho (.vec 4 4 8) (.seq (.seq (.reg g49_4) (.block 0 (.loop l49_0))) (.seq (.reg g49_10) (.ret)))))))
def o49 : List RR := [.tmp 2]
theorem k49 : chkC Tryz.prog 40 r49 (Tryz.f49.body.getD .skip) = true := by decide +kernel
theorem q49 : chkR Tryz.prog Tryz.f49.results.toList o49 = true := by decide +kernel

/- wireschema/plan.normField -/
def g50_0 : List Am.Item := [
    ⟨(some 3), .boxN 3 (.t 0), none⟩,
    ⟨(some 4), .boxN 4 (.t 1), none⟩,
    ⟨(some 5), .boxN 5 (.t 2), none⟩,
    ⟨(some 6), .allocN 6 [.int .i64 0, .int .u64 0, .str [], .nils, .nils, .nils, .nils], none⟩]
def g50_1 : List Am.Item := [
    ⟨(some 13), .val (.faddr 3 (.t 4)), none⟩,
    ⟨(some 14), .val (.load none (.t 13)), none⟩]
def g50_2 : List Am.Item := [
    ⟨(some 16), .val (.bin .num .eql (.t 14) (.c (.int .i64 4))), none⟩,
    ⟨(some 15), .val (.mov (.t 16)), none⟩]
def g50_3 : List Am.Item := [
    ⟨(some 17), .val (.build [.int .i64 0, .int .u64 0, .str [], .nils, .nils, .nils, .nils] [(0, 1, (.c (.int .i64 11)))]), none⟩,
    ⟨(some 7), .allocN 7 [.int .i64 0, .int .u64 0, .str [], .nils, .nils, .nils, .nils], none⟩,
    ⟨none, .store 7 (.t 7) (.t 17), none⟩]
def g50_4 : List Am.Item := [
    ⟨(some 18), .val (.faddr 3 (.t 5)), none⟩,
    ⟨(some 19), .val (.load none (.t 18)), none⟩,
    ⟨(some 20), .val (.len 1 (.t 19)), none⟩,
    ⟨(some 21), .val (.mov (.c (.int .i64 0))), none⟩]
def g50_5 : List Am.Item := [
    ⟨(some 22), .val (.bin .num .lss (.t 21) (.t 20)), none⟩]
def g50_6 : List Am.Item := [
    ⟨(some 23), .val (.iaddr 7 none (.t 19) (.t 21)), none⟩,
    ⟨(some 24), .val (.load (some 7) (.t 23)), none⟩,
    ⟨(some 9), .allocN 9 [.int .i64 0, .int .u64 0, .str [], .nils, .nils, .nils, .nils], none⟩,
    ⟨none, .store 7 (.t 9) (.t 24), none⟩]
def g50_7 : List Am.Item := [
    ⟨(some 25), .val (.faddr 3 (.t 7)), none⟩,
    ⟨(some 26), .val (.loadv 0 7 none (.t 25)), none⟩,
    ⟨(some 27), .val (.loadv 0 3 (some 2) (.t 3)), none⟩,
    ⟨(some 28), .val (.loadv 0 4 (some 8) (.t 4)), none⟩,
    ⟨(some 29), .val (.loadv 0 9 (some 7) (.t 9)), none⟩,
    ⟨(some 30), .call (.f 120) [(.t 27), (.t 28), (.t 29)], none⟩,
    ⟨(some 31), .bsl 7 1 [.int .i64 0, .int .u64 0, .str [], .nils, .nils, .nils, .nils] [(0, 7, (.t 30))], none⟩,
    ⟨(some 32), .app 7 128 28 (.t 26) (.t 31), none⟩,
    ⟨(some 33), .val (.faddr 3 (.t 7)), none⟩,
    ⟨none, .storev 0 7 1 (.t 33) (.t 32), none⟩]
def g50_8 : List Am.Item := [
    ⟨(some 34), .val (.bin .num .add (.t 21) (.c (.int .i64 1))), none⟩,
    ⟨(some 21), .val (.mov (.t 34)), none⟩]
def l50_0 : RC := .gho (.drop 9) (.seq (.reg g50_5) (.seq (.cond (.t 22) (.skip) (.exit 1)) (.seq (.block 2 (.seq (.reg g50_6) (.draw g50_7))) (.reg g50_8))))
def g50_9 : List Am.Item := [
    ⟨(some 35), .val (.load (some 7) (.t 7)), none⟩,
    ⟨none, .store 7 (.t 6) (.t 35), none⟩]
def g50_10 : List Am.Item := [
    ⟨(some 37), .val (.bin .num .eql (.t 14) (.c (.int .i64 5))), none⟩,
    ⟨(some 36), .val (.mov (.t 37)), none⟩]
def g50_11 : List Am.Item := [
    ⟨(some 38), .val (.build [.int .i64 0, .int .u64 0, .str [], .nils, .nils, .nils, .nils] [(0, 1, (.c (.int .i64 12)))]), none⟩,
    ⟨(some 10), .allocN 10 [.int .i64 0, .int .u64 0, .str [], .nils, .nils, .nils, .nils], none⟩,
    ⟨none, .store 7 (.t 10) (.t 38), none⟩]
def g50_12 : List Am.Item := [
    ⟨(some 39), .val (.faddr 4 (.t 5)), none⟩,
    ⟨(some 40), .val (.load none (.t 39)), none⟩,
    ⟨(some 41), .call (.f 121) [(.t 40)], none⟩,
    ⟨(some 42), .val (.len 1 (.t 41)), none⟩,
    ⟨(some 43), .val (.mov (.c (.int .i64 0))), none⟩]
def g50_13 : List Am.Item := [
    ⟨(some 44), .val (.bin .num .lss (.t 43) (.t 42)), none⟩]
def g50_14 : List Am.Item := [
    ⟨(some 45), .val (.iaddr 14 none (.t 41) (.t 43)), none⟩,
    ⟨(some 46), .val (.load (some 14) (.t 45)), none⟩,
    ⟨(some 12), .allocN 12 [.int .i64 0, .int .u64 0, .str [], .nils, .nils, .nils, .nils, .int .i64 0, .int .u64 0, .str [], .nils, .nils, .nils, .nils], none⟩,
    ⟨none, .store 14 (.t 12) (.t 46), none⟩]
def g50_15 : List Am.Item := [
    ⟨(some 47), .val (.faddr 4 (.t 10)), none⟩,
    ⟨(some 48), .val (.loadv 0 10 none (.t 47)), none⟩,
    ⟨(some 49), .val (.faddr 0 (.t 12)), none⟩,
    ⟨(some 50), .val (.loadv 0 12 (some 7) (.t 49)), none⟩,
    ⟨(some 51), .call (.f 16) [(.t 50)], none⟩,
    ⟨(some 52), .val (.loadv 0 3 (some 2) (.t 3)), none⟩,
    ⟨(some 53), .val (.loadv 0 4 (some 8) (.t 4)), none⟩,
    ⟨(some 54), .val (.faddr 7 (.t 12)), none⟩,
    ⟨(some 55), .val (.loadv 0 12 (some 7) (.t 54)), none⟩,
    ⟨(some 56), .call (.f 120) [(.t 52), (.t 53), (.t 55)], none⟩,
    ⟨(some 57), .val (.build [.int .i64 0, .int .u64 0, .str [], .nils, .nils, .nils, .nils, .int .i64 0, .int .u64 0, .str [], .nils, .nils, .nils, .nils] [(0, 7, (.t 51)), (7, 7, (.t 56))]), none⟩,
    ⟨(some 58), .bsl 14 1 [.int .i64 0, .int .u64 0, .str [], .nils, .nils, .nils, .nils, .int .i64 0, .int .u64 0, .str [], .nils, .nils, .nils, .nils] [(0, 14, (.t 57))], none⟩,
    ⟨(some 59), .app 14 256 53 (.t 48) (.t 58), none⟩,
    ⟨(some 60), .val (.faddr 4 (.t 10)), none⟩,
    ⟨none, .storev 0 10 1 (.t 60) (.t 59), none⟩]
def g50_16 : List Am.Item := [
    ⟨(some 61), .val (.bin .num .add (.t 43) (.c (.int .i64 1))), none⟩,
    ⟨(some 43), .val (.mov (.t 61)), none⟩]
def l50_1 : RC := .gho (.drop 12) (.seq (.reg g50_13) (.seq (.cond (.t 44) (.skip) (.exit 3)) (.seq (.block 4 (.seq (.reg g50_14) (.draw g50_15))) (.reg g50_16))))
def g50_17 : List Am.Item := [
    ⟨(some 62), .val (.load (some 7) (.t 10)), none⟩,
    ⟨none, .store 7 (.t 6) (.t 62), none⟩]
def g50_18 : List Am.Item := [
    ⟨(some 63), .val (.load (some 2) (.t 3)), none⟩,
    ⟨(some 64), .val (.load (some 8) (.t 4)), none⟩,
    ⟨(some 65), .val (.load (some 7) (.t 5)), none⟩,
    ⟨(some 66), .call (.f 120) [(.t 63), (.t 64), (.t 65)], none⟩,
    ⟨none, .store 7 (.t 6) (.t 66), none⟩]
def r50 : RC := .seq (.reg g50_0) (.seq (.seq (.reg g50_1) (.block 0 (.seq (.reg g50_2) (.cond (.t 15) (.seq (.reg g50_3) (.gho (.vecc 7 3 1100 7) (.seq (.seq (.reg g50_4) (.block 1 (.loop l50_0))) (.seq (.reg g50_9) (.ret))))) (.seq (.reg g50_10) (.cond (.t 36) (.seq (.reg g50_11) (.gho (.vecc 10 4 1101 14) (.seq (.seq (.reg g50_12) (.block 3 (.loop l50_1))) (.seq (.reg g50_17) (.ret))))) (.skip))))))) (.seq (.reg g50_18) (.ret)))
def o50 : List RR := [.cell 6 (some 7)]
theorem k50 : chkC Tryz.prog 67 r50 (Tryz.f50.body.getD .skip) = true := by decide +kernel
theorem q50 : chkR Tryz.prog Tryz.f50.results.toList o50 = true := by decide +kernel

/- wireschema/plan.Empty -/
def g51_0 : List Am.Item := [
    ⟨(some 1), .boxN 1 (.t 0), none⟩,
    ⟨(some 2), .val (.mov (.c (.bool false))), none⟩]
def g51_1 : List Am.Item := [
    ⟨(some 3), .val (.faddr 0 (.t 1)), none⟩,
    ⟨(some 4), .val (.load none (.t 3)), none⟩,
    ⟨(some 5), .val (.bin .num .eql (.t 4) (.c (.int .i64 11))), none⟩,
    ⟨(some 6), .val (.mov (.t 5)), none⟩,
    ⟨(some 7), .val (.faddr 3 (.t 1)), (some (6, true))⟩,
    ⟨(some 8), .val (.load none (.t 7)), (some (6, true))⟩,
    ⟨(some 9), .val (.len 1 (.t 8)), (some (6, true))⟩,
    ⟨(some 10), .val (.bin .num .eql (.t 9) (.c (.int .i64 0))), (some (6, true))⟩,
    ⟨(some 11), .val (.pick (.t 6) (.t 10) (.c (.bool false))), none⟩,
    ⟨(some 12), .val (.mov (.t 11)), none⟩,
    ⟨(some 13), .val (.faddr 0 (.t 1)), (some (12, false))⟩,
    ⟨(some 14), .val (.load none (.t 13)), (some (12, false))⟩,
    ⟨(some 15), .val (.bin .num .eql (.t 14) (.c (.int .i64 12))), (some (12, false))⟩,
    ⟨(some 16), .val (.mov (.t 15)), (some (12, false))⟩,
    ⟨(some 17), .val (.faddr 4 (.t 1)), (some (16, true))⟩,
    ⟨(some 18), .val (.load none (.t 17)), (some (16, true))⟩,
    ⟨(some 19), .val (.len 1 (.t 18)), (some (16, true))⟩,
    ⟨(some 20), .val (.bin .num .eql (.t 19) (.c (.int .i64 0))), (some (16, true))⟩,
    ⟨(some 21), .val (.pick (.t 16) (.t 20) (.c (.bool false))), (some (12, false))⟩,
    ⟨(some 22), .val (.pick (.t 12) (.c (.bool true)) (.t 21)), none⟩,
    ⟨(some 23), .val (.mov (.t 22)), none⟩,
    ⟨(some 24), .val (.load (some 7) (.t 1)), (some (23, false))⟩,
    ⟨(some 25), .call (.f 122) [(.t 24)], (some (23, false))⟩,
    ⟨(some 26), .val (.pick (.t 23) (.c (.bool true)) (.t 25)), none⟩,
    ⟨(some 2), .val (.mov (.t 26)), none⟩]
def r51 : RC := .seq (.reg g51_0) (.seq (.reg g51_1) (.ret))
def o51 : List RR := [.tmp 2]
theorem k51 : chkC Tryz.prog 27 r51 (Tryz.f51.body.getD .skip) = true := by decide +kernel
theorem q51 : chkR Tryz.prog Tryz.f51.results.toList o51 = true := by decide +kernel

/- slices.SortStableFunc[[]wireschema/api.Raw,wireschema/api.Raw] -/
def g52_0 : List Am.Item := [
    ⟨(some 4), .val (.mov (.t 0)), none⟩,
    ⟨(some 5), .val (.mov (.t 0)), none⟩,
    ⟨(some 6), .val (.len 1 (.t 5)), none⟩,
    ⟨(some 7), .val (.mov (.t 1)), none⟩,
    ⟨(some 8), .callF (.f 123) [(.t 4), (.t 6), (.t 7)], none⟩]
def r52 : RC := .reg g52_0
def o52 : List RR := []
theorem k52 : chkC Tryz.prog 9 r52 (Tryz.f52.body.getD .skip) = true := by decide +kernel
theorem q52 : chkR Tryz.prog Tryz.f52.results.toList o52 = true := by decide +kernel

/- cmp.Compare[int] -/
def g54_0 : List Am.Item := [
    ⟨(some 4), .val (.mov (.c (.int .i64 0))), none⟩]
def g54_1 : List Am.Item := [
    ⟨(some 7), .val (.mov (.t 0)), none⟩,
    ⟨(some 8), .call (.f 124) [(.t 7)], none⟩,
    ⟨(some 5), .val (.mov (.t 8)), none⟩]
def g54_2 : List Am.Item := [
    ⟨(some 9), .val (.mov (.t 1)), none⟩,
    ⟨(some 10), .call (.f 124) [(.t 9)], none⟩,
    ⟨(some 6), .val (.mov (.t 10)), none⟩]
def g54_3 : List Am.Item := [
    ⟨(some 11), .val (.mov (.t 5)), none⟩]
def g54_4 : List Am.Item := [
    ⟨(some 12), .val (.mov (.t 6)), none⟩]
def g54_5 : List Am.Item := [
    ⟨(some 4), .val (.mov (.c (.int .i64 0))), none⟩]
def g54_6 : List Am.Item := [
    ⟨(some 4), .val (.mov (.c (.int .i64 (-1)))), none⟩]
def g54_7 : List Am.Item := [
    ⟨(some 13), .val (.mov (.t 6)), none⟩]
def g54_8 : List Am.Item := [
    ⟨(some 4), .val (.mov (.c (.int .i64 1))), none⟩]
def g54_9 : List Am.Item := [
    ⟨(some 14), .val (.mov (.t 0)), none⟩,
    ⟨(some 15), .val (.mov (.t 1)), none⟩,
    ⟨(some 16), .val (.bin .num .lss (.t 14) (.t 15)), none⟩]
def g54_10 : List Am.Item := [
    ⟨(some 4), .val (.mov (.c (.int .i64 (-1)))), none⟩]
def g54_11 : List Am.Item := [
    ⟨(some 17), .val (.mov (.t 0)), none⟩,
    ⟨(some 18), .val (.mov (.t 1)), none⟩,
    ⟨(some 19), .val (.bin .num .gtr (.t 17) (.t 18)), none⟩]
def g54_12 : List Am.Item := [
    ⟨(some 4), .val (.mov (.c (.int .i64 1))), none⟩]
def g54_13 : List Am.Item := [
    ⟨(some 4), .val (.mov (.c (.int .i64 0))), none⟩]
def r54 : RC := .seq (.reg g54_0) (.seq (.reg g54_1) (.seq (.reg g54_2) (.seq (.seq (.reg g54_3) (.cond (.t 11) (.seq (.seq (.reg g54_4) (.cond (.t 12) (.seq (.reg g54_5) (.ret)) (.skip))) (.seq (.reg g54_6) (.ret))) (.skip))) (.seq (.seq (.reg g54_7) (.cond (.t 13) (.seq (.reg g54_8) (.ret)) (.skip))) (.seq (.seq (.reg g54_9) (.cond (.t 16) (.seq (.reg g54_10) (.ret)) (.skip))) (.seq (.seq (.reg g54_11) (.cond (.t 19) (.seq (.reg g54_12) (.ret)) (.skip))) (.seq (.reg g54_13) (.ret))))))))
def o54 : List RR := [.tmp 4]
theorem k54 : chkC Tryz.prog 20 r54 (Tryz.f54.body.getD .skip) = true := by decide +kernel
theorem q54 : chkR Tryz.prog Tryz.f54.results.toList o54 = true := by decide +kernel

/- wireschema/unknown.Valid -/
def g55_0 : List Am.Item := [
    ⟨(some 1), .boxN 1 (.t 0), none⟩,
    ⟨(some 2), .val (.mov (.c (.bool false))), none⟩]
def g55_1 : List Am.Item := [
    ⟨(some 6), .val (.faddr 0 (.t 1)), none⟩,
    ⟨(some 7), .val (.load none (.t 6)), none⟩,
    ⟨(some 8), .val (.faddr 1 (.t 1)), none⟩,
    ⟨(some 9), .val (.load none (.t 8)), none⟩,
    ⟨(some 10), .call (.f 56) [(.t 7), (.t 9)], none⟩,
    ⟨(some 5), .val (.mov (.t 10)), none⟩,
    ⟨(some 11), .val (.ext (.t 5) 0), none⟩,
    ⟨(some 12), .val (.ext (.t 5) 1), none⟩,
    ⟨(some 3), .val (.mov (.t 11)), none⟩,
    ⟨(some 4), .val (.mov (.t 12)), none⟩]
def g55_2 : List Am.Item := [
    ⟨(some 13), .val (.mov (.t 4)), none⟩,
    ⟨(some 14), .val (.bin .num .neq (.t 13) (.c (.int .i64 0))), none⟩]
def g55_3 : List Am.Item := [
    ⟨(some 2), .val (.mov (.c (.bool false))), none⟩]
def g55_4 : List Am.Item := [
    ⟨(some 15), .val (.faddr 1 (.t 1)), none⟩,
    ⟨(some 16), .val (.load none (.t 15)), none⟩,
    ⟨(some 17), .call (.f 59) [(.t 16)], none⟩]
def g55_5 : List Am.Item := [
    ⟨(some 18), .val (.faddr 3 (.t 1)), none⟩,
    ⟨(some 19), .val (.load none (.t 18)), none⟩,
    ⟨(some 20), .val (.bin .str .eql (.t 19) (.c (.str []))), none⟩,
    ⟨(some 2), .val (.mov (.t 20)), none⟩]
def g55_6 : List Am.Item := [
    ⟨(some 21), .val (.faddr 2 (.t 1)), none⟩,
    ⟨(some 22), .val (.load none (.t 21)), none⟩,
    ⟨(some 23), .val (.bin .num .eql (.t 22) (.c (.int .u64 0))), none⟩,
    ⟨(some 2), .val (.mov (.t 23)), none⟩]
def r55 : RC := .seq (.reg g55_0) (.seq (.seq (.reg g55_1) (.seq (.reg g55_2) (.cond (.t 14) (.seq (.reg g55_3) (.ret)) (.skip)))) (.seq (.seq (.reg g55_4) (.cond (.t 17) (.seq (.reg g55_5) (.ret)) (.skip))) (.seq (.reg g55_6) (.ret))))
def o55 : List RR := [.tmp 2]
theorem k55 : chkC Tryz.prog 24 r55 (Tryz.f55.body.getD .skip) = true := by decide +kernel
theorem q55 : chkR Tryz.prog Tryz.f55.results.toList o55 = true := by decide +kernel

/- wireschema/unknown.Tag -/
def g56_0 : List Am.Item := [
    ⟨(some 4), .val (.mov (.c (.str []))), none⟩,
    ⟨(some 5), .val (.mov (.c (.int .i64 0))), none⟩]
def g56_1 : List Am.Item := [
    ⟨(some 6), .val (.mov (.t 0)), none⟩,
    ⟨(some 7), .val (.bin .num .lss (.t 6) (.c (.int .i64 1))), none⟩,
    ⟨(some 8), .val (.mov (.t 7)), none⟩,
    ⟨(some 9), .val (.mov (.t 0)), (some (8, false))⟩,
    ⟨(some 10), .val (.bin .num .gtr (.t 9) (.c (.int .i64 65535))), (some (8, false))⟩,
    ⟨(some 11), .val (.pick (.t 8) (.c (.bool true)) (.t 10)), none⟩,
    ⟨(some 12), .val (.mov (.t 11)), none⟩,
    ⟨(some 13), .val (.mov (.t 1)), (some (12, false))⟩,
    ⟨(some 14), .val (.bin .num .lss (.t 13) (.c (.int .i64 0))), (some (12, false))⟩,
    ⟨(some 15), .val (.pick (.t 12) (.c (.bool true)) (.t 14)), none⟩,
    ⟨(some 16), .val (.mov (.t 15)), none⟩,
    ⟨(some 17), .val (.mov (.t 1)), (some (16, false))⟩,
    ⟨(some 18), .val (.bin .num .gtr (.t 17) (.c (.int .i64 6))), (some (16, false))⟩,
    ⟨(some 19), .val (.pick (.t 16) (.c (.bool true)) (.t 18)), none⟩]
def g56_2 : List Am.Item := [
    ⟨(some 4), .val (.mov (.c (.str []))), none⟩,
    ⟨(some 5), .val (.mov (.c (.int .i64 6))), none⟩]
def g56_3 : List Am.Item := [
    ⟨(some 20), .val (.mov (.t 0)), none⟩,
    ⟨(some 21), .val (.bin .num .mul (.t 20) (.c (.int .i64 8))), none⟩,
    ⟨(some 22), .val (.mov (.t 1)), none⟩,
    ⟨(some 23), .val (.bin .num .add (.t 21) (.t 22)), none⟩,
    ⟨(some 24), .val (.cvi .u64 (.t 23)), none⟩,
    ⟨(some 25), .call (.f 60) [(.t 24)], none⟩,
    ⟨(some 4), .val (.mov (.t 25)), none⟩,
    ⟨(some 5), .val (.mov (.c (.int .i64 0))), none⟩]
def r56 : RC := .seq (.reg g56_0) (.seq (.seq (.reg g56_1) (.cond (.t 19) (.seq (.reg g56_2) (.ret)) (.skip))) (.seq (.reg g56_3) (.ret)))
def o56 : List RR := [.tmp 4, .tmp 5]
theorem k56 : chkC Tryz.prog 26 r56 (Tryz.f56.body.getD .skip) = true := by decide +kernel
theorem q56 : chkR Tryz.prog Tryz.f56.results.toList o56 = true := by decide +kernel

/- (*strings.Builder).WriteString -/
def g57_0 : List Am.Item := [
    ⟨(some 4), .val (.mov (.c (.int .i64 0))), none⟩,
    ⟨(some 5), .val (.mov (.c (.nili))), none⟩]
def g57_1 : List Am.Item := [
    ⟨(some 6), .val (.mov (.t 0)), none⟩,
    ⟨(some 7), .callF (.f 125) [(.t 6)], none⟩]
def g57_2 : List Am.Item := [
    ⟨(some 8), .val (.mov (.t 0)), none⟩,
    ⟨(some 9), .val (.mov (.t 0)), none⟩,
    ⟨(some 10), .val (.nilck (.t 9)), none⟩,
    ⟨(some 11), .val (.faddr 1 (.t 10)), none⟩,
    ⟨(some 12), .val (.load none (.t 11)), none⟩,
    ⟨(some 13), .val (.mov (.t 1)), none⟩,
    ⟨(some 14), .appS 5 (.t 12) (.t 13), none⟩,
    ⟨(some 15), .val (.nilck (.t 8)), none⟩,
    ⟨(some 16), .val (.faddr 1 (.t 15)), none⟩,
    ⟨none, .store 1 (.t 16) (.t 14), none⟩]
def g57_3 : List Am.Item := [
    ⟨(some 17), .val (.mov (.t 1)), none⟩,
    ⟨(some 18), .val (.len 0 (.t 17)), none⟩,
    ⟨(some 4), .val (.mov (.t 18)), none⟩,
    ⟨(some 5), .val (.mov (.c (.nili))), none⟩]
def r57 : RC := .seq (.reg g57_0) (.seq (.reg g57_1) (.seq (.reg g57_2) (.seq (.reg g57_3) (.ret))))
def o57 : List RR := [.tmp 4, .tmp 5]
theorem k57 : chkC Tryz.prog 19 r57 (Tryz.f57.body.getD .skip) = true := by decide +kernel
theorem q57 : chkR Tryz.prog Tryz.f57.results.toList o57 = true := by decide +kernel

/- wireschema/unknown.numeric -/
def g59_0 : List Am.Item := [
    ⟨(some 2), .val (.mov (.c (.bool false))), none⟩]
def g59_1 : List Am.Item := [
    ⟨(some 3), .val (.mov (.t 0)), none⟩,
    ⟨(some 4), .val (.bin .num .eql (.t 3) (.c (.int .i64 0))), none⟩,
    ⟨(some 5), .val (.mov (.t 4)), none⟩,
    ⟨(some 6), .val (.mov (.t 0)), (some (5, false))⟩,
    ⟨(some 7), .val (.bin .num .eql (.t 6) (.c (.int .i64 1))), (some (5, false))⟩,
    ⟨(some 8), .val (.pick (.t 5) (.c (.bool true)) (.t 7)), none⟩,
    ⟨(some 9), .val (.mov (.t 8)), none⟩,
    ⟨(some 10), .val (.mov (.t 0)), (some (9, false))⟩,
    ⟨(some 11), .val (.bin .num .eql (.t 10) (.c (.int .i64 2))), (some (9, false))⟩,
    ⟨(some 12), .val (.pick (.t 9) (.c (.bool true)) (.t 11)), none⟩,
    ⟨(some 2), .val (.mov (.t 12)), none⟩]
def r59 : RC := .seq (.reg g59_0) (.seq (.reg g59_1) (.ret))
def o59 : List RR := [.tmp 2]
theorem k59 : chkC Tryz.prog 13 r59 (Tryz.f59.body.getD .skip) = true := by decide +kernel
theorem q59 : chkR Tryz.prog Tryz.f59.results.toList o59 = true := by decide +kernel

/- wireschema/varint.Put -/
def g60_0 : List Am.Item := [
    ⟨(some 2), .val (.mov (.c (.str []))), none⟩]
def g60_1 : List Am.Item := [
    ⟨(some 3), .val (.mov (.c (.nils))), none⟩]
def g60_2 : List Am.Item := [
    ⟨(some 4), .val (.mov (.t 0)), none⟩,
    ⟨(some 5), .val (.bin .num .geq (.t 4) (.c (.int .u64 128))), none⟩]
def g60_3 : List Am.Item := [
    ⟨(some 6), .val (.mov (.t 3)), none⟩,
    ⟨(some 7), .val (.mov (.t 0)), none⟩,
    ⟨(some 8), .val (.cvi .u8 (.t 7)), none⟩,
    ⟨(some 9), .val (.bin .num .or (.t 8) (.c (.int .u8 128))), none⟩,
    ⟨(some 10), .bsl 1 1 [.int .u8 0] [(0, 1, (.t 9))], none⟩,
    ⟨(some 11), .app 1 1 5 (.t 6) (.t 10), none⟩,
    ⟨(some 3), .val (.mov (.t 11)), none⟩]
def g60_4 : List Am.Item := [
    ⟨(some 12), .val (.mov (.t 0)), none⟩,
    ⟨(some 13), .val (.bin .num .shr (.t 12) (.c (.int .u64 7))), none⟩,
    ⟨(some 0), .val (.mov (.t 13)), none⟩]
def l60_0 : RC := .seq (.seq (.reg g60_2) (.cond (.t 5) (.skip) (.exit 0))) (.block 1 (.seq (.reg g60_3) (.reg g60_4)))
def g60_5 : List Am.Item := [
    ⟨(some 14), .val (.mov (.t 3)), none⟩,
    ⟨(some 15), .val (.mov (.t 0)), none⟩,
    ⟨(some 16), .val (.cvi .u8 (.t 15)), none⟩,
    ⟨(some 17), .bsl 1 1 [.int .u8 0] [(0, 1, (.t 16))], none⟩,
    ⟨(some 18), .app 1 1 5 (.t 14) (.t 17), none⟩,
    ⟨(some 19), .val (.b2s (.t 18)), none⟩,
    ⟨(some 2), .val (.mov (.t 19)), none⟩]
def r60 : RC := .seq (.reg g60_0) (.seq (.reg g60_1) (.gho (.vec 3 3 1) (.seq (.block 0 (.loop l60_0)) (.seq (.reg g60_5) (.ret)))))
def o60 : List RR := [.tmp 2]
theorem k60 : chkC Tryz.prog 20 r60 (Tryz.f60.body.getD .skip) = true := by decide +kernel
theorem q60 : chkR Tryz.prog Tryz.f60.results.toList o60 = true := by decide +kernel

/- (*strings.Builder).String -/
def g61_0 : List Am.Item := [
    ⟨(some 2), .val (.mov (.c (.str []))), none⟩]
def g61_1 : List Am.Item := [
    ⟨(some 3), .val (.mov (.t 0)), none⟩,
    ⟨(some 4), .val (.nilck (.t 3)), none⟩,
    ⟨(some 5), .val (.faddr 1 (.t 4)), none⟩,
    ⟨(some 6), .val (.loado none (.t 5)), none⟩,
    ⟨(some 7), .usd (.t 6), none⟩,
    ⟨(some 8), .val (.mov (.t 0)), none⟩,
    ⟨(some 9), .val (.nilck (.t 8)), none⟩,
    ⟨(some 10), .val (.faddr 1 (.t 9)), none⟩,
    ⟨(some 11), .val (.loado none (.t 10)), none⟩,
    ⟨(some 12), .val (.len 1 (.t 11)), none⟩,
    ⟨(some 13), .ustr 5 (.t 7) (.t 12), none⟩,
    ⟨(some 2), .val (.mov (.t 13)), none⟩]
def r61 : RC := .seq (.reg g61_0) (.seq (.draw g61_1) (.ret))
def o61 : List RR := [.tmp 2]
theorem k61 : chkC Tryz.prog 14 r61 (Tryz.f61.body.getD .skip) = true := by decide +kernel
theorem q61 : chkR Tryz.prog Tryz.f61.results.toList o61 = true := by decide +kernel

/- wireschema/plan.Op$1 -/
def g62_0 : List Am.Item := [
    ⟨(some 2), .boxN 2 (.t 0), none⟩,
    ⟨(some 3), .val (.mov (.c (.bool false))), none⟩]
def g62_1 : List Am.Item := [
    ⟨(some 4), .val (.faddr 0 (.t 2)), none⟩,
    ⟨(some 5), .val (.load none (.t 4)), none⟩,
    ⟨(some 6), .val (.load none (.t 1)), none⟩,
    ⟨(some 7), .val (.bin .num .eql (.t 5) (.t 6)), none⟩,
    ⟨(some 3), .val (.mov (.t 7)), none⟩]
def r62 : RC := .seq (.reg g62_0) (.seq (.reg g62_1) (.ret))
def o62 : List RR := [.tmp 3]
theorem k62 : chkC Tryz.prog 8 r62 (Tryz.f62.body.getD .skip) = true := by decide +kernel
theorem q62 : chkR Tryz.prog Tryz.f62.results.toList o62 = true := by decide +kernel

/- (wireschema/plan.finder).in -/
def g63_0 : List Am.Item := [
    ⟨(some 2), .boxN 2 (.t 0), none⟩,
    ⟨(some 3), .boxN 3 (.t 1), none⟩,
    ⟨(some 4), .allocN 4 [.int .i64 0, .str [], .str [], .int .i64 0, .int .i64 0, .int .i64 0, .int .i64 0, .int .i64 0], none⟩,
    ⟨(some 5), .val (.mov (.c (.bool false))), none⟩]
def g63_1 : List Am.Item := [
    ⟨(some 7), .val (.faddr 1 (.t 3)), none⟩,
    ⟨(some 8), .val (.load none (.t 7)), none⟩,
    ⟨(some 9), .val (.faddr 0 (.t 2)), none⟩,
    ⟨(some 10), .val (.load none (.t 9)), none⟩,
    ⟨(some 11), .callF (.f 126) [(.t 8), (.t 10)], none⟩,
    ⟨(some 6), .val (.mov (.t 11)), none⟩]
def g63_2 : List Am.Item := [
    ⟨(some 12), .val (.mov (.t 6)), none⟩,
    ⟨(some 13), .val (.bin .num .lss (.t 12) (.c (.int .i64 0))), none⟩]
def g63_3 : List Am.Item := [
    ⟨(some 14), .val (.build [.int .i64 0, .str [], .str [], .int .i64 0, .int .i64 0, .int .i64 0, .int .i64 0, .int .i64 0] []), none⟩,
    ⟨none, .store 8 (.t 4) (.t 14), none⟩,
    ⟨(some 5), .val (.mov (.c (.bool false))), none⟩]
def g63_4 : List Am.Item := [
    ⟨(some 15), .val (.faddr 1 (.t 3)), none⟩,
    ⟨(some 16), .val (.load none (.t 15)), none⟩,
    ⟨(some 17), .val (.mov (.t 6)), none⟩,
    ⟨(some 18), .val (.iaddr 8 none (.t 16) (.t 17)), none⟩,
    ⟨(some 19), .val (.load (some 8) (.t 18)), none⟩,
    ⟨none, .store 8 (.t 4) (.t 19), none⟩,
    ⟨(some 5), .val (.mov (.c (.bool true))), none⟩]
def r63 : RC := .seq (.reg g63_0) (.seq (.reg g63_1) (.seq (.seq (.reg g63_2) (.cond (.t 13) (.seq (.reg g63_3) (.ret)) (.skip))) (.seq (.reg g63_4) (.ret))))
def o63 : List RR := [.cell 4 (some 8), .tmp 5]
theorem k63 : chkC Tryz.prog 20 r63 (Tryz.f63.body.getD .skip) = true := by decide +kernel
theorem q63 : chkR Tryz.prog Tryz.f63.results.toList o63 = true := by decide +kernel

/- wireschema/plan.Packed -/
def g65_0 : List Am.Item := [
    ⟨(some 1), .boxN 1 (.t 0), none⟩,
    ⟨(some 2), .val (.mov (.c (.bool false))), none⟩]
def g65_1 : List Am.Item := [
    ⟨(some 3), .val (.faddr 3 (.t 1)), none⟩,
    ⟨(some 4), .val (.load none (.t 3)), none⟩,
    ⟨(some 5), .val (.bin .num .eql (.t 4) (.c (.int .i64 4))), none⟩,
    ⟨(some 6), .val (.mov (.t 5)), none⟩,
    ⟨(some 7), .val (.faddr 5 (.t 1)), (some (6, true))⟩,
    ⟨(some 8), .val (.load none (.t 7)), (some (6, true))⟩,
    ⟨(some 9), .val (.bin .num .geq (.t 8) (.c (.int .i64 1))), (some (6, true))⟩,
    ⟨(some 10), .val (.mov (.t 9)), (some (6, true))⟩,
    ⟨(some 11), .val (.faddr 5 (.t 1)), (some (10, true))⟩,
    ⟨(some 12), .val (.load none (.t 11)), (some (10, true))⟩,
    ⟨(some 13), .val (.bin .num .leq (.t 12) (.c (.int .i64 6))), (some (10, true))⟩,
    ⟨(some 14), .val (.pick (.t 10) (.t 13) (.c (.bool false))), (some (6, true))⟩,
    ⟨(some 15), .val (.mov (.t 14)), (some (6, true))⟩,
    ⟨(some 16), .val (.faddr 5 (.t 1)), (some (15, false))⟩,
    ⟨(some 17), .val (.load none (.t 16)), (some (15, false))⟩,
    ⟨(some 18), .val (.bin .num .eql (.t 17) (.c (.int .i64 9))), (some (15, false))⟩,
    ⟨(some 19), .val (.pick (.t 15) (.c (.bool true)) (.t 18)), (some (6, true))⟩,
    ⟨(some 20), .val (.pick (.t 6) (.t 19) (.c (.bool false))), none⟩,
    ⟨(some 2), .val (.mov (.t 20)), none⟩]
def r65 : RC := .seq (.reg g65_0) (.seq (.reg g65_1) (.ret))
def o65 : List RR := [.tmp 2]
theorem k65 : chkC Tryz.prog 21 r65 (Tryz.f65.body.getD .skip) = true := by decide +kernel
theorem q65 : chkR Tryz.prog Tryz.f65.results.toList o65 = true := by decide +kernel

/- (wireschema/tagenc.writer).pack -/
def g66_0 : List Am.Item := [
    ⟨(some 3), .boxN 3 (.t 0), none⟩,
    ⟨(some 4), .boxN 4 (.t 1), none⟩,
    ⟨(some 5), .boxN 5 (.t 2), none⟩,
    ⟨(some 6), .val (.mov (.c (.nils))), none⟩]
def g66_1 : List Am.Item := [
    ⟨(some 13), .val (.load (some 8) (.t 4)), none⟩,
    ⟨(some 7), .allocN 7 [.int .i64 0, .str [], .str [], .int .i64 0, .int .i64 0, .int .i64 0, .int .i64 0, .int .i64 0], none⟩,
    ⟨none, .store 8 (.t 7) (.t 13), none⟩]
def g66_2 : List Am.Item := [
    ⟨(some 14), .val (.faddr 3 (.t 7)), none⟩,
    ⟨none, .store 1 (.t 14) (.c (.int .i64 2)), none⟩]
def g66_3 : List Am.Item := [
    ⟨(some 15), .val (.load (some 8) (.t 7)), none⟩,
    ⟨(some 16), .call (.f 129) [(.t 15)], none⟩,
    ⟨(some 8), .val (.mov (.t 16)), none⟩]
def g66_4 : List Am.Item := [
    ⟨(some 17), .val (.mov (.t 8)), none⟩,
    ⟨(some 18), .val (.cvi .u8 (.t 17)), none⟩,
    ⟨(some 19), .bslv 19 1 1 [.int .u8 0] [(0, 1, (.t 18))], none⟩,
    ⟨(some 9), .val (.mov (.t 19)), none⟩]
def g66_5 : List Am.Item := [
    ⟨(some 20), .val (.faddr 3 (.t 5)), none⟩,
    ⟨(some 21), .val (.load none (.t 20)), none⟩,
    ⟨(some 22), .val (.len 1 (.t 21)), none⟩,
    ⟨(some 23), .val (.mov (.c (.int .i64 0))), none⟩]
def g66_6 : List Am.Item := [
    ⟨(some 24), .val (.bin .num .lss (.t 23) (.t 22)), none⟩]
def g66_7 : List Am.Item := [
    ⟨(some 25), .val (.iaddr 7 none (.t 21) (.t 23)), none⟩,
    ⟨(some 26), .val (.load (some 7) (.t 25)), none⟩,
    ⟨(some 11), .allocN 11 [.int .i64 0, .int .u64 0, .str [], .nils, .nils, .nils, .nils], none⟩,
    ⟨none, .store 7 (.t 11) (.t 26), none⟩]
def g66_8 : List Am.Item := [
    ⟨(some 27), .val (.load (some 7) (.t 11)), none⟩,
    ⟨(some 28), .call (.f 7) [(.t 27)], none⟩,
    ⟨(some 29), .val (.fld 2 none (.t 28)), none⟩,
    ⟨(some 12), .val (.mov (.t 29)), none⟩]
def g66_9 : List Am.Item := [
    ⟨(some 30), .val (.mov (.t 8)), none⟩,
    ⟨(some 31), .val (.bin .num .eql (.t 30) (.c (.int .i64 2))), none⟩]
def g66_10 : List Am.Item := [
    ⟨(some 32), .val (.mov (.t 9)), none⟩,
    ⟨(some 33), .val (.mov (.t 12)), none⟩,
    ⟨(some 34), .call (.f 58) [(.t 33)], none⟩,
    ⟨(some 35), .appS 5 (.t 32) (.t 34), none⟩,
    ⟨(some 9), .val (.mov (.t 35)), none⟩]
def g66_11 : List Am.Item := [
    ⟨(some 36), .val (.mov (.t 9)), none⟩,
    ⟨(some 37), .val (.mov (.t 12)), none⟩,
    ⟨(some 38), .call (.f 60) [(.t 37)], none⟩,
    ⟨(some 39), .appS 5 (.t 36) (.t 38), none⟩,
    ⟨(some 9), .val (.mov (.t 39)), none⟩]
def g66_12 : List Am.Item := [
    ⟨(some 40), .val (.bin .num .add (.t 23) (.c (.int .i64 1))), none⟩,
    ⟨(some 23), .val (.mov (.t 40)), none⟩]
def l66_0 : RC := .gho (.drop 11) (.seq (.reg g66_6) (.seq (.cond (.t 24) (.skip) (.exit 0)) (.seq (.block 1 (.seq (.reg g66_7) (.seq (.reg g66_8) (.seq (.reg g66_9) (.cond (.t 31) (.reg g66_10) (.reg g66_11)))))) (.reg g66_12))))
def g66_13 : List Am.Item := [
    ⟨(some 41), .val (.faddr 0 (.t 4)), none⟩,
    ⟨(some 42), .val (.load none (.t 41)), none⟩,
    ⟨(some 43), .val (.mov (.t 9)), none⟩,
    ⟨(some 44), .val (.b2s (.t 43)), none⟩,
    ⟨(some 45), .val (.build [.int .i64 0, .int .i64 0, .int .u64 0, .str []] [(0, 1, (.t 42)), (1, 1, (.c (.int .i64 5))), (3, 1, (.t 44))]), none⟩,
    ⟨(some 46), .bsl 4 1 [.int .i64 0, .int .i64 0, .int .u64 0, .str []] [(0, 4, (.t 45))], none⟩,
    ⟨(some 6), .val (.mov (.t 46)), none⟩]
def r66 : RC := .seq (.reg g66_0) (.seq (.reg g66_1) (.seq (.reg g66_2) (.seq (.reg g66_3) (.seq (.reg g66_4) (.seq (.seq (.reg g66_5) (.block 0 (.loop l66_0))) (.seq (.reg g66_13) (.ret)))))))
def o66 : List RR := [.tmp 6]
theorem k66 : chkC Tryz.prog 47 r66 (Tryz.f66.body.getD .skip) = true := by decide +kernel
theorem q66 : chkR Tryz.prog Tryz.f66.results.toList o66 = true := by decide +kernel

/- (wireschema/tagenc.writer).single -/
def g68_0 : List Am.Item := [
    ⟨(some 3), .boxN 3 (.t 0), none⟩,
    ⟨(some 4), .boxN 4 (.t 1), none⟩,
    ⟨(some 5), .boxN 5 (.t 2), none⟩,
    ⟨(some 6), .val (.mov (.c (.nils))), none⟩]
def g68_1 : List Am.Item := [
    ⟨(some 7), .val (.faddr 0 (.t 4)), none⟩,
    ⟨(some 8), .val (.loadv 0 4 none (.t 7)), none⟩,
    ⟨(some 9), .val (.loadv 0 3 (some 2) (.t 3)), none⟩,
    ⟨(some 10), .val (.loadv 0 4 (some 8) (.t 4)), none⟩,
    ⟨(some 11), .val (.loadv 0 5 (some 7) (.t 5)), none⟩,
    ⟨(some 12), .call (.f 128) [(.t 9), (.t 10), (.t 11)], none⟩,
    ⟨(some 13), .call (.f 127) [(.t 8), (.t 12)], none⟩,
    ⟨(some 14), .bsl 4 1 [.int .i64 0, .int .i64 0, .int .u64 0, .str []] [(0, 4, (.t 13))], none⟩,
    ⟨(some 6), .val (.mov (.t 14)), none⟩]
def r68 : RC := .seq (.reg g68_0) (.seq (.draw g68_1) (.ret))
def o68 : List RR := [.tmp 6]
theorem k68 : chkC Tryz.prog 15 r68 (Tryz.f68.body.getD .skip) = true := by decide +kernel
theorem q68 : chkR Tryz.prog Tryz.f68.results.toList o68 = true := by decide +kernel

/- wireschema/plan.some[wireschema/api.Prog] -/
def g69_0 : List Am.Item := [
    ⟨(some 4), .val (.mov (.c (.bool false))), none⟩]
def g69_1 : List Am.Item := [
    ⟨(some 5), .val (.mov (.t 0)), none⟩,
    ⟨(some 6), .val (.mov (.t 1)), none⟩,
    ⟨(some 7), .callF (.f 130) [(.t 5), (.t 6)], none⟩,
    ⟨(some 4), .val (.mov (.t 7)), none⟩]
def r69 : RC := .seq (.reg g69_0) (.seq (.reg g69_1) (.ret))
def o69 : List RR := [.tmp 4]
theorem k69 : chkC Tryz.prog 8 r69 (Tryz.f69.body.getD .skip) = true := by decide +kernel
theorem q69 : chkR Tryz.prog Tryz.f69.results.toList o69 = true := by decide +kernel

/- wireschema/plan.limited$1 -/
def g70_0 : List Am.Item := [
    ⟨(some 1), .boxN 1 (.t 0), none⟩,
    ⟨(some 2), .val (.mov (.c (.bool false))), none⟩]
def g70_1 : List Am.Item := [
    ⟨(some 3), .val (.faddr 1 (.t 1)), none⟩,
    ⟨(some 4), .val (.load none (.t 3)), none⟩,
    ⟨(some 5), .val (.len 1 (.t 4)), none⟩,
    ⟨(some 6), .val (.bin .num .gtr (.t 5) (.c (.int .i64 64))), none⟩,
    ⟨(some 2), .val (.mov (.t 6)), none⟩]
def r70 : RC := .seq (.reg g70_0) (.seq (.reg g70_1) (.ret))
def o70 : List RR := [.tmp 2]
theorem k70 : chkC Tryz.prog 7 r70 (Tryz.f70.body.getD .skip) = true := by decide +kernel
theorem q70 : chkR Tryz.prog Tryz.f70.results.toList o70 = true := by decide +kernel

/- wireschema/plan.some[wireschema/api.Enum] -/
def g71_0 : List Am.Item := [
    ⟨(some 4), .val (.mov (.c (.bool false))), none⟩]
def g71_1 : List Am.Item := [
    ⟨(some 5), .val (.mov (.t 0)), none⟩,
    ⟨(some 6), .val (.mov (.t 1)), none⟩,
    ⟨(some 7), .callF (.f 131) [(.t 5), (.t 6)], none⟩,
    ⟨(some 4), .val (.mov (.t 7)), none⟩]
def r71 : RC := .seq (.reg g71_0) (.seq (.reg g71_1) (.ret))
def o71 : List RR := [.tmp 4]
theorem k71 : chkC Tryz.prog 8 r71 (Tryz.f71.body.getD .skip) = true := by decide +kernel
theorem q71 : chkR Tryz.prog Tryz.f71.results.toList o71 = true := by decide +kernel

/- wireschema/plan.misnamed$1 -/
def g73_0 : List Am.Item := [
    ⟨(some 1), .boxN 1 (.t 0), none⟩,
    ⟨(some 2), .val (.mov (.c (.bool false))), none⟩]
def g73_1 : List Am.Item := [
    ⟨(some 3), .val (.faddr 0 (.t 1)), none⟩,
    ⟨(some 4), .val (.load none (.t 3)), none⟩,
    ⟨(some 5), .call (.f 74) [(.t 4)], none⟩,
    ⟨(some 6), .val (.un .not (.t 5)), none⟩,
    ⟨(some 7), .val (.mov (.t 6)), none⟩,
    ⟨(some 8), .val (.faddr 1 (.t 1)), (some (7, false))⟩,
    ⟨(some 9), .val (.load none (.t 8)), (some (7, false))⟩,
    ⟨(some 10), .callF (.f 75) [(.t 9), (.f 76)], (some (7, false))⟩,
    ⟨(some 11), .val (.pick (.t 7) (.c (.bool true)) (.t 10)), none⟩,
    ⟨(some 2), .val (.mov (.t 11)), none⟩]
def r73 : RC := .seq (.reg g73_0) (.seq (.reg g73_1) (.ret))
def o73 : List RR := [.tmp 2]
theorem k73 : chkC Tryz.prog 12 r73 (Tryz.f73.body.getD .skip) = true := by decide +kernel
theorem q73 : chkR Tryz.prog Tryz.f73.results.toList o73 = true := by decide +kernel

/- wireschema/plan.full -/
def g74_0 : List Am.Item := [
    ⟨(some 2), .val (.mov (.c (.bool false))), none⟩]
def g74_1 : List Am.Item := [
    ⟨(some 3), .val (.mov (.t 0)), none⟩,
    ⟨(some 4), .call (.f 132) [(.t 3)], none⟩,
    ⟨(some 5), .val (.mov (.t 4)), none⟩,
    ⟨(some 6), .val (.mov (.t 0)), (some (5, true))⟩,
    ⟨(some 7), .call (.f 134) [(.t 6), (.c (.str [46]))], (some (5, true))⟩,
    ⟨(some 8), .callF (.f 133) [(.t 7), (.f 135)], (some (5, true))⟩,
    ⟨(some 9), .val (.un .not (.t 8)), (some (5, true))⟩,
    ⟨(some 10), .val (.pick (.t 5) (.t 9) (.c (.bool false))), none⟩,
    ⟨(some 2), .val (.mov (.t 10)), none⟩]
def r74 : RC := .seq (.reg g74_0) (.seq (.reg g74_1) (.ret))
def o74 : List RR := [.tmp 2]
theorem k74 : chkC Tryz.prog 11 r74 (Tryz.f74.body.getD .skip) = true := by decide +kernel
theorem q74 : chkR Tryz.prog Tryz.f74.results.toList o74 = true := by decide +kernel

/- wireschema/plan.some[wireschema/api.Op] -/
def g75_0 : List Am.Item := [
    ⟨(some 4), .val (.mov (.c (.bool false))), none⟩]
def g75_1 : List Am.Item := [
    ⟨(some 5), .val (.mov (.t 0)), none⟩,
    ⟨(some 6), .val (.mov (.t 1)), none⟩,
    ⟨(some 7), .callF (.f 136) [(.t 5), (.t 6)], none⟩,
    ⟨(some 4), .val (.mov (.t 7)), none⟩]
def r75 : RC := .seq (.reg g75_0) (.seq (.reg g75_1) (.ret))
def o75 : List RR := [.tmp 4]
theorem k75 : chkC Tryz.prog 8 r75 (Tryz.f75.body.getD .skip) = true := by decide +kernel
theorem q75 : chkR Tryz.prog Tryz.f75.results.toList o75 = true := by decide +kernel

/- wireschema/plan.misnamed$1$1 -/
def g76_0 : List Am.Item := [
    ⟨(some 1), .boxN 1 (.t 0), none⟩,
    ⟨(some 2), .val (.mov (.c (.bool false))), none⟩]
def g76_1 : List Am.Item := [
    ⟨(some 3), .val (.faddr 1 (.t 1)), none⟩,
    ⟨(some 4), .val (.load none (.t 3)), none⟩,
    ⟨(some 5), .call (.f 77) [(.t 4)], none⟩,
    ⟨(some 6), .val (.un .not (.t 5)), none⟩,
    ⟨(some 2), .val (.mov (.t 6)), none⟩]
def r76 : RC := .seq (.reg g76_0) (.seq (.reg g76_1) (.ret))
def o76 : List RR := [.tmp 2]
theorem k76 : chkC Tryz.prog 7 r76 (Tryz.f76.body.getD .skip) = true := by decide +kernel
theorem q76 : chkR Tryz.prog Tryz.f76.results.toList o76 = true := by decide +kernel

/- wireschema/plan.usable -/
def g77_0 : List Am.Item := [
    ⟨(some 2), .val (.mov (.c (.bool false))), none⟩]
def g77_1 : List Am.Item := [
    ⟨(some 3), .val (.mov (.t 0)), none⟩,
    ⟨(some 4), .call (.f 137) [(.t 3)], none⟩,
    ⟨(some 5), .val (.mov (.t 4)), none⟩,
    ⟨(some 6), .val (.mov (.t 0)), (some (5, true))⟩,
    ⟨(some 7), .call (.f 135) [(.t 6)], (some (5, true))⟩,
    ⟨(some 8), .val (.un .not (.t 7)), (some (5, true))⟩,
    ⟨(some 9), .val (.pick (.t 5) (.t 8) (.c (.bool false))), none⟩,
    ⟨(some 2), .val (.mov (.t 9)), none⟩]
def r77 : RC := .seq (.reg g77_0) (.seq (.reg g77_1) (.ret))
def o77 : List RR := [.tmp 2]
theorem k77 : chkC Tryz.prog 10 r77 (Tryz.f77.body.getD .skip) = true := by decide +kernel
theorem q77 : chkR Tryz.prog Tryz.f77.results.toList o77 = true := by decide +kernel

/- wireschema/plan.rising[wireschema/api.Prog] -/
def g81_0 : List Am.Item := [
    ⟨(some 4), .val (.mov (.c (.bool false))), none⟩]
def g81_1 : List Am.Item := [
    ⟨(some 5), .val (.mov (.c (.int .i64 1))), none⟩]
def g81_2 : List Am.Item := [
    ⟨(some 6), .val (.mov (.t 5)), none⟩,
    ⟨(some 7), .val (.mov (.t 0)), none⟩,
    ⟨(some 8), .val (.len 1 (.t 7)), none⟩,
    ⟨(some 9), .val (.bin .num .lss (.t 6) (.t 8)), none⟩]
def g81_4 : List Am.Item := [
    ⟨(some 12), .val (.mov (.t 1)), none⟩,
    ⟨(some 13), .val (.mov (.t 0)), none⟩,
    ⟨(some 14), .val (.mov (.t 5)), none⟩,
    ⟨(some 15), .val (.bin .num .sub (.t 14) (.c (.int .i64 1))), none⟩,
    ⟨(some 16), .val (.iaddr 3 none (.t 13) (.t 15)), none⟩,
    ⟨(some 17), .val (.loadr (some 3) (.t 16)), none⟩,
    ⟨(some 18), .val (.mov (.t 0)), none⟩,
    ⟨(some 19), .val (.mov (.t 5)), none⟩,
    ⟨(some 20), .val (.iaddr 3 none (.t 18) (.t 19)), none⟩,
    ⟨(some 21), .val (.loadr (some 3) (.t 20)), none⟩,
    ⟨(some 22), .callF (.t 12) [(.t 17), (.t 21)], none⟩,
    ⟨(some 23), .val (.un .not (.t 22)), none⟩]
def g81_5 : List Am.Item := [
    ⟨(some 4), .val (.mov (.c (.bool false))), none⟩]
def g81_3 : List Am.Item := [
    ⟨(some 10), .val (.mov (.t 5)), none⟩,
    ⟨(some 11), .val (.bin .num .add (.t 10) (.c (.int .i64 1))), none⟩,
    ⟨(some 5), .val (.mov (.t 11)), none⟩]
def l81_0 : RC := .seq (.seq (.reg g81_2) (.cond (.t 9) (.skip) (.exit 0))) (.seq (.block 1 (.seq (.draw g81_4) (.cond (.t 23) (.seq (.reg g81_5) (.ret)) (.skip)))) (.reg g81_3))
def g81_6 : List Am.Item := [
    ⟨(some 4), .val (.mov (.c (.bool true))), none⟩]
def r81 : RC := .seq (.reg g81_0) (.seq (.seq (.reg g81_1) (.block 0 (.loop l81_0))) (.seq (.reg g81_6) (.ret)))
def o81 : List RR := [.tmp 4]
theorem k81 : chkC Tryz.prog 24 r81 (Tryz.f81.body.getD .skip) = true := by decide +kernel
theorem q81 : chkR Tryz.prog Tryz.f81.results.toList o81 = true := by decide +kernel

/- wireschema/plan.rising[wireschema/api.Enum] -/
def g83_0 : List Am.Item := [
    ⟨(some 4), .val (.mov (.c (.bool false))), none⟩]
def g83_1 : List Am.Item := [
    ⟨(some 5), .val (.mov (.c (.int .i64 1))), none⟩]
def g83_2 : List Am.Item := [
    ⟨(some 6), .val (.mov (.t 5)), none⟩,
    ⟨(some 7), .val (.mov (.t 0)), none⟩,
    ⟨(some 8), .val (.len 1 (.t 7)), none⟩,
    ⟨(some 9), .val (.bin .num .lss (.t 6) (.t 8)), none⟩]
def g83_4 : List Am.Item := [
    ⟨(some 12), .val (.mov (.t 1)), none⟩,
    ⟨(some 13), .val (.mov (.t 0)), none⟩,
    ⟨(some 14), .val (.mov (.t 5)), none⟩,
    ⟨(some 15), .val (.bin .num .sub (.t 14) (.c (.int .i64 1))), none⟩,
    ⟨(some 16), .val (.iaddr 5 none (.t 13) (.t 15)), none⟩,
    ⟨(some 17), .val (.loadr (some 5) (.t 16)), none⟩,
    ⟨(some 18), .val (.mov (.t 0)), none⟩,
    ⟨(some 19), .val (.mov (.t 5)), none⟩,
    ⟨(some 20), .val (.iaddr 5 none (.t 18) (.t 19)), none⟩,
    ⟨(some 21), .val (.loadr (some 5) (.t 20)), none⟩,
    ⟨(some 22), .callF (.t 12) [(.t 17), (.t 21)], none⟩,
    ⟨(some 23), .val (.un .not (.t 22)), none⟩]
def g83_5 : List Am.Item := [
    ⟨(some 4), .val (.mov (.c (.bool false))), none⟩]
def g83_3 : List Am.Item := [
    ⟨(some 10), .val (.mov (.t 5)), none⟩,
    ⟨(some 11), .val (.bin .num .add (.t 10) (.c (.int .i64 1))), none⟩,
    ⟨(some 5), .val (.mov (.t 11)), none⟩]
def l83_0 : RC := .seq (.seq (.reg g83_2) (.cond (.t 9) (.skip) (.exit 0))) (.seq (.block 1 (.seq (.draw g83_4) (.cond (.t 23) (.seq (.reg g83_5) (.ret)) (.skip)))) (.reg g83_3))
def g83_6 : List Am.Item := [
    ⟨(some 4), .val (.mov (.c (.bool true))), none⟩]
def r83 : RC := .seq (.reg g83_0) (.seq (.seq (.reg g83_1) (.block 0 (.loop l83_0))) (.seq (.reg g83_6) (.ret)))
def o83 : List RR := [.tmp 4]
theorem k83 : chkC Tryz.prog 24 r83 (Tryz.f83.body.getD .skip) = true := by decide +kernel
theorem q83 : chkR Tryz.prog Tryz.f83.results.toList o83 = true := by decide +kernel

/- wireschema/plan.unordered$3 -/
def g85_0 : List Am.Item := [
    ⟨(some 1), .boxN 1 (.t 0), none⟩,
    ⟨(some 2), .val (.mov (.c (.bool false))), none⟩]
def g85_1 : List Am.Item := [
    ⟨(some 3), .val (.faddr 1 (.t 1)), none⟩,
    ⟨(some 4), .val (.load none (.t 3)), none⟩,
    ⟨(some 5), .callF (.f 86) [(.t 4), (.f 87)], none⟩,
    ⟨(some 6), .val (.un .not (.t 5)), none⟩,
    ⟨(some 2), .val (.mov (.t 6)), none⟩]
def r85 : RC := .seq (.reg g85_0) (.seq (.reg g85_1) (.ret))
def o85 : List RR := [.tmp 2]
theorem k85 : chkC Tryz.prog 7 r85 (Tryz.f85.body.getD .skip) = true := by decide +kernel
theorem q85 : chkR Tryz.prog Tryz.f85.results.toList o85 = true := by decide +kernel

/- wireschema/plan.rising[wireschema/api.Op] -/
def g86_0 : List Am.Item := [
    ⟨(some 4), .val (.mov (.c (.bool false))), none⟩]
def g86_1 : List Am.Item := [
    ⟨(some 5), .val (.mov (.c (.int .i64 1))), none⟩]
def g86_2 : List Am.Item := [
    ⟨(some 6), .val (.mov (.t 5)), none⟩,
    ⟨(some 7), .val (.mov (.t 0)), none⟩,
    ⟨(some 8), .val (.len 1 (.t 7)), none⟩,
    ⟨(some 9), .val (.bin .num .lss (.t 6) (.t 8)), none⟩]
def g86_4 : List Am.Item := [
    ⟨(some 12), .val (.mov (.t 1)), none⟩,
    ⟨(some 13), .val (.mov (.t 0)), none⟩,
    ⟨(some 14), .val (.mov (.t 5)), none⟩,
    ⟨(some 15), .val (.bin .num .sub (.t 14) (.c (.int .i64 1))), none⟩,
    ⟨(some 16), .val (.iaddr 8 none (.t 13) (.t 15)), none⟩,
    ⟨(some 17), .val (.loadr (some 8) (.t 16)), none⟩,
    ⟨(some 18), .val (.mov (.t 0)), none⟩,
    ⟨(some 19), .val (.mov (.t 5)), none⟩,
    ⟨(some 20), .val (.iaddr 8 none (.t 18) (.t 19)), none⟩,
    ⟨(some 21), .val (.loadr (some 8) (.t 20)), none⟩,
    ⟨(some 22), .callF (.t 12) [(.t 17), (.t 21)], none⟩,
    ⟨(some 23), .val (.un .not (.t 22)), none⟩]
def g86_5 : List Am.Item := [
    ⟨(some 4), .val (.mov (.c (.bool false))), none⟩]
def g86_3 : List Am.Item := [
    ⟨(some 10), .val (.mov (.t 5)), none⟩,
    ⟨(some 11), .val (.bin .num .add (.t 10) (.c (.int .i64 1))), none⟩,
    ⟨(some 5), .val (.mov (.t 11)), none⟩]
def l86_0 : RC := .seq (.seq (.reg g86_2) (.cond (.t 9) (.skip) (.exit 0))) (.seq (.block 1 (.seq (.draw g86_4) (.cond (.t 23) (.seq (.reg g86_5) (.ret)) (.skip)))) (.reg g86_3))
def g86_6 : List Am.Item := [
    ⟨(some 4), .val (.mov (.c (.bool true))), none⟩]
def r86 : RC := .seq (.reg g86_0) (.seq (.seq (.reg g86_1) (.block 0 (.loop l86_0))) (.seq (.reg g86_6) (.ret)))
def o86 : List RR := [.tmp 4]
theorem k86 : chkC Tryz.prog 24 r86 (Tryz.f86.body.getD .skip) = true := by decide +kernel
theorem q86 : chkR Tryz.prog Tryz.f86.results.toList o86 = true := by decide +kernel

/- wireschema/plan.unordered$3$1 -/
def g87_0 : List Am.Item := [
    ⟨(some 2), .boxN 2 (.t 0), none⟩,
    ⟨(some 3), .boxN 3 (.t 1), none⟩,
    ⟨(some 4), .val (.mov (.c (.bool false))), none⟩]
def g87_1 : List Am.Item := [
    ⟨(some 5), .val (.faddr 0 (.t 2)), none⟩,
    ⟨(some 6), .val (.load none (.t 5)), none⟩,
    ⟨(some 7), .val (.faddr 0 (.t 3)), none⟩,
    ⟨(some 8), .val (.load none (.t 7)), none⟩,
    ⟨(some 9), .val (.bin .num .lss (.t 6) (.t 8)), none⟩,
    ⟨(some 4), .val (.mov (.t 9)), none⟩]
def r87 : RC := .seq (.reg g87_0) (.seq (.reg g87_1) (.ret))
def o87 : List RR := [.tmp 4]
theorem k87 : chkC Tryz.prog 10 r87 (Tryz.f87.body.getD .skip) = true := by decide +kernel
theorem q87 : chkR Tryz.prog Tryz.f87.results.toList o87 = true := by decide +kernel

/- wireschema/plan.twice$1 -/
def g91_0 : List Am.Item := [
    ⟨(some 2), .boxN 2 (.t 0), none⟩,
    ⟨(some 3), .val (.mov (.c (.bool false))), none⟩]
def g91_1 : List Am.Item := [
    ⟨(some 4), .val (.faddr 1 (.t 1)), none⟩,
    ⟨(some 5), .val (.load none (.t 4)), none⟩,
    ⟨(some 6), .val (.mkfn (.func 92) [] [(.t 2)]), none⟩,
    ⟨(some 7), .callF (.f 71) [(.t 5), (.t 6)], none⟩,
    ⟨(some 8), .val (.mov (.t 7)), none⟩,
    ⟨(some 9), .val (.faddr 1 (.t 2)), (some (8, false))⟩,
    ⟨(some 10), .val (.load none (.t 9)), (some (8, false))⟩,
    ⟨(some 11), .callF (.f 93) [(.t 10), (.f 94)], (some (8, false))⟩,
    ⟨(some 12), .val (.pick (.t 8) (.c (.bool true)) (.t 11)), none⟩,
    ⟨(some 3), .val (.mov (.t 12)), none⟩]
def r91 : RC := .seq (.reg g91_0) (.seq (.reg g91_1) (.ret))
def o91 : List RR := [.tmp 3]
theorem k91 : chkC Tryz.prog 13 r91 (Tryz.f91.body.getD .skip) = true := by decide +kernel
theorem q91 : chkR Tryz.prog Tryz.f91.results.toList o91 = true := by decide +kernel

/- wireschema/plan.repeated[wireschema/api.Op] -/
def g93_0 : List Am.Item := [
    ⟨(some 3), .boxN 3 (.t 1), none⟩,
    ⟨(some 4), .val (.mov (.c (.bool false))), none⟩]
def g93_1 : List Am.Item := [
    ⟨(some 7), .val (.mov (.t 0)), none⟩,
    ⟨(some 8), .val (.len 1 (.t 7)), none⟩,
    ⟨(some 9), .val (.mov (.c (.int .i64 0))), none⟩]
def g93_2 : List Am.Item := [
    ⟨(some 10), .val (.bin .num .lss (.t 9) (.t 8)), none⟩]
def g93_3 : List Am.Item := [
    ⟨(some 11), .val (.mov (.t 9)), none⟩,
    ⟨(some 12), .val (.iaddr 8 none (.t 7) (.t 9)), none⟩,
    ⟨(some 13), .val (.load (some 8) (.t 12)), none⟩,
    ⟨(some 6), .allocN 6 [.int .i64 0, .str [], .str [], .int .i64 0, .int .i64 0, .int .i64 0, .int .i64 0, .int .i64 0], none⟩,
    ⟨(some 5), .val (.mov (.t 11)), none⟩,
    ⟨none, .store 8 (.t 6) (.t 13), none⟩]
def g93_4 : List Am.Item := [
    ⟨(some 14), .val (.mov (.t 0)), none⟩,
    ⟨(some 15), .val (.mov (.t 5)), none⟩,
    ⟨(some 16), .val (.slc (some 8) (.t 14) none (some (.t 15)) none), none⟩,
    ⟨(some 17), .val (.mkfn (.func 139) [] [(.t 3), (.t 6)]), none⟩,
    ⟨(some 18), .callF (.f 75) [(.t 16), (.t 17)], none⟩]
def g93_5 : List Am.Item := [
    ⟨(some 4), .val (.mov (.c (.bool true))), none⟩]
def g93_6 : List Am.Item := [
    ⟨(some 19), .val (.bin .num .add (.t 9) (.c (.int .i64 1))), none⟩,
    ⟨(some 9), .val (.mov (.t 19)), none⟩]
def l93_0 : RC := .gho (.drop 6) (.seq (.reg g93_2) (.seq (.cond (.t 10) (.skip) (.exit 0)) (.seq (.block 1 (.seq (.reg g93_3) (.seq (.reg g93_4) (.cond (.t 18) (.seq (.reg g93_5) (.ret)) (.skip))))) (.reg g93_6))))
def g93_7 : List Am.Item := [
    ⟨(some 4), .val (.mov (.c (.bool false))), none⟩]
def r93 : RC := .seq (.reg g93_0) (.seq (.seq (.reg g93_1) (.block 0 (.loop l93_0))) (.seq (.reg g93_7) (.ret)))
def o93 : List RR := [.tmp 4]
theorem k93 : chkC Tryz.prog 20 r93 (Tryz.f93.body.getD .skip) = true := by decide +kernel
theorem q93 : chkR Tryz.prog Tryz.f93.results.toList o93 = true := by decide +kernel

/- wireschema/plan.twice$1$2 -/
def g94_0 : List Am.Item := [
    ⟨(some 1), .boxN 1 (.t 0), none⟩,
    ⟨(some 2), .val (.mov (.c (.str []))), none⟩]
def g94_1 : List Am.Item := [
    ⟨(some 3), .val (.faddr 1 (.t 1)), none⟩,
    ⟨(some 4), .val (.load none (.t 3)), none⟩,
    ⟨(some 2), .val (.mov (.t 4)), none⟩]
def r94 : RC := .seq (.reg g94_0) (.seq (.reg g94_1) (.ret))
def o94 : List RR := [.tmp 2]
theorem k94 : chkC Tryz.prog 5 r94 (Tryz.f94.body.getD .skip) = true := by decide +kernel
theorem q94 : chkR Tryz.prog Tryz.f94.results.toList o94 = true := by decide +kernel

/- wireschema/plan.ranged$1 -/
def g98_0 : List Am.Item := [
    ⟨(some 1), .boxN 1 (.t 0), none⟩,
    ⟨(some 2), .val (.mov (.c (.bool false))), none⟩]
def g98_1 : List Am.Item := [
    ⟨(some 3), .val (.faddr 1 (.t 1)), none⟩,
    ⟨(some 4), .val (.load none (.t 3)), none⟩,
    ⟨(some 5), .callF (.f 75) [(.t 4), (.f 99)], none⟩,
    ⟨(some 2), .val (.mov (.t 5)), none⟩]
def r98 : RC := .seq (.reg g98_0) (.seq (.reg g98_1) (.ret))
def o98 : List RR := [.tmp 2]
theorem k98 : chkC Tryz.prog 6 r98 (Tryz.f98.body.getD .skip) = true := by decide +kernel
theorem q98 : chkR Tryz.prog Tryz.f98.results.toList o98 = true := by decide +kernel

/- wireschema/plan.ranged$1$1 -/
def g99_0 : List Am.Item := [
    ⟨(some 1), .boxN 1 (.t 0), none⟩,
    ⟨(some 2), .val (.mov (.c (.bool false))), none⟩]
def g99_1 : List Am.Item := [
    ⟨(some 3), .val (.faddr 0 (.t 1)), none⟩,
    ⟨(some 4), .val (.load none (.t 3)), none⟩,
    ⟨(some 5), .val (.bin .num .lss (.t 4) (.c (.int .i64 1))), none⟩,
    ⟨(some 6), .val (.mov (.t 5)), none⟩,
    ⟨(some 7), .val (.faddr 0 (.t 1)), (some (6, false))⟩,
    ⟨(some 8), .val (.load none (.t 7)), (some (6, false))⟩,
    ⟨(some 9), .val (.bin .num .gtr (.t 8) (.c (.int .i64 65535))), (some (6, false))⟩,
    ⟨(some 10), .val (.pick (.t 6) (.c (.bool true)) (.t 9)), none⟩,
    ⟨(some 2), .val (.mov (.t 10)), none⟩]
def r99 : RC := .seq (.reg g99_0) (.seq (.reg g99_1) (.ret))
def o99 : List RR := [.tmp 2]
theorem k99 : chkC Tryz.prog 11 r99 (Tryz.f99.body.getD .skip) = true := by decide +kernel
theorem q99 : chkR Tryz.prog Tryz.f99.results.toList o99 = true := by decide +kernel

/- wireschema/plan.wrong$1 -/
def g101_0 : List Am.Item := [
    ⟨(some 2), .boxN 2 (.t 0), none⟩,
    ⟨(some 3), .val (.mov (.c (.bool false))), none⟩]
def g101_1 : List Am.Item := [
    ⟨(some 4), .val (.load (some 3) (.t 2)), none⟩,
    ⟨(some 5), .call (.f 102) [(.t 4)], none⟩,
    ⟨(some 6), .val (.un .not (.t 5)), none⟩,
    ⟨(some 7), .val (.mov (.t 6)), none⟩,
    ⟨(some 8), .val (.faddr 1 (.t 2)), (some (7, false))⟩,
    ⟨(some 9), .val (.load none (.t 8)), (some (7, false))⟩,
    ⟨(some 10), .val (.mkfn (.func 103) [] [(.t 1)]), (some (7, false))⟩,
    ⟨(some 11), .callF (.f 75) [(.t 9), (.t 10)], (some (7, false))⟩,
    ⟨(some 12), .val (.pick (.t 7) (.c (.bool true)) (.t 11)), none⟩,
    ⟨(some 3), .val (.mov (.t 12)), none⟩]
def r101 : RC := .seq (.reg g101_0) (.seq (.reg g101_1) (.ret))
def o101 : List RR := [.tmp 3]
theorem k101 : chkC Tryz.prog 13 r101 (Tryz.f101.body.getD .skip) = true := by decide +kernel
theorem q101 : chkR Tryz.prog Tryz.f101.results.toList o101 = true := by decide +kernel

/- wireschema/plan.united -/
def g102_0 : List Am.Item := [
    ⟨(some 1), .boxN 1 (.t 0), none⟩,
    ⟨(some 2), .val (.mov (.c (.bool false))), none⟩]
def g102_1 : List Am.Item := [
    ⟨(some 3), .val (.mov (.c (.int .i64 (-1)))), none⟩,
    ⟨(some 4), .val (.mov (.c (.int .i64 (-1)))), none⟩]
def g102_2 : List Am.Item := [
    ⟨(some 7), .val (.faddr 1 (.t 1)), none⟩,
    ⟨(some 8), .val (.load none (.t 7)), none⟩,
    ⟨(some 9), .val (.len 1 (.t 8)), none⟩,
    ⟨(some 10), .val (.mov (.c (.int .i64 0))), none⟩]
def g102_3 : List Am.Item := [
    ⟨(some 11), .val (.bin .num .lss (.t 10) (.t 9)), none⟩]
def g102_4 : List Am.Item := [
    ⟨(some 12), .val (.iaddr 8 none (.t 8) (.t 10)), none⟩,
    ⟨(some 13), .val (.load (some 8) (.t 12)), none⟩,
    ⟨(some 6), .allocN 6 [.int .i64 0, .str [], .str [], .int .i64 0, .int .i64 0, .int .i64 0, .int .i64 0, .int .i64 0], none⟩,
    ⟨none, .store 8 (.t 6) (.t 13), none⟩]
def g102_5 : List Am.Item := [
    ⟨(some 14), .val (.faddr 7 (.t 6)), none⟩,
    ⟨(some 15), .val (.load none (.t 14)), none⟩,
    ⟨(some 16), .val (.bin .num .neq (.t 15) (.c (.int .i64 (-1)))), none⟩,
    ⟨(some 17), .val (.mov (.t 16)), none⟩,
    ⟨(some 18), .val (.faddr 3 (.t 6)), (some (17, true))⟩,
    ⟨(some 19), .val (.load none (.t 18)), (some (17, true))⟩,
    ⟨(some 20), .val (.bin .num .neq (.t 19) (.c (.int .i64 2))), (some (17, true))⟩,
    ⟨(some 21), .val (.mov (.t 20)), (some (17, true))⟩,
    ⟨(some 22), .val (.faddr 7 (.t 6)), (some (21, false))⟩,
    ⟨(some 23), .val (.load none (.t 22)), (some (21, false))⟩,
    ⟨(some 24), .val (.mov (.t 3)), (some (21, false))⟩,
    ⟨(some 25), .val (.bin .num .add (.t 24) (.c (.int .i64 1))), (some (21, false))⟩,
    ⟨(some 26), .val (.bin .num .neq (.t 23) (.t 25)), (some (21, false))⟩,
    ⟨(some 27), .val (.mov (.t 26)), (some (21, false))⟩,
    ⟨(some 28), .val (.faddr 7 (.t 6)), (some (27, true))⟩,
    ⟨(some 29), .val (.load none (.t 28)), (some (27, true))⟩,
    ⟨(some 30), .val (.mov (.t 4)), (some (27, true))⟩,
    ⟨(some 31), .val (.bin .num .neq (.t 29) (.t 30)), (some (27, true))⟩,
    ⟨(some 32), .val (.pick (.t 27) (.t 31) (.c (.bool false))), (some (21, false))⟩,
    ⟨(some 33), .val (.pick (.t 21) (.c (.bool true)) (.t 32)), (some (17, true))⟩,
    ⟨(some 34), .val (.pick (.t 17) (.t 33) (.c (.bool false))), none⟩]
def g102_6 : List Am.Item := [
    ⟨(some 2), .val (.mov (.c (.bool false))), none⟩]
def g102_7 : List Am.Item := [
    ⟨(some 35), .val (.mov (.t 3)), none⟩,
    ⟨(some 36), .val (.faddr 7 (.t 6)), none⟩,
    ⟨(some 37), .val (.loadv 0 6 none (.t 36)), none⟩,
    ⟨(some 38), .val (.mnx true (.t 35) (.t 37)), none⟩,
    ⟨(some 39), .val (.faddr 7 (.t 6)), none⟩,
    ⟨(some 40), .val (.loadv 0 6 none (.t 39)), none⟩,
    ⟨(some 3), .val (.mov (.t 38)), none⟩,
    ⟨(some 4), .val (.mov (.t 40)), none⟩]
def g102_8 : List Am.Item := [
    ⟨(some 41), .val (.bin .num .add (.t 10) (.c (.int .i64 1))), none⟩,
    ⟨(some 10), .val (.mov (.t 41)), none⟩]
def l102_0 : RC := .gho (.drop 6) (.seq (.reg g102_3) (.seq (.cond (.t 11) (.skip) (.exit 0)) (.seq (.block 1 (.seq (.reg g102_4) (.seq (.seq (.reg g102_5) (.cond (.t 34) (.seq (.reg g102_6) (.ret)) (.skip))) (.draw g102_7)))) (.reg g102_8))))
def g102_9 : List Am.Item := [
    ⟨(some 42), .val (.faddr 2 (.t 1)), none⟩,
    ⟨(some 43), .val (.load none (.t 42)), none⟩,
    ⟨(some 44), .val (.mov (.t 3)), none⟩,
    ⟨(some 45), .val (.bin .num .add (.t 44) (.c (.int .i64 1))), none⟩,
    ⟨(some 46), .val (.bin .num .eql (.t 43) (.t 45)), none⟩,
    ⟨(some 2), .val (.mov (.t 46)), none⟩]
def r102 : RC := .seq (.reg g102_0) (.seq (.reg g102_1) (.seq (.seq (.reg g102_2) (.block 0 (.loop l102_0))) (.seq (.reg g102_9) (.ret))))
def o102 : List RR := [.tmp 2]
theorem k102 : chkC Tryz.prog 47 r102 (Tryz.f102.body.getD .skip) = true := by decide +kernel
theorem q102 : chkR Tryz.prog Tryz.f102.results.toList o102 = true := by decide +kernel

/- wireschema/plan.wrong$1$1 -/
def g103_0 : List Am.Item := [
    ⟨(some 2), .boxN 2 (.t 0), none⟩,
    ⟨(some 3), .val (.mov (.c (.bool false))), none⟩]
def g103_1 : List Am.Item := [
    ⟨(some 4), .val (.faddr 2 (.t 2)), none⟩,
    ⟨(some 5), .val (.load none (.t 4)), none⟩,
    ⟨(some 6), .call (.f 104) [(.t 5)], none⟩,
    ⟨(some 7), .val (.un .not (.t 6)), none⟩,
    ⟨(some 8), .val (.mov (.t 7)), none⟩,
    ⟨(some 9), .val (.faddr 2 (.t 2)), (some (8, false))⟩,
    ⟨(some 10), .val (.load none (.t 9)), (some (8, false))⟩,
    ⟨(some 11), .val (.len 0 (.t 10)), (some (8, false))⟩,
    ⟨(some 12), .val (.bin .num .gtr (.t 11) (.c (.int .i64 4096))), (some (8, false))⟩,
    ⟨(some 13), .val (.pick (.t 8) (.c (.bool true)) (.t 12)), none⟩,
    ⟨(some 14), .val (.mov (.t 13)), none⟩,
    ⟨(some 15), .val (.faddr 3 (.t 2)), (some (14, false))⟩,
    ⟨(some 16), .val (.load none (.t 15)), (some (14, false))⟩,
    ⟨(some 17), .val (.bin .num .lss (.t 16) (.c (.int .i64 1))), (some (14, false))⟩,
    ⟨(some 18), .val (.pick (.t 14) (.c (.bool true)) (.t 17)), none⟩,
    ⟨(some 19), .val (.mov (.t 18)), none⟩,
    ⟨(some 20), .val (.faddr 3 (.t 2)), (some (19, false))⟩,
    ⟨(some 21), .val (.load none (.t 20)), (some (19, false))⟩,
    ⟨(some 22), .val (.bin .num .gtr (.t 21) (.c (.int .i64 5))), (some (19, false))⟩,
    ⟨(some 23), .val (.pick (.t 19) (.c (.bool true)) (.t 22)), none⟩,
    ⟨(some 24), .val (.mov (.t 23)), none⟩,
    ⟨(some 25), .val (.load (some 8) (.t 2)), (some (24, false))⟩,
    ⟨(some 26), .call (.f 105) [(.t 25)], (some (24, false))⟩,
    ⟨(some 27), .val (.un .not (.t 26)), (some (24, false))⟩,
    ⟨(some 28), .val (.pick (.t 24) (.c (.bool true)) (.t 27)), none⟩,
    ⟨(some 29), .val (.mov (.t 28)), none⟩,
    ⟨(some 30), .val (.load (some 2) (.t 1)), (some (29, false))⟩,
    ⟨(some 31), .val (.load (some 8) (.t 2)), (some (29, false))⟩,
    ⟨(some 32), .call (.f 106) [(.t 30), (.t 31)], (some (29, false))⟩,
    ⟨(some 33), .val (.un .not (.t 32)), (some (29, false))⟩,
    ⟨(some 34), .val (.pick (.t 29) (.c (.bool true)) (.t 33)), none⟩,
    ⟨(some 3), .val (.mov (.t 34)), none⟩]
def r103 : RC := .seq (.reg g103_0) (.seq (.reg g103_1) (.ret))
def o103 : List RR := [.tmp 3]
theorem k103 : chkC Tryz.prog 35 r103 (Tryz.f103.body.getD .skip) = true := by decide +kernel
theorem q103 : chkR Tryz.prog Tryz.f103.results.toList o103 = true := by decide +kernel

/- wireschema/utf.Valid -/
def g104_0 : List Am.Item := [
    ⟨(some 2), .val (.mov (.c (.bool false))), none⟩]
def g104_1 : List Am.Item := [
    ⟨(some 3), .val (.mov (.t 0)), none⟩,
    ⟨(some 4), .call (.f 143) [(.t 3)], none⟩,
    ⟨(some 5), .val (.bin .num .lss (.t 4) (.c (.int .i64 0))), none⟩,
    ⟨(some 2), .val (.mov (.t 5)), none⟩]
def r104 : RC := .seq (.reg g104_0) (.seq (.reg g104_1) (.ret))
def o104 : List RR := [.tmp 2]
theorem k104 : chkC Tryz.prog 6 r104 (Tryz.f104.body.getD .skip) = true := by decide +kernel
theorem q104 : chkR Tryz.prog Tryz.f104.results.toList o104 = true := by decide +kernel

/- wireschema/plan.keyed -/
def g105_0 : List Am.Item := [
    ⟨(some 1), .boxN 1 (.t 0), none⟩,
    ⟨(some 2), .val (.mov (.c (.bool false))), none⟩]
def g105_1 : List Am.Item := [
    ⟨(some 3), .val (.faddr 3 (.t 1)), none⟩,
    ⟨(some 4), .val (.load none (.t 3)), none⟩,
    ⟨(some 5), .val (.bin .num .neq (.t 4) (.c (.int .i64 5))), none⟩]
def g105_2 : List Am.Item := [
    ⟨(some 6), .val (.faddr 4 (.t 1)), none⟩,
    ⟨(some 7), .val (.load none (.t 6)), none⟩,
    ⟨(some 8), .val (.bin .num .eql (.t 7) (.c (.int .i64 0))), none⟩,
    ⟨(some 2), .val (.mov (.t 8)), none⟩]
def g105_3 : List Am.Item := [
    ⟨(some 9), .val (.faddr 4 (.t 1)), none⟩,
    ⟨(some 10), .val (.load none (.t 9)), none⟩,
    ⟨(some 11), .val (.bin .num .geq (.t 10) (.c (.int .i64 1))), none⟩,
    ⟨(some 12), .val (.mov (.t 11)), none⟩,
    ⟨(some 13), .val (.faddr 4 (.t 1)), (some (12, true))⟩,
    ⟨(some 14), .val (.load none (.t 13)), (some (12, true))⟩,
    ⟨(some 15), .val (.bin .num .leq (.t 14) (.c (.int .i64 7))), (some (12, true))⟩,
    ⟨(some 16), .val (.pick (.t 12) (.t 15) (.c (.bool false))), none⟩,
    ⟨(some 17), .val (.mov (.t 16)), none⟩,
    ⟨(some 18), .val (.faddr 4 (.t 1)), (some (17, true))⟩,
    ⟨(some 19), .val (.load none (.t 18)), (some (17, true))⟩,
    ⟨(some 20), .val (.bin .num .neq (.t 19) (.c (.int .i64 6))), (some (17, true))⟩,
    ⟨(some 21), .val (.pick (.t 17) (.t 20) (.c (.bool false))), none⟩,
    ⟨(some 2), .val (.mov (.t 21)), none⟩]
def r105 : RC := .seq (.reg g105_0) (.seq (.seq (.reg g105_1) (.cond (.t 5) (.seq (.reg g105_2) (.ret)) (.skip))) (.seq (.reg g105_3) (.ret)))
def o105 : List RR := [.tmp 2]
theorem k105 : chkC Tryz.prog 22 r105 (Tryz.f105.body.getD .skip) = true := by decide +kernel
theorem q105 : chkR Tryz.prog Tryz.f105.results.toList o105 = true := by decide +kernel

/- wireschema/plan.aimed -/
def g106_0 : List Am.Item := [
    ⟨(some 2), .boxN 2 (.t 0), none⟩,
    ⟨(some 3), .boxN 3 (.t 1), none⟩,
    ⟨(some 4), .val (.mov (.c (.bool false))), none⟩]
def g106_1 : List Am.Item := [
    ⟨(some 5), .val (.faddr 5 (.t 3)), none⟩,
    ⟨(some 6), .val (.load none (.t 5)), none⟩]
def g106_2 : List Am.Item := [
    ⟨(some 8), .val (.bin .num .eql (.t 6) (.c (.int .i64 10))), none⟩,
    ⟨(some 7), .val (.mov (.t 8)), none⟩]
def g106_3 : List Am.Item := [
    ⟨(some 9), .val (.faddr 6 (.t 3)), none⟩,
    ⟨(some 10), .val (.load none (.t 9)), none⟩,
    ⟨(some 11), .val (.bin .num .geq (.t 10) (.c (.int .i64 0))), none⟩,
    ⟨(some 12), .val (.mov (.t 11)), none⟩,
    ⟨(some 13), .val (.faddr 6 (.t 3)), (some (12, true))⟩,
    ⟨(some 14), .val (.load none (.t 13)), (some (12, true))⟩,
    ⟨(some 15), .val (.faddr 0 (.t 2)), (some (12, true))⟩,
    ⟨(some 16), .val (.load none (.t 15)), (some (12, true))⟩,
    ⟨(some 17), .val (.len 1 (.t 16)), (some (12, true))⟩,
    ⟨(some 18), .val (.bin .num .lss (.t 14) (.t 17)), (some (12, true))⟩,
    ⟨(some 19), .val (.pick (.t 12) (.t 18) (.c (.bool false))), none⟩,
    ⟨(some 20), .val (.mov (.t 19)), none⟩,
    ⟨(some 21), .val (.faddr 3 (.t 3)), (some (20, true))⟩,
    ⟨(some 22), .val (.load none (.t 21)), (some (20, true))⟩,
    ⟨(some 23), .val (.bin .num .neq (.t 22) (.c (.int .i64 3))), (some (20, true))⟩,
    ⟨(some 24), .val (.pick (.t 20) (.t 23) (.c (.bool false))), none⟩,
    ⟨(some 4), .val (.mov (.t 24)), none⟩]
def g106_4 : List Am.Item := [
    ⟨(some 26), .val (.bin .num .eql (.t 6) (.c (.int .i64 9))), none⟩,
    ⟨(some 25), .val (.mov (.t 26)), none⟩]
def g106_5 : List Am.Item := [
    ⟨(some 27), .val (.faddr 6 (.t 3)), none⟩,
    ⟨(some 28), .val (.load none (.t 27)), none⟩,
    ⟨(some 29), .val (.bin .num .geq (.t 28) (.c (.int .i64 0))), none⟩,
    ⟨(some 30), .val (.mov (.t 29)), none⟩,
    ⟨(some 31), .val (.faddr 6 (.t 3)), (some (30, true))⟩,
    ⟨(some 32), .val (.load none (.t 31)), (some (30, true))⟩,
    ⟨(some 33), .val (.faddr 1 (.t 2)), (some (30, true))⟩,
    ⟨(some 34), .val (.load none (.t 33)), (some (30, true))⟩,
    ⟨(some 35), .val (.len 1 (.t 34)), (some (30, true))⟩,
    ⟨(some 36), .val (.bin .num .lss (.t 32) (.t 35)), (some (30, true))⟩,
    ⟨(some 37), .val (.pick (.t 30) (.t 36) (.c (.bool false))), none⟩,
    ⟨(some 4), .val (.mov (.t 37)), none⟩]
def g106_6 : List Am.Item := [
    ⟨(some 38), .val (.faddr 5 (.t 3)), none⟩,
    ⟨(some 39), .val (.load none (.t 38)), none⟩,
    ⟨(some 40), .call (.f 144) [(.t 39)], none⟩,
    ⟨(some 41), .val (.mov (.t 40)), none⟩,
    ⟨(some 42), .val (.faddr 6 (.t 3)), (some (41, true))⟩,
    ⟨(some 43), .val (.load none (.t 42)), (some (41, true))⟩,
    ⟨(some 44), .val (.bin .num .eql (.t 43) (.c (.int .i64 (-1)))), (some (41, true))⟩,
    ⟨(some 45), .val (.pick (.t 41) (.t 44) (.c (.bool false))), none⟩,
    ⟨(some 4), .val (.mov (.t 45)), none⟩]
def r106 : RC := .seq (.reg g106_0) (.seq (.seq (.reg g106_1) (.block 0 (.seq (.reg g106_2) (.cond (.t 7) (.seq (.reg g106_3) (.ret)) (.seq (.reg g106_4) (.cond (.t 25) (.seq (.reg g106_5) (.ret)) (.skip))))))) (.seq (.reg g106_6) (.ret)))
def o106 : List RR := [.tmp 4]
theorem k106 : chkC Tryz.prog 46 r106 (Tryz.f106.body.getD .skip) = true := by decide +kernel
theorem q106 : chkR Tryz.prog Tryz.f106.results.toList o106 = true := by decide +kernel

/- wireschema/plan.endless$1 -/
def g110_0 : List Am.Item := [
    ⟨(some 2), .boxN 2 (.t 0), none⟩,
    ⟨(some 3), .val (.mov (.c (.bool false))), none⟩]
def g110_1 : List Am.Item := [
    ⟨(some 4), .val (.faddr 3 (.t 2)), none⟩,
    ⟨(some 5), .val (.load none (.t 4)), none⟩,
    ⟨(some 6), .val (.bin .num .eql (.t 5) (.c (.int .i64 1))), none⟩,
    ⟨(some 7), .val (.mov (.t 6)), none⟩,
    ⟨(some 8), .val (.faddr 5 (.t 2)), (some (7, true))⟩,
    ⟨(some 9), .val (.load none (.t 8)), (some (7, true))⟩,
    ⟨(some 10), .val (.bin .num .eql (.t 9) (.c (.int .i64 10))), (some (7, true))⟩,
    ⟨(some 11), .val (.pick (.t 7) (.t 10) (.c (.bool false))), none⟩,
    ⟨(some 12), .val (.mov (.t 11)), none⟩,
    ⟨(some 13), .val (.load none (.t 1)), (some (12, true))⟩,
    ⟨(some 14), .val (.faddr 6 (.t 2)), (some (12, true))⟩,
    ⟨(some 15), .val (.load none (.t 14)), (some (12, true))⟩,
    ⟨(some 16), .val (.iaddr 1 none (.t 13) (.t 15)), (some (12, true))⟩,
    ⟨(some 17), .val (.load none (.t 16)), (some (12, true))⟩,
    ⟨(some 18), .val (.un .not (.t 17)), (some (12, true))⟩,
    ⟨(some 19), .val (.pick (.t 12) (.t 18) (.c (.bool false))), none⟩,
    ⟨(some 3), .val (.mov (.t 19)), none⟩]
def r110 : RC := .seq (.reg g110_0) (.seq (.reg g110_1) (.ret))
def o110 : List RR := [.tmp 3]
theorem k110 : chkC Tryz.prog 20 r110 (Tryz.f110.body.getD .skip) = true := by decide +kernel
theorem q110 : chkR Tryz.prog Tryz.f110.results.toList o110 = true := by decide +kernel

/- slices.Contains[[]bool,bool] -/
def g111_0 : List Am.Item := [
    ⟨(some 4), .val (.mov (.c (.bool false))), none⟩]
def g111_1 : List Am.Item := [
    ⟨(some 5), .val (.mov (.t 0)), none⟩,
    ⟨(some 6), .val (.mov (.t 1)), none⟩,
    ⟨(some 7), .call (.f 146) [(.t 5), (.t 6)], none⟩,
    ⟨(some 8), .val (.bin .num .geq (.t 7) (.c (.int .i64 0))), none⟩,
    ⟨(some 4), .val (.mov (.t 8)), none⟩]
def r111 : RC := .seq (.reg g111_0) (.seq (.reg g111_1) (.ret))
def o111 : List RR := [.tmp 4]
theorem k111 : chkC Tryz.prog 9 r111 (Tryz.f111.body.getD .skip) = true := by decide +kernel
theorem q111 : chkR Tryz.prog Tryz.f111.results.toList o111 = true := by decide +kernel

/- (wireschema/plan.examiner).slot$1 -/
def g112_0 : List Am.Item := [
    ⟨(some 2), .boxN 2 (.t 0), none⟩,
    ⟨(some 3), .val (.mov (.c (.bool false))), none⟩]
def g112_1 : List Am.Item := [
    ⟨(some 4), .val (.faddr 0 (.t 2)), none⟩,
    ⟨(some 5), .val (.load none (.t 4)), none⟩,
    ⟨(some 6), .val (.faddr 0 (.t 1)), none⟩,
    ⟨(some 7), .val (.load none (.t 6)), none⟩,
    ⟨(some 8), .val (.bin .num .eql (.t 5) (.t 7)), none⟩,
    ⟨(some 3), .val (.mov (.t 8)), none⟩]
def r112 : RC := .seq (.reg g112_0) (.seq (.reg g112_1) (.ret))
def o112 : List RR := [.tmp 3]
theorem k112 : chkC Tryz.prog 9 r112 (Tryz.f112.body.getD .skip) = true := by decide +kernel
theorem q112 : chkR Tryz.prog Tryz.f112.results.toList o112 = true := by decide +kernel

/- (wireschema/plan.examiner).field -/
def g113_0 : List Am.Item := [
    ⟨(some 4), .boxN 4 (.t 0), none⟩,
    ⟨(some 5), .boxN 5 (.t 1), none⟩,
    ⟨(some 6), .boxN 6 (.t 2), none⟩,
    ⟨(some 8), .val (.mov (.c (.int .i64 0))), none⟩]
def g113_1 : List Am.Item := [
    ⟨(some 12), .val (.faddr 3 (.t 5)), none⟩,
    ⟨(some 13), .val (.load none (.t 12)), none⟩]
def g113_2 : List Am.Item := [
    ⟨(some 15), .val (.bin .num .eql (.t 13) (.c (.int .i64 4))), none⟩,
    ⟨(some 14), .val (.mov (.t 15)), none⟩]
def g113_3 : List Am.Item := [
    ⟨(some 16), .val (.faddr 0 (.t 6)), none⟩,
    ⟨(some 17), .val (.load none (.t 16)), none⟩,
    ⟨(some 18), .val (.bin .num .neq (.t 17) (.c (.int .i64 11))), none⟩,
    ⟨(some 19), .val (.mov (.t 18)), none⟩,
    ⟨(some 20), .val (.load (some 7) (.t 6)), (some (19, false))⟩,
    ⟨(some 21), .call (.f 42) [(.t 20)], (some (19, false))⟩,
    ⟨(some 22), .val (.pick (.t 19) (.c (.bool true)) (.t 21)), none⟩]
def g113_4 : List Am.Item := [
    ⟨(some 8), .val (.mov (.c (.int .i64 12))), none⟩]
def g113_5 : List Am.Item := [
    ⟨(some 23), .val (.faddr 3 (.t 6)), none⟩,
    ⟨(some 24), .val (.load none (.t 23)), none⟩,
    ⟨(some 25), .val (.len 1 (.t 24)), none⟩,
    ⟨(some 26), .val (.mov (.c (.int .i64 0))), none⟩]
def g113_6 : List Am.Item := [
    ⟨(some 27), .val (.bin .num .lss (.t 26) (.t 25)), none⟩]
def g113_7 : List Am.Item := [
    ⟨(some 28), .val (.iaddr 7 none (.t 24) (.t 26)), none⟩,
    ⟨(some 29), .val (.load (some 7) (.t 28)), none⟩,
    ⟨(some 10), .allocN 10 [.int .i64 0, .int .u64 0, .str [], .nils, .nils, .nils, .nils], none⟩,
    ⟨none, .store 7 (.t 10) (.t 29), none⟩]
def g113_8 : List Am.Item := [
    ⟨(some 30), .val (.load (some 2) (.t 4)), none⟩,
    ⟨(some 31), .val (.load (some 8) (.t 5)), none⟩,
    ⟨(some 32), .val (.load (some 7) (.t 10)), none⟩,
    ⟨(some 33), .val (.mov (.t 3)), none⟩,
    ⟨(some 34), .call (.f 147) [(.t 30), (.t 31), (.t 32), (.t 33)], none⟩,
    ⟨(some 11), .val (.mov (.t 34)), none⟩]
def g113_9 : List Am.Item := [
    ⟨(some 35), .val (.mov (.t 11)), none⟩,
    ⟨(some 36), .val (.bin .num .neq (.t 35) (.c (.int .i64 0))), none⟩]
def g113_10 : List Am.Item := [
    ⟨(some 37), .val (.mov (.t 11)), none⟩,
    ⟨(some 8), .val (.mov (.t 37)), none⟩]
def g113_11 : List Am.Item := [
    ⟨(some 38), .val (.bin .num .add (.t 26) (.c (.int .i64 1))), none⟩,
    ⟨(some 26), .val (.mov (.t 38)), none⟩]
def l113_0 : RC := .gho (.drop 10) (.seq (.reg g113_6) (.seq (.cond (.t 27) (.skip) (.exit 1)) (.seq (.block 2 (.seq (.reg g113_7) (.seq (.reg g113_8) (.seq (.reg g113_9) (.cond (.t 36) (.seq (.reg g113_10) (.ret)) (.skip)))))) (.reg g113_11))))
def g113_12 : List Am.Item := [
    ⟨(some 8), .val (.mov (.c (.int .i64 0))), none⟩]
def g113_13 : List Am.Item := [
    ⟨(some 40), .val (.bin .num .eql (.t 13) (.c (.int .i64 5))), none⟩,
    ⟨(some 39), .val (.mov (.t 40)), none⟩]
def g113_14 : List Am.Item := [
    ⟨(some 41), .val (.faddr 0 (.t 6)), none⟩,
    ⟨(some 42), .val (.load none (.t 41)), none⟩,
    ⟨(some 43), .val (.bin .num .neq (.t 42) (.c (.int .i64 12))), none⟩,
    ⟨(some 44), .val (.mov (.t 43)), none⟩,
    ⟨(some 45), .val (.load (some 7) (.t 6)), (some (44, false))⟩,
    ⟨(some 46), .call (.f 42) [(.t 45)], (some (44, false))⟩,
    ⟨(some 47), .val (.pick (.t 44) (.c (.bool true)) (.t 46)), none⟩]
def g113_15 : List Am.Item := [
    ⟨(some 8), .val (.mov (.c (.int .i64 12))), none⟩]
def g113_16 : List Am.Item := [
    ⟨(some 48), .val (.load (some 2) (.t 4)), none⟩,
    ⟨(some 49), .val (.load (some 8) (.t 5)), none⟩,
    ⟨(some 50), .val (.faddr 4 (.t 6)), none⟩,
    ⟨(some 51), .val (.load none (.t 50)), none⟩,
    ⟨(some 52), .val (.mov (.t 3)), none⟩,
    ⟨(some 53), .call (.f 148) [(.t 48), (.t 49), (.t 51), (.t 52)], none⟩,
    ⟨(some 8), .val (.mov (.t 53)), none⟩]
def g113_17 : List Am.Item := [
    ⟨(some 54), .val (.load (some 2) (.t 4)), none⟩,
    ⟨(some 55), .val (.load (some 8) (.t 5)), none⟩,
    ⟨(some 56), .val (.load (some 7) (.t 6)), none⟩,
    ⟨(some 57), .val (.mov (.t 3)), none⟩,
    ⟨(some 58), .call (.f 147) [(.t 54), (.t 55), (.t 56), (.t 57)], none⟩,
    ⟨(some 8), .val (.mov (.t 58)), none⟩]
def r113 : RC := .seq (.reg g113_0) (.seq (.seq (.reg g113_1) (.block 0 (.seq (.reg g113_2) (.cond (.t 14) (.seq (.seq (.reg g113_3) (.cond (.t 22) (.seq (.reg g113_4) (.ret)) (.skip))) (.seq (.seq (.reg g113_5) (.block 1 (.loop l113_0))) (.seq (.reg g113_12) (.ret)))) (.seq (.reg g113_13) (.cond (.t 39) (.seq (.seq (.reg g113_14) (.cond (.t 47) (.seq (.reg g113_15) (.ret)) (.skip))) (.seq (.reg g113_16) (.ret))) (.skip))))))) (.seq (.reg g113_17) (.ret)))
def o113 : List RR := [.tmp 8]
theorem k113 : chkC Tryz.prog 59 r113 (Tryz.f113.body.getD .skip) = true := by decide +kernel
theorem q113 : chkR Tryz.prog Tryz.f113.results.toList o113 = true := by decide +kernel

/- slices.IndexFunc[[]wireschema/api.Slot,wireschema/api.Slot] -/
def g114_0 : List Am.Item := [
    ⟨(some 4), .val (.mov (.c (.int .i64 0))), none⟩]
def g114_1 : List Am.Item := [
    ⟨(some 6), .val (.mov (.t 0)), none⟩,
    ⟨(some 7), .val (.len 1 (.t 6)), none⟩,
    ⟨(some 8), .val (.mov (.c (.int .i64 0))), none⟩]
def g114_2 : List Am.Item := [
    ⟨(some 9), .val (.bin .num .lss (.t 8) (.t 7)), none⟩]
def g114_3 : List Am.Item := [
    ⟨(some 10), .val (.mov (.t 8)), none⟩,
    ⟨(some 5), .val (.mov (.t 10)), none⟩]
def g114_4 : List Am.Item := [
    ⟨(some 11), .val (.mov (.t 1)), none⟩,
    ⟨(some 12), .val (.mov (.t 0)), none⟩,
    ⟨(some 13), .val (.mov (.t 5)), none⟩,
    ⟨(some 14), .val (.iaddr 8 none (.t 12) (.t 13)), none⟩,
    ⟨(some 15), .val (.load (some 8) (.t 14)), none⟩,
    ⟨(some 16), .callF (.t 11) [(.t 15)], none⟩]
def g114_5 : List Am.Item := [
    ⟨(some 17), .val (.mov (.t 5)), none⟩,
    ⟨(some 4), .val (.mov (.t 17)), none⟩]
def g114_6 : List Am.Item := [
    ⟨(some 18), .val (.bin .num .add (.t 8) (.c (.int .i64 1))), none⟩,
    ⟨(some 8), .val (.mov (.t 18)), none⟩]
def l114_0 : RC := .seq (.reg g114_2) (.seq (.cond (.t 9) (.skip) (.exit 0)) (.seq (.block 1 (.seq (.reg g114_3) (.seq (.reg g114_4) (.cond (.t 16) (.seq (.reg g114_5) (.ret)) (.skip))))) (.reg g114_6)))
def g114_7 : List Am.Item := [
    ⟨(some 4), .val (.mov (.c (.int .i64 (-1)))), none⟩]
def r114 : RC := .seq (.reg g114_0) (.seq (.seq (.reg g114_1) (.block 0 (.loop l114_0))) (.seq (.reg g114_7) (.ret)))
def o114 : List RR := [.tmp 4]
theorem k114 : chkC Tryz.prog 19 r114 (Tryz.f114.body.getD .skip) = true := by decide +kernel
theorem q114 : chkR Tryz.prog Tryz.f114.results.toList o114 = true := by decide +kernel

/- slices.Clone[[]wireschema/api.Value,wireschema/api.Value] -/
def g116_0 : List Am.Item := [
    ⟨(some 2), .val (.mov (.c (.nils))), none⟩]
def g116_1 : List Am.Item := [
    ⟨(some 3), .val (.mov (.t 0)), none⟩,
    ⟨(some 4), .isnil false (.t 3), none⟩]
def g116_2 : List Am.Item := [
    ⟨(some 2), .val (.mov (.c (.nils))), none⟩]
def g116_3 : List Am.Item := [
    ⟨(some 5), .bsl0 5 7, none⟩,
    ⟨(some 6), .val (.mov (.t 0)), none⟩,
    ⟨(some 7), .app 7 128 28 (.t 5) (.t 6), none⟩,
    ⟨(some 2), .val (.mov (.t 7)), none⟩]
def r116 : RC := .seq (.reg g116_0) (.seq (.seq (.reg g116_1) (.cond (.t 4) (.seq (.reg g116_2) (.gho (.vec 2 2 7) (.gho (.give 2 2 1 1000) (.ret)))) (.skip))) (.seq (.reg g116_3) (.gho (.give 2 5 1 1000) (.ret))))
def o116 : List RR := [.tmp 2]
theorem k116 : chkC Tryz.prog 8 r116 (Tryz.f116.body.getD .skip) = true := by decide +kernel
theorem q116 : chkR Tryz.prog Tryz.f116.results.toList o116 = true := by decide +kernel

/- slices.Clone[[]wireschema/api.Slot,wireschema/api.Slot] -/
def g117_0 : List Am.Item := [
    ⟨(some 2), .val (.mov (.c (.nils))), none⟩]
def g117_1 : List Am.Item := [
    ⟨(some 3), .val (.mov (.t 0)), none⟩,
    ⟨(some 4), .isnil false (.t 3), none⟩]
def g117_2 : List Am.Item := [
    ⟨(some 2), .val (.mov (.c (.nils))), none⟩]
def g117_3 : List Am.Item := [
    ⟨(some 5), .bsl0 5 8, none⟩,
    ⟨(some 6), .val (.mov (.t 0)), none⟩,
    ⟨(some 7), .app 8 136 38 (.t 5) (.t 6), none⟩,
    ⟨(some 2), .val (.mov (.t 7)), none⟩]
def r117 : RC := .seq (.reg g117_0) (.seq (.seq (.reg g117_1) (.cond (.t 4) (.seq (.reg g117_2) (.gho (.vec 2 2 8) (.gho (.give 2 2 1 1000) (.ret)))) (.skip))) (.seq (.reg g117_3) (.gho (.give 2 5 1 1000) (.ret))))
def o117 : List RR := [.tmp 2]
theorem k117 : chkC Tryz.prog 8 r117 (Tryz.f117.body.getD .skip) = true := by decide +kernel
theorem q117 : chkR Tryz.prog Tryz.f117.results.toList o117 = true := by decide +kernel

/- slices.SortStableFunc[[]wireschema/api.Slot,wireschema/api.Slot] -/
def g118_0 : List Am.Item := [
    ⟨(some 4), .val (.mov (.t 0)), none⟩,
    ⟨(some 5), .val (.mov (.t 0)), none⟩,
    ⟨(some 6), .val (.len 1 (.t 5)), none⟩,
    ⟨(some 7), .val (.mov (.t 1)), none⟩,
    ⟨(some 8), .callF (.f 150) [(.t 4), (.t 6), (.t 7)], none⟩]
def r118 : RC := .reg g118_0
def o118 : List RR := []
theorem k118 : chkC Tryz.prog 9 r118 (Tryz.f118.body.getD .skip) = true := by decide +kernel
theorem q118 : chkR Tryz.prog Tryz.f118.results.toList o118 = true := by decide +kernel

/- wireschema/order.Slots$1 -/
def g119_0 : List Am.Item := [
    ⟨(some 2), .boxN 2 (.t 0), none⟩,
    ⟨(some 3), .boxN 3 (.t 1), none⟩,
    ⟨(some 4), .val (.mov (.c (.int .i64 0))), none⟩]
def g119_1 : List Am.Item := [
    ⟨(some 5), .val (.faddr 0 (.t 2)), none⟩,
    ⟨(some 6), .val (.load none (.t 5)), none⟩,
    ⟨(some 7), .val (.faddr 0 (.t 3)), none⟩,
    ⟨(some 8), .val (.load none (.t 7)), none⟩,
    ⟨(some 9), .call (.f 54) [(.t 6), (.t 8)], none⟩,
    ⟨(some 4), .val (.mov (.t 9)), none⟩]
def r119 : RC := .seq (.reg g119_0) (.seq (.reg g119_1) (.ret))
def o119 : List RR := [.tmp 4]
theorem k119 : chkC Tryz.prog 10 r119 (Tryz.f119.body.getD .skip) = true := by decide +kernel
theorem q119 : chkR Tryz.prog Tryz.f119.results.toList o119 = true := by decide +kernel

/- wireschema/plan.normElem -/
def g120_0 : List Am.Item := [
    ⟨(some 3), .boxN 3 (.t 0), none⟩,
    ⟨(some 4), .boxN 4 (.t 1), none⟩,
    ⟨(some 5), .boxN 5 (.t 2), none⟩,
    ⟨(some 6), .allocN 6 [.int .i64 0, .int .u64 0, .str [], .nils, .nils, .nils, .nils], none⟩]
def g120_1 : List Am.Item := [
    ⟨(some 7), .val (.faddr 5 (.t 4)), none⟩,
    ⟨(some 8), .val (.load none (.t 7)), none⟩,
    ⟨(some 9), .val (.bin .num .eql (.t 8) (.c (.int .i64 10))), none⟩]
def g120_2 : List Am.Item := [
    ⟨(some 10), .val (.load (some 2) (.t 3)), none⟩,
    ⟨(some 11), .val (.faddr 6 (.t 4)), none⟩,
    ⟨(some 12), .val (.load none (.t 11)), none⟩,
    ⟨(some 13), .val (.load (some 7) (.t 5)), none⟩,
    ⟨(some 14), .call (.f 31) [(.t 10), (.t 12), (.t 13)], none⟩,
    ⟨none, .store 7 (.t 6) (.t 14), none⟩]
def g120_3 : List Am.Item := [
    ⟨(some 15), .val (.load (some 7) (.t 5)), none⟩,
    ⟨(some 16), .call (.f 16) [(.t 15)], none⟩,
    ⟨none, .store 7 (.t 6) (.t 16), none⟩]
def r120 : RC := .seq (.reg g120_0) (.seq (.seq (.reg g120_1) (.cond (.t 9) (.seq (.reg g120_2) (.ret)) (.skip))) (.seq (.reg g120_3) (.ret)))
def o120 : List RR := [.cell 6 (some 7)]
theorem k120 : chkC Tryz.prog 17 r120 (Tryz.f120.body.getD .skip) = true := by decide +kernel
theorem q120 : chkR Tryz.prog Tryz.f120.results.toList o120 = true := by decide +kernel

/- wireschema/scalar.IsZero -/
def g122_0 : List Am.Item := [
    ⟨(some 1), .boxN 1 (.t 0), none⟩,
    ⟨(some 2), .val (.mov (.c (.bool false))), none⟩]
def g122_1 : List Am.Item := [
    ⟨(some 3), .val (.faddr 0 (.t 1)), none⟩,
    ⟨(some 4), .val (.load none (.t 3)), none⟩,
    ⟨(some 5), .call (.f 144) [(.t 4)], none⟩,
    ⟨(some 6), .val (.mov (.t 5)), none⟩,
    ⟨(some 7), .val (.load (some 7) (.t 1)), (some (6, true))⟩,
    ⟨(some 8), .call (.f 156) [(.t 7)], (some (6, true))⟩,
    ⟨(some 9), .val (.pick (.t 6) (.t 8) (.c (.bool false))), none⟩,
    ⟨(some 10), .val (.mov (.t 9)), none⟩,
    ⟨(some 11), .val (.faddr 1 (.t 1)), (some (10, true))⟩,
    ⟨(some 12), .val (.load none (.t 11)), (some (10, true))⟩,
    ⟨(some 13), .val (.bin .num .eql (.t 12) (.c (.int .u64 0))), (some (10, true))⟩,
    ⟨(some 14), .val (.pick (.t 10) (.t 13) (.c (.bool false))), none⟩,
    ⟨(some 15), .val (.mov (.t 14)), none⟩,
    ⟨(some 16), .val (.faddr 2 (.t 1)), (some (15, true))⟩,
    ⟨(some 17), .val (.load none (.t 16)), (some (15, true))⟩,
    ⟨(some 18), .val (.bin .str .eql (.t 17) (.c (.str []))), (some (15, true))⟩,
    ⟨(some 19), .val (.pick (.t 15) (.t 18) (.c (.bool false))), none⟩,
    ⟨(some 2), .val (.mov (.t 19)), none⟩]
def r122 : RC := .seq (.reg g122_0) (.seq (.reg g122_1) (.ret))
def o122 : List RR := [.tmp 2]
theorem k122 : chkC Tryz.prog 20 r122 (Tryz.f122.body.getD .skip) = true := by decide +kernel
theorem q122 : chkR Tryz.prog Tryz.f122.results.toList o122 = true := by decide +kernel

/- slices.stableCmpFunc[wireschema/api.Raw] -/
def g123_0 : List Am.Item := [
    ⟨(some 6), .val (.mov (.c (.int .i64 20))), none⟩]
def g123_1 : List Am.Item := [
    ⟨(some 10), .val (.mov (.t 6)), none⟩,
    ⟨(some 7), .val (.mov (.c (.int .i64 0))), none⟩,
    ⟨(some 8), .val (.mov (.t 10)), none⟩]
def g123_2 : List Am.Item := [
    ⟨(some 11), .val (.mov (.t 8)), none⟩,
    ⟨(some 12), .val (.mov (.t 1)), none⟩,
    ⟨(some 13), .val (.bin .num .leq (.t 11) (.t 12)), none⟩]
def g123_3 : List Am.Item := [
    ⟨(some 14), .val (.mov (.t 0)), none⟩,
    ⟨(some 15), .val (.mov (.t 7)), none⟩,
    ⟨(some 16), .val (.mov (.t 8)), none⟩,
    ⟨(some 17), .val (.mov (.t 2)), none⟩,
    ⟨(some 18), .callF (.f 157) [(.t 14), (.t 15), (.t 16), (.t 17)], none⟩]
def g123_4 : List Am.Item := [
    ⟨(some 19), .val (.mov (.t 8)), none⟩,
    ⟨(some 7), .val (.mov (.t 19)), none⟩]
def g123_5 : List Am.Item := [
    ⟨(some 20), .val (.mov (.t 8)), none⟩,
    ⟨(some 21), .val (.mov (.t 6)), none⟩,
    ⟨(some 22), .val (.bin .num .add (.t 20) (.t 21)), none⟩,
    ⟨(some 8), .val (.mov (.t 22)), none⟩]
def l123_0 : RC := .seq (.seq (.reg g123_2) (.cond (.t 13) (.skip) (.exit 0))) (.block 1 (.seq (.reg g123_3) (.seq (.reg g123_4) (.reg g123_5))))
def g123_6 : List Am.Item := [
    ⟨(some 23), .val (.mov (.t 0)), none⟩,
    ⟨(some 24), .val (.mov (.t 7)), none⟩,
    ⟨(some 25), .val (.mov (.t 1)), none⟩,
    ⟨(some 26), .val (.mov (.t 2)), none⟩,
    ⟨(some 27), .callF (.f 157) [(.t 23), (.t 24), (.t 25), (.t 26)], none⟩]
def g123_7 : List Am.Item := [
    ⟨(some 28), .val (.mov (.t 6)), none⟩,
    ⟨(some 29), .val (.mov (.t 1)), none⟩,
    ⟨(some 30), .val (.bin .num .lss (.t 28) (.t 29)), none⟩]
def g123_8 : List Am.Item := [
    ⟨(some 31), .val (.mov (.t 6)), none⟩,
    ⟨(some 32), .val (.bin .num .mul (.c (.int .i64 2)) (.t 31)), none⟩,
    ⟨(some 7), .val (.mov (.c (.int .i64 0))), none⟩,
    ⟨(some 8), .val (.mov (.t 32)), none⟩]
def g123_9 : List Am.Item := [
    ⟨(some 33), .val (.mov (.t 8)), none⟩,
    ⟨(some 34), .val (.mov (.t 1)), none⟩,
    ⟨(some 35), .val (.bin .num .leq (.t 33) (.t 34)), none⟩]
def g123_10 : List Am.Item := [
    ⟨(some 36), .val (.mov (.t 0)), none⟩,
    ⟨(some 37), .val (.mov (.t 7)), none⟩,
    ⟨(some 38), .val (.mov (.t 7)), none⟩,
    ⟨(some 39), .val (.mov (.t 6)), none⟩,
    ⟨(some 40), .val (.bin .num .add (.t 38) (.t 39)), none⟩,
    ⟨(some 41), .val (.mov (.t 8)), none⟩,
    ⟨(some 42), .val (.mov (.t 2)), none⟩,
    ⟨(some 43), .callF (.f 158) [(.t 36), (.t 37), (.t 40), (.t 41), (.t 42)], none⟩]
def g123_11 : List Am.Item := [
    ⟨(some 44), .val (.mov (.t 8)), none⟩,
    ⟨(some 7), .val (.mov (.t 44)), none⟩]
def g123_12 : List Am.Item := [
    ⟨(some 45), .val (.mov (.t 8)), none⟩,
    ⟨(some 46), .val (.mov (.t 6)), none⟩,
    ⟨(some 47), .val (.bin .num .mul (.c (.int .i64 2)) (.t 46)), none⟩,
    ⟨(some 48), .val (.bin .num .add (.t 45) (.t 47)), none⟩,
    ⟨(some 8), .val (.mov (.t 48)), none⟩]
def l123_1 : RC := .seq (.seq (.reg g123_9) (.cond (.t 35) (.skip) (.exit 4))) (.block 5 (.seq (.reg g123_10) (.seq (.reg g123_11) (.reg g123_12))))
def g123_13 : List Am.Item := [
    ⟨(some 49), .val (.mov (.t 7)), none⟩,
    ⟨(some 50), .val (.mov (.t 6)), none⟩,
    ⟨(some 51), .val (.bin .num .add (.t 49) (.t 50)), none⟩,
    ⟨(some 9), .val (.mov (.t 51)), none⟩]
def g123_14 : List Am.Item := [
    ⟨(some 52), .val (.mov (.t 9)), none⟩,
    ⟨(some 53), .val (.mov (.t 1)), none⟩,
    ⟨(some 54), .val (.bin .num .lss (.t 52) (.t 53)), none⟩]
def g123_15 : List Am.Item := [
    ⟨(some 55), .val (.mov (.t 0)), none⟩,
    ⟨(some 56), .val (.mov (.t 7)), none⟩,
    ⟨(some 57), .val (.mov (.t 9)), none⟩,
    ⟨(some 58), .val (.mov (.t 1)), none⟩,
    ⟨(some 59), .val (.mov (.t 2)), none⟩,
    ⟨(some 60), .callF (.f 158) [(.t 55), (.t 56), (.t 57), (.t 58), (.t 59)], none⟩]
def g123_16 : List Am.Item := [
    ⟨(some 61), .val (.mov (.t 6)), none⟩,
    ⟨(some 62), .val (.bin .num .mul (.t 61) (.c (.int .i64 2))), none⟩,
    ⟨(some 6), .val (.mov (.t 62)), none⟩]
def l123_2 : RC := .seq (.seq (.reg g123_7) (.cond (.t 30) (.skip) (.exit 2))) (.block 3 (.seq (.reg g123_8) (.seq (.block 4 (.loop l123_1)) (.seq (.seq (.reg g123_13) (.seq (.reg g123_14) (.cond (.t 54) (.reg g123_15) (.skip)))) (.reg g123_16)))))
def r123 : RC := .seq (.reg g123_0) (.seq (.reg g123_1) (.seq (.block 0 (.loop l123_0)) (.seq (.reg g123_6) (.block 2 (.loop l123_2)))))
def o123 : List RR := []
theorem k123 : chkC Tryz.prog 63 r123 (Tryz.f123.body.getD .skip) = true := by decide +kernel
theorem q123 : chkR Tryz.prog Tryz.f123.results.toList o123 = true := by decide +kernel

/- cmp.isNaN[int] -/
def g124_0 : List Am.Item := [
    ⟨(some 2), .val (.mov (.c (.bool false))), none⟩]
def g124_1 : List Am.Item := [
    ⟨(some 3), .val (.mov (.t 0)), none⟩,
    ⟨(some 4), .val (.mov (.t 0)), none⟩,
    ⟨(some 5), .val (.bin .num .neq (.t 3) (.t 4)), none⟩,
    ⟨(some 2), .val (.mov (.t 5)), none⟩]
def r124 : RC := .seq (.reg g124_0) (.seq (.reg g124_1) (.ret))
def o124 : List RR := [.tmp 2]
theorem k124 : chkC Tryz.prog 6 r124 (Tryz.f124.body.getD .skip) = true := by decide +kernel
theorem q124 : chkR Tryz.prog Tryz.f124.results.toList o124 = true := by decide +kernel

/- (*strings.Builder).copyCheck -/
def g125_0 : List Am.Item := [
    ⟨(some 2), .val (.mov (.t 0)), none⟩,
    ⟨(some 3), .val (.nilck (.t 2)), none⟩,
    ⟨(some 4), .val (.faddr 0 (.t 3)), none⟩,
    ⟨(some 5), .val (.load none (.t 4)), none⟩,
    ⟨(some 6), .val (.bin .ptr .eql (.t 5) (.c (.nilp))), none⟩]
def g125_1 : List Am.Item := [
    ⟨(some 7), .val (.mov (.t 0)), none⟩,
    ⟨(some 8), .val (.mov (.t 0)), none⟩,
    ⟨(some 9), .val (.toU (.t 8)), none⟩,
    ⟨(some 10), .val (.same (.t 9)), none⟩,
    ⟨(some 11), .val (.ofU 97 2 (.t 10)), none⟩,
    ⟨(some 12), .val (.nilck (.t 7)), none⟩,
    ⟨(some 13), .val (.faddr 0 (.t 12)), none⟩,
    ⟨none, .store 1 (.t 13) (.t 11), none⟩]
def g125_2 : List Am.Item := [
    ⟨(some 14), .val (.mov (.t 0)), none⟩,
    ⟨(some 15), .val (.nilck (.t 14)), none⟩,
    ⟨(some 16), .val (.faddr 0 (.t 15)), none⟩,
    ⟨(some 17), .val (.load none (.t 16)), none⟩,
    ⟨(some 18), .val (.mov (.t 0)), none⟩,
    ⟨(some 19), .val (.bin .ptr .neq (.t 17) (.t 18)), none⟩]
def r125 : RC := .seq (.reg g125_0) (.cond (.t 6) (.reg g125_1) (.seq (.reg g125_2) (.cond (.t 19) (.no) (.skip))))
def o125 : List RR := []
theorem k125 : chkC Tryz.prog 20 r125 (Tryz.f125.body.getD .skip) = true := by decide +kernel
theorem q125 : chkR Tryz.prog Tryz.f125.results.toList o125 = true := by decide +kernel

/- slices.IndexFunc[[]wireschema/api.Op,wireschema/api.Op] -/
def g126_0 : List Am.Item := [
    ⟨(some 4), .val (.mov (.c (.int .i64 0))), none⟩]
def g126_1 : List Am.Item := [
    ⟨(some 6), .val (.mov (.t 0)), none⟩,
    ⟨(some 7), .val (.len 1 (.t 6)), none⟩,
    ⟨(some 8), .val (.mov (.c (.int .i64 0))), none⟩]
def g126_2 : List Am.Item := [
    ⟨(some 9), .val (.bin .num .lss (.t 8) (.t 7)), none⟩]
def g126_3 : List Am.Item := [
    ⟨(some 10), .val (.mov (.t 8)), none⟩,
    ⟨(some 5), .val (.mov (.t 10)), none⟩]
def g126_4 : List Am.Item := [
    ⟨(some 11), .val (.mov (.t 1)), none⟩,
    ⟨(some 12), .val (.mov (.t 0)), none⟩,
    ⟨(some 13), .val (.mov (.t 5)), none⟩,
    ⟨(some 14), .val (.iaddr 8 none (.t 12) (.t 13)), none⟩,
    ⟨(some 15), .val (.load (some 8) (.t 14)), none⟩,
    ⟨(some 16), .callF (.t 11) [(.t 15)], none⟩]
def g126_5 : List Am.Item := [
    ⟨(some 17), .val (.mov (.t 5)), none⟩,
    ⟨(some 4), .val (.mov (.t 17)), none⟩]
def g126_6 : List Am.Item := [
    ⟨(some 18), .val (.bin .num .add (.t 8) (.c (.int .i64 1))), none⟩,
    ⟨(some 8), .val (.mov (.t 18)), none⟩]
def l126_0 : RC := .seq (.reg g126_2) (.seq (.cond (.t 9) (.skip) (.exit 0)) (.seq (.block 1 (.seq (.reg g126_3) (.seq (.reg g126_4) (.cond (.t 16) (.seq (.reg g126_5) (.ret)) (.skip))))) (.reg g126_6)))
def g126_7 : List Am.Item := [
    ⟨(some 4), .val (.mov (.c (.int .i64 (-1)))), none⟩]
def r126 : RC := .seq (.reg g126_0) (.seq (.seq (.reg g126_1) (.block 0 (.loop l126_0))) (.seq (.reg g126_7) (.ret)))
def o126 : List RR := [.tmp 4]
theorem k126 : chkC Tryz.prog 19 r126 (Tryz.f126.body.getD .skip) = true := by decide +kernel
theorem q126 : chkR Tryz.prog Tryz.f126.results.toList o126 = true := by decide +kernel

/- wireschema/tagenc.numbered -/
def g127_0 : List Am.Item := [
    ⟨(some 3), .boxN 3 (.t 1), none⟩,
    ⟨(some 4), .allocN 4 [.int .i64 0, .int .i64 0, .int .u64 0, .str []], none⟩]
def g127_1 : List Am.Item := [
    ⟨(some 5), .val (.mov (.t 0)), none⟩,
    ⟨(some 6), .val (.faddr 0 (.t 3)), none⟩,
    ⟨none, .store 1 (.t 6) (.t 5), none⟩]
def g127_2 : List Am.Item := [
    ⟨(some 7), .val (.load (some 4) (.t 3)), none⟩,
    ⟨none, .store 4 (.t 4) (.t 7), none⟩]
def r127 : RC := .seq (.reg g127_0) (.seq (.reg g127_1) (.seq (.reg g127_2) (.ret)))
def o127 : List RR := [.cell 4 (some 4)]
theorem k127 : chkC Tryz.prog 8 r127 (Tryz.f127.body.getD .skip) = true := by decide +kernel
theorem q127 : chkR Tryz.prog Tryz.f127.results.toList o127 = true := by decide +kernel

/- (wireschema/tagenc.writer).element -/
def g128_0 : List Am.Item := [
    ⟨(some 3), .boxN 3 (.t 0), none⟩,
    ⟨(some 4), .boxN 4 (.t 1), none⟩,
    ⟨(some 5), .boxN 5 (.t 2), none⟩,
    ⟨(some 6), .allocN 6 [.int .i64 0, .int .i64 0, .int .u64 0, .str []], none⟩]
def g128_1 : List Am.Item := [
    ⟨(some 7), .val (.faddr 5 (.t 4)), none⟩,
    ⟨(some 8), .val (.load none (.t 7)), none⟩,
    ⟨(some 9), .val (.bin .num .eql (.t 8) (.c (.int .i64 10))), none⟩]
def g128_2 : List Am.Item := [
    ⟨(some 10), .val (.load (some 2) (.t 3)), none⟩,
    ⟨(some 11), .val (.faddr 6 (.t 4)), none⟩,
    ⟨(some 12), .val (.load none (.t 11)), none⟩,
    ⟨(some 13), .val (.load (some 7) (.t 5)), none⟩,
    ⟨(some 14), .call (.f 22) [(.t 10), (.t 12), (.t 13)], none⟩,
    ⟨(some 15), .val (.build [.int .i64 0, .int .i64 0, .int .u64 0, .str []] [(1, 1, (.c (.int .i64 4))), (3, 1, (.t 14))]), none⟩,
    ⟨none, .store 4 (.t 6) (.t 15), none⟩]
def g128_3 : List Am.Item := [
    ⟨(some 16), .val (.load (some 7) (.t 5)), none⟩,
    ⟨(some 17), .call (.f 7) [(.t 16)], none⟩,
    ⟨none, .store 4 (.t 6) (.t 17), none⟩]
def r128 : RC := .seq (.reg g128_0) (.seq (.seq (.reg g128_1) (.cond (.t 9) (.seq (.reg g128_2) (.ret)) (.skip))) (.seq (.reg g128_3) (.ret)))
def o128 : List RR := [.cell 6 (some 4)]
theorem k128 : chkC Tryz.prog 18 r128 (Tryz.f128.body.getD .skip) = true := by decide +kernel
theorem q128 : chkR Tryz.prog Tryz.f128.results.toList o128 = true := by decide +kernel

/- wireschema/plan.Wire -/
def g129_0 : List Am.Item := [
    ⟨(some 1), .boxN 1 (.t 0), none⟩,
    ⟨(some 2), .val (.mov (.c (.int .i64 0))), none⟩]
def g129_1 : List Am.Item := [
    ⟨(some 4), .val (.faddr 3 (.t 1)), none⟩,
    ⟨(some 5), .val (.load none (.t 4)), none⟩,
    ⟨(some 6), .val (.bin .num .eql (.t 5) (.c (.int .i64 5))), none⟩,
    ⟨(some 3), .val (.mov (.t 6)), none⟩]
def g129_2 : List Am.Item := [
    ⟨(some 2), .val (.mov (.c (.int .i64 6))), none⟩]
def g129_3 : List Am.Item := [
    ⟨(some 8), .val (.load (some 8) (.t 1)), none⟩,
    ⟨(some 9), .call (.f 65) [(.t 8)], none⟩,
    ⟨(some 7), .val (.mov (.t 9)), none⟩]
def g129_4 : List Am.Item := [
    ⟨(some 2), .val (.mov (.c (.int .i64 5))), none⟩]
def g129_5 : List Am.Item := [
    ⟨(some 10), .val (.faddr 5 (.t 1)), none⟩,
    ⟨(some 11), .val (.load none (.t 10)), none⟩]
def g129_6 : List Am.Item := [
    ⟨(some 13), .val (.bin .num .eql (.t 11) (.c (.int .i64 1))), none⟩,
    ⟨(some 12), .val (.mov (.t 13)), none⟩]
def g129_7 : List Am.Item := [
    ⟨(some 14), .val (.bin .num .eql (.t 11) (.c (.int .i64 4))), none⟩,
    ⟨(some 12), .val (.mov (.t 14)), none⟩]
def g129_8 : List Am.Item := [
    ⟨(some 15), .val (.bin .num .eql (.t 11) (.c (.int .i64 5))), none⟩,
    ⟨(some 12), .val (.mov (.t 15)), none⟩]
def g129_9 : List Am.Item := [
    ⟨(some 16), .val (.bin .num .eql (.t 11) (.c (.int .i64 9))), none⟩,
    ⟨(some 12), .val (.mov (.t 16)), none⟩]
def g129_10 : List Am.Item := [
    ⟨(some 2), .val (.mov (.c (.int .i64 0))), none⟩]
def g129_11 : List Am.Item := [
    ⟨(some 18), .val (.bin .num .eql (.t 11) (.c (.int .i64 2))), none⟩,
    ⟨(some 17), .val (.mov (.t 18)), none⟩]
def g129_12 : List Am.Item := [
    ⟨(some 19), .val (.bin .num .eql (.t 11) (.c (.int .i64 3))), none⟩,
    ⟨(some 17), .val (.mov (.t 19)), none⟩]
def g129_13 : List Am.Item := [
    ⟨(some 2), .val (.mov (.c (.int .i64 1))), none⟩]
def g129_14 : List Am.Item := [
    ⟨(some 21), .val (.bin .num .eql (.t 11) (.c (.int .i64 6))), none⟩,
    ⟨(some 20), .val (.mov (.t 21)), none⟩]
def g129_15 : List Am.Item := [
    ⟨(some 2), .val (.mov (.c (.int .i64 2))), none⟩]
def g129_16 : List Am.Item := [
    ⟨(some 23), .val (.bin .num .eql (.t 11) (.c (.int .i64 7))), none⟩,
    ⟨(some 22), .val (.mov (.t 23)), none⟩]
def g129_17 : List Am.Item := [
    ⟨(some 24), .val (.bin .num .eql (.t 11) (.c (.int .i64 8))), none⟩,
    ⟨(some 22), .val (.mov (.t 24)), none⟩]
def g129_18 : List Am.Item := [
    ⟨(some 2), .val (.mov (.c (.int .i64 3))), none⟩]
def g129_19 : List Am.Item := [
    ⟨(some 26), .val (.bin .num .eql (.t 11) (.c (.int .i64 10))), none⟩,
    ⟨(some 25), .val (.mov (.t 26)), none⟩]
def g129_20 : List Am.Item := [
    ⟨(some 2), .val (.mov (.c (.int .i64 4))), none⟩]
def g129_21 : List Am.Item := [
    ⟨(some 2), .val (.mov (.c (.int .i64 (-1)))), none⟩]
def r129 : RC := .seq (.reg g129_0) (.seq (.block 0 (.seq (.reg g129_1) (.cond (.t 3) (.seq (.reg g129_2) (.ret)) (.seq (.reg g129_3) (.cond (.t 7) (.seq (.reg g129_4) (.ret)) (.skip)))))) (.seq (.seq (.reg g129_5) (.block 1 (.seq (.seq (.reg g129_6) (.cond (.t 12) (.skip) (.seq (.reg g129_7) (.cond (.t 12) (.skip) (.seq (.reg g129_8) (.cond (.t 12) (.skip) (.reg g129_9))))))) (.cond (.t 12) (.seq (.reg g129_10) (.ret)) (.seq (.seq (.reg g129_11) (.cond (.t 17) (.skip) (.reg g129_12))) (.cond (.t 17) (.seq (.reg g129_13) (.ret)) (.seq (.reg g129_14) (.cond (.t 20) (.seq (.reg g129_15) (.ret)) (.seq (.seq (.reg g129_16) (.cond (.t 22) (.skip) (.reg g129_17))) (.cond (.t 22) (.seq (.reg g129_18) (.ret)) (.seq (.reg g129_19) (.cond (.t 25) (.seq (.reg g129_20) (.ret)) (.skip))))))))))))) (.seq (.reg g129_21) (.ret))))
def o129 : List RR := [.tmp 2]
theorem k129 : chkC Tryz.prog 27 r129 (Tryz.f129.body.getD .skip) = true := by decide +kernel
theorem q129 : chkR Tryz.prog Tryz.f129.results.toList o129 = true := by decide +kernel

/- slices.ContainsFunc[[]wireschema/api.Prog,wireschema/api.Prog] -/
def g130_0 : List Am.Item := [
    ⟨(some 4), .val (.mov (.c (.bool false))), none⟩]
def g130_1 : List Am.Item := [
    ⟨(some 5), .val (.mov (.t 0)), none⟩,
    ⟨(some 6), .val (.mov (.t 1)), none⟩,
    ⟨(some 7), .callF (.f 26) [(.t 5), (.t 6)], none⟩,
    ⟨(some 8), .val (.bin .num .geq (.t 7) (.c (.int .i64 0))), none⟩,
    ⟨(some 4), .val (.mov (.t 8)), none⟩]
def r130 : RC := .seq (.reg g130_0) (.seq (.reg g130_1) (.ret))
def o130 : List RR := [.tmp 4]
theorem k130 : chkC Tryz.prog 9 r130 (Tryz.f130.body.getD .skip) = true := by decide +kernel
theorem q130 : chkR Tryz.prog Tryz.f130.results.toList o130 = true := by decide +kernel

/- slices.ContainsFunc[[]wireschema/api.Enum,wireschema/api.Enum] -/
def g131_0 : List Am.Item := [
    ⟨(some 4), .val (.mov (.c (.bool false))), none⟩]
def g131_1 : List Am.Item := [
    ⟨(some 5), .val (.mov (.t 0)), none⟩,
    ⟨(some 6), .val (.mov (.t 1)), none⟩,
    ⟨(some 7), .callF (.f 160) [(.t 5), (.t 6)], none⟩,
    ⟨(some 8), .val (.bin .num .geq (.t 7) (.c (.int .i64 0))), none⟩,
    ⟨(some 4), .val (.mov (.t 8)), none⟩]
def r131 : RC := .seq (.reg g131_0) (.seq (.reg g131_1) (.ret))
def o131 : List RR := [.tmp 4]
theorem k131 : chkC Tryz.prog 9 r131 (Tryz.f131.body.getD .skip) = true := by decide +kernel
theorem q131 : chkR Tryz.prog Tryz.f131.results.toList o131 = true := by decide +kernel

/- wireschema/ident.IsFull -/
def g132_0 : List Am.Item := [
    ⟨(some 2), .val (.mov (.c (.bool false))), none⟩]
def g132_1 : List Am.Item := [
    ⟨(some 5), .val (.mov (.t 0)), none⟩,
    ⟨(some 6), .call (.f 134) [(.t 5), (.c (.str [46]))], none⟩,
    ⟨(some 7), .val (.len 1 (.t 6)), none⟩,
    ⟨(some 8), .val (.mov (.c (.int .i64 0))), none⟩]
def g132_2 : List Am.Item := [
    ⟨(some 9), .val (.bin .num .lss (.t 8) (.t 7)), none⟩]
def g132_3 : List Am.Item := [
    ⟨(some 10), .val (.iaddr 1 none (.t 6) (.t 8)), none⟩,
    ⟨(some 11), .val (.load none (.t 10)), none⟩,
    ⟨(some 4), .val (.mov (.t 11)), none⟩]
def g132_4 : List Am.Item := [
    ⟨(some 12), .val (.mov (.t 4)), none⟩,
    ⟨(some 13), .call (.f 137) [(.t 12)], none⟩,
    ⟨(some 14), .val (.un .not (.t 13)), none⟩]
def g132_5 : List Am.Item := [
    ⟨(some 2), .val (.mov (.c (.bool false))), none⟩]
def g132_6 : List Am.Item := [
    ⟨(some 15), .val (.bin .num .add (.t 8) (.c (.int .i64 1))), none⟩,
    ⟨(some 8), .val (.mov (.t 15)), none⟩]
def l132_0 : RC := .seq (.reg g132_2) (.seq (.cond (.t 9) (.skip) (.exit 0)) (.seq (.block 1 (.seq (.reg g132_3) (.seq (.reg g132_4) (.cond (.t 14) (.seq (.reg g132_5) (.ret)) (.skip))))) (.reg g132_6)))
def g132_7 : List Am.Item := [
    ⟨(some 16), .val (.mov (.t 0)), none⟩,
    ⟨(some 17), .val (.len 0 (.t 16)), none⟩,
    ⟨(some 18), .val (.bin .num .leq (.t 17) (.c (.int .i64 120))), none⟩,
    ⟨(some 2), .val (.mov (.t 18)), none⟩]
def r132 : RC := .seq (.reg g132_0) (.seq (.seq (.reg g132_1) (.block 0 (.loop l132_0))) (.seq (.reg g132_7) (.ret)))
def o132 : List RR := [.tmp 2]
theorem k132 : chkC Tryz.prog 19 r132 (Tryz.f132.body.getD .skip) = true := by decide +kernel
theorem q132 : chkR Tryz.prog Tryz.f132.results.toList o132 = true := by decide +kernel

/- slices.ContainsFunc[[]string,string] -/
def g133_0 : List Am.Item := [
    ⟨(some 4), .val (.mov (.c (.bool false))), none⟩]
def g133_1 : List Am.Item := [
    ⟨(some 5), .val (.mov (.t 0)), none⟩,
    ⟨(some 6), .val (.mov (.t 1)), none⟩,
    ⟨(some 7), .callF (.f 161) [(.t 5), (.t 6)], none⟩,
    ⟨(some 8), .val (.bin .num .geq (.t 7) (.c (.int .i64 0))), none⟩,
    ⟨(some 4), .val (.mov (.t 8)), none⟩]
def r133 : RC := .seq (.reg g133_0) (.seq (.reg g133_1) (.ret))
def o133 : List RR := [.tmp 4]
theorem k133 : chkC Tryz.prog 9 r133 (Tryz.f133.body.getD .skip) = true := by decide +kernel
theorem q133 : chkR Tryz.prog Tryz.f133.results.toList o133 = true := by decide +kernel

/- strings.Split -/
def g134_0 : List Am.Item := [
    ⟨(some 4), .val (.mov (.c (.nils))), none⟩]
def g134_1 : List Am.Item := [
    ⟨(some 5), .val (.mov (.t 0)), none⟩,
    ⟨(some 6), .val (.mov (.t 1)), none⟩,
    ⟨(some 7), .call (.f 162) [(.t 5), (.t 6), (.c (.int .i64 0)), (.c (.int .i64 (-1)))], none⟩,
    ⟨(some 4), .val (.mov (.t 7)), none⟩]
def r134 : RC := .seq (.reg g134_0) (.seq (.reg g134_1) (.ret))
def o134 : List RR := [.tmp 4]
theorem k134 : chkC Tryz.prog 8 r134 (Tryz.f134.body.getD .skip) = true := by decide +kernel
theorem q134 : chkR Tryz.prog Tryz.f134.results.toList o134 = true := by decide +kernel

/- wireschema/ident.IsWord -/
def g135_0 : List Am.Item := [
    ⟨(some 2), .val (.mov (.c (.bool false))), none⟩]
def g135_1 : List Am.Item := [
    ⟨(some 3), .val (.mov (.t 0)), none⟩]
def g135_2 : List Am.Item := [
    ⟨(some 5), .val (.bin .str .eql (.t 3) (.c (.str [109, 101, 115, 115, 97, 103, 101]))), none⟩,
    ⟨(some 4), .val (.mov (.t 5)), none⟩]
def g135_3 : List Am.Item := [
    ⟨(some 6), .val (.bin .str .eql (.t 3) (.c (.str [101, 110, 117, 109]))), none⟩,
    ⟨(some 4), .val (.mov (.t 6)), none⟩]
def g135_4 : List Am.Item := [
    ⟨(some 7), .val (.bin .str .eql (.t 3) (.c (.str [115, 101, 114, 118, 105, 99, 101]))), none⟩,
    ⟨(some 4), .val (.mov (.t 7)), none⟩]
def g135_5 : List Am.Item := [
    ⟨(some 8), .val (.bin .str .eql (.t 3) (.c (.str [117, 110, 105, 111, 110]))), none⟩,
    ⟨(some 4), .val (.mov (.t 8)), none⟩]
def g135_6 : List Am.Item := [
    ⟨(some 9), .val (.bin .str .eql (.t 3) (.c (.str [109, 97, 112]))), none⟩,
    ⟨(some 4), .val (.mov (.t 9)), none⟩]
def g135_7 : List Am.Item := [
    ⟨(some 10), .val (.bin .str .eql (.t 3) (.c (.str [108, 105, 115, 116]))), none⟩,
    ⟨(some 4), .val (.mov (.t 10)), none⟩]
def g135_8 : List Am.Item := [
    ⟨(some 11), .val (.bin .str .eql (.t 3) (.c (.str [114, 101, 113, 117, 105, 114, 101, 100]))), none⟩,
    ⟨(some 4), .val (.mov (.t 11)), none⟩]
def g135_9 : List Am.Item := [
    ⟨(some 12), .val (.bin .str .eql (.t 3) (.c (.str [111, 112, 116, 105, 111, 110, 97, 108]))), none⟩,
    ⟨(some 4), .val (.mov (.t 12)), none⟩]
def g135_10 : List Am.Item := [
    ⟨(some 13), .val (.bin .str .eql (.t 3) (.c (.str [112, 108, 97, 105, 110]))), none⟩,
    ⟨(some 4), .val (.mov (.t 13)), none⟩]
def g135_11 : List Am.Item := [
    ⟨(some 14), .val (.bin .str .eql (.t 3) (.c (.str [100, 101, 102, 97, 117, 108, 116]))), none⟩,
    ⟨(some 4), .val (.mov (.t 14)), none⟩]
def g135_12 : List Am.Item := [
    ⟨(some 15), .val (.bin .str .eql (.t 3) (.c (.str [114, 101, 115, 101, 114, 118, 101, 100]))), none⟩,
    ⟨(some 4), .val (.mov (.t 15)), none⟩]
def g135_13 : List Am.Item := [
    ⟨(some 2), .val (.mov (.c (.bool true))), none⟩]
def g135_14 : List Am.Item := [
    ⟨(some 17), .val (.bin .str .eql (.t 3) (.c (.str [105, 109, 112, 111, 114, 116]))), none⟩,
    ⟨(some 16), .val (.mov (.t 17)), none⟩]
def g135_15 : List Am.Item := [
    ⟨(some 18), .val (.bin .str .eql (.t 3) (.c (.str [115, 112, 97, 99, 101]))), none⟩,
    ⟨(some 16), .val (.mov (.t 18)), none⟩]
def g135_16 : List Am.Item := [
    ⟨(some 19), .val (.bin .str .eql (.t 3) (.c (.str [114, 112, 99]))), none⟩,
    ⟨(some 16), .val (.mov (.t 19)), none⟩]
def g135_17 : List Am.Item := [
    ⟨(some 20), .val (.bin .str .eql (.t 3) (.c (.str [115, 116, 114, 101, 97, 109]))), none⟩,
    ⟨(some 16), .val (.mov (.t 20)), none⟩]
def g135_18 : List Am.Item := [
    ⟨(some 21), .val (.bin .str .eql (.t 3) (.c (.str [114, 101, 116, 117, 114, 110, 115]))), none⟩,
    ⟨(some 16), .val (.mov (.t 21)), none⟩]
def g135_19 : List Am.Item := [
    ⟨(some 22), .val (.bin .str .eql (.t 3) (.c (.str [111, 112, 101, 110]))), none⟩,
    ⟨(some 16), .val (.mov (.t 22)), none⟩]
def g135_20 : List Am.Item := [
    ⟨(some 23), .val (.bin .str .eql (.t 3) (.c (.str [116, 114, 117, 101]))), none⟩,
    ⟨(some 16), .val (.mov (.t 23)), none⟩]
def g135_21 : List Am.Item := [
    ⟨(some 24), .val (.bin .str .eql (.t 3) (.c (.str [102, 97, 108, 115, 101]))), none⟩,
    ⟨(some 16), .val (.mov (.t 24)), none⟩]
def g135_22 : List Am.Item := [
    ⟨(some 25), .val (.bin .str .eql (.t 3) (.c (.str [110, 97, 110]))), none⟩,
    ⟨(some 16), .val (.mov (.t 25)), none⟩]
def g135_23 : List Am.Item := [
    ⟨(some 26), .val (.bin .str .eql (.t 3) (.c (.str [105, 110, 102]))), none⟩,
    ⟨(some 16), .val (.mov (.t 26)), none⟩]
def g135_24 : List Am.Item := [
    ⟨(some 2), .val (.mov (.c (.bool true))), none⟩]
def g135_25 : List Am.Item := [
    ⟨(some 2), .val (.mov (.c (.bool false))), none⟩]
def r135 : RC := .seq (.reg g135_0) (.seq (.seq (.reg g135_1) (.block 0 (.seq (.seq (.reg g135_2) (.cond (.t 4) (.skip) (.seq (.reg g135_3) (.cond (.t 4) (.skip) (.seq (.reg g135_4) (.cond (.t 4) (.skip) (.seq (.reg g135_5) (.cond (.t 4) (.skip) (.seq (.reg g135_6) (.cond (.t 4) (.skip) (.seq (.reg g135_7) (.cond (.t 4) (.skip) (.seq (.reg g135_8) (.cond (.t 4) (.skip) (.seq (.reg g135_9) (.cond (.t 4) (.skip) (.seq (.reg g135_10) (.cond (.t 4) (.skip) (.seq (.reg g135_11) (.cond (.t 4) (.skip) (.reg g135_12))))))))))))))))))))) (.cond (.t 4) (.seq (.reg g135_13) (.ret)) (.seq (.seq (.reg g135_14) (.cond (.t 16) (.skip) (.seq (.reg g135_15) (.cond (.t 16) (.skip) (.seq (.reg g135_16) (.cond (.t 16) (.skip) (.seq (.reg g135_17) (.cond (.t 16) (.skip) (.seq (.reg g135_18) (.cond (.t 16) (.skip) (.seq (.reg g135_19) (.cond (.t 16) (.skip) (.seq (.reg g135_20) (.cond (.t 16) (.skip) (.seq (.reg g135_21) (.cond (.t 16) (.skip) (.seq (.reg g135_22) (.cond (.t 16) (.skip) (.reg g135_23))))))))))))))))))) (.cond (.t 16) (.seq (.reg g135_24) (.ret)) (.skip))))))) (.seq (.reg g135_25) (.ret)))
def o135 : List RR := [.tmp 2]
theorem k135 : chkC Tryz.prog 27 r135 (Tryz.f135.body.getD .skip) = true := by decide +kernel
theorem q135 : chkR Tryz.prog Tryz.f135.results.toList o135 = true := by decide +kernel

/- slices.ContainsFunc[[]wireschema/api.Op,wireschema/api.Op] -/
def g136_0 : List Am.Item := [
    ⟨(some 4), .val (.mov (.c (.bool false))), none⟩]
def g136_1 : List Am.Item := [
    ⟨(some 5), .val (.mov (.t 0)), none⟩,
    ⟨(some 6), .val (.mov (.t 1)), none⟩,
    ⟨(some 7), .callF (.f 126) [(.t 5), (.t 6)], none⟩,
    ⟨(some 8), .val (.bin .num .geq (.t 7) (.c (.int .i64 0))), none⟩,
    ⟨(some 4), .val (.mov (.t 8)), none⟩]
def r136 : RC := .seq (.reg g136_0) (.seq (.reg g136_1) (.ret))
def o136 : List RR := [.tmp 4]
theorem k136 : chkC Tryz.prog 9 r136 (Tryz.f136.body.getD .skip) = true := by decide +kernel
theorem q136 : chkR Tryz.prog Tryz.f136.results.toList o136 = true := by decide +kernel

/- wireschema/ident.IsPart -/
def g137_0 : List Am.Item := [
    ⟨(some 2), .val (.mov (.c (.bool false))), none⟩]
def g137_1 : List Am.Item := [
    ⟨(some 6), .val (.mov (.t 0)), none⟩,
    ⟨(some 7), .rngs 7 (.t 6), none⟩]
def g137_2 : List Am.Item := [
    ⟨(some 8), .nxts (.t 7), none⟩,
    ⟨(some 9), .val (.ext (.t 8) 0), none⟩]
def g137_3 : List Am.Item := [
    ⟨(some 10), .val (.ext (.t 8) 1), none⟩,
    ⟨(some 11), .val (.ext (.t 8) 2), none⟩,
    ⟨(some 3), .val (.mov (.t 10)), none⟩,
    ⟨(some 4), .val (.mov (.t 11)), none⟩]
def g137_4 : List Am.Item := [
    ⟨(some 12), .val (.mov (.t 4)), none⟩,
    ⟨(some 13), .call (.f 163) [(.t 12)], none⟩,
    ⟨(some 5), .val (.mov (.t 13)), none⟩]
def g137_5 : List Am.Item := [
    ⟨(some 14), .val (.mov (.t 5)), none⟩,
    ⟨(some 15), .val (.bin .num .eql (.t 14) (.c (.int .i64 0))), none⟩,
    ⟨(some 16), .val (.mov (.t 15)), none⟩,
    ⟨(some 17), .val (.mov (.t 3)), (some (16, false))⟩,
    ⟨(some 18), .val (.bin .num .eql (.t 17) (.c (.int .i64 0))), (some (16, false))⟩,
    ⟨(some 19), .val (.mov (.t 18)), (some (16, false))⟩,
    ⟨(some 20), .val (.mov (.t 5)), (some (19, true))⟩,
    ⟨(some 21), .val (.bin .num .neq (.t 20) (.c (.int .i64 1))), (some (19, true))⟩,
    ⟨(some 22), .val (.pick (.t 19) (.t 21) (.c (.bool false))), (some (16, false))⟩,
    ⟨(some 23), .val (.mov (.t 22)), (some (16, false))⟩,
    ⟨(some 24), .val (.mov (.t 5)), (some (23, true))⟩,
    ⟨(some 25), .val (.bin .num .neq (.t 24) (.c (.int .i64 2))), (some (23, true))⟩,
    ⟨(some 26), .val (.pick (.t 23) (.t 25) (.c (.bool false))), (some (16, false))⟩,
    ⟨(some 27), .val (.pick (.t 16) (.c (.bool true)) (.t 26)), none⟩]
def g137_6 : List Am.Item := [
    ⟨(some 2), .val (.mov (.c (.bool false))), none⟩]
def l137_0 : RC := .seq (.reg g137_2) (.seq (.cond (.t 9) (.skip) (.exit 0)) (.block 1 (.seq (.reg g137_3) (.seq (.reg g137_4) (.seq (.reg g137_5) (.cond (.t 27) (.seq (.reg g137_6) (.ret)) (.skip)))))))
def g137_7 : List Am.Item := [
    ⟨(some 28), .val (.mov (.t 0)), none⟩,
    ⟨(some 29), .val (.len 0 (.t 28)), none⟩,
    ⟨(some 30), .val (.bin .num .geq (.t 29) (.c (.int .i64 1))), none⟩,
    ⟨(some 31), .val (.mov (.t 30)), none⟩,
    ⟨(some 32), .val (.mov (.t 0)), (some (31, true))⟩,
    ⟨(some 33), .val (.len 0 (.t 32)), (some (31, true))⟩,
    ⟨(some 34), .val (.bin .num .leq (.t 33) (.c (.int .i64 40))), (some (31, true))⟩,
    ⟨(some 35), .val (.pick (.t 31) (.t 34) (.c (.bool false))), none⟩,
    ⟨(some 2), .val (.mov (.t 35)), none⟩]
def r137 : RC := .seq (.reg g137_0) (.seq (.seq (.reg g137_1) (.block 0 (.loop l137_0))) (.seq (.reg g137_7) (.ret)))
def o137 : List RR := [.tmp 2]
theorem k137 : chkC Tryz.prog 36 r137 (Tryz.f137.body.getD .skip) = true := by decide +kernel
theorem q137 : chkR Tryz.prog Tryz.f137.results.toList o137 = true := by decide +kernel

/- wireschema/plan.repeated[wireschema/api.Op]$1 -/
def g139_0 : List Am.Item := [
    ⟨(some 3), .boxN 3 (.t 0), none⟩,
    ⟨(some 4), .val (.mov (.c (.bool false))), none⟩]
def g139_1 : List Am.Item := [
    ⟨(some 5), .val (.load none (.t 1)), none⟩,
    ⟨(some 6), .val (.loadv 0 3 (some 8) (.t 3)), none⟩,
    ⟨(some 7), .call (.t 5) [(.t 6)], none⟩,
    ⟨(some 8), .val (.load none (.t 1)), none⟩,
    ⟨(some 9), .val (.load (some 8) (.t 2)), none⟩,
    ⟨(some 10), .call (.t 8) [(.t 9)], none⟩,
    ⟨(some 11), .val (.bin .str .eql (.t 7) (.t 10)), none⟩,
    ⟨(some 4), .val (.mov (.t 11)), none⟩]
def r139 : RC := .seq (.reg g139_0) (.seq (.draw g139_1) (.ret))
def o139 : List RR := [.tmp 4]
theorem k139 : chkC Tryz.prog 12 r139 (Tryz.f139.body.getD .skip) = true := by decide +kernel
theorem q139 : chkR Tryz.prog Tryz.f139.results.toList o139 = true := by decide +kernel

/- wireschema/utf.Bad -/
def g143_0 : List Am.Item := [
    ⟨(some 2), .val (.mov (.c (.int .i64 0))), none⟩]
def g143_1 : List Am.Item := [
    ⟨(some 5), .val (.mov (.t 0)), none⟩,
    ⟨(some 6), .rngs 6 (.t 5), none⟩]
def g143_2 : List Am.Item := [
    ⟨(some 7), .nxts (.t 6), none⟩,
    ⟨(some 8), .val (.ext (.t 7) 0), none⟩]
def g143_3 : List Am.Item := [
    ⟨(some 9), .val (.ext (.t 7) 1), none⟩,
    ⟨(some 10), .val (.ext (.t 7) 2), none⟩,
    ⟨(some 3), .val (.mov (.t 9)), none⟩,
    ⟨(some 4), .val (.mov (.t 10)), none⟩]
def g143_4 : List Am.Item := [
    ⟨(some 11), .val (.mov (.t 0)), none⟩,
    ⟨(some 12), .val (.mov (.t 3)), none⟩,
    ⟨(some 13), .val (.mov (.t 4)), none⟩,
    ⟨(some 14), .call (.f 167) [(.t 11), (.t 12), (.t 13)], none⟩]
def g143_5 : List Am.Item := [
    ⟨(some 15), .val (.mov (.t 3)), none⟩,
    ⟨(some 2), .val (.mov (.t 15)), none⟩]
def l143_0 : RC := .seq (.reg g143_2) (.seq (.cond (.t 8) (.skip) (.exit 0)) (.block 1 (.seq (.reg g143_3) (.seq (.reg g143_4) (.cond (.t 14) (.seq (.reg g143_5) (.ret)) (.skip))))))
def g143_6 : List Am.Item := [
    ⟨(some 2), .val (.mov (.c (.int .i64 (-1)))), none⟩]
def r143 : RC := .seq (.reg g143_0) (.seq (.seq (.reg g143_1) (.block 0 (.loop l143_0))) (.seq (.reg g143_6) (.ret)))
def o143 : List RR := [.tmp 2]
theorem k143 : chkC Tryz.prog 16 r143 (Tryz.f143.body.getD .skip) = true := by decide +kernel
theorem q143 : chkR Tryz.prog Tryz.f143.results.toList o143 = true := by decide +kernel

/- wireschema/scalar.Is -/
def g144_0 : List Am.Item := [
    ⟨(some 2), .val (.mov (.c (.bool false))), none⟩]
def g144_1 : List Am.Item := [
    ⟨(some 3), .val (.mov (.t 0)), none⟩,
    ⟨(some 4), .val (.bin .num .geq (.t 3) (.c (.int .i64 1))), none⟩,
    ⟨(some 5), .val (.mov (.t 4)), none⟩,
    ⟨(some 6), .val (.mov (.t 0)), (some (5, true))⟩,
    ⟨(some 7), .val (.bin .num .leq (.t 6) (.c (.int .i64 9))), (some (5, true))⟩,
    ⟨(some 8), .val (.pick (.t 5) (.t 7) (.c (.bool false))), none⟩,
    ⟨(some 2), .val (.mov (.t 8)), none⟩]
def r144 : RC := .seq (.reg g144_0) (.seq (.reg g144_1) (.ret))
def o144 : List RR := [.tmp 2]
theorem k144 : chkC Tryz.prog 9 r144 (Tryz.f144.body.getD .skip) = true := by decide +kernel
theorem q144 : chkR Tryz.prog Tryz.f144.results.toList o144 = true := by decide +kernel

/- slices.Index[[]bool,bool] -/
def g146_0 : List Am.Item := [
    ⟨(some 4), .val (.mov (.c (.int .i64 0))), none⟩]
def g146_1 : List Am.Item := [
    ⟨(some 6), .val (.mov (.t 0)), none⟩,
    ⟨(some 7), .val (.len 1 (.t 6)), none⟩,
    ⟨(some 8), .val (.mov (.c (.int .i64 0))), none⟩]
def g146_2 : List Am.Item := [
    ⟨(some 9), .val (.bin .num .lss (.t 8) (.t 7)), none⟩]
def g146_3 : List Am.Item := [
    ⟨(some 10), .val (.mov (.t 8)), none⟩,
    ⟨(some 5), .val (.mov (.t 10)), none⟩]
def g146_4 : List Am.Item := [
    ⟨(some 11), .val (.mov (.t 1)), none⟩,
    ⟨(some 12), .val (.mov (.t 0)), none⟩,
    ⟨(some 13), .val (.mov (.t 5)), none⟩,
    ⟨(some 14), .val (.iaddr 1 none (.t 12) (.t 13)), none⟩,
    ⟨(some 15), .val (.load none (.t 14)), none⟩,
    ⟨(some 16), .val (.bin .bool .eql (.t 11) (.t 15)), none⟩]
def g146_5 : List Am.Item := [
    ⟨(some 17), .val (.mov (.t 5)), none⟩,
    ⟨(some 4), .val (.mov (.t 17)), none⟩]
def g146_6 : List Am.Item := [
    ⟨(some 18), .val (.bin .num .add (.t 8) (.c (.int .i64 1))), none⟩,
    ⟨(some 8), .val (.mov (.t 18)), none⟩]
def l146_0 : RC := .seq (.reg g146_2) (.seq (.cond (.t 9) (.skip) (.exit 0)) (.seq (.block 1 (.seq (.reg g146_3) (.seq (.reg g146_4) (.cond (.t 16) (.seq (.reg g146_5) (.ret)) (.skip))))) (.reg g146_6)))
def g146_7 : List Am.Item := [
    ⟨(some 4), .val (.mov (.c (.int .i64 (-1)))), none⟩]
def r146 : RC := .seq (.reg g146_0) (.seq (.seq (.reg g146_1) (.block 0 (.loop l146_0))) (.seq (.reg g146_7) (.ret)))
def o146 : List RR := [.tmp 4]
theorem k146 : chkC Tryz.prog 19 r146 (Tryz.f146.body.getD .skip) = true := by decide +kernel
theorem q146 : chkR Tryz.prog Tryz.f146.results.toList o146 = true := by decide +kernel

/- (wireschema/plan.examiner).elem -/
def g147_0 : List Am.Item := [
    ⟨(some 4), .boxN 4 (.t 0), none⟩,
    ⟨(some 5), .boxN 5 (.t 1), none⟩,
    ⟨(some 6), .boxN 6 (.t 2), none⟩,
    ⟨(some 8), .val (.mov (.c (.int .i64 0))), none⟩]
def g147_1 : List Am.Item := [
    ⟨(some 9), .val (.faddr 5 (.t 5)), none⟩,
    ⟨(some 10), .val (.load none (.t 9)), none⟩,
    ⟨(some 11), .val (.bin .num .eql (.t 10) (.c (.int .i64 10))), none⟩]
def g147_2 : List Am.Item := [
    ⟨(some 12), .val (.loadv 0 4 (some 2) (.t 4)), none⟩,
    ⟨(some 13), .val (.faddr 0 (.t 4)), none⟩,
    ⟨(some 14), .val (.faddr 0 (.t 13)), none⟩,
    ⟨(some 15), .val (.loadv 0 4 none (.t 14)), none⟩,
    ⟨(some 16), .val (.faddr 6 (.t 5)), none⟩,
    ⟨(some 17), .val (.loadv 0 5 none (.t 16)), none⟩,
    ⟨(some 18), .val (.iaddr 3 none (.t 15) (.t 17)), none⟩,
    ⟨(some 19), .val (.loadr (some 3) (.t 18)), none⟩,
    ⟨(some 20), .val (.loadv 0 6 (some 7) (.t 6)), none⟩,
    ⟨(some 21), .val (.mov (.t 3)), none⟩,
    ⟨(some 22), .val (.bin .num .add (.t 21) (.c (.int .i64 1))), none⟩,
    ⟨(some 23), .call (.f 29) [(.t 12), (.t 19), (.t 20), (.t 22)], none⟩,
    ⟨(some 8), .val (.mov (.t 23)), none⟩]
def g147_3 : List Am.Item := [
    ⟨(some 24), .val (.load (some 2) (.t 4)), none⟩,
    ⟨(some 25), .val (.faddr 5 (.t 5)), none⟩,
    ⟨(some 26), .val (.load none (.t 25)), none⟩,
    ⟨(some 27), .val (.faddr 6 (.t 5)), none⟩,
    ⟨(some 28), .val (.load none (.t 27)), none⟩,
    ⟨(some 29), .val (.load (some 7) (.t 6)), none⟩,
    ⟨(some 30), .call (.f 170) [(.t 24), (.t 26), (.t 28), (.t 29)], none⟩,
    ⟨(some 8), .val (.mov (.t 30)), none⟩]
def r147 : RC := .seq (.reg g147_0) (.seq (.seq (.reg g147_1) (.cond (.t 11) (.seq (.draw g147_2) (.ret)) (.skip))) (.seq (.reg g147_3) (.ret)))
def o147 : List RR := [.tmp 8]
theorem k147 : chkC Tryz.prog 31 r147 (Tryz.f147.body.getD .skip) = true := by decide +kernel
theorem q147 : chkR Tryz.prog Tryz.f147.results.toList o147 = true := by decide +kernel

/- slices.stableCmpFunc[wireschema/api.Slot] -/
def g150_0 : List Am.Item := [
    ⟨(some 6), .val (.mov (.c (.int .i64 20))), none⟩]
def g150_1 : List Am.Item := [
    ⟨(some 10), .val (.mov (.t 6)), none⟩,
    ⟨(some 7), .val (.mov (.c (.int .i64 0))), none⟩,
    ⟨(some 8), .val (.mov (.t 10)), none⟩]
def g150_2 : List Am.Item := [
    ⟨(some 11), .val (.mov (.t 8)), none⟩,
    ⟨(some 12), .val (.mov (.t 1)), none⟩,
    ⟨(some 13), .val (.bin .num .leq (.t 11) (.t 12)), none⟩]
def g150_3 : List Am.Item := [
    ⟨(some 14), .val (.mov (.t 0)), none⟩,
    ⟨(some 15), .val (.mov (.t 7)), none⟩,
    ⟨(some 16), .val (.mov (.t 8)), none⟩,
    ⟨(some 17), .val (.mov (.t 2)), none⟩,
    ⟨(some 18), .callF (.f 173) [(.t 14), (.t 15), (.t 16), (.t 17)], none⟩]
def g150_4 : List Am.Item := [
    ⟨(some 19), .val (.mov (.t 8)), none⟩,
    ⟨(some 7), .val (.mov (.t 19)), none⟩]
def g150_5 : List Am.Item := [
    ⟨(some 20), .val (.mov (.t 8)), none⟩,
    ⟨(some 21), .val (.mov (.t 6)), none⟩,
    ⟨(some 22), .val (.bin .num .add (.t 20) (.t 21)), none⟩,
    ⟨(some 8), .val (.mov (.t 22)), none⟩]
def l150_0 : RC := .seq (.seq (.reg g150_2) (.cond (.t 13) (.skip) (.exit 0))) (.block 1 (.seq (.reg g150_3) (.seq (.reg g150_4) (.reg g150_5))))
def g150_6 : List Am.Item := [
    ⟨(some 23), .val (.mov (.t 0)), none⟩,
    ⟨(some 24), .val (.mov (.t 7)), none⟩,
    ⟨(some 25), .val (.mov (.t 1)), none⟩,
    ⟨(some 26), .val (.mov (.t 2)), none⟩,
    ⟨(some 27), .callF (.f 173) [(.t 23), (.t 24), (.t 25), (.t 26)], none⟩]
def g150_7 : List Am.Item := [
    ⟨(some 28), .val (.mov (.t 6)), none⟩,
    ⟨(some 29), .val (.mov (.t 1)), none⟩,
    ⟨(some 30), .val (.bin .num .lss (.t 28) (.t 29)), none⟩]
def g150_8 : List Am.Item := [
    ⟨(some 31), .val (.mov (.t 6)), none⟩,
    ⟨(some 32), .val (.bin .num .mul (.c (.int .i64 2)) (.t 31)), none⟩,
    ⟨(some 7), .val (.mov (.c (.int .i64 0))), none⟩,
    ⟨(some 8), .val (.mov (.t 32)), none⟩]
def g150_9 : List Am.Item := [
    ⟨(some 33), .val (.mov (.t 8)), none⟩,
    ⟨(some 34), .val (.mov (.t 1)), none⟩,
    ⟨(some 35), .val (.bin .num .leq (.t 33) (.t 34)), none⟩]
def g150_10 : List Am.Item := [
    ⟨(some 36), .val (.mov (.t 0)), none⟩,
    ⟨(some 37), .val (.mov (.t 7)), none⟩,
    ⟨(some 38), .val (.mov (.t 7)), none⟩,
    ⟨(some 39), .val (.mov (.t 6)), none⟩,
    ⟨(some 40), .val (.bin .num .add (.t 38) (.t 39)), none⟩,
    ⟨(some 41), .val (.mov (.t 8)), none⟩,
    ⟨(some 42), .val (.mov (.t 2)), none⟩,
    ⟨(some 43), .callF (.f 174) [(.t 36), (.t 37), (.t 40), (.t 41), (.t 42)], none⟩]
def g150_11 : List Am.Item := [
    ⟨(some 44), .val (.mov (.t 8)), none⟩,
    ⟨(some 7), .val (.mov (.t 44)), none⟩]
def g150_12 : List Am.Item := [
    ⟨(some 45), .val (.mov (.t 8)), none⟩,
    ⟨(some 46), .val (.mov (.t 6)), none⟩,
    ⟨(some 47), .val (.bin .num .mul (.c (.int .i64 2)) (.t 46)), none⟩,
    ⟨(some 48), .val (.bin .num .add (.t 45) (.t 47)), none⟩,
    ⟨(some 8), .val (.mov (.t 48)), none⟩]
def l150_1 : RC := .seq (.seq (.reg g150_9) (.cond (.t 35) (.skip) (.exit 4))) (.block 5 (.seq (.reg g150_10) (.seq (.reg g150_11) (.reg g150_12))))
def g150_13 : List Am.Item := [
    ⟨(some 49), .val (.mov (.t 7)), none⟩,
    ⟨(some 50), .val (.mov (.t 6)), none⟩,
    ⟨(some 51), .val (.bin .num .add (.t 49) (.t 50)), none⟩,
    ⟨(some 9), .val (.mov (.t 51)), none⟩]
def g150_14 : List Am.Item := [
    ⟨(some 52), .val (.mov (.t 9)), none⟩,
    ⟨(some 53), .val (.mov (.t 1)), none⟩,
    ⟨(some 54), .val (.bin .num .lss (.t 52) (.t 53)), none⟩]
def g150_15 : List Am.Item := [
    ⟨(some 55), .val (.mov (.t 0)), none⟩,
    ⟨(some 56), .val (.mov (.t 7)), none⟩,
    ⟨(some 57), .val (.mov (.t 9)), none⟩,
    ⟨(some 58), .val (.mov (.t 1)), none⟩,
    ⟨(some 59), .val (.mov (.t 2)), none⟩,
    ⟨(some 60), .callF (.f 174) [(.t 55), (.t 56), (.t 57), (.t 58), (.t 59)], none⟩]
def g150_16 : List Am.Item := [
    ⟨(some 61), .val (.mov (.t 6)), none⟩,
    ⟨(some 62), .val (.bin .num .mul (.t 61) (.c (.int .i64 2))), none⟩,
    ⟨(some 6), .val (.mov (.t 62)), none⟩]
def l150_2 : RC := .seq (.seq (.reg g150_7) (.cond (.t 30) (.skip) (.exit 2))) (.block 3 (.seq (.reg g150_8) (.seq (.block 4 (.loop l150_1)) (.seq (.seq (.reg g150_13) (.seq (.reg g150_14) (.cond (.t 54) (.reg g150_15) (.skip)))) (.reg g150_16)))))
def r150 : RC := .seq (.reg g150_0) (.seq (.reg g150_1) (.seq (.block 0 (.loop l150_0)) (.seq (.reg g150_6) (.block 2 (.loop l150_2)))))
def o150 : List RR := []
theorem k150 : chkC Tryz.prog 63 r150 (Tryz.f150.body.getD .skip) = true := by decide +kernel
theorem q150 : chkR Tryz.prog Tryz.f150.results.toList o150 = true := by decide +kernel

/- wireschema/scalar.lean -/
def g156_0 : List Am.Item := [
    ⟨(some 1), .boxN 1 (.t 0), none⟩,
    ⟨(some 2), .val (.mov (.c (.bool false))), none⟩]
def g156_1 : List Am.Item := [
    ⟨(some 3), .val (.faddr 3 (.t 1)), none⟩,
    ⟨(some 4), .val (.load none (.t 3)), none⟩,
    ⟨(some 5), .val (.len 1 (.t 4)), none⟩,
    ⟨(some 6), .val (.faddr 4 (.t 1)), none⟩,
    ⟨(some 7), .val (.load none (.t 6)), none⟩,
    ⟨(some 8), .val (.len 1 (.t 7)), none⟩,
    ⟨(some 9), .val (.bin .num .add (.t 5) (.t 8)), none⟩,
    ⟨(some 10), .val (.faddr 5 (.t 1)), none⟩,
    ⟨(some 11), .val (.load none (.t 10)), none⟩,
    ⟨(some 12), .val (.len 1 (.t 11)), none⟩,
    ⟨(some 13), .val (.bin .num .add (.t 9) (.t 12)), none⟩,
    ⟨(some 14), .val (.faddr 6 (.t 1)), none⟩,
    ⟨(some 15), .val (.load none (.t 14)), none⟩,
    ⟨(some 16), .val (.len 1 (.t 15)), none⟩,
    ⟨(some 17), .val (.bin .num .add (.t 13) (.t 16)), none⟩,
    ⟨(some 18), .val (.bin .num .gtr (.t 17) (.c (.int .i64 0))), none⟩]
def g156_2 : List Am.Item := [
    ⟨(some 2), .val (.mov (.c (.bool false))), none⟩]
def g156_3 : List Am.Item := [
    ⟨(some 19), .val (.faddr 0 (.t 1)), none⟩,
    ⟨(some 20), .val (.load none (.t 19)), none⟩,
    ⟨(some 21), .call (.f 186) [(.t 20)], none⟩]
def g156_4 : List Am.Item := [
    ⟨(some 22), .val (.faddr 1 (.t 1)), none⟩,
    ⟨(some 23), .val (.load none (.t 22)), none⟩,
    ⟨(some 24), .val (.bin .num .eql (.t 23) (.c (.int .u64 0))), none⟩,
    ⟨(some 2), .val (.mov (.t 24)), none⟩]
def g156_5 : List Am.Item := [
    ⟨(some 25), .val (.faddr 2 (.t 1)), none⟩,
    ⟨(some 26), .val (.load none (.t 25)), none⟩,
    ⟨(some 27), .val (.bin .str .eql (.t 26) (.c (.str []))), none⟩,
    ⟨(some 2), .val (.mov (.t 27)), none⟩]
def r156 : RC := .seq (.reg g156_0) (.seq (.seq (.reg g156_1) (.cond (.t 18) (.seq (.reg g156_2) (.ret)) (.skip))) (.seq (.seq (.reg g156_3) (.cond (.t 21) (.seq (.reg g156_4) (.ret)) (.skip))) (.seq (.reg g156_5) (.ret))))
def o156 : List RR := [.tmp 2]
theorem k156 : chkC Tryz.prog 28 r156 (Tryz.f156.body.getD .skip) = true := by decide +kernel
theorem q156 : chkR Tryz.prog Tryz.f156.results.toList o156 = true := by decide +kernel

/- slices.insertionSortCmpFunc[wireschema/api.Raw] -/
def g157_0 : List Am.Item := [
    ⟨(some 10), .val (.mov (.t 1)), none⟩,
    ⟨(some 11), .val (.bin .num .add (.t 10) (.c (.int .i64 1))), none⟩,
    ⟨(some 8), .val (.mov (.t 11)), none⟩]
def g157_1 : List Am.Item := [
    ⟨(some 12), .val (.mov (.t 8)), none⟩,
    ⟨(some 13), .val (.mov (.t 2)), none⟩,
    ⟨(some 14), .val (.bin .num .lss (.t 12) (.t 13)), none⟩]
def g157_3 : List Am.Item := [
    ⟨(some 17), .val (.mov (.t 8)), none⟩,
    ⟨(some 9), .val (.mov (.t 17)), none⟩]
def g157_4 : List Am.Item := [
    ⟨(some 18), .val (.mov (.t 9)), none⟩,
    ⟨(some 19), .val (.mov (.t 1)), none⟩,
    ⟨(some 20), .val (.bin .num .gtr (.t 18) (.t 19)), none⟩,
    ⟨(some 21), .val (.mov (.t 20)), none⟩,
    ⟨(some 22), .val (.mov (.t 3)), (some (21, true))⟩,
    ⟨(some 23), .val (.mov (.t 0)), (some (21, true))⟩,
    ⟨(some 24), .val (.mov (.t 9)), (some (21, true))⟩,
    ⟨(some 25), .val (.iaddr 4 none (.t 23) (.t 24)), (some (21, true))⟩,
    ⟨(some 26), .val (.loadr (some 4) (.t 25)), (some (21, true))⟩,
    ⟨(some 27), .val (.mov (.t 0)), (some (21, true))⟩,
    ⟨(some 28), .val (.mov (.t 9)), (some (21, true))⟩,
    ⟨(some 29), .val (.bin .num .sub (.t 28) (.c (.int .i64 1))), (some (21, true))⟩,
    ⟨(some 30), .val (.iaddr 4 none (.t 27) (.t 29)), (some (21, true))⟩,
    ⟨(some 31), .val (.loadr (some 4) (.t 30)), (some (21, true))⟩,
    ⟨(some 32), .call (.t 22) [(.t 26), (.t 31)], (some (21, true))⟩,
    ⟨(some 33), .val (.bin .num .lss (.t 32) (.c (.int .i64 0))), (some (21, true))⟩,
    ⟨(some 34), .val (.pick (.t 21) (.t 33) (.c (.bool false))), none⟩]
def g157_6 : List Am.Item := [
    ⟨(some 37), .val (.mov (.t 0)), none⟩,
    ⟨(some 38), .val (.mov (.t 9)), none⟩,
    ⟨(some 39), .val (.mov (.t 0)), none⟩,
    ⟨(some 40), .val (.mov (.t 9)), none⟩,
    ⟨(some 41), .val (.bin .num .sub (.t 40) (.c (.int .i64 1))), none⟩,
    ⟨(some 42), .val (.mov (.t 0)), none⟩,
    ⟨(some 43), .val (.mov (.t 9)), none⟩,
    ⟨(some 44), .val (.bin .num .sub (.t 43) (.c (.int .i64 1))), none⟩,
    ⟨(some 45), .val (.iaddr 4 none (.t 42) (.t 44)), none⟩,
    ⟨(some 46), .val (.loadr (some 4) (.t 45)), none⟩,
    ⟨(some 47), .val (.mov (.t 0)), none⟩,
    ⟨(some 48), .val (.mov (.t 9)), none⟩,
    ⟨(some 49), .val (.iaddr 4 none (.t 47) (.t 48)), none⟩,
    ⟨(some 50), .val (.loadr (some 4) (.t 49)), none⟩,
    ⟨(some 51), .val (.iaddr 4 none (.t 37) (.t 38)), none⟩,
    ⟨none, .store 4 (.t 51) (.t 46), none⟩,
    ⟨(some 52), .val (.iaddr 4 none (.t 39) (.t 41)), none⟩,
    ⟨none, .store 4 (.t 52) (.t 50), none⟩]
def g157_5 : List Am.Item := [
    ⟨(some 35), .val (.mov (.t 9)), none⟩,
    ⟨(some 36), .val (.bin .num .sub (.t 35) (.c (.int .i64 1))), none⟩,
    ⟨(some 9), .val (.mov (.t 36)), none⟩]
def l157_0 : RC := .seq (.seq (.draw g157_4) (.cond (.t 34) (.skip) (.exit 2))) (.seq (.block 3 (.draw g157_6)) (.reg g157_5))
def g157_2 : List Am.Item := [
    ⟨(some 15), .val (.mov (.t 8)), none⟩,
    ⟨(some 16), .val (.bin .num .add (.t 15) (.c (.int .i64 1))), none⟩,
    ⟨(some 8), .val (.mov (.t 16)), none⟩]
def l157_1 : RC := .seq (.seq (.reg g157_1) (.cond (.t 14) (.skip) (.exit 0))) (.seq (.block 1 (.seq (.reg g157_3) (.block 2 (.loop l157_0)))) (.reg g157_2))
def r157 : RC := .seq (.reg g157_0) (.block 0 (.loop l157_1))
def o157 : List RR := []
theorem k157 : chkC Tryz.prog 53 r157 (Tryz.f157.body.getD .skip) = true := by decide +kernel
theorem q157 : chkR Tryz.prog Tryz.f157.results.toList o157 = true := by decide +kernel

/- slices.IndexFunc[[]wireschema/api.Enum,wireschema/api.Enum] -/
def g160_0 : List Am.Item := [
    ⟨(some 4), .val (.mov (.c (.int .i64 0))), none⟩]
def g160_1 : List Am.Item := [
    ⟨(some 6), .val (.mov (.t 0)), none⟩,
    ⟨(some 7), .val (.len 1 (.t 6)), none⟩,
    ⟨(some 8), .val (.mov (.c (.int .i64 0))), none⟩]
def g160_2 : List Am.Item := [
    ⟨(some 9), .val (.bin .num .lss (.t 8) (.t 7)), none⟩]
def g160_3 : List Am.Item := [
    ⟨(some 10), .val (.mov (.t 8)), none⟩,
    ⟨(some 5), .val (.mov (.t 10)), none⟩]
def g160_4 : List Am.Item := [
    ⟨(some 11), .val (.mov (.t 1)), none⟩,
    ⟨(some 12), .val (.mov (.t 0)), none⟩,
    ⟨(some 13), .val (.mov (.t 5)), none⟩,
    ⟨(some 14), .val (.iaddr 5 none (.t 12) (.t 13)), none⟩,
    ⟨(some 15), .val (.load (some 5) (.t 14)), none⟩,
    ⟨(some 16), .callF (.t 11) [(.t 15)], none⟩]
def g160_5 : List Am.Item := [
    ⟨(some 17), .val (.mov (.t 5)), none⟩,
    ⟨(some 4), .val (.mov (.t 17)), none⟩]
def g160_6 : List Am.Item := [
    ⟨(some 18), .val (.bin .num .add (.t 8) (.c (.int .i64 1))), none⟩,
    ⟨(some 8), .val (.mov (.t 18)), none⟩]
def l160_0 : RC := .seq (.reg g160_2) (.seq (.cond (.t 9) (.skip) (.exit 0)) (.seq (.block 1 (.seq (.reg g160_3) (.seq (.reg g160_4) (.cond (.t 16) (.seq (.reg g160_5) (.ret)) (.skip))))) (.reg g160_6)))
def g160_7 : List Am.Item := [
    ⟨(some 4), .val (.mov (.c (.int .i64 (-1)))), none⟩]
def r160 : RC := .seq (.reg g160_0) (.seq (.seq (.reg g160_1) (.block 0 (.loop l160_0))) (.seq (.reg g160_7) (.ret)))
def o160 : List RR := [.tmp 4]
theorem k160 : chkC Tryz.prog 19 r160 (Tryz.f160.body.getD .skip) = true := by decide +kernel
theorem q160 : chkR Tryz.prog Tryz.f160.results.toList o160 = true := by decide +kernel

/- slices.IndexFunc[[]string,string] -/
def g161_0 : List Am.Item := [
    ⟨(some 4), .val (.mov (.c (.int .i64 0))), none⟩]
def g161_1 : List Am.Item := [
    ⟨(some 6), .val (.mov (.t 0)), none⟩,
    ⟨(some 7), .val (.len 1 (.t 6)), none⟩,
    ⟨(some 8), .val (.mov (.c (.int .i64 0))), none⟩]
def g161_2 : List Am.Item := [
    ⟨(some 9), .val (.bin .num .lss (.t 8) (.t 7)), none⟩]
def g161_3 : List Am.Item := [
    ⟨(some 10), .val (.mov (.t 8)), none⟩,
    ⟨(some 5), .val (.mov (.t 10)), none⟩]
def g161_4 : List Am.Item := [
    ⟨(some 11), .val (.mov (.t 1)), none⟩,
    ⟨(some 12), .val (.mov (.t 0)), none⟩,
    ⟨(some 13), .val (.mov (.t 5)), none⟩,
    ⟨(some 14), .val (.iaddr 1 none (.t 12) (.t 13)), none⟩,
    ⟨(some 15), .val (.load none (.t 14)), none⟩,
    ⟨(some 16), .callF (.t 11) [(.t 15)], none⟩]
def g161_5 : List Am.Item := [
    ⟨(some 17), .val (.mov (.t 5)), none⟩,
    ⟨(some 4), .val (.mov (.t 17)), none⟩]
def g161_6 : List Am.Item := [
    ⟨(some 18), .val (.bin .num .add (.t 8) (.c (.int .i64 1))), none⟩,
    ⟨(some 8), .val (.mov (.t 18)), none⟩]
def l161_0 : RC := .seq (.reg g161_2) (.seq (.cond (.t 9) (.skip) (.exit 0)) (.seq (.block 1 (.seq (.reg g161_3) (.seq (.reg g161_4) (.cond (.t 16) (.seq (.reg g161_5) (.ret)) (.skip))))) (.reg g161_6)))
def g161_7 : List Am.Item := [
    ⟨(some 4), .val (.mov (.c (.int .i64 (-1)))), none⟩]
def r161 : RC := .seq (.reg g161_0) (.seq (.seq (.reg g161_1) (.block 0 (.loop l161_0))) (.seq (.reg g161_7) (.ret)))
def o161 : List RR := [.tmp 4]
theorem k161 : chkC Tryz.prog 19 r161 (Tryz.f161.body.getD .skip) = true := by decide +kernel
theorem q161 : chkR Tryz.prog Tryz.f161.results.toList o161 = true := by decide +kernel

/- strings.genSplit -/
def g162_0 : List Am.Item := [
    ⟨(some 8), .val (.mov (.c (.nils))), none⟩]
def g162_1 : List Am.Item := [
    ⟨(some 12), .val (.mov (.t 3)), none⟩,
    ⟨(some 13), .val (.bin .num .eql (.t 12) (.c (.int .i64 0))), none⟩]
def g162_2 : List Am.Item := [
    ⟨(some 8), .val (.mov (.c (.nils))), none⟩]
def g162_3 : List Am.Item := [
    ⟨(some 14), .val (.mov (.t 1)), none⟩,
    ⟨(some 15), .val (.bin .str .eql (.t 14) (.c (.str []))), none⟩]
def g162_4 : List Am.Item := [
    ⟨(some 16), .val (.mov (.t 0)), none⟩,
    ⟨(some 17), .val (.mov (.t 3)), none⟩,
    ⟨(some 18), .call (.f 188) [(.t 16), (.t 17)], none⟩,
    ⟨(some 8), .val (.mov (.t 18)), none⟩]
def g162_5 : List Am.Item := [
    ⟨(some 19), .val (.mov (.t 3)), none⟩,
    ⟨(some 20), .val (.bin .num .lss (.t 19) (.c (.int .i64 0))), none⟩]
def g162_6 : List Am.Item := [
    ⟨(some 21), .val (.mov (.t 0)), none⟩,
    ⟨(some 22), .val (.mov (.t 1)), none⟩,
    ⟨(some 23), .call (.f 189) [(.t 21), (.t 22)], none⟩,
    ⟨(some 24), .val (.bin .num .add (.t 23) (.c (.int .i64 1))), none⟩,
    ⟨(some 3), .val (.mov (.t 24)), none⟩]
def g162_7 : List Am.Item := [
    ⟨(some 25), .val (.mov (.t 3)), none⟩,
    ⟨(some 26), .val (.mov (.t 0)), none⟩,
    ⟨(some 27), .val (.len 0 (.t 26)), none⟩,
    ⟨(some 28), .val (.bin .num .add (.t 27) (.c (.int .i64 1))), none⟩,
    ⟨(some 29), .val (.mnx false (.t 25) (.t 28)), none⟩,
    ⟨(some 3), .val (.mov (.t 29)), none⟩]
def g162_8 : List Am.Item := [
    ⟨(some 30), .val (.mov (.t 3)), none⟩,
    ⟨(some 31), .mk 31 9 1 16 [.str []] (.t 30) (.t 30), none⟩,
    ⟨(some 9), .val (.mov (.t 31)), none⟩]
def g162_9 : List Am.Item := [
    ⟨(some 32), .val (.mov (.t 3)), none⟩,
    ⟨(some 33), .val (.bin .num .sub (.t 32) (.c (.int .i64 1))), none⟩,
    ⟨(some 3), .val (.mov (.t 33)), none⟩]
def g162_10 : List Am.Item := [
    ⟨(some 10), .val (.mov (.c (.int .i64 0))), none⟩]
def g162_11 : List Am.Item := [
    ⟨(some 34), .val (.mov (.t 10)), none⟩,
    ⟨(some 35), .val (.mov (.t 3)), none⟩,
    ⟨(some 36), .val (.bin .num .lss (.t 34) (.t 35)), none⟩]
def g162_12 : List Am.Item := [
    ⟨(some 37), .val (.mov (.t 0)), none⟩,
    ⟨(some 38), .val (.mov (.t 1)), none⟩,
    ⟨(some 39), .call (.f 190) [(.t 37), (.t 38)], none⟩,
    ⟨(some 11), .val (.mov (.t 39)), none⟩]
def g162_13 : List Am.Item := [
    ⟨(some 40), .val (.mov (.t 11)), none⟩,
    ⟨(some 41), .val (.bin .num .lss (.t 40) (.c (.int .i64 0))), none⟩]
def g162_14 : List Am.Item := [
    ⟨(some 42), .val (.mov (.t 9)), none⟩,
    ⟨(some 43), .val (.mov (.t 10)), none⟩,
    ⟨(some 44), .val (.mov (.t 0)), none⟩,
    ⟨(some 45), .val (.mov (.t 11)), none⟩,
    ⟨(some 46), .val (.mov (.t 2)), none⟩,
    ⟨(some 47), .val (.bin .num .add (.t 45) (.t 46)), none⟩,
    ⟨(some 48), .val (.slc none (.t 44) none (some (.t 47)) none), none⟩,
    ⟨(some 49), .val (.iaddr 1 none (.t 42) (.t 43)), none⟩,
    ⟨none, .store 1 (.t 49) (.t 48), none⟩]
def g162_15 : List Am.Item := [
    ⟨(some 50), .val (.mov (.t 0)), none⟩,
    ⟨(some 51), .val (.mov (.t 11)), none⟩,
    ⟨(some 52), .val (.mov (.t 1)), none⟩,
    ⟨(some 53), .val (.len 0 (.t 52)), none⟩,
    ⟨(some 54), .val (.bin .num .add (.t 51) (.t 53)), none⟩,
    ⟨(some 55), .val (.slc none (.t 50) (some (.t 54)) none none), none⟩,
    ⟨(some 0), .val (.mov (.t 55)), none⟩]
def g162_16 : List Am.Item := [
    ⟨(some 56), .val (.mov (.t 10)), none⟩,
    ⟨(some 57), .val (.bin .num .add (.t 56) (.c (.int .i64 1))), none⟩,
    ⟨(some 10), .val (.mov (.t 57)), none⟩]
def l162_0 : RC := .seq (.seq (.reg g162_11) (.cond (.t 36) (.skip) (.exit 0))) (.block 1 (.seq (.reg g162_12) (.seq (.seq (.reg g162_13) (.cond (.t 41) (.exit 0) (.skip))) (.seq (.reg g162_14) (.seq (.reg g162_15) (.reg g162_16))))))
def g162_17 : List Am.Item := [
    ⟨(some 58), .val (.mov (.t 9)), none⟩,
    ⟨(some 59), .val (.mov (.t 10)), none⟩,
    ⟨(some 60), .val (.mov (.t 0)), none⟩,
    ⟨(some 61), .val (.iaddr 1 none (.t 58) (.t 59)), none⟩,
    ⟨none, .store 1 (.t 61) (.t 60), none⟩]
def g162_18 : List Am.Item := [
    ⟨(some 62), .val (.mov (.t 9)), none⟩,
    ⟨(some 63), .val (.mov (.t 10)), none⟩,
    ⟨(some 64), .val (.bin .num .add (.t 63) (.c (.int .i64 1))), none⟩,
    ⟨(some 65), .val (.slc (some 1) (.t 62) none (some (.t 64)) none), none⟩,
    ⟨(some 8), .val (.mov (.t 65)), none⟩]
def r162 : RC := .seq (.reg g162_0) (.seq (.seq (.reg g162_1) (.cond (.t 13) (.seq (.reg g162_2) (.ret)) (.skip))) (.seq (.seq (.reg g162_3) (.cond (.t 15) (.seq (.reg g162_4) (.ret)) (.skip))) (.seq (.seq (.reg g162_5) (.cond (.t 20) (.reg g162_6) (.skip))) (.seq (.reg g162_7) (.seq (.reg g162_8) (.seq (.reg g162_9) (.seq (.reg g162_10) (.seq (.block 0 (.loop l162_0)) (.seq (.reg g162_17) (.seq (.reg g162_18) (.ret)))))))))))
def o162 : List RR := [.tmp 8]
theorem k162 : chkC Tryz.prog 66 r162 (Tryz.f162.body.getD .skip) = true := by decide +kernel
theorem q162 : chkR Tryz.prog Tryz.f162.results.toList o162 = true := by decide +kernel

/- wireschema/ident.class -/
def g163_0 : List Am.Item := [
    ⟨(some 2), .val (.mov (.c (.int .i64 0))), none⟩]
def g163_1 : List Am.Item := [
    ⟨(some 4), .val (.mov (.t 0)), none⟩,
    ⟨(some 5), .val (.bin .num .geq (.t 4) (.c (.int .i32 97))), none⟩,
    ⟨(some 6), .val (.mov (.t 5)), none⟩,
    ⟨(some 7), .val (.mov (.t 0)), (some (6, true))⟩,
    ⟨(some 8), .val (.bin .num .leq (.t 7) (.c (.int .i32 122))), (some (6, true))⟩,
    ⟨(some 9), .val (.pick (.t 6) (.t 8) (.c (.bool false))), none⟩,
    ⟨(some 3), .val (.mov (.t 9)), none⟩]
def g163_2 : List Am.Item := [
    ⟨(some 2), .val (.mov (.c (.int .i64 1))), none⟩]
def g163_3 : List Am.Item := [
    ⟨(some 11), .val (.mov (.t 0)), none⟩,
    ⟨(some 12), .val (.bin .num .geq (.t 11) (.c (.int .i32 65))), none⟩,
    ⟨(some 13), .val (.mov (.t 12)), none⟩,
    ⟨(some 14), .val (.mov (.t 0)), (some (13, true))⟩,
    ⟨(some 15), .val (.bin .num .leq (.t 14) (.c (.int .i32 90))), (some (13, true))⟩,
    ⟨(some 16), .val (.pick (.t 13) (.t 15) (.c (.bool false))), none⟩,
    ⟨(some 10), .val (.mov (.t 16)), none⟩]
def g163_4 : List Am.Item := [
    ⟨(some 2), .val (.mov (.c (.int .i64 2))), none⟩]
def g163_5 : List Am.Item := [
    ⟨(some 18), .val (.mov (.t 0)), none⟩,
    ⟨(some 19), .val (.bin .num .geq (.t 18) (.c (.int .i32 48))), none⟩,
    ⟨(some 20), .val (.mov (.t 19)), none⟩,
    ⟨(some 21), .val (.mov (.t 0)), (some (20, true))⟩,
    ⟨(some 22), .val (.bin .num .leq (.t 21) (.c (.int .i32 57))), (some (20, true))⟩,
    ⟨(some 23), .val (.pick (.t 20) (.t 22) (.c (.bool false))), none⟩,
    ⟨(some 17), .val (.mov (.t 23)), none⟩]
def g163_6 : List Am.Item := [
    ⟨(some 2), .val (.mov (.c (.int .i64 3))), none⟩]
def g163_7 : List Am.Item := [
    ⟨(some 25), .val (.mov (.t 0)), none⟩,
    ⟨(some 26), .val (.bin .num .eql (.t 25) (.c (.int .i32 95))), none⟩,
    ⟨(some 24), .val (.mov (.t 26)), none⟩]
def g163_8 : List Am.Item := [
    ⟨(some 2), .val (.mov (.c (.int .i64 4))), none⟩]
def g163_9 : List Am.Item := [
    ⟨(some 2), .val (.mov (.c (.int .i64 0))), none⟩]
def r163 : RC := .seq (.reg g163_0) (.seq (.block 0 (.seq (.reg g163_1) (.cond (.t 3) (.seq (.reg g163_2) (.ret)) (.seq (.reg g163_3) (.cond (.t 10) (.seq (.reg g163_4) (.ret)) (.seq (.reg g163_5) (.cond (.t 17) (.seq (.reg g163_6) (.ret)) (.seq (.reg g163_7) (.cond (.t 24) (.seq (.reg g163_8) (.ret)) (.skip)))))))))) (.seq (.reg g163_9) (.ret)))
def o163 : List RR := [.tmp 2]
theorem k163 : chkC Tryz.prog 27 r163 (Tryz.f163.body.getD .skip) = true := by decide +kernel
theorem q163 : chkR Tryz.prog Tryz.f163.results.toList o163 = true := by decide +kernel

/- (wireschema/plan.examiner).one -/
def g170_0 : List Am.Item := [
    ⟨(some 4), .boxN 4 (.t 0), none⟩,
    ⟨(some 7), .boxN 7 (.t 3), none⟩,
    ⟨(some 8), .val (.mov (.c (.int .i64 0))), none⟩]
def g170_1 : List Am.Item := [
    ⟨(some 10), .val (.faddr 0 (.t 7)), none⟩,
    ⟨(some 11), .val (.load none (.t 10)), none⟩,
    ⟨(some 12), .val (.mov (.t 1)), none⟩,
    ⟨(some 13), .val (.bin .num .neq (.t 11) (.t 12)), none⟩,
    ⟨(some 14), .val (.mov (.t 13)), none⟩,
    ⟨(some 15), .val (.load (some 7) (.t 7)), (some (14, false))⟩,
    ⟨(some 16), .call (.f 42) [(.t 15)], (some (14, false))⟩,
    ⟨(some 17), .val (.pick (.t 14) (.c (.bool true)) (.t 16)), none⟩,
    ⟨(some 9), .val (.mov (.t 17)), none⟩]
def g170_2 : List Am.Item := [
    ⟨(some 8), .val (.mov (.c (.int .i64 12))), none⟩]
def g170_3 : List Am.Item := [
    ⟨(some 19), .val (.faddr 2 (.t 7)), none⟩,
    ⟨(some 20), .val (.load none (.t 19)), none⟩,
    ⟨(some 21), .val (.len 0 (.t 20)), none⟩,
    ⟨(some 22), .val (.bin .num .gtr (.t 21) (.c (.int .i64 4096))), none⟩,
    ⟨(some 18), .val (.mov (.t 22)), none⟩]
def g170_4 : List Am.Item := [
    ⟨(some 8), .val (.mov (.c (.int .i64 3))), none⟩]
def g170_5 : List Am.Item := [
    ⟨(some 24), .val (.mov (.t 1)), none⟩,
    ⟨(some 25), .val (.bin .num .eql (.t 24) (.c (.int .i64 7))), none⟩,
    ⟨(some 26), .val (.mov (.t 25)), none⟩,
    ⟨(some 27), .val (.faddr 2 (.t 7)), (some (26, true))⟩,
    ⟨(some 28), .val (.load none (.t 27)), (some (26, true))⟩,
    ⟨(some 29), .call (.f 104) [(.t 28)], (some (26, true))⟩,
    ⟨(some 30), .val (.un .not (.t 29)), (some (26, true))⟩,
    ⟨(some 31), .val (.pick (.t 26) (.t 30) (.c (.bool false))), none⟩,
    ⟨(some 23), .val (.mov (.t 31)), none⟩]
def g170_6 : List Am.Item := [
    ⟨(some 8), .val (.mov (.c (.int .i64 7))), none⟩]
def g170_7 : List Am.Item := [
    ⟨(some 33), .val (.mov (.t 1)), none⟩,
    ⟨(some 34), .val (.load (some 7) (.t 7)), none⟩,
    ⟨(some 35), .call (.f 194) [(.t 33), (.t 34)], none⟩,
    ⟨(some 36), .val (.un .not (.t 35)), none⟩,
    ⟨(some 32), .val (.mov (.t 36)), none⟩]
def g170_8 : List Am.Item := [
    ⟨(some 8), .val (.mov (.c (.int .i64 12))), none⟩]
def g170_9 : List Am.Item := [
    ⟨(some 38), .val (.mov (.t 1)), none⟩,
    ⟨(some 39), .val (.bin .num .eql (.t 38) (.c (.int .i64 9))), none⟩,
    ⟨(some 40), .val (.mov (.t 39)), none⟩,
    ⟨(some 41), .val (.faddr 0 (.t 4)), (some (40, true))⟩,
    ⟨(some 42), .val (.load (some 2) (.t 41)), (some (40, true))⟩,
    ⟨(some 43), .val (.mov (.t 2)), (some (40, true))⟩,
    ⟨(some 44), .val (.faddr 1 (.t 7)), (some (40, true))⟩,
    ⟨(some 45), .val (.load none (.t 44)), (some (40, true))⟩,
    ⟨(some 46), .call (.f 115) [(.t 42), (.t 43), (.t 45)], (some (40, true))⟩,
    ⟨(some 47), .val (.un .not (.t 46)), (some (40, true))⟩,
    ⟨(some 48), .val (.pick (.t 40) (.t 47) (.c (.bool false))), none⟩,
    ⟨(some 37), .val (.mov (.t 48)), none⟩]
def g170_10 : List Am.Item := [
    ⟨(some 8), .val (.mov (.c (.int .i64 16))), none⟩]
def g170_11 : List Am.Item := [
    ⟨(some 8), .val (.mov (.c (.int .i64 0))), none⟩]
def r170 : RC := .seq (.reg g170_0) (.seq (.block 0 (.seq (.reg g170_1) (.cond (.t 9) (.seq (.reg g170_2) (.ret)) (.seq (.reg g170_3) (.cond (.t 18) (.seq (.reg g170_4) (.ret)) (.seq (.reg g170_5) (.cond (.t 23) (.seq (.reg g170_6) (.ret)) (.seq (.reg g170_7) (.cond (.t 32) (.seq (.reg g170_8) (.ret)) (.seq (.reg g170_9) (.cond (.t 37) (.seq (.reg g170_10) (.ret)) (.skip)))))))))))) (.seq (.reg g170_11) (.ret)))
def o170 : List RR := [.tmp 8]
theorem k170 : chkC Tryz.prog 49 r170 (Tryz.f170.body.getD .skip) = true := by decide +kernel
theorem q170 : chkR Tryz.prog Tryz.f170.results.toList o170 = true := by decide +kernel

/- slices.insertionSortCmpFunc[wireschema/api.Slot] -/
def g173_0 : List Am.Item := [
    ⟨(some 10), .val (.mov (.t 1)), none⟩,
    ⟨(some 11), .val (.bin .num .add (.t 10) (.c (.int .i64 1))), none⟩,
    ⟨(some 8), .val (.mov (.t 11)), none⟩]
def g173_1 : List Am.Item := [
    ⟨(some 12), .val (.mov (.t 8)), none⟩,
    ⟨(some 13), .val (.mov (.t 2)), none⟩,
    ⟨(some 14), .val (.bin .num .lss (.t 12) (.t 13)), none⟩]
def g173_3 : List Am.Item := [
    ⟨(some 17), .val (.mov (.t 8)), none⟩,
    ⟨(some 9), .val (.mov (.t 17)), none⟩]
def g173_4 : List Am.Item := [
    ⟨(some 18), .val (.mov (.t 9)), none⟩,
    ⟨(some 19), .val (.mov (.t 1)), none⟩,
    ⟨(some 20), .val (.bin .num .gtr (.t 18) (.t 19)), none⟩,
    ⟨(some 21), .val (.mov (.t 20)), none⟩,
    ⟨(some 22), .val (.mov (.t 3)), (some (21, true))⟩,
    ⟨(some 23), .val (.mov (.t 0)), (some (21, true))⟩,
    ⟨(some 24), .val (.mov (.t 9)), (some (21, true))⟩,
    ⟨(some 25), .val (.iaddr 8 none (.t 23) (.t 24)), (some (21, true))⟩,
    ⟨(some 26), .val (.loadr (some 8) (.t 25)), (some (21, true))⟩,
    ⟨(some 27), .val (.mov (.t 0)), (some (21, true))⟩,
    ⟨(some 28), .val (.mov (.t 9)), (some (21, true))⟩,
    ⟨(some 29), .val (.bin .num .sub (.t 28) (.c (.int .i64 1))), (some (21, true))⟩,
    ⟨(some 30), .val (.iaddr 8 none (.t 27) (.t 29)), (some (21, true))⟩,
    ⟨(some 31), .val (.loadr (some 8) (.t 30)), (some (21, true))⟩,
    ⟨(some 32), .call (.t 22) [(.t 26), (.t 31)], (some (21, true))⟩,
    ⟨(some 33), .val (.bin .num .lss (.t 32) (.c (.int .i64 0))), (some (21, true))⟩,
    ⟨(some 34), .val (.pick (.t 21) (.t 33) (.c (.bool false))), none⟩]
def g173_6 : List Am.Item := [
    ⟨(some 37), .val (.mov (.t 0)), none⟩,
    ⟨(some 38), .val (.mov (.t 9)), none⟩,
    ⟨(some 39), .val (.mov (.t 0)), none⟩,
    ⟨(some 40), .val (.mov (.t 9)), none⟩,
    ⟨(some 41), .val (.bin .num .sub (.t 40) (.c (.int .i64 1))), none⟩,
    ⟨(some 42), .val (.mov (.t 0)), none⟩,
    ⟨(some 43), .val (.mov (.t 9)), none⟩,
    ⟨(some 44), .val (.bin .num .sub (.t 43) (.c (.int .i64 1))), none⟩,
    ⟨(some 45), .val (.iaddr 8 none (.t 42) (.t 44)), none⟩,
    ⟨(some 46), .val (.loadr (some 8) (.t 45)), none⟩,
    ⟨(some 47), .val (.mov (.t 0)), none⟩,
    ⟨(some 48), .val (.mov (.t 9)), none⟩,
    ⟨(some 49), .val (.iaddr 8 none (.t 47) (.t 48)), none⟩,
    ⟨(some 50), .val (.loadr (some 8) (.t 49)), none⟩,
    ⟨(some 51), .val (.iaddr 8 none (.t 37) (.t 38)), none⟩,
    ⟨none, .store 8 (.t 51) (.t 46), none⟩,
    ⟨(some 52), .val (.iaddr 8 none (.t 39) (.t 41)), none⟩,
    ⟨none, .store 8 (.t 52) (.t 50), none⟩]
def g173_5 : List Am.Item := [
    ⟨(some 35), .val (.mov (.t 9)), none⟩,
    ⟨(some 36), .val (.bin .num .sub (.t 35) (.c (.int .i64 1))), none⟩,
    ⟨(some 9), .val (.mov (.t 36)), none⟩]
def l173_0 : RC := .seq (.seq (.draw g173_4) (.cond (.t 34) (.skip) (.exit 2))) (.seq (.block 3 (.draw g173_6)) (.reg g173_5))
def g173_2 : List Am.Item := [
    ⟨(some 15), .val (.mov (.t 8)), none⟩,
    ⟨(some 16), .val (.bin .num .add (.t 15) (.c (.int .i64 1))), none⟩,
    ⟨(some 8), .val (.mov (.t 16)), none⟩]
def l173_1 : RC := .seq (.seq (.reg g173_1) (.cond (.t 14) (.skip) (.exit 0))) (.seq (.block 1 (.seq (.reg g173_3) (.block 2 (.loop l173_0)))) (.reg g173_2))
def r173 : RC := .seq (.reg g173_0) (.block 0 (.loop l173_1))
def o173 : List RR := []
theorem k173 : chkC Tryz.prog 53 r173 (Tryz.f173.body.getD .skip) = true := by decide +kernel
theorem q173 : chkR Tryz.prog Tryz.f173.results.toList o173 = true := by decide +kernel

/- wireschema/scalar.texty -/
def g186_0 : List Am.Item := [
    ⟨(some 2), .val (.mov (.c (.bool false))), none⟩]
def g186_1 : List Am.Item := [
    ⟨(some 3), .val (.mov (.t 0)), none⟩,
    ⟨(some 4), .val (.bin .num .eql (.t 3) (.c (.int .i64 7))), none⟩,
    ⟨(some 5), .val (.mov (.t 4)), none⟩,
    ⟨(some 6), .val (.mov (.t 0)), (some (5, false))⟩,
    ⟨(some 7), .val (.bin .num .eql (.t 6) (.c (.int .i64 8))), (some (5, false))⟩,
    ⟨(some 8), .val (.pick (.t 5) (.c (.bool true)) (.t 7)), none⟩,
    ⟨(some 2), .val (.mov (.t 8)), none⟩]
def r186 : RC := .seq (.reg g186_0) (.seq (.reg g186_1) (.ret))
def o186 : List RR := [.tmp 2]
theorem k186 : chkC Tryz.prog 9 r186 (Tryz.f186.body.getD .skip) = true := by decide +kernel
theorem q186 : chkR Tryz.prog Tryz.f186.results.toList o186 = true := by decide +kernel

/- strings.Count -/
def g189_0 : List Am.Item := [
    ⟨(some 4), .val (.mov (.c (.int .i64 0))), none⟩]
def g189_1 : List Am.Item := [
    ⟨(some 7), .val (.mov (.t 1)), none⟩,
    ⟨(some 8), .val (.len 0 (.t 7)), none⟩,
    ⟨(some 9), .val (.bin .num .eql (.t 8) (.c (.int .i64 0))), none⟩]
def g189_2 : List Am.Item := [
    ⟨(some 10), .val (.mov (.t 0)), none⟩,
    ⟨(some 11), .call (.f 203) [(.t 10)], none⟩,
    ⟨(some 12), .val (.bin .num .add (.t 11) (.c (.int .i64 1))), none⟩,
    ⟨(some 4), .val (.mov (.t 12)), none⟩]
def g189_3 : List Am.Item := [
    ⟨(some 13), .val (.mov (.t 1)), none⟩,
    ⟨(some 14), .val (.len 0 (.t 13)), none⟩,
    ⟨(some 15), .val (.bin .num .eql (.t 14) (.c (.int .i64 1))), none⟩]
def g189_4 : List Am.Item := [
    ⟨(some 16), .val (.mov (.t 0)), none⟩,
    ⟨(some 17), .val (.mov (.t 1)), none⟩,
    ⟨(some 18), .val (.idx (.t 17) (.c (.int .i64 0))), none⟩,
    ⟨(some 19), .xb true 205 (.t 16) (.t 18), none⟩,
    ⟨(some 4), .val (.mov (.t 19)), none⟩]
def g189_5 : List Am.Item := [
    ⟨(some 5), .val (.mov (.c (.int .i64 0))), none⟩]
def g189_6 : List Am.Item := [
    ⟨(some 20), .val (.mov (.t 0)), none⟩,
    ⟨(some 21), .val (.mov (.t 1)), none⟩,
    ⟨(some 22), .call (.f 190) [(.t 20), (.t 21)], none⟩,
    ⟨(some 6), .val (.mov (.t 22)), none⟩]
def g189_7 : List Am.Item := [
    ⟨(some 23), .val (.mov (.t 6)), none⟩,
    ⟨(some 24), .val (.bin .num .eql (.t 23) (.c (.int .i64 (-1)))), none⟩]
def g189_8 : List Am.Item := [
    ⟨(some 25), .val (.mov (.t 5)), none⟩,
    ⟨(some 4), .val (.mov (.t 25)), none⟩]
def g189_9 : List Am.Item := [
    ⟨(some 26), .val (.mov (.t 5)), none⟩,
    ⟨(some 27), .val (.bin .num .add (.t 26) (.c (.int .i64 1))), none⟩,
    ⟨(some 5), .val (.mov (.t 27)), none⟩]
def g189_10 : List Am.Item := [
    ⟨(some 28), .val (.mov (.t 0)), none⟩,
    ⟨(some 29), .val (.mov (.t 6)), none⟩,
    ⟨(some 30), .val (.mov (.t 1)), none⟩,
    ⟨(some 31), .val (.len 0 (.t 30)), none⟩,
    ⟨(some 32), .val (.bin .num .add (.t 29) (.t 31)), none⟩,
    ⟨(some 33), .val (.slc none (.t 28) (some (.t 32)) none none), none⟩,
    ⟨(some 0), .val (.mov (.t 33)), none⟩]
def l189_0 : RC := .block 1 (.seq (.reg g189_6) (.seq (.seq (.reg g189_7) (.cond (.t 24) (.seq (.reg g189_8) (.ret)) (.skip))) (.seq (.reg g189_9) (.reg g189_10))))
def r189 : RC := .seq (.reg g189_0) (.seq (.seq (.reg g189_1) (.cond (.t 9) (.seq (.reg g189_2) (.ret)) (.skip))) (.seq (.seq (.reg g189_3) (.cond (.t 15) (.seq (.reg g189_4) (.ret)) (.skip))) (.seq (.reg g189_5) (.block 0 (.loop l189_0)))))
def o189 : List RR := [.tmp 4]
theorem k189 : chkC Tryz.prog 34 r189 (Tryz.f189.body.getD .skip) = true := by decide +kernel
theorem q189 : chkR Tryz.prog Tryz.f189.results.toList o189 = true := by decide +kernel

/- strings.Index -/
def g190_0 : List Am.Item := [
    ⟨(some 4), .val (.mov (.c (.int .i64 0))), none⟩]
def g190_1 : List Am.Item := [
    ⟨(some 5), .val (.mov (.t 0)), none⟩,
    ⟨(some 6), .val (.mov (.t 1)), none⟩,
    ⟨(some 7), .call (.f 206) [(.t 5), (.t 6)], none⟩,
    ⟨(some 4), .val (.mov (.t 7)), none⟩]
def r190 : RC := .seq (.reg g190_0) (.seq (.reg g190_1) (.ret))
def o190 : List RR := [.tmp 4]
theorem k190 : chkC Tryz.prog 8 r190 (Tryz.f190.body.getD .skip) = true := by decide +kernel
theorem q190 : chkR Tryz.prog Tryz.f190.results.toList o190 = true := by decide +kernel

/- wireschema/scalar.Fits -/
def g194_0 : List Am.Item := [
    ⟨(some 3), .boxN 3 (.t 1), none⟩,
    ⟨(some 4), .val (.mov (.c (.bool false))), none⟩]
def g194_1 : List Am.Item := [
    ⟨(some 5), .val (.mov (.t 0)), none⟩,
    ⟨(some 6), .call (.f 144) [(.t 5)], none⟩,
    ⟨(some 7), .val (.un .not (.t 6)), none⟩,
    ⟨(some 8), .val (.mov (.t 7)), none⟩,
    ⟨(some 9), .val (.faddr 0 (.t 3)), (some (8, false))⟩,
    ⟨(some 10), .val (.load none (.t 9)), (some (8, false))⟩,
    ⟨(some 11), .val (.mov (.t 0)), (some (8, false))⟩,
    ⟨(some 12), .val (.bin .num .neq (.t 10) (.t 11)), (some (8, false))⟩,
    ⟨(some 13), .val (.pick (.t 8) (.c (.bool true)) (.t 12)), none⟩,
    ⟨(some 14), .val (.mov (.t 13)), none⟩,
    ⟨(some 15), .val (.load (some 7) (.t 3)), (some (14, false))⟩,
    ⟨(some 16), .call (.f 156) [(.t 15)], (some (14, false))⟩,
    ⟨(some 17), .val (.un .not (.t 16)), (some (14, false))⟩,
    ⟨(some 18), .val (.pick (.t 14) (.c (.bool true)) (.t 17)), none⟩,
    ⟨(some 19), .val (.mov (.t 18)), none⟩,
    ⟨(some 20), .val (.mov (.t 0)), (some (19, false))⟩,
    ⟨(some 21), .val (.faddr 1 (.t 3)), (some (19, false))⟩,
    ⟨(some 22), .val (.load none (.t 21)), (some (19, false))⟩,
    ⟨(some 23), .call (.f 208) [(.t 20), (.t 22)], (some (19, false))⟩,
    ⟨(some 24), .val (.un .not (.t 23)), (some (19, false))⟩,
    ⟨(some 25), .val (.pick (.t 19) (.c (.bool true)) (.t 24)), none⟩,
    ⟨(some 26), .val (.mov (.t 25)), none⟩,
    ⟨(some 27), .val (.faddr 2 (.t 3)), (some (26, false))⟩,
    ⟨(some 28), .val (.load none (.t 27)), (some (26, false))⟩,
    ⟨(some 29), .val (.len 0 (.t 28)), (some (26, false))⟩,
    ⟨(some 30), .val (.bin .num .gtr (.t 29) (.c (.int .i64 4096))), (some (26, false))⟩,
    ⟨(some 31), .val (.pick (.t 26) (.c (.bool true)) (.t 30)), none⟩]
def g194_2 : List Am.Item := [
    ⟨(some 4), .val (.mov (.c (.bool false))), none⟩]
def g194_3 : List Am.Item := [
    ⟨(some 32), .val (.mov (.t 0)), none⟩,
    ⟨(some 33), .val (.bin .num .neq (.t 32) (.c (.int .i64 7))), none⟩,
    ⟨(some 34), .val (.mov (.t 33)), none⟩,
    ⟨(some 35), .val (.faddr 2 (.t 3)), (some (34, false))⟩,
    ⟨(some 36), .val (.load none (.t 35)), (some (34, false))⟩,
    ⟨(some 37), .call (.f 104) [(.t 36)], (some (34, false))⟩,
    ⟨(some 38), .val (.pick (.t 34) (.c (.bool true)) (.t 37)), none⟩,
    ⟨(some 4), .val (.mov (.t 38)), none⟩]
def r194 : RC := .seq (.reg g194_0) (.seq (.seq (.reg g194_1) (.cond (.t 31) (.seq (.reg g194_2) (.ret)) (.skip))) (.seq (.reg g194_3) (.ret)))
def o194 : List RR := [.tmp 4]
theorem k194 : chkC Tryz.prog 39 r194 (Tryz.f194.body.getD .skip) = true := by decide +kernel
theorem q194 : chkR Tryz.prog Tryz.f194.results.toList o194 = true := by decide +kernel

/- internal/stringslite.Index -/
def g206_0 : List Am.Item := [
    ⟨(some 4), .val (.mov (.c (.int .i64 0))), none⟩]
def g206_1 : List Am.Item := [
    ⟨(some 14), .val (.mov (.t 1)), none⟩,
    ⟨(some 15), .val (.len 0 (.t 14)), none⟩,
    ⟨(some 5), .val (.mov (.t 15)), none⟩]
def g206_2 : List Am.Item := [
    ⟨(some 17), .val (.mov (.t 5)), none⟩,
    ⟨(some 18), .val (.bin .num .eql (.t 17) (.c (.int .i64 0))), none⟩,
    ⟨(some 19), .val (.mov (.t 18)), none⟩,
    ⟨(some 20), .val (.mov (.t 1)), (some (19, false))⟩,
    ⟨(some 21), .val (.mov (.t 0)), (some (19, false))⟩,
    ⟨(some 22), .val (.bin .str .eql (.t 20) (.t 21)), (some (19, false))⟩,
    ⟨(some 23), .val (.pick (.t 19) (.c (.bool true)) (.t 22)), none⟩,
    ⟨(some 16), .val (.mov (.t 23)), none⟩]
def g206_3 : List Am.Item := [
    ⟨(some 4), .val (.mov (.c (.int .i64 0))), none⟩]
def g206_4 : List Am.Item := [
    ⟨(some 25), .val (.mov (.t 5)), none⟩,
    ⟨(some 26), .val (.bin .num .eql (.t 25) (.c (.int .i64 1))), none⟩,
    ⟨(some 24), .val (.mov (.t 26)), none⟩]
def g206_5 : List Am.Item := [
    ⟨(some 27), .val (.mov (.t 0)), none⟩,
    ⟨(some 28), .val (.mov (.t 1)), none⟩,
    ⟨(some 29), .val (.idx (.t 28) (.c (.int .i64 0))), none⟩,
    ⟨(some 30), .call (.f 214) [(.t 27), (.t 29)], none⟩,
    ⟨(some 4), .val (.mov (.t 30)), none⟩]
def g206_6 : List Am.Item := [
    ⟨(some 32), .val (.mov (.t 5)), none⟩,
    ⟨(some 33), .val (.mov (.t 0)), none⟩,
    ⟨(some 34), .val (.len 0 (.t 33)), none⟩,
    ⟨(some 35), .val (.bin .num .geq (.t 32) (.t 34)), none⟩,
    ⟨(some 31), .val (.mov (.t 35)), none⟩]
def g206_7 : List Am.Item := [
    ⟨(some 4), .val (.mov (.c (.int .i64 (-1)))), none⟩]
def g206_9 : List Am.Item := [
    ⟨(some 45), .val (.mov (.t 0)), none⟩,
    ⟨(some 46), .val (.mov (.t 1)), none⟩,
    ⟨(some 47), .call (.f 215) [(.t 45), (.t 46)], none⟩,
    ⟨(some 4), .val (.mov (.t 47)), none⟩]
def g206_10 : List Am.Item := [
    ⟨(some 48), .val (.mov (.t 1)), none⟩,
    ⟨(some 49), .val (.idx (.t 48) (.c (.int .i64 0))), none⟩,
    ⟨(some 6), .val (.mov (.t 49)), none⟩]
def g206_11 : List Am.Item := [
    ⟨(some 50), .val (.mov (.t 1)), none⟩,
    ⟨(some 51), .val (.idx (.t 50) (.c (.int .i64 1))), none⟩,
    ⟨(some 7), .val (.mov (.t 51)), none⟩]
def g206_12 : List Am.Item := [
    ⟨(some 8), .val (.mov (.c (.int .i64 0))), none⟩]
def g206_13 : List Am.Item := [
    ⟨(some 52), .val (.mov (.t 0)), none⟩,
    ⟨(some 53), .val (.len 0 (.t 52)), none⟩,
    ⟨(some 54), .val (.mov (.t 5)), none⟩,
    ⟨(some 55), .val (.bin .num .sub (.t 53) (.t 54)), none⟩,
    ⟨(some 56), .val (.bin .num .add (.t 55) (.c (.int .i64 1))), none⟩,
    ⟨(some 9), .val (.mov (.t 56)), none⟩]
def g206_14 : List Am.Item := [
    ⟨(some 10), .val (.mov (.c (.int .i64 0))), none⟩]
def g206_15 : List Am.Item := [
    ⟨(some 57), .val (.mov (.t 8)), none⟩,
    ⟨(some 58), .val (.mov (.t 9)), none⟩,
    ⟨(some 59), .val (.bin .num .lss (.t 57) (.t 58)), none⟩]
def g206_16 : List Am.Item := [
    ⟨(some 60), .val (.mov (.t 0)), none⟩,
    ⟨(some 61), .val (.mov (.t 8)), none⟩,
    ⟨(some 62), .val (.idx (.t 60) (.t 61)), none⟩,
    ⟨(some 63), .val (.mov (.t 6)), none⟩,
    ⟨(some 64), .val (.bin .num .neq (.t 62) (.t 63)), none⟩]
def g206_17 : List Am.Item := [
    ⟨(some 65), .val (.mov (.t 0)), none⟩,
    ⟨(some 66), .val (.mov (.t 8)), none⟩,
    ⟨(some 67), .val (.bin .num .add (.t 66) (.c (.int .i64 1))), none⟩,
    ⟨(some 68), .val (.mov (.t 9)), none⟩,
    ⟨(some 69), .val (.slc none (.t 65) (some (.t 67)) (some (.t 68)) none), none⟩,
    ⟨(some 70), .val (.mov (.t 6)), none⟩,
    ⟨(some 71), .call (.f 214) [(.t 69), (.t 70)], none⟩,
    ⟨(some 11), .val (.mov (.t 71)), none⟩]
def g206_18 : List Am.Item := [
    ⟨(some 72), .val (.mov (.t 11)), none⟩,
    ⟨(some 73), .val (.bin .num .lss (.t 72) (.c (.int .i64 0))), none⟩]
def g206_19 : List Am.Item := [
    ⟨(some 4), .val (.mov (.c (.int .i64 (-1)))), none⟩]
def g206_20 : List Am.Item := [
    ⟨(some 74), .val (.mov (.t 8)), none⟩,
    ⟨(some 75), .val (.mov (.t 11)), none⟩,
    ⟨(some 76), .val (.bin .num .add (.t 75) (.c (.int .i64 1))), none⟩,
    ⟨(some 77), .val (.bin .num .add (.t 74) (.t 76)), none⟩,
    ⟨(some 8), .val (.mov (.t 77)), none⟩]
def g206_21 : List Am.Item := [
    ⟨(some 78), .val (.mov (.t 0)), none⟩,
    ⟨(some 79), .val (.mov (.t 8)), none⟩,
    ⟨(some 80), .val (.bin .num .add (.t 79) (.c (.int .i64 1))), none⟩,
    ⟨(some 81), .val (.idx (.t 78) (.t 80)), none⟩,
    ⟨(some 82), .val (.mov (.t 7)), none⟩,
    ⟨(some 83), .val (.bin .num .eql (.t 81) (.t 82)), none⟩,
    ⟨(some 84), .val (.mov (.t 83)), none⟩,
    ⟨(some 85), .val (.mov (.t 0)), (some (84, true))⟩,
    ⟨(some 86), .val (.mov (.t 8)), (some (84, true))⟩,
    ⟨(some 87), .val (.mov (.t 8)), (some (84, true))⟩,
    ⟨(some 88), .val (.mov (.t 5)), (some (84, true))⟩,
    ⟨(some 89), .val (.bin .num .add (.t 87) (.t 88)), (some (84, true))⟩,
    ⟨(some 90), .val (.slc none (.t 85) (some (.t 86)) (some (.t 89)) none), (some (84, true))⟩,
    ⟨(some 91), .val (.mov (.t 1)), (some (84, true))⟩,
    ⟨(some 92), .val (.bin .str .eql (.t 90) (.t 91)), (some (84, true))⟩,
    ⟨(some 93), .val (.pick (.t 84) (.t 92) (.c (.bool false))), none⟩]
def g206_22 : List Am.Item := [
    ⟨(some 94), .val (.mov (.t 8)), none⟩,
    ⟨(some 4), .val (.mov (.t 94)), none⟩]
def g206_23 : List Am.Item := [
    ⟨(some 95), .val (.mov (.t 8)), none⟩,
    ⟨(some 96), .val (.bin .num .add (.t 95) (.c (.int .i64 1))), none⟩,
    ⟨(some 8), .val (.mov (.t 96)), none⟩]
def g206_24 : List Am.Item := [
    ⟨(some 97), .val (.mov (.t 10)), none⟩,
    ⟨(some 98), .val (.bin .num .add (.t 97) (.c (.int .i64 1))), none⟩,
    ⟨(some 10), .val (.mov (.t 98)), none⟩]
def g206_26 : List Am.Item := [
    ⟨(some 108), .val (.mov (.t 0)), none⟩,
    ⟨(some 109), .val (.mov (.t 8)), none⟩,
    ⟨(some 110), .val (.slc none (.t 108) (some (.t 109)) none none), none⟩,
    ⟨(some 111), .val (.mov (.t 1)), none⟩,
    ⟨(some 112), .call (.f 215) [(.t 110), (.t 111)], none⟩,
    ⟨(some 12), .val (.mov (.t 112)), none⟩]
def g206_27 : List Am.Item := [
    ⟨(some 113), .val (.mov (.t 12)), none⟩,
    ⟨(some 114), .val (.bin .num .geq (.t 113) (.c (.int .i64 0))), none⟩]
def g206_28 : List Am.Item := [
    ⟨(some 115), .val (.mov (.t 12)), none⟩,
    ⟨(some 116), .val (.mov (.t 8)), none⟩,
    ⟨(some 117), .val (.bin .num .add (.t 115) (.t 116)), none⟩,
    ⟨(some 4), .val (.mov (.t 117)), none⟩]
def g206_29 : List Am.Item := [
    ⟨(some 4), .val (.mov (.c (.int .i64 (-1)))), none⟩]
def g206_31 : List Am.Item := [
    ⟨(some 133), .val (.mov (.t 0)), none⟩,
    ⟨(some 134), .val (.mov (.t 8)), none⟩,
    ⟨(some 135), .val (.slc none (.t 133) (some (.t 134)) none none), none⟩,
    ⟨(some 136), .val (.mov (.t 1)), none⟩,
    ⟨(some 137), .call (.f 217) [(.t 135), (.t 136)], none⟩,
    ⟨(some 13), .val (.mov (.t 137)), none⟩]
def g206_32 : List Am.Item := [
    ⟨(some 138), .val (.mov (.t 13)), none⟩,
    ⟨(some 139), .val (.bin .num .lss (.t 138) (.c (.int .i64 0))), none⟩]
def g206_33 : List Am.Item := [
    ⟨(some 4), .val (.mov (.c (.int .i64 (-1)))), none⟩]
def g206_34 : List Am.Item := [
    ⟨(some 140), .val (.mov (.t 8)), none⟩,
    ⟨(some 141), .val (.mov (.t 13)), none⟩,
    ⟨(some 142), .val (.bin .num .add (.t 140) (.t 141)), none⟩,
    ⟨(some 4), .val (.mov (.t 142)), none⟩]
def l206_0 : RC := .seq (.seq (.reg g206_15) (.cond (.t 59) (.skip) (.exit 1))) (.block 2 (.seq (.seq (.reg g206_16) (.cond (.t 64) (.seq (.reg g206_17) (.seq (.seq (.reg g206_18) (.cond (.t 73) (.seq (.reg g206_19) (.ret)) (.skip))) (.reg g206_20))) (.skip))) (.seq (.seq (.reg g206_21) (.cond (.t 93) (.seq (.reg g206_22) (.ret)) (.skip))) (.seq (.reg g206_23) (.seq (.reg g206_24) (.seq (.no) (.cond (.t 107) (.seq (.reg g206_26) (.seq (.seq (.reg g206_27) (.cond (.t 114) (.seq (.reg g206_28) (.ret)) (.skip))) (.seq (.reg g206_29) (.ret)))) (.seq (.no) (.cond (.t 132) (.seq (.reg g206_31) (.seq (.seq (.reg g206_32) (.cond (.t 139) (.seq (.reg g206_33) (.ret)) (.skip))) (.seq (.reg g206_34) (.ret)))) (.skip))))))))))
def g206_35 : List Am.Item := [
    ⟨(some 4), .val (.mov (.c (.int .i64 (-1)))), none⟩]
def r206 : RC := .seq (.reg g206_0) (.seq (.reg g206_1) (.seq (.block 0 (.seq (.reg g206_2) (.cond (.t 16) (.seq (.reg g206_3) (.ret)) (.seq (.reg g206_4) (.cond (.t 24) (.seq (.reg g206_5) (.ret)) (.seq (.reg g206_6) (.cond (.t 31) (.seq (.reg g206_7) (.ret)) (.seq (.no) (.cond (.t 36) (.seq (.reg g206_9) (.ret)) (.skip)))))))))) (.seq (.reg g206_10) (.seq (.reg g206_11) (.seq (.reg g206_12) (.seq (.reg g206_13) (.seq (.reg g206_14) (.seq (.block 1 (.loop l206_0)) (.seq (.reg g206_35) (.ret))))))))))
def o206 : List RR := [.tmp 4]
theorem k206 : chkC Tryz.prog 143 r206 (Tryz.f206.body.getD .skip) = true := by decide +kernel
theorem q206 : chkR Tryz.prog Tryz.f206.results.toList o206 = true := by decide +kernel

/- wireschema/scalar.within -/
def g208_0 : List Am.Item := [
    ⟨(some 4), .val (.mov (.c (.bool false))), none⟩]
def g208_1 : List Am.Item := [
    ⟨(some 5), .val (.mov (.c (.int .u64 4294967295))), none⟩]
def g208_2 : List Am.Item := [
    ⟨(some 6), .val (.mov (.t 0)), none⟩]
def g208_3 : List Am.Item := [
    ⟨(some 8), .val (.bin .num .eql (.t 6) (.c (.int .i64 1))), none⟩,
    ⟨(some 7), .val (.mov (.t 8)), none⟩]
def g208_4 : List Am.Item := [
    ⟨(some 10), .val (.bin .num .eql (.t 6) (.c (.int .i64 2))), none⟩,
    ⟨(some 9), .val (.mov (.t 10)), none⟩]
def g208_5 : List Am.Item := [
    ⟨(some 12), .val (.bin .num .eql (.t 6) (.c (.int .i64 9))), none⟩,
    ⟨(some 11), .val (.mov (.t 12)), none⟩]
def g208_6 : List Am.Item := [
    ⟨(some 14), .val (.bin .num .eql (.t 6) (.c (.int .i64 4))), none⟩,
    ⟨(some 13), .val (.mov (.t 14)), none⟩]
def g208_7 : List Am.Item := [
    ⟨(some 15), .val (.mov (.t 1)), none⟩,
    ⟨(some 16), .val (.bin .num .leq (.t 15) (.c (.int .u64 1))), none⟩,
    ⟨(some 4), .val (.mov (.t 16)), none⟩]
def g208_8 : List Am.Item := [
    ⟨(some 17), .val (.mov (.t 1)), none⟩,
    ⟨(some 18), .val (.cvi .i64 (.t 17)), none⟩,
    ⟨(some 19), .val (.bin .num .geq (.t 18) (.c (.int .i64 (-2147483648)))), none⟩,
    ⟨(some 20), .val (.mov (.t 19)), none⟩,
    ⟨(some 21), .val (.mov (.t 1)), (some (20, true))⟩,
    ⟨(some 22), .val (.cvi .i64 (.t 21)), (some (20, true))⟩,
    ⟨(some 23), .val (.bin .num .leq (.t 22) (.c (.int .i64 2147483647))), (some (20, true))⟩,
    ⟨(some 24), .val (.pick (.t 20) (.t 23) (.c (.bool false))), none⟩,
    ⟨(some 4), .val (.mov (.t 24)), none⟩]
def g208_9 : List Am.Item := [
    ⟨(some 5), .val (.mov (.c (.int .u64 2147483647))), none⟩]
def g208_10 : List Am.Item := [
    ⟨(some 25), .val (.mov (.t 1)), none⟩,
    ⟨(some 26), .val (.mov (.t 5)), none⟩,
    ⟨(some 27), .val (.bin .num .leq (.t 25) (.t 26)), none⟩,
    ⟨(some 4), .val (.mov (.t 27)), none⟩]
def g208_11 : List Am.Item := [
    ⟨(some 4), .val (.mov (.c (.bool true))), none⟩]
def r208 : RC := .seq (.reg g208_0) (.seq (.reg g208_1) (.seq (.seq (.reg g208_2) (.block 0 (.seq (.block 4 (.seq (.block 3 (.seq (.block 2 (.seq (.block 1 (.seq (.seq (.seq (.reg g208_3) (.cond (.t 7) (.exit 1) (.skip))) (.seq (.seq (.reg g208_4) (.cond (.t 9) (.exit 2) (.skip))) (.seq (.seq (.reg g208_5) (.cond (.t 11) (.exit 3) (.skip))) (.seq (.reg g208_6) (.cond (.t 13) (.exit 4) (.skip)))))) (.exit 0))) (.seq (.seq (.reg g208_7) (.ret)) (.exit 0)))) (.seq (.seq (.reg g208_8) (.ret)) (.exit 0)))) (.reg g208_9))) (.seq (.seq (.reg g208_10) (.ret)) (.exit 0))))) (.seq (.reg g208_11) (.ret))))
def o208 : List RR := [.tmp 4]
theorem k208 : chkC Tryz.prog 28 r208 (Tryz.f208.body.getD .skip) = true := by decide +kernel
theorem q208 : chkR Tryz.prog Tryz.f208.results.toList o208 = true := by decide +kernel

/- internal/stringslite.IndexByte -/
def g214_0 : List Am.Item := [
    ⟨(some 4), .val (.mov (.c (.int .i64 0))), none⟩]
def g214_1 : List Am.Item := [
    ⟨(some 5), .val (.mov (.t 0)), none⟩,
    ⟨(some 6), .val (.mov (.t 1)), none⟩,
    ⟨(some 7), .xb false 219 (.t 5) (.t 6), none⟩,
    ⟨(some 4), .val (.mov (.t 7)), none⟩]
def r214 : RC := .seq (.reg g214_0) (.seq (.reg g214_1) (.ret))
def o214 : List RR := [.tmp 4]
theorem k214 : chkC Tryz.prog 8 r214 (Tryz.f214.body.getD .skip) = true := by decide +kernel
theorem q214 : chkR Tryz.prog Tryz.f214.results.toList o214 = true := by decide +kernel

/- wireschema/wireschemaref18.Few -/
def g4_0 : List Am.Item := [
    ⟨(some 2), .boxN 2 (.t 0), none⟩,
    ⟨(some 4), .val (.mov (.c (.bool false))), none⟩]
def g4_1 : List Am.Item := [
    ⟨(some 5), .val (.load (some 7) (.t 2)), none⟩,
    ⟨(some 6), .val (.mov (.t 1)), none⟩,
    ⟨(some 7), .callR (.f 9) [(.t 5), (.c (.int .i64 1)), (.t 6)], none⟩,
    ⟨(some 8), .val (.bin .num .geq (.t 7) (.c (.int .i64 0))), none⟩,
    ⟨(some 4), .val (.mov (.t 8)), none⟩]
def r4 : RC := .seq (.reg g4_0) (.seq (.reg g4_1) (.ret))
def o4 : List RR := [.tmp 4]
theorem k4 : chkC Tryz.prog 9 r4 (Tryz.f4.body.getD .skip) = true := by decide +kernel
theorem q4 : chkR Tryz.prog Tryz.f4.results.toList o4 = true := by decide +kernel

/- wireschema/wireschemaref18.count -/
def g9_0 : List Am.Item := [
    ⟨(some 3), .boxN 3 (.t 0), none⟩,
    ⟨(some 6), .val (.mov (.c (.int .i64 0))), none⟩]
def g9_1 : List Am.Item := [
    ⟨(some 11), .val (.mov (.t 2)), none⟩,
    ⟨(some 12), .val (.bin .num .sub (.t 11) (.c (.int .i64 1))), none⟩,
    ⟨(some 2), .val (.mov (.t 12)), none⟩]
def g9_2 : List Am.Item := [
    ⟨(some 13), .val (.mov (.t 1)), none⟩,
    ⟨(some 14), .val (.bin .num .gtr (.t 13) (.c (.int .i64 40))), none⟩,
    ⟨(some 15), .val (.mov (.t 14)), none⟩,
    ⟨(some 16), .val (.faddr 2 (.t 3)), (some (15, false))⟩,
    ⟨(some 17), .val (.load none (.t 16)), (some (15, false))⟩,
    ⟨(some 18), .val (.len 0 (.t 17)), (some (15, false))⟩,
    ⟨(some 19), .val (.bin .num .gtr (.t 18) (.c (.int .i64 5000))), (some (15, false))⟩,
    ⟨(some 20), .val (.pick (.t 15) (.c (.bool true)) (.t 19)), none⟩,
    ⟨(some 21), .val (.mov (.t 20)), none⟩,
    ⟨(some 22), .val (.faddr 6 (.t 3)), (some (21, false))⟩,
    ⟨(some 23), .val (.load none (.t 22)), (some (21, false))⟩,
    ⟨(some 24), .val (.len 1 (.t 23)), (some (21, false))⟩,
    ⟨(some 25), .val (.mov (.t 2)), (some (21, false))⟩,
    ⟨(some 26), .val (.bin .num .gtr (.t 24) (.t 25)), (some (21, false))⟩,
    ⟨(some 27), .val (.pick (.t 21) (.c (.bool true)) (.t 26)), none⟩]
def g9_3 : List Am.Item := [
    ⟨(some 6), .val (.mov (.c (.int .i64 (-1)))), none⟩]
def g9_4 : List Am.Item := [
    ⟨(some 28), .val (.mov (.t 2)), none⟩,
    ⟨(some 29), .val (.faddr 6 (.t 3)), none⟩,
    ⟨(some 30), .val (.load none (.t 29)), none⟩,
    ⟨(some 31), .val (.len 1 (.t 30)), none⟩,
    ⟨(some 32), .val (.bin .num .sub (.t 28) (.t 31)), none⟩,
    ⟨(some 2), .val (.mov (.t 32)), none⟩]
def g9_5 : List Am.Item := [
    ⟨(some 7), .val (.mov (.c (.int .i64 0))), none⟩]
def g9_6 : List Am.Item := [
    ⟨(some 33), .val (.mov (.t 7)), none⟩,
    ⟨(some 34), .val (.faddr 6 (.t 3)), none⟩,
    ⟨(some 35), .val (.load none (.t 34)), none⟩,
    ⟨(some 36), .val (.len 1 (.t 35)), none⟩,
    ⟨(some 37), .val (.bin .num .lss (.t 33) (.t 36)), none⟩]
def g9_8 : List Am.Item := [
    ⟨(some 40), .val (.faddr 6 (.t 3)), none⟩,
    ⟨(some 41), .val (.load none (.t 40)), none⟩,
    ⟨(some 42), .val (.mov (.t 7)), none⟩,
    ⟨(some 43), .val (.iaddr 4 none (.t 41) (.t 42)), none⟩,
    ⟨(some 44), .val (.faddr 3 (.t 43)), none⟩,
    ⟨(some 45), .val (.load none (.t 44)), none⟩,
    ⟨(some 46), .val (.len 0 (.t 45)), none⟩,
    ⟨(some 47), .val (.bin .num .gtr (.t 46) (.c (.int .i64 5000))), none⟩]
def g9_9 : List Am.Item := [
    ⟨(some 6), .val (.mov (.c (.int .i64 (-1)))), none⟩]
def g9_7 : List Am.Item := [
    ⟨(some 38), .val (.mov (.t 7)), none⟩,
    ⟨(some 39), .val (.bin .num .add (.t 38) (.c (.int .i64 1))), none⟩,
    ⟨(some 7), .val (.mov (.t 39)), none⟩]
def l9_0 : RC := .seq (.seq (.reg g9_6) (.cond (.t 37) (.skip) (.exit 0))) (.seq (.block 1 (.seq (.reg g9_8) (.cond (.t 47) (.seq (.reg g9_9) (.ret)) (.skip)))) (.reg g9_7))
def g9_10 : List Am.Item := [
    ⟨(some 8), .val (.mov (.c (.int .i64 0))), none⟩]
def g9_11 : List Am.Item := [
    ⟨(some 48), .val (.mov (.t 8)), none⟩,
    ⟨(some 49), .val (.faddr 3 (.t 3)), none⟩,
    ⟨(some 50), .val (.load none (.t 49)), none⟩,
    ⟨(some 51), .val (.len 1 (.t 50)), none⟩,
    ⟨(some 52), .val (.bin .num .lss (.t 48) (.t 51)), none⟩,
    ⟨(some 53), .val (.mov (.t 52)), none⟩,
    ⟨(some 54), .val (.mov (.t 2)), (some (53, true))⟩,
    ⟨(some 55), .val (.bin .num .geq (.t 54) (.c (.int .i64 0))), (some (53, true))⟩,
    ⟨(some 56), .val (.pick (.t 53) (.t 55) (.c (.bool false))), none⟩]
def g9_13 : List Am.Item := [
    ⟨(some 59), .val (.faddr 3 (.t 3)), none⟩,
    ⟨(some 60), .val (.load none (.t 59)), none⟩,
    ⟨(some 61), .val (.mov (.t 8)), none⟩,
    ⟨(some 62), .val (.iaddr 7 none (.t 60) (.t 61)), none⟩,
    ⟨(some 63), .val (.load (some 7) (.t 62)), none⟩,
    ⟨(some 64), .val (.mov (.t 1)), none⟩,
    ⟨(some 65), .val (.bin .num .add (.t 64) (.c (.int .i64 1))), none⟩,
    ⟨(some 66), .val (.mov (.t 2)), none⟩,
    ⟨(some 67), .callR (.f 9) [(.t 63), (.t 65), (.t 66)], none⟩,
    ⟨(some 2), .val (.mov (.t 67)), none⟩]
def g9_12 : List Am.Item := [
    ⟨(some 57), .val (.mov (.t 8)), none⟩,
    ⟨(some 58), .val (.bin .num .add (.t 57) (.c (.int .i64 1))), none⟩,
    ⟨(some 8), .val (.mov (.t 58)), none⟩]
def l9_1 : RC := .seq (.seq (.reg g9_11) (.cond (.t 56) (.skip) (.exit 2))) (.seq (.block 3 (.reg g9_13)) (.reg g9_12))
def g9_14 : List Am.Item := [
    ⟨(some 9), .val (.mov (.c (.int .i64 0))), none⟩]
def g9_15 : List Am.Item := [
    ⟨(some 68), .val (.mov (.t 9)), none⟩,
    ⟨(some 69), .val (.faddr 4 (.t 3)), none⟩,
    ⟨(some 70), .val (.load none (.t 69)), none⟩,
    ⟨(some 71), .val (.len 1 (.t 70)), none⟩,
    ⟨(some 72), .val (.bin .num .lss (.t 68) (.t 71)), none⟩,
    ⟨(some 73), .val (.mov (.t 72)), none⟩,
    ⟨(some 74), .val (.mov (.t 2)), (some (73, true))⟩,
    ⟨(some 75), .val (.bin .num .geq (.t 74) (.c (.int .i64 0))), (some (73, true))⟩,
    ⟨(some 76), .val (.pick (.t 73) (.t 75) (.c (.bool false))), none⟩]
def g9_17 : List Am.Item := [
    ⟨(some 79), .val (.faddr 4 (.t 3)), none⟩,
    ⟨(some 80), .val (.load none (.t 79)), none⟩,
    ⟨(some 81), .val (.mov (.t 9)), none⟩,
    ⟨(some 82), .val (.iaddr 14 none (.t 80) (.t 81)), none⟩,
    ⟨(some 83), .val (.faddr 0 (.t 82)), none⟩,
    ⟨(some 84), .val (.load (some 7) (.t 83)), none⟩,
    ⟨(some 85), .val (.mov (.t 1)), none⟩,
    ⟨(some 86), .val (.bin .num .add (.t 85) (.c (.int .i64 1))), none⟩,
    ⟨(some 87), .val (.mov (.t 2)), none⟩,
    ⟨(some 88), .callR (.f 9) [(.t 84), (.t 86), (.t 87)], none⟩,
    ⟨(some 2), .val (.mov (.t 88)), none⟩]
def g9_18 : List Am.Item := [
    ⟨(some 89), .val (.mov (.t 2)), none⟩,
    ⟨(some 90), .val (.bin .num .geq (.t 89) (.c (.int .i64 0))), none⟩]
def g9_19 : List Am.Item := [
    ⟨(some 91), .val (.faddr 4 (.t 3)), none⟩,
    ⟨(some 92), .val (.load none (.t 91)), none⟩,
    ⟨(some 93), .val (.mov (.t 9)), none⟩,
    ⟨(some 94), .val (.iaddr 14 none (.t 92) (.t 93)), none⟩,
    ⟨(some 95), .val (.faddr 7 (.t 94)), none⟩,
    ⟨(some 96), .val (.load (some 7) (.t 95)), none⟩,
    ⟨(some 97), .val (.mov (.t 1)), none⟩,
    ⟨(some 98), .val (.bin .num .add (.t 97) (.c (.int .i64 1))), none⟩,
    ⟨(some 99), .val (.mov (.t 2)), none⟩,
    ⟨(some 100), .callR (.f 9) [(.t 96), (.t 98), (.t 99)], none⟩,
    ⟨(some 2), .val (.mov (.t 100)), none⟩]
def g9_16 : List Am.Item := [
    ⟨(some 77), .val (.mov (.t 9)), none⟩,
    ⟨(some 78), .val (.bin .num .add (.t 77) (.c (.int .i64 1))), none⟩,
    ⟨(some 9), .val (.mov (.t 78)), none⟩]
def l9_2 : RC := .seq (.seq (.reg g9_15) (.cond (.t 76) (.skip) (.exit 4))) (.seq (.block 5 (.seq (.reg g9_17) (.seq (.reg g9_18) (.cond (.t 90) (.reg g9_19) (.skip))))) (.reg g9_16))
def g9_20 : List Am.Item := [
    ⟨(some 10), .val (.mov (.c (.int .i64 0))), none⟩]
def g9_21 : List Am.Item := [
    ⟨(some 101), .val (.mov (.t 10)), none⟩,
    ⟨(some 102), .val (.faddr 5 (.t 3)), none⟩,
    ⟨(some 103), .val (.load none (.t 102)), none⟩,
    ⟨(some 104), .val (.len 1 (.t 103)), none⟩,
    ⟨(some 105), .val (.bin .num .lss (.t 101) (.t 104)), none⟩,
    ⟨(some 106), .val (.mov (.t 105)), none⟩,
    ⟨(some 107), .val (.mov (.t 2)), (some (106, true))⟩,
    ⟨(some 108), .val (.bin .num .geq (.t 107) (.c (.int .i64 0))), (some (106, true))⟩,
    ⟨(some 109), .val (.pick (.t 106) (.t 108) (.c (.bool false))), none⟩]
def g9_23 : List Am.Item := [
    ⟨(some 112), .val (.faddr 5 (.t 3)), none⟩,
    ⟨(some 113), .val (.load none (.t 112)), none⟩,
    ⟨(some 114), .val (.mov (.t 10)), none⟩,
    ⟨(some 115), .val (.iaddr 8 none (.t 113) (.t 114)), none⟩,
    ⟨(some 116), .val (.faddr 1 (.t 115)), none⟩,
    ⟨(some 117), .val (.load (some 7) (.t 116)), none⟩,
    ⟨(some 118), .val (.mov (.t 1)), none⟩,
    ⟨(some 119), .val (.bin .num .add (.t 118) (.c (.int .i64 1))), none⟩,
    ⟨(some 120), .val (.mov (.t 2)), none⟩,
    ⟨(some 121), .callR (.f 9) [(.t 117), (.t 119), (.t 120)], none⟩,
    ⟨(some 2), .val (.mov (.t 121)), none⟩]
def g9_22 : List Am.Item := [
    ⟨(some 110), .val (.mov (.t 10)), none⟩,
    ⟨(some 111), .val (.bin .num .add (.t 110) (.c (.int .i64 1))), none⟩,
    ⟨(some 10), .val (.mov (.t 111)), none⟩]
def l9_3 : RC := .seq (.seq (.reg g9_21) (.cond (.t 109) (.skip) (.exit 6))) (.seq (.block 7 (.reg g9_23)) (.reg g9_22))
def g9_24 : List Am.Item := [
    ⟨(some 122), .val (.mov (.t 2)), none⟩,
    ⟨(some 6), .val (.mov (.t 122)), none⟩]
def r9 : RC := .seq (.reg g9_0) (.seq (.reg g9_1) (.seq (.seq (.reg g9_2) (.cond (.t 27) (.seq (.reg g9_3) (.ret)) (.skip))) (.seq (.reg g9_4) (.seq (.seq (.reg g9_5) (.block 0 (.loop l9_0))) (.seq (.seq (.reg g9_10) (.block 2 (.loop l9_1))) (.seq (.seq (.reg g9_14) (.block 4 (.loop l9_2))) (.seq (.seq (.reg g9_20) (.block 6 (.loop l9_3))) (.seq (.reg g9_24) (.ret)))))))))
def o9 : List RR := [.tmp 6]
theorem k9 : chkC Tryz.prog 123 r9 (Tryz.f9.body.getD .skip) = true := by decide +kernel
theorem q9 : chkR Tryz.prog Tryz.f9.results.toList o9 = true := by decide +kernel

/- wireschema/scalar.Class -/
def g24_0 : List Am.Item := [
    ⟨(some 2), .val (.mov (.c (.int .i64 0))), none⟩]
def g24_1 : List Am.Item := [
    ⟨(some 5), .val (.mov (.t 0)), none⟩,
    ⟨(some 6), .val (.bin .num .and (.t 5) (.c (.int .u64 9218868437227405312))), none⟩,
    ⟨(some 7), .val (.mov (.t 0)), none⟩,
    ⟨(some 8), .val (.bin .num .and (.t 7) (.c (.int .u64 4503599627370495))), none⟩,
    ⟨(some 3), .val (.mov (.t 6)), none⟩,
    ⟨(some 4), .val (.mov (.t 8)), none⟩]
def g24_2 : List Am.Item := [
    ⟨(some 10), .val (.mov (.t 3)), none⟩,
    ⟨(some 11), .val (.bin .num .eql (.t 10) (.c (.int .u64 9218868437227405312))), none⟩,
    ⟨(some 12), .val (.mov (.t 11)), none⟩,
    ⟨(some 13), .val (.mov (.t 4)), (some (12, true))⟩,
    ⟨(some 14), .val (.bin .num .neq (.t 13) (.c (.int .u64 0))), (some (12, true))⟩,
    ⟨(some 15), .val (.pick (.t 12) (.t 14) (.c (.bool false))), none⟩,
    ⟨(some 9), .val (.mov (.t 15)), none⟩]
def g24_3 : List Am.Item := [
    ⟨(some 2), .val (.mov (.c (.int .i64 0))), none⟩]
def g24_4 : List Am.Item := [
    ⟨(some 17), .val (.mov (.t 3)), none⟩,
    ⟨(some 18), .val (.bin .num .eql (.t 17) (.c (.int .u64 9218868437227405312))), none⟩,
    ⟨(some 16), .val (.mov (.t 18)), none⟩]
def g24_5 : List Am.Item := [
    ⟨(some 2), .val (.mov (.c (.int .i64 1))), none⟩]
def g24_6 : List Am.Item := [
    ⟨(some 20), .val (.mov (.t 3)), none⟩,
    ⟨(some 21), .val (.bin .num .eql (.t 20) (.c (.int .u64 0))), none⟩,
    ⟨(some 22), .val (.mov (.t 21)), none⟩,
    ⟨(some 23), .val (.mov (.t 4)), (some (22, true))⟩,
    ⟨(some 24), .val (.bin .num .eql (.t 23) (.c (.int .u64 0))), (some (22, true))⟩,
    ⟨(some 25), .val (.pick (.t 22) (.t 24) (.c (.bool false))), none⟩,
    ⟨(some 19), .val (.mov (.t 25)), none⟩]
def g24_7 : List Am.Item := [
    ⟨(some 2), .val (.mov (.c (.int .i64 2))), none⟩]
def g24_8 : List Am.Item := [
    ⟨(some 27), .val (.mov (.t 3)), none⟩,
    ⟨(some 28), .val (.bin .num .eql (.t 27) (.c (.int .u64 0))), none⟩,
    ⟨(some 26), .val (.mov (.t 28)), none⟩]
def g24_9 : List Am.Item := [
    ⟨(some 2), .val (.mov (.c (.int .i64 3))), none⟩]
def g24_10 : List Am.Item := [
    ⟨(some 2), .val (.mov (.c (.int .i64 4))), none⟩]
def r24 : RC := .seq (.reg g24_0) (.seq (.seq (.reg g24_1) (.block 0 (.seq (.reg g24_2) (.cond (.t 9) (.seq (.reg g24_3) (.ret)) (.seq (.reg g24_4) (.cond (.t 16) (.seq (.reg g24_5) (.ret)) (.seq (.reg g24_6) (.cond (.t 19) (.seq (.reg g24_7) (.ret)) (.seq (.reg g24_8) (.cond (.t 26) (.seq (.reg g24_9) (.ret)) (.skip))))))))))) (.seq (.reg g24_10) (.ret)))
def o24 : List RR := [.tmp 2]
theorem k24 : chkC Tryz.prog 29 r24 (Tryz.f24.body.getD .skip) = true := by decide +kernel
theorem q24 : chkR Tryz.prog Tryz.f24.results.toList o24 = true := by decide +kernel

/- wireschema/wireschemaref24.Scalar -/
def g8_0 : List Am.Item := [
    ⟨(some 1), .boxN 1 (.t 0), none⟩,
    ⟨(some 2), .allocN 2 [.int .i64 0, .int .i64 0, .int .u64 0, .str []], none⟩]
def g8_1 : List Am.Item := [
    ⟨(some 3), .val (.faddr 0 (.t 1)), none⟩,
    ⟨(some 4), .val (.load none (.t 3)), none⟩]
def g8_2 : List Am.Item := [
    ⟨(some 6), .val (.bin .num .eql (.t 4) (.c (.int .i64 1))), none⟩,
    ⟨(some 5), .val (.mov (.t 6)), none⟩]
def g8_3 : List Am.Item := [
    ⟨(some 7), .val (.bin .num .eql (.t 4) (.c (.int .i64 4))), none⟩,
    ⟨(some 5), .val (.mov (.t 7)), none⟩]
def g8_4 : List Am.Item := [
    ⟨(some 8), .val (.bin .num .eql (.t 4) (.c (.int .i64 5))), none⟩,
    ⟨(some 5), .val (.mov (.t 8)), none⟩]
def g8_5 : List Am.Item := [
    ⟨(some 9), .val (.bin .num .eql (.t 4) (.c (.int .i64 9))), none⟩,
    ⟨(some 5), .val (.mov (.t 9)), none⟩]
def g8_6 : List Am.Item := [
    ⟨(some 10), .val (.faddr 1 (.t 1)), none⟩,
    ⟨(some 11), .val (.load none (.t 10)), none⟩,
    ⟨(some 12), .val (.build [.int .i64 0, .int .i64 0, .int .u64 0, .str []] [(1, 1, (.c (.int .i64 0))), (2, 1, (.t 11))]), none⟩,
    ⟨none, .store 4 (.t 2) (.t 12), none⟩]
def g8_7 : List Am.Item := [
    ⟨(some 14), .val (.bin .num .eql (.t 4) (.c (.int .i64 2))), none⟩,
    ⟨(some 13), .val (.mov (.t 14)), none⟩]
def g8_8 : List Am.Item := [
    ⟨(some 15), .val (.bin .num .eql (.t 4) (.c (.int .i64 3))), none⟩,
    ⟨(some 13), .val (.mov (.t 15)), none⟩]
def g8_9 : List Am.Item := [
    ⟨(some 16), .val (.faddr 1 (.t 1)), none⟩,
    ⟨(some 17), .val (.load none (.t 16)), none⟩,
    ⟨(some 18), .val (.cvi .i64 (.t 17)), none⟩,
    ⟨(some 19), .call (.f 17) [(.t 18)], none⟩,
    ⟨(some 20), .val (.build [.int .i64 0, .int .i64 0, .int .u64 0, .str []] [(1, 1, (.c (.int .i64 1))), (2, 1, (.t 19))]), none⟩,
    ⟨none, .store 4 (.t 2) (.t 20), none⟩]
def g8_10 : List Am.Item := [
    ⟨(some 22), .val (.bin .num .eql (.t 4) (.c (.int .i64 6))), none⟩,
    ⟨(some 21), .val (.mov (.t 22)), none⟩]
def g8_11 : List Am.Item := [
    ⟨(some 23), .val (.load (some 7) (.t 1)), none⟩,
    ⟨(some 24), .call (.f 18) [(.t 23)], none⟩,
    ⟨(some 25), .val (.fld 1 none (.t 24)), none⟩,
    ⟨(some 26), .val (.build [.int .i64 0, .int .i64 0, .int .u64 0, .str []] [(1, 1, (.c (.int .i64 2))), (2, 1, (.t 25))]), none⟩,
    ⟨none, .store 4 (.t 2) (.t 26), none⟩]
def g8_12 : List Am.Item := [
    ⟨(some 28), .val (.bin .num .eql (.t 4) (.c (.int .i64 7))), none⟩,
    ⟨(some 27), .val (.mov (.t 28)), none⟩]
def g8_13 : List Am.Item := [
    ⟨(some 29), .val (.bin .num .eql (.t 4) (.c (.int .i64 8))), none⟩,
    ⟨(some 27), .val (.mov (.t 29)), none⟩]
def g8_14 : List Am.Item := [
    ⟨(some 30), .val (.faddr 2 (.t 1)), none⟩,
    ⟨(some 31), .val (.load none (.t 30)), none⟩,
    ⟨(some 32), .val (.build [.int .i64 0, .int .i64 0, .int .u64 0, .str []] [(1, 1, (.c (.int .i64 3))), (3, 1, (.t 31))]), none⟩,
    ⟨none, .store 4 (.t 2) (.t 32), none⟩]
def g8_15 : List Am.Item := [
    ⟨(some 33), .val (.build [.int .i64 0, .int .i64 0, .int .u64 0, .str []] []), none⟩,
    ⟨none, .store 4 (.t 2) (.t 33), none⟩]
def r8 : RC := .seq (.reg g8_0) (.seq (.seq (.reg g8_1) (.block 0 (.seq (.seq (.reg g8_2) (.cond (.t 5) (.skip) (.seq (.reg g8_3) (.cond (.t 5) (.skip) (.seq (.reg g8_4) (.cond (.t 5) (.skip) (.reg g8_5))))))) (.cond (.t 5) (.seq (.reg g8_6) (.ret)) (.seq (.seq (.reg g8_7) (.cond (.t 13) (.skip) (.reg g8_8))) (.cond (.t 13) (.seq (.reg g8_9) (.ret)) (.seq (.reg g8_10) (.cond (.t 21) (.seq (.reg g8_11) (.ret)) (.seq (.seq (.reg g8_12) (.cond (.t 27) (.skip) (.reg g8_13))) (.cond (.t 27) (.seq (.reg g8_14) (.ret)) (.skip))))))))))) (.seq (.reg g8_15) (.ret)))
def o8 : List RR := [.cell 2 (some 4)]
theorem k8 : chkC Tryz.prog 34 r8 (Tryz.f8.body.getD .skip) = true := by decide +kernel
theorem q8 : chkR Tryz.prog Tryz.f8.results.toList o8 = true := by decide +kernel

/- wireschema/wireschemaref01.Zig -/
def g17_0 : List Am.Item := [
    ⟨(some 2), .val (.mov (.c (.int .u64 0))), none⟩]
def g17_1 : List Am.Item := [
    ⟨(some 3), .val (.mov (.t 0)), none⟩,
    ⟨(some 4), .val (.bin .num .geq (.t 3) (.c (.int .i64 0))), none⟩]
def g17_2 : List Am.Item := [
    ⟨(some 5), .val (.mov (.t 0)), none⟩,
    ⟨(some 6), .val (.cvi .u64 (.t 5)), none⟩,
    ⟨(some 7), .val (.bin .num .mul (.c (.int .u64 2)) (.t 6)), none⟩,
    ⟨(some 2), .val (.mov (.t 7)), none⟩]
def g17_3 : List Am.Item := [
    ⟨(some 8), .val (.mov (.t 0)), none⟩,
    ⟨(some 9), .val (.bin .num .add (.t 8) (.c (.int .i64 1))), none⟩,
    ⟨(some 10), .val (.un .neg (.t 9)), none⟩,
    ⟨(some 11), .val (.cvi .u64 (.t 10)), none⟩,
    ⟨(some 12), .val (.bin .num .mul (.c (.int .u64 2)) (.t 11)), none⟩,
    ⟨(some 13), .val (.bin .num .add (.t 12) (.c (.int .u64 1))), none⟩,
    ⟨(some 2), .val (.mov (.t 13)), none⟩]
def r17 : RC := .seq (.reg g17_0) (.seq (.seq (.reg g17_1) (.cond (.t 4) (.seq (.reg g17_2) (.ret)) (.skip))) (.seq (.reg g17_3) (.ret)))
def o17 : List RR := [.tmp 2]
theorem k17 : chkC Tryz.prog 14 r17 (Tryz.f17.body.getD .skip) = true := by decide +kernel
theorem q17 : chkR Tryz.prog Tryz.f17.results.toList o17 = true := by decide +kernel

/- wireschema/wireschemaref04.Norm -/
def g18_0 : List Am.Item := [
    ⟨(some 1), .boxN 1 (.t 0), none⟩,
    ⟨(some 2), .allocN 2 [.int .i64 0, .int .u64 0, .str [], .nils, .nils, .nils, .nils], none⟩]
def g18_1 : List Am.Item := [
    ⟨(some 3), .val (.faddr 0 (.t 1)), none⟩,
    ⟨(some 4), .val (.load none (.t 3)), none⟩,
    ⟨(some 5), .val (.bin .num .eql (.t 4) (.c (.int .i64 6))), none⟩,
    ⟨(some 6), .val (.mov (.t 5)), none⟩,
    ⟨(some 7), .val (.faddr 1 (.t 1)), (some (6, true))⟩,
    ⟨(some 8), .val (.load none (.t 7)), (some (6, true))⟩,
    ⟨(some 9), .call (.f 25) [(.t 8)], (some (6, true))⟩,
    ⟨(some 10), .val (.bin .num .eql (.t 9) (.c (.int .i64 0))), (some (6, true))⟩,
    ⟨(some 11), .val (.pick (.t 6) (.t 10) (.c (.bool false))), none⟩]
def g18_2 : List Am.Item := [
    ⟨(some 12), .val (.faddr 1 (.t 1)), none⟩,
    ⟨none, .store 1 (.t 12) (.c (.int .u64 9221120237041090560)), none⟩]
def g18_3 : List Am.Item := [
    ⟨(some 13), .val (.load (some 7) (.t 1)), none⟩,
    ⟨none, .store 7 (.t 2) (.t 13), none⟩]
def r18 : RC := .seq (.reg g18_0) (.seq (.seq (.reg g18_1) (.cond (.t 11) (.reg g18_2) (.skip))) (.seq (.reg g18_3) (.ret)))
def o18 : List RR := [.cell 2 (some 7)]
theorem k18 : chkC Tryz.prog 14 r18 (Tryz.f18.body.getD .skip) = true := by decide +kernel
theorem q18 : chkR Tryz.prog Tryz.f18.results.toList o18 = true := by decide +kernel

/- wireschema/wireschemaref04.Class -/
def g25_0 : List Am.Item := [
    ⟨(some 2), .val (.mov (.c (.int .i64 0))), none⟩]
def g25_1 : List Am.Item := [
    ⟨(some 4), .val (.mov (.t 0)), none⟩,
    ⟨(some 5), .val (.bin .num .rem (.t 4) (.c (.int .u64 9223372036854775808))), none⟩,
    ⟨(some 3), .val (.mov (.t 5)), none⟩]
def g25_2 : List Am.Item := [
    ⟨(some 7), .val (.mov (.t 3)), none⟩,
    ⟨(some 8), .val (.bin .num .gtr (.t 7) (.c (.int .u64 9218868437227405312))), none⟩,
    ⟨(some 6), .val (.mov (.t 8)), none⟩]
def g25_3 : List Am.Item := [
    ⟨(some 2), .val (.mov (.c (.int .i64 0))), none⟩]
def g25_4 : List Am.Item := [
    ⟨(some 10), .val (.mov (.t 3)), none⟩,
    ⟨(some 11), .val (.bin .num .eql (.t 10) (.c (.int .u64 9218868437227405312))), none⟩,
    ⟨(some 9), .val (.mov (.t 11)), none⟩]
def g25_5 : List Am.Item := [
    ⟨(some 2), .val (.mov (.c (.int .i64 1))), none⟩]
def g25_6 : List Am.Item := [
    ⟨(some 13), .val (.mov (.t 3)), none⟩,
    ⟨(some 14), .val (.bin .num .eql (.t 13) (.c (.int .u64 0))), none⟩,
    ⟨(some 12), .val (.mov (.t 14)), none⟩]
def g25_7 : List Am.Item := [
    ⟨(some 2), .val (.mov (.c (.int .i64 2))), none⟩]
def g25_8 : List Am.Item := [
    ⟨(some 16), .val (.mov (.t 3)), none⟩,
    ⟨(some 17), .val (.bin .num .lss (.t 16) (.c (.int .u64 4503599627370496))), none⟩,
    ⟨(some 15), .val (.mov (.t 17)), none⟩]
def g25_9 : List Am.Item := [
    ⟨(some 2), .val (.mov (.c (.int .i64 3))), none⟩]
def g25_10 : List Am.Item := [
    ⟨(some 2), .val (.mov (.c (.int .i64 4))), none⟩]
def r25 : RC := .seq (.reg g25_0) (.seq (.reg g25_1) (.seq (.block 0 (.seq (.reg g25_2) (.cond (.t 6) (.seq (.reg g25_3) (.ret)) (.seq (.reg g25_4) (.cond (.t 9) (.seq (.reg g25_5) (.ret)) (.seq (.reg g25_6) (.cond (.t 12) (.seq (.reg g25_7) (.ret)) (.seq (.reg g25_8) (.cond (.t 15) (.seq (.reg g25_9) (.ret)) (.skip)))))))))) (.seq (.reg g25_10) (.ret))))
def o25 : List RR := [.tmp 2]
theorem k25 : chkC Tryz.prog 18 r25 (Tryz.f25.body.getD .skip) = true := by decide +kernel
theorem q25 : chkR Tryz.prog Tryz.f25.results.toList o25 = true := by decide +kernel

/- wireschema/wireschemaref23.Same -/
def g6_0 : List Am.Item := [
    ⟨(some 4), .val (.mov (.c (.bool false))), none⟩]
def g6_1 : List Am.Item := [
    ⟨(some 6), .val (.mov (.t 0)), none⟩,
    ⟨(some 7), .val (.len 1 (.t 6)), none⟩,
    ⟨(some 8), .val (.mov (.t 1)), none⟩,
    ⟨(some 9), .val (.len 1 (.t 8)), none⟩,
    ⟨(some 10), .val (.bin .num .neq (.t 7) (.t 9)), none⟩]
def g6_2 : List Am.Item := [
    ⟨(some 4), .val (.mov (.c (.bool false))), none⟩]
def g6_3 : List Am.Item := [
    ⟨(some 5), .val (.mov (.c (.int .i64 0))), none⟩]
def g6_4 : List Am.Item := [
    ⟨(some 11), .val (.mov (.t 5)), none⟩,
    ⟨(some 12), .val (.mov (.t 0)), none⟩,
    ⟨(some 13), .val (.len 1 (.t 12)), none⟩,
    ⟨(some 14), .val (.bin .num .lss (.t 11) (.t 13)), none⟩]
def g6_6 : List Am.Item := [
    ⟨(some 17), .val (.mov (.t 0)), none⟩,
    ⟨(some 18), .val (.mov (.t 5)), none⟩,
    ⟨(some 19), .val (.iaddr 4 none (.t 17) (.t 18)), none⟩,
    ⟨(some 20), .val (.loadr (some 4) (.t 19)), none⟩,
    ⟨(some 21), .val (.mov (.t 1)), none⟩,
    ⟨(some 22), .val (.mov (.t 5)), none⟩,
    ⟨(some 23), .val (.iaddr 4 none (.t 21) (.t 22)), none⟩,
    ⟨(some 24), .val (.loadr (some 4) (.t 23)), none⟩,
    ⟨(some 25), .val (.eqs true [.num, .num, .num, .str] (.t 20) (.t 24)), none⟩]
def g6_7 : List Am.Item := [
    ⟨(some 4), .val (.mov (.c (.bool false))), none⟩]
def g6_5 : List Am.Item := [
    ⟨(some 15), .val (.mov (.t 5)), none⟩,
    ⟨(some 16), .val (.bin .num .add (.t 15) (.c (.int .i64 1))), none⟩,
    ⟨(some 5), .val (.mov (.t 16)), none⟩]
def l6_0 : RC := .seq (.seq (.reg g6_4) (.cond (.t 14) (.skip) (.exit 0))) (.seq (.block 1 (.seq (.draw g6_6) (.cond (.t 25) (.seq (.reg g6_7) (.ret)) (.skip)))) (.reg g6_5))
def g6_8 : List Am.Item := [
    ⟨(some 4), .val (.mov (.c (.bool true))), none⟩]
def r6 : RC := .seq (.reg g6_0) (.seq (.seq (.reg g6_1) (.cond (.t 10) (.seq (.reg g6_2) (.ret)) (.skip))) (.seq (.seq (.reg g6_3) (.block 0 (.loop l6_0))) (.seq (.reg g6_8) (.ret))))
def o6 : List RR := [.tmp 4]
theorem k6 : chkC Tryz.prog 26 r6 (Tryz.f6.body.getD .skip) = true := by decide +kernel
theorem q6 : chkR Tryz.prog Tryz.f6.results.toList o6 = true := by decide +kernel

/- wireschema/wireschemalaw24.TagencScalars -/
def g3_0 : List Am.Item := [
    ⟨(some 1), .boxN 1 (.t 0), none⟩,
    ⟨(some 2), .val (.mov (.c (.bool false))), none⟩]
def g3_1 : List Am.Item := [
    ⟨(some 3), .val (.load (some 7) (.t 1)), none⟩,
    ⟨(some 4), .callR (.f 4) [(.t 3), (.c (.int .i64 500))], none⟩,
    ⟨(some 5), .val (.un .not (.t 4)), none⟩]
def g3_2 : List Am.Item := [
    ⟨(some 6), .call (.f 5) [], none⟩,
    ⟨(some 2), .val (.mov (.t 6)), none⟩]
def g3_3 : List Am.Item := [
    ⟨(some 7), .val (.loadv 0 1 (some 7) (.t 1)), none⟩,
    ⟨(some 8), .call (.f 7) [(.t 7)], none⟩,
    ⟨(some 9), .bsl 4 1 [.int .i64 0, .int .i64 0, .int .u64 0, .str []] [(0, 4, (.t 8))], none⟩,
    ⟨(some 10), .val (.loadv 0 1 (some 7) (.t 1)), none⟩,
    ⟨(some 11), .call (.f 8) [(.t 10)], none⟩,
    ⟨(some 12), .bsl 4 1 [.int .i64 0, .int .i64 0, .int .u64 0, .str []] [(0, 4, (.t 11))], none⟩,
    ⟨(some 13), .call (.f 6) [(.t 9), (.t 12)], none⟩,
    ⟨(some 14), .val (.mov (.t 13)), none⟩,
    ⟨(some 15), .call (.f 5) [], (some (14, true))⟩,
    ⟨(some 16), .val (.pick (.t 14) (.t 15) (.c (.bool false))), none⟩,
    ⟨(some 2), .val (.mov (.t 16)), none⟩]
def r3 : RC := .seq (.reg g3_0) (.seq (.seq (.reg g3_1) (.cond (.t 5) (.seq (.reg g3_2) (.ret)) (.skip))) (.seq (.draw g3_3) (.ret)))
def o3 : List RR := [.tmp 2]
theorem k3 : chkC Tryz.prog 17 r3 (Tryz.f3.body.getD .skip) = true := by decide +kernel
theorem q3 : chkR Tryz.prog Tryz.f3.results.toList o3 = true := by decide +kernel

end Go.Proofs.YtalalolgdekelaaGreatDoor.Rc

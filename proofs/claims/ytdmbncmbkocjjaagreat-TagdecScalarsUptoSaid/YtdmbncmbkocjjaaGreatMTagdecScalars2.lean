/- Parts of the proof, in order. -/
import Derived.Test.YtdmbncmbkocjjaaGreatProg
import Derived.Test.YtdmbncmbkocjjaaGreatMTagdecScalars1

/- The code of functions of the program, as the abstract machine has it. -/
namespace Go.Proofs.YtdmbncmbkocjjaaGreat.Rc
open Go Am

/- wireschema/tagdec.Decode -/
def g25_0 : List Am.Item := [
    ⟨(some 4), .boxN 4 (.t 0), none⟩,
    ⟨(some 7), .boxN 7 (.t 3), none⟩,
    ⟨(some 8), .allocN 8 [.int .i64 0, .int .u64 0, .str [], .nils, .nils, .nils, .nils], none⟩,
    ⟨(some 9), .val (.mov (.c (.int .i64 0))), none⟩]
def g25_1 : List Am.Item := [
    ⟨(some 15), .val (.load (some 2) (.t 4)), none⟩,
    ⟨(some 16), .val (.mov (.t 1)), none⟩,
    ⟨(some 17), .val (.build [.int .i64 0, .int .u64 0, .str [], .nils, .nils, .nils, .nils] [(0, 1, (.c (.int .i64 10)))]), none⟩,
    ⟨(some 18), .val (.mov (.t 2)), none⟩,
    ⟨(some 19), .val (.load (some 4) (.t 7)), none⟩,
    ⟨(some 20), .call (.f 49) [(.t 15), (.t 16), (.t 17), (.t 18), (.t 19)], none⟩,
    ⟨(some 14), .val (.mov (.t 20)), none⟩,
    ⟨(some 21), .val (.ext (.t 14) 0), none⟩,
    ⟨(some 22), .val (.ext (.t 14) 1), none⟩,
    ⟨(some 10), .allocN 10 [.int .i64 0, .int .u64 0, .str [], .nils, .nils, .nils, .nils], none⟩,
    ⟨none, .store 7 (.t 10) (.t 21), none⟩,
    ⟨(some 11), .val (.mov (.t 22)), none⟩]
def g25_2 : List Am.Item := [
    ⟨(some 23), .val (.mov (.t 11)), none⟩,
    ⟨(some 24), .val (.bin .num .neq (.t 23) (.c (.int .i64 0))), none⟩]
def g25_3 : List Am.Item := [
    ⟨(some 25), .val (.build [.int .i64 0, .int .u64 0, .str [], .nils, .nils, .nils, .nils] []), none⟩,
    ⟨(some 26), .val (.mov (.t 11)), none⟩,
    ⟨none, .store 7 (.t 8) (.t 25), none⟩,
    ⟨(some 9), .val (.mov (.t 26)), none⟩]
def g25_4 : List Am.Item := [
    ⟨(some 28), .val (.load (some 2) (.t 4)), none⟩,
    ⟨(some 29), .val (.mov (.t 1)), none⟩,
    ⟨(some 30), .call (.f 50) [(.t 28), (.t 29)], none⟩,
    ⟨(some 27), .val (.mov (.t 30)), none⟩,
    ⟨(some 31), .val (.ext (.t 27) 0), none⟩,
    ⟨(some 32), .val (.ext (.t 27) 1), none⟩,
    ⟨(some 12), .val (.mov (.t 31)), none⟩,
    ⟨(some 13), .val (.mov (.t 32)), none⟩]
def g25_5 : List Am.Item := [
    ⟨(some 33), .val (.load (some 2) (.t 4)), none⟩,
    ⟨(some 34), .val (.mov (.t 12)), none⟩,
    ⟨(some 35), .val (.load (some 7) (.t 10)), none⟩,
    ⟨(some 36), .call (.f 51) [(.t 33), (.t 34), (.t 35)], none⟩,
    ⟨(some 37), .val (.un .not (.t 36)), none⟩]
def g25_6 : List Am.Item := [
    ⟨(some 38), .val (.build [.int .i64 0, .int .u64 0, .str [], .nils, .nils, .nils, .nils] []), none⟩,
    ⟨none, .store 7 (.t 8) (.t 38), none⟩,
    ⟨(some 9), .val (.mov (.c (.int .i64 14))), none⟩]
def g25_7 : List Am.Item := [
    ⟨(some 39), .val (.load (some 7) (.t 10)), none⟩,
    ⟨none, .store 7 (.t 8) (.t 39), none⟩,
    ⟨(some 9), .val (.mov (.c (.int .i64 0))), none⟩]
def r25 : RC := .seq (.reg g25_0) (.seq (.reg g25_1) (.seq (.seq (.reg g25_2) (.cond (.t 24) (.seq (.reg g25_3) (.ret)) (.skip))) (.seq (.reg g25_4) (.seq (.seq (.reg g25_5) (.cond (.t 37) (.seq (.reg g25_6) (.ret)) (.skip))) (.seq (.reg g25_7) (.ret))))))
def o25 : List RR := [.cell 8 (some 7), .tmp 9]
theorem k25 : chkC Tryz.prog 40 r25 (Tryz.f25.body.getD .skip) = true := by decide +kernel
theorem q25 : chkR Tryz.prog Tryz.f25.results.toList o25 = true := by decide +kernel

/- wireschema/wireschemalaw25.awake -/
def g8_0 : List Am.Item := [
    ⟨(some 0), .val (.mov (.c (.bool false))), none⟩]
def g8_1 : List Am.Item := [
    ⟨(some 4), .val (.build [.int .i64 0, .str [], .str [], .int .i64 0, .int .i64 0, .int .i64 0, .int .i64 0, .int .i64 0] [(0, 1, (.c (.int .i64 1))), (1, 1, (.c (.str [97]))), (3, 1, (.c (.int .i64 3))), (5, 1, (.c (.int .i64 4))), (6, 1, (.c (.int .i64 (-1)))), (7, 1, (.c (.int .i64 (-1))))]), none⟩,
    ⟨(some 5), .val (.build [.int .i64 0, .str [], .str [], .int .i64 0, .int .i64 0, .int .i64 0, .int .i64 0, .int .i64 0] [(0, 1, (.c (.int .i64 3))), (1, 1, (.c (.str [99]))), (3, 1, (.c (.int .i64 4))), (5, 1, (.c (.int .i64 2))), (6, 1, (.c (.int .i64 (-1)))), (7, 1, (.c (.int .i64 (-1))))]), none⟩,
    ⟨(some 6), .bsl 8 2 [.int .i64 0, .str [], .str [], .int .i64 0, .int .i64 0, .int .i64 0, .int .i64 0, .int .i64 0] [(0, 8, (.t 4)), (8, 8, (.t 5))], none⟩,
    ⟨(some 7), .val (.build [.str [], .nils, .int .i64 0] [(0, 1, (.c (.str [77]))), (1, 1, (.t 6))]), none⟩,
    ⟨(some 1), .allocN 1 [.str [], .nils, .int .i64 0], none⟩,
    ⟨none, .store 3 (.t 1) (.t 7), none⟩]
def g8_2 : List Am.Item := [
    ⟨(some 9), .val (.loadv 0 1 (some 3) (.t 1)), none⟩,
    ⟨(some 10), .bsl 3 1 [.str [], .nils, .int .i64 0] [(0, 3, (.t 9))], none⟩,
    ⟨(some 11), .val (.build [.nils, .nils] [(0, 1, (.t 10))]), none⟩,
    ⟨(some 12), .call (.f 26) [], none⟩,
    ⟨(some 13), .call (.f 25) [(.t 11), (.c (.str [77])), (.c (.str [8, 5, 29, 3, 1, 2, 3])), (.t 12)], none⟩,
    ⟨(some 8), .val (.mov (.t 13)), none⟩,
    ⟨(some 14), .val (.ext (.t 8) 0), none⟩,
    ⟨(some 15), .val (.ext (.t 8) 1), none⟩,
    ⟨(some 2), .allocN 2 [.int .i64 0, .int .u64 0, .str [], .nils, .nils, .nils, .nils], none⟩,
    ⟨none, .storev 0 2 7 (.t 2) (.t 14), none⟩,
    ⟨(some 3), .val (.mov (.t 15)), none⟩]
def g8_3 : List Am.Item := [
    ⟨(some 16), .val (.mov (.t 3)), none⟩,
    ⟨(some 17), .val (.bin .num .eql (.t 16) (.c (.int .i64 0))), none⟩,
    ⟨(some 18), .val (.mov (.t 17)), none⟩,
    ⟨(some 19), .val (.faddr 5 (.t 2)), (some (18, true))⟩,
    ⟨(some 20), .val (.load none (.t 19)), (some (18, true))⟩,
    ⟨(some 21), .val (.len 1 (.t 20)), (some (18, true))⟩,
    ⟨(some 22), .val (.bin .num .eql (.t 21) (.c (.int .i64 2))), (some (18, true))⟩,
    ⟨(some 23), .val (.pick (.t 18) (.t 22) (.c (.bool false))), none⟩,
    ⟨(some 24), .val (.mov (.t 23)), none⟩,
    ⟨(some 25), .val (.faddr 5 (.t 2)), (some (24, true))⟩,
    ⟨(some 26), .val (.load none (.t 25)), (some (24, true))⟩,
    ⟨(some 27), .val (.iaddr 8 none (.t 26) (.c (.int .i64 0))), (some (24, true))⟩,
    ⟨(some 28), .val (.faddr 1 (.t 27)), (some (24, true))⟩,
    ⟨(some 29), .val (.faddr 1 (.t 28)), (some (24, true))⟩,
    ⟨(some 30), .val (.load none (.t 29)), (some (24, true))⟩,
    ⟨(some 31), .val (.bin .num .eql (.t 30) (.c (.int .u64 5))), (some (24, true))⟩,
    ⟨(some 32), .val (.pick (.t 24) (.t 31) (.c (.bool false))), none⟩,
    ⟨(some 33), .val (.mov (.t 32)), none⟩,
    ⟨(some 34), .val (.faddr 5 (.t 2)), (some (33, true))⟩,
    ⟨(some 35), .val (.load none (.t 34)), (some (33, true))⟩,
    ⟨(some 36), .val (.iaddr 8 none (.t 35) (.c (.int .i64 1))), (some (33, true))⟩,
    ⟨(some 37), .val (.faddr 1 (.t 36)), (some (33, true))⟩,
    ⟨(some 38), .val (.faddr 3 (.t 37)), (some (33, true))⟩,
    ⟨(some 39), .val (.load none (.t 38)), (some (33, true))⟩,
    ⟨(some 40), .val (.len 1 (.t 39)), (some (33, true))⟩,
    ⟨(some 41), .val (.bin .num .eql (.t 40) (.c (.int .i64 2))), (some (33, true))⟩,
    ⟨(some 42), .val (.pick (.t 33) (.t 41) (.c (.bool false))), none⟩,
    ⟨(some 43), .val (.mov (.t 42)), none⟩,
    ⟨(some 44), .call (.f 26) [], (some (43, true))⟩,
    ⟨(some 45), .call (.f 27) [], (some (43, true))⟩,
    ⟨(some 46), .val (.eqs false [.num, .num, .num, .num] (.t 44) (.t 45)), (some (43, true))⟩,
    ⟨(some 47), .val (.pick (.t 43) (.t 46) (.c (.bool false))), none⟩,
    ⟨(some 0), .val (.mov (.t 47)), none⟩]
def r8 : RC := .seq (.reg g8_0) (.seq (.reg g8_1) (.seq (.draw g8_2) (.seq (.reg g8_3) (.ret))))
def o8 : List RR := [.tmp 0]
theorem k8 : chkC Tryz.prog 48 r8 (Tryz.f8.body.getD .skip) = true := by decide +kernel
theorem q8 : chkR Tryz.prog Tryz.f8.results.toList o8 = true := by decide +kernel

/- wireschema/cursor.Open -/
def g70_0 : List Am.Item := [
    ⟨(some 3), .boxN 3 (.t 1), none⟩,
    ⟨(some 4), .allocN 4 [.str [], .int .i64 0, .int .i64 0, .int .i64 0, .int .i64 0, .int .i64 0], none⟩,
    ⟨(some 5), .val (.mov (.c (.int .i64 0))), none⟩]
def g70_1 : List Am.Item := [
    ⟨(some 7), .val (.faddr 0 (.t 3)), none⟩,
    ⟨(some 8), .val (.load none (.t 7)), none⟩,
    ⟨(some 9), .val (.bin .num .lss (.t 8) (.c (.int .i64 0))), none⟩,
    ⟨(some 10), .val (.mov (.t 9)), none⟩,
    ⟨(some 11), .val (.faddr 1 (.t 3)), (some (10, false))⟩,
    ⟨(some 12), .val (.load none (.t 11)), (some (10, false))⟩,
    ⟨(some 13), .val (.bin .num .lss (.t 12) (.c (.int .i64 0))), (some (10, false))⟩,
    ⟨(some 14), .val (.pick (.t 10) (.c (.bool true)) (.t 13)), none⟩,
    ⟨(some 15), .val (.mov (.t 14)), none⟩,
    ⟨(some 16), .val (.faddr 2 (.t 3)), (some (15, false))⟩,
    ⟨(some 17), .val (.load none (.t 16)), (some (15, false))⟩,
    ⟨(some 18), .val (.bin .num .lss (.t 17) (.c (.int .i64 0))), (some (15, false))⟩,
    ⟨(some 19), .val (.pick (.t 15) (.c (.bool true)) (.t 18)), none⟩,
    ⟨(some 20), .val (.mov (.t 19)), none⟩,
    ⟨(some 21), .val (.faddr 3 (.t 3)), (some (20, false))⟩,
    ⟨(some 22), .val (.load none (.t 21)), (some (20, false))⟩,
    ⟨(some 23), .val (.bin .num .lss (.t 22) (.c (.int .i64 0))), (some (20, false))⟩,
    ⟨(some 24), .val (.pick (.t 20) (.c (.bool true)) (.t 23)), none⟩,
    ⟨(some 6), .val (.mov (.t 24)), none⟩]
def g70_2 : List Am.Item := [
    ⟨(some 25), .val (.build [.str [], .int .i64 0, .int .i64 0, .int .i64 0, .int .i64 0, .int .i64 0] []), none⟩,
    ⟨none, .store 6 (.t 4) (.t 25), none⟩,
    ⟨(some 5), .val (.mov (.c (.int .i64 1))), none⟩]
def g70_3 : List Am.Item := [
    ⟨(some 27), .val (.mov (.t 0)), none⟩,
    ⟨(some 28), .val (.len 0 (.t 27)), none⟩,
    ⟨(some 29), .val (.faddr 0 (.t 3)), none⟩,
    ⟨(some 30), .val (.load none (.t 29)), none⟩,
    ⟨(some 31), .val (.bin .num .gtr (.t 28) (.t 30)), none⟩,
    ⟨(some 26), .val (.mov (.t 31)), none⟩]
def g70_4 : List Am.Item := [
    ⟨(some 32), .val (.build [.str [], .int .i64 0, .int .i64 0, .int .i64 0, .int .i64 0, .int .i64 0] []), none⟩,
    ⟨none, .store 6 (.t 4) (.t 32), none⟩,
    ⟨(some 5), .val (.mov (.c (.int .i64 3))), none⟩]
def g70_5 : List Am.Item := [
    ⟨(some 33), .val (.mov (.t 0)), none⟩,
    ⟨(some 34), .val (.mov (.t 0)), none⟩,
    ⟨(some 35), .val (.len 0 (.t 34)), none⟩,
    ⟨(some 36), .val (.faddr 1 (.t 3)), none⟩,
    ⟨(some 37), .val (.load none (.t 36)), none⟩,
    ⟨(some 38), .val (.faddr 2 (.t 3)), none⟩,
    ⟨(some 39), .val (.load none (.t 38)), none⟩,
    ⟨(some 40), .val (.faddr 3 (.t 3)), none⟩,
    ⟨(some 41), .val (.load none (.t 40)), none⟩,
    ⟨(some 42), .val (.build [.str [], .int .i64 0, .int .i64 0, .int .i64 0, .int .i64 0, .int .i64 0] [(0, 1, (.t 33)), (2, 1, (.t 35)), (3, 1, (.t 37)), (4, 1, (.t 39)), (5, 1, (.t 41))]), none⟩,
    ⟨none, .store 6 (.t 4) (.t 42), none⟩,
    ⟨(some 5), .val (.mov (.c (.int .i64 0))), none⟩]
def r70 : RC := .seq (.reg g70_0) (.seq (.block 0 (.seq (.reg g70_1) (.cond (.t 6) (.seq (.reg g70_2) (.ret)) (.seq (.reg g70_3) (.cond (.t 26) (.seq (.reg g70_4) (.ret)) (.skip)))))) (.seq (.reg g70_5) (.ret)))
def o70 : List RR := [.cell 4 (some 6), .tmp 5]
theorem k70 : chkC Tryz.prog 43 r70 (Tryz.f70.body.getD .skip) = true := by decide +kernel
theorem q70 : chkR Tryz.prog Tryz.f70.results.toList o70 = true := by decide +kernel

/- wireschema/tagdec.Onto -/
def g49_0 : List Am.Item := [
    ⟨(some 5), .boxN 5 (.t 0), none⟩,
    ⟨(some 7), .boxN 7 (.t 2), none⟩,
    ⟨(some 9), .boxN 9 (.t 4), none⟩,
    ⟨(some 10), .allocN 10 [.int .i64 0, .int .u64 0, .str [], .nils, .nils, .nils, .nils], none⟩,
    ⟨(some 11), .val (.mov (.c (.int .i64 0))), none⟩]
def g49_1 : List Am.Item := [
    ⟨(some 19), .val (.load (some 2) (.t 5)), none⟩,
    ⟨(some 20), .val (.mov (.t 1)), none⟩,
    ⟨(some 21), .call (.f 50) [(.t 19), (.t 20)], none⟩,
    ⟨(some 18), .val (.mov (.t 21)), none⟩,
    ⟨(some 22), .val (.ext (.t 18) 0), none⟩,
    ⟨(some 23), .val (.ext (.t 18) 1), none⟩,
    ⟨(some 12), .val (.mov (.t 22)), none⟩,
    ⟨(some 13), .val (.mov (.t 23)), none⟩]
def g49_2 : List Am.Item := [
    ⟨(some 24), .val (.mov (.t 13)), none⟩,
    ⟨(some 25), .val (.un .not (.t 24)), none⟩]
def g49_3 : List Am.Item := [
    ⟨(some 26), .val (.build [.int .i64 0, .int .u64 0, .str [], .nils, .nils, .nils, .nils] []), none⟩,
    ⟨none, .store 7 (.t 10) (.t 26), none⟩,
    ⟨(some 11), .val (.mov (.c (.int .i64 10))), none⟩]
def g49_4 : List Am.Item := [
    ⟨(some 27), .val (.faddr 0 (.t 7)), none⟩,
    ⟨(some 28), .val (.load none (.t 27)), none⟩,
    ⟨(some 29), .val (.bin .num .neq (.t 28) (.c (.int .i64 10))), none⟩]
def g49_5 : List Am.Item := [
    ⟨(some 30), .val (.build [.int .i64 0, .int .u64 0, .str [], .nils, .nils, .nils, .nils] []), none⟩,
    ⟨none, .store 7 (.t 10) (.t 30), none⟩,
    ⟨(some 11), .val (.mov (.c (.int .i64 12))), none⟩]
def g49_6 : List Am.Item := [
    ⟨(some 32), .val (.mov (.t 3)), none⟩,
    ⟨(some 33), .val (.load (some 4) (.t 9)), none⟩,
    ⟨(some 34), .call (.f 70) [(.t 32), (.t 33)], none⟩,
    ⟨(some 31), .val (.mov (.t 34)), none⟩,
    ⟨(some 35), .val (.ext (.t 31) 0), none⟩,
    ⟨(some 36), .val (.ext (.t 31) 1), none⟩,
    ⟨(some 14), .allocN 14 [.str [], .int .i64 0, .int .i64 0, .int .i64 0, .int .i64 0, .int .i64 0], none⟩,
    ⟨none, .store 6 (.t 14) (.t 35), none⟩,
    ⟨(some 15), .val (.mov (.t 36)), none⟩]
def g49_7 : List Am.Item := [
    ⟨(some 37), .val (.mov (.t 15)), none⟩,
    ⟨(some 38), .val (.bin .num .neq (.t 37) (.c (.int .i64 0))), none⟩]
def g49_8 : List Am.Item := [
    ⟨(some 39), .val (.build [.int .i64 0, .int .u64 0, .str [], .nils, .nils, .nils, .nils] []), none⟩,
    ⟨(some 40), .val (.mov (.t 15)), none⟩,
    ⟨none, .store 7 (.t 10) (.t 39), none⟩,
    ⟨(some 11), .val (.mov (.t 40)), none⟩]
def g49_9 : List Am.Item := [
    ⟨(some 41), .val (.faddr 3 (.t 14)), none⟩,
    ⟨(some 42), .val (.load none (.t 41)), none⟩,
    ⟨(some 43), .val (.bin .num .lss (.t 42) (.c (.int .i64 1))), none⟩]
def g49_10 : List Am.Item := [
    ⟨(some 44), .val (.build [.int .i64 0, .int .u64 0, .str [], .nils, .nils, .nils, .nils] []), none⟩,
    ⟨none, .store 7 (.t 10) (.t 44), none⟩,
    ⟨(some 11), .val (.mov (.c (.int .i64 17))), none⟩]
def g49_11 : List Am.Item := [
    ⟨(some 45), .val (.faddr 3 (.t 14)), none⟩,
    ⟨(some 46), .val (.load none (.t 45)), none⟩,
    ⟨(some 47), .val (.bin .num .sub (.t 46) (.c (.int .i64 1))), none⟩,
    ⟨(some 48), .val (.faddr 3 (.t 14)), none⟩,
    ⟨none, .store 1 (.t 48) (.t 47), none⟩]
def g49_12 : List Am.Item := [
    ⟨(some 49), .val (.load (some 2) (.t 5)), none⟩,
    ⟨(some 50), .val (.load (some 6) (.t 14)), none⟩,
    ⟨(some 51), .val (.build [.nils, .nils, .str [], .int .i64 0, .int .i64 0, .int .i64 0, .int .i64 0, .int .i64 0] [(0, 2, (.t 49)), (2, 6, (.t 50))]), none⟩,
    ⟨(some 52), .boxN 52 (.t 51), none⟩,
    ⟨(some 16), .val (.mov (.t 52)), none⟩]
def g49_13 : List Am.Item := [
    ⟨(some 53), .val (.mov (.t 16)), none⟩,
    ⟨(some 54), .callF (.f 71) [(.t 53), (.c (.int .i64 1))], none⟩,
    ⟨(some 15), .val (.mov (.t 54)), none⟩]
def g49_14 : List Am.Item := [
    ⟨(some 55), .val (.mov (.t 15)), none⟩,
    ⟨(some 56), .val (.bin .num .neq (.t 55) (.c (.int .i64 0))), none⟩]
def g49_15 : List Am.Item := [
    ⟨(some 57), .val (.build [.int .i64 0, .int .u64 0, .str [], .nils, .nils, .nils, .nils] []), none⟩,
    ⟨(some 58), .val (.mov (.t 15)), none⟩,
    ⟨none, .store 7 (.t 10) (.t 57), none⟩,
    ⟨(some 11), .val (.mov (.t 58)), none⟩]
def g49_16 : List Am.Item := [
    ⟨(some 60), .val (.mov (.t 16)), none⟩,
    ⟨(some 61), .val (.mov (.t 12)), none⟩,
    ⟨(some 62), .val (.load (some 7) (.t 7)), none⟩,
    ⟨(some 63), .callF (.f 72) [(.t 60), (.t 61), (.t 62)], none⟩,
    ⟨(some 59), .val (.mov (.t 63)), none⟩,
    ⟨(some 64), .val (.ext (.t 59) 0), none⟩,
    ⟨(some 65), .val (.ext (.t 59) 1), none⟩,
    ⟨(some 17), .allocN 17 [.int .i64 0, .int .u64 0, .str [], .nils, .nils, .nils, .nils], none⟩,
    ⟨none, .store 7 (.t 17) (.t 64), none⟩,
    ⟨(some 15), .val (.mov (.t 65)), none⟩]
def g49_17 : List Am.Item := [
    ⟨(some 66), .val (.mov (.t 15)), none⟩,
    ⟨(some 67), .val (.bin .num .neq (.t 66) (.c (.int .i64 0))), none⟩]
def g49_18 : List Am.Item := [
    ⟨(some 68), .val (.build [.int .i64 0, .int .u64 0, .str [], .nils, .nils, .nils, .nils] []), none⟩,
    ⟨(some 69), .val (.mov (.t 15)), none⟩,
    ⟨none, .store 7 (.t 10) (.t 68), none⟩,
    ⟨(some 11), .val (.mov (.t 69)), none⟩]
def g49_19 : List Am.Item := [
    ⟨(some 70), .val (.load (some 2) (.t 5)), none⟩,
    ⟨(some 71), .val (.mov (.t 12)), none⟩,
    ⟨(some 72), .val (.load (some 7) (.t 17)), none⟩,
    ⟨(some 73), .call (.f 73) [(.t 70), (.t 71), (.t 72)], none⟩,
    ⟨none, .store 7 (.t 10) (.t 73), none⟩,
    ⟨(some 11), .val (.mov (.c (.int .i64 0))), none⟩]
def r49 : RC := .seq (.reg g49_0) (.seq (.reg g49_1) (.seq (.seq (.reg g49_2) (.cond (.t 25) (.seq (.reg g49_3) (.ret)) (.skip))) (.seq (.seq (.reg g49_4) (.cond (.t 29) (.seq (.reg g49_5) (.ret)) (.skip))) (.seq (.reg g49_6) (.seq (.seq (.reg g49_7) (.cond (.t 38) (.seq (.reg g49_8) (.ret)) (.skip))) (.seq (.seq (.reg g49_9) (.cond (.t 43) (.seq (.reg g49_10) (.ret)) (.skip))) (.seq (.reg g49_11) (.seq (.reg g49_12) (.seq (.seq (.reg g49_13) (.seq (.reg g49_14) (.cond (.t 56) (.seq (.reg g49_15) (.ret)) (.skip)))) (.seq (.reg g49_16) (.seq (.seq (.reg g49_17) (.cond (.t 67) (.seq (.reg g49_18) (.ret)) (.skip))) (.seq (.reg g49_19) (.ret)))))))))))))
def o49 : List RR := [.cell 10 (some 7), .tmp 11]
theorem k49 : chkC Tryz.prog 74 r49 (Tryz.f49.body.getD .skip) = true := by decide +kernel
theorem q49 : chkR Tryz.prog Tryz.f49.results.toList o49 = true := by decide +kernel

/- wireschema/plan.Find -/
def g50_0 : List Am.Item := [
    ⟨(some 2), .boxN 2 (.t 0), none⟩,
    ⟨(some 3), .boxN 3 (.t 1), none⟩,
    ⟨(some 4), .val (.mov (.c (.int .i64 0))), none⟩,
    ⟨(some 5), .val (.mov (.c (.bool false))), none⟩]
def g50_1 : List Am.Item := [
    ⟨(some 7), .val (.faddr 0 (.t 2)), none⟩,
    ⟨(some 8), .val (.load none (.t 7)), none⟩,
    ⟨(some 9), .val (.mkfn (.func 75) [] [(.t 3)]), none⟩,
    ⟨(some 10), .callF (.f 74) [(.t 8), (.t 9)], none⟩,
    ⟨(some 6), .val (.mov (.t 10)), none⟩]
def g50_2 : List Am.Item := [
    ⟨(some 11), .val (.mov (.t 6)), none⟩,
    ⟨(some 12), .val (.mnx true (.t 11) (.c (.int .i64 0))), none⟩,
    ⟨(some 13), .val (.mov (.t 6)), none⟩,
    ⟨(some 14), .val (.bin .num .geq (.t 13) (.c (.int .i64 0))), none⟩,
    ⟨(some 4), .val (.mov (.t 12)), none⟩,
    ⟨(some 5), .val (.mov (.t 14)), none⟩]
def r50 : RC := .seq (.reg g50_0) (.seq (.reg g50_1) (.seq (.reg g50_2) (.ret)))
def o50 : List RR := [.tmp 4, .tmp 5]
theorem k50 : chkC Tryz.prog 15 r50 (Tryz.f50.body.getD .skip) = true := by decide +kernel
theorem q50 : chkR Tryz.prog Tryz.f50.results.toList o50 = true := by decide +kernel

/- wireschema/tagdec.complete -/
def g51_0 : List Am.Item := [
    ⟨(some 3), .boxN 3 (.t 0), none⟩,
    ⟨(some 5), .boxN 5 (.t 2), none⟩,
    ⟨(some 6), .val (.mov (.c (.bool false))), none⟩]
def g51_1 : List Am.Item := [
    ⟨(some 13), .val (.faddr 0 (.t 3)), none⟩,
    ⟨(some 14), .val (.load none (.t 13)), none⟩,
    ⟨(some 15), .val (.mov (.t 1)), none⟩,
    ⟨(some 16), .val (.iaddr 3 none (.t 14) (.t 15)), none⟩,
    ⟨(some 17), .val (.faddr 1 (.t 16)), none⟩,
    ⟨(some 18), .val (.load none (.t 17)), none⟩,
    ⟨(some 19), .val (.len 1 (.t 18)), none⟩,
    ⟨(some 20), .val (.mov (.c (.int .i64 0))), none⟩]
def g51_2 : List Am.Item := [
    ⟨(some 21), .val (.bin .num .lss (.t 20) (.t 19)), none⟩]
def g51_3 : List Am.Item := [
    ⟨(some 22), .val (.iaddr 8 none (.t 18) (.t 20)), none⟩,
    ⟨(some 23), .val (.load (some 8) (.t 22)), none⟩,
    ⟨(some 8), .allocN 8 [.int .i64 0, .str [], .str [], .int .i64 0, .int .i64 0, .int .i64 0, .int .i64 0, .int .i64 0], none⟩,
    ⟨none, .store 8 (.t 8) (.t 23), none⟩]
def g51_4 : List Am.Item := [
    ⟨(some 25), .val (.load (some 7) (.t 5)), none⟩,
    ⟨(some 26), .val (.faddr 0 (.t 8)), none⟩,
    ⟨(some 27), .val (.load none (.t 26)), none⟩,
    ⟨(some 28), .call (.f 76) [(.t 25), (.t 27)], none⟩,
    ⟨(some 24), .val (.mov (.t 28)), none⟩,
    ⟨(some 29), .val (.ext (.t 24) 0), none⟩,
    ⟨(some 30), .val (.ext (.t 24) 1), none⟩,
    ⟨(some 9), .allocN 9 [.int .i64 0, .int .u64 0, .str [], .nils, .nils, .nils, .nils], none⟩,
    ⟨none, .store 7 (.t 9) (.t 29), none⟩,
    ⟨(some 10), .val (.mov (.t 30)), none⟩]
def g51_5 : List Am.Item := [
    ⟨(some 31), .val (.mov (.t 10)), none⟩,
    ⟨(some 32), .val (.un .not (.t 31)), none⟩]
def g51_6 : List Am.Item := [
    ⟨(some 33), .val (.faddr 3 (.t 8)), none⟩,
    ⟨(some 34), .val (.load none (.t 33)), none⟩,
    ⟨(some 35), .val (.bin .num .eql (.t 34) (.c (.int .i64 1))), none⟩]
def g51_7 : List Am.Item := [
    ⟨(some 6), .val (.mov (.c (.bool false))), none⟩]
def g51_8 : List Am.Item := [
    ⟨(some 36), .val (.faddr 5 (.t 8)), none⟩,
    ⟨(some 37), .val (.load none (.t 36)), none⟩,
    ⟨(some 38), .val (.bin .num .neq (.t 37) (.c (.int .i64 10))), none⟩]
def g51_9 : List Am.Item := [
    ⟨(some 39), .val (.load (some 7) (.t 9)), none⟩,
    ⟨(some 40), .call (.f 77) [(.t 39)], none⟩,
    ⟨(some 41), .val (.len 1 (.t 40)), none⟩,
    ⟨(some 42), .val (.mov (.c (.int .i64 0))), none⟩]
def g51_10 : List Am.Item := [
    ⟨(some 43), .val (.bin .num .lss (.t 42) (.t 41)), none⟩]
def g51_11 : List Am.Item := [
    ⟨(some 44), .val (.iaddr 7 none (.t 40) (.t 42)), none⟩,
    ⟨(some 45), .val (.load (some 7) (.t 44)), none⟩,
    ⟨(some 12), .allocN 12 [.int .i64 0, .int .u64 0, .str [], .nils, .nils, .nils, .nils], none⟩,
    ⟨none, .store 7 (.t 12) (.t 45), none⟩]
def g51_12 : List Am.Item := [
    ⟨(some 46), .val (.load (some 2) (.t 3)), none⟩,
    ⟨(some 47), .val (.faddr 6 (.t 8)), none⟩,
    ⟨(some 48), .val (.load none (.t 47)), none⟩,
    ⟨(some 49), .val (.load (some 7) (.t 12)), none⟩,
    ⟨(some 50), .call (.f 51) [(.t 46), (.t 48), (.t 49)], none⟩,
    ⟨(some 51), .val (.un .not (.t 50)), none⟩]
def g51_13 : List Am.Item := [
    ⟨(some 6), .val (.mov (.c (.bool false))), none⟩]
def g51_14 : List Am.Item := [
    ⟨(some 52), .val (.bin .num .add (.t 42) (.c (.int .i64 1))), none⟩,
    ⟨(some 42), .val (.mov (.t 52)), none⟩]
def l51_0 : RC := .gho (.drop 12) (.seq (.reg g51_10) (.seq (.cond (.t 43) (.skip) (.exit 2)) (.seq (.block 3 (.seq (.reg g51_11) (.seq (.reg g51_12) (.cond (.t 51) (.seq (.reg g51_13) (.ret)) (.skip))))) (.reg g51_14))))
def g51_15 : List Am.Item := [
    ⟨(some 53), .val (.bin .num .add (.t 20) (.c (.int .i64 1))), none⟩,
    ⟨(some 20), .val (.mov (.t 53)), none⟩]
def l51_1 : RC := .gho (.drop 12) (.gho (.drop 9) (.gho (.drop 8) (.seq (.reg g51_2) (.seq (.cond (.t 21) (.skip) (.exit 0)) (.seq (.block 1 (.seq (.reg g51_3) (.seq (.reg g51_4) (.seq (.seq (.reg g51_5) (.cond (.t 32) (.seq (.seq (.reg g51_6) (.cond (.t 35) (.seq (.reg g51_7) (.ret)) (.skip))) (.exit 1)) (.skip))) (.seq (.seq (.reg g51_8) (.cond (.t 38) (.exit 1) (.skip))) (.seq (.reg g51_9) (.block 2 (.loop l51_0)))))))) (.reg g51_15))))))
def g51_16 : List Am.Item := [
    ⟨(some 6), .val (.mov (.c (.bool true))), none⟩]
def r51 : RC := .seq (.reg g51_0) (.seq (.seq (.reg g51_1) (.block 0 (.loop l51_1))) (.seq (.reg g51_16) (.ret)))
def o51 : List RR := [.tmp 6]
theorem k51 : chkC Tryz.prog 54 r51 (Tryz.f51.body.getD .skip) = true := by decide +kernel
theorem q51 : chkR Tryz.prog Tryz.f51.results.toList o51 = true := by decide +kernel

/- wireschema/tagdec.Usual -/
def g26_0 : List Am.Item := [
    ⟨(some 0), .allocN 0 [.int .i64 0, .int .i64 0, .int .i64 0, .int .i64 0], none⟩]
def g26_1 : List Am.Item := [
    ⟨(some 1), .val (.build [.int .i64 0, .int .i64 0, .int .i64 0, .int .i64 0] [(0, 1, (.c (.int .i64 65536))), (1, 1, (.c (.int .i64 16))), (2, 1, (.c (.int .i64 4096))), (3, 1, (.c (.int .i64 4096)))]), none⟩,
    ⟨none, .store 4 (.t 0) (.t 1), none⟩]
def r26 : RC := .seq (.reg g26_0) (.seq (.reg g26_1) (.ret))
def o26 : List RR := [.cell 0 (some 4)]
theorem k26 : chkC Tryz.prog 2 r26 (Tryz.f26.body.getD .skip) = true := by decide +kernel
theorem q26 : chkR Tryz.prog Tryz.f26.results.toList o26 = true := by decide +kernel

/- wireschema/wireschemaref25.Usual -/
def g27_0 : List Am.Item := [
    ⟨(some 0), .allocN 0 [.int .i64 0, .int .i64 0, .int .i64 0, .int .i64 0], none⟩]
def g27_1 : List Am.Item := [
    ⟨(some 1), .val (.build [.int .i64 0, .int .i64 0, .int .i64 0, .int .i64 0] [(0, 1, (.c (.int .i64 65536))), (1, 1, (.c (.int .i64 16))), (2, 1, (.c (.int .i64 4096))), (3, 1, (.c (.int .i64 4096)))]), none⟩,
    ⟨none, .store 4 (.t 0) (.t 1), none⟩]
def r27 : RC := .seq (.reg g27_0) (.seq (.reg g27_1) (.ret))
def o27 : List RR := [.cell 0 (some 4)]
theorem k27 : chkC Tryz.prog 2 r27 (Tryz.f27.body.getD .skip) = true := by decide +kernel
theorem q27 : chkR Tryz.prog Tryz.f27.results.toList o27 = true := by decide +kernel

/- slices.Clone[[]wireschema/api.Raw,wireschema/api.Raw] -/
def g97_0 : List Am.Item := [
    ⟨(some 2), .val (.mov (.c (.nils))), none⟩]
def g97_1 : List Am.Item := [
    ⟨(some 3), .val (.mov (.t 0)), none⟩,
    ⟨(some 4), .isnil false (.t 3), none⟩]
def g97_2 : List Am.Item := [
    ⟨(some 2), .val (.mov (.c (.nils))), none⟩]
def g97_3 : List Am.Item := [
    ⟨(some 5), .bsl0 5 4, none⟩,
    ⟨(some 6), .val (.mov (.t 0)), none⟩,
    ⟨(some 7), .app 4 40 29 (.t 5) (.t 6), none⟩,
    ⟨(some 2), .val (.mov (.t 7)), none⟩]
def r97 : RC := .seq (.reg g97_0) (.seq (.seq (.reg g97_1) (.cond (.t 4) (.seq (.reg g97_2) (.gho (.vec 2 2 4) (.gho (.give 2 2 1 1000) (.ret)))) (.skip))) (.seq (.reg g97_3) (.gho (.give 2 5 1 1000) (.ret))))
def o97 : List RR := [.tmp 2]
theorem k97 : chkC Tryz.prog 8 r97 (Tryz.f97.body.getD .skip) = true := by decide +kernel
theorem q97 : chkR Tryz.prog Tryz.f97.results.toList o97 = true := by decide +kernel

/- slices.SortStableFunc[[]wireschema/api.Raw,wireschema/api.Raw] -/
def g102_0 : List Am.Item := [
    ⟨(some 4), .val (.mov (.t 0)), none⟩,
    ⟨(some 5), .val (.mov (.t 0)), none⟩,
    ⟨(some 6), .val (.len 1 (.t 5)), none⟩,
    ⟨(some 7), .val (.mov (.t 1)), none⟩,
    ⟨(some 8), .callF (.f 124) [(.t 4), (.t 6), (.t 7)], none⟩]
def r102 : RC := .reg g102_0
def o102 : List RR := []
theorem k102 : chkC Tryz.prog 9 r102 (Tryz.f102.body.getD .skip) = true := by decide +kernel
theorem q102 : chkR Tryz.prog Tryz.f102.results.toList o102 = true := by decide +kernel

/- cmp.Compare[int] -/
def g104_0 : List Am.Item := [
    ⟨(some 4), .val (.mov (.c (.int .i64 0))), none⟩]
def g104_1 : List Am.Item := [
    ⟨(some 7), .val (.mov (.t 0)), none⟩,
    ⟨(some 8), .call (.f 125) [(.t 7)], none⟩,
    ⟨(some 5), .val (.mov (.t 8)), none⟩]
def g104_2 : List Am.Item := [
    ⟨(some 9), .val (.mov (.t 1)), none⟩,
    ⟨(some 10), .call (.f 125) [(.t 9)], none⟩,
    ⟨(some 6), .val (.mov (.t 10)), none⟩]
def g104_3 : List Am.Item := [
    ⟨(some 11), .val (.mov (.t 5)), none⟩]
def g104_4 : List Am.Item := [
    ⟨(some 12), .val (.mov (.t 6)), none⟩]
def g104_5 : List Am.Item := [
    ⟨(some 4), .val (.mov (.c (.int .i64 0))), none⟩]
def g104_6 : List Am.Item := [
    ⟨(some 4), .val (.mov (.c (.int .i64 (-1)))), none⟩]
def g104_7 : List Am.Item := [
    ⟨(some 13), .val (.mov (.t 6)), none⟩]
def g104_8 : List Am.Item := [
    ⟨(some 4), .val (.mov (.c (.int .i64 1))), none⟩]
def g104_9 : List Am.Item := [
    ⟨(some 14), .val (.mov (.t 0)), none⟩,
    ⟨(some 15), .val (.mov (.t 1)), none⟩,
    ⟨(some 16), .val (.bin .num .lss (.t 14) (.t 15)), none⟩]
def g104_10 : List Am.Item := [
    ⟨(some 4), .val (.mov (.c (.int .i64 (-1)))), none⟩]
def g104_11 : List Am.Item := [
    ⟨(some 17), .val (.mov (.t 0)), none⟩,
    ⟨(some 18), .val (.mov (.t 1)), none⟩,
    ⟨(some 19), .val (.bin .num .gtr (.t 17) (.t 18)), none⟩]
def g104_12 : List Am.Item := [
    ⟨(some 4), .val (.mov (.c (.int .i64 1))), none⟩]
def g104_13 : List Am.Item := [
    ⟨(some 4), .val (.mov (.c (.int .i64 0))), none⟩]
def r104 : RC := .seq (.reg g104_0) (.seq (.reg g104_1) (.seq (.reg g104_2) (.seq (.seq (.reg g104_3) (.cond (.t 11) (.seq (.seq (.reg g104_4) (.cond (.t 12) (.seq (.reg g104_5) (.ret)) (.skip))) (.seq (.reg g104_6) (.ret))) (.skip))) (.seq (.seq (.reg g104_7) (.cond (.t 13) (.seq (.reg g104_8) (.ret)) (.skip))) (.seq (.seq (.reg g104_9) (.cond (.t 16) (.seq (.reg g104_10) (.ret)) (.skip))) (.seq (.seq (.reg g104_11) (.cond (.t 19) (.seq (.reg g104_12) (.ret)) (.skip))) (.seq (.reg g104_13) (.ret))))))))
def o104 : List RR := [.tmp 4]
theorem k104 : chkC Tryz.prog 20 r104 (Tryz.f104.body.getD .skip) = true := by decide +kernel
theorem q104 : chkR Tryz.prog Tryz.f104.results.toList o104 = true := by decide +kernel

/- (*wireschema/tagdec.reader).spend -/
def g71_0 : List Am.Item := [
    ⟨(some 4), .val (.mov (.c (.int .i64 0))), none⟩]
def g71_1 : List Am.Item := [
    ⟨(some 8), .val (.mov (.t 0)), none⟩,
    ⟨(some 9), .val (.nilck (.t 8)), none⟩,
    ⟨(some 10), .val (.faddr 2 (.t 9)), none⟩,
    ⟨(some 11), .val (.load (some 6) (.t 10)), none⟩,
    ⟨(some 12), .val (.mov (.t 1)), none⟩,
    ⟨(some 13), .call (.f 91) [(.t 11), (.t 12)], none⟩,
    ⟨(some 7), .val (.mov (.t 13)), none⟩,
    ⟨(some 14), .val (.ext (.t 7) 0), none⟩,
    ⟨(some 15), .val (.ext (.t 7) 1), none⟩,
    ⟨(some 5), .allocN 5 [.str [], .int .i64 0, .int .i64 0, .int .i64 0, .int .i64 0, .int .i64 0], none⟩,
    ⟨none, .store 6 (.t 5) (.t 14), none⟩,
    ⟨(some 6), .val (.mov (.t 15)), none⟩]
def g71_2 : List Am.Item := [
    ⟨(some 16), .val (.mov (.t 0)), none⟩,
    ⟨(some 17), .val (.load (some 6) (.t 5)), none⟩,
    ⟨(some 18), .val (.nilck (.t 16)), none⟩,
    ⟨(some 19), .val (.faddr 2 (.t 18)), none⟩,
    ⟨none, .store 6 (.t 19) (.t 17), none⟩]
def g71_3 : List Am.Item := [
    ⟨(some 20), .val (.mov (.t 6)), none⟩,
    ⟨(some 4), .val (.mov (.t 20)), none⟩]
def r71 : RC := .seq (.reg g71_0) (.seq (.reg g71_1) (.seq (.reg g71_2) (.seq (.reg g71_3) (.ret))))
def o71 : List RR := [.tmp 4]
theorem k71 : chkC Tryz.prog 21 r71 (Tryz.f71.body.getD .skip) = true := by decide +kernel
theorem q71 : chkR Tryz.prog Tryz.f71.results.toList o71 = true := by decide +kernel

/- (*wireschema/tagdec.reader).fields -/
def g72_0 : List Am.Item := [
    ⟨(some 5), .boxN 5 (.t 2), none⟩,
    ⟨(some 6), .allocN 6 [.int .i64 0, .int .u64 0, .str [], .nils, .nils, .nils, .nils], none⟩,
    ⟨(some 7), .val (.mov (.c (.int .i64 0))), none⟩]
def g72_1 : List Am.Item := [
    ⟨(some 17), .val (.mov (.t 0)), none⟩,
    ⟨(some 18), .val (.nilck (.t 17)), none⟩,
    ⟨(some 19), .val (.faddr 0 (.t 18)), none⟩,
    ⟨(some 20), .val (.faddr 0 (.t 19)), none⟩,
    ⟨(some 21), .val (.load none (.t 20)), none⟩,
    ⟨(some 22), .val (.mov (.t 1)), none⟩,
    ⟨(some 23), .val (.iaddr 3 none (.t 21) (.t 22)), none⟩,
    ⟨(some 24), .val (.load (some 3) (.t 23)), none⟩,
    ⟨(some 8), .allocN 8 [.str [], .nils, .int .i64 0], none⟩,
    ⟨none, .store 3 (.t 8) (.t 24), none⟩]
def g72_2 : List Am.Item := [
    ⟨(some 25), .val (.mov (.t 0)), none⟩,
    ⟨(some 26), .val (.nilck (.t 25)), none⟩,
    ⟨(some 27), .val (.faddr 2 (.t 26)), none⟩,
    ⟨(some 28), .val (.load (some 6) (.t 27)), none⟩,
    ⟨(some 29), .call (.f 92) [(.t 28)], none⟩,
    ⟨(some 30), .val (.bin .num .gtr (.t 29) (.c (.int .i64 0))), none⟩]
def g72_3 : List Am.Item := [
    ⟨(some 31), .val (.mov (.t 0)), none⟩,
    ⟨(some 32), .val (.nilck (.t 31)), none⟩,
    ⟨(some 33), .val (.faddr 2 (.t 32)), none⟩,
    ⟨(some 34), .val (.load (some 6) (.t 33)), none⟩,
    ⟨(some 9), .allocN 9 [.str [], .int .i64 0, .int .i64 0, .int .i64 0, .int .i64 0, .int .i64 0], none⟩,
    ⟨none, .store 6 (.t 9) (.t 34), none⟩]
def g72_4 : List Am.Item := [
    ⟨(some 36), .val (.load (some 6) (.t 9)), none⟩,
    ⟨(some 37), .call (.f 93) [(.t 36)], none⟩,
    ⟨(some 35), .val (.mov (.t 37)), none⟩,
    ⟨(some 38), .val (.ext (.t 35) 0), none⟩,
    ⟨(some 39), .val (.ext (.t 35) 1), none⟩,
    ⟨(some 40), .val (.ext (.t 35) 2), none⟩,
    ⟨(some 41), .val (.ext (.t 35) 3), none⟩,
    ⟨(some 12), .allocN 12 [.str [], .int .i64 0, .int .i64 0, .int .i64 0, .int .i64 0, .int .i64 0], none⟩,
    ⟨(some 10), .val (.mov (.t 38)), none⟩,
    ⟨(some 11), .val (.mov (.t 39)), none⟩,
    ⟨none, .store 6 (.t 12) (.t 40), none⟩,
    ⟨(some 13), .val (.mov (.t 41)), none⟩]
def g72_5 : List Am.Item := [
    ⟨(some 42), .val (.mov (.t 13)), none⟩,
    ⟨(some 43), .val (.bin .num .neq (.t 42) (.c (.int .i64 0))), none⟩]
def g72_6 : List Am.Item := [
    ⟨(some 44), .val (.load (some 7) (.t 5)), none⟩,
    ⟨(some 45), .val (.mov (.t 13)), none⟩,
    ⟨none, .store 7 (.t 6) (.t 44), none⟩,
    ⟨(some 7), .val (.mov (.t 45)), none⟩]
def g72_7 : List Am.Item := [
    ⟨(some 46), .val (.faddr 1 (.t 8)), none⟩,
    ⟨(some 47), .val (.load none (.t 46)), none⟩,
    ⟨(some 48), .val (.len 1 (.t 47)), none⟩,
    ⟨(some 49), .val (.mov (.c (.int .i64 0))), none⟩]
def g72_8 : List Am.Item := [
    ⟨(some 50), .val (.bin .num .lss (.t 49) (.t 48)), none⟩]
def g72_9 : List Am.Item := [
    ⟨(some 51), .val (.iaddr 8 none (.t 47) (.t 49)), none⟩,
    ⟨(some 52), .val (.load (some 8) (.t 51)), none⟩,
    ⟨(some 15), .allocN 15 [.int .i64 0, .str [], .str [], .int .i64 0, .int .i64 0, .int .i64 0, .int .i64 0, .int .i64 0], none⟩,
    ⟨none, .store 8 (.t 15) (.t 52), none⟩]
def g72_10 : List Am.Item := [
    ⟨(some 53), .val (.faddr 0 (.t 15)), none⟩,
    ⟨(some 54), .val (.load none (.t 53)), none⟩,
    ⟨(some 55), .val (.mov (.t 10)), none⟩,
    ⟨(some 56), .val (.bin .num .neq (.t 54) (.t 55)), none⟩]
def g72_11 : List Am.Item := [
    ⟨(some 57), .val (.mov (.t 0)), none⟩,
    ⟨(some 58), .val (.load (some 6) (.t 12)), none⟩,
    ⟨(some 59), .val (.nilck (.t 57)), none⟩,
    ⟨(some 60), .val (.faddr 2 (.t 59)), none⟩,
    ⟨none, .store 6 (.t 60) (.t 58), none⟩]
def g72_12 : List Am.Item := [
    ⟨(some 62), .val (.mov (.t 0)), none⟩,
    ⟨(some 63), .val (.load (some 3) (.t 8)), none⟩,
    ⟨(some 64), .val (.load (some 7) (.t 5)), none⟩,
    ⟨(some 65), .val (.load (some 8) (.t 15)), none⟩,
    ⟨(some 66), .val (.mov (.t 11)), none⟩,
    ⟨(some 67), .callF (.f 94) [(.t 62), (.t 63), (.t 64), (.t 65), (.t 66)], none⟩,
    ⟨(some 61), .val (.mov (.t 67)), none⟩,
    ⟨(some 68), .val (.ext (.t 61) 0), none⟩,
    ⟨(some 69), .val (.ext (.t 61) 1), none⟩,
    ⟨none, .store 7 (.t 5) (.t 68), none⟩,
    ⟨(some 13), .val (.mov (.t 69)), none⟩]
def g72_13 : List Am.Item := [
    ⟨(some 70), .val (.mov (.t 13)), none⟩,
    ⟨(some 71), .val (.bin .num .neq (.t 70) (.c (.int .i64 0))), none⟩]
def g72_14 : List Am.Item := [
    ⟨(some 72), .val (.load (some 7) (.t 5)), none⟩,
    ⟨(some 73), .val (.mov (.t 13)), none⟩,
    ⟨none, .store 7 (.t 6) (.t 72), none⟩,
    ⟨(some 7), .val (.mov (.t 73)), none⟩]
def g72_15 : List Am.Item := [
    ⟨(some 74), .val (.bin .num .add (.t 49) (.c (.int .i64 1))), none⟩,
    ⟨(some 49), .val (.mov (.t 74)), none⟩]
def l72_0 : RC := .gho (.drop 15) (.seq (.reg g72_8) (.seq (.cond (.t 50) (.skip) (.exit 2)) (.seq (.block 3 (.seq (.reg g72_9) (.seq (.seq (.reg g72_10) (.cond (.t 56) (.exit 3) (.skip))) (.seq (.reg g72_11) (.seq (.reg g72_12) (.seq (.seq (.reg g72_13) (.cond (.t 71) (.seq (.reg g72_14) (.ret)) (.skip))) (.exit 1))))))) (.reg g72_15))))
def g72_16 : List Am.Item := [
    ⟨(some 76), .val (.load (some 6) (.t 9)), none⟩,
    ⟨(some 77), .call (.f 95) [(.t 76)], none⟩,
    ⟨(some 75), .val (.mov (.t 77)), none⟩,
    ⟨(some 78), .val (.ext (.t 75) 0), none⟩,
    ⟨(some 79), .val (.ext (.t 75) 1), none⟩,
    ⟨(some 80), .val (.ext (.t 75) 2), none⟩,
    ⟨(some 16), .allocN 16 [.int .i64 0, .int .i64 0, .int .u64 0, .str []], none⟩,
    ⟨none, .store 4 (.t 16) (.t 78), none⟩,
    ⟨none, .store 6 (.t 12) (.t 79), none⟩,
    ⟨(some 13), .val (.mov (.t 80)), none⟩]
def g72_17 : List Am.Item := [
    ⟨(some 81), .val (.mov (.t 13)), none⟩,
    ⟨(some 82), .val (.bin .num .neq (.t 81) (.c (.int .i64 0))), none⟩]
def g72_18 : List Am.Item := [
    ⟨(some 83), .val (.load (some 7) (.t 5)), none⟩,
    ⟨(some 84), .val (.mov (.t 13)), none⟩,
    ⟨none, .store 7 (.t 6) (.t 83), none⟩,
    ⟨(some 7), .val (.mov (.t 84)), none⟩]
def g72_19 : List Am.Item := [
    ⟨(some 85), .val (.mov (.t 0)), none⟩,
    ⟨(some 86), .val (.load (some 6) (.t 12)), none⟩,
    ⟨(some 87), .val (.nilck (.t 85)), none⟩,
    ⟨(some 88), .val (.faddr 2 (.t 87)), none⟩,
    ⟨none, .store 6 (.t 88) (.t 86), none⟩]
def g72_20 : List Am.Item := [
    ⟨(some 89), .val (.load (some 7) (.t 5)), none⟩,
    ⟨(some 90), .val (.load (some 4) (.t 16)), none⟩,
    ⟨(some 91), .call (.f 96) [(.t 89), (.t 90)], none⟩,
    ⟨none, .store 7 (.t 5) (.t 91), none⟩]
def l72_1 : RC := .gho (.drop 16) (.gho (.drop 15) (.gho (.drop 12) (.gho (.drop 9) (.seq (.seq (.reg g72_2) (.cond (.t 30) (.skip) (.exit 0))) (.block 1 (.seq (.reg g72_3) (.seq (.reg g72_4) (.seq (.seq (.reg g72_5) (.cond (.t 43) (.seq (.reg g72_6) (.ret)) (.skip))) (.seq (.seq (.reg g72_7) (.block 2 (.loop l72_0))) (.seq (.reg g72_16) (.seq (.seq (.reg g72_17) (.cond (.t 82) (.seq (.reg g72_18) (.ret)) (.skip))) (.seq (.reg g72_19) (.reg g72_20)))))))))))))
def g72_21 : List Am.Item := [
    ⟨(some 92), .val (.load (some 7) (.t 5)), none⟩,
    ⟨none, .store 7 (.t 6) (.t 92), none⟩,
    ⟨(some 7), .val (.mov (.c (.int .i64 0))), none⟩]
def r72 : RC := .seq (.reg g72_0) (.scope (.seq (.reg g72_1) (.seq (.lab) (.seq (.block 0 (.loop l72_1)) (.seq (.reg g72_21) (.ret))))))
def o72 : List RR := [.cell 6 (some 7), .tmp 7]
theorem k72 : chkC Tryz.prog 93 r72 (Tryz.f72.body.getD .skip) = true := by decide +kernel
theorem q72 : chkR Tryz.prog Tryz.f72.results.toList o72 = true := by decide +kernel

/- wireschema/plan.Norm -/
def g73_0 : List Am.Item := [
    ⟨(some 3), .boxN 3 (.t 0), none⟩,
    ⟨(some 5), .boxN 5 (.t 2), none⟩,
    ⟨(some 6), .allocN 6 [.int .i64 0, .int .u64 0, .str [], .nils, .nils, .nils, .nils], none⟩]
def g73_1 : List Am.Item := [
    ⟨(some 14), .val (.faddr 6 (.t 5)), none⟩,
    ⟨(some 15), .val (.load none (.t 14)), none⟩,
    ⟨(some 16), .callF (.f 97) [(.t 15)], none⟩,
    ⟨(some 17), .val (.build [.int .i64 0, .int .u64 0, .str [], .nils, .nils, .nils, .nils] [(0, 1, (.c (.int .i64 10))), (6, 1, (.t 16))]), none⟩,
    ⟨(some 7), .allocN 7 [.int .i64 0, .int .u64 0, .str [], .nils, .nils, .nils, .nils], none⟩,
    ⟨none, .store 7 (.t 7) (.t 17), none⟩]
def g73_2 : List Am.Item := [
    ⟨(some 18), .val (.mov (.t 1)), none⟩,
    ⟨(some 19), .val (.bin .num .lss (.t 18) (.c (.int .i64 0))), none⟩,
    ⟨(some 20), .val (.mov (.t 19)), none⟩,
    ⟨(some 21), .val (.mov (.t 1)), (some (20, false))⟩,
    ⟨(some 22), .val (.faddr 0 (.t 3)), (some (20, false))⟩,
    ⟨(some 23), .val (.load none (.t 22)), (some (20, false))⟩,
    ⟨(some 24), .val (.len 1 (.t 23)), (some (20, false))⟩,
    ⟨(some 25), .val (.bin .num .geq (.t 21) (.t 24)), (some (20, false))⟩,
    ⟨(some 26), .val (.pick (.t 20) (.c (.bool true)) (.t 25)), none⟩]
def g73_3 : List Am.Item := [
    ⟨(some 27), .val (.load (some 7) (.t 7)), none⟩,
    ⟨none, .store 7 (.t 6) (.t 27), none⟩]
def g73_4 : List Am.Item := [
    ⟨(some 28), .val (.faddr 5 (.t 5)), none⟩,
    ⟨(some 29), .val (.load none (.t 28)), none⟩,
    ⟨(some 30), .call (.f 98) [(.t 29)], none⟩,
    ⟨(some 31), .val (.len 1 (.t 30)), none⟩,
    ⟨(some 32), .val (.mov (.c (.int .i64 0))), none⟩]
def g73_5 : List Am.Item := [
    ⟨(some 33), .val (.bin .num .lss (.t 32) (.t 31)), none⟩]
def g73_6 : List Am.Item := [
    ⟨(some 34), .val (.iaddr 8 none (.t 30) (.t 32)), none⟩,
    ⟨(some 35), .val (.load (some 8) (.t 34)), none⟩,
    ⟨(some 9), .allocN 9 [.int .i64 0, .int .i64 0, .int .u64 0, .str [], .nils, .nils, .nils, .nils], none⟩,
    ⟨none, .store 8 (.t 9) (.t 35), none⟩]
def g73_7 : List Am.Item := [
    ⟨(some 37), .val (.faddr 0 (.t 3)), none⟩,
    ⟨(some 38), .val (.loadv 0 3 none (.t 37)), none⟩,
    ⟨(some 39), .val (.mov (.t 1)), none⟩,
    ⟨(some 40), .val (.iaddr 3 none (.t 38) (.t 39)), none⟩,
    ⟨(some 41), .val (.loadr (some 3) (.t 40)), none⟩,
    ⟨(some 42), .val (.faddr 0 (.t 9)), none⟩,
    ⟨(some 43), .val (.loadv 0 9 none (.t 42)), none⟩,
    ⟨(some 44), .call (.f 99) [(.t 41), (.t 43)], none⟩,
    ⟨(some 36), .val (.mov (.t 44)), none⟩,
    ⟨(some 45), .val (.ext (.t 36) 0), none⟩,
    ⟨(some 46), .val (.ext (.t 36) 1), none⟩,
    ⟨(some 10), .allocN 10 [.int .i64 0, .str [], .str [], .int .i64 0, .int .i64 0, .int .i64 0, .int .i64 0, .int .i64 0], none⟩,
    ⟨none, .storev 0 10 8 (.t 10) (.t 45), none⟩,
    ⟨(some 11), .val (.mov (.t 46)), none⟩]
def g73_8 : List Am.Item := [
    ⟨(some 47), .val (.faddr 3 (.t 10)), none⟩,
    ⟨(some 48), .val (.load none (.t 47)), none⟩,
    ⟨(some 49), .val (.bin .num .eql (.t 48) (.c (.int .i64 3))), none⟩,
    ⟨(some 50), .val (.mov (.t 49)), none⟩,
    ⟨(some 51), .val (.faddr 3 (.t 10)), (some (50, false))⟩,
    ⟨(some 52), .val (.load none (.t 51)), (some (50, false))⟩,
    ⟨(some 53), .val (.bin .num .eql (.t 52) (.c (.int .i64 4))), (some (50, false))⟩,
    ⟨(some 54), .val (.pick (.t 50) (.c (.bool true)) (.t 53)), none⟩,
    ⟨(some 55), .val (.mov (.t 54)), none⟩,
    ⟨(some 56), .val (.faddr 3 (.t 10)), (some (55, false))⟩,
    ⟨(some 57), .val (.load none (.t 56)), (some (55, false))⟩,
    ⟨(some 58), .val (.bin .num .eql (.t 57) (.c (.int .i64 5))), (some (55, false))⟩,
    ⟨(some 59), .val (.pick (.t 55) (.c (.bool true)) (.t 58)), none⟩,
    ⟨(some 12), .val (.mov (.t 59)), none⟩]
def g73_9 : List Am.Item := [
    ⟨(some 60), .val (.load (some 2) (.t 3)), none⟩,
    ⟨(some 61), .val (.load (some 8) (.t 10)), none⟩,
    ⟨(some 62), .val (.faddr 1 (.t 9)), none⟩,
    ⟨(some 63), .val (.load (some 7) (.t 62)), none⟩,
    ⟨(some 64), .call (.f 100) [(.t 60), (.t 61), (.t 63)], none⟩,
    ⟨(some 13), .allocN 13 [.int .i64 0, .int .u64 0, .str [], .nils, .nils, .nils, .nils], none⟩,
    ⟨none, .store 7 (.t 13) (.t 64), none⟩]
def g73_10 : List Am.Item := [
    ⟨(some 65), .val (.mov (.t 12)), none⟩,
    ⟨(some 66), .val (.un .not (.t 65)), none⟩,
    ⟨(some 67), .val (.mov (.t 66)), none⟩,
    ⟨(some 68), .val (.load (some 7) (.t 13)), (some (67, false))⟩,
    ⟨(some 69), .call (.f 101) [(.t 68)], (some (67, false))⟩,
    ⟨(some 70), .val (.un .not (.t 69)), (some (67, false))⟩,
    ⟨(some 71), .val (.pick (.t 67) (.c (.bool true)) (.t 70)), none⟩]
def g73_11 : List Am.Item := [
    ⟨(some 72), .val (.faddr 5 (.t 7)), none⟩,
    ⟨(some 73), .val (.load none (.t 72)), none⟩,
    ⟨(some 74), .val (.faddr 0 (.t 9)), none⟩,
    ⟨(some 75), .val (.load none (.t 74)), none⟩,
    ⟨(some 76), .val (.load (some 7) (.t 13)), none⟩,
    ⟨(some 77), .val (.build [.int .i64 0, .int .i64 0, .int .u64 0, .str [], .nils, .nils, .nils, .nils] [(0, 1, (.t 75)), (1, 7, (.t 76))]), none⟩,
    ⟨(some 78), .bsl 8 1 [.int .i64 0, .int .i64 0, .int .u64 0, .str [], .nils, .nils, .nils, .nils] [(0, 8, (.t 77))], none⟩,
    ⟨(some 79), .app 8 136 61 (.t 73) (.t 78), none⟩,
    ⟨(some 80), .val (.faddr 5 (.t 7)), none⟩,
    ⟨none, .store 1 (.t 80) (.t 79), none⟩]
def g73_12 : List Am.Item := [
    ⟨(some 81), .val (.bin .num .add (.t 32) (.c (.int .i64 1))), none⟩,
    ⟨(some 32), .val (.mov (.t 81)), none⟩]
def l73_0 : RC := .gho (.drop 13) (.gho (.drop 10) (.gho (.drop 9) (.seq (.reg g73_5) (.seq (.cond (.t 33) (.skip) (.exit 0)) (.seq (.block 1 (.seq (.reg g73_6) (.seq (.draw g73_7) (.seq (.reg g73_8) (.seq (.reg g73_9) (.seq (.reg g73_10) (.cond (.t 71) (.reg g73_11) (.skip)))))))) (.reg g73_12))))))
def g73_13 : List Am.Item := [
    ⟨(some 82), .val (.faddr 6 (.t 7)), none⟩,
    ⟨(some 83), .val (.load none (.t 82)), none⟩,
    ⟨(some 84), .callF (.f 102) [(.t 83), (.f 103)], none⟩]
def g73_14 : List Am.Item := [
    ⟨(some 85), .val (.load (some 7) (.t 7)), none⟩,
    ⟨none, .store 7 (.t 6) (.t 85), none⟩]
def r73 : RC := .seq (.reg g73_0) (.seq (.reg g73_1) (.gho (.vecc 7 5 1100 8) (.seq (.seq (.reg g73_2) (.cond (.t 26) (.seq (.reg g73_3) (.ret)) (.skip))) (.seq (.seq (.reg g73_4) (.block 0 (.loop l73_0))) (.seq (.reg g73_13) (.seq (.reg g73_14) (.ret)))))))
def o73 : List RR := [.cell 6 (some 7)]
theorem k73 : chkC Tryz.prog 86 r73 (Tryz.f73.body.getD .skip) = true := by decide +kernel
theorem q73 : chkR Tryz.prog Tryz.f73.results.toList o73 = true := by decide +kernel

/- slices.IndexFunc[[]wireschema/api.Prog,wireschema/api.Prog] -/
def g74_0 : List Am.Item := [
    ⟨(some 4), .val (.mov (.c (.int .i64 0))), none⟩]
def g74_1 : List Am.Item := [
    ⟨(some 6), .val (.mov (.t 0)), none⟩,
    ⟨(some 7), .val (.len 1 (.t 6)), none⟩,
    ⟨(some 8), .val (.mov (.c (.int .i64 0))), none⟩]
def g74_2 : List Am.Item := [
    ⟨(some 9), .val (.bin .num .lss (.t 8) (.t 7)), none⟩]
def g74_3 : List Am.Item := [
    ⟨(some 10), .val (.mov (.t 8)), none⟩,
    ⟨(some 5), .val (.mov (.t 10)), none⟩]
def g74_4 : List Am.Item := [
    ⟨(some 11), .val (.mov (.t 1)), none⟩,
    ⟨(some 12), .val (.mov (.t 0)), none⟩,
    ⟨(some 13), .val (.mov (.t 5)), none⟩,
    ⟨(some 14), .val (.iaddr 3 none (.t 12) (.t 13)), none⟩,
    ⟨(some 15), .val (.load (some 3) (.t 14)), none⟩,
    ⟨(some 16), .callF (.t 11) [(.t 15)], none⟩]
def g74_5 : List Am.Item := [
    ⟨(some 17), .val (.mov (.t 5)), none⟩,
    ⟨(some 4), .val (.mov (.t 17)), none⟩]
def g74_6 : List Am.Item := [
    ⟨(some 18), .val (.bin .num .add (.t 8) (.c (.int .i64 1))), none⟩,
    ⟨(some 8), .val (.mov (.t 18)), none⟩]
def l74_0 : RC := .seq (.reg g74_2) (.seq (.cond (.t 9) (.skip) (.exit 0)) (.seq (.block 1 (.seq (.reg g74_3) (.seq (.reg g74_4) (.cond (.t 16) (.seq (.reg g74_5) (.ret)) (.skip))))) (.reg g74_6)))
def g74_7 : List Am.Item := [
    ⟨(some 4), .val (.mov (.c (.int .i64 (-1)))), none⟩]
def r74 : RC := .seq (.reg g74_0) (.seq (.seq (.reg g74_1) (.block 0 (.loop l74_0))) (.seq (.reg g74_7) (.ret)))
def o74 : List RR := [.tmp 4]
theorem k74 : chkC Tryz.prog 19 r74 (Tryz.f74.body.getD .skip) = true := by decide +kernel
theorem q74 : chkR Tryz.prog Tryz.f74.results.toList o74 = true := by decide +kernel

/- wireschema/plan.Find$1 -/
def g75_0 : List Am.Item := [
    ⟨(some 2), .boxN 2 (.t 0), none⟩,
    ⟨(some 3), .val (.mov (.c (.bool false))), none⟩]
def g75_1 : List Am.Item := [
    ⟨(some 4), .val (.faddr 0 (.t 2)), none⟩,
    ⟨(some 5), .val (.load none (.t 4)), none⟩,
    ⟨(some 6), .val (.load none (.t 1)), none⟩,
    ⟨(some 7), .val (.bin .str .eql (.t 5) (.t 6)), none⟩,
    ⟨(some 3), .val (.mov (.t 7)), none⟩]
def r75 : RC := .seq (.reg g75_0) (.seq (.reg g75_1) (.ret))
def o75 : List RR := [.tmp 3]
theorem k75 : chkC Tryz.prog 8 r75 (Tryz.f75.body.getD .skip) = true := by decide +kernel
theorem q75 : chkR Tryz.prog Tryz.f75.results.toList o75 = true := by decide +kernel

/- wireschema/tagdec.find -/
def g76_0 : List Am.Item := [
    ⟨(some 2), .boxN 2 (.t 0), none⟩,
    ⟨(some 4), .allocN 4 [.int .i64 0, .int .u64 0, .str [], .nils, .nils, .nils, .nils], none⟩,
    ⟨(some 5), .val (.mov (.c (.bool false))), none⟩]
def g76_1 : List Am.Item := [
    ⟨(some 8), .val (.faddr 5 (.t 2)), none⟩,
    ⟨(some 9), .val (.load none (.t 8)), none⟩,
    ⟨(some 10), .val (.len 1 (.t 9)), none⟩,
    ⟨(some 11), .val (.mov (.c (.int .i64 0))), none⟩]
def g76_2 : List Am.Item := [
    ⟨(some 12), .val (.bin .num .lss (.t 11) (.t 10)), none⟩]
def g76_3 : List Am.Item := [
    ⟨(some 13), .val (.iaddr 8 none (.t 9) (.t 11)), none⟩,
    ⟨(some 14), .val (.load (some 8) (.t 13)), none⟩,
    ⟨(some 7), .allocN 7 [.int .i64 0, .int .i64 0, .int .u64 0, .str [], .nils, .nils, .nils, .nils], none⟩,
    ⟨none, .store 8 (.t 7) (.t 14), none⟩]
def g76_4 : List Am.Item := [
    ⟨(some 15), .val (.faddr 0 (.t 7)), none⟩,
    ⟨(some 16), .val (.load none (.t 15)), none⟩,
    ⟨(some 17), .val (.mov (.t 1)), none⟩,
    ⟨(some 18), .val (.bin .num .eql (.t 16) (.t 17)), none⟩]
def g76_5 : List Am.Item := [
    ⟨(some 19), .val (.faddr 1 (.t 7)), none⟩,
    ⟨(some 20), .val (.load (some 7) (.t 19)), none⟩,
    ⟨none, .store 7 (.t 4) (.t 20), none⟩,
    ⟨(some 5), .val (.mov (.c (.bool true))), none⟩]
def g76_6 : List Am.Item := [
    ⟨(some 21), .val (.bin .num .add (.t 11) (.c (.int .i64 1))), none⟩,
    ⟨(some 11), .val (.mov (.t 21)), none⟩]
def l76_0 : RC := .gho (.drop 7) (.seq (.reg g76_2) (.seq (.cond (.t 12) (.skip) (.exit 0)) (.seq (.block 1 (.seq (.reg g76_3) (.seq (.reg g76_4) (.cond (.t 18) (.seq (.reg g76_5) (.ret)) (.skip))))) (.reg g76_6))))
def g76_7 : List Am.Item := [
    ⟨(some 22), .val (.build [.int .i64 0, .int .u64 0, .str [], .nils, .nils, .nils, .nils] []), none⟩,
    ⟨none, .store 7 (.t 4) (.t 22), none⟩,
    ⟨(some 5), .val (.mov (.c (.bool false))), none⟩]
def r76 : RC := .seq (.reg g76_0) (.seq (.seq (.reg g76_1) (.block 0 (.loop l76_0))) (.seq (.reg g76_7) (.ret)))
def o76 : List RR := [.cell 4 (some 7), .tmp 5]
theorem k76 : chkC Tryz.prog 23 r76 (Tryz.f76.body.getD .skip) = true := by decide +kernel
theorem q76 : chkR Tryz.prog Tryz.f76.results.toList o76 = true := by decide +kernel

/- slices.stableCmpFunc[wireschema/api.Raw] -/
def g124_0 : List Am.Item := [
    ⟨(some 6), .val (.mov (.c (.int .i64 20))), none⟩]
def g124_1 : List Am.Item := [
    ⟨(some 10), .val (.mov (.t 6)), none⟩,
    ⟨(some 7), .val (.mov (.c (.int .i64 0))), none⟩,
    ⟨(some 8), .val (.mov (.t 10)), none⟩]
def g124_2 : List Am.Item := [
    ⟨(some 11), .val (.mov (.t 8)), none⟩,
    ⟨(some 12), .val (.mov (.t 1)), none⟩,
    ⟨(some 13), .val (.bin .num .leq (.t 11) (.t 12)), none⟩]
def g124_3 : List Am.Item := [
    ⟨(some 14), .val (.mov (.t 0)), none⟩,
    ⟨(some 15), .val (.mov (.t 7)), none⟩,
    ⟨(some 16), .val (.mov (.t 8)), none⟩,
    ⟨(some 17), .val (.mov (.t 2)), none⟩,
    ⟨(some 18), .callF (.f 147) [(.t 14), (.t 15), (.t 16), (.t 17)], none⟩]
def g124_4 : List Am.Item := [
    ⟨(some 19), .val (.mov (.t 8)), none⟩,
    ⟨(some 7), .val (.mov (.t 19)), none⟩]
def g124_5 : List Am.Item := [
    ⟨(some 20), .val (.mov (.t 8)), none⟩,
    ⟨(some 21), .val (.mov (.t 6)), none⟩,
    ⟨(some 22), .val (.bin .num .add (.t 20) (.t 21)), none⟩,
    ⟨(some 8), .val (.mov (.t 22)), none⟩]
def l124_0 : RC := .seq (.seq (.reg g124_2) (.cond (.t 13) (.skip) (.exit 0))) (.block 1 (.seq (.reg g124_3) (.seq (.reg g124_4) (.reg g124_5))))
def g124_6 : List Am.Item := [
    ⟨(some 23), .val (.mov (.t 0)), none⟩,
    ⟨(some 24), .val (.mov (.t 7)), none⟩,
    ⟨(some 25), .val (.mov (.t 1)), none⟩,
    ⟨(some 26), .val (.mov (.t 2)), none⟩,
    ⟨(some 27), .callF (.f 147) [(.t 23), (.t 24), (.t 25), (.t 26)], none⟩]
def g124_7 : List Am.Item := [
    ⟨(some 28), .val (.mov (.t 6)), none⟩,
    ⟨(some 29), .val (.mov (.t 1)), none⟩,
    ⟨(some 30), .val (.bin .num .lss (.t 28) (.t 29)), none⟩]
def g124_8 : List Am.Item := [
    ⟨(some 31), .val (.mov (.t 6)), none⟩,
    ⟨(some 32), .val (.bin .num .mul (.c (.int .i64 2)) (.t 31)), none⟩,
    ⟨(some 7), .val (.mov (.c (.int .i64 0))), none⟩,
    ⟨(some 8), .val (.mov (.t 32)), none⟩]
def g124_9 : List Am.Item := [
    ⟨(some 33), .val (.mov (.t 8)), none⟩,
    ⟨(some 34), .val (.mov (.t 1)), none⟩,
    ⟨(some 35), .val (.bin .num .leq (.t 33) (.t 34)), none⟩]
def g124_10 : List Am.Item := [
    ⟨(some 36), .val (.mov (.t 0)), none⟩,
    ⟨(some 37), .val (.mov (.t 7)), none⟩,
    ⟨(some 38), .val (.mov (.t 7)), none⟩,
    ⟨(some 39), .val (.mov (.t 6)), none⟩,
    ⟨(some 40), .val (.bin .num .add (.t 38) (.t 39)), none⟩,
    ⟨(some 41), .val (.mov (.t 8)), none⟩,
    ⟨(some 42), .val (.mov (.t 2)), none⟩,
    ⟨(some 43), .callF (.f 148) [(.t 36), (.t 37), (.t 40), (.t 41), (.t 42)], none⟩]
def g124_11 : List Am.Item := [
    ⟨(some 44), .val (.mov (.t 8)), none⟩,
    ⟨(some 7), .val (.mov (.t 44)), none⟩]
def g124_12 : List Am.Item := [
    ⟨(some 45), .val (.mov (.t 8)), none⟩,
    ⟨(some 46), .val (.mov (.t 6)), none⟩,
    ⟨(some 47), .val (.bin .num .mul (.c (.int .i64 2)) (.t 46)), none⟩,
    ⟨(some 48), .val (.bin .num .add (.t 45) (.t 47)), none⟩,
    ⟨(some 8), .val (.mov (.t 48)), none⟩]
def l124_1 : RC := .seq (.seq (.reg g124_9) (.cond (.t 35) (.skip) (.exit 4))) (.block 5 (.seq (.reg g124_10) (.seq (.reg g124_11) (.reg g124_12))))
def g124_13 : List Am.Item := [
    ⟨(some 49), .val (.mov (.t 7)), none⟩,
    ⟨(some 50), .val (.mov (.t 6)), none⟩,
    ⟨(some 51), .val (.bin .num .add (.t 49) (.t 50)), none⟩,
    ⟨(some 9), .val (.mov (.t 51)), none⟩]
def g124_14 : List Am.Item := [
    ⟨(some 52), .val (.mov (.t 9)), none⟩,
    ⟨(some 53), .val (.mov (.t 1)), none⟩,
    ⟨(some 54), .val (.bin .num .lss (.t 52) (.t 53)), none⟩]
def g124_15 : List Am.Item := [
    ⟨(some 55), .val (.mov (.t 0)), none⟩,
    ⟨(some 56), .val (.mov (.t 7)), none⟩,
    ⟨(some 57), .val (.mov (.t 9)), none⟩,
    ⟨(some 58), .val (.mov (.t 1)), none⟩,
    ⟨(some 59), .val (.mov (.t 2)), none⟩,
    ⟨(some 60), .callF (.f 148) [(.t 55), (.t 56), (.t 57), (.t 58), (.t 59)], none⟩]
def g124_16 : List Am.Item := [
    ⟨(some 61), .val (.mov (.t 6)), none⟩,
    ⟨(some 62), .val (.bin .num .mul (.t 61) (.c (.int .i64 2))), none⟩,
    ⟨(some 6), .val (.mov (.t 62)), none⟩]
def l124_2 : RC := .seq (.seq (.reg g124_7) (.cond (.t 30) (.skip) (.exit 2))) (.block 3 (.seq (.reg g124_8) (.seq (.block 4 (.loop l124_1)) (.seq (.seq (.reg g124_13) (.seq (.reg g124_14) (.cond (.t 54) (.reg g124_15) (.skip)))) (.reg g124_16)))))
def r124 : RC := .seq (.reg g124_0) (.seq (.reg g124_1) (.seq (.block 0 (.loop l124_0)) (.seq (.reg g124_6) (.block 2 (.loop l124_2)))))
def o124 : List RR := []
theorem k124 : chkC Tryz.prog 63 r124 (Tryz.f124.body.getD .skip) = true := by decide +kernel
theorem q124 : chkR Tryz.prog Tryz.f124.results.toList o124 = true := by decide +kernel

/- cmp.isNaN[int] -/
def g125_0 : List Am.Item := [
    ⟨(some 2), .val (.mov (.c (.bool false))), none⟩]
def g125_1 : List Am.Item := [
    ⟨(some 3), .val (.mov (.t 0)), none⟩,
    ⟨(some 4), .val (.mov (.t 0)), none⟩,
    ⟨(some 5), .val (.bin .num .neq (.t 3) (.t 4)), none⟩,
    ⟨(some 2), .val (.mov (.t 5)), none⟩]
def r125 : RC := .seq (.reg g125_0) (.seq (.reg g125_1) (.ret))
def o125 : List RR := [.tmp 2]
theorem k125 : chkC Tryz.prog 6 r125 (Tryz.f125.body.getD .skip) = true := by decide +kernel
theorem q125 : chkR Tryz.prog Tryz.f125.results.toList o125 = true := by decide +kernel

/- wireschema/unknown.TakeTag -/
def g93_0 : List Am.Item := [
    ⟨(some 1), .boxN 1 (.t 0), none⟩,
    ⟨(some 2), .val (.mov (.c (.int .i64 0))), none⟩,
    ⟨(some 3), .val (.mov (.c (.int .i64 0))), none⟩,
    ⟨(some 4), .allocN 4 [.str [], .int .i64 0, .int .i64 0, .int .i64 0, .int .i64 0, .int .i64 0], none⟩,
    ⟨(some 5), .val (.mov (.c (.int .i64 0))), none⟩]
def g93_1 : List Am.Item := [
    ⟨(some 10), .val (.load (some 6) (.t 1)), none⟩,
    ⟨(some 11), .call (.f 110) [(.t 10)], none⟩,
    ⟨(some 9), .val (.mov (.t 11)), none⟩,
    ⟨(some 12), .val (.ext (.t 9) 0), none⟩,
    ⟨(some 13), .val (.ext (.t 9) 1), none⟩,
    ⟨(some 14), .val (.ext (.t 9) 2), none⟩,
    ⟨(some 7), .allocN 7 [.str [], .int .i64 0, .int .i64 0, .int .i64 0, .int .i64 0, .int .i64 0], none⟩,
    ⟨(some 6), .val (.mov (.t 12)), none⟩,
    ⟨none, .store 6 (.t 7) (.t 13), none⟩,
    ⟨(some 8), .val (.mov (.t 14)), none⟩]
def g93_2 : List Am.Item := [
    ⟨(some 16), .val (.mov (.t 8)), none⟩,
    ⟨(some 17), .val (.bin .num .neq (.t 16) (.c (.int .i64 0))), none⟩,
    ⟨(some 15), .val (.mov (.t 17)), none⟩]
def g93_3 : List Am.Item := [
    ⟨(some 18), .val (.loadv 0 1 (some 6) (.t 1)), none⟩,
    ⟨(some 19), .val (.mov (.t 8)), none⟩,
    ⟨(some 2), .val (.mov (.c (.int .i64 0))), none⟩,
    ⟨(some 3), .val (.mov (.c (.int .i64 0))), none⟩,
    ⟨none, .storev 0 4 6 (.t 4) (.t 18), none⟩,
    ⟨(some 5), .val (.mov (.t 19)), none⟩]
def g93_4 : List Am.Item := [
    ⟨(some 21), .val (.mov (.t 6)), none⟩,
    ⟨(some 22), .val (.bin .num .rem (.t 21) (.c (.int .u64 8))), none⟩,
    ⟨(some 23), .val (.bin .num .eql (.t 22) (.c (.int .u64 7))), none⟩,
    ⟨(some 20), .val (.mov (.t 23)), none⟩]
def g93_5 : List Am.Item := [
    ⟨(some 24), .val (.loadv 0 1 (some 6) (.t 1)), none⟩,
    ⟨(some 2), .val (.mov (.c (.int .i64 0))), none⟩,
    ⟨(some 3), .val (.mov (.c (.int .i64 0))), none⟩,
    ⟨none, .storev 0 4 6 (.t 4) (.t 24), none⟩,
    ⟨(some 5), .val (.mov (.c (.int .i64 5))), none⟩]
def g93_6 : List Am.Item := [
    ⟨(some 26), .val (.mov (.t 6)), none⟩,
    ⟨(some 27), .val (.bin .num .quo (.t 26) (.c (.int .u64 8))), none⟩,
    ⟨(some 28), .val (.bin .num .lss (.t 27) (.c (.int .u64 1))), none⟩,
    ⟨(some 29), .val (.mov (.t 28)), none⟩,
    ⟨(some 30), .val (.mov (.t 6)), (some (29, false))⟩,
    ⟨(some 31), .val (.bin .num .quo (.t 30) (.c (.int .u64 8))), (some (29, false))⟩,
    ⟨(some 32), .val (.bin .num .gtr (.t 31) (.c (.int .u64 65535))), (some (29, false))⟩,
    ⟨(some 33), .val (.pick (.t 29) (.c (.bool true)) (.t 32)), none⟩,
    ⟨(some 25), .val (.mov (.t 33)), none⟩]
def g93_7 : List Am.Item := [
    ⟨(some 34), .val (.loadv 0 1 (some 6) (.t 1)), none⟩,
    ⟨(some 2), .val (.mov (.c (.int .i64 0))), none⟩,
    ⟨(some 3), .val (.mov (.c (.int .i64 0))), none⟩,
    ⟨none, .storev 0 4 6 (.t 4) (.t 34), none⟩,
    ⟨(some 5), .val (.mov (.c (.int .i64 6))), none⟩]
def g93_8 : List Am.Item := [
    ⟨(some 35), .val (.mov (.t 6)), none⟩,
    ⟨(some 36), .val (.bin .num .quo (.t 35) (.c (.int .u64 8))), none⟩,
    ⟨(some 37), .val (.cvi .i64 (.t 36)), none⟩,
    ⟨(some 38), .val (.mov (.t 6)), none⟩,
    ⟨(some 39), .val (.bin .num .rem (.t 38) (.c (.int .u64 8))), none⟩,
    ⟨(some 40), .val (.cvi .i64 (.t 39)), none⟩,
    ⟨(some 41), .val (.loadv 0 7 (some 6) (.t 7)), none⟩,
    ⟨(some 2), .val (.mov (.t 37)), none⟩,
    ⟨(some 3), .val (.mov (.t 40)), none⟩,
    ⟨none, .storev 0 4 6 (.t 4) (.t 41), none⟩,
    ⟨(some 5), .val (.mov (.c (.int .i64 0))), none⟩]
def r93 : RC := .seq (.reg g93_0) (.seq (.reg g93_1) (.seq (.block 0 (.seq (.reg g93_2) (.cond (.t 15) (.seq (.draw g93_3) (.ret)) (.seq (.reg g93_4) (.cond (.t 20) (.seq (.draw g93_5) (.ret)) (.seq (.reg g93_6) (.cond (.t 25) (.seq (.draw g93_7) (.ret)) (.skip)))))))) (.seq (.draw g93_8) (.ret))))
def o93 : List RR := [.tmp 2, .tmp 3, .cell 4 (some 6), .tmp 5]
theorem k93 : chkC Tryz.prog 42 r93 (Tryz.f93.body.getD .skip) = true := by decide +kernel
theorem q93 : chkR Tryz.prog Tryz.f93.results.toList o93 = true := by decide +kernel

/- wireschema/cursor.Spend -/
def g91_0 : List Am.Item := [
    ⟨(some 2), .boxN 2 (.t 0), none⟩,
    ⟨(some 4), .allocN 4 [.str [], .int .i64 0, .int .i64 0, .int .i64 0, .int .i64 0, .int .i64 0], none⟩,
    ⟨(some 5), .val (.mov (.c (.int .i64 0))), none⟩]
def g91_1 : List Am.Item := [
    ⟨(some 7), .val (.mov (.t 1)), none⟩,
    ⟨(some 8), .val (.bin .num .lss (.t 7) (.c (.int .i64 0))), none⟩,
    ⟨(some 6), .val (.mov (.t 8)), none⟩]
def g91_2 : List Am.Item := [
    ⟨(some 9), .val (.load (some 6) (.t 2)), none⟩,
    ⟨none, .store 6 (.t 4) (.t 9), none⟩,
    ⟨(some 5), .val (.mov (.c (.int .i64 1))), none⟩]
def g91_3 : List Am.Item := [
    ⟨(some 11), .val (.mov (.t 1)), none⟩,
    ⟨(some 12), .val (.faddr 4 (.t 2)), none⟩,
    ⟨(some 13), .val (.load none (.t 12)), none⟩,
    ⟨(some 14), .val (.bin .num .gtr (.t 11) (.t 13)), none⟩,
    ⟨(some 10), .val (.mov (.t 14)), none⟩]
def g91_4 : List Am.Item := [
    ⟨(some 15), .val (.load (some 6) (.t 2)), none⟩,
    ⟨none, .store 6 (.t 4) (.t 15), none⟩,
    ⟨(some 5), .val (.mov (.c (.int .i64 3))), none⟩]
def g91_5 : List Am.Item := [
    ⟨(some 16), .val (.faddr 4 (.t 2)), none⟩,
    ⟨(some 17), .val (.load none (.t 16)), none⟩,
    ⟨(some 18), .val (.mov (.t 1)), none⟩,
    ⟨(some 19), .val (.bin .num .sub (.t 17) (.t 18)), none⟩,
    ⟨(some 20), .val (.faddr 4 (.t 2)), none⟩,
    ⟨none, .store 1 (.t 20) (.t 19), none⟩]
def g91_6 : List Am.Item := [
    ⟨(some 21), .val (.load (some 6) (.t 2)), none⟩,
    ⟨none, .store 6 (.t 4) (.t 21), none⟩,
    ⟨(some 5), .val (.mov (.c (.int .i64 0))), none⟩]
def r91 : RC := .seq (.reg g91_0) (.seq (.block 0 (.seq (.reg g91_1) (.cond (.t 6) (.seq (.reg g91_2) (.ret)) (.seq (.reg g91_3) (.cond (.t 10) (.seq (.reg g91_4) (.ret)) (.skip)))))) (.seq (.reg g91_5) (.seq (.reg g91_6) (.ret))))
def o91 : List RR := [.cell 4 (some 6), .tmp 5]
theorem k91 : chkC Tryz.prog 22 r91 (Tryz.f91.body.getD .skip) = true := by decide +kernel
theorem q91 : chkR Tryz.prog Tryz.f91.results.toList o91 = true := by decide +kernel

/- wireschema/cursor.Left -/
def g92_0 : List Am.Item := [
    ⟨(some 1), .boxN 1 (.t 0), none⟩,
    ⟨(some 2), .val (.mov (.c (.int .i64 0))), none⟩]
def g92_1 : List Am.Item := [
    ⟨(some 3), .val (.load (some 6) (.t 1)), none⟩,
    ⟨(some 4), .call (.f 109) [(.t 3)], none⟩,
    ⟨(some 5), .val (.un .not (.t 4)), none⟩]
def g92_2 : List Am.Item := [
    ⟨(some 2), .val (.mov (.c (.int .i64 0))), none⟩]
def g92_3 : List Am.Item := [
    ⟨(some 6), .val (.faddr 2 (.t 1)), none⟩,
    ⟨(some 7), .val (.load none (.t 6)), none⟩,
    ⟨(some 8), .val (.faddr 1 (.t 1)), none⟩,
    ⟨(some 9), .val (.load none (.t 8)), none⟩,
    ⟨(some 10), .val (.bin .num .sub (.t 7) (.t 9)), none⟩,
    ⟨(some 2), .val (.mov (.t 10)), none⟩]
def r92 : RC := .seq (.reg g92_0) (.seq (.seq (.reg g92_1) (.cond (.t 5) (.seq (.reg g92_2) (.ret)) (.skip))) (.seq (.reg g92_3) (.ret)))
def o92 : List RR := [.tmp 2]
theorem k92 : chkC Tryz.prog 11 r92 (Tryz.f92.body.getD .skip) = true := by decide +kernel
theorem q92 : chkR Tryz.prog Tryz.f92.results.toList o92 = true := by decide +kernel

/- (*wireschema/tagdec.reader).field -/
def g94_0 : List Am.Item := [
    ⟨(some 6), .boxN 6 (.t 1), none⟩,
    ⟨(some 7), .boxN 7 (.t 2), none⟩,
    ⟨(some 8), .boxN 8 (.t 3), none⟩,
    ⟨(some 10), .allocN 10 [.int .i64 0, .int .u64 0, .str [], .nils, .nils, .nils, .nils], none⟩,
    ⟨(some 11), .val (.mov (.c (.int .i64 0))), none⟩]
def g94_1 : List Am.Item := [
    ⟨(some 13), .val (.faddr 3 (.t 8)), none⟩,
    ⟨(some 14), .val (.load none (.t 13)), none⟩,
    ⟨(some 15), .val (.bin .num .eql (.t 14) (.c (.int .i64 5))), none⟩,
    ⟨(some 12), .val (.mov (.t 15)), none⟩]
def g94_2 : List Am.Item := [
    ⟨(some 16), .val (.mov (.t 4)), none⟩,
    ⟨(some 17), .val (.bin .num .neq (.t 16) (.c (.int .i64 6))), none⟩]
def g94_3 : List Am.Item := [
    ⟨(some 18), .val (.load (some 7) (.t 7)), none⟩,
    ⟨none, .store 7 (.t 10) (.t 18), none⟩,
    ⟨(some 11), .val (.mov (.c (.int .i64 13))), none⟩]
def g94_4 : List Am.Item := [
    ⟨(some 19), .val (.mov (.t 0)), none⟩,
    ⟨(some 20), .val (.load (some 3) (.t 6)), none⟩,
    ⟨(some 21), .val (.load (some 7) (.t 7)), none⟩,
    ⟨(some 22), .val (.load (some 8) (.t 8)), none⟩,
    ⟨(some 23), .callF (.f 111) [(.t 19), (.t 20), (.t 21), (.t 22)], none⟩,
    ⟨(some 24), .val (.ext (.t 23) 0), none⟩,
    ⟨(some 25), .val (.ext (.t 23) 1), none⟩,
    ⟨none, .store 7 (.t 10) (.t 24), none⟩,
    ⟨(some 11), .val (.mov (.t 25)), none⟩]
def g94_5 : List Am.Item := [
    ⟨(some 27), .val (.mov (.t 4)), none⟩,
    ⟨(some 28), .val (.bin .num .eql (.t 27) (.c (.int .i64 5))), none⟩,
    ⟨(some 29), .val (.mov (.t 28)), none⟩,
    ⟨(some 30), .val (.load (some 8) (.t 8)), (some (29, true))⟩,
    ⟨(some 31), .call (.f 58) [(.t 30)], (some (29, true))⟩,
    ⟨(some 32), .val (.pick (.t 29) (.t 31) (.c (.bool false))), none⟩,
    ⟨(some 26), .val (.mov (.t 32)), none⟩]
def g94_6 : List Am.Item := [
    ⟨(some 33), .val (.mov (.t 0)), none⟩,
    ⟨(some 34), .val (.load (some 3) (.t 6)), none⟩,
    ⟨(some 35), .val (.load (some 7) (.t 7)), none⟩,
    ⟨(some 36), .val (.load (some 8) (.t 8)), none⟩,
    ⟨(some 37), .callF (.f 112) [(.t 33), (.t 34), (.t 35), (.t 36)], none⟩,
    ⟨(some 38), .val (.ext (.t 37) 0), none⟩,
    ⟨(some 39), .val (.ext (.t 37) 1), none⟩,
    ⟨none, .store 7 (.t 10) (.t 38), none⟩,
    ⟨(some 11), .val (.mov (.t 39)), none⟩]
def g94_7 : List Am.Item := [
    ⟨(some 41), .val (.mov (.t 4)), none⟩,
    ⟨(some 42), .val (.load (some 8) (.t 8)), none⟩,
    ⟨(some 43), .call (.f 11) [(.t 42)], none⟩,
    ⟨(some 44), .val (.bin .num .neq (.t 41) (.t 43)), none⟩,
    ⟨(some 40), .val (.mov (.t 44)), none⟩]
def g94_8 : List Am.Item := [
    ⟨(some 45), .val (.load (some 7) (.t 7)), none⟩,
    ⟨none, .store 7 (.t 10) (.t 45), none⟩,
    ⟨(some 11), .val (.mov (.c (.int .i64 13))), none⟩]
def g94_9 : List Am.Item := [
    ⟨(some 47), .val (.faddr 5 (.t 8)), none⟩,
    ⟨(some 48), .val (.load none (.t 47)), none⟩,
    ⟨(some 49), .val (.bin .num .eql (.t 48) (.c (.int .i64 10))), none⟩,
    ⟨(some 46), .val (.mov (.t 49)), none⟩]
def g94_10 : List Am.Item := [
    ⟨(some 50), .val (.mov (.t 0)), none⟩,
    ⟨(some 51), .val (.load (some 3) (.t 6)), none⟩,
    ⟨(some 52), .val (.load (some 7) (.t 7)), none⟩,
    ⟨(some 53), .val (.load (some 8) (.t 8)), none⟩,
    ⟨(some 54), .callF (.f 113) [(.t 50), (.t 51), (.t 52), (.t 53)], none⟩,
    ⟨(some 55), .val (.ext (.t 54) 0), none⟩,
    ⟨(some 56), .val (.ext (.t 54) 1), none⟩,
    ⟨none, .store 7 (.t 10) (.t 55), none⟩,
    ⟨(some 11), .val (.mov (.t 56)), none⟩]
def g94_11 : List Am.Item := [
    ⟨(some 57), .val (.mov (.t 0)), none⟩,
    ⟨(some 58), .val (.load (some 3) (.t 6)), none⟩,
    ⟨(some 59), .val (.load (some 7) (.t 7)), none⟩,
    ⟨(some 60), .val (.load (some 8) (.t 8)), none⟩,
    ⟨(some 61), .callF (.f 114) [(.t 57), (.t 58), (.t 59), (.t 60)], none⟩,
    ⟨(some 62), .val (.ext (.t 61) 0), none⟩,
    ⟨(some 63), .val (.ext (.t 61) 1), none⟩,
    ⟨none, .store 7 (.t 10) (.t 62), none⟩,
    ⟨(some 11), .val (.mov (.t 63)), none⟩]
def r94 : RC := .seq (.reg g94_0) (.seq (.block 0 (.seq (.reg g94_1) (.cond (.t 12) (.seq (.seq (.reg g94_2) (.cond (.t 17) (.seq (.reg g94_3) (.ret)) (.skip))) (.seq (.reg g94_4) (.ret))) (.seq (.reg g94_5) (.cond (.t 26) (.seq (.reg g94_6) (.ret)) (.seq (.reg g94_7) (.cond (.t 40) (.seq (.reg g94_8) (.ret)) (.seq (.reg g94_9) (.cond (.t 46) (.seq (.reg g94_10) (.ret)) (.skip)))))))))) (.seq (.reg g94_11) (.ret)))
def o94 : List RR := [.cell 10 (some 7), .tmp 11]
theorem k94 : chkC Tryz.prog 64 r94 (Tryz.f94.body.getD .skip) = true := by decide +kernel
theorem q94 : chkR Tryz.prog Tryz.f94.results.toList o94 = true := by decide +kernel

/- wireschema/order.Slots -/
def g98_0 : List Am.Item := [
    ⟨(some 2), .val (.mov (.c (.nils))), none⟩]
def g98_1 : List Am.Item := [
    ⟨(some 7), .val (.mov (.t 0)), none⟩,
    ⟨(some 8), .callF (.f 116) [(.t 7)], none⟩,
    ⟨(some 3), .val (.mov (.t 8)), none⟩]
def g98_2 : List Am.Item := [
    ⟨(some 9), .val (.mov (.t 3)), none⟩,
    ⟨(some 10), .callF (.f 117) [(.t 9), (.f 118)], none⟩]
def g98_3 : List Am.Item := [
    ⟨(some 4), .val (.mov (.c (.nils))), none⟩]
def g98_4 : List Am.Item := [
    ⟨(some 11), .val (.mov (.t 3)), none⟩,
    ⟨(some 12), .val (.len 1 (.t 11)), none⟩,
    ⟨(some 13), .val (.mov (.c (.int .i64 0))), none⟩]
def g98_5 : List Am.Item := [
    ⟨(some 14), .val (.bin .num .lss (.t 13) (.t 12)), none⟩]
def g98_6 : List Am.Item := [
    ⟨(some 15), .val (.mov (.t 13)), none⟩,
    ⟨(some 16), .val (.iaddr 8 none (.t 11) (.t 13)), none⟩,
    ⟨(some 17), .val (.load (some 8) (.t 16)), none⟩,
    ⟨(some 6), .allocN 6 [.int .i64 0, .int .i64 0, .int .u64 0, .str [], .nils, .nils, .nils, .nils], none⟩,
    ⟨(some 5), .val (.mov (.t 15)), none⟩,
    ⟨none, .store 8 (.t 6) (.t 17), none⟩]
def g98_7 : List Am.Item := [
    ⟨(some 18), .val (.mov (.t 5)), none⟩,
    ⟨(some 19), .val (.bin .num .add (.t 18) (.c (.int .i64 1))), none⟩,
    ⟨(some 20), .val (.mov (.t 3)), none⟩,
    ⟨(some 21), .val (.len 1 (.t 20)), none⟩,
    ⟨(some 22), .val (.bin .num .eql (.t 19) (.t 21)), none⟩,
    ⟨(some 23), .val (.mov (.t 22)), none⟩,
    ⟨(some 24), .val (.faddr 0 (.t 6)), (some (23, false))⟩,
    ⟨(some 25), .val (.loadv 0 6 none (.t 24)), (some (23, false))⟩,
    ⟨(some 26), .val (.mov (.t 3)), (some (23, false))⟩,
    ⟨(some 27), .val (.mov (.t 5)), (some (23, false))⟩,
    ⟨(some 28), .val (.bin .num .add (.t 27) (.c (.int .i64 1))), (some (23, false))⟩,
    ⟨(some 29), .val (.iaddr 8 none (.t 26) (.t 28)), (some (23, false))⟩,
    ⟨(some 30), .val (.faddr 0 (.t 29)), (some (23, false))⟩,
    ⟨(some 31), .val (.loadr none (.t 30)), (some (23, false))⟩,
    ⟨(some 32), .val (.bin .num .neq (.t 25) (.t 31)), (some (23, false))⟩,
    ⟨(some 33), .val (.pick (.t 23) (.c (.bool true)) (.t 32)), none⟩]
def g98_8 : List Am.Item := [
    ⟨(some 34), .val (.mov (.t 4)), none⟩,
    ⟨(some 35), .val (.load (some 8) (.t 6)), none⟩,
    ⟨(some 36), .bsl 8 1 [.int .i64 0, .int .i64 0, .int .u64 0, .str [], .nils, .nils, .nils, .nils] [(0, 8, (.t 35))], none⟩,
    ⟨(some 37), .app 8 136 61 (.t 34) (.t 36), none⟩,
    ⟨(some 4), .val (.mov (.t 37)), none⟩]
def g98_9 : List Am.Item := [
    ⟨(some 38), .val (.bin .num .add (.t 13) (.c (.int .i64 1))), none⟩,
    ⟨(some 13), .val (.mov (.t 38)), none⟩]
def l98_0 : RC := .gho (.drop 6) (.seq (.reg g98_5) (.seq (.cond (.t 14) (.skip) (.exit 0)) (.seq (.block 1 (.seq (.reg g98_6) (.seq (.draw g98_7) (.cond (.t 33) (.reg g98_8) (.skip))))) (.reg g98_9))))
def g98_10 : List Am.Item := [
    ⟨(some 39), .val (.mov (.t 4)), none⟩,
    ⟨(some 2), .val (.mov (.t 39)), none⟩]
def r98 : RC := .seq (.reg g98_0) (.seq (.reg g98_1) (.seq (.reg g98_2) (.seq (.reg g98_3) (.gho (.vec 4 4 8) (.seq (.seq (.reg g98_4) (.block 0 (.loop l98_0))) (.seq (.reg g98_10) (.ret)))))))
def o98 : List RR := [.tmp 2]
theorem k98 : chkC Tryz.prog 40 r98 (Tryz.f98.body.getD .skip) = true := by decide +kernel
theorem q98 : chkR Tryz.prog Tryz.f98.results.toList o98 = true := by decide +kernel

/- wireschema/plan.Op -/
def g99_0 : List Am.Item := [
    ⟨(some 2), .boxN 2 (.t 0), none⟩,
    ⟨(some 3), .boxN 3 (.t 1), none⟩,
    ⟨(some 4), .allocN 4 [.int .i64 0, .str [], .str [], .int .i64 0, .int .i64 0, .int .i64 0, .int .i64 0, .int .i64 0], none⟩,
    ⟨(some 5), .val (.mov (.c (.bool false))), none⟩]
def g99_1 : List Am.Item := [
    ⟨(some 6), .val (.mkfn (.func 119) [] [(.t 3)]), none⟩,
    ⟨(some 7), .val (.build [.nilf] [(0, 1, (.t 6))]), none⟩,
    ⟨(some 8), .val (.load (some 3) (.t 2)), none⟩,
    ⟨(some 9), .callF (.f 120) [(.t 7), (.t 8)], none⟩,
    ⟨(some 10), .val (.ext (.t 9) 0), none⟩,
    ⟨(some 11), .val (.ext (.t 9) 1), none⟩,
    ⟨none, .store 8 (.t 4) (.t 10), none⟩,
    ⟨(some 5), .val (.mov (.t 11)), none⟩]
def r99 : RC := .seq (.reg g99_0) (.seq (.reg g99_1) (.ret))
def o99 : List RR := [.cell 4 (some 8), .tmp 5]
theorem k99 : chkC Tryz.prog 12 r99 (Tryz.f99.body.getD .skip) = true := by decide +kernel
theorem q99 : chkR Tryz.prog Tryz.f99.results.toList o99 = true := by decide +kernel

/- wireschema/plan.normField -/
def g100_0 : List Am.Item := [
    ⟨(some 3), .boxN 3 (.t 0), none⟩,
    ⟨(some 4), .boxN 4 (.t 1), none⟩,
    ⟨(some 5), .boxN 5 (.t 2), none⟩,
    ⟨(some 6), .allocN 6 [.int .i64 0, .int .u64 0, .str [], .nils, .nils, .nils, .nils], none⟩]
def g100_1 : List Am.Item := [
    ⟨(some 13), .val (.faddr 3 (.t 4)), none⟩,
    ⟨(some 14), .val (.load none (.t 13)), none⟩]
def g100_2 : List Am.Item := [
    ⟨(some 16), .val (.bin .num .eql (.t 14) (.c (.int .i64 4))), none⟩,
    ⟨(some 15), .val (.mov (.t 16)), none⟩]
def g100_3 : List Am.Item := [
    ⟨(some 17), .val (.build [.int .i64 0, .int .u64 0, .str [], .nils, .nils, .nils, .nils] [(0, 1, (.c (.int .i64 11)))]), none⟩,
    ⟨(some 7), .allocN 7 [.int .i64 0, .int .u64 0, .str [], .nils, .nils, .nils, .nils], none⟩,
    ⟨none, .store 7 (.t 7) (.t 17), none⟩]
def g100_4 : List Am.Item := [
    ⟨(some 18), .val (.faddr 3 (.t 5)), none⟩,
    ⟨(some 19), .val (.load none (.t 18)), none⟩,
    ⟨(some 20), .val (.len 1 (.t 19)), none⟩,
    ⟨(some 21), .val (.mov (.c (.int .i64 0))), none⟩]
def g100_5 : List Am.Item := [
    ⟨(some 22), .val (.bin .num .lss (.t 21) (.t 20)), none⟩]
def g100_6 : List Am.Item := [
    ⟨(some 23), .val (.iaddr 7 none (.t 19) (.t 21)), none⟩,
    ⟨(some 24), .val (.load (some 7) (.t 23)), none⟩,
    ⟨(some 9), .allocN 9 [.int .i64 0, .int .u64 0, .str [], .nils, .nils, .nils, .nils], none⟩,
    ⟨none, .store 7 (.t 9) (.t 24), none⟩]
def g100_7 : List Am.Item := [
    ⟨(some 25), .val (.faddr 3 (.t 7)), none⟩,
    ⟨(some 26), .val (.loadv 0 7 none (.t 25)), none⟩,
    ⟨(some 27), .val (.loadv 0 3 (some 2) (.t 3)), none⟩,
    ⟨(some 28), .val (.loadv 0 4 (some 8) (.t 4)), none⟩,
    ⟨(some 29), .val (.loadv 0 9 (some 7) (.t 9)), none⟩,
    ⟨(some 30), .call (.f 121) [(.t 27), (.t 28), (.t 29)], none⟩,
    ⟨(some 31), .bsl 7 1 [.int .i64 0, .int .u64 0, .str [], .nils, .nils, .nils, .nils] [(0, 7, (.t 30))], none⟩,
    ⟨(some 32), .app 7 128 41 (.t 26) (.t 31), none⟩,
    ⟨(some 33), .val (.faddr 3 (.t 7)), none⟩,
    ⟨none, .storev 0 7 1 (.t 33) (.t 32), none⟩]
def g100_8 : List Am.Item := [
    ⟨(some 34), .val (.bin .num .add (.t 21) (.c (.int .i64 1))), none⟩,
    ⟨(some 21), .val (.mov (.t 34)), none⟩]
def l100_0 : RC := .gho (.drop 9) (.seq (.reg g100_5) (.seq (.cond (.t 22) (.skip) (.exit 1)) (.seq (.block 2 (.seq (.reg g100_6) (.draw g100_7))) (.reg g100_8))))
def g100_9 : List Am.Item := [
    ⟨(some 35), .val (.load (some 7) (.t 7)), none⟩,
    ⟨none, .store 7 (.t 6) (.t 35), none⟩]
def g100_10 : List Am.Item := [
    ⟨(some 37), .val (.bin .num .eql (.t 14) (.c (.int .i64 5))), none⟩,
    ⟨(some 36), .val (.mov (.t 37)), none⟩]
def g100_11 : List Am.Item := [
    ⟨(some 38), .val (.build [.int .i64 0, .int .u64 0, .str [], .nils, .nils, .nils, .nils] [(0, 1, (.c (.int .i64 12)))]), none⟩,
    ⟨(some 10), .allocN 10 [.int .i64 0, .int .u64 0, .str [], .nils, .nils, .nils, .nils], none⟩,
    ⟨none, .store 7 (.t 10) (.t 38), none⟩]
def g100_12 : List Am.Item := [
    ⟨(some 39), .val (.faddr 4 (.t 5)), none⟩,
    ⟨(some 40), .val (.load none (.t 39)), none⟩,
    ⟨(some 41), .call (.f 122) [(.t 40)], none⟩,
    ⟨(some 42), .val (.len 1 (.t 41)), none⟩,
    ⟨(some 43), .val (.mov (.c (.int .i64 0))), none⟩]
def g100_13 : List Am.Item := [
    ⟨(some 44), .val (.bin .num .lss (.t 43) (.t 42)), none⟩]
def g100_14 : List Am.Item := [
    ⟨(some 45), .val (.iaddr 14 none (.t 41) (.t 43)), none⟩,
    ⟨(some 46), .val (.load (some 14) (.t 45)), none⟩,
    ⟨(some 12), .allocN 12 [.int .i64 0, .int .u64 0, .str [], .nils, .nils, .nils, .nils, .int .i64 0, .int .u64 0, .str [], .nils, .nils, .nils, .nils], none⟩,
    ⟨none, .store 14 (.t 12) (.t 46), none⟩]
def g100_15 : List Am.Item := [
    ⟨(some 47), .val (.faddr 4 (.t 10)), none⟩,
    ⟨(some 48), .val (.loadv 0 10 none (.t 47)), none⟩,
    ⟨(some 49), .val (.faddr 0 (.t 12)), none⟩,
    ⟨(some 50), .val (.loadv 0 12 (some 7) (.t 49)), none⟩,
    ⟨(some 51), .call (.f 16) [(.t 50)], none⟩,
    ⟨(some 52), .val (.loadv 0 3 (some 2) (.t 3)), none⟩,
    ⟨(some 53), .val (.loadv 0 4 (some 8) (.t 4)), none⟩,
    ⟨(some 54), .val (.faddr 7 (.t 12)), none⟩,
    ⟨(some 55), .val (.loadv 0 12 (some 7) (.t 54)), none⟩,
    ⟨(some 56), .call (.f 121) [(.t 52), (.t 53), (.t 55)], none⟩,
    ⟨(some 57), .val (.build [.int .i64 0, .int .u64 0, .str [], .nils, .nils, .nils, .nils, .int .i64 0, .int .u64 0, .str [], .nils, .nils, .nils, .nils] [(0, 7, (.t 51)), (7, 7, (.t 56))]), none⟩,
    ⟨(some 58), .bsl 14 1 [.int .i64 0, .int .u64 0, .str [], .nils, .nils, .nils, .nils, .int .i64 0, .int .u64 0, .str [], .nils, .nils, .nils, .nils] [(0, 14, (.t 57))], none⟩,
    ⟨(some 59), .app 14 256 121 (.t 48) (.t 58), none⟩,
    ⟨(some 60), .val (.faddr 4 (.t 10)), none⟩,
    ⟨none, .storev 0 10 1 (.t 60) (.t 59), none⟩]
def g100_16 : List Am.Item := [
    ⟨(some 61), .val (.bin .num .add (.t 43) (.c (.int .i64 1))), none⟩,
    ⟨(some 43), .val (.mov (.t 61)), none⟩]
def l100_1 : RC := .gho (.drop 12) (.seq (.reg g100_13) (.seq (.cond (.t 44) (.skip) (.exit 3)) (.seq (.block 4 (.seq (.reg g100_14) (.draw g100_15))) (.reg g100_16))))
def g100_17 : List Am.Item := [
    ⟨(some 62), .val (.load (some 7) (.t 10)), none⟩,
    ⟨none, .store 7 (.t 6) (.t 62), none⟩]
def g100_18 : List Am.Item := [
    ⟨(some 63), .val (.load (some 2) (.t 3)), none⟩,
    ⟨(some 64), .val (.load (some 8) (.t 4)), none⟩,
    ⟨(some 65), .val (.load (some 7) (.t 5)), none⟩,
    ⟨(some 66), .call (.f 121) [(.t 63), (.t 64), (.t 65)], none⟩,
    ⟨none, .store 7 (.t 6) (.t 66), none⟩]
def r100 : RC := .seq (.reg g100_0) (.seq (.seq (.reg g100_1) (.block 0 (.seq (.reg g100_2) (.cond (.t 15) (.seq (.reg g100_3) (.gho (.vecc 7 3 1100 7) (.seq (.seq (.reg g100_4) (.block 1 (.loop l100_0))) (.seq (.reg g100_9) (.ret))))) (.seq (.reg g100_10) (.cond (.t 36) (.seq (.reg g100_11) (.gho (.vecc 10 4 1101 14) (.seq (.seq (.reg g100_12) (.block 3 (.loop l100_1))) (.seq (.reg g100_17) (.ret))))) (.skip))))))) (.seq (.reg g100_18) (.ret)))
def o100 : List RR := [.cell 6 (some 7)]
theorem k100 : chkC Tryz.prog 67 r100 (Tryz.f100.body.getD .skip) = true := by decide +kernel
theorem q100 : chkR Tryz.prog Tryz.f100.results.toList o100 = true := by decide +kernel

/- wireschema/plan.Empty -/
def g101_0 : List Am.Item := [
    ⟨(some 1), .boxN 1 (.t 0), none⟩,
    ⟨(some 2), .val (.mov (.c (.bool false))), none⟩]
def g101_1 : List Am.Item := [
    ⟨(some 3), .val (.faddr 0 (.t 1)), none⟩,
    ⟨(some 4), .val (.load none (.t 3)), none⟩,
    ⟨(some 5), .val (.bin .num .eql (.t 4) (.c (.int .i64 11))), none⟩,
    ⟨(some 6), .val (.mov (.t 5)), none⟩,
    ⟨(some 7), .val (.faddr 3 (.t 1)), (some (6, true))⟩,
    ⟨(some 8), .val (.load none (.t 7)), (some (6, true))⟩,
    ⟨(some 9), .val (.len 1 (.t 8)), (some (6, true))⟩,
    ⟨(some 10), .val (.bin .num .eql (.t 9) (.c (.int .i64 0))), (some (6, true))⟩,
    ⟨(some 11), .val (.pick (.t 6) (.t 10) (.c (.bool false))), none⟩,
    ⟨(some 12), .val (.mov (.t 11)), none⟩,
    ⟨(some 13), .val (.faddr 0 (.t 1)), (some (12, false))⟩,
    ⟨(some 14), .val (.load none (.t 13)), (some (12, false))⟩,
    ⟨(some 15), .val (.bin .num .eql (.t 14) (.c (.int .i64 12))), (some (12, false))⟩,
    ⟨(some 16), .val (.mov (.t 15)), (some (12, false))⟩,
    ⟨(some 17), .val (.faddr 4 (.t 1)), (some (16, true))⟩,
    ⟨(some 18), .val (.load none (.t 17)), (some (16, true))⟩,
    ⟨(some 19), .val (.len 1 (.t 18)), (some (16, true))⟩,
    ⟨(some 20), .val (.bin .num .eql (.t 19) (.c (.int .i64 0))), (some (16, true))⟩,
    ⟨(some 21), .val (.pick (.t 16) (.t 20) (.c (.bool false))), (some (12, false))⟩,
    ⟨(some 22), .val (.pick (.t 12) (.c (.bool true)) (.t 21)), none⟩,
    ⟨(some 23), .val (.mov (.t 22)), none⟩,
    ⟨(some 24), .val (.load (some 7) (.t 1)), (some (23, false))⟩,
    ⟨(some 25), .call (.f 123) [(.t 24)], (some (23, false))⟩,
    ⟨(some 26), .val (.pick (.t 23) (.c (.bool true)) (.t 25)), none⟩,
    ⟨(some 2), .val (.mov (.t 26)), none⟩]
def r101 : RC := .seq (.reg g101_0) (.seq (.reg g101_1) (.ret))
def o101 : List RR := [.tmp 2]
theorem k101 : chkC Tryz.prog 27 r101 (Tryz.f101.body.getD .skip) = true := by decide +kernel
theorem q101 : chkR Tryz.prog Tryz.f101.results.toList o101 = true := by decide +kernel

/- slices.insertionSortCmpFunc[wireschema/api.Raw] -/
def g147_0 : List Am.Item := [
    ⟨(some 10), .val (.mov (.t 1)), none⟩,
    ⟨(some 11), .val (.bin .num .add (.t 10) (.c (.int .i64 1))), none⟩,
    ⟨(some 8), .val (.mov (.t 11)), none⟩]
def g147_1 : List Am.Item := [
    ⟨(some 12), .val (.mov (.t 8)), none⟩,
    ⟨(some 13), .val (.mov (.t 2)), none⟩,
    ⟨(some 14), .val (.bin .num .lss (.t 12) (.t 13)), none⟩]
def g147_3 : List Am.Item := [
    ⟨(some 17), .val (.mov (.t 8)), none⟩,
    ⟨(some 9), .val (.mov (.t 17)), none⟩]
def g147_4 : List Am.Item := [
    ⟨(some 18), .val (.mov (.t 9)), none⟩,
    ⟨(some 19), .val (.mov (.t 1)), none⟩,
    ⟨(some 20), .val (.bin .num .gtr (.t 18) (.t 19)), none⟩,
    ⟨(some 21), .val (.mov (.t 20)), none⟩,
    ⟨(some 22), .val (.mov (.t 3)), (some (21, true))⟩,
    ⟨(some 23), .val (.mov (.t 0)), (some (21, true))⟩,
    ⟨(some 24), .val (.mov (.t 9)), (some (21, true))⟩,
    ⟨(some 25), .val (.iaddr 4 none (.t 23) (.t 24)), (some (21, true))⟩,
    ⟨(some 26), .val (.loadr (some 4) (.t 25)), (some (21, true))⟩,
    ⟨(some 27), .val (.mov (.t 0)), (some (21, true))⟩,
    ⟨(some 28), .val (.mov (.t 9)), (some (21, true))⟩,
    ⟨(some 29), .val (.bin .num .sub (.t 28) (.c (.int .i64 1))), (some (21, true))⟩,
    ⟨(some 30), .val (.iaddr 4 none (.t 27) (.t 29)), (some (21, true))⟩,
    ⟨(some 31), .val (.loadr (some 4) (.t 30)), (some (21, true))⟩,
    ⟨(some 32), .call (.t 22) [(.t 26), (.t 31)], (some (21, true))⟩,
    ⟨(some 33), .val (.bin .num .lss (.t 32) (.c (.int .i64 0))), (some (21, true))⟩,
    ⟨(some 34), .val (.pick (.t 21) (.t 33) (.c (.bool false))), none⟩]
def g147_6 : List Am.Item := [
    ⟨(some 37), .val (.mov (.t 0)), none⟩,
    ⟨(some 38), .val (.mov (.t 9)), none⟩,
    ⟨(some 39), .val (.mov (.t 0)), none⟩,
    ⟨(some 40), .val (.mov (.t 9)), none⟩,
    ⟨(some 41), .val (.bin .num .sub (.t 40) (.c (.int .i64 1))), none⟩,
    ⟨(some 42), .val (.mov (.t 0)), none⟩,
    ⟨(some 43), .val (.mov (.t 9)), none⟩,
    ⟨(some 44), .val (.bin .num .sub (.t 43) (.c (.int .i64 1))), none⟩,
    ⟨(some 45), .val (.iaddr 4 none (.t 42) (.t 44)), none⟩,
    ⟨(some 46), .val (.loadr (some 4) (.t 45)), none⟩,
    ⟨(some 47), .val (.mov (.t 0)), none⟩,
    ⟨(some 48), .val (.mov (.t 9)), none⟩,
    ⟨(some 49), .val (.iaddr 4 none (.t 47) (.t 48)), none⟩,
    ⟨(some 50), .val (.loadr (some 4) (.t 49)), none⟩,
    ⟨(some 51), .val (.iaddr 4 none (.t 37) (.t 38)), none⟩,
    ⟨none, .store 4 (.t 51) (.t 46), none⟩,
    ⟨(some 52), .val (.iaddr 4 none (.t 39) (.t 41)), none⟩,
    ⟨none, .store 4 (.t 52) (.t 50), none⟩]
def g147_5 : List Am.Item := [
    ⟨(some 35), .val (.mov (.t 9)), none⟩,
    ⟨(some 36), .val (.bin .num .sub (.t 35) (.c (.int .i64 1))), none⟩,
    ⟨(some 9), .val (.mov (.t 36)), none⟩]
def l147_0 : RC := .seq (.seq (.draw g147_4) (.cond (.t 34) (.skip) (.exit 2))) (.seq (.block 3 (.draw g147_6)) (.reg g147_5))
def g147_2 : List Am.Item := [
    ⟨(some 15), .val (.mov (.t 8)), none⟩,
    ⟨(some 16), .val (.bin .num .add (.t 15) (.c (.int .i64 1))), none⟩,
    ⟨(some 8), .val (.mov (.t 16)), none⟩]
def l147_1 : RC := .seq (.seq (.reg g147_1) (.cond (.t 14) (.skip) (.exit 0))) (.seq (.block 1 (.seq (.reg g147_3) (.block 2 (.loop l147_0)))) (.reg g147_2))
def r147 : RC := .seq (.reg g147_0) (.block 0 (.loop l147_1))
def o147 : List RR := []
theorem k147 : chkC Tryz.prog 53 r147 (Tryz.f147.body.getD .skip) = true := by decide +kernel
theorem q147 : chkR Tryz.prog Tryz.f147.results.toList o147 = true := by decide +kernel

/- wireschema/cursor.Varint -/
def g110_0 : List Am.Item := [
    ⟨(some 1), .boxN 1 (.t 0), none⟩,
    ⟨(some 2), .val (.mov (.c (.int .u64 0))), none⟩,
    ⟨(some 3), .allocN 3 [.str [], .int .i64 0, .int .i64 0, .int .i64 0, .int .i64 0, .int .i64 0], none⟩,
    ⟨(some 4), .val (.mov (.c (.int .i64 0))), none⟩]
def g110_1 : List Am.Item := [
    ⟨(some 9), .val (.load (some 6) (.t 1)), none⟩,
    ⟨(some 10), .call (.f 127) [(.t 9), (.c (.int .i64 10))], none⟩,
    ⟨(some 11), .call (.f 126) [(.t 10)], none⟩,
    ⟨(some 8), .val (.mov (.t 11)), none⟩,
    ⟨(some 12), .val (.ext (.t 8) 0), none⟩,
    ⟨(some 13), .val (.ext (.t 8) 1), none⟩,
    ⟨(some 14), .val (.ext (.t 8) 2), none⟩,
    ⟨(some 5), .val (.mov (.t 12)), none⟩,
    ⟨(some 6), .val (.mov (.t 13)), none⟩,
    ⟨(some 7), .val (.mov (.t 14)), none⟩]
def g110_2 : List Am.Item := [
    ⟨(some 15), .val (.mov (.t 7)), none⟩,
    ⟨(some 16), .val (.bin .num .neq (.t 15) (.c (.int .i64 0))), none⟩]
def g110_3 : List Am.Item := [
    ⟨(some 17), .val (.loadv 0 1 (some 6) (.t 1)), none⟩,
    ⟨(some 18), .val (.mov (.t 7)), none⟩,
    ⟨(some 2), .val (.mov (.c (.int .u64 0))), none⟩,
    ⟨none, .storev 0 3 6 (.t 3) (.t 17), none⟩,
    ⟨(some 4), .val (.mov (.t 18)), none⟩]
def g110_4 : List Am.Item := [
    ⟨(some 19), .val (.mov (.t 5)), none⟩,
    ⟨(some 20), .val (.load (some 6) (.t 1)), none⟩,
    ⟨(some 21), .val (.mov (.t 6)), none⟩,
    ⟨(some 22), .call (.f 128) [(.t 20), (.t 21)], none⟩,
    ⟨(some 2), .val (.mov (.t 19)), none⟩,
    ⟨none, .store 6 (.t 3) (.t 22), none⟩,
    ⟨(some 4), .val (.mov (.c (.int .i64 0))), none⟩]
def r110 : RC := .seq (.reg g110_0) (.seq (.reg g110_1) (.seq (.seq (.reg g110_2) (.cond (.t 16) (.seq (.draw g110_3) (.ret)) (.skip))) (.seq (.reg g110_4) (.ret))))
def o110 : List RR := [.tmp 2, .cell 3 (some 6), .tmp 4]
theorem k110 : chkC Tryz.prog 23 r110 (Tryz.f110.body.getD .skip) = true := by decide +kernel
theorem q110 : chkR Tryz.prog Tryz.f110.results.toList o110 = true := by decide +kernel

/- wireschema/cursor.Sound -/
def g109_0 : List Am.Item := [
    ⟨(some 1), .boxN 1 (.t 0), none⟩,
    ⟨(some 2), .val (.mov (.c (.bool false))), none⟩]
def g109_1 : List Am.Item := [
    ⟨(some 3), .val (.faddr 1 (.t 1)), none⟩,
    ⟨(some 4), .val (.load none (.t 3)), none⟩,
    ⟨(some 5), .val (.bin .num .geq (.t 4) (.c (.int .i64 0))), none⟩,
    ⟨(some 6), .val (.mov (.t 5)), none⟩,
    ⟨(some 7), .val (.faddr 1 (.t 1)), (some (6, true))⟩,
    ⟨(some 8), .val (.load none (.t 7)), (some (6, true))⟩,
    ⟨(some 9), .val (.faddr 2 (.t 1)), (some (6, true))⟩,
    ⟨(some 10), .val (.load none (.t 9)), (some (6, true))⟩,
    ⟨(some 11), .val (.bin .num .leq (.t 8) (.t 10)), (some (6, true))⟩,
    ⟨(some 12), .val (.pick (.t 6) (.t 11) (.c (.bool false))), none⟩,
    ⟨(some 13), .val (.mov (.t 12)), none⟩,
    ⟨(some 14), .val (.faddr 2 (.t 1)), (some (13, true))⟩,
    ⟨(some 15), .val (.load none (.t 14)), (some (13, true))⟩,
    ⟨(some 16), .val (.faddr 0 (.t 1)), (some (13, true))⟩,
    ⟨(some 17), .val (.load none (.t 16)), (some (13, true))⟩,
    ⟨(some 18), .val (.len 0 (.t 17)), (some (13, true))⟩,
    ⟨(some 19), .val (.bin .num .leq (.t 15) (.t 18)), (some (13, true))⟩,
    ⟨(some 20), .val (.pick (.t 13) (.t 19) (.c (.bool false))), none⟩,
    ⟨(some 2), .val (.mov (.t 20)), none⟩]
def r109 : RC := .seq (.reg g109_0) (.seq (.reg g109_1) (.ret))
def o109 : List RR := [.tmp 2]
theorem k109 : chkC Tryz.prog 21 r109 (Tryz.f109.body.getD .skip) = true := by decide +kernel
theorem q109 : chkR Tryz.prog Tryz.f109.results.toList o109 = true := by decide +kernel

/- wireschema/plan.Packed -/
def g58_0 : List Am.Item := [
    ⟨(some 1), .boxN 1 (.t 0), none⟩,
    ⟨(some 2), .val (.mov (.c (.bool false))), none⟩]
def g58_1 : List Am.Item := [
    ⟨(some 3), .val (.faddr 3 (.t 1)), none⟩,
    ⟨(some 4), .val (.load none (.t 3)), none⟩,
    ⟨(some 5), .val (.bin .num .eql (.t 4) (.c (.int .i64 4))), none⟩,
    ⟨(some 6), .val (.mov (.t 5)), none⟩,
    ⟨(some 7), .val (.faddr 5 (.t 1)), (some (6, true))⟩,
    ⟨(some 8), .val (.load none (.t 7)), (some (6, true))⟩,
    ⟨(some 9), .val (.bin .num .geq (.t 8) (.c (.int .i64 1))), (some (6, true))⟩,
    ⟨(some 10), .val (.mov (.t 9)), (some (6, true))⟩,
    ⟨(some 11), .val (.faddr 5 (.t 1)), (some (10, true))⟩,
    ⟨(some 12), .val (.load none (.t 11)), (some (10, true))⟩,
    ⟨(some 13), .val (.bin .num .leq (.t 12) (.c (.int .i64 6))), (some (10, true))⟩,
    ⟨(some 14), .val (.pick (.t 10) (.t 13) (.c (.bool false))), (some (6, true))⟩,
    ⟨(some 15), .val (.mov (.t 14)), (some (6, true))⟩,
    ⟨(some 16), .val (.faddr 5 (.t 1)), (some (15, false))⟩,
    ⟨(some 17), .val (.load none (.t 16)), (some (15, false))⟩,
    ⟨(some 18), .val (.bin .num .eql (.t 17) (.c (.int .i64 9))), (some (15, false))⟩,
    ⟨(some 19), .val (.pick (.t 15) (.c (.bool true)) (.t 18)), (some (6, true))⟩,
    ⟨(some 20), .val (.pick (.t 6) (.t 19) (.c (.bool false))), none⟩,
    ⟨(some 2), .val (.mov (.t 20)), none⟩]
def r58 : RC := .seq (.reg g58_0) (.seq (.reg g58_1) (.ret))
def o58 : List RR := [.tmp 2]
theorem k58 : chkC Tryz.prog 21 r58 (Tryz.f58.body.getD .skip) = true := by decide +kernel
theorem q58 : chkR Tryz.prog Tryz.f58.results.toList o58 = true := by decide +kernel

/- (*wireschema/tagdec.reader).pack -/
def g112_0 : List Am.Item := [
    ⟨(some 5), .boxN 5 (.t 1), none⟩,
    ⟨(some 6), .boxN 6 (.t 2), none⟩,
    ⟨(some 7), .boxN 7 (.t 3), none⟩,
    ⟨(some 8), .allocN 8 [.int .i64 0, .int .u64 0, .str [], .nils, .nils, .nils, .nils], none⟩,
    ⟨(some 9), .val (.mov (.c (.int .i64 0))), none⟩]
def g112_1 : List Am.Item := [
    ⟨(some 19), .val (.mov (.t 0)), none⟩,
    ⟨(some 20), .callF (.f 129) [(.t 19)], none⟩,
    ⟨(some 18), .val (.mov (.t 20)), none⟩,
    ⟨(some 21), .val (.ext (.t 18) 0), none⟩,
    ⟨(some 22), .val (.ext (.t 18) 1), none⟩,
    ⟨(some 10), .val (.mov (.t 21)), none⟩,
    ⟨(some 11), .val (.mov (.t 22)), none⟩]
def g112_2 : List Am.Item := [
    ⟨(some 23), .val (.mov (.t 11)), none⟩,
    ⟨(some 24), .val (.bin .num .neq (.t 23) (.c (.int .i64 0))), none⟩]
def g112_3 : List Am.Item := [
    ⟨(some 25), .val (.load (some 7) (.t 6)), none⟩,
    ⟨(some 26), .val (.mov (.t 11)), none⟩,
    ⟨none, .store 7 (.t 8) (.t 25), none⟩,
    ⟨(some 9), .val (.mov (.t 26)), none⟩]
def g112_4 : List Am.Item := [
    ⟨(some 27), .val (.mov (.t 0)), none⟩,
    ⟨(some 28), .val (.mov (.t 10)), none⟩,
    ⟨(some 29), .callF (.f 130) [(.t 27), (.t 28)], none⟩,
    ⟨(some 12), .allocN 12 [.str [], .int .i64 0, .int .i64 0, .int .i64 0, .int .i64 0, .int .i64 0], none⟩,
    ⟨none, .store 6 (.t 12) (.t 29), none⟩]
def g112_5 : List Am.Item := [
    ⟨(some 31), .val (.mov (.t 0)), none⟩,
    ⟨(some 32), .val (.nilck (.t 31)), none⟩,
    ⟨(some 33), .val (.faddr 2 (.t 32)), none⟩,
    ⟨(some 34), .val (.load (some 6) (.t 33)), none⟩,
    ⟨(some 35), .call (.f 134) [(.t 34)], none⟩,
    ⟨(some 30), .val (.mov (.t 35)), none⟩,
    ⟨(some 36), .val (.ext (.t 30) 0), none⟩,
    ⟨(some 37), .val (.ext (.t 30) 1), none⟩,
    ⟨(some 38), .val (.ext (.t 30) 2), none⟩,
    ⟨(some 14), .allocN 14 [.str [], .int .i64 0, .int .i64 0, .int .i64 0, .int .i64 0, .int .i64 0], none⟩,
    ⟨(some 13), .val (.mov (.t 36)), none⟩,
    ⟨none, .store 6 (.t 14) (.t 37), none⟩,
    ⟨(some 11), .val (.mov (.t 38)), none⟩]
def g112_6 : List Am.Item := [
    ⟨(some 39), .val (.mov (.t 11)), none⟩,
    ⟨(some 40), .val (.bin .num .neq (.t 39) (.c (.int .i64 0))), none⟩]
def g112_7 : List Am.Item := [
    ⟨(some 41), .val (.load (some 7) (.t 6)), none⟩,
    ⟨(some 42), .val (.mov (.t 11)), none⟩,
    ⟨none, .store 7 (.t 8) (.t 41), none⟩,
    ⟨(some 9), .val (.mov (.t 42)), none⟩]
def g112_8 : List Am.Item := [
    ⟨(some 43), .val (.mov (.t 0)), none⟩,
    ⟨(some 44), .val (.load (some 6) (.t 14)), none⟩,
    ⟨(some 45), .val (.nilck (.t 43)), none⟩,
    ⟨(some 46), .val (.faddr 2 (.t 45)), none⟩,
    ⟨none, .store 6 (.t 46) (.t 44), none⟩]
def g112_9 : List Am.Item := [
    ⟨(some 47), .val (.mov (.t 13)), none⟩,
    ⟨(some 48), .val (.cvi .i64 (.t 47)), none⟩,
    ⟨(some 49), .val (.load (some 8) (.t 7)), none⟩,
    ⟨(some 50), .call (.f 11) [(.t 49)], none⟩,
    ⟨(some 51), .val (.bin .num .neq (.t 48) (.t 50)), none⟩]
def g112_10 : List Am.Item := [
    ⟨(some 52), .val (.load (some 7) (.t 6)), none⟩,
    ⟨none, .store 7 (.t 8) (.t 52), none⟩,
    ⟨(some 9), .val (.mov (.c (.int .i64 13))), none⟩]
def g112_11 : List Am.Item := [
    ⟨(some 54), .val (.load (some 7) (.t 6)), none⟩,
    ⟨(some 55), .val (.faddr 0 (.t 7)), none⟩,
    ⟨(some 56), .val (.load none (.t 55)), none⟩,
    ⟨(some 57), .call (.f 76) [(.t 54), (.t 56)], none⟩,
    ⟨(some 53), .val (.mov (.t 57)), none⟩,
    ⟨(some 58), .val (.ext (.t 53) 0), none⟩,
    ⟨(some 59), .val (.ext (.t 53) 1), none⟩,
    ⟨(some 15), .allocN 15 [.int .i64 0, .int .u64 0, .str [], .nils, .nils, .nils, .nils], none⟩,
    ⟨none, .store 7 (.t 15) (.t 58), none⟩,
    ⟨(some 16), .val (.mov (.t 59)), none⟩]
def g112_12 : List Am.Item := [
    ⟨(some 60), .val (.mov (.t 16)), none⟩,
    ⟨(some 61), .val (.un .not (.t 60)), none⟩]
def g112_13 : List Am.Item := [
    ⟨(some 62), .val (.mov (.t 0)), none⟩,
    ⟨(some 63), .callF (.f 71) [(.t 62), (.c (.int .i64 1))], none⟩,
    ⟨(some 17), .val (.mov (.t 63)), none⟩]
def g112_14 : List Am.Item := [
    ⟨(some 64), .val (.mov (.t 17)), none⟩,
    ⟨(some 65), .val (.bin .num .neq (.t 64) (.c (.int .i64 0))), none⟩]
def g112_15 : List Am.Item := [
    ⟨(some 66), .val (.load (some 7) (.t 6)), none⟩,
    ⟨(some 67), .val (.mov (.t 17)), none⟩,
    ⟨none, .store 7 (.t 8) (.t 66), none⟩,
    ⟨(some 9), .val (.mov (.t 67)), none⟩]
def g112_16 : List Am.Item := [
    ⟨(some 68), .val (.load (some 3) (.t 5)), none⟩,
    ⟨(some 69), .val (.load (some 7) (.t 6)), none⟩,
    ⟨(some 70), .val (.load (some 8) (.t 7)), none⟩,
    ⟨(some 71), .val (.build [.int .i64 0, .int .u64 0, .str [], .nils, .nils, .nils, .nils] [(0, 1, (.c (.int .i64 11)))]), none⟩,
    ⟨(some 72), .call (.f 133) [(.t 68), (.t 69), (.t 70), (.t 71)], none⟩,
    ⟨none, .store 7 (.t 6) (.t 72), none⟩]
def g112_17 : List Am.Item := [
    ⟨(some 73), .val (.mov (.t 0)), none⟩,
    ⟨(some 74), .val (.nilck (.t 73)), none⟩,
    ⟨(some 75), .val (.faddr 2 (.t 74)), none⟩,
    ⟨(some 76), .val (.load (some 6) (.t 75)), none⟩,
    ⟨(some 77), .call (.f 92) [(.t 76)], none⟩,
    ⟨(some 78), .val (.bin .num .gtr (.t 77) (.c (.int .i64 0))), none⟩]
def g112_18 : List Am.Item := [
    ⟨(some 80), .val (.mov (.t 0)), none⟩,
    ⟨(some 81), .val (.load (some 3) (.t 5)), none⟩,
    ⟨(some 82), .val (.load (some 7) (.t 6)), none⟩,
    ⟨(some 83), .val (.load (some 8) (.t 7)), none⟩,
    ⟨(some 84), .callF (.f 114) [(.t 80), (.t 81), (.t 82), (.t 83)], none⟩,
    ⟨(some 79), .val (.mov (.t 84)), none⟩,
    ⟨(some 85), .val (.ext (.t 79) 0), none⟩,
    ⟨(some 86), .val (.ext (.t 79) 1), none⟩,
    ⟨none, .store 7 (.t 6) (.t 85), none⟩,
    ⟨(some 11), .val (.mov (.t 86)), none⟩]
def g112_19 : List Am.Item := [
    ⟨(some 87), .val (.mov (.t 11)), none⟩,
    ⟨(some 88), .val (.bin .num .neq (.t 87) (.c (.int .i64 0))), none⟩]
def g112_20 : List Am.Item := [
    ⟨(some 89), .val (.load (some 7) (.t 6)), none⟩,
    ⟨(some 90), .val (.mov (.t 11)), none⟩,
    ⟨none, .store 7 (.t 8) (.t 89), none⟩,
    ⟨(some 9), .val (.mov (.t 90)), none⟩]
def l112_0 : RC := .seq (.seq (.reg g112_17) (.cond (.t 78) (.skip) (.exit 0))) (.block 1 (.seq (.reg g112_18) (.seq (.reg g112_19) (.cond (.t 88) (.seq (.reg g112_20) (.ret)) (.skip)))))
def g112_21 : List Am.Item := [
    ⟨(some 91), .val (.mov (.t 0)), none⟩,
    ⟨(some 92), .val (.load (some 6) (.t 12)), none⟩,
    ⟨(some 93), .callF (.f 132) [(.t 91), (.t 92)], none⟩]
def g112_22 : List Am.Item := [
    ⟨(some 94), .val (.load (some 7) (.t 6)), none⟩,
    ⟨none, .store 7 (.t 8) (.t 94), none⟩,
    ⟨(some 9), .val (.mov (.c (.int .i64 0))), none⟩]
def r112 : RC := .seq (.reg g112_0) (.seq (.reg g112_1) (.seq (.seq (.reg g112_2) (.cond (.t 24) (.seq (.reg g112_3) (.ret)) (.skip))) (.seq (.reg g112_4) (.seq (.reg g112_5) (.seq (.seq (.reg g112_6) (.cond (.t 40) (.seq (.reg g112_7) (.ret)) (.skip))) (.seq (.reg g112_8) (.seq (.seq (.reg g112_9) (.cond (.t 51) (.seq (.reg g112_10) (.ret)) (.skip))) (.seq (.seq (.reg g112_11) (.seq (.reg g112_12) (.cond (.t 61) (.seq (.seq (.reg g112_13) (.seq (.reg g112_14) (.cond (.t 65) (.seq (.reg g112_15) (.ret)) (.skip)))) (.reg g112_16)) (.skip)))) (.seq (.block 0 (.loop l112_0)) (.seq (.reg g112_21) (.seq (.reg g112_22) (.ret))))))))))))
def o112 : List RR := [.cell 8 (some 7), .tmp 9]
theorem k112 : chkC Tryz.prog 95 r112 (Tryz.f112.body.getD .skip) = true := by decide +kernel
theorem q112 : chkR Tryz.prog Tryz.f112.results.toList o112 = true := by decide +kernel

/- wireschema/tagdec.wire -/
def g11_0 : List Am.Item := [
    ⟨(some 1), .boxN 1 (.t 0), none⟩,
    ⟨(some 2), .val (.mov (.c (.int .i64 0))), none⟩]
def g11_1 : List Am.Item := [
    ⟨(some 3), .val (.faddr 3 (.t 1)), none⟩,
    ⟨none, .store 1 (.t 3) (.c (.int .i64 2)), none⟩]
def g11_2 : List Am.Item := [
    ⟨(some 4), .val (.load (some 8) (.t 1)), none⟩,
    ⟨(some 5), .call (.f 35) [(.t 4)], none⟩,
    ⟨(some 2), .val (.mov (.t 5)), none⟩]
def r11 : RC := .seq (.reg g11_0) (.seq (.reg g11_1) (.seq (.reg g11_2) (.ret)))
def o11 : List RR := [.tmp 2]
theorem k11 : chkC Tryz.prog 6 r11 (Tryz.f11.body.getD .skip) = true := by decide +kernel
theorem q11 : chkR Tryz.prog Tryz.f11.results.toList o11 = true := by decide +kernel

/- (*wireschema/tagdec.reader).one -/
def g114_0 : List Am.Item := [
    ⟨(some 5), .boxN 5 (.t 1), none⟩,
    ⟨(some 6), .boxN 6 (.t 2), none⟩,
    ⟨(some 7), .boxN 7 (.t 3), none⟩,
    ⟨(some 8), .allocN 8 [.int .i64 0, .int .u64 0, .str [], .nils, .nils, .nils, .nils], none⟩,
    ⟨(some 9), .val (.mov (.c (.int .i64 0))), none⟩]
def g114_1 : List Am.Item := [
    ⟨(some 17), .val (.mov (.t 0)), none⟩,
    ⟨(some 18), .callF (.f 71) [(.t 17), (.c (.int .i64 1))], none⟩,
    ⟨(some 10), .val (.mov (.t 18)), none⟩]
def g114_2 : List Am.Item := [
    ⟨(some 19), .val (.mov (.t 10)), none⟩,
    ⟨(some 20), .val (.bin .num .neq (.t 19) (.c (.int .i64 0))), none⟩]
def g114_3 : List Am.Item := [
    ⟨(some 21), .val (.load (some 7) (.t 6)), none⟩,
    ⟨(some 22), .val (.mov (.t 10)), none⟩,
    ⟨none, .store 7 (.t 8) (.t 21), none⟩,
    ⟨(some 9), .val (.mov (.t 22)), none⟩]
def g114_4 : List Am.Item := [
    ⟨(some 24), .val (.mov (.t 0)), none⟩,
    ⟨(some 25), .val (.load (some 8) (.t 7)), none⟩,
    ⟨(some 26), .call (.f 11) [(.t 25)], none⟩,
    ⟨(some 27), .callF (.f 137) [(.t 24), (.t 26)], none⟩,
    ⟨(some 23), .val (.mov (.t 27)), none⟩,
    ⟨(some 28), .val (.ext (.t 23) 0), none⟩,
    ⟨(some 29), .val (.ext (.t 23) 1), none⟩,
    ⟨(some 11), .allocN 11 [.int .i64 0, .int .i64 0, .int .u64 0, .str []], none⟩,
    ⟨none, .store 4 (.t 11) (.t 28), none⟩,
    ⟨(some 12), .val (.mov (.t 29)), none⟩]
def g114_5 : List Am.Item := [
    ⟨(some 30), .val (.mov (.t 12)), none⟩,
    ⟨(some 31), .val (.bin .num .neq (.t 30) (.c (.int .i64 0))), none⟩]
def g114_6 : List Am.Item := [
    ⟨(some 32), .val (.load (some 7) (.t 6)), none⟩,
    ⟨(some 33), .val (.mov (.t 12)), none⟩,
    ⟨none, .store 7 (.t 8) (.t 32), none⟩,
    ⟨(some 9), .val (.mov (.t 33)), none⟩]
def g114_7 : List Am.Item := [
    ⟨(some 35), .val (.mov (.t 0)), none⟩,
    ⟨(some 36), .val (.nilck (.t 35)), none⟩,
    ⟨(some 37), .val (.faddr 0 (.t 36)), none⟩,
    ⟨(some 38), .val (.loado (some 2) (.t 37)), none⟩,
    ⟨(some 39), .val (.loadv 0 7 (some 8) (.t 7)), none⟩,
    ⟨(some 40), .val (.loadv 0 11 (some 4) (.t 11)), none⟩,
    ⟨(some 41), .call (.f 5) [(.t 38), (.t 39), (.t 40)], none⟩,
    ⟨(some 34), .val (.mov (.t 41)), none⟩,
    ⟨(some 42), .val (.ext (.t 34) 0), none⟩,
    ⟨(some 43), .val (.ext (.t 34) 1), none⟩,
    ⟨(some 13), .allocN 13 [.int .i64 0, .int .u64 0, .str [], .nils, .nils, .nils, .nils], none⟩,
    ⟨none, .storev 0 13 7 (.t 13) (.t 42), none⟩,
    ⟨(some 12), .val (.mov (.t 43)), none⟩]
def g114_8 : List Am.Item := [
    ⟨(some 44), .val (.mov (.t 12)), none⟩,
    ⟨(some 45), .val (.bin .num .eql (.t 44) (.c (.int .i64 16))), none⟩]
def g114_9 : List Am.Item := [
    ⟨(some 46), .val (.load (some 7) (.t 6)), none⟩,
    ⟨(some 47), .val (.faddr 0 (.t 7)), none⟩,
    ⟨(some 48), .val (.load none (.t 47)), none⟩,
    ⟨(some 49), .val (.faddr 2 (.t 11)), none⟩,
    ⟨(some 50), .val (.load none (.t 49)), none⟩,
    ⟨(some 51), .val (.build [.int .i64 0, .int .i64 0, .int .u64 0, .str []] [(0, 1, (.t 48)), (1, 1, (.c (.int .i64 0))), (2, 1, (.t 50))]), none⟩,
    ⟨(some 52), .call (.f 96) [(.t 46), (.t 51)], none⟩,
    ⟨none, .store 7 (.t 8) (.t 52), none⟩,
    ⟨(some 9), .val (.mov (.c (.int .i64 0))), none⟩]
def g114_10 : List Am.Item := [
    ⟨(some 53), .val (.mov (.t 12)), none⟩,
    ⟨(some 54), .val (.bin .num .neq (.t 53) (.c (.int .i64 0))), none⟩]
def g114_11 : List Am.Item := [
    ⟨(some 55), .val (.load (some 7) (.t 6)), none⟩,
    ⟨(some 56), .val (.mov (.t 12)), none⟩,
    ⟨none, .store 7 (.t 8) (.t 55), none⟩,
    ⟨(some 9), .val (.mov (.t 56)), none⟩]
def g114_12 : List Am.Item := [
    ⟨(some 57), .val (.faddr 3 (.t 7)), none⟩,
    ⟨(some 58), .val (.load none (.t 57)), none⟩,
    ⟨(some 59), .val (.bin .num .neq (.t 58) (.c (.int .i64 4))), none⟩]
def g114_13 : List Am.Item := [
    ⟨(some 60), .val (.load (some 3) (.t 5)), none⟩,
    ⟨(some 61), .val (.load (some 7) (.t 6)), none⟩,
    ⟨(some 62), .val (.load (some 8) (.t 7)), none⟩,
    ⟨(some 63), .val (.load (some 7) (.t 13)), none⟩,
    ⟨(some 64), .call (.f 133) [(.t 60), (.t 61), (.t 62), (.t 63)], none⟩,
    ⟨none, .store 7 (.t 8) (.t 64), none⟩,
    ⟨(some 9), .val (.mov (.c (.int .i64 0))), none⟩]
def g114_14 : List Am.Item := [
    ⟨(some 66), .val (.load (some 7) (.t 6)), none⟩,
    ⟨(some 67), .val (.faddr 0 (.t 7)), none⟩,
    ⟨(some 68), .val (.load none (.t 67)), none⟩,
    ⟨(some 69), .call (.f 76) [(.t 66), (.t 68)], none⟩,
    ⟨(some 65), .val (.mov (.t 69)), none⟩,
    ⟨(some 70), .val (.ext (.t 65) 0), none⟩,
    ⟨(some 71), .val (.ext (.t 65) 1), none⟩,
    ⟨(some 14), .allocN 14 [.int .i64 0, .int .u64 0, .str [], .nils, .nils, .nils, .nils], none⟩,
    ⟨none, .store 7 (.t 14) (.t 70), none⟩,
    ⟨(some 15), .val (.mov (.t 71)), none⟩]
def g114_15 : List Am.Item := [
    ⟨(some 72), .val (.mov (.t 15)), none⟩,
    ⟨(some 73), .val (.un .not (.t 72)), none⟩]
def g114_16 : List Am.Item := [
    ⟨(some 74), .val (.mov (.t 0)), none⟩,
    ⟨(some 75), .callF (.f 71) [(.t 74), (.c (.int .i64 1))], none⟩,
    ⟨(some 16), .val (.mov (.t 75)), none⟩]
def g114_17 : List Am.Item := [
    ⟨(some 76), .val (.mov (.t 16)), none⟩,
    ⟨(some 77), .val (.bin .num .neq (.t 76) (.c (.int .i64 0))), none⟩]
def g114_18 : List Am.Item := [
    ⟨(some 78), .val (.load (some 7) (.t 6)), none⟩,
    ⟨(some 79), .val (.mov (.t 16)), none⟩,
    ⟨none, .store 7 (.t 8) (.t 78), none⟩,
    ⟨(some 9), .val (.mov (.t 79)), none⟩]
def g114_19 : List Am.Item := [
    ⟨(some 80), .val (.loadv 0 5 (some 3) (.t 5)), none⟩,
    ⟨(some 81), .val (.loadv 0 6 (some 7) (.t 6)), none⟩,
    ⟨(some 82), .val (.loadv 0 7 (some 8) (.t 7)), none⟩,
    ⟨(some 83), .val (.loadv 0 14 (some 7) (.t 14)), none⟩,
    ⟨(some 84), .val (.loadv 0 13 (some 7) (.t 13)), none⟩,
    ⟨(some 85), .call (.f 136) [(.t 83), (.t 84)], none⟩,
    ⟨(some 86), .call (.f 133) [(.t 80), (.t 81), (.t 82), (.t 85)], none⟩,
    ⟨none, .storev 0 8 7 (.t 8) (.t 86), none⟩,
    ⟨(some 9), .val (.mov (.c (.int .i64 0))), none⟩]
def r114 : RC := .seq (.reg g114_0) (.seq (.seq (.reg g114_1) (.seq (.reg g114_2) (.cond (.t 20) (.seq (.reg g114_3) (.ret)) (.skip)))) (.seq (.reg g114_4) (.seq (.seq (.reg g114_5) (.cond (.t 31) (.seq (.reg g114_6) (.ret)) (.skip))) (.seq (.draw g114_7) (.seq (.seq (.reg g114_8) (.cond (.t 45) (.seq (.reg g114_9) (.ret)) (.skip))) (.seq (.seq (.reg g114_10) (.cond (.t 54) (.seq (.reg g114_11) (.ret)) (.skip))) (.seq (.seq (.reg g114_12) (.cond (.t 59) (.seq (.reg g114_13) (.ret)) (.skip))) (.seq (.reg g114_14) (.seq (.seq (.reg g114_15) (.cond (.t 73) (.seq (.reg g114_16) (.seq (.reg g114_17) (.cond (.t 77) (.seq (.reg g114_18) (.ret)) (.skip)))) (.skip))) (.seq (.draw g114_19) (.ret)))))))))))
def o114 : List RR := [.cell 8 (some 7), .tmp 9]
theorem k114 : chkC Tryz.prog 87 r114 (Tryz.f114.body.getD .skip) = true := by decide +kernel
theorem q114 : chkR Tryz.prog Tryz.f114.results.toList o114 = true := by decide +kernel

/- slices.Clone[[]wireschema/api.Slot,wireschema/api.Slot] -/
def g116_0 : List Am.Item := [
    ⟨(some 2), .val (.mov (.c (.nils))), none⟩]
def g116_1 : List Am.Item := [
    ⟨(some 3), .val (.mov (.t 0)), none⟩,
    ⟨(some 4), .isnil false (.t 3), none⟩]
def g116_2 : List Am.Item := [
    ⟨(some 2), .val (.mov (.c (.nils))), none⟩]
def g116_3 : List Am.Item := [
    ⟨(some 5), .bsl0 5 8, none⟩,
    ⟨(some 6), .val (.mov (.t 0)), none⟩,
    ⟨(some 7), .app 8 136 61 (.t 5) (.t 6), none⟩,
    ⟨(some 2), .val (.mov (.t 7)), none⟩]
def r116 : RC := .seq (.reg g116_0) (.seq (.seq (.reg g116_1) (.cond (.t 4) (.seq (.reg g116_2) (.gho (.vec 2 2 8) (.gho (.give 2 2 1 1000) (.ret)))) (.skip))) (.seq (.reg g116_3) (.gho (.give 2 5 1 1000) (.ret))))
def o116 : List RR := [.tmp 2]
theorem k116 : chkC Tryz.prog 8 r116 (Tryz.f116.body.getD .skip) = true := by decide +kernel
theorem q116 : chkR Tryz.prog Tryz.f116.results.toList o116 = true := by decide +kernel

/- slices.SortStableFunc[[]wireschema/api.Slot,wireschema/api.Slot] -/
def g117_0 : List Am.Item := [
    ⟨(some 4), .val (.mov (.t 0)), none⟩,
    ⟨(some 5), .val (.mov (.t 0)), none⟩,
    ⟨(some 6), .val (.len 1 (.t 5)), none⟩,
    ⟨(some 7), .val (.mov (.t 1)), none⟩,
    ⟨(some 8), .callF (.f 140) [(.t 4), (.t 6), (.t 7)], none⟩]
def r117 : RC := .reg g117_0
def o117 : List RR := []
theorem k117 : chkC Tryz.prog 9 r117 (Tryz.f117.body.getD .skip) = true := by decide +kernel
theorem q117 : chkR Tryz.prog Tryz.f117.results.toList o117 = true := by decide +kernel

/- wireschema/order.Slots$1 -/
def g118_0 : List Am.Item := [
    ⟨(some 2), .boxN 2 (.t 0), none⟩,
    ⟨(some 3), .boxN 3 (.t 1), none⟩,
    ⟨(some 4), .val (.mov (.c (.int .i64 0))), none⟩]
def g118_1 : List Am.Item := [
    ⟨(some 5), .val (.faddr 0 (.t 2)), none⟩,
    ⟨(some 6), .val (.load none (.t 5)), none⟩,
    ⟨(some 7), .val (.faddr 0 (.t 3)), none⟩,
    ⟨(some 8), .val (.load none (.t 7)), none⟩,
    ⟨(some 9), .call (.f 104) [(.t 6), (.t 8)], none⟩,
    ⟨(some 4), .val (.mov (.t 9)), none⟩]
def r118 : RC := .seq (.reg g118_0) (.seq (.reg g118_1) (.ret))
def o118 : List RR := [.tmp 4]
theorem k118 : chkC Tryz.prog 10 r118 (Tryz.f118.body.getD .skip) = true := by decide +kernel
theorem q118 : chkR Tryz.prog Tryz.f118.results.toList o118 = true := by decide +kernel

/- wireschema/plan.Op$1 -/
def g119_0 : List Am.Item := [
    ⟨(some 2), .boxN 2 (.t 0), none⟩,
    ⟨(some 3), .val (.mov (.c (.bool false))), none⟩]
def g119_1 : List Am.Item := [
    ⟨(some 4), .val (.faddr 0 (.t 2)), none⟩,
    ⟨(some 5), .val (.load none (.t 4)), none⟩,
    ⟨(some 6), .val (.load none (.t 1)), none⟩,
    ⟨(some 7), .val (.bin .num .eql (.t 5) (.t 6)), none⟩,
    ⟨(some 3), .val (.mov (.t 7)), none⟩]
def r119 : RC := .seq (.reg g119_0) (.seq (.reg g119_1) (.ret))
def o119 : List RR := [.tmp 3]
theorem k119 : chkC Tryz.prog 8 r119 (Tryz.f119.body.getD .skip) = true := by decide +kernel
theorem q119 : chkR Tryz.prog Tryz.f119.results.toList o119 = true := by decide +kernel

/- (wireschema/plan.finder).in -/
def g120_0 : List Am.Item := [
    ⟨(some 2), .boxN 2 (.t 0), none⟩,
    ⟨(some 3), .boxN 3 (.t 1), none⟩,
    ⟨(some 4), .allocN 4 [.int .i64 0, .str [], .str [], .int .i64 0, .int .i64 0, .int .i64 0, .int .i64 0, .int .i64 0], none⟩,
    ⟨(some 5), .val (.mov (.c (.bool false))), none⟩]
def g120_1 : List Am.Item := [
    ⟨(some 7), .val (.faddr 1 (.t 3)), none⟩,
    ⟨(some 8), .val (.load none (.t 7)), none⟩,
    ⟨(some 9), .val (.faddr 0 (.t 2)), none⟩,
    ⟨(some 10), .val (.load none (.t 9)), none⟩,
    ⟨(some 11), .callF (.f 141) [(.t 8), (.t 10)], none⟩,
    ⟨(some 6), .val (.mov (.t 11)), none⟩]
def g120_2 : List Am.Item := [
    ⟨(some 12), .val (.mov (.t 6)), none⟩,
    ⟨(some 13), .val (.bin .num .lss (.t 12) (.c (.int .i64 0))), none⟩]
def g120_3 : List Am.Item := [
    ⟨(some 14), .val (.build [.int .i64 0, .str [], .str [], .int .i64 0, .int .i64 0, .int .i64 0, .int .i64 0, .int .i64 0] []), none⟩,
    ⟨none, .store 8 (.t 4) (.t 14), none⟩,
    ⟨(some 5), .val (.mov (.c (.bool false))), none⟩]
def g120_4 : List Am.Item := [
    ⟨(some 15), .val (.faddr 1 (.t 3)), none⟩,
    ⟨(some 16), .val (.load none (.t 15)), none⟩,
    ⟨(some 17), .val (.mov (.t 6)), none⟩,
    ⟨(some 18), .val (.iaddr 8 none (.t 16) (.t 17)), none⟩,
    ⟨(some 19), .val (.load (some 8) (.t 18)), none⟩,
    ⟨none, .store 8 (.t 4) (.t 19), none⟩,
    ⟨(some 5), .val (.mov (.c (.bool true))), none⟩]
def r120 : RC := .seq (.reg g120_0) (.seq (.reg g120_1) (.seq (.seq (.reg g120_2) (.cond (.t 13) (.seq (.reg g120_3) (.ret)) (.skip))) (.seq (.reg g120_4) (.ret))))
def o120 : List RR := [.cell 4 (some 8), .tmp 5]
theorem k120 : chkC Tryz.prog 20 r120 (Tryz.f120.body.getD .skip) = true := by decide +kernel
theorem q120 : chkR Tryz.prog Tryz.f120.results.toList o120 = true := by decide +kernel

/- wireschema/plan.normElem -/
def g121_0 : List Am.Item := [
    ⟨(some 3), .boxN 3 (.t 0), none⟩,
    ⟨(some 4), .boxN 4 (.t 1), none⟩,
    ⟨(some 5), .boxN 5 (.t 2), none⟩,
    ⟨(some 6), .allocN 6 [.int .i64 0, .int .u64 0, .str [], .nils, .nils, .nils, .nils], none⟩]
def g121_1 : List Am.Item := [
    ⟨(some 7), .val (.faddr 5 (.t 4)), none⟩,
    ⟨(some 8), .val (.load none (.t 7)), none⟩,
    ⟨(some 9), .val (.bin .num .eql (.t 8) (.c (.int .i64 10))), none⟩]
def g121_2 : List Am.Item := [
    ⟨(some 10), .val (.load (some 2) (.t 3)), none⟩,
    ⟨(some 11), .val (.faddr 6 (.t 4)), none⟩,
    ⟨(some 12), .val (.load none (.t 11)), none⟩,
    ⟨(some 13), .val (.load (some 7) (.t 5)), none⟩,
    ⟨(some 14), .call (.f 73) [(.t 10), (.t 12), (.t 13)], none⟩,
    ⟨none, .store 7 (.t 6) (.t 14), none⟩]
def g121_3 : List Am.Item := [
    ⟨(some 15), .val (.load (some 7) (.t 5)), none⟩,
    ⟨(some 16), .call (.f 16) [(.t 15)], none⟩,
    ⟨none, .store 7 (.t 6) (.t 16), none⟩]
def r121 : RC := .seq (.reg g121_0) (.seq (.seq (.reg g121_1) (.cond (.t 9) (.seq (.reg g121_2) (.ret)) (.skip))) (.seq (.reg g121_3) (.ret)))
def o121 : List RR := [.cell 6 (some 7)]
theorem k121 : chkC Tryz.prog 17 r121 (Tryz.f121.body.getD .skip) = true := by decide +kernel
theorem q121 : chkR Tryz.prog Tryz.f121.results.toList o121 = true := by decide +kernel

/- wireschema/scalar.Norm -/
def g16_0 : List Am.Item := [
    ⟨(some 1), .boxN 1 (.t 0), none⟩,
    ⟨(some 2), .allocN 2 [.int .i64 0, .int .u64 0, .str [], .nils, .nils, .nils, .nils], none⟩]
def g16_1 : List Am.Item := [
    ⟨(some 3), .val (.faddr 0 (.t 1)), none⟩,
    ⟨(some 4), .val (.load none (.t 3)), none⟩,
    ⟨(some 5), .val (.bin .num .eql (.t 4) (.c (.int .i64 6))), none⟩,
    ⟨(some 6), .val (.mov (.t 5)), none⟩,
    ⟨(some 7), .val (.faddr 1 (.t 1)), (some (6, true))⟩,
    ⟨(some 8), .val (.load none (.t 7)), (some (6, true))⟩,
    ⟨(some 9), .call (.f 41) [(.t 8)], (some (6, true))⟩,
    ⟨(some 10), .val (.bin .num .eql (.t 9) (.c (.int .i64 0))), (some (6, true))⟩,
    ⟨(some 11), .val (.pick (.t 6) (.t 10) (.c (.bool false))), none⟩]
def g16_2 : List Am.Item := [
    ⟨(some 12), .val (.faddr 1 (.t 1)), none⟩,
    ⟨none, .store 1 (.t 12) (.c (.int .u64 9221120237041090560)), none⟩]
def g16_3 : List Am.Item := [
    ⟨(some 13), .val (.load (some 7) (.t 1)), none⟩,
    ⟨none, .store 7 (.t 2) (.t 13), none⟩]
def r16 : RC := .seq (.reg g16_0) (.seq (.seq (.reg g16_1) (.cond (.t 11) (.reg g16_2) (.skip))) (.seq (.reg g16_3) (.ret)))
def o16 : List RR := [.cell 2 (some 7)]
theorem k16 : chkC Tryz.prog 14 r16 (Tryz.f16.body.getD .skip) = true := by decide +kernel
theorem q16 : chkR Tryz.prog Tryz.f16.results.toList o16 = true := by decide +kernel

/- wireschema/scalar.IsZero -/
def g123_0 : List Am.Item := [
    ⟨(some 1), .boxN 1 (.t 0), none⟩,
    ⟨(some 2), .val (.mov (.c (.bool false))), none⟩]
def g123_1 : List Am.Item := [
    ⟨(some 3), .val (.faddr 0 (.t 1)), none⟩,
    ⟨(some 4), .val (.load none (.t 3)), none⟩,
    ⟨(some 5), .call (.f 10) [(.t 4)], none⟩,
    ⟨(some 6), .val (.mov (.t 5)), none⟩,
    ⟨(some 7), .val (.load (some 7) (.t 1)), (some (6, true))⟩,
    ⟨(some 8), .call (.f 37) [(.t 7)], (some (6, true))⟩,
    ⟨(some 9), .val (.pick (.t 6) (.t 8) (.c (.bool false))), none⟩,
    ⟨(some 10), .val (.mov (.t 9)), none⟩,
    ⟨(some 11), .val (.faddr 1 (.t 1)), (some (10, true))⟩,
    ⟨(some 12), .val (.load none (.t 11)), (some (10, true))⟩,
    ⟨(some 13), .val (.bin .num .eql (.t 12) (.c (.int .u64 0))), (some (10, true))⟩,
    ⟨(some 14), .val (.pick (.t 10) (.t 13) (.c (.bool false))), none⟩,
    ⟨(some 15), .val (.mov (.t 14)), none⟩,
    ⟨(some 16), .val (.faddr 2 (.t 1)), (some (15, true))⟩,
    ⟨(some 17), .val (.load none (.t 16)), (some (15, true))⟩,
    ⟨(some 18), .val (.bin .str .eql (.t 17) (.c (.str []))), (some (15, true))⟩,
    ⟨(some 19), .val (.pick (.t 15) (.t 18) (.c (.bool false))), none⟩,
    ⟨(some 2), .val (.mov (.t 19)), none⟩]
def r123 : RC := .seq (.reg g123_0) (.seq (.reg g123_1) (.ret))
def o123 : List RR := [.tmp 2]
theorem k123 : chkC Tryz.prog 20 r123 (Tryz.f123.body.getD .skip) = true := by decide +kernel
theorem q123 : chkR Tryz.prog Tryz.f123.results.toList o123 = true := by decide +kernel

/- wireschema/varint.Take -/
def g126_0 : List Am.Item := [
    ⟨(some 2), .val (.mov (.c (.int .u64 0))), none⟩,
    ⟨(some 3), .val (.mov (.c (.int .i64 0))), none⟩,
    ⟨(some 4), .val (.mov (.c (.int .i64 0))), none⟩]
def g126_1 : List Am.Item := [
    ⟨(some 5), .val (.mov (.c (.int .u64 0))), none⟩]
def g126_2 : List Am.Item := [
    ⟨(some 6), .val (.mov (.c (.int .i64 0))), none⟩]
def g126_3 : List Am.Item := [
    ⟨(some 8), .val (.mov (.t 6)), none⟩,
    ⟨(some 9), .val (.mov (.t 0)), none⟩,
    ⟨(some 10), .val (.len 0 (.t 9)), none⟩,
    ⟨(some 11), .val (.bin .num .eql (.t 8) (.t 10)), none⟩]
def g126_4 : List Am.Item := [
    ⟨(some 2), .val (.mov (.c (.int .u64 0))), none⟩,
    ⟨(some 3), .val (.mov (.c (.int .i64 0))), none⟩,
    ⟨(some 4), .val (.mov (.c (.int .i64 4))), none⟩]
def g126_5 : List Am.Item := [
    ⟨(some 12), .val (.mov (.t 0)), none⟩,
    ⟨(some 13), .val (.mov (.t 6)), none⟩,
    ⟨(some 14), .val (.idx (.t 12) (.t 13)), none⟩,
    ⟨(some 7), .val (.mov (.t 14)), none⟩]
def g126_6 : List Am.Item := [
    ⟨(some 15), .val (.mov (.t 6)), none⟩,
    ⟨(some 16), .val (.bin .num .eql (.t 15) (.c (.int .i64 9))), none⟩,
    ⟨(some 17), .val (.mov (.t 16)), none⟩,
    ⟨(some 18), .val (.mov (.t 7)), (some (17, true))⟩,
    ⟨(some 19), .val (.bin .num .gtr (.t 18) (.c (.int .u8 1))), (some (17, true))⟩,
    ⟨(some 20), .val (.pick (.t 17) (.t 19) (.c (.bool false))), none⟩]
def g126_7 : List Am.Item := [
    ⟨(some 2), .val (.mov (.c (.int .u64 0))), none⟩,
    ⟨(some 3), .val (.mov (.c (.int .i64 0))), none⟩,
    ⟨(some 4), .val (.mov (.c (.int .i64 6))), none⟩]
def g126_8 : List Am.Item := [
    ⟨(some 21), .val (.mov (.t 5)), none⟩,
    ⟨(some 22), .val (.mov (.t 7)), none⟩,
    ⟨(some 23), .val (.bin .num .and (.t 22) (.c (.int .u8 127))), none⟩,
    ⟨(some 24), .val (.cvi .u64 (.t 23)), none⟩,
    ⟨(some 25), .val (.mov (.t 6)), none⟩,
    ⟨(some 26), .val (.bin .num .mul (.c (.int .i64 7)) (.t 25)), none⟩,
    ⟨(some 27), .val (.bin .num .shl (.t 24) (.t 26)), none⟩,
    ⟨(some 28), .val (.bin .num .or (.t 21) (.t 27)), none⟩,
    ⟨(some 5), .val (.mov (.t 28)), none⟩]
def g126_9 : List Am.Item := [
    ⟨(some 29), .val (.mov (.t 6)), none⟩,
    ⟨(some 30), .val (.bin .num .add (.t 29) (.c (.int .i64 1))), none⟩,
    ⟨(some 6), .val (.mov (.t 30)), none⟩]
def g126_10 : List Am.Item := [
    ⟨(some 32), .val (.mov (.t 7)), none⟩,
    ⟨(some 33), .val (.bin .num .lss (.t 32) (.c (.int .u8 128))), none⟩,
    ⟨(some 31), .val (.mov (.t 33)), none⟩]
def l126_0 : RC := .block 1 (.seq (.seq (.reg g126_3) (.cond (.t 11) (.seq (.reg g126_4) (.ret)) (.skip))) (.seq (.reg g126_5) (.seq (.seq (.reg g126_6) (.cond (.t 20) (.seq (.reg g126_7) (.ret)) (.skip))) (.seq (.reg g126_8) (.seq (.reg g126_9) (.block 2 (.seq (.reg g126_10) (.cond (.t 31) (.exit 0) (.skip)))))))))
def g126_11 : List Am.Item := [
    ⟨(some 34), .val (.mov (.t 5)), none⟩,
    ⟨(some 35), .val (.mov (.t 6)), none⟩,
    ⟨(some 2), .val (.mov (.t 34)), none⟩,
    ⟨(some 3), .val (.mov (.t 35)), none⟩,
    ⟨(some 4), .val (.mov (.c (.int .i64 0))), none⟩]
def r126 : RC := .seq (.reg g126_0) (.scope (.seq (.reg g126_1) (.seq (.reg g126_2) (.seq (.lab) (.seq (.block 0 (.loop l126_0)) (.seq (.reg g126_11) (.ret)))))))
def o126 : List RR := [.tmp 2, .tmp 3, .tmp 4]
theorem k126 : chkC Tryz.prog 36 r126 (Tryz.f126.body.getD .skip) = true := by decide +kernel
theorem q126 : chkR Tryz.prog Tryz.f126.results.toList o126 = true := by decide +kernel

/- wireschema/cursor.head -/
def g127_0 : List Am.Item := [
    ⟨(some 2), .boxN 2 (.t 0), none⟩,
    ⟨(some 4), .val (.mov (.c (.str []))), none⟩]
def g127_1 : List Am.Item := [
    ⟨(some 5), .val (.load (some 6) (.t 2)), none⟩,
    ⟨(some 6), .call (.f 109) [(.t 5)], none⟩,
    ⟨(some 7), .val (.un .not (.t 6)), none⟩]
def g127_2 : List Am.Item := [
    ⟨(some 4), .val (.mov (.c (.str []))), none⟩]
def g127_3 : List Am.Item := [
    ⟨(some 8), .val (.faddr 0 (.t 2)), none⟩,
    ⟨(some 9), .val (.load none (.t 8)), none⟩,
    ⟨(some 10), .val (.faddr 1 (.t 2)), none⟩,
    ⟨(some 11), .val (.load none (.t 10)), none⟩,
    ⟨(some 12), .val (.faddr 2 (.t 2)), none⟩,
    ⟨(some 13), .val (.load none (.t 12)), none⟩,
    ⟨(some 14), .val (.faddr 1 (.t 2)), none⟩,
    ⟨(some 15), .val (.load none (.t 14)), none⟩,
    ⟨(some 16), .val (.mov (.t 1)), none⟩,
    ⟨(some 17), .val (.bin .num .add (.t 15) (.t 16)), none⟩,
    ⟨(some 18), .val (.mnx false (.t 13) (.t 17)), none⟩,
    ⟨(some 19), .val (.slc none (.t 9) (some (.t 11)) (some (.t 18)) none), none⟩,
    ⟨(some 4), .val (.mov (.t 19)), none⟩]
def r127 : RC := .seq (.reg g127_0) (.seq (.seq (.reg g127_1) (.cond (.t 7) (.seq (.reg g127_2) (.ret)) (.skip))) (.seq (.reg g127_3) (.ret)))
def o127 : List RR := [.tmp 4]
theorem k127 : chkC Tryz.prog 20 r127 (Tryz.f127.body.getD .skip) = true := by decide +kernel
theorem q127 : chkR Tryz.prog Tryz.f127.results.toList o127 = true := by decide +kernel

/- wireschema/cursor.ahead -/
def g128_0 : List Am.Item := [
    ⟨(some 2), .boxN 2 (.t 0), none⟩,
    ⟨(some 4), .allocN 4 [.str [], .int .i64 0, .int .i64 0, .int .i64 0, .int .i64 0, .int .i64 0], none⟩]
def g128_1 : List Am.Item := [
    ⟨(some 5), .val (.faddr 1 (.t 2)), none⟩,
    ⟨(some 6), .val (.load none (.t 5)), none⟩,
    ⟨(some 7), .val (.mov (.t 1)), none⟩,
    ⟨(some 8), .val (.bin .num .add (.t 6) (.t 7)), none⟩,
    ⟨(some 9), .val (.faddr 1 (.t 2)), none⟩,
    ⟨none, .store 1 (.t 9) (.t 8), none⟩]
def g128_2 : List Am.Item := [
    ⟨(some 10), .val (.load (some 6) (.t 2)), none⟩,
    ⟨none, .store 6 (.t 4) (.t 10), none⟩]
def r128 : RC := .seq (.reg g128_0) (.seq (.reg g128_1) (.seq (.reg g128_2) (.ret)))
def o128 : List RR := [.cell 4 (some 6)]
theorem k128 : chkC Tryz.prog 11 r128 (Tryz.f128.body.getD .skip) = true := by decide +kernel
theorem q128 : chkR Tryz.prog Tryz.f128.results.toList o128 = true := by decide +kernel

/- (*wireschema/tagdec.reader).length -/
def g129_0 : List Am.Item := [
    ⟨(some 2), .val (.mov (.c (.int .i64 0))), none⟩,
    ⟨(some 3), .val (.mov (.c (.int .i64 0))), none⟩]
def g129_1 : List Am.Item := [
    ⟨(some 8), .val (.mov (.t 0)), none⟩,
    ⟨(some 9), .val (.nilck (.t 8)), none⟩,
    ⟨(some 10), .val (.faddr 2 (.t 9)), none⟩,
    ⟨(some 11), .val (.load (some 6) (.t 10)), none⟩,
    ⟨(some 12), .call (.f 110) [(.t 11)], none⟩,
    ⟨(some 7), .val (.mov (.t 12)), none⟩,
    ⟨(some 13), .val (.ext (.t 7) 0), none⟩,
    ⟨(some 14), .val (.ext (.t 7) 1), none⟩,
    ⟨(some 15), .val (.ext (.t 7) 2), none⟩,
    ⟨(some 5), .allocN 5 [.str [], .int .i64 0, .int .i64 0, .int .i64 0, .int .i64 0, .int .i64 0], none⟩,
    ⟨(some 4), .val (.mov (.t 13)), none⟩,
    ⟨none, .store 6 (.t 5) (.t 14), none⟩,
    ⟨(some 6), .val (.mov (.t 15)), none⟩]
def g129_2 : List Am.Item := [
    ⟨(some 16), .val (.mov (.t 6)), none⟩,
    ⟨(some 17), .val (.bin .num .neq (.t 16) (.c (.int .i64 0))), none⟩]
def g129_3 : List Am.Item := [
    ⟨(some 18), .val (.mov (.t 6)), none⟩,
    ⟨(some 2), .val (.mov (.c (.int .i64 0))), none⟩,
    ⟨(some 3), .val (.mov (.t 18)), none⟩]
def g129_4 : List Am.Item := [
    ⟨(some 19), .val (.mov (.t 4)), none⟩,
    ⟨(some 20), .val (.load (some 6) (.t 5)), none⟩,
    ⟨(some 21), .call (.f 92) [(.t 20)], none⟩,
    ⟨(some 22), .val (.cvi .u64 (.t 21)), none⟩,
    ⟨(some 23), .val (.bin .num .gtr (.t 19) (.t 22)), none⟩]
def g129_5 : List Am.Item := [
    ⟨(some 2), .val (.mov (.c (.int .i64 0))), none⟩,
    ⟨(some 3), .val (.mov (.c (.int .i64 4))), none⟩]
def g129_6 : List Am.Item := [
    ⟨(some 24), .val (.mov (.t 0)), none⟩,
    ⟨(some 25), .val (.load (some 6) (.t 5)), none⟩,
    ⟨(some 26), .val (.nilck (.t 24)), none⟩,
    ⟨(some 27), .val (.faddr 2 (.t 26)), none⟩,
    ⟨none, .store 6 (.t 27) (.t 25), none⟩]
def g129_7 : List Am.Item := [
    ⟨(some 28), .val (.mov (.t 4)), none⟩,
    ⟨(some 29), .val (.cvi .i64 (.t 28)), none⟩,
    ⟨(some 2), .val (.mov (.t 29)), none⟩,
    ⟨(some 3), .val (.mov (.c (.int .i64 0))), none⟩]
def r129 : RC := .seq (.reg g129_0) (.seq (.reg g129_1) (.seq (.seq (.reg g129_2) (.cond (.t 17) (.seq (.reg g129_3) (.ret)) (.skip))) (.seq (.seq (.reg g129_4) (.cond (.t 23) (.seq (.reg g129_5) (.ret)) (.skip))) (.seq (.reg g129_6) (.seq (.reg g129_7) (.ret))))))
def o129 : List RR := [.tmp 2, .tmp 3]
theorem k129 : chkC Tryz.prog 30 r129 (Tryz.f129.body.getD .skip) = true := by decide +kernel
theorem q129 : chkR Tryz.prog Tryz.f129.results.toList o129 = true := by decide +kernel

/- (*wireschema/tagdec.reader).part -/
def g130_0 : List Am.Item := [
    ⟨(some 4), .allocN 4 [.str [], .int .i64 0, .int .i64 0, .int .i64 0, .int .i64 0, .int .i64 0], none⟩]
def g130_1 : List Am.Item := [
    ⟨(some 6), .val (.mov (.t 0)), none⟩,
    ⟨(some 7), .val (.nilck (.t 6)), none⟩,
    ⟨(some 8), .val (.faddr 2 (.t 7)), none⟩,
    ⟨(some 9), .val (.load (some 6) (.t 8)), none⟩,
    ⟨(some 5), .allocN 5 [.str [], .int .i64 0, .int .i64 0, .int .i64 0, .int .i64 0, .int .i64 0], none⟩,
    ⟨none, .store 6 (.t 5) (.t 9), none⟩]
def g130_2 : List Am.Item := [
    ⟨(some 10), .val (.mov (.t 0)), none⟩,
    ⟨(some 11), .val (.mov (.t 0)), none⟩,
    ⟨(some 12), .val (.nilck (.t 11)), none⟩,
    ⟨(some 13), .val (.faddr 2 (.t 12)), none⟩,
    ⟨(some 14), .val (.faddr 1 (.t 13)), none⟩,
    ⟨(some 15), .val (.load none (.t 14)), none⟩,
    ⟨(some 16), .val (.mov (.t 1)), none⟩,
    ⟨(some 17), .val (.bin .num .add (.t 15) (.t 16)), none⟩,
    ⟨(some 18), .val (.nilck (.t 10)), none⟩,
    ⟨(some 19), .val (.faddr 2 (.t 18)), none⟩,
    ⟨(some 20), .val (.faddr 2 (.t 19)), none⟩,
    ⟨none, .store 1 (.t 20) (.t 17), none⟩]
def g130_3 : List Am.Item := [
    ⟨(some 21), .val (.load (some 6) (.t 5)), none⟩,
    ⟨none, .store 6 (.t 4) (.t 21), none⟩]
def r130 : RC := .seq (.reg g130_0) (.seq (.reg g130_1) (.seq (.reg g130_2) (.seq (.reg g130_3) (.ret))))
def o130 : List RR := [.cell 4 (some 6)]
theorem k130 : chkC Tryz.prog 22 r130 (Tryz.f130.body.getD .skip) = true := by decide +kernel
theorem q130 : chkR Tryz.prog Tryz.f130.results.toList o130 = true := by decide +kernel

/- (*wireschema/tagdec.reader).behind -/
def g132_0 : List Am.Item := [
    ⟨(some 3), .boxN 3 (.t 1), none⟩]
def g132_1 : List Am.Item := [
    ⟨(some 4), .val (.mov (.t 0)), none⟩,
    ⟨(some 5), .val (.nilck (.t 4)), none⟩,
    ⟨(some 6), .val (.faddr 2 (.t 5)), none⟩,
    ⟨(some 7), .val (.faddr 2 (.t 6)), none⟩,
    ⟨(some 8), .val (.loado none (.t 7)), none⟩,
    ⟨(some 9), .val (.mov (.t 0)), none⟩,
    ⟨(some 10), .val (.nilck (.t 9)), none⟩,
    ⟨(some 11), .val (.faddr 2 (.t 10)), none⟩,
    ⟨(some 12), .val (.faddr 4 (.t 11)), none⟩,
    ⟨(some 13), .val (.loado none (.t 12)), none⟩,
    ⟨(some 14), .val (.faddr 1 (.t 3)), none⟩,
    ⟨none, .storev 0 3 1 (.t 14) (.t 8), none⟩,
    ⟨(some 15), .val (.faddr 4 (.t 3)), none⟩,
    ⟨none, .storev 0 3 1 (.t 15) (.t 13), none⟩]
def g132_2 : List Am.Item := [
    ⟨(some 16), .val (.mov (.t 0)), none⟩,
    ⟨(some 17), .val (.load (some 6) (.t 3)), none⟩,
    ⟨(some 18), .val (.nilck (.t 16)), none⟩,
    ⟨(some 19), .val (.faddr 2 (.t 18)), none⟩,
    ⟨none, .store 6 (.t 19) (.t 17), none⟩]
def r132 : RC := .seq (.reg g132_0) (.seq (.draw g132_1) (.reg g132_2))
def o132 : List RR := []
theorem k132 : chkC Tryz.prog 20 r132 (Tryz.f132.body.getD .skip) = true := by decide +kernel
theorem q132 : chkR Tryz.prog Tryz.f132.results.toList o132 = true := by decide +kernel

/- wireschema/tagdec.set -/
def g133_0 : List Am.Item := [
    ⟨(some 4), .boxN 4 (.t 0), none⟩,
    ⟨(some 5), .boxN 5 (.t 1), none⟩,
    ⟨(some 6), .boxN 6 (.t 2), none⟩,
    ⟨(some 7), .boxN 7 (.t 3), none⟩,
    ⟨(some 8), .allocN 8 [.int .i64 0, .int .u64 0, .str [], .nils, .nils, .nils, .nils], none⟩]
def g133_1 : List Am.Item := [
    ⟨(some 14), .val (.faddr 6 (.t 5)), none⟩,
    ⟨(some 15), .val (.load none (.t 14)), none⟩,
    ⟨(some 16), .val (.build [.int .i64 0, .int .u64 0, .str [], .nils, .nils, .nils, .nils] [(0, 1, (.c (.int .i64 10))), (6, 1, (.t 15))]), none⟩,
    ⟨(some 9), .allocN 9 [.int .i64 0, .int .u64 0, .str [], .nils, .nils, .nils, .nils], none⟩,
    ⟨none, .store 7 (.t 9) (.t 16), none⟩]
def g133_2 : List Am.Item := [
    ⟨(some 17), .val (.faddr 5 (.t 5)), none⟩,
    ⟨(some 18), .val (.load none (.t 17)), none⟩,
    ⟨(some 19), .val (.len 1 (.t 18)), none⟩,
    ⟨(some 20), .val (.mov (.c (.int .i64 0))), none⟩]
def g133_3 : List Am.Item := [
    ⟨(some 21), .val (.bin .num .lss (.t 20) (.t 19)), none⟩]
def g133_4 : List Am.Item := [
    ⟨(some 22), .val (.iaddr 8 none (.t 18) (.t 20)), none⟩,
    ⟨(some 23), .val (.load (some 8) (.t 22)), none⟩,
    ⟨(some 11), .allocN 11 [.int .i64 0, .int .i64 0, .int .u64 0, .str [], .nils, .nils, .nils, .nils], none⟩,
    ⟨none, .store 8 (.t 11) (.t 23), none⟩]
def g133_5 : List Am.Item := [
    ⟨(some 24), .val (.faddr 0 (.t 11)), none⟩,
    ⟨(some 25), .val (.load none (.t 24)), none⟩,
    ⟨(some 26), .val (.faddr 0 (.t 6)), none⟩,
    ⟨(some 27), .val (.load none (.t 26)), none⟩,
    ⟨(some 28), .val (.bin .num .eql (.t 25) (.t 27)), none⟩]
def g133_6 : List Am.Item := [
    ⟨(some 30), .val (.load (some 3) (.t 4)), none⟩,
    ⟨(some 31), .val (.faddr 0 (.t 11)), none⟩,
    ⟨(some 32), .val (.load none (.t 31)), none⟩,
    ⟨(some 33), .call (.f 99) [(.t 30), (.t 32)], none⟩,
    ⟨(some 29), .val (.mov (.t 33)), none⟩,
    ⟨(some 34), .val (.ext (.t 29) 0), none⟩,
    ⟨(some 35), .val (.ext (.t 29) 1), none⟩,
    ⟨(some 12), .allocN 12 [.int .i64 0, .str [], .str [], .int .i64 0, .int .i64 0, .int .i64 0, .int .i64 0, .int .i64 0], none⟩,
    ⟨none, .store 8 (.t 12) (.t 34), none⟩,
    ⟨(some 13), .val (.mov (.t 35)), none⟩]
def g133_7 : List Am.Item := [
    ⟨(some 36), .val (.mov (.t 13)), none⟩,
    ⟨(some 37), .val (.mov (.t 36)), none⟩,
    ⟨(some 38), .val (.faddr 7 (.t 6)), (some (37, true))⟩,
    ⟨(some 39), .val (.load none (.t 38)), (some (37, true))⟩,
    ⟨(some 40), .val (.bin .num .geq (.t 39) (.c (.int .i64 0))), (some (37, true))⟩,
    ⟨(some 41), .val (.pick (.t 37) (.t 40) (.c (.bool false))), none⟩,
    ⟨(some 42), .val (.mov (.t 41)), none⟩,
    ⟨(some 43), .val (.faddr 7 (.t 12)), (some (42, true))⟩,
    ⟨(some 44), .val (.load none (.t 43)), (some (42, true))⟩,
    ⟨(some 45), .val (.faddr 7 (.t 6)), (some (42, true))⟩,
    ⟨(some 46), .val (.load none (.t 45)), (some (42, true))⟩,
    ⟨(some 47), .val (.bin .num .eql (.t 44) (.t 46)), (some (42, true))⟩,
    ⟨(some 48), .val (.pick (.t 42) (.t 47) (.c (.bool false))), none⟩]
def g133_8 : List Am.Item := [
    ⟨(some 49), .val (.faddr 5 (.t 9)), none⟩,
    ⟨(some 50), .val (.load none (.t 49)), none⟩,
    ⟨(some 51), .val (.load (some 8) (.t 11)), none⟩,
    ⟨(some 52), .bsl 8 1 [.int .i64 0, .int .i64 0, .int .u64 0, .str [], .nils, .nils, .nils, .nils] [(0, 8, (.t 51))], none⟩,
    ⟨(some 53), .app 8 136 61 (.t 50) (.t 52), none⟩,
    ⟨(some 54), .val (.faddr 5 (.t 9)), none⟩,
    ⟨none, .store 1 (.t 54) (.t 53), none⟩]
def g133_9 : List Am.Item := [
    ⟨(some 55), .val (.bin .num .add (.t 20) (.c (.int .i64 1))), none⟩,
    ⟨(some 20), .val (.mov (.t 55)), none⟩]
def l133_0 : RC := .gho (.drop 12) (.gho (.drop 11) (.seq (.reg g133_3) (.seq (.cond (.t 21) (.skip) (.exit 0)) (.seq (.block 1 (.seq (.reg g133_4) (.seq (.seq (.reg g133_5) (.cond (.t 28) (.exit 1) (.skip))) (.seq (.seq (.reg g133_6) (.seq (.reg g133_7) (.cond (.t 48) (.exit 1) (.skip)))) (.reg g133_8))))) (.reg g133_9)))))
def g133_10 : List Am.Item := [
    ⟨(some 56), .val (.faddr 5 (.t 9)), none⟩,
    ⟨(some 57), .val (.load none (.t 56)), none⟩,
    ⟨(some 58), .val (.faddr 0 (.t 6)), none⟩,
    ⟨(some 59), .val (.load none (.t 58)), none⟩,
    ⟨(some 60), .val (.load (some 7) (.t 7)), none⟩,
    ⟨(some 61), .val (.build [.int .i64 0, .int .i64 0, .int .u64 0, .str [], .nils, .nils, .nils, .nils] [(0, 1, (.t 59)), (1, 7, (.t 60))]), none⟩,
    ⟨(some 62), .bsl 8 1 [.int .i64 0, .int .i64 0, .int .u64 0, .str [], .nils, .nils, .nils, .nils] [(0, 8, (.t 61))], none⟩,
    ⟨(some 63), .app 8 136 61 (.t 57) (.t 62), none⟩,
    ⟨(some 64), .val (.faddr 5 (.t 9)), none⟩,
    ⟨none, .store 1 (.t 64) (.t 63), none⟩]
def g133_11 : List Am.Item := [
    ⟨(some 65), .val (.load (some 7) (.t 9)), none⟩,
    ⟨none, .store 7 (.t 8) (.t 65), none⟩]
def r133 : RC := .seq (.reg g133_0) (.seq (.reg g133_1) (.gho (.vecc 9 5 1100 8) (.seq (.seq (.reg g133_2) (.block 0 (.loop l133_0))) (.seq (.reg g133_10) (.seq (.reg g133_11) (.ret))))))
def o133 : List RR := [.cell 8 (some 7)]
theorem k133 : chkC Tryz.prog 66 r133 (Tryz.f133.body.getD .skip) = true := by decide +kernel
theorem q133 : chkR Tryz.prog Tryz.f133.results.toList o133 = true := by decide +kernel

/- wireschema/cursor.Byte -/
def g134_0 : List Am.Item := [
    ⟨(some 1), .boxN 1 (.t 0), none⟩,
    ⟨(some 2), .val (.mov (.c (.int .u8 0))), none⟩,
    ⟨(some 3), .allocN 3 [.str [], .int .i64 0, .int .i64 0, .int .i64 0, .int .i64 0, .int .i64 0], none⟩,
    ⟨(some 4), .val (.mov (.c (.int .i64 0))), none⟩]
def g134_1 : List Am.Item := [
    ⟨(some 5), .val (.load (some 6) (.t 1)), none⟩,
    ⟨(some 6), .call (.f 92) [(.t 5)], none⟩,
    ⟨(some 7), .val (.bin .num .lss (.t 6) (.c (.int .i64 1))), none⟩]
def g134_2 : List Am.Item := [
    ⟨(some 8), .val (.loadv 0 1 (some 6) (.t 1)), none⟩,
    ⟨(some 2), .val (.mov (.c (.int .u8 0))), none⟩,
    ⟨none, .storev 0 3 6 (.t 3) (.t 8), none⟩,
    ⟨(some 4), .val (.mov (.c (.int .i64 4))), none⟩]
def g134_3 : List Am.Item := [
    ⟨(some 9), .val (.faddr 0 (.t 1)), none⟩,
    ⟨(some 10), .val (.loadv 0 1 none (.t 9)), none⟩,
    ⟨(some 11), .val (.faddr 1 (.t 1)), none⟩,
    ⟨(some 12), .val (.loadv 0 1 none (.t 11)), none⟩,
    ⟨(some 13), .val (.idx (.t 10) (.t 12)), none⟩,
    ⟨(some 14), .val (.loadv 0 1 (some 6) (.t 1)), none⟩,
    ⟨(some 15), .call (.f 128) [(.t 14), (.c (.int .i64 1))], none⟩,
    ⟨(some 2), .val (.mov (.t 13)), none⟩,
    ⟨none, .storev 0 3 6 (.t 3) (.t 15), none⟩,
    ⟨(some 4), .val (.mov (.c (.int .i64 0))), none⟩]
def r134 : RC := .seq (.reg g134_0) (.seq (.seq (.reg g134_1) (.cond (.t 7) (.seq (.draw g134_2) (.ret)) (.skip))) (.seq (.draw g134_3) (.ret)))
def o134 : List RR := [.tmp 2, .cell 3 (some 6), .tmp 4]
theorem k134 : chkC Tryz.prog 16 r134 (Tryz.f134.body.getD .skip) = true := by decide +kernel
theorem q134 : chkR Tryz.prog Tryz.f134.results.toList o134 = true := by decide +kernel

/- wireschema/plan.Wire -/
def g35_0 : List Am.Item := [
    ⟨(some 1), .boxN 1 (.t 0), none⟩,
    ⟨(some 2), .val (.mov (.c (.int .i64 0))), none⟩]
def g35_1 : List Am.Item := [
    ⟨(some 4), .val (.faddr 3 (.t 1)), none⟩,
    ⟨(some 5), .val (.load none (.t 4)), none⟩,
    ⟨(some 6), .val (.bin .num .eql (.t 5) (.c (.int .i64 5))), none⟩,
    ⟨(some 3), .val (.mov (.t 6)), none⟩]
def g35_2 : List Am.Item := [
    ⟨(some 2), .val (.mov (.c (.int .i64 6))), none⟩]
def g35_3 : List Am.Item := [
    ⟨(some 8), .val (.load (some 8) (.t 1)), none⟩,
    ⟨(some 9), .call (.f 58) [(.t 8)], none⟩,
    ⟨(some 7), .val (.mov (.t 9)), none⟩]
def g35_4 : List Am.Item := [
    ⟨(some 2), .val (.mov (.c (.int .i64 5))), none⟩]
def g35_5 : List Am.Item := [
    ⟨(some 10), .val (.faddr 5 (.t 1)), none⟩,
    ⟨(some 11), .val (.load none (.t 10)), none⟩]
def g35_6 : List Am.Item := [
    ⟨(some 13), .val (.bin .num .eql (.t 11) (.c (.int .i64 1))), none⟩,
    ⟨(some 12), .val (.mov (.t 13)), none⟩]
def g35_7 : List Am.Item := [
    ⟨(some 14), .val (.bin .num .eql (.t 11) (.c (.int .i64 4))), none⟩,
    ⟨(some 12), .val (.mov (.t 14)), none⟩]
def g35_8 : List Am.Item := [
    ⟨(some 15), .val (.bin .num .eql (.t 11) (.c (.int .i64 5))), none⟩,
    ⟨(some 12), .val (.mov (.t 15)), none⟩]
def g35_9 : List Am.Item := [
    ⟨(some 16), .val (.bin .num .eql (.t 11) (.c (.int .i64 9))), none⟩,
    ⟨(some 12), .val (.mov (.t 16)), none⟩]
def g35_10 : List Am.Item := [
    ⟨(some 2), .val (.mov (.c (.int .i64 0))), none⟩]
def g35_11 : List Am.Item := [
    ⟨(some 18), .val (.bin .num .eql (.t 11) (.c (.int .i64 2))), none⟩,
    ⟨(some 17), .val (.mov (.t 18)), none⟩]
def g35_12 : List Am.Item := [
    ⟨(some 19), .val (.bin .num .eql (.t 11) (.c (.int .i64 3))), none⟩,
    ⟨(some 17), .val (.mov (.t 19)), none⟩]
def g35_13 : List Am.Item := [
    ⟨(some 2), .val (.mov (.c (.int .i64 1))), none⟩]
def g35_14 : List Am.Item := [
    ⟨(some 21), .val (.bin .num .eql (.t 11) (.c (.int .i64 6))), none⟩,
    ⟨(some 20), .val (.mov (.t 21)), none⟩]
def g35_15 : List Am.Item := [
    ⟨(some 2), .val (.mov (.c (.int .i64 2))), none⟩]
def g35_16 : List Am.Item := [
    ⟨(some 23), .val (.bin .num .eql (.t 11) (.c (.int .i64 7))), none⟩,
    ⟨(some 22), .val (.mov (.t 23)), none⟩]
def g35_17 : List Am.Item := [
    ⟨(some 24), .val (.bin .num .eql (.t 11) (.c (.int .i64 8))), none⟩,
    ⟨(some 22), .val (.mov (.t 24)), none⟩]
def g35_18 : List Am.Item := [
    ⟨(some 2), .val (.mov (.c (.int .i64 3))), none⟩]
def g35_19 : List Am.Item := [
    ⟨(some 26), .val (.bin .num .eql (.t 11) (.c (.int .i64 10))), none⟩,
    ⟨(some 25), .val (.mov (.t 26)), none⟩]
def g35_20 : List Am.Item := [
    ⟨(some 2), .val (.mov (.c (.int .i64 4))), none⟩]
def g35_21 : List Am.Item := [
    ⟨(some 2), .val (.mov (.c (.int .i64 (-1)))), none⟩]
def r35 : RC := .seq (.reg g35_0) (.seq (.block 0 (.seq (.reg g35_1) (.cond (.t 3) (.seq (.reg g35_2) (.ret)) (.seq (.reg g35_3) (.cond (.t 7) (.seq (.reg g35_4) (.ret)) (.skip)))))) (.seq (.seq (.reg g35_5) (.block 1 (.seq (.seq (.reg g35_6) (.cond (.t 12) (.skip) (.seq (.reg g35_7) (.cond (.t 12) (.skip) (.seq (.reg g35_8) (.cond (.t 12) (.skip) (.reg g35_9))))))) (.cond (.t 12) (.seq (.reg g35_10) (.ret)) (.seq (.seq (.reg g35_11) (.cond (.t 17) (.skip) (.reg g35_12))) (.cond (.t 17) (.seq (.reg g35_13) (.ret)) (.seq (.reg g35_14) (.cond (.t 20) (.seq (.reg g35_15) (.ret)) (.seq (.seq (.reg g35_16) (.cond (.t 22) (.skip) (.reg g35_17))) (.cond (.t 22) (.seq (.reg g35_18) (.ret)) (.seq (.reg g35_19) (.cond (.t 25) (.seq (.reg g35_20) (.ret)) (.skip))))))))))))) (.seq (.reg g35_21) (.ret))))
def o35 : List RR := [.tmp 2]
theorem k35 : chkC Tryz.prog 27 r35 (Tryz.f35.body.getD .skip) = true := by decide +kernel
theorem q35 : chkR Tryz.prog Tryz.f35.results.toList o35 = true := by decide +kernel

/- wireschema/tagdec.longer -/
def g136_0 : List Am.Item := [
    ⟨(some 2), .boxN 2 (.t 0), none⟩,
    ⟨(some 3), .boxN 3 (.t 1), none⟩,
    ⟨(some 4), .allocN 4 [.int .i64 0, .int .u64 0, .str [], .nils, .nils, .nils, .nils], none⟩]
def g136_1 : List Am.Item := [
    ⟨(some 6), .val (.faddr 3 (.t 2)), none⟩,
    ⟨(some 7), .val (.load none (.t 6)), none⟩,
    ⟨(some 8), .val (.len 1 (.t 7)), none⟩,
    ⟨(some 5), .val (.mov (.t 8)), none⟩]
def g136_2 : List Am.Item := [
    ⟨(some 9), .val (.faddr 3 (.t 2)), none⟩,
    ⟨(some 10), .val (.loadv 0 2 none (.t 9)), none⟩,
    ⟨(some 11), .val (.mov (.t 5)), none⟩,
    ⟨(some 12), .val (.mov (.t 5)), none⟩,
    ⟨(some 13), .val (.slcl (.t 10) (.t 11) (.t 12)), none⟩,
    ⟨(some 14), .val (.loadv 0 3 (some 7) (.t 3)), none⟩,
    ⟨(some 15), .bsl 7 1 [.int .i64 0, .int .u64 0, .str [], .nils, .nils, .nils, .nils] [(0, 7, (.t 14))], none⟩,
    ⟨(some 16), .appc 16 7 128 41 (.t 13) (.t 15), none⟩,
    ⟨(some 17), .val (.build [.int .i64 0, .int .u64 0, .str [], .nils, .nils, .nils, .nils] [(0, 1, (.c (.int .i64 11))), (3, 1, (.t 16))]), none⟩,
    ⟨none, .storev 0 4 7 (.t 4) (.t 17), none⟩]
def r136 : RC := .seq (.reg g136_0) (.seq (.reg g136_1) (.seq (.draw g136_2) (.ret)))
def o136 : List RR := [.cell 4 (some 7)]
theorem k136 : chkC Tryz.prog 18 r136 (Tryz.f136.body.getD .skip) = true := by decide +kernel
theorem q136 : chkR Tryz.prog Tryz.f136.results.toList o136 = true := by decide +kernel

/- (*wireschema/tagdec.reader).contents -/
def g137_0 : List Am.Item := [
    ⟨(some 4), .allocN 4 [.int .i64 0, .int .i64 0, .int .u64 0, .str []], none⟩,
    ⟨(some 5), .val (.mov (.c (.int .i64 0))), none⟩]
def g137_1 : List Am.Item := [
    ⟨(some 10), .val (.mov (.t 1)), none⟩,
    ⟨(some 11), .val (.build [.int .i64 0, .int .i64 0, .int .u64 0, .str []] [(1, 1, (.t 10))]), none⟩,
    ⟨(some 6), .allocN 6 [.int .i64 0, .int .i64 0, .int .u64 0, .str []], none⟩,
    ⟨none, .store 4 (.t 6) (.t 11), none⟩]
def g137_2 : List Am.Item := [
    ⟨(some 7), .val (.mov (.c (.int .i64 0))), none⟩]
def g137_3 : List Am.Item := [
    ⟨(some 12), .val (.mov (.t 1)), none⟩]
def g137_5 : List Am.Item := [
    ⟨(some 27), .val (.bin .num .eql (.t 12) (.c (.int .i64 3))), none⟩,
    ⟨(some 26), .val (.mov (.t 27)), none⟩]
def g137_6 : List Am.Item := [
    ⟨(some 29), .val (.mov (.t 0)), none⟩,
    ⟨(some 30), .callF (.f 129) [(.t 29)], none⟩,
    ⟨(some 28), .val (.mov (.t 30)), none⟩,
    ⟨(some 31), .val (.ext (.t 28) 0), none⟩,
    ⟨(some 32), .val (.ext (.t 28) 1), none⟩,
    ⟨(some 8), .val (.mov (.t 31)), none⟩,
    ⟨(some 9), .val (.mov (.t 32)), none⟩]
def g137_7 : List Am.Item := [
    ⟨(some 33), .val (.mov (.t 9)), none⟩,
    ⟨(some 34), .val (.bin .num .neq (.t 33) (.c (.int .i64 0))), none⟩]
def g137_8 : List Am.Item := [
    ⟨(some 35), .val (.load (some 4) (.t 6)), none⟩,
    ⟨(some 36), .val (.mov (.t 9)), none⟩,
    ⟨none, .store 4 (.t 4) (.t 35), none⟩,
    ⟨(some 5), .val (.mov (.t 36)), none⟩]
def g137_9 : List Am.Item := [
    ⟨(some 38), .val (.mov (.t 0)), none⟩,
    ⟨(some 39), .val (.mov (.t 0)), none⟩,
    ⟨(some 40), .val (.nilck (.t 39)), none⟩,
    ⟨(some 41), .val (.faddr 2 (.t 40)), none⟩,
    ⟨(some 42), .val (.load (some 6) (.t 41)), none⟩,
    ⟨(some 43), .val (.mov (.t 8)), none⟩,
    ⟨(some 44), .call (.f 151) [(.t 42), (.t 43)], none⟩,
    ⟨(some 37), .val (.mov (.t 44)), none⟩,
    ⟨(some 45), .val (.ext (.t 37) 0), none⟩,
    ⟨(some 46), .val (.ext (.t 37) 1), none⟩,
    ⟨(some 47), .val (.ext (.t 37) 2), none⟩,
    ⟨(some 48), .val (.faddr 3 (.t 6)), none⟩,
    ⟨none, .store 1 (.t 48) (.t 45), none⟩,
    ⟨(some 49), .val (.nilck (.t 38)), none⟩,
    ⟨(some 50), .val (.faddr 2 (.t 49)), none⟩,
    ⟨none, .store 6 (.t 50) (.t 46), none⟩,
    ⟨(some 7), .val (.mov (.t 47)), none⟩]
def g137_10 : List Am.Item := [
    ⟨(some 52), .val (.bin .num .eql (.t 12) (.c (.int .i64 2))), none⟩,
    ⟨(some 51), .val (.mov (.t 52)), none⟩]
def g137_11 : List Am.Item := [
    ⟨(some 54), .val (.mov (.t 0)), none⟩,
    ⟨(some 55), .val (.mov (.t 0)), none⟩,
    ⟨(some 56), .val (.nilck (.t 55)), none⟩,
    ⟨(some 57), .val (.faddr 2 (.t 56)), none⟩,
    ⟨(some 58), .val (.load (some 6) (.t 57)), none⟩,
    ⟨(some 59), .call (.f 138) [(.t 58)], none⟩,
    ⟨(some 53), .val (.mov (.t 59)), none⟩,
    ⟨(some 60), .val (.ext (.t 53) 0), none⟩,
    ⟨(some 61), .val (.ext (.t 53) 1), none⟩,
    ⟨(some 62), .val (.ext (.t 53) 2), none⟩,
    ⟨(some 63), .val (.faddr 2 (.t 6)), none⟩,
    ⟨none, .store 1 (.t 63) (.t 60), none⟩,
    ⟨(some 64), .val (.nilck (.t 54)), none⟩,
    ⟨(some 65), .val (.faddr 2 (.t 64)), none⟩,
    ⟨none, .store 6 (.t 65) (.t 61), none⟩,
    ⟨(some 7), .val (.mov (.t 62)), none⟩]
def g137_4 : List Am.Item := [
    ⟨(some 14), .val (.mov (.t 0)), none⟩,
    ⟨(some 15), .val (.mov (.t 0)), none⟩,
    ⟨(some 16), .val (.nilck (.t 15)), none⟩,
    ⟨(some 17), .val (.faddr 2 (.t 16)), none⟩,
    ⟨(some 18), .val (.load (some 6) (.t 17)), none⟩,
    ⟨(some 19), .call (.f 110) [(.t 18)], none⟩,
    ⟨(some 13), .val (.mov (.t 19)), none⟩,
    ⟨(some 20), .val (.ext (.t 13) 0), none⟩,
    ⟨(some 21), .val (.ext (.t 13) 1), none⟩,
    ⟨(some 22), .val (.ext (.t 13) 2), none⟩,
    ⟨(some 23), .val (.faddr 2 (.t 6)), none⟩,
    ⟨none, .store 1 (.t 23) (.t 20), none⟩,
    ⟨(some 24), .val (.nilck (.t 14)), none⟩,
    ⟨(some 25), .val (.faddr 2 (.t 24)), none⟩,
    ⟨none, .store 6 (.t 25) (.t 21), none⟩,
    ⟨(some 7), .val (.mov (.t 22)), none⟩]
def g137_12 : List Am.Item := [
    ⟨(some 66), .val (.load (some 4) (.t 6)), none⟩,
    ⟨(some 67), .val (.mov (.t 7)), none⟩,
    ⟨none, .store 4 (.t 4) (.t 66), none⟩,
    ⟨(some 5), .val (.mov (.t 67)), none⟩]
def r137 : RC := .seq (.reg g137_0) (.seq (.reg g137_1) (.seq (.reg g137_2) (.seq (.seq (.reg g137_3) (.block 0 (.seq (.reg g137_5) (.cond (.t 26) (.seq (.reg g137_6) (.seq (.seq (.reg g137_7) (.cond (.t 34) (.seq (.reg g137_8) (.ret)) (.skip))) (.reg g137_9))) (.seq (.reg g137_10) (.cond (.t 51) (.reg g137_11) (.reg g137_4))))))) (.seq (.reg g137_12) (.ret)))))
def o137 : List RR := [.cell 4 (some 4), .tmp 5]
theorem k137 : chkC Tryz.prog 68 r137 (Tryz.f137.body.getD .skip) = true := by decide +kernel
theorem q137 : chkR Tryz.prog Tryz.f137.results.toList o137 = true := by decide +kernel

/- wireschema/tagdec.Scalar -/
def g5_0 : List Am.Item := [
    ⟨(some 3), .boxN 3 (.t 0), none⟩,
    ⟨(some 4), .boxN 4 (.t 1), none⟩,
    ⟨(some 5), .boxN 5 (.t 2), none⟩,
    ⟨(some 6), .allocN 6 [.int .i64 0, .int .u64 0, .str [], .nils, .nils, .nils, .nils], none⟩,
    ⟨(some 7), .val (.mov (.c (.int .i64 0))), none⟩]
def g5_1 : List Am.Item := [
    ⟨(some 9), .val (.faddr 5 (.t 4)), none⟩,
    ⟨(some 10), .val (.load none (.t 9)), none⟩,
    ⟨(some 11), .call (.f 10) [(.t 10)], none⟩,
    ⟨(some 12), .val (.un .not (.t 11)), none⟩]
def g5_2 : List Am.Item := [
    ⟨(some 13), .val (.build [.int .i64 0, .int .u64 0, .str [], .nils, .nils, .nils, .nils] []), none⟩,
    ⟨none, .store 7 (.t 6) (.t 13), none⟩,
    ⟨(some 7), .val (.mov (.c (.int .i64 12))), none⟩]
def g5_3 : List Am.Item := [
    ⟨(some 14), .val (.faddr 1 (.t 5)), none⟩,
    ⟨(some 15), .val (.loadv 0 5 none (.t 14)), none⟩,
    ⟨(some 16), .val (.loadv 0 4 (some 8) (.t 4)), none⟩,
    ⟨(some 17), .call (.f 11) [(.t 16)], none⟩,
    ⟨(some 18), .val (.bin .num .neq (.t 15) (.t 17)), none⟩]
def g5_4 : List Am.Item := [
    ⟨(some 19), .val (.build [.int .i64 0, .int .u64 0, .str [], .nils, .nils, .nils, .nils] []), none⟩,
    ⟨none, .store 7 (.t 6) (.t 19), none⟩,
    ⟨(some 7), .val (.mov (.c (.int .i64 13))), none⟩]
def g5_5 : List Am.Item := [
    ⟨(some 20), .val (.faddr 1 (.t 5)), none⟩,
    ⟨(some 21), .val (.load none (.t 20)), none⟩,
    ⟨(some 22), .val (.bin .num .eql (.t 21) (.c (.int .i64 3))), none⟩]
def g5_6 : List Am.Item := [
    ⟨(some 23), .val (.faddr 5 (.t 4)), none⟩,
    ⟨(some 24), .val (.load none (.t 23)), none⟩,
    ⟨(some 25), .val (.bin .num .eql (.t 24) (.c (.int .i64 7))), none⟩,
    ⟨(some 26), .val (.mov (.t 25)), none⟩,
    ⟨(some 27), .val (.faddr 3 (.t 5)), (some (26, true))⟩,
    ⟨(some 28), .val (.load none (.t 27)), (some (26, true))⟩,
    ⟨(some 29), .call (.f 12) [(.t 28)], (some (26, true))⟩,
    ⟨(some 30), .val (.un .not (.t 29)), (some (26, true))⟩,
    ⟨(some 31), .val (.pick (.t 26) (.t 30) (.c (.bool false))), none⟩]
def g5_7 : List Am.Item := [
    ⟨(some 32), .val (.build [.int .i64 0, .int .u64 0, .str [], .nils, .nils, .nils, .nils] []), none⟩,
    ⟨none, .store 7 (.t 6) (.t 32), none⟩,
    ⟨(some 7), .val (.mov (.c (.int .i64 7))), none⟩]
def g5_8 : List Am.Item := [
    ⟨(some 33), .val (.faddr 5 (.t 4)), none⟩,
    ⟨(some 34), .val (.load none (.t 33)), none⟩,
    ⟨(some 35), .val (.faddr 3 (.t 5)), none⟩,
    ⟨(some 36), .val (.load none (.t 35)), none⟩,
    ⟨(some 37), .val (.build [.int .i64 0, .int .u64 0, .str [], .nils, .nils, .nils, .nils] [(0, 1, (.t 34)), (2, 1, (.t 36))]), none⟩,
    ⟨none, .store 7 (.t 6) (.t 37), none⟩,
    ⟨(some 7), .val (.mov (.c (.int .i64 0))), none⟩]
def g5_9 : List Am.Item := [
    ⟨(some 38), .val (.faddr 5 (.t 4)), none⟩,
    ⟨(some 39), .val (.load none (.t 38)), none⟩,
    ⟨(some 40), .val (.faddr 2 (.t 5)), none⟩,
    ⟨(some 41), .val (.load none (.t 40)), none⟩,
    ⟨(some 42), .val (.build [.int .i64 0, .int .u64 0, .str [], .nils, .nils, .nils, .nils] [(0, 1, (.t 39)), (1, 1, (.t 41))]), none⟩,
    ⟨(some 8), .allocN 8 [.int .i64 0, .int .u64 0, .str [], .nils, .nils, .nils, .nils], none⟩,
    ⟨none, .store 7 (.t 8) (.t 42), none⟩]
def g5_10 : List Am.Item := [
    ⟨(some 43), .val (.faddr 1 (.t 5)), none⟩,
    ⟨(some 44), .val (.load none (.t 43)), none⟩,
    ⟨(some 45), .val (.bin .num .eql (.t 44) (.c (.int .i64 1))), none⟩]
def g5_11 : List Am.Item := [
    ⟨(some 46), .val (.faddr 2 (.t 5)), none⟩,
    ⟨(some 47), .val (.load none (.t 46)), none⟩,
    ⟨(some 48), .call (.f 13) [(.t 47)], none⟩,
    ⟨(some 49), .val (.cvi .u64 (.t 48)), none⟩,
    ⟨(some 50), .val (.faddr 1 (.t 8)), none⟩,
    ⟨none, .store 1 (.t 50) (.t 49), none⟩]
def g5_12 : List Am.Item := [
    ⟨(some 51), .val (.faddr 5 (.t 4)), none⟩,
    ⟨(some 52), .val (.load none (.t 51)), none⟩,
    ⟨(some 53), .val (.load (some 7) (.t 8)), none⟩,
    ⟨(some 54), .call (.f 14) [(.t 52), (.t 53)], none⟩,
    ⟨(some 55), .val (.un .not (.t 54)), none⟩]
def g5_13 : List Am.Item := [
    ⟨(some 56), .val (.build [.int .i64 0, .int .u64 0, .str [], .nils, .nils, .nils, .nils] []), none⟩,
    ⟨none, .store 7 (.t 6) (.t 56), none⟩,
    ⟨(some 7), .val (.mov (.c (.int .i64 6))), none⟩]
def g5_14 : List Am.Item := [
    ⟨(some 57), .val (.faddr 5 (.t 4)), none⟩,
    ⟨(some 58), .val (.load none (.t 57)), none⟩,
    ⟨(some 59), .val (.bin .num .eql (.t 58) (.c (.int .i64 9))), none⟩,
    ⟨(some 60), .val (.mov (.t 59)), none⟩,
    ⟨(some 61), .val (.load (some 2) (.t 3)), (some (60, true))⟩,
    ⟨(some 62), .val (.faddr 6 (.t 4)), (some (60, true))⟩,
    ⟨(some 63), .val (.load none (.t 62)), (some (60, true))⟩,
    ⟨(some 64), .val (.faddr 1 (.t 8)), (some (60, true))⟩,
    ⟨(some 65), .val (.load none (.t 64)), (some (60, true))⟩,
    ⟨(some 66), .call (.f 15) [(.t 61), (.t 63), (.t 65)], (some (60, true))⟩,
    ⟨(some 67), .val (.un .not (.t 66)), (some (60, true))⟩,
    ⟨(some 68), .val (.pick (.t 60) (.t 67) (.c (.bool false))), none⟩]
def g5_15 : List Am.Item := [
    ⟨(some 69), .val (.build [.int .i64 0, .int .u64 0, .str [], .nils, .nils, .nils, .nils] []), none⟩,
    ⟨none, .store 7 (.t 6) (.t 69), none⟩,
    ⟨(some 7), .val (.mov (.c (.int .i64 16))), none⟩]
def g5_16 : List Am.Item := [
    ⟨(some 70), .val (.load (some 7) (.t 8)), none⟩,
    ⟨(some 71), .call (.f 16) [(.t 70)], none⟩,
    ⟨none, .store 7 (.t 6) (.t 71), none⟩,
    ⟨(some 7), .val (.mov (.c (.int .i64 0))), none⟩]
def r5 : RC := .seq (.reg g5_0) (.seq (.seq (.reg g5_1) (.cond (.t 12) (.seq (.reg g5_2) (.ret)) (.skip))) (.seq (.seq (.draw g5_3) (.cond (.t 18) (.seq (.reg g5_4) (.ret)) (.skip))) (.seq (.seq (.reg g5_5) (.cond (.t 22) (.seq (.seq (.reg g5_6) (.cond (.t 31) (.seq (.reg g5_7) (.ret)) (.skip))) (.seq (.reg g5_8) (.ret))) (.skip))) (.seq (.reg g5_9) (.seq (.seq (.reg g5_10) (.cond (.t 45) (.reg g5_11) (.skip))) (.seq (.seq (.reg g5_12) (.cond (.t 55) (.seq (.reg g5_13) (.ret)) (.skip))) (.seq (.seq (.reg g5_14) (.cond (.t 68) (.seq (.reg g5_15) (.ret)) (.skip))) (.seq (.reg g5_16) (.ret)))))))))
def o5 : List RR := [.cell 6 (some 7), .tmp 7]
theorem k5 : chkC Tryz.prog 72 r5 (Tryz.f5.body.getD .skip) = true := by decide +kernel
theorem q5 : chkR Tryz.prog Tryz.f5.results.toList o5 = true := by decide +kernel

/- slices.stableCmpFunc[wireschema/api.Slot] -/
def g140_0 : List Am.Item := [
    ⟨(some 6), .val (.mov (.c (.int .i64 20))), none⟩]
def g140_1 : List Am.Item := [
    ⟨(some 10), .val (.mov (.t 6)), none⟩,
    ⟨(some 7), .val (.mov (.c (.int .i64 0))), none⟩,
    ⟨(some 8), .val (.mov (.t 10)), none⟩]
def g140_2 : List Am.Item := [
    ⟨(some 11), .val (.mov (.t 8)), none⟩,
    ⟨(some 12), .val (.mov (.t 1)), none⟩,
    ⟨(some 13), .val (.bin .num .leq (.t 11) (.t 12)), none⟩]
def g140_3 : List Am.Item := [
    ⟨(some 14), .val (.mov (.t 0)), none⟩,
    ⟨(some 15), .val (.mov (.t 7)), none⟩,
    ⟨(some 16), .val (.mov (.t 8)), none⟩,
    ⟨(some 17), .val (.mov (.t 2)), none⟩,
    ⟨(some 18), .callF (.f 153) [(.t 14), (.t 15), (.t 16), (.t 17)], none⟩]
def g140_4 : List Am.Item := [
    ⟨(some 19), .val (.mov (.t 8)), none⟩,
    ⟨(some 7), .val (.mov (.t 19)), none⟩]
def g140_5 : List Am.Item := [
    ⟨(some 20), .val (.mov (.t 8)), none⟩,
    ⟨(some 21), .val (.mov (.t 6)), none⟩,
    ⟨(some 22), .val (.bin .num .add (.t 20) (.t 21)), none⟩,
    ⟨(some 8), .val (.mov (.t 22)), none⟩]
def l140_0 : RC := .seq (.seq (.reg g140_2) (.cond (.t 13) (.skip) (.exit 0))) (.block 1 (.seq (.reg g140_3) (.seq (.reg g140_4) (.reg g140_5))))
def g140_6 : List Am.Item := [
    ⟨(some 23), .val (.mov (.t 0)), none⟩,
    ⟨(some 24), .val (.mov (.t 7)), none⟩,
    ⟨(some 25), .val (.mov (.t 1)), none⟩,
    ⟨(some 26), .val (.mov (.t 2)), none⟩,
    ⟨(some 27), .callF (.f 153) [(.t 23), (.t 24), (.t 25), (.t 26)], none⟩]
def g140_7 : List Am.Item := [
    ⟨(some 28), .val (.mov (.t 6)), none⟩,
    ⟨(some 29), .val (.mov (.t 1)), none⟩,
    ⟨(some 30), .val (.bin .num .lss (.t 28) (.t 29)), none⟩]
def g140_8 : List Am.Item := [
    ⟨(some 31), .val (.mov (.t 6)), none⟩,
    ⟨(some 32), .val (.bin .num .mul (.c (.int .i64 2)) (.t 31)), none⟩,
    ⟨(some 7), .val (.mov (.c (.int .i64 0))), none⟩,
    ⟨(some 8), .val (.mov (.t 32)), none⟩]
def g140_9 : List Am.Item := [
    ⟨(some 33), .val (.mov (.t 8)), none⟩,
    ⟨(some 34), .val (.mov (.t 1)), none⟩,
    ⟨(some 35), .val (.bin .num .leq (.t 33) (.t 34)), none⟩]
def g140_10 : List Am.Item := [
    ⟨(some 36), .val (.mov (.t 0)), none⟩,
    ⟨(some 37), .val (.mov (.t 7)), none⟩,
    ⟨(some 38), .val (.mov (.t 7)), none⟩,
    ⟨(some 39), .val (.mov (.t 6)), none⟩,
    ⟨(some 40), .val (.bin .num .add (.t 38) (.t 39)), none⟩,
    ⟨(some 41), .val (.mov (.t 8)), none⟩,
    ⟨(some 42), .val (.mov (.t 2)), none⟩,
    ⟨(some 43), .callF (.f 154) [(.t 36), (.t 37), (.t 40), (.t 41), (.t 42)], none⟩]
def g140_11 : List Am.Item := [
    ⟨(some 44), .val (.mov (.t 8)), none⟩,
    ⟨(some 7), .val (.mov (.t 44)), none⟩]
def g140_12 : List Am.Item := [
    ⟨(some 45), .val (.mov (.t 8)), none⟩,
    ⟨(some 46), .val (.mov (.t 6)), none⟩,
    ⟨(some 47), .val (.bin .num .mul (.c (.int .i64 2)) (.t 46)), none⟩,
    ⟨(some 48), .val (.bin .num .add (.t 45) (.t 47)), none⟩,
    ⟨(some 8), .val (.mov (.t 48)), none⟩]
def l140_1 : RC := .seq (.seq (.reg g140_9) (.cond (.t 35) (.skip) (.exit 4))) (.block 5 (.seq (.reg g140_10) (.seq (.reg g140_11) (.reg g140_12))))
def g140_13 : List Am.Item := [
    ⟨(some 49), .val (.mov (.t 7)), none⟩,
    ⟨(some 50), .val (.mov (.t 6)), none⟩,
    ⟨(some 51), .val (.bin .num .add (.t 49) (.t 50)), none⟩,
    ⟨(some 9), .val (.mov (.t 51)), none⟩]
def g140_14 : List Am.Item := [
    ⟨(some 52), .val (.mov (.t 9)), none⟩,
    ⟨(some 53), .val (.mov (.t 1)), none⟩,
    ⟨(some 54), .val (.bin .num .lss (.t 52) (.t 53)), none⟩]
def g140_15 : List Am.Item := [
    ⟨(some 55), .val (.mov (.t 0)), none⟩,
    ⟨(some 56), .val (.mov (.t 7)), none⟩,
    ⟨(some 57), .val (.mov (.t 9)), none⟩,
    ⟨(some 58), .val (.mov (.t 1)), none⟩,
    ⟨(some 59), .val (.mov (.t 2)), none⟩,
    ⟨(some 60), .callF (.f 154) [(.t 55), (.t 56), (.t 57), (.t 58), (.t 59)], none⟩]
def g140_16 : List Am.Item := [
    ⟨(some 61), .val (.mov (.t 6)), none⟩,
    ⟨(some 62), .val (.bin .num .mul (.t 61) (.c (.int .i64 2))), none⟩,
    ⟨(some 6), .val (.mov (.t 62)), none⟩]
def l140_2 : RC := .seq (.seq (.reg g140_7) (.cond (.t 30) (.skip) (.exit 2))) (.block 3 (.seq (.reg g140_8) (.seq (.block 4 (.loop l140_1)) (.seq (.seq (.reg g140_13) (.seq (.reg g140_14) (.cond (.t 54) (.reg g140_15) (.skip)))) (.reg g140_16)))))
def r140 : RC := .seq (.reg g140_0) (.seq (.reg g140_1) (.seq (.block 0 (.loop l140_0)) (.seq (.reg g140_6) (.block 2 (.loop l140_2)))))
def o140 : List RR := []
theorem k140 : chkC Tryz.prog 63 r140 (Tryz.f140.body.getD .skip) = true := by decide +kernel
theorem q140 : chkR Tryz.prog Tryz.f140.results.toList o140 = true := by decide +kernel

/- slices.IndexFunc[[]wireschema/api.Op,wireschema/api.Op] -/
def g141_0 : List Am.Item := [
    ⟨(some 4), .val (.mov (.c (.int .i64 0))), none⟩]
def g141_1 : List Am.Item := [
    ⟨(some 6), .val (.mov (.t 0)), none⟩,
    ⟨(some 7), .val (.len 1 (.t 6)), none⟩,
    ⟨(some 8), .val (.mov (.c (.int .i64 0))), none⟩]
def g141_2 : List Am.Item := [
    ⟨(some 9), .val (.bin .num .lss (.t 8) (.t 7)), none⟩]
def g141_3 : List Am.Item := [
    ⟨(some 10), .val (.mov (.t 8)), none⟩,
    ⟨(some 5), .val (.mov (.t 10)), none⟩]
def g141_4 : List Am.Item := [
    ⟨(some 11), .val (.mov (.t 1)), none⟩,
    ⟨(some 12), .val (.mov (.t 0)), none⟩,
    ⟨(some 13), .val (.mov (.t 5)), none⟩,
    ⟨(some 14), .val (.iaddr 8 none (.t 12) (.t 13)), none⟩,
    ⟨(some 15), .val (.load (some 8) (.t 14)), none⟩,
    ⟨(some 16), .callF (.t 11) [(.t 15)], none⟩]
def g141_5 : List Am.Item := [
    ⟨(some 17), .val (.mov (.t 5)), none⟩,
    ⟨(some 4), .val (.mov (.t 17)), none⟩]
def g141_6 : List Am.Item := [
    ⟨(some 18), .val (.bin .num .add (.t 8) (.c (.int .i64 1))), none⟩,
    ⟨(some 8), .val (.mov (.t 18)), none⟩]
def l141_0 : RC := .seq (.reg g141_2) (.seq (.cond (.t 9) (.skip) (.exit 0)) (.seq (.block 1 (.seq (.reg g141_3) (.seq (.reg g141_4) (.cond (.t 16) (.seq (.reg g141_5) (.ret)) (.skip))))) (.reg g141_6)))
def g141_7 : List Am.Item := [
    ⟨(some 4), .val (.mov (.c (.int .i64 (-1)))), none⟩]
def r141 : RC := .seq (.reg g141_0) (.seq (.seq (.reg g141_1) (.block 0 (.loop l141_0))) (.seq (.reg g141_7) (.ret)))
def o141 : List RR := [.tmp 4]
theorem k141 : chkC Tryz.prog 19 r141 (Tryz.f141.body.getD .skip) = true := by decide +kernel
theorem q141 : chkR Tryz.prog Tryz.f141.results.toList o141 = true := by decide +kernel

/- slices.Clone[[]wireschema/api.Pair,wireschema/api.Pair] -/
def g142_0 : List Am.Item := [
    ⟨(some 2), .val (.mov (.c (.nils))), none⟩]
def g142_1 : List Am.Item := [
    ⟨(some 3), .val (.mov (.t 0)), none⟩,
    ⟨(some 4), .isnil false (.t 3), none⟩]
def g142_2 : List Am.Item := [
    ⟨(some 2), .val (.mov (.c (.nils))), none⟩]
def g142_3 : List Am.Item := [
    ⟨(some 5), .bsl0 5 14, none⟩,
    ⟨(some 6), .val (.mov (.t 0)), none⟩,
    ⟨(some 7), .app 14 256 121 (.t 5) (.t 6), none⟩,
    ⟨(some 2), .val (.mov (.t 7)), none⟩]
def r142 : RC := .seq (.reg g142_0) (.seq (.seq (.reg g142_1) (.cond (.t 4) (.seq (.reg g142_2) (.gho (.vec 2 2 14) (.gho (.give 2 2 1 1000) (.ret)))) (.skip))) (.seq (.reg g142_3) (.gho (.give 2 5 1 1000) (.ret))))
def o142 : List RR := [.tmp 2]
theorem k142 : chkC Tryz.prog 8 r142 (Tryz.f142.body.getD .skip) = true := by decide +kernel
theorem q142 : chkR Tryz.prog Tryz.f142.results.toList o142 = true := by decide +kernel

/- wireschema/scalar.Class -/
def g41_0 : List Am.Item := [
    ⟨(some 2), .val (.mov (.c (.int .i64 0))), none⟩]
def g41_1 : List Am.Item := [
    ⟨(some 5), .val (.mov (.t 0)), none⟩,
    ⟨(some 6), .val (.bin .num .and (.t 5) (.c (.int .u64 9218868437227405312))), none⟩,
    ⟨(some 7), .val (.mov (.t 0)), none⟩,
    ⟨(some 8), .val (.bin .num .and (.t 7) (.c (.int .u64 4503599627370495))), none⟩,
    ⟨(some 3), .val (.mov (.t 6)), none⟩,
    ⟨(some 4), .val (.mov (.t 8)), none⟩]
def g41_2 : List Am.Item := [
    ⟨(some 10), .val (.mov (.t 3)), none⟩,
    ⟨(some 11), .val (.bin .num .eql (.t 10) (.c (.int .u64 9218868437227405312))), none⟩,
    ⟨(some 12), .val (.mov (.t 11)), none⟩,
    ⟨(some 13), .val (.mov (.t 4)), (some (12, true))⟩,
    ⟨(some 14), .val (.bin .num .neq (.t 13) (.c (.int .u64 0))), (some (12, true))⟩,
    ⟨(some 15), .val (.pick (.t 12) (.t 14) (.c (.bool false))), none⟩,
    ⟨(some 9), .val (.mov (.t 15)), none⟩]
def g41_3 : List Am.Item := [
    ⟨(some 2), .val (.mov (.c (.int .i64 0))), none⟩]
def g41_4 : List Am.Item := [
    ⟨(some 17), .val (.mov (.t 3)), none⟩,
    ⟨(some 18), .val (.bin .num .eql (.t 17) (.c (.int .u64 9218868437227405312))), none⟩,
    ⟨(some 16), .val (.mov (.t 18)), none⟩]
def g41_5 : List Am.Item := [
    ⟨(some 2), .val (.mov (.c (.int .i64 1))), none⟩]
def g41_6 : List Am.Item := [
    ⟨(some 20), .val (.mov (.t 3)), none⟩,
    ⟨(some 21), .val (.bin .num .eql (.t 20) (.c (.int .u64 0))), none⟩,
    ⟨(some 22), .val (.mov (.t 21)), none⟩,
    ⟨(some 23), .val (.mov (.t 4)), (some (22, true))⟩,
    ⟨(some 24), .val (.bin .num .eql (.t 23) (.c (.int .u64 0))), (some (22, true))⟩,
    ⟨(some 25), .val (.pick (.t 22) (.t 24) (.c (.bool false))), none⟩,
    ⟨(some 19), .val (.mov (.t 25)), none⟩]
def g41_7 : List Am.Item := [
    ⟨(some 2), .val (.mov (.c (.int .i64 2))), none⟩]
def g41_8 : List Am.Item := [
    ⟨(some 27), .val (.mov (.t 3)), none⟩,
    ⟨(some 28), .val (.bin .num .eql (.t 27) (.c (.int .u64 0))), none⟩,
    ⟨(some 26), .val (.mov (.t 28)), none⟩]
def g41_9 : List Am.Item := [
    ⟨(some 2), .val (.mov (.c (.int .i64 3))), none⟩]
def g41_10 : List Am.Item := [
    ⟨(some 2), .val (.mov (.c (.int .i64 4))), none⟩]
def r41 : RC := .seq (.reg g41_0) (.seq (.seq (.reg g41_1) (.block 0 (.seq (.reg g41_2) (.cond (.t 9) (.seq (.reg g41_3) (.ret)) (.seq (.reg g41_4) (.cond (.t 16) (.seq (.reg g41_5) (.ret)) (.seq (.reg g41_6) (.cond (.t 19) (.seq (.reg g41_7) (.ret)) (.seq (.reg g41_8) (.cond (.t 26) (.seq (.reg g41_9) (.ret)) (.skip))))))))))) (.seq (.reg g41_10) (.ret)))
def o41 : List RR := [.tmp 2]
theorem k41 : chkC Tryz.prog 29 r41 (Tryz.f41.body.getD .skip) = true := by decide +kernel
theorem q41 : chkR Tryz.prog Tryz.f41.results.toList o41 = true := by decide +kernel

/- wireschema/scalar.Is -/
def g10_0 : List Am.Item := [
    ⟨(some 2), .val (.mov (.c (.bool false))), none⟩]
def g10_1 : List Am.Item := [
    ⟨(some 3), .val (.mov (.t 0)), none⟩,
    ⟨(some 4), .val (.bin .num .geq (.t 3) (.c (.int .i64 1))), none⟩,
    ⟨(some 5), .val (.mov (.t 4)), none⟩,
    ⟨(some 6), .val (.mov (.t 0)), (some (5, true))⟩,
    ⟨(some 7), .val (.bin .num .leq (.t 6) (.c (.int .i64 9))), (some (5, true))⟩,
    ⟨(some 8), .val (.pick (.t 5) (.t 7) (.c (.bool false))), none⟩,
    ⟨(some 2), .val (.mov (.t 8)), none⟩]
def r10 : RC := .seq (.reg g10_0) (.seq (.reg g10_1) (.ret))
def o10 : List RR := [.tmp 2]
theorem k10 : chkC Tryz.prog 9 r10 (Tryz.f10.body.getD .skip) = true := by decide +kernel
theorem q10 : chkR Tryz.prog Tryz.f10.results.toList o10 = true := by decide +kernel

/- wireschema/scalar.lean -/
def g37_0 : List Am.Item := [
    ⟨(some 1), .boxN 1 (.t 0), none⟩,
    ⟨(some 2), .val (.mov (.c (.bool false))), none⟩]
def g37_1 : List Am.Item := [
    ⟨(some 3), .val (.faddr 3 (.t 1)), none⟩,
    ⟨(some 4), .val (.load none (.t 3)), none⟩,
    ⟨(some 5), .val (.len 1 (.t 4)), none⟩,
    ⟨(some 6), .val (.faddr 4 (.t 1)), none⟩,
    ⟨(some 7), .val (.load none (.t 6)), none⟩,
    ⟨(some 8), .val (.len 1 (.t 7)), none⟩,
    ⟨(some 9), .val (.bin .num .add (.t 5) (.t 8)), none⟩,
    ⟨(some 10), .val (.faddr 5 (.t 1)), none⟩,
    ⟨(some 11), .val (.load none (.t 10)), none⟩,
    ⟨(some 12), .val (.len 1 (.t 11)), none⟩,
    ⟨(some 13), .val (.bin .num .add (.t 9) (.t 12)), none⟩,
    ⟨(some 14), .val (.faddr 6 (.t 1)), none⟩,
    ⟨(some 15), .val (.load none (.t 14)), none⟩,
    ⟨(some 16), .val (.len 1 (.t 15)), none⟩,
    ⟨(some 17), .val (.bin .num .add (.t 13) (.t 16)), none⟩,
    ⟨(some 18), .val (.bin .num .gtr (.t 17) (.c (.int .i64 0))), none⟩]
def g37_2 : List Am.Item := [
    ⟨(some 2), .val (.mov (.c (.bool false))), none⟩]
def g37_3 : List Am.Item := [
    ⟨(some 19), .val (.faddr 0 (.t 1)), none⟩,
    ⟨(some 20), .val (.load none (.t 19)), none⟩,
    ⟨(some 21), .call (.f 60) [(.t 20)], none⟩]
def g37_4 : List Am.Item := [
    ⟨(some 22), .val (.faddr 1 (.t 1)), none⟩,
    ⟨(some 23), .val (.load none (.t 22)), none⟩,
    ⟨(some 24), .val (.bin .num .eql (.t 23) (.c (.int .u64 0))), none⟩,
    ⟨(some 2), .val (.mov (.t 24)), none⟩]
def g37_5 : List Am.Item := [
    ⟨(some 25), .val (.faddr 2 (.t 1)), none⟩,
    ⟨(some 26), .val (.load none (.t 25)), none⟩,
    ⟨(some 27), .val (.bin .str .eql (.t 26) (.c (.str []))), none⟩,
    ⟨(some 2), .val (.mov (.t 27)), none⟩]
def r37 : RC := .seq (.reg g37_0) (.seq (.seq (.reg g37_1) (.cond (.t 18) (.seq (.reg g37_2) (.ret)) (.skip))) (.seq (.seq (.reg g37_3) (.cond (.t 21) (.seq (.reg g37_4) (.ret)) (.skip))) (.seq (.reg g37_5) (.ret))))
def o37 : List RR := [.tmp 2]
theorem k37 : chkC Tryz.prog 28 r37 (Tryz.f37.body.getD .skip) = true := by decide +kernel
theorem q37 : chkR Tryz.prog Tryz.f37.results.toList o37 = true := by decide +kernel

/- wireschema/utf.Valid -/
def g12_0 : List Am.Item := [
    ⟨(some 2), .val (.mov (.c (.bool false))), none⟩]
def g12_1 : List Am.Item := [
    ⟨(some 3), .val (.mov (.t 0)), none⟩,
    ⟨(some 4), .call (.f 36) [(.t 3)], none⟩,
    ⟨(some 5), .val (.bin .num .lss (.t 4) (.c (.int .i64 0))), none⟩,
    ⟨(some 2), .val (.mov (.t 5)), none⟩]
def r12 : RC := .seq (.reg g12_0) (.seq (.reg g12_1) (.ret))
def o12 : List RR := [.tmp 2]
theorem k12 : chkC Tryz.prog 6 r12 (Tryz.f12.body.getD .skip) = true := by decide +kernel
theorem q12 : chkR Tryz.prog Tryz.f12.results.toList o12 = true := by decide +kernel

/- wireschema/varint.Zag -/
def g13_0 : List Am.Item := [
    ⟨(some 2), .val (.mov (.c (.int .i64 0))), none⟩]
def g13_1 : List Am.Item := [
    ⟨(some 3), .val (.mov (.t 0)), none⟩,
    ⟨(some 4), .val (.bin .num .shr (.t 3) (.c (.int .u64 1))), none⟩,
    ⟨(some 5), .val (.cvi .i64 (.t 4)), none⟩,
    ⟨(some 6), .val (.mov (.t 0)), none⟩,
    ⟨(some 7), .val (.bin .num .and (.t 6) (.c (.int .u64 1))), none⟩,
    ⟨(some 8), .val (.cvi .i64 (.t 7)), none⟩,
    ⟨(some 9), .val (.un .neg (.t 8)), none⟩,
    ⟨(some 10), .val (.bin .num .xor (.t 5) (.t 9)), none⟩,
    ⟨(some 2), .val (.mov (.t 10)), none⟩]
def r13 : RC := .seq (.reg g13_0) (.seq (.reg g13_1) (.ret))
def o13 : List RR := [.tmp 2]
theorem k13 : chkC Tryz.prog 11 r13 (Tryz.f13.body.getD .skip) = true := by decide +kernel
theorem q13 : chkR Tryz.prog Tryz.f13.results.toList o13 = true := by decide +kernel

/- wireschema/scalar.Fits -/
def g14_0 : List Am.Item := [
    ⟨(some 3), .boxN 3 (.t 1), none⟩,
    ⟨(some 4), .val (.mov (.c (.bool false))), none⟩]
def g14_1 : List Am.Item := [
    ⟨(some 5), .val (.mov (.t 0)), none⟩,
    ⟨(some 6), .call (.f 10) [(.t 5)], none⟩,
    ⟨(some 7), .val (.un .not (.t 6)), none⟩,
    ⟨(some 8), .val (.mov (.t 7)), none⟩,
    ⟨(some 9), .val (.faddr 0 (.t 3)), (some (8, false))⟩,
    ⟨(some 10), .val (.load none (.t 9)), (some (8, false))⟩,
    ⟨(some 11), .val (.mov (.t 0)), (some (8, false))⟩,
    ⟨(some 12), .val (.bin .num .neq (.t 10) (.t 11)), (some (8, false))⟩,
    ⟨(some 13), .val (.pick (.t 8) (.c (.bool true)) (.t 12)), none⟩,
    ⟨(some 14), .val (.mov (.t 13)), none⟩,
    ⟨(some 15), .val (.load (some 7) (.t 3)), (some (14, false))⟩,
    ⟨(some 16), .call (.f 37) [(.t 15)], (some (14, false))⟩,
    ⟨(some 17), .val (.un .not (.t 16)), (some (14, false))⟩,
    ⟨(some 18), .val (.pick (.t 14) (.c (.bool true)) (.t 17)), none⟩,
    ⟨(some 19), .val (.mov (.t 18)), none⟩,
    ⟨(some 20), .val (.mov (.t 0)), (some (19, false))⟩,
    ⟨(some 21), .val (.faddr 1 (.t 3)), (some (19, false))⟩,
    ⟨(some 22), .val (.load none (.t 21)), (some (19, false))⟩,
    ⟨(some 23), .call (.f 38) [(.t 20), (.t 22)], (some (19, false))⟩,
    ⟨(some 24), .val (.un .not (.t 23)), (some (19, false))⟩,
    ⟨(some 25), .val (.pick (.t 19) (.c (.bool true)) (.t 24)), none⟩,
    ⟨(some 26), .val (.mov (.t 25)), none⟩,
    ⟨(some 27), .val (.faddr 2 (.t 3)), (some (26, false))⟩,
    ⟨(some 28), .val (.load none (.t 27)), (some (26, false))⟩,
    ⟨(some 29), .val (.len 0 (.t 28)), (some (26, false))⟩,
    ⟨(some 30), .val (.bin .num .gtr (.t 29) (.c (.int .i64 4096))), (some (26, false))⟩,
    ⟨(some 31), .val (.pick (.t 26) (.c (.bool true)) (.t 30)), none⟩]
def g14_2 : List Am.Item := [
    ⟨(some 4), .val (.mov (.c (.bool false))), none⟩]
def g14_3 : List Am.Item := [
    ⟨(some 32), .val (.mov (.t 0)), none⟩,
    ⟨(some 33), .val (.bin .num .neq (.t 32) (.c (.int .i64 7))), none⟩,
    ⟨(some 34), .val (.mov (.t 33)), none⟩,
    ⟨(some 35), .val (.faddr 2 (.t 3)), (some (34, false))⟩,
    ⟨(some 36), .val (.load none (.t 35)), (some (34, false))⟩,
    ⟨(some 37), .call (.f 12) [(.t 36)], (some (34, false))⟩,
    ⟨(some 38), .val (.pick (.t 34) (.c (.bool true)) (.t 37)), none⟩,
    ⟨(some 4), .val (.mov (.t 38)), none⟩]
def r14 : RC := .seq (.reg g14_0) (.seq (.seq (.reg g14_1) (.cond (.t 31) (.seq (.reg g14_2) (.ret)) (.skip))) (.seq (.reg g14_3) (.ret)))
def o14 : List RR := [.tmp 4]
theorem k14 : chkC Tryz.prog 39 r14 (Tryz.f14.body.getD .skip) = true := by decide +kernel
theorem q14 : chkR Tryz.prog Tryz.f14.results.toList o14 = true := by decide +kernel

/- wireschema/plan.Accepts -/
def g15_0 : List Am.Item := [
    ⟨(some 3), .boxN 3 (.t 0), none⟩,
    ⟨(some 5), .boxN 5 (.t 2), none⟩,
    ⟨(some 6), .val (.mov (.c (.bool false))), none⟩]
def g15_1 : List Am.Item := [
    ⟨(some 8), .val (.mov (.t 1)), none⟩,
    ⟨(some 9), .val (.bin .num .lss (.t 8) (.c (.int .i64 0))), none⟩,
    ⟨(some 10), .val (.mov (.t 9)), none⟩,
    ⟨(some 11), .val (.mov (.t 1)), (some (10, false))⟩,
    ⟨(some 12), .val (.faddr 1 (.t 3)), (some (10, false))⟩,
    ⟨(some 13), .val (.load none (.t 12)), (some (10, false))⟩,
    ⟨(some 14), .val (.len 1 (.t 13)), (some (10, false))⟩,
    ⟨(some 15), .val (.bin .num .geq (.t 11) (.t 14)), (some (10, false))⟩,
    ⟨(some 16), .val (.pick (.t 10) (.c (.bool true)) (.t 15)), none⟩,
    ⟨(some 17), .val (.mov (.t 16)), none⟩,
    ⟨(some 18), .val (.load none (.t 5)), (some (17, false))⟩,
    ⟨(some 19), .val (.bin .num .gtr (.t 18) (.c (.int .u64 2147483647))), (some (17, false))⟩,
    ⟨(some 20), .val (.pick (.t 17) (.c (.bool true)) (.t 19)), none⟩]
def g15_2 : List Am.Item := [
    ⟨(some 6), .val (.mov (.c (.bool false))), none⟩]
def g15_3 : List Am.Item := [
    ⟨(some 21), .val (.faddr 1 (.t 3)), none⟩,
    ⟨(some 22), .val (.load none (.t 21)), none⟩,
    ⟨(some 23), .val (.mov (.t 1)), none⟩,
    ⟨(some 24), .val (.iaddr 5 none (.t 22) (.t 23)), none⟩,
    ⟨(some 25), .val (.load (some 5) (.t 24)), none⟩,
    ⟨(some 7), .allocN 7 [.str [], .bool false, .nils, .nils, .nils], none⟩,
    ⟨none, .store 5 (.t 7) (.t 25), none⟩]
def g15_4 : List Am.Item := [
    ⟨(some 26), .val (.faddr 1 (.t 7)), none⟩,
    ⟨(some 27), .val (.load none (.t 26)), none⟩,
    ⟨(some 28), .val (.mov (.t 27)), none⟩,
    ⟨(some 29), .val (.faddr 2 (.t 7)), (some (28, false))⟩,
    ⟨(some 30), .val (.load none (.t 29)), (some (28, false))⟩,
    ⟨(some 31), .val (.mkfn (.func 40) [] [(.t 5)]), (some (28, false))⟩,
    ⟨(some 32), .callF (.f 39) [(.t 30), (.t 31)], (some (28, false))⟩,
    ⟨(some 33), .val (.pick (.t 28) (.c (.bool true)) (.t 32)), none⟩,
    ⟨(some 6), .val (.mov (.t 33)), none⟩]
def r15 : RC := .seq (.reg g15_0) (.seq (.seq (.reg g15_1) (.cond (.t 20) (.seq (.reg g15_2) (.ret)) (.skip))) (.seq (.reg g15_3) (.seq (.reg g15_4) (.ret))))
def o15 : List RR := [.tmp 6]
theorem k15 : chkC Tryz.prog 34 r15 (Tryz.f15.body.getD .skip) = true := by decide +kernel
theorem q15 : chkR Tryz.prog Tryz.f15.results.toList o15 = true := by decide +kernel

/- slices.insertionSortCmpFunc[wireschema/api.Slot] -/
def g153_0 : List Am.Item := [
    ⟨(some 10), .val (.mov (.t 1)), none⟩,
    ⟨(some 11), .val (.bin .num .add (.t 10) (.c (.int .i64 1))), none⟩,
    ⟨(some 8), .val (.mov (.t 11)), none⟩]
def g153_1 : List Am.Item := [
    ⟨(some 12), .val (.mov (.t 8)), none⟩,
    ⟨(some 13), .val (.mov (.t 2)), none⟩,
    ⟨(some 14), .val (.bin .num .lss (.t 12) (.t 13)), none⟩]
def g153_3 : List Am.Item := [
    ⟨(some 17), .val (.mov (.t 8)), none⟩,
    ⟨(some 9), .val (.mov (.t 17)), none⟩]
def g153_4 : List Am.Item := [
    ⟨(some 18), .val (.mov (.t 9)), none⟩,
    ⟨(some 19), .val (.mov (.t 1)), none⟩,
    ⟨(some 20), .val (.bin .num .gtr (.t 18) (.t 19)), none⟩,
    ⟨(some 21), .val (.mov (.t 20)), none⟩,
    ⟨(some 22), .val (.mov (.t 3)), (some (21, true))⟩,
    ⟨(some 23), .val (.mov (.t 0)), (some (21, true))⟩,
    ⟨(some 24), .val (.mov (.t 9)), (some (21, true))⟩,
    ⟨(some 25), .val (.iaddr 8 none (.t 23) (.t 24)), (some (21, true))⟩,
    ⟨(some 26), .val (.loadr (some 8) (.t 25)), (some (21, true))⟩,
    ⟨(some 27), .val (.mov (.t 0)), (some (21, true))⟩,
    ⟨(some 28), .val (.mov (.t 9)), (some (21, true))⟩,
    ⟨(some 29), .val (.bin .num .sub (.t 28) (.c (.int .i64 1))), (some (21, true))⟩,
    ⟨(some 30), .val (.iaddr 8 none (.t 27) (.t 29)), (some (21, true))⟩,
    ⟨(some 31), .val (.loadr (some 8) (.t 30)), (some (21, true))⟩,
    ⟨(some 32), .call (.t 22) [(.t 26), (.t 31)], (some (21, true))⟩,
    ⟨(some 33), .val (.bin .num .lss (.t 32) (.c (.int .i64 0))), (some (21, true))⟩,
    ⟨(some 34), .val (.pick (.t 21) (.t 33) (.c (.bool false))), none⟩]
def g153_6 : List Am.Item := [
    ⟨(some 37), .val (.mov (.t 0)), none⟩,
    ⟨(some 38), .val (.mov (.t 9)), none⟩,
    ⟨(some 39), .val (.mov (.t 0)), none⟩,
    ⟨(some 40), .val (.mov (.t 9)), none⟩,
    ⟨(some 41), .val (.bin .num .sub (.t 40) (.c (.int .i64 1))), none⟩,
    ⟨(some 42), .val (.mov (.t 0)), none⟩,
    ⟨(some 43), .val (.mov (.t 9)), none⟩,
    ⟨(some 44), .val (.bin .num .sub (.t 43) (.c (.int .i64 1))), none⟩,
    ⟨(some 45), .val (.iaddr 8 none (.t 42) (.t 44)), none⟩,
    ⟨(some 46), .val (.loadr (some 8) (.t 45)), none⟩,
    ⟨(some 47), .val (.mov (.t 0)), none⟩,
    ⟨(some 48), .val (.mov (.t 9)), none⟩,
    ⟨(some 49), .val (.iaddr 8 none (.t 47) (.t 48)), none⟩,
    ⟨(some 50), .val (.loadr (some 8) (.t 49)), none⟩,
    ⟨(some 51), .val (.iaddr 8 none (.t 37) (.t 38)), none⟩,
    ⟨none, .store 8 (.t 51) (.t 46), none⟩,
    ⟨(some 52), .val (.iaddr 8 none (.t 39) (.t 41)), none⟩,
    ⟨none, .store 8 (.t 52) (.t 50), none⟩]
def g153_5 : List Am.Item := [
    ⟨(some 35), .val (.mov (.t 9)), none⟩,
    ⟨(some 36), .val (.bin .num .sub (.t 35) (.c (.int .i64 1))), none⟩,
    ⟨(some 9), .val (.mov (.t 36)), none⟩]
def l153_0 : RC := .seq (.seq (.draw g153_4) (.cond (.t 34) (.skip) (.exit 2))) (.seq (.block 3 (.draw g153_6)) (.reg g153_5))
def g153_2 : List Am.Item := [
    ⟨(some 15), .val (.mov (.t 8)), none⟩,
    ⟨(some 16), .val (.bin .num .add (.t 15) (.c (.int .i64 1))), none⟩,
    ⟨(some 8), .val (.mov (.t 16)), none⟩]
def l153_1 : RC := .seq (.seq (.reg g153_1) (.cond (.t 14) (.skip) (.exit 0))) (.seq (.block 1 (.seq (.reg g153_3) (.block 2 (.loop l153_0)))) (.reg g153_2))
def r153 : RC := .seq (.reg g153_0) (.block 0 (.loop l153_1))
def o153 : List RR := []
theorem k153 : chkC Tryz.prog 53 r153 (Tryz.f153.body.getD .skip) = true := by decide +kernel
theorem q153 : chkR Tryz.prog Tryz.f153.results.toList o153 = true := by decide +kernel

/- wireschema/scalar.texty -/
def g60_0 : List Am.Item := [
    ⟨(some 2), .val (.mov (.c (.bool false))), none⟩]
def g60_1 : List Am.Item := [
    ⟨(some 3), .val (.mov (.t 0)), none⟩,
    ⟨(some 4), .val (.bin .num .eql (.t 3) (.c (.int .i64 7))), none⟩,
    ⟨(some 5), .val (.mov (.t 4)), none⟩,
    ⟨(some 6), .val (.mov (.t 0)), (some (5, false))⟩,
    ⟨(some 7), .val (.bin .num .eql (.t 6) (.c (.int .i64 8))), (some (5, false))⟩,
    ⟨(some 8), .val (.pick (.t 5) (.c (.bool true)) (.t 7)), none⟩,
    ⟨(some 2), .val (.mov (.t 8)), none⟩]
def r60 : RC := .seq (.reg g60_0) (.seq (.reg g60_1) (.ret))
def o60 : List RR := [.tmp 2]
theorem k60 : chkC Tryz.prog 9 r60 (Tryz.f60.body.getD .skip) = true := by decide +kernel
theorem q60 : chkR Tryz.prog Tryz.f60.results.toList o60 = true := by decide +kernel

/- wireschema/scalar.within -/
def g38_0 : List Am.Item := [
    ⟨(some 4), .val (.mov (.c (.bool false))), none⟩]
def g38_1 : List Am.Item := [
    ⟨(some 5), .val (.mov (.c (.int .u64 4294967295))), none⟩]
def g38_2 : List Am.Item := [
    ⟨(some 6), .val (.mov (.t 0)), none⟩]
def g38_3 : List Am.Item := [
    ⟨(some 8), .val (.bin .num .eql (.t 6) (.c (.int .i64 1))), none⟩,
    ⟨(some 7), .val (.mov (.t 8)), none⟩]
def g38_4 : List Am.Item := [
    ⟨(some 10), .val (.bin .num .eql (.t 6) (.c (.int .i64 2))), none⟩,
    ⟨(some 9), .val (.mov (.t 10)), none⟩]
def g38_5 : List Am.Item := [
    ⟨(some 12), .val (.bin .num .eql (.t 6) (.c (.int .i64 9))), none⟩,
    ⟨(some 11), .val (.mov (.t 12)), none⟩]
def g38_6 : List Am.Item := [
    ⟨(some 14), .val (.bin .num .eql (.t 6) (.c (.int .i64 4))), none⟩,
    ⟨(some 13), .val (.mov (.t 14)), none⟩]
def g38_7 : List Am.Item := [
    ⟨(some 15), .val (.mov (.t 1)), none⟩,
    ⟨(some 16), .val (.bin .num .leq (.t 15) (.c (.int .u64 1))), none⟩,
    ⟨(some 4), .val (.mov (.t 16)), none⟩]
def g38_8 : List Am.Item := [
    ⟨(some 17), .val (.mov (.t 1)), none⟩,
    ⟨(some 18), .val (.cvi .i64 (.t 17)), none⟩,
    ⟨(some 19), .val (.bin .num .geq (.t 18) (.c (.int .i64 (-2147483648)))), none⟩,
    ⟨(some 20), .val (.mov (.t 19)), none⟩,
    ⟨(some 21), .val (.mov (.t 1)), (some (20, true))⟩,
    ⟨(some 22), .val (.cvi .i64 (.t 21)), (some (20, true))⟩,
    ⟨(some 23), .val (.bin .num .leq (.t 22) (.c (.int .i64 2147483647))), (some (20, true))⟩,
    ⟨(some 24), .val (.pick (.t 20) (.t 23) (.c (.bool false))), none⟩,
    ⟨(some 4), .val (.mov (.t 24)), none⟩]
def g38_9 : List Am.Item := [
    ⟨(some 5), .val (.mov (.c (.int .u64 2147483647))), none⟩]
def g38_10 : List Am.Item := [
    ⟨(some 25), .val (.mov (.t 1)), none⟩,
    ⟨(some 26), .val (.mov (.t 5)), none⟩,
    ⟨(some 27), .val (.bin .num .leq (.t 25) (.t 26)), none⟩,
    ⟨(some 4), .val (.mov (.t 27)), none⟩]
def g38_11 : List Am.Item := [
    ⟨(some 4), .val (.mov (.c (.bool true))), none⟩]
def r38 : RC := .seq (.reg g38_0) (.seq (.reg g38_1) (.seq (.seq (.reg g38_2) (.block 0 (.seq (.block 4 (.seq (.block 3 (.seq (.block 2 (.seq (.block 1 (.seq (.seq (.seq (.reg g38_3) (.cond (.t 7) (.exit 1) (.skip))) (.seq (.seq (.reg g38_4) (.cond (.t 9) (.exit 2) (.skip))) (.seq (.seq (.reg g38_5) (.cond (.t 11) (.exit 3) (.skip))) (.seq (.reg g38_6) (.cond (.t 13) (.exit 4) (.skip)))))) (.exit 0))) (.seq (.seq (.reg g38_7) (.ret)) (.exit 0)))) (.seq (.seq (.reg g38_8) (.ret)) (.exit 0)))) (.reg g38_9))) (.seq (.seq (.reg g38_10) (.ret)) (.exit 0))))) (.seq (.reg g38_11) (.ret))))
def o38 : List RR := [.tmp 4]
theorem k38 : chkC Tryz.prog 28 r38 (Tryz.f38.body.getD .skip) = true := by decide +kernel
theorem q38 : chkR Tryz.prog Tryz.f38.results.toList o38 = true := by decide +kernel

/- slices.ContainsFunc[[]wireschema/api.Item,wireschema/api.Item] -/
def g39_0 : List Am.Item := [
    ⟨(some 4), .val (.mov (.c (.bool false))), none⟩]
def g39_1 : List Am.Item := [
    ⟨(some 5), .val (.mov (.t 0)), none⟩,
    ⟨(some 6), .val (.mov (.t 1)), none⟩,
    ⟨(some 7), .callF (.f 61) [(.t 5), (.t 6)], none⟩,
    ⟨(some 8), .val (.bin .num .geq (.t 7) (.c (.int .i64 0))), none⟩,
    ⟨(some 4), .val (.mov (.t 8)), none⟩]
def r39 : RC := .seq (.reg g39_0) (.seq (.reg g39_1) (.ret))
def o39 : List RR := [.tmp 4]
theorem k39 : chkC Tryz.prog 9 r39 (Tryz.f39.body.getD .skip) = true := by decide +kernel
theorem q39 : chkR Tryz.prog Tryz.f39.results.toList o39 = true := by decide +kernel

/- wireschema/plan.Accepts$1 -/
def g40_0 : List Am.Item := [
    ⟨(some 2), .boxN 2 (.t 0), none⟩,
    ⟨(some 3), .val (.mov (.c (.bool false))), none⟩]
def g40_1 : List Am.Item := [
    ⟨(some 4), .val (.faddr 1 (.t 2)), none⟩,
    ⟨(some 5), .val (.load none (.t 4)), none⟩,
    ⟨(some 6), .val (.cvi .u64 (.t 5)), none⟩,
    ⟨(some 7), .val (.load none (.t 1)), none⟩,
    ⟨(some 8), .val (.bin .num .eql (.t 6) (.t 7)), none⟩,
    ⟨(some 3), .val (.mov (.t 8)), none⟩]
def r40 : RC := .seq (.reg g40_0) (.seq (.reg g40_1) (.ret))
def o40 : List RR := [.tmp 3]
theorem k40 : chkC Tryz.prog 9 r40 (Tryz.f40.body.getD .skip) = true := by decide +kernel
theorem q40 : chkR Tryz.prog Tryz.f40.results.toList o40 = true := by decide +kernel

/- wireschema/utf.wrong -/
def g59_0 : List Am.Item := [
    ⟨(some 6), .val (.mov (.c (.bool false))), none⟩]
def g59_1 : List Am.Item := [
    ⟨(some 7), .val (.mov (.t 2)), none⟩,
    ⟨(some 8), .val (.bin .num .eql (.t 7) (.c (.int .i32 65533))), none⟩,
    ⟨(some 9), .val (.mov (.t 8)), none⟩,
    ⟨(some 10), .val (.mov (.t 0)), (some (9, true))⟩,
    ⟨(some 11), .val (.mov (.t 1)), (some (9, true))⟩,
    ⟨(some 12), .val (.slc none (.t 10) (some (.t 11)) none none), (some (9, true))⟩,
    ⟨(some 13), .call (.f 86) [(.t 12), (.c (.str [239, 191, 189]))], (some (9, true))⟩,
    ⟨(some 14), .val (.un .not (.t 13)), (some (9, true))⟩,
    ⟨(some 15), .val (.pick (.t 9) (.t 14) (.c (.bool false))), none⟩,
    ⟨(some 6), .val (.mov (.t 15)), none⟩]
def r59 : RC := .seq (.reg g59_0) (.seq (.reg g59_1) (.ret))
def o59 : List RR := [.tmp 6]
theorem k59 : chkC Tryz.prog 16 r59 (Tryz.f59.body.getD .skip) = true := by decide +kernel
theorem q59 : chkR Tryz.prog Tryz.f59.results.toList o59 = true := by decide +kernel

/- slices.IndexFunc[[]wireschema/api.Item,wireschema/api.Item] -/
def g61_0 : List Am.Item := [
    ⟨(some 4), .val (.mov (.c (.int .i64 0))), none⟩]
def g61_1 : List Am.Item := [
    ⟨(some 6), .val (.mov (.t 0)), none⟩,
    ⟨(some 7), .val (.len 1 (.t 6)), none⟩,
    ⟨(some 8), .val (.mov (.c (.int .i64 0))), none⟩]
def g61_2 : List Am.Item := [
    ⟨(some 9), .val (.bin .num .lss (.t 8) (.t 7)), none⟩]
def g61_3 : List Am.Item := [
    ⟨(some 10), .val (.mov (.t 8)), none⟩,
    ⟨(some 5), .val (.mov (.t 10)), none⟩]
def g61_4 : List Am.Item := [
    ⟨(some 11), .val (.mov (.t 1)), none⟩,
    ⟨(some 12), .val (.mov (.t 0)), none⟩,
    ⟨(some 13), .val (.mov (.t 5)), none⟩,
    ⟨(some 14), .val (.iaddr 3 none (.t 12) (.t 13)), none⟩,
    ⟨(some 15), .val (.load (some 3) (.t 14)), none⟩,
    ⟨(some 16), .callF (.t 11) [(.t 15)], none⟩]
def g61_5 : List Am.Item := [
    ⟨(some 17), .val (.mov (.t 5)), none⟩,
    ⟨(some 4), .val (.mov (.t 17)), none⟩]
def g61_6 : List Am.Item := [
    ⟨(some 18), .val (.bin .num .add (.t 8) (.c (.int .i64 1))), none⟩,
    ⟨(some 8), .val (.mov (.t 18)), none⟩]
def l61_0 : RC := .seq (.reg g61_2) (.seq (.cond (.t 9) (.skip) (.exit 0)) (.seq (.block 1 (.seq (.reg g61_3) (.seq (.reg g61_4) (.cond (.t 16) (.seq (.reg g61_5) (.ret)) (.skip))))) (.reg g61_6)))
def g61_7 : List Am.Item := [
    ⟨(some 4), .val (.mov (.c (.int .i64 (-1)))), none⟩]
def r61 : RC := .seq (.reg g61_0) (.seq (.seq (.reg g61_1) (.block 0 (.loop l61_0))) (.seq (.reg g61_7) (.ret)))
def o61 : List RR := [.tmp 4]
theorem k61 : chkC Tryz.prog 19 r61 (Tryz.f61.body.getD .skip) = true := by decide +kernel
theorem q61 : chkR Tryz.prog Tryz.f61.results.toList o61 = true := by decide +kernel

/- strings.HasPrefix -/
def g86_0 : List Am.Item := [
    ⟨(some 4), .val (.mov (.c (.bool false))), none⟩]
def g86_1 : List Am.Item := [
    ⟨(some 5), .val (.mov (.t 0)), none⟩,
    ⟨(some 6), .val (.mov (.t 1)), none⟩,
    ⟨(some 7), .call (.f 107) [(.t 5), (.t 6)], none⟩,
    ⟨(some 4), .val (.mov (.t 7)), none⟩]
def r86 : RC := .seq (.reg g86_0) (.seq (.reg g86_1) (.ret))
def o86 : List RR := [.tmp 4]
theorem k86 : chkC Tryz.prog 8 r86 (Tryz.f86.body.getD .skip) = true := by decide +kernel
theorem q86 : chkR Tryz.prog Tryz.f86.results.toList o86 = true := by decide +kernel

/- internal/stringslite.HasPrefix -/
def g107_0 : List Am.Item := [
    ⟨(some 4), .val (.mov (.c (.bool false))), none⟩]
def g107_1 : List Am.Item := [
    ⟨(some 5), .val (.mov (.t 0)), none⟩,
    ⟨(some 6), .val (.len 0 (.t 5)), none⟩,
    ⟨(some 7), .val (.mov (.t 1)), none⟩,
    ⟨(some 8), .val (.len 0 (.t 7)), none⟩,
    ⟨(some 9), .val (.bin .num .geq (.t 6) (.t 8)), none⟩,
    ⟨(some 10), .val (.mov (.t 9)), none⟩,
    ⟨(some 11), .val (.mov (.t 0)), (some (10, true))⟩,
    ⟨(some 12), .val (.mov (.t 1)), (some (10, true))⟩,
    ⟨(some 13), .val (.len 0 (.t 12)), (some (10, true))⟩,
    ⟨(some 14), .val (.slc none (.t 11) none (some (.t 13)) none), (some (10, true))⟩,
    ⟨(some 15), .val (.mov (.t 1)), (some (10, true))⟩,
    ⟨(some 16), .val (.bin .str .eql (.t 14) (.t 15)), (some (10, true))⟩,
    ⟨(some 17), .val (.pick (.t 10) (.t 16) (.c (.bool false))), none⟩,
    ⟨(some 4), .val (.mov (.t 17)), none⟩]
def r107 : RC := .seq (.reg g107_0) (.seq (.reg g107_1) (.ret))
def o107 : List RR := [.tmp 4]
theorem k107 : chkC Tryz.prog 18 r107 (Tryz.f107.body.getD .skip) = true := by decide +kernel
theorem q107 : chkR Tryz.prog Tryz.f107.results.toList o107 = true := by decide +kernel

end Go.Proofs.YtdmbncmbkocjjaaGreat.Rc

/- Parts of the proof, in order. -/
import Derived.Test.YtofcnjhnjagncaaGreatProg
import Derived.Test.YtofcnjhnjagncaaGreatMTagdecKeeps1

/- The code of functions of the program, as the abstract machine has it. -/
namespace Go.Proofs.YtofcnjhnjagncaaGreat.Rc
open Go Am

/- wireschema/tagdec.Decode -/
def g5_0 : List Am.Item := [
    ⟨(some 4), .boxN 4 (.t 0), none⟩,
    ⟨(some 7), .boxN 7 (.t 3), none⟩,
    ⟨(some 8), .allocN 8 [.int .i64 0, .int .u64 0, .str [], .nils, .nils, .nils, .nils], none⟩,
    ⟨(some 9), .val (.mov (.c (.int .i64 0))), none⟩]
def g5_1 : List Am.Item := [
    ⟨(some 15), .val (.load (some 2) (.t 4)), none⟩,
    ⟨(some 16), .val (.mov (.t 1)), none⟩,
    ⟨(some 17), .val (.build [.int .i64 0, .int .u64 0, .str [], .nils, .nils, .nils, .nils] [(0, 1, (.c (.int .i64 10)))]), none⟩,
    ⟨(some 18), .val (.mov (.t 2)), none⟩,
    ⟨(some 19), .val (.load (some 4) (.t 7)), none⟩,
    ⟨(some 20), .call (.f 11) [(.t 15), (.t 16), (.t 17), (.t 18), (.t 19)], none⟩,
    ⟨(some 14), .val (.mov (.t 20)), none⟩,
    ⟨(some 21), .val (.ext (.t 14) 0), none⟩,
    ⟨(some 22), .val (.ext (.t 14) 1), none⟩,
    ⟨(some 10), .allocN 10 [.int .i64 0, .int .u64 0, .str [], .nils, .nils, .nils, .nils], none⟩,
    ⟨none, .store 7 (.t 10) (.t 21), none⟩,
    ⟨(some 11), .val (.mov (.t 22)), none⟩]
def g5_2 : List Am.Item := [
    ⟨(some 23), .val (.mov (.t 11)), none⟩,
    ⟨(some 24), .val (.bin .num .neq (.t 23) (.c (.int .i64 0))), none⟩]
def g5_3 : List Am.Item := [
    ⟨(some 25), .val (.build [.int .i64 0, .int .u64 0, .str [], .nils, .nils, .nils, .nils] []), none⟩,
    ⟨(some 26), .val (.mov (.t 11)), none⟩,
    ⟨none, .store 7 (.t 8) (.t 25), none⟩,
    ⟨(some 9), .val (.mov (.t 26)), none⟩]
def g5_4 : List Am.Item := [
    ⟨(some 28), .val (.load (some 2) (.t 4)), none⟩,
    ⟨(some 29), .val (.mov (.t 1)), none⟩,
    ⟨(some 30), .call (.f 12) [(.t 28), (.t 29)], none⟩,
    ⟨(some 27), .val (.mov (.t 30)), none⟩,
    ⟨(some 31), .val (.ext (.t 27) 0), none⟩,
    ⟨(some 32), .val (.ext (.t 27) 1), none⟩,
    ⟨(some 12), .val (.mov (.t 31)), none⟩,
    ⟨(some 13), .val (.mov (.t 32)), none⟩]
def g5_5 : List Am.Item := [
    ⟨(some 33), .val (.load (some 2) (.t 4)), none⟩,
    ⟨(some 34), .val (.mov (.t 12)), none⟩,
    ⟨(some 35), .val (.load (some 7) (.t 10)), none⟩,
    ⟨(some 36), .call (.f 13) [(.t 33), (.t 34), (.t 35)], none⟩,
    ⟨(some 37), .val (.un .not (.t 36)), none⟩]
def g5_6 : List Am.Item := [
    ⟨(some 38), .val (.build [.int .i64 0, .int .u64 0, .str [], .nils, .nils, .nils, .nils] []), none⟩,
    ⟨none, .store 7 (.t 8) (.t 38), none⟩,
    ⟨(some 9), .val (.mov (.c (.int .i64 14))), none⟩]
def g5_7 : List Am.Item := [
    ⟨(some 39), .val (.load (some 7) (.t 10)), none⟩,
    ⟨none, .store 7 (.t 8) (.t 39), none⟩,
    ⟨(some 9), .val (.mov (.c (.int .i64 0))), none⟩]
def r5 : RC := .seq (.reg g5_0) (.seq (.reg g5_1) (.seq (.seq (.reg g5_2) (.cond (.t 24) (.seq (.reg g5_3) (.ret)) (.skip))) (.seq (.reg g5_4) (.seq (.seq (.reg g5_5) (.cond (.t 37) (.seq (.reg g5_6) (.ret)) (.skip))) (.seq (.reg g5_7) (.ret))))))
def o5 : List RR := [.cell 8 (some 7), .tmp 9]
theorem k5 : chkC Tryz.prog 40 r5 (Tryz.f5.body.getD .skip) = true := by decide +kernel
theorem q5 : chkR Tryz.prog Tryz.f5.results.toList o5 = true := by decide +kernel

/- wireschema/wireschemalaw25.awake -/
def g6_0 : List Am.Item := [
    ⟨(some 0), .val (.mov (.c (.bool false))), none⟩]
def g6_1 : List Am.Item := [
    ⟨(some 4), .val (.build [.int .i64 0, .str [], .str [], .int .i64 0, .int .i64 0, .int .i64 0, .int .i64 0, .int .i64 0] [(0, 1, (.c (.int .i64 1))), (1, 1, (.c (.str [97]))), (3, 1, (.c (.int .i64 3))), (5, 1, (.c (.int .i64 4))), (6, 1, (.c (.int .i64 (-1)))), (7, 1, (.c (.int .i64 (-1))))]), none⟩,
    ⟨(some 5), .val (.build [.int .i64 0, .str [], .str [], .int .i64 0, .int .i64 0, .int .i64 0, .int .i64 0, .int .i64 0] [(0, 1, (.c (.int .i64 3))), (1, 1, (.c (.str [99]))), (3, 1, (.c (.int .i64 4))), (5, 1, (.c (.int .i64 2))), (6, 1, (.c (.int .i64 (-1)))), (7, 1, (.c (.int .i64 (-1))))]), none⟩,
    ⟨(some 6), .bsl 8 2 [.int .i64 0, .str [], .str [], .int .i64 0, .int .i64 0, .int .i64 0, .int .i64 0, .int .i64 0] [(0, 8, (.t 4)), (8, 8, (.t 5))], none⟩,
    ⟨(some 7), .val (.build [.str [], .nils, .int .i64 0] [(0, 1, (.c (.str [77]))), (1, 1, (.t 6))]), none⟩,
    ⟨(some 1), .allocN 1 [.str [], .nils, .int .i64 0], none⟩,
    ⟨none, .store 3 (.t 1) (.t 7), none⟩]
def g6_2 : List Am.Item := [
    ⟨(some 9), .val (.loadv 0 1 (some 3) (.t 1)), none⟩,
    ⟨(some 10), .bsl 3 1 [.str [], .nils, .int .i64 0] [(0, 3, (.t 9))], none⟩,
    ⟨(some 11), .val (.build [.nils, .nils] [(0, 1, (.t 10))]), none⟩,
    ⟨(some 12), .call (.f 14) [], none⟩,
    ⟨(some 13), .call (.f 5) [(.t 11), (.c (.str [77])), (.c (.str [8, 5, 29, 3, 1, 2, 3])), (.t 12)], none⟩,
    ⟨(some 8), .val (.mov (.t 13)), none⟩,
    ⟨(some 14), .val (.ext (.t 8) 0), none⟩,
    ⟨(some 15), .val (.ext (.t 8) 1), none⟩,
    ⟨(some 2), .allocN 2 [.int .i64 0, .int .u64 0, .str [], .nils, .nils, .nils, .nils], none⟩,
    ⟨none, .storev 0 2 7 (.t 2) (.t 14), none⟩,
    ⟨(some 3), .val (.mov (.t 15)), none⟩]
def g6_3 : List Am.Item := [
    ⟨(some 16), .val (.mov (.t 3)), none⟩,
    ⟨(some 17), .val (.bin .num .eql (.t 16) (.c (.int .i64 0))), none⟩,
    ⟨(some 18), .val (.mov (.t 17)), none⟩,
    ⟨(some 19), .val (.faddr 5 (.t 2)), (some (18, true))⟩,
    ⟨(some 20), .val (.load none (.t 19)), (some (18, true))⟩,
    ⟨(some 21), .val (.len 1 (.t 20)), (some (18, true))⟩,
    ⟨(some 22), .val (.bin .num .eql (.t 21) (.c (.int .i64 2))), (some (18, true))⟩,
    ⟨(some 23), .val (.pick (.t 18) (.t 22) (.c (.bool false))), none⟩,
    ⟨(some 24), .val (.mov (.t 23)), none⟩,
    ⟨(some 25), .val (.faddr 5 (.t 2)), (some (24, true))⟩,
    ⟨(some 26), .val (.load none (.t 25)), (some (24, true))⟩,
    ⟨(some 27), .val (.iaddr 8 none (.t 26) (.c (.int .i64 0))), (some (24, true))⟩,
    ⟨(some 28), .val (.faddr 1 (.t 27)), (some (24, true))⟩,
    ⟨(some 29), .val (.faddr 1 (.t 28)), (some (24, true))⟩,
    ⟨(some 30), .val (.load none (.t 29)), (some (24, true))⟩,
    ⟨(some 31), .val (.bin .num .eql (.t 30) (.c (.int .u64 5))), (some (24, true))⟩,
    ⟨(some 32), .val (.pick (.t 24) (.t 31) (.c (.bool false))), none⟩,
    ⟨(some 33), .val (.mov (.t 32)), none⟩,
    ⟨(some 34), .val (.faddr 5 (.t 2)), (some (33, true))⟩,
    ⟨(some 35), .val (.load none (.t 34)), (some (33, true))⟩,
    ⟨(some 36), .val (.iaddr 8 none (.t 35) (.c (.int .i64 1))), (some (33, true))⟩,
    ⟨(some 37), .val (.faddr 1 (.t 36)), (some (33, true))⟩,
    ⟨(some 38), .val (.faddr 3 (.t 37)), (some (33, true))⟩,
    ⟨(some 39), .val (.load none (.t 38)), (some (33, true))⟩,
    ⟨(some 40), .val (.len 1 (.t 39)), (some (33, true))⟩,
    ⟨(some 41), .val (.bin .num .eql (.t 40) (.c (.int .i64 2))), (some (33, true))⟩,
    ⟨(some 42), .val (.pick (.t 33) (.t 41) (.c (.bool false))), none⟩,
    ⟨(some 43), .val (.mov (.t 42)), none⟩,
    ⟨(some 44), .call (.f 14) [], (some (43, true))⟩,
    ⟨(some 45), .call (.f 15) [], (some (43, true))⟩,
    ⟨(some 46), .val (.eqs false [.num, .num, .num, .num] (.t 44) (.t 45)), (some (43, true))⟩,
    ⟨(some 47), .val (.pick (.t 43) (.t 46) (.c (.bool false))), none⟩,
    ⟨(some 0), .val (.mov (.t 47)), none⟩]
def r6 : RC := .seq (.reg g6_0) (.seq (.reg g6_1) (.seq (.draw g6_2) (.seq (.reg g6_3) (.ret))))
def o6 : List RR := [.tmp 0]
theorem k6 : chkC Tryz.prog 48 r6 (Tryz.f6.body.getD .skip) = true := by decide +kernel
theorem q6 : chkR Tryz.prog Tryz.f6.results.toList o6 = true := by decide +kernel

/- wireschema/cursor.Open -/
def g9_0 : List Am.Item := [
    ⟨(some 3), .boxN 3 (.t 1), none⟩,
    ⟨(some 4), .allocN 4 [.str [], .int .i64 0, .int .i64 0, .int .i64 0, .int .i64 0, .int .i64 0], none⟩,
    ⟨(some 5), .val (.mov (.c (.int .i64 0))), none⟩]
def g9_1 : List Am.Item := [
    ⟨(some 7), .val (.faddr 0 (.t 3)), none⟩,
    ⟨(some 8), .val (.load none (.t 7)), none⟩,
    ⟨(some 9), .val (.bin .num .lss (.t 8) (.c (.int .i64 0))), none⟩,
    ⟨(some 10), .val (.mov (.t 9)), none⟩,
    ⟨(some 11), .val (.faddr 1 (.t 3)), (some (10, false))⟩,
    ⟨(some 12), .val (.load none (.t 11)), (some (10, false))⟩,
    ⟨(some 13), .val (.bin .num .lss (.t 12) (.c (.int .i64 0))), (some (10, false))⟩,
    ⟨(some 14), .val (.pick (.t 10) (.c (.bool true)) (.t 13)), none⟩,
    ⟨(some 15), .val (.mov (.t 14)), none⟩,
    ⟨(some 16), .val (.faddr 2 (.t 3)), (some (15, false))⟩,
    ⟨(some 17), .val (.load none (.t 16)), (some (15, false))⟩,
    ⟨(some 18), .val (.bin .num .lss (.t 17) (.c (.int .i64 0))), (some (15, false))⟩,
    ⟨(some 19), .val (.pick (.t 15) (.c (.bool true)) (.t 18)), none⟩,
    ⟨(some 20), .val (.mov (.t 19)), none⟩,
    ⟨(some 21), .val (.faddr 3 (.t 3)), (some (20, false))⟩,
    ⟨(some 22), .val (.load none (.t 21)), (some (20, false))⟩,
    ⟨(some 23), .val (.bin .num .lss (.t 22) (.c (.int .i64 0))), (some (20, false))⟩,
    ⟨(some 24), .val (.pick (.t 20) (.c (.bool true)) (.t 23)), none⟩,
    ⟨(some 6), .val (.mov (.t 24)), none⟩]
def g9_2 : List Am.Item := [
    ⟨(some 25), .val (.build [.str [], .int .i64 0, .int .i64 0, .int .i64 0, .int .i64 0, .int .i64 0] []), none⟩,
    ⟨none, .store 6 (.t 4) (.t 25), none⟩,
    ⟨(some 5), .val (.mov (.c (.int .i64 1))), none⟩]
def g9_3 : List Am.Item := [
    ⟨(some 27), .val (.mov (.t 0)), none⟩,
    ⟨(some 28), .val (.len 0 (.t 27)), none⟩,
    ⟨(some 29), .val (.faddr 0 (.t 3)), none⟩,
    ⟨(some 30), .val (.load none (.t 29)), none⟩,
    ⟨(some 31), .val (.bin .num .gtr (.t 28) (.t 30)), none⟩,
    ⟨(some 26), .val (.mov (.t 31)), none⟩]
def g9_4 : List Am.Item := [
    ⟨(some 32), .val (.build [.str [], .int .i64 0, .int .i64 0, .int .i64 0, .int .i64 0, .int .i64 0] []), none⟩,
    ⟨none, .store 6 (.t 4) (.t 32), none⟩,
    ⟨(some 5), .val (.mov (.c (.int .i64 3))), none⟩]
def g9_5 : List Am.Item := [
    ⟨(some 33), .val (.mov (.t 0)), none⟩,
    ⟨(some 34), .val (.mov (.t 0)), none⟩,
    ⟨(some 35), .val (.len 0 (.t 34)), none⟩,
    ⟨(some 36), .val (.faddr 1 (.t 3)), none⟩,
    ⟨(some 37), .val (.load none (.t 36)), none⟩,
    ⟨(some 38), .val (.faddr 2 (.t 3)), none⟩,
    ⟨(some 39), .val (.load none (.t 38)), none⟩,
    ⟨(some 40), .val (.faddr 3 (.t 3)), none⟩,
    ⟨(some 41), .val (.load none (.t 40)), none⟩,
    ⟨(some 42), .val (.build [.str [], .int .i64 0, .int .i64 0, .int .i64 0, .int .i64 0, .int .i64 0] [(0, 1, (.t 33)), (2, 1, (.t 35)), (3, 1, (.t 37)), (4, 1, (.t 39)), (5, 1, (.t 41))]), none⟩,
    ⟨none, .store 6 (.t 4) (.t 42), none⟩,
    ⟨(some 5), .val (.mov (.c (.int .i64 0))), none⟩]
def r9 : RC := .seq (.reg g9_0) (.seq (.block 0 (.seq (.reg g9_1) (.cond (.t 6) (.seq (.reg g9_2) (.ret)) (.seq (.reg g9_3) (.cond (.t 26) (.seq (.reg g9_4) (.ret)) (.skip)))))) (.seq (.reg g9_5) (.ret)))
def o9 : List RR := [.cell 4 (some 6), .tmp 5]
theorem k9 : chkC Tryz.prog 43 r9 (Tryz.f9.body.getD .skip) = true := by decide +kernel
theorem q9 : chkR Tryz.prog Tryz.f9.results.toList o9 = true := by decide +kernel

/- wireschema/tagdec.Onto -/
def g11_0 : List Am.Item := [
    ⟨(some 5), .boxN 5 (.t 0), none⟩,
    ⟨(some 7), .boxN 7 (.t 2), none⟩,
    ⟨(some 9), .boxN 9 (.t 4), none⟩,
    ⟨(some 10), .allocN 10 [.int .i64 0, .int .u64 0, .str [], .nils, .nils, .nils, .nils], none⟩,
    ⟨(some 11), .val (.mov (.c (.int .i64 0))), none⟩]
def g11_1 : List Am.Item := [
    ⟨(some 19), .val (.load (some 2) (.t 5)), none⟩,
    ⟨(some 20), .val (.mov (.t 1)), none⟩,
    ⟨(some 21), .call (.f 12) [(.t 19), (.t 20)], none⟩,
    ⟨(some 18), .val (.mov (.t 21)), none⟩,
    ⟨(some 22), .val (.ext (.t 18) 0), none⟩,
    ⟨(some 23), .val (.ext (.t 18) 1), none⟩,
    ⟨(some 12), .val (.mov (.t 22)), none⟩,
    ⟨(some 13), .val (.mov (.t 23)), none⟩]
def g11_2 : List Am.Item := [
    ⟨(some 24), .val (.mov (.t 13)), none⟩,
    ⟨(some 25), .val (.un .not (.t 24)), none⟩]
def g11_3 : List Am.Item := [
    ⟨(some 26), .val (.build [.int .i64 0, .int .u64 0, .str [], .nils, .nils, .nils, .nils] []), none⟩,
    ⟨none, .store 7 (.t 10) (.t 26), none⟩,
    ⟨(some 11), .val (.mov (.c (.int .i64 10))), none⟩]
def g11_4 : List Am.Item := [
    ⟨(some 27), .val (.faddr 0 (.t 7)), none⟩,
    ⟨(some 28), .val (.load none (.t 27)), none⟩,
    ⟨(some 29), .val (.bin .num .neq (.t 28) (.c (.int .i64 10))), none⟩]
def g11_5 : List Am.Item := [
    ⟨(some 30), .val (.build [.int .i64 0, .int .u64 0, .str [], .nils, .nils, .nils, .nils] []), none⟩,
    ⟨none, .store 7 (.t 10) (.t 30), none⟩,
    ⟨(some 11), .val (.mov (.c (.int .i64 12))), none⟩]
def g11_6 : List Am.Item := [
    ⟨(some 32), .val (.mov (.t 3)), none⟩,
    ⟨(some 33), .val (.load (some 4) (.t 9)), none⟩,
    ⟨(some 34), .call (.f 9) [(.t 32), (.t 33)], none⟩,
    ⟨(some 31), .val (.mov (.t 34)), none⟩,
    ⟨(some 35), .val (.ext (.t 31) 0), none⟩,
    ⟨(some 36), .val (.ext (.t 31) 1), none⟩,
    ⟨(some 14), .allocN 14 [.str [], .int .i64 0, .int .i64 0, .int .i64 0, .int .i64 0, .int .i64 0], none⟩,
    ⟨none, .store 6 (.t 14) (.t 35), none⟩,
    ⟨(some 15), .val (.mov (.t 36)), none⟩]
def g11_7 : List Am.Item := [
    ⟨(some 37), .val (.mov (.t 15)), none⟩,
    ⟨(some 38), .val (.bin .num .neq (.t 37) (.c (.int .i64 0))), none⟩]
def g11_8 : List Am.Item := [
    ⟨(some 39), .val (.build [.int .i64 0, .int .u64 0, .str [], .nils, .nils, .nils, .nils] []), none⟩,
    ⟨(some 40), .val (.mov (.t 15)), none⟩,
    ⟨none, .store 7 (.t 10) (.t 39), none⟩,
    ⟨(some 11), .val (.mov (.t 40)), none⟩]
def g11_9 : List Am.Item := [
    ⟨(some 41), .val (.faddr 3 (.t 14)), none⟩,
    ⟨(some 42), .val (.load none (.t 41)), none⟩,
    ⟨(some 43), .val (.bin .num .lss (.t 42) (.c (.int .i64 1))), none⟩]
def g11_10 : List Am.Item := [
    ⟨(some 44), .val (.build [.int .i64 0, .int .u64 0, .str [], .nils, .nils, .nils, .nils] []), none⟩,
    ⟨none, .store 7 (.t 10) (.t 44), none⟩,
    ⟨(some 11), .val (.mov (.c (.int .i64 17))), none⟩]
def g11_11 : List Am.Item := [
    ⟨(some 45), .val (.faddr 3 (.t 14)), none⟩,
    ⟨(some 46), .val (.load none (.t 45)), none⟩,
    ⟨(some 47), .val (.bin .num .sub (.t 46) (.c (.int .i64 1))), none⟩,
    ⟨(some 48), .val (.faddr 3 (.t 14)), none⟩,
    ⟨none, .store 1 (.t 48) (.t 47), none⟩]
def g11_12 : List Am.Item := [
    ⟨(some 49), .val (.load (some 2) (.t 5)), none⟩,
    ⟨(some 50), .val (.load (some 6) (.t 14)), none⟩,
    ⟨(some 51), .val (.build [.nils, .nils, .str [], .int .i64 0, .int .i64 0, .int .i64 0, .int .i64 0, .int .i64 0] [(0, 2, (.t 49)), (2, 6, (.t 50))]), none⟩,
    ⟨(some 52), .boxN 52 (.t 51), none⟩,
    ⟨(some 16), .val (.mov (.t 52)), none⟩]
def g11_13 : List Am.Item := [
    ⟨(some 53), .val (.mov (.t 16)), none⟩,
    ⟨(some 54), .callF (.f 23) [(.t 53), (.c (.int .i64 1))], none⟩,
    ⟨(some 15), .val (.mov (.t 54)), none⟩]
def g11_14 : List Am.Item := [
    ⟨(some 55), .val (.mov (.t 15)), none⟩,
    ⟨(some 56), .val (.bin .num .neq (.t 55) (.c (.int .i64 0))), none⟩]
def g11_15 : List Am.Item := [
    ⟨(some 57), .val (.build [.int .i64 0, .int .u64 0, .str [], .nils, .nils, .nils, .nils] []), none⟩,
    ⟨(some 58), .val (.mov (.t 15)), none⟩,
    ⟨none, .store 7 (.t 10) (.t 57), none⟩,
    ⟨(some 11), .val (.mov (.t 58)), none⟩]
def g11_16 : List Am.Item := [
    ⟨(some 60), .val (.mov (.t 16)), none⟩,
    ⟨(some 61), .val (.mov (.t 12)), none⟩,
    ⟨(some 62), .val (.load (some 7) (.t 7)), none⟩,
    ⟨(some 63), .callF (.f 24) [(.t 60), (.t 61), (.t 62)], none⟩,
    ⟨(some 59), .val (.mov (.t 63)), none⟩,
    ⟨(some 64), .val (.ext (.t 59) 0), none⟩,
    ⟨(some 65), .val (.ext (.t 59) 1), none⟩,
    ⟨(some 17), .allocN 17 [.int .i64 0, .int .u64 0, .str [], .nils, .nils, .nils, .nils], none⟩,
    ⟨none, .store 7 (.t 17) (.t 64), none⟩,
    ⟨(some 15), .val (.mov (.t 65)), none⟩]
def g11_17 : List Am.Item := [
    ⟨(some 66), .val (.mov (.t 15)), none⟩,
    ⟨(some 67), .val (.bin .num .neq (.t 66) (.c (.int .i64 0))), none⟩]
def g11_18 : List Am.Item := [
    ⟨(some 68), .val (.build [.int .i64 0, .int .u64 0, .str [], .nils, .nils, .nils, .nils] []), none⟩,
    ⟨(some 69), .val (.mov (.t 15)), none⟩,
    ⟨none, .store 7 (.t 10) (.t 68), none⟩,
    ⟨(some 11), .val (.mov (.t 69)), none⟩]
def g11_19 : List Am.Item := [
    ⟨(some 70), .val (.load (some 2) (.t 5)), none⟩,
    ⟨(some 71), .val (.mov (.t 12)), none⟩,
    ⟨(some 72), .val (.load (some 7) (.t 17)), none⟩,
    ⟨(some 73), .call (.f 25) [(.t 70), (.t 71), (.t 72)], none⟩,
    ⟨none, .store 7 (.t 10) (.t 73), none⟩,
    ⟨(some 11), .val (.mov (.c (.int .i64 0))), none⟩]
def r11 : RC := .seq (.reg g11_0) (.seq (.reg g11_1) (.seq (.seq (.reg g11_2) (.cond (.t 25) (.seq (.reg g11_3) (.ret)) (.skip))) (.seq (.seq (.reg g11_4) (.cond (.t 29) (.seq (.reg g11_5) (.ret)) (.skip))) (.seq (.reg g11_6) (.seq (.seq (.reg g11_7) (.cond (.t 38) (.seq (.reg g11_8) (.ret)) (.skip))) (.seq (.seq (.reg g11_9) (.cond (.t 43) (.seq (.reg g11_10) (.ret)) (.skip))) (.seq (.reg g11_11) (.seq (.reg g11_12) (.seq (.seq (.reg g11_13) (.seq (.reg g11_14) (.cond (.t 56) (.seq (.reg g11_15) (.ret)) (.skip)))) (.seq (.reg g11_16) (.seq (.seq (.reg g11_17) (.cond (.t 67) (.seq (.reg g11_18) (.ret)) (.skip))) (.seq (.reg g11_19) (.ret)))))))))))))
def o11 : List RR := [.cell 10 (some 7), .tmp 11]
theorem k11 : chkC Tryz.prog 74 r11 (Tryz.f11.body.getD .skip) = true := by decide +kernel
theorem q11 : chkR Tryz.prog Tryz.f11.results.toList o11 = true := by decide +kernel

/- wireschema/plan.Find -/
def g12_0 : List Am.Item := [
    ⟨(some 2), .boxN 2 (.t 0), none⟩,
    ⟨(some 3), .boxN 3 (.t 1), none⟩,
    ⟨(some 4), .val (.mov (.c (.int .i64 0))), none⟩,
    ⟨(some 5), .val (.mov (.c (.bool false))), none⟩]
def g12_1 : List Am.Item := [
    ⟨(some 7), .val (.faddr 0 (.t 2)), none⟩,
    ⟨(some 8), .val (.load none (.t 7)), none⟩,
    ⟨(some 9), .val (.mkfn (.func 27) [] [(.t 3)]), none⟩,
    ⟨(some 10), .callF (.f 26) [(.t 8), (.t 9)], none⟩,
    ⟨(some 6), .val (.mov (.t 10)), none⟩]
def g12_2 : List Am.Item := [
    ⟨(some 11), .val (.mov (.t 6)), none⟩,
    ⟨(some 12), .val (.mnx true (.t 11) (.c (.int .i64 0))), none⟩,
    ⟨(some 13), .val (.mov (.t 6)), none⟩,
    ⟨(some 14), .val (.bin .num .geq (.t 13) (.c (.int .i64 0))), none⟩,
    ⟨(some 4), .val (.mov (.t 12)), none⟩,
    ⟨(some 5), .val (.mov (.t 14)), none⟩]
def r12 : RC := .seq (.reg g12_0) (.seq (.reg g12_1) (.seq (.reg g12_2) (.ret)))
def o12 : List RR := [.tmp 4, .tmp 5]
theorem k12 : chkC Tryz.prog 15 r12 (Tryz.f12.body.getD .skip) = true := by decide +kernel
theorem q12 : chkR Tryz.prog Tryz.f12.results.toList o12 = true := by decide +kernel

/- wireschema/tagdec.complete -/
def g13_0 : List Am.Item := [
    ⟨(some 3), .boxN 3 (.t 0), none⟩,
    ⟨(some 5), .boxN 5 (.t 2), none⟩,
    ⟨(some 6), .val (.mov (.c (.bool false))), none⟩]
def g13_1 : List Am.Item := [
    ⟨(some 13), .val (.faddr 0 (.t 3)), none⟩,
    ⟨(some 14), .val (.load none (.t 13)), none⟩,
    ⟨(some 15), .val (.mov (.t 1)), none⟩,
    ⟨(some 16), .val (.iaddr 3 none (.t 14) (.t 15)), none⟩,
    ⟨(some 17), .val (.faddr 1 (.t 16)), none⟩,
    ⟨(some 18), .val (.load none (.t 17)), none⟩,
    ⟨(some 19), .val (.len 1 (.t 18)), none⟩,
    ⟨(some 20), .val (.mov (.c (.int .i64 0))), none⟩]
def g13_2 : List Am.Item := [
    ⟨(some 21), .val (.bin .num .lss (.t 20) (.t 19)), none⟩]
def g13_3 : List Am.Item := [
    ⟨(some 22), .val (.iaddr 8 none (.t 18) (.t 20)), none⟩,
    ⟨(some 23), .val (.load (some 8) (.t 22)), none⟩,
    ⟨(some 8), .allocN 8 [.int .i64 0, .str [], .str [], .int .i64 0, .int .i64 0, .int .i64 0, .int .i64 0, .int .i64 0], none⟩,
    ⟨none, .store 8 (.t 8) (.t 23), none⟩]
def g13_4 : List Am.Item := [
    ⟨(some 25), .val (.load (some 7) (.t 5)), none⟩,
    ⟨(some 26), .val (.faddr 0 (.t 8)), none⟩,
    ⟨(some 27), .val (.load none (.t 26)), none⟩,
    ⟨(some 28), .call (.f 28) [(.t 25), (.t 27)], none⟩,
    ⟨(some 24), .val (.mov (.t 28)), none⟩,
    ⟨(some 29), .val (.ext (.t 24) 0), none⟩,
    ⟨(some 30), .val (.ext (.t 24) 1), none⟩,
    ⟨(some 9), .allocN 9 [.int .i64 0, .int .u64 0, .str [], .nils, .nils, .nils, .nils], none⟩,
    ⟨none, .store 7 (.t 9) (.t 29), none⟩,
    ⟨(some 10), .val (.mov (.t 30)), none⟩]
def g13_5 : List Am.Item := [
    ⟨(some 31), .val (.mov (.t 10)), none⟩,
    ⟨(some 32), .val (.un .not (.t 31)), none⟩]
def g13_6 : List Am.Item := [
    ⟨(some 33), .val (.faddr 3 (.t 8)), none⟩,
    ⟨(some 34), .val (.load none (.t 33)), none⟩,
    ⟨(some 35), .val (.bin .num .eql (.t 34) (.c (.int .i64 1))), none⟩]
def g13_7 : List Am.Item := [
    ⟨(some 6), .val (.mov (.c (.bool false))), none⟩]
def g13_8 : List Am.Item := [
    ⟨(some 36), .val (.faddr 5 (.t 8)), none⟩,
    ⟨(some 37), .val (.load none (.t 36)), none⟩,
    ⟨(some 38), .val (.bin .num .neq (.t 37) (.c (.int .i64 10))), none⟩]
def g13_9 : List Am.Item := [
    ⟨(some 39), .val (.load (some 7) (.t 9)), none⟩,
    ⟨(some 40), .call (.f 29) [(.t 39)], none⟩,
    ⟨(some 41), .val (.len 1 (.t 40)), none⟩,
    ⟨(some 42), .val (.mov (.c (.int .i64 0))), none⟩]
def g13_10 : List Am.Item := [
    ⟨(some 43), .val (.bin .num .lss (.t 42) (.t 41)), none⟩]
def g13_11 : List Am.Item := [
    ⟨(some 44), .val (.iaddr 7 none (.t 40) (.t 42)), none⟩,
    ⟨(some 45), .val (.load (some 7) (.t 44)), none⟩,
    ⟨(some 12), .allocN 12 [.int .i64 0, .int .u64 0, .str [], .nils, .nils, .nils, .nils], none⟩,
    ⟨none, .store 7 (.t 12) (.t 45), none⟩]
def g13_12 : List Am.Item := [
    ⟨(some 46), .val (.load (some 2) (.t 3)), none⟩,
    ⟨(some 47), .val (.faddr 6 (.t 8)), none⟩,
    ⟨(some 48), .val (.load none (.t 47)), none⟩,
    ⟨(some 49), .val (.load (some 7) (.t 12)), none⟩,
    ⟨(some 50), .call (.f 13) [(.t 46), (.t 48), (.t 49)], none⟩,
    ⟨(some 51), .val (.un .not (.t 50)), none⟩]
def g13_13 : List Am.Item := [
    ⟨(some 6), .val (.mov (.c (.bool false))), none⟩]
def g13_14 : List Am.Item := [
    ⟨(some 52), .val (.bin .num .add (.t 42) (.c (.int .i64 1))), none⟩,
    ⟨(some 42), .val (.mov (.t 52)), none⟩]
def l13_0 : RC := .gho (.drop 12) (.seq (.reg g13_10) (.seq (.cond (.t 43) (.skip) (.exit 2)) (.seq (.block 3 (.seq (.reg g13_11) (.seq (.reg g13_12) (.cond (.t 51) (.seq (.reg g13_13) (.ret)) (.skip))))) (.reg g13_14))))
def g13_15 : List Am.Item := [
    ⟨(some 53), .val (.bin .num .add (.t 20) (.c (.int .i64 1))), none⟩,
    ⟨(some 20), .val (.mov (.t 53)), none⟩]
def l13_1 : RC := .gho (.drop 12) (.gho (.drop 9) (.gho (.drop 8) (.seq (.reg g13_2) (.seq (.cond (.t 21) (.skip) (.exit 0)) (.seq (.block 1 (.seq (.reg g13_3) (.seq (.reg g13_4) (.seq (.seq (.reg g13_5) (.cond (.t 32) (.seq (.seq (.reg g13_6) (.cond (.t 35) (.seq (.reg g13_7) (.ret)) (.skip))) (.exit 1)) (.skip))) (.seq (.seq (.reg g13_8) (.cond (.t 38) (.exit 1) (.skip))) (.seq (.reg g13_9) (.block 2 (.loop l13_0)))))))) (.reg g13_15))))))
def g13_16 : List Am.Item := [
    ⟨(some 6), .val (.mov (.c (.bool true))), none⟩]
def r13 : RC := .seq (.reg g13_0) (.seq (.seq (.reg g13_1) (.block 0 (.loop l13_1))) (.seq (.reg g13_16) (.ret)))
def o13 : List RR := [.tmp 6]
theorem k13 : chkC Tryz.prog 54 r13 (Tryz.f13.body.getD .skip) = true := by decide +kernel
theorem q13 : chkR Tryz.prog Tryz.f13.results.toList o13 = true := by decide +kernel

/- wireschema/tagdec.Usual -/
def g14_0 : List Am.Item := [
    ⟨(some 0), .allocN 0 [.int .i64 0, .int .i64 0, .int .i64 0, .int .i64 0], none⟩]
def g14_1 : List Am.Item := [
    ⟨(some 1), .val (.build [.int .i64 0, .int .i64 0, .int .i64 0, .int .i64 0] [(0, 1, (.c (.int .i64 65536))), (1, 1, (.c (.int .i64 16))), (2, 1, (.c (.int .i64 4096))), (3, 1, (.c (.int .i64 4096)))]), none⟩,
    ⟨none, .store 4 (.t 0) (.t 1), none⟩]
def r14 : RC := .seq (.reg g14_0) (.seq (.reg g14_1) (.ret))
def o14 : List RR := [.cell 0 (some 4)]
theorem k14 : chkC Tryz.prog 2 r14 (Tryz.f14.body.getD .skip) = true := by decide +kernel
theorem q14 : chkR Tryz.prog Tryz.f14.results.toList o14 = true := by decide +kernel

/- wireschema/wireschemaref25.Usual -/
def g15_0 : List Am.Item := [
    ⟨(some 0), .allocN 0 [.int .i64 0, .int .i64 0, .int .i64 0, .int .i64 0], none⟩]
def g15_1 : List Am.Item := [
    ⟨(some 1), .val (.build [.int .i64 0, .int .i64 0, .int .i64 0, .int .i64 0] [(0, 1, (.c (.int .i64 65536))), (1, 1, (.c (.int .i64 16))), (2, 1, (.c (.int .i64 4096))), (3, 1, (.c (.int .i64 4096)))]), none⟩,
    ⟨none, .store 4 (.t 0) (.t 1), none⟩]
def r15 : RC := .seq (.reg g15_0) (.seq (.reg g15_1) (.ret))
def o15 : List RR := [.cell 0 (some 4)]
theorem k15 : chkC Tryz.prog 2 r15 (Tryz.f15.body.getD .skip) = true := by decide +kernel
theorem q15 : chkR Tryz.prog Tryz.f15.results.toList o15 = true := by decide +kernel

/- slices.Clone[[]wireschema/api.Raw,wireschema/api.Raw] -/
def g17_0 : List Am.Item := [
    ⟨(some 2), .val (.mov (.c (.nils))), none⟩]
def g17_1 : List Am.Item := [
    ⟨(some 3), .val (.mov (.t 0)), none⟩,
    ⟨(some 4), .isnil false (.t 3), none⟩]
def g17_2 : List Am.Item := [
    ⟨(some 2), .val (.mov (.c (.nils))), none⟩]
def g17_3 : List Am.Item := [
    ⟨(some 5), .bsl0 5 4, none⟩,
    ⟨(some 6), .val (.mov (.t 0)), none⟩,
    ⟨(some 7), .app 4 40 55 (.t 5) (.t 6), none⟩,
    ⟨(some 2), .val (.mov (.t 7)), none⟩]
def r17 : RC := .seq (.reg g17_0) (.seq (.seq (.reg g17_1) (.cond (.t 4) (.seq (.reg g17_2) (.gho (.vec 2 2 4) (.gho (.give 2 2 1 1000) (.ret)))) (.skip))) (.seq (.reg g17_3) (.gho (.give 2 5 1 1000) (.ret))))
def o17 : List RR := [.tmp 2]
theorem k17 : chkC Tryz.prog 8 r17 (Tryz.f17.body.getD .skip) = true := by decide +kernel
theorem q17 : chkR Tryz.prog Tryz.f17.results.toList o17 = true := by decide +kernel

/- slices.SortStableFunc[[]wireschema/api.Raw,wireschema/api.Raw] -/
def g18_0 : List Am.Item := [
    ⟨(some 4), .val (.mov (.t 0)), none⟩,
    ⟨(some 5), .val (.mov (.t 0)), none⟩,
    ⟨(some 6), .val (.len 1 (.t 5)), none⟩,
    ⟨(some 7), .val (.mov (.t 1)), none⟩,
    ⟨(some 8), .callF (.f 31) [(.t 4), (.t 6), (.t 7)], none⟩]
def r18 : RC := .reg g18_0
def o18 : List RR := []
theorem k18 : chkC Tryz.prog 9 r18 (Tryz.f18.body.getD .skip) = true := by decide +kernel
theorem q18 : chkR Tryz.prog Tryz.f18.results.toList o18 = true := by decide +kernel

/- cmp.Compare[int] -/
def g20_0 : List Am.Item := [
    ⟨(some 4), .val (.mov (.c (.int .i64 0))), none⟩]
def g20_1 : List Am.Item := [
    ⟨(some 7), .val (.mov (.t 0)), none⟩,
    ⟨(some 8), .call (.f 32) [(.t 7)], none⟩,
    ⟨(some 5), .val (.mov (.t 8)), none⟩]
def g20_2 : List Am.Item := [
    ⟨(some 9), .val (.mov (.t 1)), none⟩,
    ⟨(some 10), .call (.f 32) [(.t 9)], none⟩,
    ⟨(some 6), .val (.mov (.t 10)), none⟩]
def g20_3 : List Am.Item := [
    ⟨(some 11), .val (.mov (.t 5)), none⟩]
def g20_4 : List Am.Item := [
    ⟨(some 12), .val (.mov (.t 6)), none⟩]
def g20_5 : List Am.Item := [
    ⟨(some 4), .val (.mov (.c (.int .i64 0))), none⟩]
def g20_6 : List Am.Item := [
    ⟨(some 4), .val (.mov (.c (.int .i64 (-1)))), none⟩]
def g20_7 : List Am.Item := [
    ⟨(some 13), .val (.mov (.t 6)), none⟩]
def g20_8 : List Am.Item := [
    ⟨(some 4), .val (.mov (.c (.int .i64 1))), none⟩]
def g20_9 : List Am.Item := [
    ⟨(some 14), .val (.mov (.t 0)), none⟩,
    ⟨(some 15), .val (.mov (.t 1)), none⟩,
    ⟨(some 16), .val (.bin .num .lss (.t 14) (.t 15)), none⟩]
def g20_10 : List Am.Item := [
    ⟨(some 4), .val (.mov (.c (.int .i64 (-1)))), none⟩]
def g20_11 : List Am.Item := [
    ⟨(some 17), .val (.mov (.t 0)), none⟩,
    ⟨(some 18), .val (.mov (.t 1)), none⟩,
    ⟨(some 19), .val (.bin .num .gtr (.t 17) (.t 18)), none⟩]
def g20_12 : List Am.Item := [
    ⟨(some 4), .val (.mov (.c (.int .i64 1))), none⟩]
def g20_13 : List Am.Item := [
    ⟨(some 4), .val (.mov (.c (.int .i64 0))), none⟩]
def r20 : RC := .seq (.reg g20_0) (.seq (.reg g20_1) (.seq (.reg g20_2) (.seq (.seq (.reg g20_3) (.cond (.t 11) (.seq (.seq (.reg g20_4) (.cond (.t 12) (.seq (.reg g20_5) (.ret)) (.skip))) (.seq (.reg g20_6) (.ret))) (.skip))) (.seq (.seq (.reg g20_7) (.cond (.t 13) (.seq (.reg g20_8) (.ret)) (.skip))) (.seq (.seq (.reg g20_9) (.cond (.t 16) (.seq (.reg g20_10) (.ret)) (.skip))) (.seq (.seq (.reg g20_11) (.cond (.t 19) (.seq (.reg g20_12) (.ret)) (.skip))) (.seq (.reg g20_13) (.ret))))))))
def o20 : List RR := [.tmp 4]
theorem k20 : chkC Tryz.prog 20 r20 (Tryz.f20.body.getD .skip) = true := by decide +kernel
theorem q20 : chkR Tryz.prog Tryz.f20.results.toList o20 = true := by decide +kernel

/- wireschema/unknown.Next -/
def g22_0 : List Am.Item := [
    ⟨(some 1), .boxN 1 (.t 0), none⟩,
    ⟨(some 2), .allocN 2 [.int .i64 0, .int .i64 0, .int .u64 0, .str []], none⟩,
    ⟨(some 3), .allocN 3 [.str [], .int .i64 0, .int .i64 0, .int .i64 0, .int .i64 0, .int .i64 0], none⟩,
    ⟨(some 4), .val (.mov (.c (.int .i64 0))), none⟩]
def g22_1 : List Am.Item := [
    ⟨(some 11), .val (.load (some 6) (.t 1)), none⟩,
    ⟨(some 12), .call (.f 33) [(.t 11)], none⟩,
    ⟨(some 10), .val (.mov (.t 12)), none⟩,
    ⟨(some 13), .val (.ext (.t 10) 0), none⟩,
    ⟨(some 14), .val (.ext (.t 10) 1), none⟩,
    ⟨(some 15), .val (.ext (.t 10) 2), none⟩,
    ⟨(some 16), .val (.ext (.t 10) 3), none⟩,
    ⟨(some 7), .allocN 7 [.str [], .int .i64 0, .int .i64 0, .int .i64 0, .int .i64 0, .int .i64 0], none⟩,
    ⟨(some 5), .val (.mov (.t 13)), none⟩,
    ⟨(some 6), .val (.mov (.t 14)), none⟩,
    ⟨none, .store 6 (.t 7) (.t 15), none⟩,
    ⟨(some 8), .val (.mov (.t 16)), none⟩]
def g22_2 : List Am.Item := [
    ⟨(some 17), .val (.mov (.t 8)), none⟩,
    ⟨(some 18), .val (.bin .num .neq (.t 17) (.c (.int .i64 0))), none⟩]
def g22_3 : List Am.Item := [
    ⟨(some 19), .val (.build [.int .i64 0, .int .i64 0, .int .u64 0, .str []] []), none⟩,
    ⟨(some 20), .val (.loadv 0 1 (some 6) (.t 1)), none⟩,
    ⟨(some 21), .val (.mov (.t 8)), none⟩,
    ⟨none, .storev 0 2 4 (.t 2) (.t 19), none⟩,
    ⟨none, .storev 0 3 6 (.t 3) (.t 20), none⟩,
    ⟨(some 4), .val (.mov (.t 21)), none⟩]
def g22_4 : List Am.Item := [
    ⟨(some 23), .val (.load (some 6) (.t 7)), none⟩,
    ⟨(some 24), .call (.f 34) [(.t 23), (.c (.int .i64 1))], none⟩,
    ⟨(some 22), .val (.mov (.t 24)), none⟩,
    ⟨(some 25), .val (.ext (.t 22) 0), none⟩,
    ⟨(some 26), .val (.ext (.t 22) 1), none⟩,
    ⟨none, .store 6 (.t 7) (.t 25), none⟩,
    ⟨(some 8), .val (.mov (.t 26)), none⟩]
def g22_5 : List Am.Item := [
    ⟨(some 27), .val (.mov (.t 8)), none⟩,
    ⟨(some 28), .val (.bin .num .neq (.t 27) (.c (.int .i64 0))), none⟩]
def g22_6 : List Am.Item := [
    ⟨(some 29), .val (.build [.int .i64 0, .int .i64 0, .int .u64 0, .str []] []), none⟩,
    ⟨(some 30), .val (.loadv 0 1 (some 6) (.t 1)), none⟩,
    ⟨(some 31), .val (.mov (.t 8)), none⟩,
    ⟨none, .storev 0 2 4 (.t 2) (.t 29), none⟩,
    ⟨none, .storev 0 3 6 (.t 3) (.t 30), none⟩,
    ⟨(some 4), .val (.mov (.t 31)), none⟩]
def g22_7 : List Am.Item := [
    ⟨(some 32), .val (.mov (.t 5)), none⟩,
    ⟨(some 33), .val (.mov (.t 6)), none⟩,
    ⟨(some 34), .val (.build [.int .i64 0, .int .i64 0, .int .u64 0, .str []] [(0, 1, (.t 32)), (1, 1, (.t 33))]), none⟩,
    ⟨(some 9), .allocN 9 [.int .i64 0, .int .i64 0, .int .u64 0, .str []], none⟩,
    ⟨none, .store 4 (.t 9) (.t 34), none⟩]
def g22_8 : List Am.Item := [
    ⟨(some 36), .val (.load (some 6) (.t 7)), none⟩,
    ⟨(some 37), .callF (.f 35) [(.t 36), (.t 9)], none⟩,
    ⟨(some 35), .val (.mov (.t 37)), none⟩,
    ⟨(some 38), .val (.ext (.t 35) 0), none⟩,
    ⟨(some 39), .val (.ext (.t 35) 1), none⟩,
    ⟨none, .store 6 (.t 7) (.t 38), none⟩,
    ⟨(some 8), .val (.mov (.t 39)), none⟩]
def g22_9 : List Am.Item := [
    ⟨(some 40), .val (.mov (.t 8)), none⟩,
    ⟨(some 41), .val (.bin .num .neq (.t 40) (.c (.int .i64 0))), none⟩]
def g22_10 : List Am.Item := [
    ⟨(some 42), .val (.build [.int .i64 0, .int .i64 0, .int .u64 0, .str []] []), none⟩,
    ⟨(some 43), .val (.loadv 0 1 (some 6) (.t 1)), none⟩,
    ⟨(some 44), .val (.mov (.t 8)), none⟩,
    ⟨none, .storev 0 2 4 (.t 2) (.t 42), none⟩,
    ⟨none, .storev 0 3 6 (.t 3) (.t 43), none⟩,
    ⟨(some 4), .val (.mov (.t 44)), none⟩]
def g22_11 : List Am.Item := [
    ⟨(some 45), .val (.loadv 0 9 (some 4) (.t 9)), none⟩,
    ⟨(some 46), .val (.loadv 0 7 (some 6) (.t 7)), none⟩,
    ⟨none, .storev 0 2 4 (.t 2) (.t 45), none⟩,
    ⟨none, .storev 0 3 6 (.t 3) (.t 46), none⟩,
    ⟨(some 4), .val (.mov (.c (.int .i64 0))), none⟩]
def r22 : RC := .seq (.reg g22_0) (.seq (.reg g22_1) (.seq (.seq (.reg g22_2) (.cond (.t 18) (.seq (.draw g22_3) (.ret)) (.skip))) (.seq (.seq (.reg g22_4) (.seq (.reg g22_5) (.cond (.t 28) (.seq (.draw g22_6) (.ret)) (.skip)))) (.seq (.reg g22_7) (.seq (.seq (.reg g22_8) (.seq (.reg g22_9) (.cond (.t 41) (.seq (.draw g22_10) (.ret)) (.skip)))) (.seq (.draw g22_11) (.ret)))))))
def o22 : List RR := [.cell 2 (some 4), .cell 3 (some 6), .tmp 4]
theorem k22 : chkC Tryz.prog 47 r22 (Tryz.f22.body.getD .skip) = true := by decide +kernel
theorem q22 : chkR Tryz.prog Tryz.f22.results.toList o22 = true := by decide +kernel

/- (*wireschema/tagdec.reader).spend -/
def g23_0 : List Am.Item := [
    ⟨(some 4), .val (.mov (.c (.int .i64 0))), none⟩]
def g23_1 : List Am.Item := [
    ⟨(some 8), .val (.mov (.t 0)), none⟩,
    ⟨(some 9), .val (.nilck (.t 8)), none⟩,
    ⟨(some 10), .val (.faddr 2 (.t 9)), none⟩,
    ⟨(some 11), .val (.load (some 6) (.t 10)), none⟩,
    ⟨(some 12), .val (.mov (.t 1)), none⟩,
    ⟨(some 13), .call (.f 34) [(.t 11), (.t 12)], none⟩,
    ⟨(some 7), .val (.mov (.t 13)), none⟩,
    ⟨(some 14), .val (.ext (.t 7) 0), none⟩,
    ⟨(some 15), .val (.ext (.t 7) 1), none⟩,
    ⟨(some 5), .allocN 5 [.str [], .int .i64 0, .int .i64 0, .int .i64 0, .int .i64 0, .int .i64 0], none⟩,
    ⟨none, .store 6 (.t 5) (.t 14), none⟩,
    ⟨(some 6), .val (.mov (.t 15)), none⟩]
def g23_2 : List Am.Item := [
    ⟨(some 16), .val (.mov (.t 0)), none⟩,
    ⟨(some 17), .val (.load (some 6) (.t 5)), none⟩,
    ⟨(some 18), .val (.nilck (.t 16)), none⟩,
    ⟨(some 19), .val (.faddr 2 (.t 18)), none⟩,
    ⟨none, .store 6 (.t 19) (.t 17), none⟩]
def g23_3 : List Am.Item := [
    ⟨(some 20), .val (.mov (.t 6)), none⟩,
    ⟨(some 4), .val (.mov (.t 20)), none⟩]
def r23 : RC := .seq (.reg g23_0) (.seq (.reg g23_1) (.seq (.reg g23_2) (.seq (.reg g23_3) (.ret))))
def o23 : List RR := [.tmp 4]
theorem k23 : chkC Tryz.prog 21 r23 (Tryz.f23.body.getD .skip) = true := by decide +kernel
theorem q23 : chkR Tryz.prog Tryz.f23.results.toList o23 = true := by decide +kernel

/- (*wireschema/tagdec.reader).fields -/
def g24_0 : List Am.Item := [
    ⟨(some 5), .boxN 5 (.t 2), none⟩,
    ⟨(some 6), .allocN 6 [.int .i64 0, .int .u64 0, .str [], .nils, .nils, .nils, .nils], none⟩,
    ⟨(some 7), .val (.mov (.c (.int .i64 0))), none⟩]
def g24_1 : List Am.Item := [
    ⟨(some 17), .val (.mov (.t 0)), none⟩,
    ⟨(some 18), .val (.nilck (.t 17)), none⟩,
    ⟨(some 19), .val (.faddr 0 (.t 18)), none⟩,
    ⟨(some 20), .val (.faddr 0 (.t 19)), none⟩,
    ⟨(some 21), .val (.load none (.t 20)), none⟩,
    ⟨(some 22), .val (.mov (.t 1)), none⟩,
    ⟨(some 23), .val (.iaddr 3 none (.t 21) (.t 22)), none⟩,
    ⟨(some 24), .val (.load (some 3) (.t 23)), none⟩,
    ⟨(some 8), .allocN 8 [.str [], .nils, .int .i64 0], none⟩,
    ⟨none, .store 3 (.t 8) (.t 24), none⟩]
def g24_2 : List Am.Item := [
    ⟨(some 25), .val (.mov (.t 0)), none⟩,
    ⟨(some 26), .val (.nilck (.t 25)), none⟩,
    ⟨(some 27), .val (.faddr 2 (.t 26)), none⟩,
    ⟨(some 28), .val (.load (some 6) (.t 27)), none⟩,
    ⟨(some 29), .call (.f 36) [(.t 28)], none⟩,
    ⟨(some 30), .val (.bin .num .gtr (.t 29) (.c (.int .i64 0))), none⟩]
def g24_3 : List Am.Item := [
    ⟨(some 31), .val (.mov (.t 0)), none⟩,
    ⟨(some 32), .val (.nilck (.t 31)), none⟩,
    ⟨(some 33), .val (.faddr 2 (.t 32)), none⟩,
    ⟨(some 34), .val (.load (some 6) (.t 33)), none⟩,
    ⟨(some 9), .allocN 9 [.str [], .int .i64 0, .int .i64 0, .int .i64 0, .int .i64 0, .int .i64 0], none⟩,
    ⟨none, .store 6 (.t 9) (.t 34), none⟩]
def g24_4 : List Am.Item := [
    ⟨(some 36), .val (.load (some 6) (.t 9)), none⟩,
    ⟨(some 37), .call (.f 33) [(.t 36)], none⟩,
    ⟨(some 35), .val (.mov (.t 37)), none⟩,
    ⟨(some 38), .val (.ext (.t 35) 0), none⟩,
    ⟨(some 39), .val (.ext (.t 35) 1), none⟩,
    ⟨(some 40), .val (.ext (.t 35) 2), none⟩,
    ⟨(some 41), .val (.ext (.t 35) 3), none⟩,
    ⟨(some 12), .allocN 12 [.str [], .int .i64 0, .int .i64 0, .int .i64 0, .int .i64 0, .int .i64 0], none⟩,
    ⟨(some 10), .val (.mov (.t 38)), none⟩,
    ⟨(some 11), .val (.mov (.t 39)), none⟩,
    ⟨none, .store 6 (.t 12) (.t 40), none⟩,
    ⟨(some 13), .val (.mov (.t 41)), none⟩]
def g24_5 : List Am.Item := [
    ⟨(some 42), .val (.mov (.t 13)), none⟩,
    ⟨(some 43), .val (.bin .num .neq (.t 42) (.c (.int .i64 0))), none⟩]
def g24_6 : List Am.Item := [
    ⟨(some 44), .val (.load (some 7) (.t 5)), none⟩,
    ⟨(some 45), .val (.mov (.t 13)), none⟩,
    ⟨none, .store 7 (.t 6) (.t 44), none⟩,
    ⟨(some 7), .val (.mov (.t 45)), none⟩]
def g24_7 : List Am.Item := [
    ⟨(some 46), .val (.faddr 1 (.t 8)), none⟩,
    ⟨(some 47), .val (.load none (.t 46)), none⟩,
    ⟨(some 48), .val (.len 1 (.t 47)), none⟩,
    ⟨(some 49), .val (.mov (.c (.int .i64 0))), none⟩]
def g24_8 : List Am.Item := [
    ⟨(some 50), .val (.bin .num .lss (.t 49) (.t 48)), none⟩]
def g24_9 : List Am.Item := [
    ⟨(some 51), .val (.iaddr 8 none (.t 47) (.t 49)), none⟩,
    ⟨(some 52), .val (.load (some 8) (.t 51)), none⟩,
    ⟨(some 15), .allocN 15 [.int .i64 0, .str [], .str [], .int .i64 0, .int .i64 0, .int .i64 0, .int .i64 0, .int .i64 0], none⟩,
    ⟨none, .store 8 (.t 15) (.t 52), none⟩]
def g24_10 : List Am.Item := [
    ⟨(some 53), .val (.faddr 0 (.t 15)), none⟩,
    ⟨(some 54), .val (.load none (.t 53)), none⟩,
    ⟨(some 55), .val (.mov (.t 10)), none⟩,
    ⟨(some 56), .val (.bin .num .neq (.t 54) (.t 55)), none⟩]
def g24_11 : List Am.Item := [
    ⟨(some 57), .val (.mov (.t 0)), none⟩,
    ⟨(some 58), .val (.load (some 6) (.t 12)), none⟩,
    ⟨(some 59), .val (.nilck (.t 57)), none⟩,
    ⟨(some 60), .val (.faddr 2 (.t 59)), none⟩,
    ⟨none, .store 6 (.t 60) (.t 58), none⟩]
def g24_12 : List Am.Item := [
    ⟨(some 62), .val (.mov (.t 0)), none⟩,
    ⟨(some 63), .val (.load (some 3) (.t 8)), none⟩,
    ⟨(some 64), .val (.load (some 7) (.t 5)), none⟩,
    ⟨(some 65), .val (.load (some 8) (.t 15)), none⟩,
    ⟨(some 66), .val (.mov (.t 11)), none⟩,
    ⟨(some 67), .callF (.f 37) [(.t 62), (.t 63), (.t 64), (.t 65), (.t 66)], none⟩,
    ⟨(some 61), .val (.mov (.t 67)), none⟩,
    ⟨(some 68), .val (.ext (.t 61) 0), none⟩,
    ⟨(some 69), .val (.ext (.t 61) 1), none⟩,
    ⟨none, .store 7 (.t 5) (.t 68), none⟩,
    ⟨(some 13), .val (.mov (.t 69)), none⟩]
def g24_13 : List Am.Item := [
    ⟨(some 70), .val (.mov (.t 13)), none⟩,
    ⟨(some 71), .val (.bin .num .neq (.t 70) (.c (.int .i64 0))), none⟩]
def g24_14 : List Am.Item := [
    ⟨(some 72), .val (.load (some 7) (.t 5)), none⟩,
    ⟨(some 73), .val (.mov (.t 13)), none⟩,
    ⟨none, .store 7 (.t 6) (.t 72), none⟩,
    ⟨(some 7), .val (.mov (.t 73)), none⟩]
def g24_15 : List Am.Item := [
    ⟨(some 74), .val (.bin .num .add (.t 49) (.c (.int .i64 1))), none⟩,
    ⟨(some 49), .val (.mov (.t 74)), none⟩]
def l24_0 : RC := .gho (.drop 15) (.seq (.reg g24_8) (.seq (.cond (.t 50) (.skip) (.exit 2)) (.seq (.block 3 (.seq (.reg g24_9) (.seq (.seq (.reg g24_10) (.cond (.t 56) (.exit 3) (.skip))) (.seq (.reg g24_11) (.seq (.reg g24_12) (.seq (.seq (.reg g24_13) (.cond (.t 71) (.seq (.reg g24_14) (.ret)) (.skip))) (.exit 1))))))) (.reg g24_15))))
def g24_16 : List Am.Item := [
    ⟨(some 76), .val (.load (some 6) (.t 9)), none⟩,
    ⟨(some 77), .call (.f 22) [(.t 76)], none⟩,
    ⟨(some 75), .val (.mov (.t 77)), none⟩,
    ⟨(some 78), .val (.ext (.t 75) 0), none⟩,
    ⟨(some 79), .val (.ext (.t 75) 1), none⟩,
    ⟨(some 80), .val (.ext (.t 75) 2), none⟩,
    ⟨(some 16), .allocN 16 [.int .i64 0, .int .i64 0, .int .u64 0, .str []], none⟩,
    ⟨none, .store 4 (.t 16) (.t 78), none⟩,
    ⟨none, .store 6 (.t 12) (.t 79), none⟩,
    ⟨(some 13), .val (.mov (.t 80)), none⟩]
def g24_17 : List Am.Item := [
    ⟨(some 81), .val (.mov (.t 13)), none⟩,
    ⟨(some 82), .val (.bin .num .neq (.t 81) (.c (.int .i64 0))), none⟩]
def g24_18 : List Am.Item := [
    ⟨(some 83), .val (.load (some 7) (.t 5)), none⟩,
    ⟨(some 84), .val (.mov (.t 13)), none⟩,
    ⟨none, .store 7 (.t 6) (.t 83), none⟩,
    ⟨(some 7), .val (.mov (.t 84)), none⟩]
def g24_19 : List Am.Item := [
    ⟨(some 85), .val (.mov (.t 0)), none⟩,
    ⟨(some 86), .val (.load (some 6) (.t 12)), none⟩,
    ⟨(some 87), .val (.nilck (.t 85)), none⟩,
    ⟨(some 88), .val (.faddr 2 (.t 87)), none⟩,
    ⟨none, .store 6 (.t 88) (.t 86), none⟩]
def g24_20 : List Am.Item := [
    ⟨(some 89), .val (.load (some 7) (.t 5)), none⟩,
    ⟨(some 90), .val (.load (some 4) (.t 16)), none⟩,
    ⟨(some 91), .call (.f 38) [(.t 89), (.t 90)], none⟩,
    ⟨none, .store 7 (.t 5) (.t 91), none⟩]
def l24_1 : RC := .gho (.drop 16) (.gho (.drop 15) (.gho (.drop 12) (.gho (.drop 9) (.seq (.seq (.reg g24_2) (.cond (.t 30) (.skip) (.exit 0))) (.block 1 (.seq (.reg g24_3) (.seq (.reg g24_4) (.seq (.seq (.reg g24_5) (.cond (.t 43) (.seq (.reg g24_6) (.ret)) (.skip))) (.seq (.seq (.reg g24_7) (.block 2 (.loop l24_0))) (.seq (.reg g24_16) (.seq (.seq (.reg g24_17) (.cond (.t 82) (.seq (.reg g24_18) (.ret)) (.skip))) (.seq (.reg g24_19) (.reg g24_20)))))))))))))
def g24_21 : List Am.Item := [
    ⟨(some 92), .val (.load (some 7) (.t 5)), none⟩,
    ⟨none, .store 7 (.t 6) (.t 92), none⟩,
    ⟨(some 7), .val (.mov (.c (.int .i64 0))), none⟩]
def r24 : RC := .seq (.reg g24_0) (.scope (.seq (.reg g24_1) (.seq (.lab) (.seq (.block 0 (.loop l24_1)) (.seq (.reg g24_21) (.ret))))))
def o24 : List RR := [.cell 6 (some 7), .tmp 7]
theorem k24 : chkC Tryz.prog 93 r24 (Tryz.f24.body.getD .skip) = true := by decide +kernel
theorem q24 : chkR Tryz.prog Tryz.f24.results.toList o24 = true := by decide +kernel

/- wireschema/plan.Norm -/
def g25_0 : List Am.Item := [
    ⟨(some 3), .boxN 3 (.t 0), none⟩,
    ⟨(some 5), .boxN 5 (.t 2), none⟩,
    ⟨(some 6), .allocN 6 [.int .i64 0, .int .u64 0, .str [], .nils, .nils, .nils, .nils], none⟩]
def g25_1 : List Am.Item := [
    ⟨(some 14), .val (.faddr 6 (.t 5)), none⟩,
    ⟨(some 15), .val (.load none (.t 14)), none⟩,
    ⟨(some 16), .callF (.f 17) [(.t 15)], none⟩,
    ⟨(some 17), .val (.build [.int .i64 0, .int .u64 0, .str [], .nils, .nils, .nils, .nils] [(0, 1, (.c (.int .i64 10))), (6, 1, (.t 16))]), none⟩,
    ⟨(some 7), .allocN 7 [.int .i64 0, .int .u64 0, .str [], .nils, .nils, .nils, .nils], none⟩,
    ⟨none, .store 7 (.t 7) (.t 17), none⟩]
def g25_2 : List Am.Item := [
    ⟨(some 18), .val (.mov (.t 1)), none⟩,
    ⟨(some 19), .val (.bin .num .lss (.t 18) (.c (.int .i64 0))), none⟩,
    ⟨(some 20), .val (.mov (.t 19)), none⟩,
    ⟨(some 21), .val (.mov (.t 1)), (some (20, false))⟩,
    ⟨(some 22), .val (.faddr 0 (.t 3)), (some (20, false))⟩,
    ⟨(some 23), .val (.load none (.t 22)), (some (20, false))⟩,
    ⟨(some 24), .val (.len 1 (.t 23)), (some (20, false))⟩,
    ⟨(some 25), .val (.bin .num .geq (.t 21) (.t 24)), (some (20, false))⟩,
    ⟨(some 26), .val (.pick (.t 20) (.c (.bool true)) (.t 25)), none⟩]
def g25_3 : List Am.Item := [
    ⟨(some 27), .val (.load (some 7) (.t 7)), none⟩,
    ⟨none, .store 7 (.t 6) (.t 27), none⟩]
def g25_4 : List Am.Item := [
    ⟨(some 28), .val (.faddr 5 (.t 5)), none⟩,
    ⟨(some 29), .val (.load none (.t 28)), none⟩,
    ⟨(some 30), .call (.f 39) [(.t 29)], none⟩,
    ⟨(some 31), .val (.len 1 (.t 30)), none⟩,
    ⟨(some 32), .val (.mov (.c (.int .i64 0))), none⟩]
def g25_5 : List Am.Item := [
    ⟨(some 33), .val (.bin .num .lss (.t 32) (.t 31)), none⟩]
def g25_6 : List Am.Item := [
    ⟨(some 34), .val (.iaddr 8 none (.t 30) (.t 32)), none⟩,
    ⟨(some 35), .val (.load (some 8) (.t 34)), none⟩,
    ⟨(some 9), .allocN 9 [.int .i64 0, .int .i64 0, .int .u64 0, .str [], .nils, .nils, .nils, .nils], none⟩,
    ⟨none, .store 8 (.t 9) (.t 35), none⟩]
def g25_7 : List Am.Item := [
    ⟨(some 37), .val (.faddr 0 (.t 3)), none⟩,
    ⟨(some 38), .val (.loadv 0 3 none (.t 37)), none⟩,
    ⟨(some 39), .val (.mov (.t 1)), none⟩,
    ⟨(some 40), .val (.iaddr 3 none (.t 38) (.t 39)), none⟩,
    ⟨(some 41), .val (.loadr (some 3) (.t 40)), none⟩,
    ⟨(some 42), .val (.faddr 0 (.t 9)), none⟩,
    ⟨(some 43), .val (.loadv 0 9 none (.t 42)), none⟩,
    ⟨(some 44), .call (.f 40) [(.t 41), (.t 43)], none⟩,
    ⟨(some 36), .val (.mov (.t 44)), none⟩,
    ⟨(some 45), .val (.ext (.t 36) 0), none⟩,
    ⟨(some 46), .val (.ext (.t 36) 1), none⟩,
    ⟨(some 10), .allocN 10 [.int .i64 0, .str [], .str [], .int .i64 0, .int .i64 0, .int .i64 0, .int .i64 0, .int .i64 0], none⟩,
    ⟨none, .storev 0 10 8 (.t 10) (.t 45), none⟩,
    ⟨(some 11), .val (.mov (.t 46)), none⟩]
def g25_8 : List Am.Item := [
    ⟨(some 47), .val (.faddr 3 (.t 10)), none⟩,
    ⟨(some 48), .val (.load none (.t 47)), none⟩,
    ⟨(some 49), .val (.bin .num .eql (.t 48) (.c (.int .i64 3))), none⟩,
    ⟨(some 50), .val (.mov (.t 49)), none⟩,
    ⟨(some 51), .val (.faddr 3 (.t 10)), (some (50, false))⟩,
    ⟨(some 52), .val (.load none (.t 51)), (some (50, false))⟩,
    ⟨(some 53), .val (.bin .num .eql (.t 52) (.c (.int .i64 4))), (some (50, false))⟩,
    ⟨(some 54), .val (.pick (.t 50) (.c (.bool true)) (.t 53)), none⟩,
    ⟨(some 55), .val (.mov (.t 54)), none⟩,
    ⟨(some 56), .val (.faddr 3 (.t 10)), (some (55, false))⟩,
    ⟨(some 57), .val (.load none (.t 56)), (some (55, false))⟩,
    ⟨(some 58), .val (.bin .num .eql (.t 57) (.c (.int .i64 5))), (some (55, false))⟩,
    ⟨(some 59), .val (.pick (.t 55) (.c (.bool true)) (.t 58)), none⟩,
    ⟨(some 12), .val (.mov (.t 59)), none⟩]
def g25_9 : List Am.Item := [
    ⟨(some 60), .val (.load (some 2) (.t 3)), none⟩,
    ⟨(some 61), .val (.load (some 8) (.t 10)), none⟩,
    ⟨(some 62), .val (.faddr 1 (.t 9)), none⟩,
    ⟨(some 63), .val (.load (some 7) (.t 62)), none⟩,
    ⟨(some 64), .call (.f 41) [(.t 60), (.t 61), (.t 63)], none⟩,
    ⟨(some 13), .allocN 13 [.int .i64 0, .int .u64 0, .str [], .nils, .nils, .nils, .nils], none⟩,
    ⟨none, .store 7 (.t 13) (.t 64), none⟩]
def g25_10 : List Am.Item := [
    ⟨(some 65), .val (.mov (.t 12)), none⟩,
    ⟨(some 66), .val (.un .not (.t 65)), none⟩,
    ⟨(some 67), .val (.mov (.t 66)), none⟩,
    ⟨(some 68), .val (.load (some 7) (.t 13)), (some (67, false))⟩,
    ⟨(some 69), .call (.f 42) [(.t 68)], (some (67, false))⟩,
    ⟨(some 70), .val (.un .not (.t 69)), (some (67, false))⟩,
    ⟨(some 71), .val (.pick (.t 67) (.c (.bool true)) (.t 70)), none⟩]
def g25_11 : List Am.Item := [
    ⟨(some 72), .val (.faddr 5 (.t 7)), none⟩,
    ⟨(some 73), .val (.load none (.t 72)), none⟩,
    ⟨(some 74), .val (.faddr 0 (.t 9)), none⟩,
    ⟨(some 75), .val (.load none (.t 74)), none⟩,
    ⟨(some 76), .val (.load (some 7) (.t 13)), none⟩,
    ⟨(some 77), .val (.build [.int .i64 0, .int .i64 0, .int .u64 0, .str [], .nils, .nils, .nils, .nils] [(0, 1, (.t 75)), (1, 7, (.t 76))]), none⟩,
    ⟨(some 78), .bsl 8 1 [.int .i64 0, .int .i64 0, .int .u64 0, .str [], .nils, .nils, .nils, .nils] [(0, 8, (.t 77))], none⟩,
    ⟨(some 79), .app 8 136 66 (.t 73) (.t 78), none⟩,
    ⟨(some 80), .val (.faddr 5 (.t 7)), none⟩,
    ⟨none, .store 1 (.t 80) (.t 79), none⟩]
def g25_12 : List Am.Item := [
    ⟨(some 81), .val (.bin .num .add (.t 32) (.c (.int .i64 1))), none⟩,
    ⟨(some 32), .val (.mov (.t 81)), none⟩]
def l25_0 : RC := .gho (.drop 13) (.gho (.drop 10) (.gho (.drop 9) (.seq (.reg g25_5) (.seq (.cond (.t 33) (.skip) (.exit 0)) (.seq (.block 1 (.seq (.reg g25_6) (.seq (.draw g25_7) (.seq (.reg g25_8) (.seq (.reg g25_9) (.seq (.reg g25_10) (.cond (.t 71) (.reg g25_11) (.skip)))))))) (.reg g25_12))))))
def g25_13 : List Am.Item := [
    ⟨(some 82), .val (.faddr 6 (.t 7)), none⟩,
    ⟨(some 83), .val (.load none (.t 82)), none⟩,
    ⟨(some 84), .callF (.f 18) [(.t 83), (.f 43)], none⟩]
def g25_14 : List Am.Item := [
    ⟨(some 85), .val (.load (some 7) (.t 7)), none⟩,
    ⟨none, .store 7 (.t 6) (.t 85), none⟩]
def r25 : RC := .seq (.reg g25_0) (.seq (.reg g25_1) (.gho (.vecc 7 5 1100 8) (.seq (.seq (.reg g25_2) (.cond (.t 26) (.seq (.reg g25_3) (.ret)) (.skip))) (.seq (.seq (.reg g25_4) (.block 0 (.loop l25_0))) (.seq (.reg g25_13) (.seq (.reg g25_14) (.ret)))))))
def o25 : List RR := [.cell 6 (some 7)]
theorem k25 : chkC Tryz.prog 86 r25 (Tryz.f25.body.getD .skip) = true := by decide +kernel
theorem q25 : chkR Tryz.prog Tryz.f25.results.toList o25 = true := by decide +kernel

/- slices.IndexFunc[[]wireschema/api.Prog,wireschema/api.Prog] -/
def g26_0 : List Am.Item := [
    ⟨(some 4), .val (.mov (.c (.int .i64 0))), none⟩]
def g26_1 : List Am.Item := [
    ⟨(some 6), .val (.mov (.t 0)), none⟩,
    ⟨(some 7), .val (.len 1 (.t 6)), none⟩,
    ⟨(some 8), .val (.mov (.c (.int .i64 0))), none⟩]
def g26_2 : List Am.Item := [
    ⟨(some 9), .val (.bin .num .lss (.t 8) (.t 7)), none⟩]
def g26_3 : List Am.Item := [
    ⟨(some 10), .val (.mov (.t 8)), none⟩,
    ⟨(some 5), .val (.mov (.t 10)), none⟩]
def g26_4 : List Am.Item := [
    ⟨(some 11), .val (.mov (.t 1)), none⟩,
    ⟨(some 12), .val (.mov (.t 0)), none⟩,
    ⟨(some 13), .val (.mov (.t 5)), none⟩,
    ⟨(some 14), .val (.iaddr 3 none (.t 12) (.t 13)), none⟩,
    ⟨(some 15), .val (.load (some 3) (.t 14)), none⟩,
    ⟨(some 16), .callF (.t 11) [(.t 15)], none⟩]
def g26_5 : List Am.Item := [
    ⟨(some 17), .val (.mov (.t 5)), none⟩,
    ⟨(some 4), .val (.mov (.t 17)), none⟩]
def g26_6 : List Am.Item := [
    ⟨(some 18), .val (.bin .num .add (.t 8) (.c (.int .i64 1))), none⟩,
    ⟨(some 8), .val (.mov (.t 18)), none⟩]
def l26_0 : RC := .seq (.reg g26_2) (.seq (.cond (.t 9) (.skip) (.exit 0)) (.seq (.block 1 (.seq (.reg g26_3) (.seq (.reg g26_4) (.cond (.t 16) (.seq (.reg g26_5) (.ret)) (.skip))))) (.reg g26_6)))
def g26_7 : List Am.Item := [
    ⟨(some 4), .val (.mov (.c (.int .i64 (-1)))), none⟩]
def r26 : RC := .seq (.reg g26_0) (.seq (.seq (.reg g26_1) (.block 0 (.loop l26_0))) (.seq (.reg g26_7) (.ret)))
def o26 : List RR := [.tmp 4]
theorem k26 : chkC Tryz.prog 19 r26 (Tryz.f26.body.getD .skip) = true := by decide +kernel
theorem q26 : chkR Tryz.prog Tryz.f26.results.toList o26 = true := by decide +kernel

/- wireschema/plan.Find$1 -/
def g27_0 : List Am.Item := [
    ⟨(some 2), .boxN 2 (.t 0), none⟩,
    ⟨(some 3), .val (.mov (.c (.bool false))), none⟩]
def g27_1 : List Am.Item := [
    ⟨(some 4), .val (.faddr 0 (.t 2)), none⟩,
    ⟨(some 5), .val (.load none (.t 4)), none⟩,
    ⟨(some 6), .val (.load none (.t 1)), none⟩,
    ⟨(some 7), .val (.bin .str .eql (.t 5) (.t 6)), none⟩,
    ⟨(some 3), .val (.mov (.t 7)), none⟩]
def r27 : RC := .seq (.reg g27_0) (.seq (.reg g27_1) (.ret))
def o27 : List RR := [.tmp 3]
theorem k27 : chkC Tryz.prog 8 r27 (Tryz.f27.body.getD .skip) = true := by decide +kernel
theorem q27 : chkR Tryz.prog Tryz.f27.results.toList o27 = true := by decide +kernel

/- wireschema/tagdec.find -/
def g28_0 : List Am.Item := [
    ⟨(some 2), .boxN 2 (.t 0), none⟩,
    ⟨(some 4), .allocN 4 [.int .i64 0, .int .u64 0, .str [], .nils, .nils, .nils, .nils], none⟩,
    ⟨(some 5), .val (.mov (.c (.bool false))), none⟩]
def g28_1 : List Am.Item := [
    ⟨(some 8), .val (.faddr 5 (.t 2)), none⟩,
    ⟨(some 9), .val (.load none (.t 8)), none⟩,
    ⟨(some 10), .val (.len 1 (.t 9)), none⟩,
    ⟨(some 11), .val (.mov (.c (.int .i64 0))), none⟩]
def g28_2 : List Am.Item := [
    ⟨(some 12), .val (.bin .num .lss (.t 11) (.t 10)), none⟩]
def g28_3 : List Am.Item := [
    ⟨(some 13), .val (.iaddr 8 none (.t 9) (.t 11)), none⟩,
    ⟨(some 14), .val (.load (some 8) (.t 13)), none⟩,
    ⟨(some 7), .allocN 7 [.int .i64 0, .int .i64 0, .int .u64 0, .str [], .nils, .nils, .nils, .nils], none⟩,
    ⟨none, .store 8 (.t 7) (.t 14), none⟩]
def g28_4 : List Am.Item := [
    ⟨(some 15), .val (.faddr 0 (.t 7)), none⟩,
    ⟨(some 16), .val (.load none (.t 15)), none⟩,
    ⟨(some 17), .val (.mov (.t 1)), none⟩,
    ⟨(some 18), .val (.bin .num .eql (.t 16) (.t 17)), none⟩]
def g28_5 : List Am.Item := [
    ⟨(some 19), .val (.faddr 1 (.t 7)), none⟩,
    ⟨(some 20), .val (.load (some 7) (.t 19)), none⟩,
    ⟨none, .store 7 (.t 4) (.t 20), none⟩,
    ⟨(some 5), .val (.mov (.c (.bool true))), none⟩]
def g28_6 : List Am.Item := [
    ⟨(some 21), .val (.bin .num .add (.t 11) (.c (.int .i64 1))), none⟩,
    ⟨(some 11), .val (.mov (.t 21)), none⟩]
def l28_0 : RC := .gho (.drop 7) (.seq (.reg g28_2) (.seq (.cond (.t 12) (.skip) (.exit 0)) (.seq (.block 1 (.seq (.reg g28_3) (.seq (.reg g28_4) (.cond (.t 18) (.seq (.reg g28_5) (.ret)) (.skip))))) (.reg g28_6))))
def g28_7 : List Am.Item := [
    ⟨(some 22), .val (.build [.int .i64 0, .int .u64 0, .str [], .nils, .nils, .nils, .nils] []), none⟩,
    ⟨none, .store 7 (.t 4) (.t 22), none⟩,
    ⟨(some 5), .val (.mov (.c (.bool false))), none⟩]
def r28 : RC := .seq (.reg g28_0) (.seq (.seq (.reg g28_1) (.block 0 (.loop l28_0))) (.seq (.reg g28_7) (.ret)))
def o28 : List RR := [.cell 4 (some 7), .tmp 5]
theorem k28 : chkC Tryz.prog 23 r28 (Tryz.f28.body.getD .skip) = true := by decide +kernel
theorem q28 : chkR Tryz.prog Tryz.f28.results.toList o28 = true := by decide +kernel

/- wireschema/tagdec.elements -/
def g29_0 : List Am.Item := [
    ⟨(some 1), .boxN 1 (.t 0), none⟩,
    ⟨(some 2), .val (.mov (.c (.nils))), none⟩]
def g29_1 : List Am.Item := [
    ⟨(some 6), .val (.faddr 0 (.t 1)), none⟩,
    ⟨(some 7), .val (.load none (.t 6)), none⟩]
def g29_2 : List Am.Item := [
    ⟨(some 9), .val (.bin .num .eql (.t 7) (.c (.int .i64 11))), none⟩,
    ⟨(some 8), .val (.mov (.t 9)), none⟩]
def g29_3 : List Am.Item := [
    ⟨(some 10), .val (.faddr 3 (.t 1)), none⟩,
    ⟨(some 11), .val (.load none (.t 10)), none⟩,
    ⟨(some 2), .val (.mov (.t 11)), none⟩]
def g29_4 : List Am.Item := [
    ⟨(some 13), .val (.bin .num .eql (.t 7) (.c (.int .i64 12))), none⟩,
    ⟨(some 12), .val (.mov (.t 13)), none⟩]
def g29_5 : List Am.Item := [
    ⟨(some 3), .val (.mov (.c (.nils))), none⟩]
def g29_6 : List Am.Item := [
    ⟨(some 14), .val (.faddr 4 (.t 1)), none⟩,
    ⟨(some 15), .val (.load none (.t 14)), none⟩,
    ⟨(some 16), .val (.len 1 (.t 15)), none⟩,
    ⟨(some 17), .val (.mov (.c (.int .i64 0))), none⟩]
def g29_7 : List Am.Item := [
    ⟨(some 18), .val (.bin .num .lss (.t 17) (.t 16)), none⟩]
def g29_8 : List Am.Item := [
    ⟨(some 19), .val (.iaddr 14 none (.t 15) (.t 17)), none⟩,
    ⟨(some 20), .val (.load (some 14) (.t 19)), none⟩,
    ⟨(some 5), .allocN 5 [.int .i64 0, .int .u64 0, .str [], .nils, .nils, .nils, .nils, .int .i64 0, .int .u64 0, .str [], .nils, .nils, .nils, .nils], none⟩,
    ⟨none, .store 14 (.t 5) (.t 20), none⟩]
def g29_9 : List Am.Item := [
    ⟨(some 21), .val (.mov (.t 3)), none⟩,
    ⟨(some 22), .val (.faddr 7 (.t 5)), none⟩,
    ⟨(some 23), .val (.load (some 7) (.t 22)), none⟩,
    ⟨(some 24), .bsl 7 1 [.int .i64 0, .int .u64 0, .str [], .nils, .nils, .nils, .nils] [(0, 7, (.t 23))], none⟩,
    ⟨(some 25), .app 7 128 33 (.t 21) (.t 24), none⟩,
    ⟨(some 3), .val (.mov (.t 25)), none⟩]
def g29_10 : List Am.Item := [
    ⟨(some 26), .val (.bin .num .add (.t 17) (.c (.int .i64 1))), none⟩,
    ⟨(some 17), .val (.mov (.t 26)), none⟩]
def l29_0 : RC := .gho (.drop 5) (.seq (.reg g29_7) (.seq (.cond (.t 18) (.skip) (.exit 1)) (.seq (.block 2 (.seq (.reg g29_8) (.reg g29_9))) (.reg g29_10))))
def g29_11 : List Am.Item := [
    ⟨(some 27), .val (.mov (.t 3)), none⟩,
    ⟨(some 2), .val (.mov (.t 27)), none⟩]
def g29_12 : List Am.Item := [
    ⟨(some 28), .val (.load (some 7) (.t 1)), none⟩,
    ⟨(some 29), .bsl 7 1 [.int .i64 0, .int .u64 0, .str [], .nils, .nils, .nils, .nils] [(0, 7, (.t 28))], none⟩,
    ⟨(some 2), .val (.mov (.t 29)), none⟩]
def r29 : RC := .seq (.reg g29_0) (.seq (.seq (.reg g29_1) (.block 0 (.seq (.reg g29_2) (.cond (.t 8) (.seq (.reg g29_3) (.ret)) (.seq (.reg g29_4) (.cond (.t 12) (.seq (.reg g29_5) (.gho (.vec 3 3 7) (.seq (.seq (.reg g29_6) (.block 1 (.loop l29_0))) (.seq (.reg g29_11) (.ret))))) (.skip))))))) (.seq (.reg g29_12) (.ret)))
def o29 : List RR := [.tmp 2]
theorem k29 : chkC Tryz.prog 30 r29 (Tryz.f29.body.getD .skip) = true := by decide +kernel
theorem q29 : chkR Tryz.prog Tryz.f29.results.toList o29 = true := by decide +kernel

/- slices.stableCmpFunc[wireschema/api.Raw] -/
def g31_0 : List Am.Item := [
    ⟨(some 6), .val (.mov (.c (.int .i64 20))), none⟩]
def g31_1 : List Am.Item := [
    ⟨(some 10), .val (.mov (.t 6)), none⟩,
    ⟨(some 7), .val (.mov (.c (.int .i64 0))), none⟩,
    ⟨(some 8), .val (.mov (.t 10)), none⟩]
def g31_2 : List Am.Item := [
    ⟨(some 11), .val (.mov (.t 8)), none⟩,
    ⟨(some 12), .val (.mov (.t 1)), none⟩,
    ⟨(some 13), .val (.bin .num .leq (.t 11) (.t 12)), none⟩]
def g31_3 : List Am.Item := [
    ⟨(some 14), .val (.mov (.t 0)), none⟩,
    ⟨(some 15), .val (.mov (.t 7)), none⟩,
    ⟨(some 16), .val (.mov (.t 8)), none⟩,
    ⟨(some 17), .val (.mov (.t 2)), none⟩,
    ⟨(some 18), .callF (.f 50) [(.t 14), (.t 15), (.t 16), (.t 17)], none⟩]
def g31_4 : List Am.Item := [
    ⟨(some 19), .val (.mov (.t 8)), none⟩,
    ⟨(some 7), .val (.mov (.t 19)), none⟩]
def g31_5 : List Am.Item := [
    ⟨(some 20), .val (.mov (.t 8)), none⟩,
    ⟨(some 21), .val (.mov (.t 6)), none⟩,
    ⟨(some 22), .val (.bin .num .add (.t 20) (.t 21)), none⟩,
    ⟨(some 8), .val (.mov (.t 22)), none⟩]
def l31_0 : RC := .seq (.seq (.reg g31_2) (.cond (.t 13) (.skip) (.exit 0))) (.block 1 (.seq (.reg g31_3) (.seq (.reg g31_4) (.reg g31_5))))
def g31_6 : List Am.Item := [
    ⟨(some 23), .val (.mov (.t 0)), none⟩,
    ⟨(some 24), .val (.mov (.t 7)), none⟩,
    ⟨(some 25), .val (.mov (.t 1)), none⟩,
    ⟨(some 26), .val (.mov (.t 2)), none⟩,
    ⟨(some 27), .callF (.f 50) [(.t 23), (.t 24), (.t 25), (.t 26)], none⟩]
def g31_7 : List Am.Item := [
    ⟨(some 28), .val (.mov (.t 6)), none⟩,
    ⟨(some 29), .val (.mov (.t 1)), none⟩,
    ⟨(some 30), .val (.bin .num .lss (.t 28) (.t 29)), none⟩]
def g31_8 : List Am.Item := [
    ⟨(some 31), .val (.mov (.t 6)), none⟩,
    ⟨(some 32), .val (.bin .num .mul (.c (.int .i64 2)) (.t 31)), none⟩,
    ⟨(some 7), .val (.mov (.c (.int .i64 0))), none⟩,
    ⟨(some 8), .val (.mov (.t 32)), none⟩]
def g31_9 : List Am.Item := [
    ⟨(some 33), .val (.mov (.t 8)), none⟩,
    ⟨(some 34), .val (.mov (.t 1)), none⟩,
    ⟨(some 35), .val (.bin .num .leq (.t 33) (.t 34)), none⟩]
def g31_10 : List Am.Item := [
    ⟨(some 36), .val (.mov (.t 0)), none⟩,
    ⟨(some 37), .val (.mov (.t 7)), none⟩,
    ⟨(some 38), .val (.mov (.t 7)), none⟩,
    ⟨(some 39), .val (.mov (.t 6)), none⟩,
    ⟨(some 40), .val (.bin .num .add (.t 38) (.t 39)), none⟩,
    ⟨(some 41), .val (.mov (.t 8)), none⟩,
    ⟨(some 42), .val (.mov (.t 2)), none⟩,
    ⟨(some 43), .callF (.f 51) [(.t 36), (.t 37), (.t 40), (.t 41), (.t 42)], none⟩]
def g31_11 : List Am.Item := [
    ⟨(some 44), .val (.mov (.t 8)), none⟩,
    ⟨(some 7), .val (.mov (.t 44)), none⟩]
def g31_12 : List Am.Item := [
    ⟨(some 45), .val (.mov (.t 8)), none⟩,
    ⟨(some 46), .val (.mov (.t 6)), none⟩,
    ⟨(some 47), .val (.bin .num .mul (.c (.int .i64 2)) (.t 46)), none⟩,
    ⟨(some 48), .val (.bin .num .add (.t 45) (.t 47)), none⟩,
    ⟨(some 8), .val (.mov (.t 48)), none⟩]
def l31_1 : RC := .seq (.seq (.reg g31_9) (.cond (.t 35) (.skip) (.exit 4))) (.block 5 (.seq (.reg g31_10) (.seq (.reg g31_11) (.reg g31_12))))
def g31_13 : List Am.Item := [
    ⟨(some 49), .val (.mov (.t 7)), none⟩,
    ⟨(some 50), .val (.mov (.t 6)), none⟩,
    ⟨(some 51), .val (.bin .num .add (.t 49) (.t 50)), none⟩,
    ⟨(some 9), .val (.mov (.t 51)), none⟩]
def g31_14 : List Am.Item := [
    ⟨(some 52), .val (.mov (.t 9)), none⟩,
    ⟨(some 53), .val (.mov (.t 1)), none⟩,
    ⟨(some 54), .val (.bin .num .lss (.t 52) (.t 53)), none⟩]
def g31_15 : List Am.Item := [
    ⟨(some 55), .val (.mov (.t 0)), none⟩,
    ⟨(some 56), .val (.mov (.t 7)), none⟩,
    ⟨(some 57), .val (.mov (.t 9)), none⟩,
    ⟨(some 58), .val (.mov (.t 1)), none⟩,
    ⟨(some 59), .val (.mov (.t 2)), none⟩,
    ⟨(some 60), .callF (.f 51) [(.t 55), (.t 56), (.t 57), (.t 58), (.t 59)], none⟩]
def g31_16 : List Am.Item := [
    ⟨(some 61), .val (.mov (.t 6)), none⟩,
    ⟨(some 62), .val (.bin .num .mul (.t 61) (.c (.int .i64 2))), none⟩,
    ⟨(some 6), .val (.mov (.t 62)), none⟩]
def l31_2 : RC := .seq (.seq (.reg g31_7) (.cond (.t 30) (.skip) (.exit 2))) (.block 3 (.seq (.reg g31_8) (.seq (.block 4 (.loop l31_1)) (.seq (.seq (.reg g31_13) (.seq (.reg g31_14) (.cond (.t 54) (.reg g31_15) (.skip)))) (.reg g31_16)))))
def r31 : RC := .seq (.reg g31_0) (.seq (.reg g31_1) (.seq (.block 0 (.loop l31_0)) (.seq (.reg g31_6) (.block 2 (.loop l31_2)))))
def o31 : List RR := []
theorem k31 : chkC Tryz.prog 63 r31 (Tryz.f31.body.getD .skip) = true := by decide +kernel
theorem q31 : chkR Tryz.prog Tryz.f31.results.toList o31 = true := by decide +kernel

/- cmp.isNaN[int] -/
def g32_0 : List Am.Item := [
    ⟨(some 2), .val (.mov (.c (.bool false))), none⟩]
def g32_1 : List Am.Item := [
    ⟨(some 3), .val (.mov (.t 0)), none⟩,
    ⟨(some 4), .val (.mov (.t 0)), none⟩,
    ⟨(some 5), .val (.bin .num .neq (.t 3) (.t 4)), none⟩,
    ⟨(some 2), .val (.mov (.t 5)), none⟩]
def r32 : RC := .seq (.reg g32_0) (.seq (.reg g32_1) (.ret))
def o32 : List RR := [.tmp 2]
theorem k32 : chkC Tryz.prog 6 r32 (Tryz.f32.body.getD .skip) = true := by decide +kernel
theorem q32 : chkR Tryz.prog Tryz.f32.results.toList o32 = true := by decide +kernel

/- wireschema/unknown.TakeTag -/
def g33_0 : List Am.Item := [
    ⟨(some 1), .boxN 1 (.t 0), none⟩,
    ⟨(some 2), .val (.mov (.c (.int .i64 0))), none⟩,
    ⟨(some 3), .val (.mov (.c (.int .i64 0))), none⟩,
    ⟨(some 4), .allocN 4 [.str [], .int .i64 0, .int .i64 0, .int .i64 0, .int .i64 0, .int .i64 0], none⟩,
    ⟨(some 5), .val (.mov (.c (.int .i64 0))), none⟩]
def g33_1 : List Am.Item := [
    ⟨(some 10), .val (.load (some 6) (.t 1)), none⟩,
    ⟨(some 11), .call (.f 52) [(.t 10)], none⟩,
    ⟨(some 9), .val (.mov (.t 11)), none⟩,
    ⟨(some 12), .val (.ext (.t 9) 0), none⟩,
    ⟨(some 13), .val (.ext (.t 9) 1), none⟩,
    ⟨(some 14), .val (.ext (.t 9) 2), none⟩,
    ⟨(some 7), .allocN 7 [.str [], .int .i64 0, .int .i64 0, .int .i64 0, .int .i64 0, .int .i64 0], none⟩,
    ⟨(some 6), .val (.mov (.t 12)), none⟩,
    ⟨none, .store 6 (.t 7) (.t 13), none⟩,
    ⟨(some 8), .val (.mov (.t 14)), none⟩]
def g33_2 : List Am.Item := [
    ⟨(some 16), .val (.mov (.t 8)), none⟩,
    ⟨(some 17), .val (.bin .num .neq (.t 16) (.c (.int .i64 0))), none⟩,
    ⟨(some 15), .val (.mov (.t 17)), none⟩]
def g33_3 : List Am.Item := [
    ⟨(some 18), .val (.loadv 0 1 (some 6) (.t 1)), none⟩,
    ⟨(some 19), .val (.mov (.t 8)), none⟩,
    ⟨(some 2), .val (.mov (.c (.int .i64 0))), none⟩,
    ⟨(some 3), .val (.mov (.c (.int .i64 0))), none⟩,
    ⟨none, .storev 0 4 6 (.t 4) (.t 18), none⟩,
    ⟨(some 5), .val (.mov (.t 19)), none⟩]
def g33_4 : List Am.Item := [
    ⟨(some 21), .val (.mov (.t 6)), none⟩,
    ⟨(some 22), .val (.bin .num .rem (.t 21) (.c (.int .u64 8))), none⟩,
    ⟨(some 23), .val (.bin .num .eql (.t 22) (.c (.int .u64 7))), none⟩,
    ⟨(some 20), .val (.mov (.t 23)), none⟩]
def g33_5 : List Am.Item := [
    ⟨(some 24), .val (.loadv 0 1 (some 6) (.t 1)), none⟩,
    ⟨(some 2), .val (.mov (.c (.int .i64 0))), none⟩,
    ⟨(some 3), .val (.mov (.c (.int .i64 0))), none⟩,
    ⟨none, .storev 0 4 6 (.t 4) (.t 24), none⟩,
    ⟨(some 5), .val (.mov (.c (.int .i64 5))), none⟩]
def g33_6 : List Am.Item := [
    ⟨(some 26), .val (.mov (.t 6)), none⟩,
    ⟨(some 27), .val (.bin .num .quo (.t 26) (.c (.int .u64 8))), none⟩,
    ⟨(some 28), .val (.bin .num .lss (.t 27) (.c (.int .u64 1))), none⟩,
    ⟨(some 29), .val (.mov (.t 28)), none⟩,
    ⟨(some 30), .val (.mov (.t 6)), (some (29, false))⟩,
    ⟨(some 31), .val (.bin .num .quo (.t 30) (.c (.int .u64 8))), (some (29, false))⟩,
    ⟨(some 32), .val (.bin .num .gtr (.t 31) (.c (.int .u64 65535))), (some (29, false))⟩,
    ⟨(some 33), .val (.pick (.t 29) (.c (.bool true)) (.t 32)), none⟩,
    ⟨(some 25), .val (.mov (.t 33)), none⟩]
def g33_7 : List Am.Item := [
    ⟨(some 34), .val (.loadv 0 1 (some 6) (.t 1)), none⟩,
    ⟨(some 2), .val (.mov (.c (.int .i64 0))), none⟩,
    ⟨(some 3), .val (.mov (.c (.int .i64 0))), none⟩,
    ⟨none, .storev 0 4 6 (.t 4) (.t 34), none⟩,
    ⟨(some 5), .val (.mov (.c (.int .i64 6))), none⟩]
def g33_8 : List Am.Item := [
    ⟨(some 35), .val (.mov (.t 6)), none⟩,
    ⟨(some 36), .val (.bin .num .quo (.t 35) (.c (.int .u64 8))), none⟩,
    ⟨(some 37), .val (.cvi .i64 (.t 36)), none⟩,
    ⟨(some 38), .val (.mov (.t 6)), none⟩,
    ⟨(some 39), .val (.bin .num .rem (.t 38) (.c (.int .u64 8))), none⟩,
    ⟨(some 40), .val (.cvi .i64 (.t 39)), none⟩,
    ⟨(some 41), .val (.loadv 0 7 (some 6) (.t 7)), none⟩,
    ⟨(some 2), .val (.mov (.t 37)), none⟩,
    ⟨(some 3), .val (.mov (.t 40)), none⟩,
    ⟨none, .storev 0 4 6 (.t 4) (.t 41), none⟩,
    ⟨(some 5), .val (.mov (.c (.int .i64 0))), none⟩]
def r33 : RC := .seq (.reg g33_0) (.seq (.reg g33_1) (.seq (.block 0 (.seq (.reg g33_2) (.cond (.t 15) (.seq (.draw g33_3) (.ret)) (.seq (.reg g33_4) (.cond (.t 20) (.seq (.draw g33_5) (.ret)) (.seq (.reg g33_6) (.cond (.t 25) (.seq (.draw g33_7) (.ret)) (.skip)))))))) (.seq (.draw g33_8) (.ret))))
def o33 : List RR := [.tmp 2, .tmp 3, .cell 4 (some 6), .tmp 5]
theorem k33 : chkC Tryz.prog 42 r33 (Tryz.f33.body.getD .skip) = true := by decide +kernel
theorem q33 : chkR Tryz.prog Tryz.f33.results.toList o33 = true := by decide +kernel

/- wireschema/cursor.Spend -/
def g34_0 : List Am.Item := [
    ⟨(some 2), .boxN 2 (.t 0), none⟩,
    ⟨(some 4), .allocN 4 [.str [], .int .i64 0, .int .i64 0, .int .i64 0, .int .i64 0, .int .i64 0], none⟩,
    ⟨(some 5), .val (.mov (.c (.int .i64 0))), none⟩]
def g34_1 : List Am.Item := [
    ⟨(some 7), .val (.mov (.t 1)), none⟩,
    ⟨(some 8), .val (.bin .num .lss (.t 7) (.c (.int .i64 0))), none⟩,
    ⟨(some 6), .val (.mov (.t 8)), none⟩]
def g34_2 : List Am.Item := [
    ⟨(some 9), .val (.load (some 6) (.t 2)), none⟩,
    ⟨none, .store 6 (.t 4) (.t 9), none⟩,
    ⟨(some 5), .val (.mov (.c (.int .i64 1))), none⟩]
def g34_3 : List Am.Item := [
    ⟨(some 11), .val (.mov (.t 1)), none⟩,
    ⟨(some 12), .val (.faddr 4 (.t 2)), none⟩,
    ⟨(some 13), .val (.load none (.t 12)), none⟩,
    ⟨(some 14), .val (.bin .num .gtr (.t 11) (.t 13)), none⟩,
    ⟨(some 10), .val (.mov (.t 14)), none⟩]
def g34_4 : List Am.Item := [
    ⟨(some 15), .val (.load (some 6) (.t 2)), none⟩,
    ⟨none, .store 6 (.t 4) (.t 15), none⟩,
    ⟨(some 5), .val (.mov (.c (.int .i64 3))), none⟩]
def g34_5 : List Am.Item := [
    ⟨(some 16), .val (.faddr 4 (.t 2)), none⟩,
    ⟨(some 17), .val (.load none (.t 16)), none⟩,
    ⟨(some 18), .val (.mov (.t 1)), none⟩,
    ⟨(some 19), .val (.bin .num .sub (.t 17) (.t 18)), none⟩,
    ⟨(some 20), .val (.faddr 4 (.t 2)), none⟩,
    ⟨none, .store 1 (.t 20) (.t 19), none⟩]
def g34_6 : List Am.Item := [
    ⟨(some 21), .val (.load (some 6) (.t 2)), none⟩,
    ⟨none, .store 6 (.t 4) (.t 21), none⟩,
    ⟨(some 5), .val (.mov (.c (.int .i64 0))), none⟩]
def r34 : RC := .seq (.reg g34_0) (.seq (.block 0 (.seq (.reg g34_1) (.cond (.t 6) (.seq (.reg g34_2) (.ret)) (.seq (.reg g34_3) (.cond (.t 10) (.seq (.reg g34_4) (.ret)) (.skip)))))) (.seq (.reg g34_5) (.seq (.reg g34_6) (.ret))))
def o34 : List RR := [.cell 4 (some 6), .tmp 5]
theorem k34 : chkC Tryz.prog 22 r34 (Tryz.f34.body.getD .skip) = true := by decide +kernel
theorem q34 : chkR Tryz.prog Tryz.f34.results.toList o34 = true := by decide +kernel

/- wireschema/unknown.contents -/
def g35_0 : List Am.Item := [
    ⟨(some 2), .boxN 2 (.t 0), none⟩,
    ⟨(some 4), .allocN 4 [.str [], .int .i64 0, .int .i64 0, .int .i64 0, .int .i64 0, .int .i64 0], none⟩,
    ⟨(some 5), .val (.mov (.c (.int .i64 0))), none⟩]
def g35_1 : List Am.Item := [
    ⟨(some 6), .val (.mov (.c (.int .i64 0))), none⟩]
def g35_2 : List Am.Item := [
    ⟨(some 7), .val (.mov (.t 1)), none⟩,
    ⟨(some 8), .val (.nilck (.t 7)), none⟩,
    ⟨(some 9), .val (.faddr 1 (.t 8)), none⟩,
    ⟨(some 10), .val (.load none (.t 9)), none⟩]
def g35_4 : List Am.Item := [
    ⟨(some 25), .val (.bin .num .eql (.t 10) (.c (.int .i64 0))), none⟩,
    ⟨(some 24), .val (.mov (.t 25)), none⟩]
def g35_5 : List Am.Item := [
    ⟨(some 26), .val (.bin .num .eql (.t 10) (.c (.int .i64 1))), none⟩,
    ⟨(some 24), .val (.mov (.t 26)), none⟩]
def g35_6 : List Am.Item := [
    ⟨(some 28), .val (.mov (.t 1)), none⟩,
    ⟨(some 29), .val (.load (some 6) (.t 2)), none⟩,
    ⟨(some 30), .call (.f 52) [(.t 29)], none⟩,
    ⟨(some 27), .val (.mov (.t 30)), none⟩,
    ⟨(some 31), .val (.ext (.t 27) 0), none⟩,
    ⟨(some 32), .val (.ext (.t 27) 1), none⟩,
    ⟨(some 33), .val (.ext (.t 27) 2), none⟩,
    ⟨(some 34), .val (.nilck (.t 28)), none⟩,
    ⟨(some 35), .val (.faddr 2 (.t 34)), none⟩,
    ⟨none, .store 1 (.t 35) (.t 31), none⟩,
    ⟨none, .store 6 (.t 2) (.t 32), none⟩,
    ⟨(some 6), .val (.mov (.t 33)), none⟩]
def g35_7 : List Am.Item := [
    ⟨(some 37), .val (.bin .num .eql (.t 10) (.c (.int .i64 2))), none⟩,
    ⟨(some 36), .val (.mov (.t 37)), none⟩]
def g35_8 : List Am.Item := [
    ⟨(some 39), .val (.mov (.t 1)), none⟩,
    ⟨(some 40), .val (.load (some 6) (.t 2)), none⟩,
    ⟨(some 41), .call (.f 53) [(.t 40)], none⟩,
    ⟨(some 38), .val (.mov (.t 41)), none⟩,
    ⟨(some 42), .val (.ext (.t 38) 0), none⟩,
    ⟨(some 43), .val (.ext (.t 38) 1), none⟩,
    ⟨(some 44), .val (.ext (.t 38) 2), none⟩,
    ⟨(some 45), .val (.nilck (.t 39)), none⟩,
    ⟨(some 46), .val (.faddr 2 (.t 45)), none⟩,
    ⟨none, .store 1 (.t 46) (.t 42), none⟩,
    ⟨none, .store 6 (.t 2) (.t 43), none⟩,
    ⟨(some 6), .val (.mov (.t 44)), none⟩]
def g35_3 : List Am.Item := [
    ⟨(some 12), .val (.mov (.t 1)), none⟩,
    ⟨(some 13), .val (.loadv 0 2 (some 6) (.t 2)), none⟩,
    ⟨(some 14), .val (.mov (.t 1)), none⟩,
    ⟨(some 15), .val (.nilck (.t 14)), none⟩,
    ⟨(some 16), .val (.faddr 1 (.t 15)), none⟩,
    ⟨(some 17), .val (.loado none (.t 16)), none⟩,
    ⟨(some 18), .call (.f 54) [(.t 13), (.t 17)], none⟩,
    ⟨(some 11), .val (.mov (.t 18)), none⟩,
    ⟨(some 19), .val (.ext (.t 11) 0), none⟩,
    ⟨(some 20), .val (.ext (.t 11) 1), none⟩,
    ⟨(some 21), .val (.ext (.t 11) 2), none⟩,
    ⟨(some 22), .val (.nilck (.t 12)), none⟩,
    ⟨(some 23), .val (.faddr 3 (.t 22)), none⟩,
    ⟨none, .store 1 (.t 23) (.t 19), none⟩,
    ⟨none, .storev 0 2 6 (.t 2) (.t 20), none⟩,
    ⟨(some 6), .val (.mov (.t 21)), none⟩]
def g35_9 : List Am.Item := [
    ⟨(some 47), .val (.load (some 6) (.t 2)), none⟩,
    ⟨(some 48), .val (.mov (.t 6)), none⟩,
    ⟨none, .store 6 (.t 4) (.t 47), none⟩,
    ⟨(some 5), .val (.mov (.t 48)), none⟩]
def r35 : RC := .seq (.reg g35_0) (.seq (.reg g35_1) (.seq (.seq (.reg g35_2) (.block 0 (.seq (.seq (.reg g35_4) (.cond (.t 24) (.skip) (.reg g35_5))) (.cond (.t 24) (.reg g35_6) (.seq (.reg g35_7) (.cond (.t 36) (.reg g35_8) (.draw g35_3))))))) (.seq (.reg g35_9) (.ret))))
def o35 : List RR := [.cell 4 (some 6), .tmp 5]
theorem k35 : chkC Tryz.prog 49 r35 (Tryz.f35.body.getD .skip) = true := by decide +kernel
theorem q35 : chkR Tryz.prog Tryz.f35.results.toList o35 = true := by decide +kernel

/- wireschema/cursor.Left -/
def g36_0 : List Am.Item := [
    ⟨(some 1), .boxN 1 (.t 0), none⟩,
    ⟨(some 2), .val (.mov (.c (.int .i64 0))), none⟩]
def g36_1 : List Am.Item := [
    ⟨(some 3), .val (.load (some 6) (.t 1)), none⟩,
    ⟨(some 4), .call (.f 55) [(.t 3)], none⟩,
    ⟨(some 5), .val (.un .not (.t 4)), none⟩]
def g36_2 : List Am.Item := [
    ⟨(some 2), .val (.mov (.c (.int .i64 0))), none⟩]
def g36_3 : List Am.Item := [
    ⟨(some 6), .val (.faddr 2 (.t 1)), none⟩,
    ⟨(some 7), .val (.load none (.t 6)), none⟩,
    ⟨(some 8), .val (.faddr 1 (.t 1)), none⟩,
    ⟨(some 9), .val (.load none (.t 8)), none⟩,
    ⟨(some 10), .val (.bin .num .sub (.t 7) (.t 9)), none⟩,
    ⟨(some 2), .val (.mov (.t 10)), none⟩]
def r36 : RC := .seq (.reg g36_0) (.seq (.seq (.reg g36_1) (.cond (.t 5) (.seq (.reg g36_2) (.ret)) (.skip))) (.seq (.reg g36_3) (.ret)))
def o36 : List RR := [.tmp 2]
theorem k36 : chkC Tryz.prog 11 r36 (Tryz.f36.body.getD .skip) = true := by decide +kernel
theorem q36 : chkR Tryz.prog Tryz.f36.results.toList o36 = true := by decide +kernel

/- (*wireschema/tagdec.reader).field -/
def g37_0 : List Am.Item := [
    ⟨(some 6), .boxN 6 (.t 1), none⟩,
    ⟨(some 7), .boxN 7 (.t 2), none⟩,
    ⟨(some 8), .boxN 8 (.t 3), none⟩,
    ⟨(some 10), .allocN 10 [.int .i64 0, .int .u64 0, .str [], .nils, .nils, .nils, .nils], none⟩,
    ⟨(some 11), .val (.mov (.c (.int .i64 0))), none⟩]
def g37_1 : List Am.Item := [
    ⟨(some 13), .val (.faddr 3 (.t 8)), none⟩,
    ⟨(some 14), .val (.load none (.t 13)), none⟩,
    ⟨(some 15), .val (.bin .num .eql (.t 14) (.c (.int .i64 5))), none⟩,
    ⟨(some 12), .val (.mov (.t 15)), none⟩]
def g37_2 : List Am.Item := [
    ⟨(some 16), .val (.mov (.t 4)), none⟩,
    ⟨(some 17), .val (.bin .num .neq (.t 16) (.c (.int .i64 6))), none⟩]
def g37_3 : List Am.Item := [
    ⟨(some 18), .val (.load (some 7) (.t 7)), none⟩,
    ⟨none, .store 7 (.t 10) (.t 18), none⟩,
    ⟨(some 11), .val (.mov (.c (.int .i64 13))), none⟩]
def g37_4 : List Am.Item := [
    ⟨(some 19), .val (.mov (.t 0)), none⟩,
    ⟨(some 20), .val (.load (some 3) (.t 6)), none⟩,
    ⟨(some 21), .val (.load (some 7) (.t 7)), none⟩,
    ⟨(some 22), .val (.load (some 8) (.t 8)), none⟩,
    ⟨(some 23), .callF (.f 56) [(.t 19), (.t 20), (.t 21), (.t 22)], none⟩,
    ⟨(some 24), .val (.ext (.t 23) 0), none⟩,
    ⟨(some 25), .val (.ext (.t 23) 1), none⟩,
    ⟨none, .store 7 (.t 10) (.t 24), none⟩,
    ⟨(some 11), .val (.mov (.t 25)), none⟩]
def g37_5 : List Am.Item := [
    ⟨(some 27), .val (.mov (.t 4)), none⟩,
    ⟨(some 28), .val (.bin .num .eql (.t 27) (.c (.int .i64 5))), none⟩,
    ⟨(some 29), .val (.mov (.t 28)), none⟩,
    ⟨(some 30), .val (.load (some 8) (.t 8)), (some (29, true))⟩,
    ⟨(some 31), .call (.f 57) [(.t 30)], (some (29, true))⟩,
    ⟨(some 32), .val (.pick (.t 29) (.t 31) (.c (.bool false))), none⟩,
    ⟨(some 26), .val (.mov (.t 32)), none⟩]
def g37_6 : List Am.Item := [
    ⟨(some 33), .val (.mov (.t 0)), none⟩,
    ⟨(some 34), .val (.load (some 3) (.t 6)), none⟩,
    ⟨(some 35), .val (.load (some 7) (.t 7)), none⟩,
    ⟨(some 36), .val (.load (some 8) (.t 8)), none⟩,
    ⟨(some 37), .callF (.f 58) [(.t 33), (.t 34), (.t 35), (.t 36)], none⟩,
    ⟨(some 38), .val (.ext (.t 37) 0), none⟩,
    ⟨(some 39), .val (.ext (.t 37) 1), none⟩,
    ⟨none, .store 7 (.t 10) (.t 38), none⟩,
    ⟨(some 11), .val (.mov (.t 39)), none⟩]
def g37_7 : List Am.Item := [
    ⟨(some 41), .val (.mov (.t 4)), none⟩,
    ⟨(some 42), .val (.load (some 8) (.t 8)), none⟩,
    ⟨(some 43), .call (.f 59) [(.t 42)], none⟩,
    ⟨(some 44), .val (.bin .num .neq (.t 41) (.t 43)), none⟩,
    ⟨(some 40), .val (.mov (.t 44)), none⟩]
def g37_8 : List Am.Item := [
    ⟨(some 45), .val (.load (some 7) (.t 7)), none⟩,
    ⟨none, .store 7 (.t 10) (.t 45), none⟩,
    ⟨(some 11), .val (.mov (.c (.int .i64 13))), none⟩]
def g37_9 : List Am.Item := [
    ⟨(some 47), .val (.faddr 5 (.t 8)), none⟩,
    ⟨(some 48), .val (.load none (.t 47)), none⟩,
    ⟨(some 49), .val (.bin .num .eql (.t 48) (.c (.int .i64 10))), none⟩,
    ⟨(some 46), .val (.mov (.t 49)), none⟩]
def g37_10 : List Am.Item := [
    ⟨(some 50), .val (.mov (.t 0)), none⟩,
    ⟨(some 51), .val (.load (some 3) (.t 6)), none⟩,
    ⟨(some 52), .val (.load (some 7) (.t 7)), none⟩,
    ⟨(some 53), .val (.load (some 8) (.t 8)), none⟩,
    ⟨(some 54), .callF (.f 60) [(.t 50), (.t 51), (.t 52), (.t 53)], none⟩,
    ⟨(some 55), .val (.ext (.t 54) 0), none⟩,
    ⟨(some 56), .val (.ext (.t 54) 1), none⟩,
    ⟨none, .store 7 (.t 10) (.t 55), none⟩,
    ⟨(some 11), .val (.mov (.t 56)), none⟩]
def g37_11 : List Am.Item := [
    ⟨(some 57), .val (.mov (.t 0)), none⟩,
    ⟨(some 58), .val (.load (some 3) (.t 6)), none⟩,
    ⟨(some 59), .val (.load (some 7) (.t 7)), none⟩,
    ⟨(some 60), .val (.load (some 8) (.t 8)), none⟩,
    ⟨(some 61), .callF (.f 61) [(.t 57), (.t 58), (.t 59), (.t 60)], none⟩,
    ⟨(some 62), .val (.ext (.t 61) 0), none⟩,
    ⟨(some 63), .val (.ext (.t 61) 1), none⟩,
    ⟨none, .store 7 (.t 10) (.t 62), none⟩,
    ⟨(some 11), .val (.mov (.t 63)), none⟩]
def r37 : RC := .seq (.reg g37_0) (.seq (.block 0 (.seq (.reg g37_1) (.cond (.t 12) (.seq (.seq (.reg g37_2) (.cond (.t 17) (.seq (.reg g37_3) (.ret)) (.skip))) (.seq (.reg g37_4) (.ret))) (.seq (.reg g37_5) (.cond (.t 26) (.seq (.reg g37_6) (.ret)) (.seq (.reg g37_7) (.cond (.t 40) (.seq (.reg g37_8) (.ret)) (.seq (.reg g37_9) (.cond (.t 46) (.seq (.reg g37_10) (.ret)) (.skip)))))))))) (.seq (.reg g37_11) (.ret)))
def o37 : List RR := [.cell 10 (some 7), .tmp 11]
theorem k37 : chkC Tryz.prog 64 r37 (Tryz.f37.body.getD .skip) = true := by decide +kernel
theorem q37 : chkR Tryz.prog Tryz.f37.results.toList o37 = true := by decide +kernel

/- wireschema/tagdec.aside -/
def g38_0 : List Am.Item := [
    ⟨(some 2), .boxN 2 (.t 0), none⟩,
    ⟨(some 3), .boxN 3 (.t 1), none⟩,
    ⟨(some 4), .allocN 4 [.int .i64 0, .int .u64 0, .str [], .nils, .nils, .nils, .nils], none⟩]
def g38_1 : List Am.Item := [
    ⟨(some 6), .val (.faddr 6 (.t 2)), none⟩,
    ⟨(some 7), .val (.load none (.t 6)), none⟩,
    ⟨(some 8), .val (.len 1 (.t 7)), none⟩,
    ⟨(some 5), .val (.mov (.t 8)), none⟩]
def g38_2 : List Am.Item := [
    ⟨(some 9), .val (.faddr 6 (.t 2)), none⟩,
    ⟨(some 10), .val (.loadv 0 2 none (.t 9)), none⟩,
    ⟨(some 11), .val (.mov (.t 5)), none⟩,
    ⟨(some 12), .val (.mov (.t 5)), none⟩,
    ⟨(some 13), .val (.slcl (.t 10) (.t 11) (.t 12)), none⟩,
    ⟨(some 14), .val (.loadv 0 3 (some 4) (.t 3)), none⟩,
    ⟨(some 15), .bsl 4 1 [.int .i64 0, .int .i64 0, .int .u64 0, .str []] [(0, 4, (.t 14))], none⟩,
    ⟨(some 16), .appc 16 4 40 55 (.t 13) (.t 15), none⟩,
    ⟨(some 17), .val (.faddr 6 (.t 2)), none⟩,
    ⟨none, .storev 0 2 1 (.t 17) (.t 16), none⟩]
def g38_3 : List Am.Item := [
    ⟨(some 18), .val (.load (some 7) (.t 2)), none⟩,
    ⟨none, .store 7 (.t 4) (.t 18), none⟩]
def r38 : RC := .seq (.reg g38_0) (.seq (.reg g38_1) (.seq (.draw g38_2) (.seq (.reg g38_3) (.ret))))
def o38 : List RR := [.cell 4 (some 7)]
theorem k38 : chkC Tryz.prog 19 r38 (Tryz.f38.body.getD .skip) = true := by decide +kernel
theorem q38 : chkR Tryz.prog Tryz.f38.results.toList o38 = true := by decide +kernel

/- wireschema/order.Slots -/
def g39_0 : List Am.Item := [
    ⟨(some 2), .val (.mov (.c (.nils))), none⟩]
def g39_1 : List Am.Item := [
    ⟨(some 7), .val (.mov (.t 0)), none⟩,
    ⟨(some 8), .callF (.f 62) [(.t 7)], none⟩,
    ⟨(some 3), .val (.mov (.t 8)), none⟩]
def g39_2 : List Am.Item := [
    ⟨(some 9), .val (.mov (.t 3)), none⟩,
    ⟨(some 10), .callF (.f 63) [(.t 9), (.f 64)], none⟩]
def g39_3 : List Am.Item := [
    ⟨(some 4), .val (.mov (.c (.nils))), none⟩]
def g39_4 : List Am.Item := [
    ⟨(some 11), .val (.mov (.t 3)), none⟩,
    ⟨(some 12), .val (.len 1 (.t 11)), none⟩,
    ⟨(some 13), .val (.mov (.c (.int .i64 0))), none⟩]
def g39_5 : List Am.Item := [
    ⟨(some 14), .val (.bin .num .lss (.t 13) (.t 12)), none⟩]
def g39_6 : List Am.Item := [
    ⟨(some 15), .val (.mov (.t 13)), none⟩,
    ⟨(some 16), .val (.iaddr 8 none (.t 11) (.t 13)), none⟩,
    ⟨(some 17), .val (.load (some 8) (.t 16)), none⟩,
    ⟨(some 6), .allocN 6 [.int .i64 0, .int .i64 0, .int .u64 0, .str [], .nils, .nils, .nils, .nils], none⟩,
    ⟨(some 5), .val (.mov (.t 15)), none⟩,
    ⟨none, .store 8 (.t 6) (.t 17), none⟩]
def g39_7 : List Am.Item := [
    ⟨(some 18), .val (.mov (.t 5)), none⟩,
    ⟨(some 19), .val (.bin .num .add (.t 18) (.c (.int .i64 1))), none⟩,
    ⟨(some 20), .val (.mov (.t 3)), none⟩,
    ⟨(some 21), .val (.len 1 (.t 20)), none⟩,
    ⟨(some 22), .val (.bin .num .eql (.t 19) (.t 21)), none⟩,
    ⟨(some 23), .val (.mov (.t 22)), none⟩,
    ⟨(some 24), .val (.faddr 0 (.t 6)), (some (23, false))⟩,
    ⟨(some 25), .val (.loadv 0 6 none (.t 24)), (some (23, false))⟩,
    ⟨(some 26), .val (.mov (.t 3)), (some (23, false))⟩,
    ⟨(some 27), .val (.mov (.t 5)), (some (23, false))⟩,
    ⟨(some 28), .val (.bin .num .add (.t 27) (.c (.int .i64 1))), (some (23, false))⟩,
    ⟨(some 29), .val (.iaddr 8 none (.t 26) (.t 28)), (some (23, false))⟩,
    ⟨(some 30), .val (.faddr 0 (.t 29)), (some (23, false))⟩,
    ⟨(some 31), .val (.loadr none (.t 30)), (some (23, false))⟩,
    ⟨(some 32), .val (.bin .num .neq (.t 25) (.t 31)), (some (23, false))⟩,
    ⟨(some 33), .val (.pick (.t 23) (.c (.bool true)) (.t 32)), none⟩]
def g39_8 : List Am.Item := [
    ⟨(some 34), .val (.mov (.t 4)), none⟩,
    ⟨(some 35), .val (.load (some 8) (.t 6)), none⟩,
    ⟨(some 36), .bsl 8 1 [.int .i64 0, .int .i64 0, .int .u64 0, .str [], .nils, .nils, .nils, .nils] [(0, 8, (.t 35))], none⟩,
    ⟨(some 37), .app 8 136 66 (.t 34) (.t 36), none⟩,
    ⟨(some 4), .val (.mov (.t 37)), none⟩]
def g39_9 : List Am.Item := [
    ⟨(some 38), .val (.bin .num .add (.t 13) (.c (.int .i64 1))), none⟩,
    ⟨(some 13), .val (.mov (.t 38)), none⟩]
def l39_0 : RC := .gho (.drop 6) (.seq (.reg g39_5) (.seq (.cond (.t 14) (.skip) (.exit 0)) (.seq (.block 1 (.seq (.reg g39_6) (.seq (.draw g39_7) (.cond (.t 33) (.reg g39_8) (.skip))))) (.reg g39_9))))
def g39_10 : List Am.Item := [
    ⟨(some 39), .val (.mov (.t 4)), none⟩,
    ⟨(some 2), .val (.mov (.t 39)), none⟩]
def r39 : RC := .seq (.reg g39_0) (.seq (.reg g39_1) (.seq (.reg g39_2) (.seq (.reg g39_3) (.gho (.vec 4 4 8) (.seq (.seq (.reg g39_4) (.block 0 (.loop l39_0))) (.seq (.reg g39_10) (.ret)))))))
def o39 : List RR := [.tmp 2]
theorem k39 : chkC Tryz.prog 40 r39 (Tryz.f39.body.getD .skip) = true := by decide +kernel
theorem q39 : chkR Tryz.prog Tryz.f39.results.toList o39 = true := by decide +kernel

/- wireschema/plan.Op -/
def g40_0 : List Am.Item := [
    ⟨(some 2), .boxN 2 (.t 0), none⟩,
    ⟨(some 3), .boxN 3 (.t 1), none⟩,
    ⟨(some 4), .allocN 4 [.int .i64 0, .str [], .str [], .int .i64 0, .int .i64 0, .int .i64 0, .int .i64 0, .int .i64 0], none⟩,
    ⟨(some 5), .val (.mov (.c (.bool false))), none⟩]
def g40_1 : List Am.Item := [
    ⟨(some 6), .val (.mkfn (.func 65) [] [(.t 3)]), none⟩,
    ⟨(some 7), .val (.build [.nilf] [(0, 1, (.t 6))]), none⟩,
    ⟨(some 8), .val (.load (some 3) (.t 2)), none⟩,
    ⟨(some 9), .callF (.f 66) [(.t 7), (.t 8)], none⟩,
    ⟨(some 10), .val (.ext (.t 9) 0), none⟩,
    ⟨(some 11), .val (.ext (.t 9) 1), none⟩,
    ⟨none, .store 8 (.t 4) (.t 10), none⟩,
    ⟨(some 5), .val (.mov (.t 11)), none⟩]
def r40 : RC := .seq (.reg g40_0) (.seq (.reg g40_1) (.ret))
def o40 : List RR := [.cell 4 (some 8), .tmp 5]
theorem k40 : chkC Tryz.prog 12 r40 (Tryz.f40.body.getD .skip) = true := by decide +kernel
theorem q40 : chkR Tryz.prog Tryz.f40.results.toList o40 = true := by decide +kernel

/- wireschema/plan.normField -/
def g41_0 : List Am.Item := [
    ⟨(some 3), .boxN 3 (.t 0), none⟩,
    ⟨(some 4), .boxN 4 (.t 1), none⟩,
    ⟨(some 5), .boxN 5 (.t 2), none⟩,
    ⟨(some 6), .allocN 6 [.int .i64 0, .int .u64 0, .str [], .nils, .nils, .nils, .nils], none⟩]
def g41_1 : List Am.Item := [
    ⟨(some 13), .val (.faddr 3 (.t 4)), none⟩,
    ⟨(some 14), .val (.load none (.t 13)), none⟩]
def g41_2 : List Am.Item := [
    ⟨(some 16), .val (.bin .num .eql (.t 14) (.c (.int .i64 4))), none⟩,
    ⟨(some 15), .val (.mov (.t 16)), none⟩]
def g41_3 : List Am.Item := [
    ⟨(some 17), .val (.build [.int .i64 0, .int .u64 0, .str [], .nils, .nils, .nils, .nils] [(0, 1, (.c (.int .i64 11)))]), none⟩,
    ⟨(some 7), .allocN 7 [.int .i64 0, .int .u64 0, .str [], .nils, .nils, .nils, .nils], none⟩,
    ⟨none, .store 7 (.t 7) (.t 17), none⟩]
def g41_4 : List Am.Item := [
    ⟨(some 18), .val (.faddr 3 (.t 5)), none⟩,
    ⟨(some 19), .val (.load none (.t 18)), none⟩,
    ⟨(some 20), .val (.len 1 (.t 19)), none⟩,
    ⟨(some 21), .val (.mov (.c (.int .i64 0))), none⟩]
def g41_5 : List Am.Item := [
    ⟨(some 22), .val (.bin .num .lss (.t 21) (.t 20)), none⟩]
def g41_6 : List Am.Item := [
    ⟨(some 23), .val (.iaddr 7 none (.t 19) (.t 21)), none⟩,
    ⟨(some 24), .val (.load (some 7) (.t 23)), none⟩,
    ⟨(some 9), .allocN 9 [.int .i64 0, .int .u64 0, .str [], .nils, .nils, .nils, .nils], none⟩,
    ⟨none, .store 7 (.t 9) (.t 24), none⟩]
def g41_7 : List Am.Item := [
    ⟨(some 25), .val (.faddr 3 (.t 7)), none⟩,
    ⟨(some 26), .val (.loadv 0 7 none (.t 25)), none⟩,
    ⟨(some 27), .val (.loadv 0 3 (some 2) (.t 3)), none⟩,
    ⟨(some 28), .val (.loadv 0 4 (some 8) (.t 4)), none⟩,
    ⟨(some 29), .val (.loadv 0 9 (some 7) (.t 9)), none⟩,
    ⟨(some 30), .call (.f 67) [(.t 27), (.t 28), (.t 29)], none⟩,
    ⟨(some 31), .bsl 7 1 [.int .i64 0, .int .u64 0, .str [], .nils, .nils, .nils, .nils] [(0, 7, (.t 30))], none⟩,
    ⟨(some 32), .app 7 128 33 (.t 26) (.t 31), none⟩,
    ⟨(some 33), .val (.faddr 3 (.t 7)), none⟩,
    ⟨none, .storev 0 7 1 (.t 33) (.t 32), none⟩]
def g41_8 : List Am.Item := [
    ⟨(some 34), .val (.bin .num .add (.t 21) (.c (.int .i64 1))), none⟩,
    ⟨(some 21), .val (.mov (.t 34)), none⟩]
def l41_0 : RC := .gho (.drop 9) (.seq (.reg g41_5) (.seq (.cond (.t 22) (.skip) (.exit 1)) (.seq (.block 2 (.seq (.reg g41_6) (.draw g41_7))) (.reg g41_8))))
def g41_9 : List Am.Item := [
    ⟨(some 35), .val (.load (some 7) (.t 7)), none⟩,
    ⟨none, .store 7 (.t 6) (.t 35), none⟩]
def g41_10 : List Am.Item := [
    ⟨(some 37), .val (.bin .num .eql (.t 14) (.c (.int .i64 5))), none⟩,
    ⟨(some 36), .val (.mov (.t 37)), none⟩]
def g41_11 : List Am.Item := [
    ⟨(some 38), .val (.build [.int .i64 0, .int .u64 0, .str [], .nils, .nils, .nils, .nils] [(0, 1, (.c (.int .i64 12)))]), none⟩,
    ⟨(some 10), .allocN 10 [.int .i64 0, .int .u64 0, .str [], .nils, .nils, .nils, .nils], none⟩,
    ⟨none, .store 7 (.t 10) (.t 38), none⟩]
def g41_12 : List Am.Item := [
    ⟨(some 39), .val (.faddr 4 (.t 5)), none⟩,
    ⟨(some 40), .val (.load none (.t 39)), none⟩,
    ⟨(some 41), .call (.f 68) [(.t 40)], none⟩,
    ⟨(some 42), .val (.len 1 (.t 41)), none⟩,
    ⟨(some 43), .val (.mov (.c (.int .i64 0))), none⟩]
def g41_13 : List Am.Item := [
    ⟨(some 44), .val (.bin .num .lss (.t 43) (.t 42)), none⟩]
def g41_14 : List Am.Item := [
    ⟨(some 45), .val (.iaddr 14 none (.t 41) (.t 43)), none⟩,
    ⟨(some 46), .val (.load (some 14) (.t 45)), none⟩,
    ⟨(some 12), .allocN 12 [.int .i64 0, .int .u64 0, .str [], .nils, .nils, .nils, .nils, .int .i64 0, .int .u64 0, .str [], .nils, .nils, .nils, .nils], none⟩,
    ⟨none, .store 14 (.t 12) (.t 46), none⟩]
def g41_15 : List Am.Item := [
    ⟨(some 47), .val (.faddr 4 (.t 10)), none⟩,
    ⟨(some 48), .val (.loadv 0 10 none (.t 47)), none⟩,
    ⟨(some 49), .val (.faddr 0 (.t 12)), none⟩,
    ⟨(some 50), .val (.loadv 0 12 (some 7) (.t 49)), none⟩,
    ⟨(some 51), .call (.f 69) [(.t 50)], none⟩,
    ⟨(some 52), .val (.loadv 0 3 (some 2) (.t 3)), none⟩,
    ⟨(some 53), .val (.loadv 0 4 (some 8) (.t 4)), none⟩,
    ⟨(some 54), .val (.faddr 7 (.t 12)), none⟩,
    ⟨(some 55), .val (.loadv 0 12 (some 7) (.t 54)), none⟩,
    ⟨(some 56), .call (.f 67) [(.t 52), (.t 53), (.t 55)], none⟩,
    ⟨(some 57), .val (.build [.int .i64 0, .int .u64 0, .str [], .nils, .nils, .nils, .nils, .int .i64 0, .int .u64 0, .str [], .nils, .nils, .nils, .nils] [(0, 7, (.t 51)), (7, 7, (.t 56))]), none⟩,
    ⟨(some 58), .bsl 14 1 [.int .i64 0, .int .u64 0, .str [], .nils, .nils, .nils, .nils, .int .i64 0, .int .u64 0, .str [], .nils, .nils, .nils, .nils] [(0, 14, (.t 57))], none⟩,
    ⟨(some 59), .app 14 256 100 (.t 48) (.t 58), none⟩,
    ⟨(some 60), .val (.faddr 4 (.t 10)), none⟩,
    ⟨none, .storev 0 10 1 (.t 60) (.t 59), none⟩]
def g41_16 : List Am.Item := [
    ⟨(some 61), .val (.bin .num .add (.t 43) (.c (.int .i64 1))), none⟩,
    ⟨(some 43), .val (.mov (.t 61)), none⟩]
def l41_1 : RC := .gho (.drop 12) (.seq (.reg g41_13) (.seq (.cond (.t 44) (.skip) (.exit 3)) (.seq (.block 4 (.seq (.reg g41_14) (.draw g41_15))) (.reg g41_16))))
def g41_17 : List Am.Item := [
    ⟨(some 62), .val (.load (some 7) (.t 10)), none⟩,
    ⟨none, .store 7 (.t 6) (.t 62), none⟩]
def g41_18 : List Am.Item := [
    ⟨(some 63), .val (.load (some 2) (.t 3)), none⟩,
    ⟨(some 64), .val (.load (some 8) (.t 4)), none⟩,
    ⟨(some 65), .val (.load (some 7) (.t 5)), none⟩,
    ⟨(some 66), .call (.f 67) [(.t 63), (.t 64), (.t 65)], none⟩,
    ⟨none, .store 7 (.t 6) (.t 66), none⟩]
def r41 : RC := .seq (.reg g41_0) (.seq (.seq (.reg g41_1) (.block 0 (.seq (.reg g41_2) (.cond (.t 15) (.seq (.reg g41_3) (.gho (.vecc 7 3 1100 7) (.seq (.seq (.reg g41_4) (.block 1 (.loop l41_0))) (.seq (.reg g41_9) (.ret))))) (.seq (.reg g41_10) (.cond (.t 36) (.seq (.reg g41_11) (.gho (.vecc 10 4 1101 14) (.seq (.seq (.reg g41_12) (.block 3 (.loop l41_1))) (.seq (.reg g41_17) (.ret))))) (.skip))))))) (.seq (.reg g41_18) (.ret)))
def o41 : List RR := [.cell 6 (some 7)]
theorem k41 : chkC Tryz.prog 67 r41 (Tryz.f41.body.getD .skip) = true := by decide +kernel
theorem q41 : chkR Tryz.prog Tryz.f41.results.toList o41 = true := by decide +kernel

/- wireschema/plan.Empty -/
def g42_0 : List Am.Item := [
    ⟨(some 1), .boxN 1 (.t 0), none⟩,
    ⟨(some 2), .val (.mov (.c (.bool false))), none⟩]
def g42_1 : List Am.Item := [
    ⟨(some 3), .val (.faddr 0 (.t 1)), none⟩,
    ⟨(some 4), .val (.load none (.t 3)), none⟩,
    ⟨(some 5), .val (.bin .num .eql (.t 4) (.c (.int .i64 11))), none⟩,
    ⟨(some 6), .val (.mov (.t 5)), none⟩,
    ⟨(some 7), .val (.faddr 3 (.t 1)), (some (6, true))⟩,
    ⟨(some 8), .val (.load none (.t 7)), (some (6, true))⟩,
    ⟨(some 9), .val (.len 1 (.t 8)), (some (6, true))⟩,
    ⟨(some 10), .val (.bin .num .eql (.t 9) (.c (.int .i64 0))), (some (6, true))⟩,
    ⟨(some 11), .val (.pick (.t 6) (.t 10) (.c (.bool false))), none⟩,
    ⟨(some 12), .val (.mov (.t 11)), none⟩,
    ⟨(some 13), .val (.faddr 0 (.t 1)), (some (12, false))⟩,
    ⟨(some 14), .val (.load none (.t 13)), (some (12, false))⟩,
    ⟨(some 15), .val (.bin .num .eql (.t 14) (.c (.int .i64 12))), (some (12, false))⟩,
    ⟨(some 16), .val (.mov (.t 15)), (some (12, false))⟩,
    ⟨(some 17), .val (.faddr 4 (.t 1)), (some (16, true))⟩,
    ⟨(some 18), .val (.load none (.t 17)), (some (16, true))⟩,
    ⟨(some 19), .val (.len 1 (.t 18)), (some (16, true))⟩,
    ⟨(some 20), .val (.bin .num .eql (.t 19) (.c (.int .i64 0))), (some (16, true))⟩,
    ⟨(some 21), .val (.pick (.t 16) (.t 20) (.c (.bool false))), (some (12, false))⟩,
    ⟨(some 22), .val (.pick (.t 12) (.c (.bool true)) (.t 21)), none⟩,
    ⟨(some 23), .val (.mov (.t 22)), none⟩,
    ⟨(some 24), .val (.load (some 7) (.t 1)), (some (23, false))⟩,
    ⟨(some 25), .call (.f 70) [(.t 24)], (some (23, false))⟩,
    ⟨(some 26), .val (.pick (.t 23) (.c (.bool true)) (.t 25)), none⟩,
    ⟨(some 2), .val (.mov (.t 26)), none⟩]
def r42 : RC := .seq (.reg g42_0) (.seq (.reg g42_1) (.ret))
def o42 : List RR := [.tmp 2]
theorem k42 : chkC Tryz.prog 27 r42 (Tryz.f42.body.getD .skip) = true := by decide +kernel
theorem q42 : chkR Tryz.prog Tryz.f42.results.toList o42 = true := by decide +kernel

/- wireschema/plan.Norm$1 -/
def g43_0 : List Am.Item := [
    ⟨(some 2), .boxN 2 (.t 0), none⟩,
    ⟨(some 3), .boxN 3 (.t 1), none⟩,
    ⟨(some 4), .val (.mov (.c (.int .i64 0))), none⟩]
def g43_1 : List Am.Item := [
    ⟨(some 5), .val (.faddr 0 (.t 2)), none⟩,
    ⟨(some 6), .val (.load none (.t 5)), none⟩,
    ⟨(some 7), .val (.faddr 0 (.t 3)), none⟩,
    ⟨(some 8), .val (.load none (.t 7)), none⟩,
    ⟨(some 9), .call (.f 20) [(.t 6), (.t 8)], none⟩,
    ⟨(some 4), .val (.mov (.t 9)), none⟩]
def r43 : RC := .seq (.reg g43_0) (.seq (.reg g43_1) (.ret))
def o43 : List RR := [.tmp 4]
theorem k43 : chkC Tryz.prog 10 r43 (Tryz.f43.body.getD .skip) = true := by decide +kernel
theorem q43 : chkR Tryz.prog Tryz.f43.results.toList o43 = true := by decide +kernel

/- slices.insertionSortCmpFunc[wireschema/api.Raw] -/
def g50_0 : List Am.Item := [
    ⟨(some 10), .val (.mov (.t 1)), none⟩,
    ⟨(some 11), .val (.bin .num .add (.t 10) (.c (.int .i64 1))), none⟩,
    ⟨(some 8), .val (.mov (.t 11)), none⟩]
def g50_1 : List Am.Item := [
    ⟨(some 12), .val (.mov (.t 8)), none⟩,
    ⟨(some 13), .val (.mov (.t 2)), none⟩,
    ⟨(some 14), .val (.bin .num .lss (.t 12) (.t 13)), none⟩]
def g50_3 : List Am.Item := [
    ⟨(some 17), .val (.mov (.t 8)), none⟩,
    ⟨(some 9), .val (.mov (.t 17)), none⟩]
def g50_4 : List Am.Item := [
    ⟨(some 18), .val (.mov (.t 9)), none⟩,
    ⟨(some 19), .val (.mov (.t 1)), none⟩,
    ⟨(some 20), .val (.bin .num .gtr (.t 18) (.t 19)), none⟩,
    ⟨(some 21), .val (.mov (.t 20)), none⟩,
    ⟨(some 22), .val (.mov (.t 3)), (some (21, true))⟩,
    ⟨(some 23), .val (.mov (.t 0)), (some (21, true))⟩,
    ⟨(some 24), .val (.mov (.t 9)), (some (21, true))⟩,
    ⟨(some 25), .val (.iaddr 4 none (.t 23) (.t 24)), (some (21, true))⟩,
    ⟨(some 26), .val (.loadr (some 4) (.t 25)), (some (21, true))⟩,
    ⟨(some 27), .val (.mov (.t 0)), (some (21, true))⟩,
    ⟨(some 28), .val (.mov (.t 9)), (some (21, true))⟩,
    ⟨(some 29), .val (.bin .num .sub (.t 28) (.c (.int .i64 1))), (some (21, true))⟩,
    ⟨(some 30), .val (.iaddr 4 none (.t 27) (.t 29)), (some (21, true))⟩,
    ⟨(some 31), .val (.loadr (some 4) (.t 30)), (some (21, true))⟩,
    ⟨(some 32), .call (.t 22) [(.t 26), (.t 31)], (some (21, true))⟩,
    ⟨(some 33), .val (.bin .num .lss (.t 32) (.c (.int .i64 0))), (some (21, true))⟩,
    ⟨(some 34), .val (.pick (.t 21) (.t 33) (.c (.bool false))), none⟩]
def g50_6 : List Am.Item := [
    ⟨(some 37), .val (.mov (.t 0)), none⟩,
    ⟨(some 38), .val (.mov (.t 9)), none⟩,
    ⟨(some 39), .val (.mov (.t 0)), none⟩,
    ⟨(some 40), .val (.mov (.t 9)), none⟩,
    ⟨(some 41), .val (.bin .num .sub (.t 40) (.c (.int .i64 1))), none⟩,
    ⟨(some 42), .val (.mov (.t 0)), none⟩,
    ⟨(some 43), .val (.mov (.t 9)), none⟩,
    ⟨(some 44), .val (.bin .num .sub (.t 43) (.c (.int .i64 1))), none⟩,
    ⟨(some 45), .val (.iaddr 4 none (.t 42) (.t 44)), none⟩,
    ⟨(some 46), .val (.loadr (some 4) (.t 45)), none⟩,
    ⟨(some 47), .val (.mov (.t 0)), none⟩,
    ⟨(some 48), .val (.mov (.t 9)), none⟩,
    ⟨(some 49), .val (.iaddr 4 none (.t 47) (.t 48)), none⟩,
    ⟨(some 50), .val (.loadr (some 4) (.t 49)), none⟩,
    ⟨(some 51), .val (.iaddr 4 none (.t 37) (.t 38)), none⟩,
    ⟨none, .store 4 (.t 51) (.t 46), none⟩,
    ⟨(some 52), .val (.iaddr 4 none (.t 39) (.t 41)), none⟩,
    ⟨none, .store 4 (.t 52) (.t 50), none⟩]
def g50_5 : List Am.Item := [
    ⟨(some 35), .val (.mov (.t 9)), none⟩,
    ⟨(some 36), .val (.bin .num .sub (.t 35) (.c (.int .i64 1))), none⟩,
    ⟨(some 9), .val (.mov (.t 36)), none⟩]
def l50_0 : RC := .seq (.seq (.draw g50_4) (.cond (.t 34) (.skip) (.exit 2))) (.seq (.block 3 (.draw g50_6)) (.reg g50_5))
def g50_2 : List Am.Item := [
    ⟨(some 15), .val (.mov (.t 8)), none⟩,
    ⟨(some 16), .val (.bin .num .add (.t 15) (.c (.int .i64 1))), none⟩,
    ⟨(some 8), .val (.mov (.t 16)), none⟩]
def l50_1 : RC := .seq (.seq (.reg g50_1) (.cond (.t 14) (.skip) (.exit 0))) (.seq (.block 1 (.seq (.reg g50_3) (.block 2 (.loop l50_0)))) (.reg g50_2))
def r50 : RC := .seq (.reg g50_0) (.block 0 (.loop l50_1))
def o50 : List RR := []
theorem k50 : chkC Tryz.prog 53 r50 (Tryz.f50.body.getD .skip) = true := by decide +kernel
theorem q50 : chkR Tryz.prog Tryz.f50.results.toList o50 = true := by decide +kernel

/- slices.symMergeCmpFunc[wireschema/api.Raw] -/
def g51_0 : List Am.Item := [
    ⟨(some 25), .val (.mov (.t 2)), none⟩,
    ⟨(some 26), .val (.mov (.t 1)), none⟩,
    ⟨(some 27), .val (.bin .num .sub (.t 25) (.t 26)), none⟩,
    ⟨(some 28), .val (.bin .num .eql (.t 27) (.c (.int .i64 1))), none⟩]
def g51_1 : List Am.Item := [
    ⟨(some 29), .val (.mov (.t 2)), none⟩,
    ⟨(some 10), .val (.mov (.t 29)), none⟩]
def g51_2 : List Am.Item := [
    ⟨(some 30), .val (.mov (.t 3)), none⟩,
    ⟨(some 11), .val (.mov (.t 30)), none⟩]
def g51_3 : List Am.Item := [
    ⟨(some 31), .val (.mov (.t 10)), none⟩,
    ⟨(some 32), .val (.mov (.t 11)), none⟩,
    ⟨(some 33), .val (.bin .num .lss (.t 31) (.t 32)), none⟩]
def g51_4 : List Am.Item := [
    ⟨(some 34), .val (.mov (.t 10)), none⟩,
    ⟨(some 35), .val (.mov (.t 11)), none⟩,
    ⟨(some 36), .val (.bin .num .add (.t 34) (.t 35)), none⟩,
    ⟨(some 37), .val (.cvi .u64 (.t 36)), none⟩,
    ⟨(some 38), .val (.bin .num .shr (.t 37) (.c (.int .u64 1))), none⟩,
    ⟨(some 39), .val (.cvi .i64 (.t 38)), none⟩,
    ⟨(some 12), .val (.mov (.t 39)), none⟩]
def g51_5 : List Am.Item := [
    ⟨(some 40), .val (.mov (.t 4)), none⟩,
    ⟨(some 41), .val (.mov (.t 0)), none⟩,
    ⟨(some 42), .val (.mov (.t 12)), none⟩,
    ⟨(some 43), .val (.iaddr 4 none (.t 41) (.t 42)), none⟩,
    ⟨(some 44), .val (.loadr (some 4) (.t 43)), none⟩,
    ⟨(some 45), .val (.mov (.t 0)), none⟩,
    ⟨(some 46), .val (.mov (.t 1)), none⟩,
    ⟨(some 47), .val (.iaddr 4 none (.t 45) (.t 46)), none⟩,
    ⟨(some 48), .val (.loadr (some 4) (.t 47)), none⟩,
    ⟨(some 49), .call (.t 40) [(.t 44), (.t 48)], none⟩,
    ⟨(some 50), .val (.bin .num .lss (.t 49) (.c (.int .i64 0))), none⟩]
def g51_6 : List Am.Item := [
    ⟨(some 51), .val (.mov (.t 12)), none⟩,
    ⟨(some 52), .val (.bin .num .add (.t 51) (.c (.int .i64 1))), none⟩,
    ⟨(some 10), .val (.mov (.t 52)), none⟩]
def g51_7 : List Am.Item := [
    ⟨(some 53), .val (.mov (.t 12)), none⟩,
    ⟨(some 11), .val (.mov (.t 53)), none⟩]
def l51_0 : RC := .seq (.seq (.reg g51_3) (.cond (.t 33) (.skip) (.exit 0))) (.block 1 (.seq (.reg g51_4) (.seq (.draw g51_5) (.cond (.t 50) (.reg g51_6) (.reg g51_7)))))
def g51_8 : List Am.Item := [
    ⟨(some 54), .val (.mov (.t 1)), none⟩,
    ⟨(some 13), .val (.mov (.t 54)), none⟩]
def g51_9 : List Am.Item := [
    ⟨(some 55), .val (.mov (.t 13)), none⟩,
    ⟨(some 56), .val (.mov (.t 10)), none⟩,
    ⟨(some 57), .val (.bin .num .sub (.t 56) (.c (.int .i64 1))), none⟩,
    ⟨(some 58), .val (.bin .num .lss (.t 55) (.t 57)), none⟩]
def g51_11 : List Am.Item := [
    ⟨(some 61), .val (.mov (.t 0)), none⟩,
    ⟨(some 62), .val (.mov (.t 13)), none⟩,
    ⟨(some 63), .val (.mov (.t 0)), none⟩,
    ⟨(some 64), .val (.mov (.t 13)), none⟩,
    ⟨(some 65), .val (.bin .num .add (.t 64) (.c (.int .i64 1))), none⟩,
    ⟨(some 66), .val (.mov (.t 0)), none⟩,
    ⟨(some 67), .val (.mov (.t 13)), none⟩,
    ⟨(some 68), .val (.bin .num .add (.t 67) (.c (.int .i64 1))), none⟩,
    ⟨(some 69), .val (.iaddr 4 none (.t 66) (.t 68)), none⟩,
    ⟨(some 70), .val (.loadr (some 4) (.t 69)), none⟩,
    ⟨(some 71), .val (.mov (.t 0)), none⟩,
    ⟨(some 72), .val (.mov (.t 13)), none⟩,
    ⟨(some 73), .val (.iaddr 4 none (.t 71) (.t 72)), none⟩,
    ⟨(some 74), .val (.loadr (some 4) (.t 73)), none⟩,
    ⟨(some 75), .val (.iaddr 4 none (.t 61) (.t 62)), none⟩,
    ⟨none, .store 4 (.t 75) (.t 70), none⟩,
    ⟨(some 76), .val (.iaddr 4 none (.t 63) (.t 65)), none⟩,
    ⟨none, .store 4 (.t 76) (.t 74), none⟩]
def g51_10 : List Am.Item := [
    ⟨(some 59), .val (.mov (.t 13)), none⟩,
    ⟨(some 60), .val (.bin .num .add (.t 59) (.c (.int .i64 1))), none⟩,
    ⟨(some 13), .val (.mov (.t 60)), none⟩]
def l51_1 : RC := .seq (.seq (.reg g51_9) (.cond (.t 58) (.skip) (.exit 2))) (.seq (.block 3 (.draw g51_11)) (.reg g51_10))
def g51_12 : List Am.Item := [
    ⟨(some 77), .val (.mov (.t 3)), none⟩,
    ⟨(some 78), .val (.mov (.t 2)), none⟩,
    ⟨(some 79), .val (.bin .num .sub (.t 77) (.t 78)), none⟩,
    ⟨(some 80), .val (.bin .num .eql (.t 79) (.c (.int .i64 1))), none⟩]
def g51_13 : List Am.Item := [
    ⟨(some 81), .val (.mov (.t 1)), none⟩,
    ⟨(some 14), .val (.mov (.t 81)), none⟩]
def g51_14 : List Am.Item := [
    ⟨(some 82), .val (.mov (.t 2)), none⟩,
    ⟨(some 15), .val (.mov (.t 82)), none⟩]
def g51_15 : List Am.Item := [
    ⟨(some 83), .val (.mov (.t 14)), none⟩,
    ⟨(some 84), .val (.mov (.t 15)), none⟩,
    ⟨(some 85), .val (.bin .num .lss (.t 83) (.t 84)), none⟩]
def g51_16 : List Am.Item := [
    ⟨(some 86), .val (.mov (.t 14)), none⟩,
    ⟨(some 87), .val (.mov (.t 15)), none⟩,
    ⟨(some 88), .val (.bin .num .add (.t 86) (.t 87)), none⟩,
    ⟨(some 89), .val (.cvi .u64 (.t 88)), none⟩,
    ⟨(some 90), .val (.bin .num .shr (.t 89) (.c (.int .u64 1))), none⟩,
    ⟨(some 91), .val (.cvi .i64 (.t 90)), none⟩,
    ⟨(some 16), .val (.mov (.t 91)), none⟩]
def g51_17 : List Am.Item := [
    ⟨(some 92), .val (.mov (.t 4)), none⟩,
    ⟨(some 93), .val (.mov (.t 0)), none⟩,
    ⟨(some 94), .val (.mov (.t 2)), none⟩,
    ⟨(some 95), .val (.iaddr 4 none (.t 93) (.t 94)), none⟩,
    ⟨(some 96), .val (.loadr (some 4) (.t 95)), none⟩,
    ⟨(some 97), .val (.mov (.t 0)), none⟩,
    ⟨(some 98), .val (.mov (.t 16)), none⟩,
    ⟨(some 99), .val (.iaddr 4 none (.t 97) (.t 98)), none⟩,
    ⟨(some 100), .val (.loadr (some 4) (.t 99)), none⟩,
    ⟨(some 101), .call (.t 92) [(.t 96), (.t 100)], none⟩,
    ⟨(some 102), .val (.bin .num .lss (.t 101) (.c (.int .i64 0))), none⟩,
    ⟨(some 103), .val (.un .not (.t 102)), none⟩]
def g51_18 : List Am.Item := [
    ⟨(some 104), .val (.mov (.t 16)), none⟩,
    ⟨(some 105), .val (.bin .num .add (.t 104) (.c (.int .i64 1))), none⟩,
    ⟨(some 14), .val (.mov (.t 105)), none⟩]
def g51_19 : List Am.Item := [
    ⟨(some 106), .val (.mov (.t 16)), none⟩,
    ⟨(some 15), .val (.mov (.t 106)), none⟩]
def l51_2 : RC := .seq (.seq (.reg g51_15) (.cond (.t 85) (.skip) (.exit 4))) (.block 5 (.seq (.reg g51_16) (.seq (.draw g51_17) (.cond (.t 103) (.reg g51_18) (.reg g51_19)))))
def g51_20 : List Am.Item := [
    ⟨(some 107), .val (.mov (.t 2)), none⟩,
    ⟨(some 17), .val (.mov (.t 107)), none⟩]
def g51_21 : List Am.Item := [
    ⟨(some 108), .val (.mov (.t 17)), none⟩,
    ⟨(some 109), .val (.mov (.t 14)), none⟩,
    ⟨(some 110), .val (.bin .num .gtr (.t 108) (.t 109)), none⟩]
def g51_23 : List Am.Item := [
    ⟨(some 113), .val (.mov (.t 0)), none⟩,
    ⟨(some 114), .val (.mov (.t 17)), none⟩,
    ⟨(some 115), .val (.mov (.t 0)), none⟩,
    ⟨(some 116), .val (.mov (.t 17)), none⟩,
    ⟨(some 117), .val (.bin .num .sub (.t 116) (.c (.int .i64 1))), none⟩,
    ⟨(some 118), .val (.mov (.t 0)), none⟩,
    ⟨(some 119), .val (.mov (.t 17)), none⟩,
    ⟨(some 120), .val (.bin .num .sub (.t 119) (.c (.int .i64 1))), none⟩,
    ⟨(some 121), .val (.iaddr 4 none (.t 118) (.t 120)), none⟩,
    ⟨(some 122), .val (.loadr (some 4) (.t 121)), none⟩,
    ⟨(some 123), .val (.mov (.t 0)), none⟩,
    ⟨(some 124), .val (.mov (.t 17)), none⟩,
    ⟨(some 125), .val (.iaddr 4 none (.t 123) (.t 124)), none⟩,
    ⟨(some 126), .val (.loadr (some 4) (.t 125)), none⟩,
    ⟨(some 127), .val (.iaddr 4 none (.t 113) (.t 114)), none⟩,
    ⟨none, .store 4 (.t 127) (.t 122), none⟩,
    ⟨(some 128), .val (.iaddr 4 none (.t 115) (.t 117)), none⟩,
    ⟨none, .store 4 (.t 128) (.t 126), none⟩]
def g51_22 : List Am.Item := [
    ⟨(some 111), .val (.mov (.t 17)), none⟩,
    ⟨(some 112), .val (.bin .num .sub (.t 111) (.c (.int .i64 1))), none⟩,
    ⟨(some 17), .val (.mov (.t 112)), none⟩]
def l51_3 : RC := .seq (.seq (.reg g51_21) (.cond (.t 110) (.skip) (.exit 6))) (.seq (.block 7 (.draw g51_23)) (.reg g51_22))
def g51_24 : List Am.Item := [
    ⟨(some 129), .val (.mov (.t 1)), none⟩,
    ⟨(some 130), .val (.mov (.t 3)), none⟩,
    ⟨(some 131), .val (.bin .num .add (.t 129) (.t 130)), none⟩,
    ⟨(some 132), .val (.cvi .u64 (.t 131)), none⟩,
    ⟨(some 133), .val (.bin .num .shr (.t 132) (.c (.int .u64 1))), none⟩,
    ⟨(some 134), .val (.cvi .i64 (.t 133)), none⟩,
    ⟨(some 18), .val (.mov (.t 134)), none⟩]
def g51_25 : List Am.Item := [
    ⟨(some 135), .val (.mov (.t 18)), none⟩,
    ⟨(some 136), .val (.mov (.t 2)), none⟩,
    ⟨(some 137), .val (.bin .num .add (.t 135) (.t 136)), none⟩,
    ⟨(some 19), .val (.mov (.t 137)), none⟩]
def g51_26 : List Am.Item := [
    ⟨(some 20), .val (.mov (.c (.int .i64 0))), none⟩,
    ⟨(some 21), .val (.mov (.c (.int .i64 0))), none⟩]
def g51_27 : List Am.Item := [
    ⟨(some 138), .val (.mov (.t 2)), none⟩,
    ⟨(some 139), .val (.mov (.t 18)), none⟩,
    ⟨(some 140), .val (.bin .num .gtr (.t 138) (.t 139)), none⟩]
def g51_28 : List Am.Item := [
    ⟨(some 141), .val (.mov (.t 19)), none⟩,
    ⟨(some 142), .val (.mov (.t 3)), none⟩,
    ⟨(some 143), .val (.bin .num .sub (.t 141) (.t 142)), none⟩,
    ⟨(some 20), .val (.mov (.t 143)), none⟩]
def g51_29 : List Am.Item := [
    ⟨(some 144), .val (.mov (.t 18)), none⟩,
    ⟨(some 21), .val (.mov (.t 144)), none⟩]
def g51_30 : List Am.Item := [
    ⟨(some 145), .val (.mov (.t 1)), none⟩,
    ⟨(some 20), .val (.mov (.t 145)), none⟩]
def g51_31 : List Am.Item := [
    ⟨(some 146), .val (.mov (.t 2)), none⟩,
    ⟨(some 21), .val (.mov (.t 146)), none⟩]
def g51_32 : List Am.Item := [
    ⟨(some 147), .val (.mov (.t 19)), none⟩,
    ⟨(some 148), .val (.bin .num .sub (.t 147) (.c (.int .i64 1))), none⟩,
    ⟨(some 22), .val (.mov (.t 148)), none⟩]
def g51_33 : List Am.Item := [
    ⟨(some 149), .val (.mov (.t 20)), none⟩,
    ⟨(some 150), .val (.mov (.t 21)), none⟩,
    ⟨(some 151), .val (.bin .num .lss (.t 149) (.t 150)), none⟩]
def g51_34 : List Am.Item := [
    ⟨(some 152), .val (.mov (.t 20)), none⟩,
    ⟨(some 153), .val (.mov (.t 21)), none⟩,
    ⟨(some 154), .val (.bin .num .add (.t 152) (.t 153)), none⟩,
    ⟨(some 155), .val (.cvi .u64 (.t 154)), none⟩,
    ⟨(some 156), .val (.bin .num .shr (.t 155) (.c (.int .u64 1))), none⟩,
    ⟨(some 157), .val (.cvi .i64 (.t 156)), none⟩,
    ⟨(some 23), .val (.mov (.t 157)), none⟩]
def g51_35 : List Am.Item := [
    ⟨(some 158), .val (.mov (.t 4)), none⟩,
    ⟨(some 159), .val (.mov (.t 0)), none⟩,
    ⟨(some 160), .val (.mov (.t 22)), none⟩,
    ⟨(some 161), .val (.mov (.t 23)), none⟩,
    ⟨(some 162), .val (.bin .num .sub (.t 160) (.t 161)), none⟩,
    ⟨(some 163), .val (.iaddr 4 none (.t 159) (.t 162)), none⟩,
    ⟨(some 164), .val (.loadr (some 4) (.t 163)), none⟩,
    ⟨(some 165), .val (.mov (.t 0)), none⟩,
    ⟨(some 166), .val (.mov (.t 23)), none⟩,
    ⟨(some 167), .val (.iaddr 4 none (.t 165) (.t 166)), none⟩,
    ⟨(some 168), .val (.loadr (some 4) (.t 167)), none⟩,
    ⟨(some 169), .call (.t 158) [(.t 164), (.t 168)], none⟩,
    ⟨(some 170), .val (.bin .num .lss (.t 169) (.c (.int .i64 0))), none⟩,
    ⟨(some 171), .val (.un .not (.t 170)), none⟩]
def g51_36 : List Am.Item := [
    ⟨(some 172), .val (.mov (.t 23)), none⟩,
    ⟨(some 173), .val (.bin .num .add (.t 172) (.c (.int .i64 1))), none⟩,
    ⟨(some 20), .val (.mov (.t 173)), none⟩]
def g51_37 : List Am.Item := [
    ⟨(some 174), .val (.mov (.t 23)), none⟩,
    ⟨(some 21), .val (.mov (.t 174)), none⟩]
def l51_4 : RC := .seq (.seq (.reg g51_33) (.cond (.t 151) (.skip) (.exit 8))) (.block 9 (.seq (.reg g51_34) (.seq (.draw g51_35) (.cond (.t 171) (.reg g51_36) (.reg g51_37)))))
def g51_38 : List Am.Item := [
    ⟨(some 175), .val (.mov (.t 19)), none⟩,
    ⟨(some 176), .val (.mov (.t 20)), none⟩,
    ⟨(some 177), .val (.bin .num .sub (.t 175) (.t 176)), none⟩,
    ⟨(some 24), .val (.mov (.t 177)), none⟩]
def g51_39 : List Am.Item := [
    ⟨(some 178), .val (.mov (.t 20)), none⟩,
    ⟨(some 179), .val (.mov (.t 2)), none⟩,
    ⟨(some 180), .val (.bin .num .lss (.t 178) (.t 179)), none⟩,
    ⟨(some 181), .val (.mov (.t 180)), none⟩,
    ⟨(some 182), .val (.mov (.t 2)), (some (181, true))⟩,
    ⟨(some 183), .val (.mov (.t 24)), (some (181, true))⟩,
    ⟨(some 184), .val (.bin .num .lss (.t 182) (.t 183)), (some (181, true))⟩,
    ⟨(some 185), .val (.pick (.t 181) (.t 184) (.c (.bool false))), none⟩]
def g51_40 : List Am.Item := [
    ⟨(some 186), .val (.mov (.t 0)), none⟩,
    ⟨(some 187), .val (.mov (.t 20)), none⟩,
    ⟨(some 188), .val (.mov (.t 2)), none⟩,
    ⟨(some 189), .val (.mov (.t 24)), none⟩,
    ⟨(some 190), .val (.mov (.t 4)), none⟩,
    ⟨(some 191), .callF (.f 75) [(.t 186), (.t 187), (.t 188), (.t 189), (.t 190)], none⟩]
def g51_41 : List Am.Item := [
    ⟨(some 192), .val (.mov (.t 1)), none⟩,
    ⟨(some 193), .val (.mov (.t 20)), none⟩,
    ⟨(some 194), .val (.bin .num .lss (.t 192) (.t 193)), none⟩,
    ⟨(some 195), .val (.mov (.t 194)), none⟩,
    ⟨(some 196), .val (.mov (.t 20)), (some (195, true))⟩,
    ⟨(some 197), .val (.mov (.t 18)), (some (195, true))⟩,
    ⟨(some 198), .val (.bin .num .lss (.t 196) (.t 197)), (some (195, true))⟩,
    ⟨(some 199), .val (.pick (.t 195) (.t 198) (.c (.bool false))), none⟩]
def g51_42 : List Am.Item := [
    ⟨(some 200), .val (.mov (.t 0)), none⟩,
    ⟨(some 201), .val (.mov (.t 1)), none⟩,
    ⟨(some 202), .val (.mov (.t 20)), none⟩,
    ⟨(some 203), .val (.mov (.t 18)), none⟩,
    ⟨(some 204), .val (.mov (.t 4)), none⟩,
    ⟨(some 205), .callF (.f 51) [(.t 200), (.t 201), (.t 202), (.t 203), (.t 204)], none⟩]
def g51_43 : List Am.Item := [
    ⟨(some 206), .val (.mov (.t 18)), none⟩,
    ⟨(some 207), .val (.mov (.t 24)), none⟩,
    ⟨(some 208), .val (.bin .num .lss (.t 206) (.t 207)), none⟩,
    ⟨(some 209), .val (.mov (.t 208)), none⟩,
    ⟨(some 210), .val (.mov (.t 24)), (some (209, true))⟩,
    ⟨(some 211), .val (.mov (.t 3)), (some (209, true))⟩,
    ⟨(some 212), .val (.bin .num .lss (.t 210) (.t 211)), (some (209, true))⟩,
    ⟨(some 213), .val (.pick (.t 209) (.t 212) (.c (.bool false))), none⟩]
def g51_44 : List Am.Item := [
    ⟨(some 214), .val (.mov (.t 0)), none⟩,
    ⟨(some 215), .val (.mov (.t 18)), none⟩,
    ⟨(some 216), .val (.mov (.t 24)), none⟩,
    ⟨(some 217), .val (.mov (.t 3)), none⟩,
    ⟨(some 218), .val (.mov (.t 4)), none⟩,
    ⟨(some 219), .callF (.f 51) [(.t 214), (.t 215), (.t 216), (.t 217), (.t 218)], none⟩]
def r51 : RC := .seq (.seq (.reg g51_0) (.cond (.t 28) (.seq (.reg g51_1) (.seq (.reg g51_2) (.seq (.block 0 (.loop l51_0)) (.seq (.seq (.reg g51_8) (.block 2 (.loop l51_1))) (.ret))))) (.skip))) (.seq (.seq (.reg g51_12) (.cond (.t 80) (.seq (.reg g51_13) (.seq (.reg g51_14) (.seq (.block 4 (.loop l51_2)) (.seq (.seq (.reg g51_20) (.block 6 (.loop l51_3))) (.ret))))) (.skip))) (.seq (.reg g51_24) (.seq (.reg g51_25) (.seq (.reg g51_26) (.seq (.seq (.reg g51_27) (.cond (.t 140) (.seq (.reg g51_28) (.reg g51_29)) (.seq (.reg g51_30) (.reg g51_31)))) (.seq (.reg g51_32) (.seq (.block 8 (.loop l51_4)) (.seq (.reg g51_38) (.seq (.seq (.reg g51_39) (.cond (.t 185) (.reg g51_40) (.skip))) (.seq (.seq (.reg g51_41) (.cond (.t 199) (.reg g51_42) (.skip))) (.seq (.reg g51_43) (.cond (.t 213) (.reg g51_44) (.skip)))))))))))))
def o51 : List RR := []
theorem k51 : chkC Tryz.prog 220 r51 (Tryz.f51.body.getD .skip) = true := by decide +kernel
theorem q51 : chkR Tryz.prog Tryz.f51.results.toList o51 = true := by decide +kernel

/- wireschema/cursor.Varint -/
def g52_0 : List Am.Item := [
    ⟨(some 1), .boxN 1 (.t 0), none⟩,
    ⟨(some 2), .val (.mov (.c (.int .u64 0))), none⟩,
    ⟨(some 3), .allocN 3 [.str [], .int .i64 0, .int .i64 0, .int .i64 0, .int .i64 0, .int .i64 0], none⟩,
    ⟨(some 4), .val (.mov (.c (.int .i64 0))), none⟩]
def g52_1 : List Am.Item := [
    ⟨(some 9), .val (.load (some 6) (.t 1)), none⟩,
    ⟨(some 10), .call (.f 77) [(.t 9), (.c (.int .i64 10))], none⟩,
    ⟨(some 11), .call (.f 76) [(.t 10)], none⟩,
    ⟨(some 8), .val (.mov (.t 11)), none⟩,
    ⟨(some 12), .val (.ext (.t 8) 0), none⟩,
    ⟨(some 13), .val (.ext (.t 8) 1), none⟩,
    ⟨(some 14), .val (.ext (.t 8) 2), none⟩,
    ⟨(some 5), .val (.mov (.t 12)), none⟩,
    ⟨(some 6), .val (.mov (.t 13)), none⟩,
    ⟨(some 7), .val (.mov (.t 14)), none⟩]
def g52_2 : List Am.Item := [
    ⟨(some 15), .val (.mov (.t 7)), none⟩,
    ⟨(some 16), .val (.bin .num .neq (.t 15) (.c (.int .i64 0))), none⟩]
def g52_3 : List Am.Item := [
    ⟨(some 17), .val (.loadv 0 1 (some 6) (.t 1)), none⟩,
    ⟨(some 18), .val (.mov (.t 7)), none⟩,
    ⟨(some 2), .val (.mov (.c (.int .u64 0))), none⟩,
    ⟨none, .storev 0 3 6 (.t 3) (.t 17), none⟩,
    ⟨(some 4), .val (.mov (.t 18)), none⟩]
def g52_4 : List Am.Item := [
    ⟨(some 19), .val (.mov (.t 5)), none⟩,
    ⟨(some 20), .val (.load (some 6) (.t 1)), none⟩,
    ⟨(some 21), .val (.mov (.t 6)), none⟩,
    ⟨(some 22), .call (.f 78) [(.t 20), (.t 21)], none⟩,
    ⟨(some 2), .val (.mov (.t 19)), none⟩,
    ⟨none, .store 6 (.t 3) (.t 22), none⟩,
    ⟨(some 4), .val (.mov (.c (.int .i64 0))), none⟩]
def r52 : RC := .seq (.reg g52_0) (.seq (.reg g52_1) (.seq (.seq (.reg g52_2) (.cond (.t 16) (.seq (.draw g52_3) (.ret)) (.skip))) (.seq (.reg g52_4) (.ret))))
def o52 : List RR := [.tmp 2, .cell 3 (some 6), .tmp 4]
theorem k52 : chkC Tryz.prog 23 r52 (Tryz.f52.body.getD .skip) = true := by decide +kernel
theorem q52 : chkR Tryz.prog Tryz.f52.results.toList o52 = true := by decide +kernel

/- wireschema/cursor.Fixed -/
def g53_0 : List Am.Item := [
    ⟨(some 1), .boxN 1 (.t 0), none⟩,
    ⟨(some 2), .val (.mov (.c (.int .u64 0))), none⟩,
    ⟨(some 3), .allocN 3 [.str [], .int .i64 0, .int .i64 0, .int .i64 0, .int .i64 0, .int .i64 0], none⟩,
    ⟨(some 4), .val (.mov (.c (.int .i64 0))), none⟩]
def g53_1 : List Am.Item := [
    ⟨(some 8), .val (.load (some 6) (.t 1)), none⟩,
    ⟨(some 9), .call (.f 77) [(.t 8), (.c (.int .i64 8))], none⟩,
    ⟨(some 10), .call (.f 79) [(.t 9)], none⟩,
    ⟨(some 7), .val (.mov (.t 10)), none⟩,
    ⟨(some 11), .val (.ext (.t 7) 0), none⟩,
    ⟨(some 12), .val (.ext (.t 7) 1), none⟩,
    ⟨(some 5), .val (.mov (.t 11)), none⟩,
    ⟨(some 6), .val (.mov (.t 12)), none⟩]
def g53_2 : List Am.Item := [
    ⟨(some 13), .val (.mov (.t 6)), none⟩,
    ⟨(some 14), .val (.bin .num .neq (.t 13) (.c (.int .i64 0))), none⟩]
def g53_3 : List Am.Item := [
    ⟨(some 15), .val (.loadv 0 1 (some 6) (.t 1)), none⟩,
    ⟨(some 16), .val (.mov (.t 6)), none⟩,
    ⟨(some 2), .val (.mov (.c (.int .u64 0))), none⟩,
    ⟨none, .storev 0 3 6 (.t 3) (.t 15), none⟩,
    ⟨(some 4), .val (.mov (.t 16)), none⟩]
def g53_4 : List Am.Item := [
    ⟨(some 17), .val (.mov (.t 5)), none⟩,
    ⟨(some 18), .val (.load (some 6) (.t 1)), none⟩,
    ⟨(some 19), .call (.f 78) [(.t 18), (.c (.int .i64 8))], none⟩,
    ⟨(some 2), .val (.mov (.t 17)), none⟩,
    ⟨none, .store 6 (.t 3) (.t 19), none⟩,
    ⟨(some 4), .val (.mov (.c (.int .i64 0))), none⟩]
def r53 : RC := .seq (.reg g53_0) (.seq (.reg g53_1) (.seq (.seq (.reg g53_2) (.cond (.t 14) (.seq (.draw g53_3) (.ret)) (.skip))) (.seq (.reg g53_4) (.ret))))
def o53 : List RR := [.tmp 2, .cell 3 (some 6), .tmp 4]
theorem k53 : chkC Tryz.prog 20 r53 (Tryz.f53.body.getD .skip) = true := by decide +kernel
theorem q53 : chkR Tryz.prog Tryz.f53.results.toList o53 = true := by decide +kernel

/- wireschema/unknown.data -/
def g54_0 : List Am.Item := [
    ⟨(some 2), .boxN 2 (.t 0), none⟩,
    ⟨(some 4), .val (.mov (.c (.str []))), none⟩,
    ⟨(some 5), .allocN 5 [.str [], .int .i64 0, .int .i64 0, .int .i64 0, .int .i64 0, .int .i64 0], none⟩,
    ⟨(some 6), .val (.mov (.c (.int .i64 0))), none⟩]
def g54_1 : List Am.Item := [
    ⟨(some 14), .val (.load (some 6) (.t 2)), none⟩,
    ⟨(some 15), .call (.f 52) [(.t 14)], none⟩,
    ⟨(some 13), .val (.mov (.t 15)), none⟩,
    ⟨(some 16), .val (.ext (.t 13) 0), none⟩,
    ⟨(some 17), .val (.ext (.t 13) 1), none⟩,
    ⟨(some 18), .val (.ext (.t 13) 2), none⟩,
    ⟨(some 8), .allocN 8 [.str [], .int .i64 0, .int .i64 0, .int .i64 0, .int .i64 0, .int .i64 0], none⟩,
    ⟨(some 7), .val (.mov (.t 16)), none⟩,
    ⟨none, .store 6 (.t 8) (.t 17), none⟩,
    ⟨(some 9), .val (.mov (.t 18)), none⟩]
def g54_2 : List Am.Item := [
    ⟨(some 19), .val (.mov (.t 9)), none⟩,
    ⟨(some 20), .val (.bin .num .neq (.t 19) (.c (.int .i64 0))), none⟩]
def g54_3 : List Am.Item := [
    ⟨(some 21), .val (.loadv 0 2 (some 6) (.t 2)), none⟩,
    ⟨(some 22), .val (.mov (.t 9)), none⟩,
    ⟨(some 4), .val (.mov (.c (.str []))), none⟩,
    ⟨none, .storev 0 5 6 (.t 5) (.t 21), none⟩,
    ⟨(some 6), .val (.mov (.t 22)), none⟩]
def g54_4 : List Am.Item := [
    ⟨(some 10), .val (.mov (.c (.int .i64 65536))), none⟩]
def g54_5 : List Am.Item := [
    ⟨(some 23), .val (.mov (.t 1)), none⟩,
    ⟨(some 24), .val (.bin .num .eql (.t 23) (.c (.int .i64 3))), none⟩]
def g54_6 : List Am.Item := [
    ⟨(some 25), .val (.faddr 5 (.t 2)), none⟩,
    ⟨(some 26), .val (.load none (.t 25)), none⟩,
    ⟨(some 10), .val (.mov (.t 26)), none⟩]
def g54_7 : List Am.Item := [
    ⟨(some 27), .val (.mov (.t 7)), none⟩,
    ⟨(some 28), .val (.load (some 6) (.t 8)), none⟩,
    ⟨(some 29), .call (.f 36) [(.t 28)], none⟩,
    ⟨(some 30), .val (.cvi .u64 (.t 29)), none⟩,
    ⟨(some 31), .val (.bin .num .gtr (.t 27) (.t 30)), none⟩]
def g54_8 : List Am.Item := [
    ⟨(some 32), .val (.loadv 0 2 (some 6) (.t 2)), none⟩,
    ⟨(some 4), .val (.mov (.c (.str []))), none⟩,
    ⟨none, .storev 0 5 6 (.t 5) (.t 32), none⟩,
    ⟨(some 6), .val (.mov (.c (.int .i64 4))), none⟩]
def g54_9 : List Am.Item := [
    ⟨(some 33), .val (.mov (.t 7)), none⟩,
    ⟨(some 34), .val (.cvi .i64 (.t 33)), none⟩,
    ⟨(some 11), .val (.mov (.t 34)), none⟩]
def g54_10 : List Am.Item := [
    ⟨(some 35), .val (.mov (.t 11)), none⟩,
    ⟨(some 36), .val (.mov (.t 10)), none⟩,
    ⟨(some 37), .val (.bin .num .gtr (.t 35) (.t 36)), none⟩]
def g54_11 : List Am.Item := [
    ⟨(some 38), .val (.loadv 0 2 (some 6) (.t 2)), none⟩,
    ⟨(some 4), .val (.mov (.c (.str []))), none⟩,
    ⟨none, .storev 0 5 6 (.t 5) (.t 38), none⟩,
    ⟨(some 6), .val (.mov (.c (.int .i64 3))), none⟩]
def g54_12 : List Am.Item := [
    ⟨(some 39), .val (.faddr 1 (.t 8)), none⟩,
    ⟨(some 40), .val (.load none (.t 39)), none⟩,
    ⟨(some 12), .val (.mov (.t 40)), none⟩]
def g54_13 : List Am.Item := [
    ⟨(some 41), .val (.faddr 1 (.t 8)), none⟩,
    ⟨(some 42), .val (.load none (.t 41)), none⟩,
    ⟨(some 43), .val (.mov (.t 11)), none⟩,
    ⟨(some 44), .val (.bin .num .add (.t 42) (.t 43)), none⟩,
    ⟨(some 45), .val (.faddr 1 (.t 8)), none⟩,
    ⟨none, .store 1 (.t 45) (.t 44), none⟩]
def g54_14 : List Am.Item := [
    ⟨(some 46), .val (.faddr 0 (.t 8)), none⟩,
    ⟨(some 47), .val (.loadv 0 8 none (.t 46)), none⟩,
    ⟨(some 48), .val (.mov (.t 12)), none⟩,
    ⟨(some 49), .val (.faddr 1 (.t 8)), none⟩,
    ⟨(some 50), .val (.loadv 0 8 none (.t 49)), none⟩,
    ⟨(some 51), .val (.slc none (.t 47) (some (.t 48)) (some (.t 50)) none), none⟩,
    ⟨(some 52), .val (.loadv 0 8 (some 6) (.t 8)), none⟩,
    ⟨(some 4), .val (.mov (.t 51)), none⟩,
    ⟨none, .storev 0 5 6 (.t 5) (.t 52), none⟩,
    ⟨(some 6), .val (.mov (.c (.int .i64 0))), none⟩]
def r54 : RC := .seq (.reg g54_0) (.seq (.reg g54_1) (.seq (.seq (.reg g54_2) (.cond (.t 20) (.seq (.draw g54_3) (.ret)) (.skip))) (.seq (.reg g54_4) (.seq (.seq (.reg g54_5) (.cond (.t 24) (.reg g54_6) (.skip))) (.seq (.seq (.reg g54_7) (.cond (.t 31) (.seq (.draw g54_8) (.ret)) (.skip))) (.seq (.reg g54_9) (.seq (.seq (.reg g54_10) (.cond (.t 37) (.seq (.draw g54_11) (.ret)) (.skip))) (.seq (.reg g54_12) (.seq (.reg g54_13) (.seq (.draw g54_14) (.ret)))))))))))
def o54 : List RR := [.tmp 4, .cell 5 (some 6), .tmp 6]
theorem k54 : chkC Tryz.prog 53 r54 (Tryz.f54.body.getD .skip) = true := by decide +kernel
theorem q54 : chkR Tryz.prog Tryz.f54.results.toList o54 = true := by decide +kernel

/- wireschema/cursor.Sound -/
def g55_0 : List Am.Item := [
    ⟨(some 1), .boxN 1 (.t 0), none⟩,
    ⟨(some 2), .val (.mov (.c (.bool false))), none⟩]
def g55_1 : List Am.Item := [
    ⟨(some 3), .val (.faddr 1 (.t 1)), none⟩,
    ⟨(some 4), .val (.load none (.t 3)), none⟩,
    ⟨(some 5), .val (.bin .num .geq (.t 4) (.c (.int .i64 0))), none⟩,
    ⟨(some 6), .val (.mov (.t 5)), none⟩,
    ⟨(some 7), .val (.faddr 1 (.t 1)), (some (6, true))⟩,
    ⟨(some 8), .val (.load none (.t 7)), (some (6, true))⟩,
    ⟨(some 9), .val (.faddr 2 (.t 1)), (some (6, true))⟩,
    ⟨(some 10), .val (.load none (.t 9)), (some (6, true))⟩,
    ⟨(some 11), .val (.bin .num .leq (.t 8) (.t 10)), (some (6, true))⟩,
    ⟨(some 12), .val (.pick (.t 6) (.t 11) (.c (.bool false))), none⟩,
    ⟨(some 13), .val (.mov (.t 12)), none⟩,
    ⟨(some 14), .val (.faddr 2 (.t 1)), (some (13, true))⟩,
    ⟨(some 15), .val (.load none (.t 14)), (some (13, true))⟩,
    ⟨(some 16), .val (.faddr 0 (.t 1)), (some (13, true))⟩,
    ⟨(some 17), .val (.load none (.t 16)), (some (13, true))⟩,
    ⟨(some 18), .val (.len 0 (.t 17)), (some (13, true))⟩,
    ⟨(some 19), .val (.bin .num .leq (.t 15) (.t 18)), (some (13, true))⟩,
    ⟨(some 20), .val (.pick (.t 13) (.t 19) (.c (.bool false))), none⟩,
    ⟨(some 2), .val (.mov (.t 20)), none⟩]
def r55 : RC := .seq (.reg g55_0) (.seq (.reg g55_1) (.ret))
def o55 : List RR := [.tmp 2]
theorem k55 : chkC Tryz.prog 21 r55 (Tryz.f55.body.getD .skip) = true := by decide +kernel
theorem q55 : chkR Tryz.prog Tryz.f55.results.toList o55 = true := by decide +kernel

/- (*wireschema/tagdec.reader).entry -/
def g56_0 : List Am.Item := [
    ⟨(some 5), .boxN 5 (.t 1), none⟩,
    ⟨(some 6), .boxN 6 (.t 2), none⟩,
    ⟨(some 7), .boxN 7 (.t 3), none⟩,
    ⟨(some 8), .allocN 8 [.int .i64 0, .int .u64 0, .str [], .nils, .nils, .nils, .nils], none⟩,
    ⟨(some 9), .val (.mov (.c (.int .i64 0))), none⟩]
def g56_1 : List Am.Item := [
    ⟨(some 27), .val (.mov (.t 0)), none⟩,
    ⟨(some 28), .callF (.f 80) [(.t 27)], none⟩,
    ⟨(some 26), .val (.mov (.t 28)), none⟩,
    ⟨(some 29), .val (.ext (.t 26) 0), none⟩,
    ⟨(some 30), .val (.ext (.t 26) 1), none⟩,
    ⟨(some 10), .val (.mov (.t 29)), none⟩,
    ⟨(some 11), .val (.mov (.t 30)), none⟩]
def g56_2 : List Am.Item := [
    ⟨(some 31), .val (.mov (.t 11)), none⟩,
    ⟨(some 32), .val (.bin .num .neq (.t 31) (.c (.int .i64 0))), none⟩]
def g56_3 : List Am.Item := [
    ⟨(some 33), .val (.load (some 7) (.t 6)), none⟩,
    ⟨(some 34), .val (.mov (.t 11)), none⟩,
    ⟨none, .store 7 (.t 8) (.t 33), none⟩,
    ⟨(some 9), .val (.mov (.t 34)), none⟩]
def g56_4 : List Am.Item := [
    ⟨(some 36), .val (.load (some 7) (.t 6)), none⟩,
    ⟨(some 37), .val (.faddr 0 (.t 7)), none⟩,
    ⟨(some 38), .val (.load none (.t 37)), none⟩,
    ⟨(some 39), .call (.f 28) [(.t 36), (.t 38)], none⟩,
    ⟨(some 35), .val (.mov (.t 39)), none⟩,
    ⟨(some 40), .val (.ext (.t 35) 0), none⟩,
    ⟨(some 41), .val (.ext (.t 35) 1), none⟩,
    ⟨(some 12), .allocN 12 [.int .i64 0, .int .u64 0, .str [], .nils, .nils, .nils, .nils], none⟩,
    ⟨none, .store 7 (.t 12) (.t 40), none⟩,
    ⟨(some 13), .val (.mov (.t 41)), none⟩]
def g56_5 : List Am.Item := [
    ⟨(some 42), .val (.mov (.t 0)), none⟩,
    ⟨(some 43), .val (.mov (.t 10)), none⟩,
    ⟨(some 44), .callF (.f 81) [(.t 42), (.t 43)], none⟩,
    ⟨(some 14), .allocN 14 [.str [], .int .i64 0, .int .i64 0, .int .i64 0, .int .i64 0, .int .i64 0], none⟩,
    ⟨none, .store 6 (.t 14) (.t 44), none⟩]
def g56_6 : List Am.Item := [
    ⟨(some 15), .val (.mov (.c (.int .i64 2))), none⟩]
def g56_7 : List Am.Item := [
    ⟨(some 45), .val (.mov (.t 13)), none⟩,
    ⟨(some 46), .val (.un .not (.t 45)), none⟩]
def g56_8 : List Am.Item := [
    ⟨(some 15), .val (.mov (.c (.int .i64 3))), none⟩]
def g56_9 : List Am.Item := [
    ⟨(some 47), .val (.mov (.t 0)), none⟩,
    ⟨(some 48), .val (.mov (.t 15)), none⟩,
    ⟨(some 49), .callF (.f 23) [(.t 47), (.t 48)], none⟩,
    ⟨(some 16), .val (.mov (.t 49)), none⟩]
def g56_10 : List Am.Item := [
    ⟨(some 50), .val (.mov (.t 16)), none⟩,
    ⟨(some 51), .val (.bin .num .neq (.t 50) (.c (.int .i64 0))), none⟩]
def g56_11 : List Am.Item := [
    ⟨(some 52), .val (.load (some 7) (.t 6)), none⟩,
    ⟨(some 53), .val (.mov (.t 16)), none⟩,
    ⟨none, .store 7 (.t 8) (.t 52), none⟩,
    ⟨(some 9), .val (.mov (.t 53)), none⟩]
def g56_12 : List Am.Item := [
    ⟨(some 54), .val (.faddr 4 (.t 7)), none⟩,
    ⟨(some 55), .val (.load none (.t 54)), none⟩,
    ⟨(some 56), .val (.build [.int .i64 0, .int .u64 0, .str [], .nils, .nils, .nils, .nils] [(0, 1, (.t 55))]), none⟩,
    ⟨(some 57), .val (.faddr 5 (.t 7)), none⟩,
    ⟨(some 58), .val (.load none (.t 57)), none⟩,
    ⟨(some 59), .val (.build [.int .i64 0, .int .u64 0, .str [], .nils, .nils, .nils, .nils] [(0, 1, (.t 58))]), none⟩,
    ⟨(some 60), .val (.build [.int .i64 0, .int .u64 0, .str [], .nils, .nils, .nils, .nils, .int .i64 0, .int .u64 0, .str [], .nils, .nils, .nils, .nils] [(0, 7, (.t 56)), (7, 7, (.t 59))]), none⟩,
    ⟨(some 17), .allocN 17 [.int .i64 0, .int .u64 0, .str [], .nils, .nils, .nils, .nils, .int .i64 0, .int .u64 0, .str [], .nils, .nils, .nils, .nils], none⟩,
    ⟨none, .store 14 (.t 17) (.t 60), none⟩]
def g56_13 : List Am.Item := [
    ⟨(some 18), .val (.mov (.c (.bool false))), none⟩,
    ⟨(some 19), .val (.mov (.c (.bool false))), none⟩]
def g56_14 : List Am.Item := [
    ⟨(some 61), .val (.mov (.t 0)), none⟩,
    ⟨(some 62), .val (.nilck (.t 61)), none⟩,
    ⟨(some 63), .val (.faddr 2 (.t 62)), none⟩,
    ⟨(some 64), .val (.load (some 6) (.t 63)), none⟩,
    ⟨(some 65), .call (.f 36) [(.t 64)], none⟩,
    ⟨(some 66), .val (.bin .num .gtr (.t 65) (.c (.int .i64 0))), none⟩]
def g56_15 : List Am.Item := [
    ⟨(some 68), .val (.mov (.t 0)), none⟩,
    ⟨(some 69), .val (.nilck (.t 68)), none⟩,
    ⟨(some 70), .val (.faddr 2 (.t 69)), none⟩,
    ⟨(some 71), .val (.load (some 6) (.t 70)), none⟩,
    ⟨(some 72), .call (.f 33) [(.t 71)], none⟩,
    ⟨(some 67), .val (.mov (.t 72)), none⟩,
    ⟨(some 73), .val (.ext (.t 67) 0), none⟩,
    ⟨(some 74), .val (.ext (.t 67) 1), none⟩,
    ⟨(some 75), .val (.ext (.t 67) 2), none⟩,
    ⟨(some 76), .val (.ext (.t 67) 3), none⟩,
    ⟨(some 22), .allocN 22 [.str [], .int .i64 0, .int .i64 0, .int .i64 0, .int .i64 0, .int .i64 0], none⟩,
    ⟨(some 20), .val (.mov (.t 73)), none⟩,
    ⟨(some 21), .val (.mov (.t 74)), none⟩,
    ⟨none, .store 6 (.t 22) (.t 75), none⟩,
    ⟨(some 23), .val (.mov (.t 76)), none⟩]
def g56_16 : List Am.Item := [
    ⟨(some 78), .val (.mov (.t 23)), none⟩,
    ⟨(some 79), .val (.bin .num .neq (.t 78) (.c (.int .i64 0))), none⟩,
    ⟨(some 77), .val (.mov (.t 79)), none⟩]
def g56_17 : List Am.Item := [
    ⟨(some 80), .val (.load (some 7) (.t 6)), none⟩,
    ⟨(some 81), .val (.mov (.t 23)), none⟩,
    ⟨none, .store 7 (.t 8) (.t 80), none⟩,
    ⟨(some 9), .val (.mov (.t 81)), none⟩]
def g56_18 : List Am.Item := [
    ⟨(some 83), .val (.mov (.t 20)), none⟩,
    ⟨(some 84), .val (.bin .num .neq (.t 83) (.c (.int .i64 1))), none⟩,
    ⟨(some 85), .val (.mov (.t 84)), none⟩,
    ⟨(some 86), .val (.mov (.t 20)), (some (85, true))⟩,
    ⟨(some 87), .val (.bin .num .neq (.t 86) (.c (.int .i64 2))), (some (85, true))⟩,
    ⟨(some 88), .val (.pick (.t 85) (.t 87) (.c (.bool false))), none⟩,
    ⟨(some 82), .val (.mov (.t 88)), none⟩]
def g56_19 : List Am.Item := [
    ⟨(some 89), .val (.load (some 7) (.t 6)), none⟩,
    ⟨none, .store 7 (.t 8) (.t 89), none⟩,
    ⟨(some 9), .val (.mov (.c (.int .i64 18))), none⟩]
def g56_20 : List Am.Item := [
    ⟨(some 91), .val (.mov (.t 20)), none⟩,
    ⟨(some 92), .val (.bin .num .eql (.t 91) (.c (.int .i64 1))), none⟩,
    ⟨(some 93), .val (.mov (.t 92)), none⟩,
    ⟨(some 94), .val (.mov (.t 18)), (some (93, true))⟩,
    ⟨(some 95), .val (.pick (.t 93) (.t 94) (.c (.bool false))), none⟩,
    ⟨(some 96), .val (.mov (.t 95)), none⟩,
    ⟨(some 97), .val (.mov (.t 20)), (some (96, false))⟩,
    ⟨(some 98), .val (.bin .num .eql (.t 97) (.c (.int .i64 2))), (some (96, false))⟩,
    ⟨(some 99), .val (.mov (.t 98)), (some (96, false))⟩,
    ⟨(some 100), .val (.mov (.t 19)), (some (99, true))⟩,
    ⟨(some 101), .val (.pick (.t 99) (.t 100) (.c (.bool false))), (some (96, false))⟩,
    ⟨(some 102), .val (.pick (.t 96) (.c (.bool true)) (.t 101)), none⟩,
    ⟨(some 90), .val (.mov (.t 102)), none⟩]
def g56_21 : List Am.Item := [
    ⟨(some 103), .val (.load (some 7) (.t 6)), none⟩,
    ⟨none, .store 7 (.t 8) (.t 103), none⟩,
    ⟨(some 9), .val (.mov (.c (.int .i64 9))), none⟩]
def g56_22 : List Am.Item := [
    ⟨(some 104), .val (.mov (.t 0)), none⟩,
    ⟨(some 105), .val (.load (some 6) (.t 22)), none⟩,
    ⟨(some 106), .val (.nilck (.t 104)), none⟩,
    ⟨(some 107), .val (.faddr 2 (.t 106)), none⟩,
    ⟨none, .store 6 (.t 107) (.t 105), none⟩]
def g56_23 : List Am.Item := [
    ⟨(some 108), .val (.mov (.t 20)), none⟩,
    ⟨(some 109), .val (.bin .num .eql (.t 108) (.c (.int .i64 1))), none⟩]
def g56_24 : List Am.Item := [
    ⟨(some 18), .val (.mov (.c (.bool true))), none⟩]
def g56_25 : List Am.Item := [
    ⟨(some 111), .val (.mov (.t 0)), none⟩,
    ⟨(some 112), .val (.faddr 4 (.t 7)), none⟩,
    ⟨(some 113), .val (.load none (.t 112)), none⟩,
    ⟨(some 114), .val (.build [.int .i64 0, .str [], .str [], .int .i64 0, .int .i64 0, .int .i64 0, .int .i64 0, .int .i64 0] [(5, 1, (.t 113)), (6, 1, (.c (.int .i64 (-1))))]), none⟩,
    ⟨(some 115), .val (.mov (.t 21)), none⟩,
    ⟨(some 116), .callF (.f 82) [(.t 111), (.t 114), (.t 115)], none⟩,
    ⟨(some 110), .val (.mov (.t 116)), none⟩,
    ⟨(some 117), .val (.ext (.t 110) 0), none⟩,
    ⟨(some 118), .val (.ext (.t 110) 1), none⟩,
    ⟨(some 119), .val (.faddr 0 (.t 17)), none⟩,
    ⟨none, .store 7 (.t 119) (.t 117), none⟩,
    ⟨(some 23), .val (.mov (.t 118)), none⟩]
def g56_26 : List Am.Item := [
    ⟨(some 19), .val (.mov (.c (.bool true))), none⟩]
def g56_27 : List Am.Item := [
    ⟨(some 121), .val (.mov (.t 0)), none⟩,
    ⟨(some 122), .val (.load (some 8) (.t 7)), none⟩,
    ⟨(some 123), .val (.mov (.t 21)), none⟩,
    ⟨(some 124), .callF (.f 82) [(.t 121), (.t 122), (.t 123)], none⟩,
    ⟨(some 120), .val (.mov (.t 124)), none⟩,
    ⟨(some 125), .val (.ext (.t 120) 0), none⟩,
    ⟨(some 126), .val (.ext (.t 120) 1), none⟩,
    ⟨(some 127), .val (.faddr 7 (.t 17)), none⟩,
    ⟨none, .store 7 (.t 127) (.t 125), none⟩,
    ⟨(some 23), .val (.mov (.t 126)), none⟩]
def g56_28 : List Am.Item := [
    ⟨(some 128), .val (.mov (.t 23)), none⟩,
    ⟨(some 129), .val (.bin .num .neq (.t 128) (.c (.int .i64 0))), none⟩]
def g56_29 : List Am.Item := [
    ⟨(some 130), .val (.load (some 7) (.t 6)), none⟩,
    ⟨(some 131), .val (.mov (.t 23)), none⟩,
    ⟨none, .store 7 (.t 8) (.t 130), none⟩,
    ⟨(some 9), .val (.mov (.t 131)), none⟩]
def l56_0 : RC := .gho (.drop 22) (.seq (.seq (.reg g56_14) (.cond (.t 66) (.skip) (.exit 0))) (.block 1 (.seq (.reg g56_15) (.seq (.block 2 (.seq (.reg g56_16) (.cond (.t 77) (.seq (.reg g56_17) (.ret)) (.seq (.reg g56_18) (.cond (.t 82) (.seq (.reg g56_19) (.ret)) (.seq (.reg g56_20) (.cond (.t 90) (.seq (.reg g56_21) (.ret)) (.skip)))))))) (.seq (.reg g56_22) (.seq (.seq (.reg g56_23) (.cond (.t 109) (.seq (.reg g56_24) (.reg g56_25)) (.seq (.reg g56_26) (.reg g56_27)))) (.seq (.reg g56_28) (.cond (.t 129) (.seq (.reg g56_29) (.ret)) (.skip)))))))))
def g56_30 : List Am.Item := [
    ⟨(some 132), .val (.mov (.t 0)), none⟩,
    ⟨(some 133), .val (.load (some 6) (.t 14)), none⟩,
    ⟨(some 134), .callF (.f 83) [(.t 132), (.t 133)], none⟩]
def g56_31 : List Am.Item := [
    ⟨(some 135), .val (.faddr 4 (.t 12)), none⟩,
    ⟨(some 136), .val (.load none (.t 135)), none⟩,
    ⟨(some 137), .val (.len 1 (.t 136)), none⟩,
    ⟨(some 24), .val (.mov (.t 137)), none⟩]
def g56_32 : List Am.Item := [
    ⟨(some 138), .val (.faddr 4 (.t 12)), none⟩,
    ⟨(some 139), .val (.loadv 0 12 none (.t 138)), none⟩,
    ⟨(some 140), .val (.mov (.t 24)), none⟩,
    ⟨(some 141), .val (.mov (.t 24)), none⟩,
    ⟨(some 142), .val (.slcl (.t 139) (.t 140) (.t 141)), none⟩,
    ⟨(some 143), .val (.loadv 0 17 (some 14) (.t 17)), none⟩,
    ⟨(some 144), .bsl 14 1 [.int .i64 0, .int .u64 0, .str [], .nils, .nils, .nils, .nils, .int .i64 0, .int .u64 0, .str [], .nils, .nils, .nils, .nils] [(0, 14, (.t 143))], none⟩,
    ⟨(some 145), .appc 145 14 256 100 (.t 142) (.t 144), none⟩,
    ⟨(some 25), .val (.mov (.t 145)), none⟩]
def g56_33 : List Am.Item := [
    ⟨(some 146), .val (.loadv 0 5 (some 3) (.t 5)), none⟩,
    ⟨(some 147), .val (.loadv 0 6 (some 7) (.t 6)), none⟩,
    ⟨(some 148), .val (.loadv 0 7 (some 8) (.t 7)), none⟩,
    ⟨(some 149), .val (.mov (.t 25)), none⟩,
    ⟨(some 150), .call (.f 68) [(.t 149)], none⟩,
    ⟨(some 151), .val (.build [.int .i64 0, .int .u64 0, .str [], .nils, .nils, .nils, .nils] [(0, 1, (.c (.int .i64 12))), (4, 1, (.t 150))]), none⟩,
    ⟨(some 152), .call (.f 84) [(.t 146), (.t 147), (.t 148), (.t 151)], none⟩,
    ⟨none, .storev 0 8 7 (.t 8) (.t 152), none⟩,
    ⟨(some 9), .val (.mov (.c (.int .i64 0))), none⟩]
def r56 : RC := .seq (.reg g56_0) (.seq (.reg g56_1) (.seq (.seq (.reg g56_2) (.cond (.t 32) (.seq (.reg g56_3) (.ret)) (.skip))) (.seq (.reg g56_4) (.seq (.reg g56_5) (.seq (.reg g56_6) (.seq (.seq (.reg g56_7) (.cond (.t 46) (.reg g56_8) (.skip))) (.seq (.seq (.reg g56_9) (.seq (.reg g56_10) (.cond (.t 51) (.seq (.reg g56_11) (.ret)) (.skip)))) (.seq (.reg g56_12) (.seq (.reg g56_13) (.seq (.block 0 (.loop l56_0)) (.seq (.reg g56_30) (.seq (.reg g56_31) (.seq (.draw g56_32) (.seq (.draw g56_33) (.ret)))))))))))))))
def o56 : List RR := [.cell 8 (some 7), .tmp 9]
theorem k56 : chkC Tryz.prog 153 r56 (Tryz.f56.body.getD .skip) = true := by decide +kernel
theorem q56 : chkR Tryz.prog Tryz.f56.results.toList o56 = true := by decide +kernel

/- wireschema/plan.Packed -/
def g57_0 : List Am.Item := [
    ⟨(some 1), .boxN 1 (.t 0), none⟩,
    ⟨(some 2), .val (.mov (.c (.bool false))), none⟩]
def g57_1 : List Am.Item := [
    ⟨(some 3), .val (.faddr 3 (.t 1)), none⟩,
    ⟨(some 4), .val (.load none (.t 3)), none⟩,
    ⟨(some 5), .val (.bin .num .eql (.t 4) (.c (.int .i64 4))), none⟩,
    ⟨(some 6), .val (.mov (.t 5)), none⟩,
    ⟨(some 7), .val (.faddr 5 (.t 1)), (some (6, true))⟩,
    ⟨(some 8), .val (.load none (.t 7)), (some (6, true))⟩,
    ⟨(some 9), .val (.bin .num .geq (.t 8) (.c (.int .i64 1))), (some (6, true))⟩,
    ⟨(some 10), .val (.mov (.t 9)), (some (6, true))⟩,
    ⟨(some 11), .val (.faddr 5 (.t 1)), (some (10, true))⟩,
    ⟨(some 12), .val (.load none (.t 11)), (some (10, true))⟩,
    ⟨(some 13), .val (.bin .num .leq (.t 12) (.c (.int .i64 6))), (some (10, true))⟩,
    ⟨(some 14), .val (.pick (.t 10) (.t 13) (.c (.bool false))), (some (6, true))⟩,
    ⟨(some 15), .val (.mov (.t 14)), (some (6, true))⟩,
    ⟨(some 16), .val (.faddr 5 (.t 1)), (some (15, false))⟩,
    ⟨(some 17), .val (.load none (.t 16)), (some (15, false))⟩,
    ⟨(some 18), .val (.bin .num .eql (.t 17) (.c (.int .i64 9))), (some (15, false))⟩,
    ⟨(some 19), .val (.pick (.t 15) (.c (.bool true)) (.t 18)), (some (6, true))⟩,
    ⟨(some 20), .val (.pick (.t 6) (.t 19) (.c (.bool false))), none⟩,
    ⟨(some 2), .val (.mov (.t 20)), none⟩]
def r57 : RC := .seq (.reg g57_0) (.seq (.reg g57_1) (.ret))
def o57 : List RR := [.tmp 2]
theorem k57 : chkC Tryz.prog 21 r57 (Tryz.f57.body.getD .skip) = true := by decide +kernel
theorem q57 : chkR Tryz.prog Tryz.f57.results.toList o57 = true := by decide +kernel

/- (*wireschema/tagdec.reader).pack -/
def g58_0 : List Am.Item := [
    ⟨(some 5), .boxN 5 (.t 1), none⟩,
    ⟨(some 6), .boxN 6 (.t 2), none⟩,
    ⟨(some 7), .boxN 7 (.t 3), none⟩,
    ⟨(some 8), .allocN 8 [.int .i64 0, .int .u64 0, .str [], .nils, .nils, .nils, .nils], none⟩,
    ⟨(some 9), .val (.mov (.c (.int .i64 0))), none⟩]
def g58_1 : List Am.Item := [
    ⟨(some 19), .val (.mov (.t 0)), none⟩,
    ⟨(some 20), .callF (.f 80) [(.t 19)], none⟩,
    ⟨(some 18), .val (.mov (.t 20)), none⟩,
    ⟨(some 21), .val (.ext (.t 18) 0), none⟩,
    ⟨(some 22), .val (.ext (.t 18) 1), none⟩,
    ⟨(some 10), .val (.mov (.t 21)), none⟩,
    ⟨(some 11), .val (.mov (.t 22)), none⟩]
def g58_2 : List Am.Item := [
    ⟨(some 23), .val (.mov (.t 11)), none⟩,
    ⟨(some 24), .val (.bin .num .neq (.t 23) (.c (.int .i64 0))), none⟩]
def g58_3 : List Am.Item := [
    ⟨(some 25), .val (.load (some 7) (.t 6)), none⟩,
    ⟨(some 26), .val (.mov (.t 11)), none⟩,
    ⟨none, .store 7 (.t 8) (.t 25), none⟩,
    ⟨(some 9), .val (.mov (.t 26)), none⟩]
def g58_4 : List Am.Item := [
    ⟨(some 27), .val (.mov (.t 0)), none⟩,
    ⟨(some 28), .val (.mov (.t 10)), none⟩,
    ⟨(some 29), .callF (.f 81) [(.t 27), (.t 28)], none⟩,
    ⟨(some 12), .allocN 12 [.str [], .int .i64 0, .int .i64 0, .int .i64 0, .int .i64 0, .int .i64 0], none⟩,
    ⟨none, .store 6 (.t 12) (.t 29), none⟩]
def g58_5 : List Am.Item := [
    ⟨(some 31), .val (.mov (.t 0)), none⟩,
    ⟨(some 32), .val (.nilck (.t 31)), none⟩,
    ⟨(some 33), .val (.faddr 2 (.t 32)), none⟩,
    ⟨(some 34), .val (.load (some 6) (.t 33)), none⟩,
    ⟨(some 35), .call (.f 85) [(.t 34)], none⟩,
    ⟨(some 30), .val (.mov (.t 35)), none⟩,
    ⟨(some 36), .val (.ext (.t 30) 0), none⟩,
    ⟨(some 37), .val (.ext (.t 30) 1), none⟩,
    ⟨(some 38), .val (.ext (.t 30) 2), none⟩,
    ⟨(some 14), .allocN 14 [.str [], .int .i64 0, .int .i64 0, .int .i64 0, .int .i64 0, .int .i64 0], none⟩,
    ⟨(some 13), .val (.mov (.t 36)), none⟩,
    ⟨none, .store 6 (.t 14) (.t 37), none⟩,
    ⟨(some 11), .val (.mov (.t 38)), none⟩]
def g58_6 : List Am.Item := [
    ⟨(some 39), .val (.mov (.t 11)), none⟩,
    ⟨(some 40), .val (.bin .num .neq (.t 39) (.c (.int .i64 0))), none⟩]
def g58_7 : List Am.Item := [
    ⟨(some 41), .val (.load (some 7) (.t 6)), none⟩,
    ⟨(some 42), .val (.mov (.t 11)), none⟩,
    ⟨none, .store 7 (.t 8) (.t 41), none⟩,
    ⟨(some 9), .val (.mov (.t 42)), none⟩]
def g58_8 : List Am.Item := [
    ⟨(some 43), .val (.mov (.t 0)), none⟩,
    ⟨(some 44), .val (.load (some 6) (.t 14)), none⟩,
    ⟨(some 45), .val (.nilck (.t 43)), none⟩,
    ⟨(some 46), .val (.faddr 2 (.t 45)), none⟩,
    ⟨none, .store 6 (.t 46) (.t 44), none⟩]
def g58_9 : List Am.Item := [
    ⟨(some 47), .val (.mov (.t 13)), none⟩,
    ⟨(some 48), .val (.cvi .i64 (.t 47)), none⟩,
    ⟨(some 49), .val (.load (some 8) (.t 7)), none⟩,
    ⟨(some 50), .call (.f 59) [(.t 49)], none⟩,
    ⟨(some 51), .val (.bin .num .neq (.t 48) (.t 50)), none⟩]
def g58_10 : List Am.Item := [
    ⟨(some 52), .val (.load (some 7) (.t 6)), none⟩,
    ⟨none, .store 7 (.t 8) (.t 52), none⟩,
    ⟨(some 9), .val (.mov (.c (.int .i64 13))), none⟩]
def g58_11 : List Am.Item := [
    ⟨(some 54), .val (.load (some 7) (.t 6)), none⟩,
    ⟨(some 55), .val (.faddr 0 (.t 7)), none⟩,
    ⟨(some 56), .val (.load none (.t 55)), none⟩,
    ⟨(some 57), .call (.f 28) [(.t 54), (.t 56)], none⟩,
    ⟨(some 53), .val (.mov (.t 57)), none⟩,
    ⟨(some 58), .val (.ext (.t 53) 0), none⟩,
    ⟨(some 59), .val (.ext (.t 53) 1), none⟩,
    ⟨(some 15), .allocN 15 [.int .i64 0, .int .u64 0, .str [], .nils, .nils, .nils, .nils], none⟩,
    ⟨none, .store 7 (.t 15) (.t 58), none⟩,
    ⟨(some 16), .val (.mov (.t 59)), none⟩]
def g58_12 : List Am.Item := [
    ⟨(some 60), .val (.mov (.t 16)), none⟩,
    ⟨(some 61), .val (.un .not (.t 60)), none⟩]
def g58_13 : List Am.Item := [
    ⟨(some 62), .val (.mov (.t 0)), none⟩,
    ⟨(some 63), .callF (.f 23) [(.t 62), (.c (.int .i64 1))], none⟩,
    ⟨(some 17), .val (.mov (.t 63)), none⟩]
def g58_14 : List Am.Item := [
    ⟨(some 64), .val (.mov (.t 17)), none⟩,
    ⟨(some 65), .val (.bin .num .neq (.t 64) (.c (.int .i64 0))), none⟩]
def g58_15 : List Am.Item := [
    ⟨(some 66), .val (.load (some 7) (.t 6)), none⟩,
    ⟨(some 67), .val (.mov (.t 17)), none⟩,
    ⟨none, .store 7 (.t 8) (.t 66), none⟩,
    ⟨(some 9), .val (.mov (.t 67)), none⟩]
def g58_16 : List Am.Item := [
    ⟨(some 68), .val (.load (some 3) (.t 5)), none⟩,
    ⟨(some 69), .val (.load (some 7) (.t 6)), none⟩,
    ⟨(some 70), .val (.load (some 8) (.t 7)), none⟩,
    ⟨(some 71), .val (.build [.int .i64 0, .int .u64 0, .str [], .nils, .nils, .nils, .nils] [(0, 1, (.c (.int .i64 11)))]), none⟩,
    ⟨(some 72), .call (.f 84) [(.t 68), (.t 69), (.t 70), (.t 71)], none⟩,
    ⟨none, .store 7 (.t 6) (.t 72), none⟩]
def g58_17 : List Am.Item := [
    ⟨(some 73), .val (.mov (.t 0)), none⟩,
    ⟨(some 74), .val (.nilck (.t 73)), none⟩,
    ⟨(some 75), .val (.faddr 2 (.t 74)), none⟩,
    ⟨(some 76), .val (.load (some 6) (.t 75)), none⟩,
    ⟨(some 77), .call (.f 36) [(.t 76)], none⟩,
    ⟨(some 78), .val (.bin .num .gtr (.t 77) (.c (.int .i64 0))), none⟩]
def g58_18 : List Am.Item := [
    ⟨(some 80), .val (.mov (.t 0)), none⟩,
    ⟨(some 81), .val (.load (some 3) (.t 5)), none⟩,
    ⟨(some 82), .val (.load (some 7) (.t 6)), none⟩,
    ⟨(some 83), .val (.load (some 8) (.t 7)), none⟩,
    ⟨(some 84), .callF (.f 61) [(.t 80), (.t 81), (.t 82), (.t 83)], none⟩,
    ⟨(some 79), .val (.mov (.t 84)), none⟩,
    ⟨(some 85), .val (.ext (.t 79) 0), none⟩,
    ⟨(some 86), .val (.ext (.t 79) 1), none⟩,
    ⟨none, .store 7 (.t 6) (.t 85), none⟩,
    ⟨(some 11), .val (.mov (.t 86)), none⟩]
def g58_19 : List Am.Item := [
    ⟨(some 87), .val (.mov (.t 11)), none⟩,
    ⟨(some 88), .val (.bin .num .neq (.t 87) (.c (.int .i64 0))), none⟩]
def g58_20 : List Am.Item := [
    ⟨(some 89), .val (.load (some 7) (.t 6)), none⟩,
    ⟨(some 90), .val (.mov (.t 11)), none⟩,
    ⟨none, .store 7 (.t 8) (.t 89), none⟩,
    ⟨(some 9), .val (.mov (.t 90)), none⟩]
def l58_0 : RC := .seq (.seq (.reg g58_17) (.cond (.t 78) (.skip) (.exit 0))) (.block 1 (.seq (.reg g58_18) (.seq (.reg g58_19) (.cond (.t 88) (.seq (.reg g58_20) (.ret)) (.skip)))))
def g58_21 : List Am.Item := [
    ⟨(some 91), .val (.mov (.t 0)), none⟩,
    ⟨(some 92), .val (.load (some 6) (.t 12)), none⟩,
    ⟨(some 93), .callF (.f 83) [(.t 91), (.t 92)], none⟩]
def g58_22 : List Am.Item := [
    ⟨(some 94), .val (.load (some 7) (.t 6)), none⟩,
    ⟨none, .store 7 (.t 8) (.t 94), none⟩,
    ⟨(some 9), .val (.mov (.c (.int .i64 0))), none⟩]
def r58 : RC := .seq (.reg g58_0) (.seq (.reg g58_1) (.seq (.seq (.reg g58_2) (.cond (.t 24) (.seq (.reg g58_3) (.ret)) (.skip))) (.seq (.reg g58_4) (.seq (.reg g58_5) (.seq (.seq (.reg g58_6) (.cond (.t 40) (.seq (.reg g58_7) (.ret)) (.skip))) (.seq (.reg g58_8) (.seq (.seq (.reg g58_9) (.cond (.t 51) (.seq (.reg g58_10) (.ret)) (.skip))) (.seq (.seq (.reg g58_11) (.seq (.reg g58_12) (.cond (.t 61) (.seq (.seq (.reg g58_13) (.seq (.reg g58_14) (.cond (.t 65) (.seq (.reg g58_15) (.ret)) (.skip)))) (.reg g58_16)) (.skip)))) (.seq (.block 0 (.loop l58_0)) (.seq (.reg g58_21) (.seq (.reg g58_22) (.ret))))))))))))
def o58 : List RR := [.cell 8 (some 7), .tmp 9]
theorem k58 : chkC Tryz.prog 95 r58 (Tryz.f58.body.getD .skip) = true := by decide +kernel
theorem q58 : chkR Tryz.prog Tryz.f58.results.toList o58 = true := by decide +kernel

/- wireschema/tagdec.wire -/
def g59_0 : List Am.Item := [
    ⟨(some 1), .boxN 1 (.t 0), none⟩,
    ⟨(some 2), .val (.mov (.c (.int .i64 0))), none⟩]
def g59_1 : List Am.Item := [
    ⟨(some 3), .val (.faddr 3 (.t 1)), none⟩,
    ⟨none, .store 1 (.t 3) (.c (.int .i64 2)), none⟩]
def g59_2 : List Am.Item := [
    ⟨(some 4), .val (.load (some 8) (.t 1)), none⟩,
    ⟨(some 5), .call (.f 86) [(.t 4)], none⟩,
    ⟨(some 2), .val (.mov (.t 5)), none⟩]
def r59 : RC := .seq (.reg g59_0) (.seq (.reg g59_1) (.seq (.reg g59_2) (.ret)))
def o59 : List RR := [.tmp 2]
theorem k59 : chkC Tryz.prog 6 r59 (Tryz.f59.body.getD .skip) = true := by decide +kernel
theorem q59 : chkR Tryz.prog Tryz.f59.results.toList o59 = true := by decide +kernel

/- (*wireschema/tagdec.reader).nested -/
def g60_0 : List Am.Item := [
    ⟨(some 5), .boxN 5 (.t 1), none⟩,
    ⟨(some 6), .boxN 6 (.t 2), none⟩,
    ⟨(some 7), .boxN 7 (.t 3), none⟩,
    ⟨(some 8), .allocN 8 [.int .i64 0, .int .u64 0, .str [], .nils, .nils, .nils, .nils], none⟩,
    ⟨(some 9), .val (.mov (.c (.int .i64 0))), none⟩]
def g60_1 : List Am.Item := [
    ⟨(some 19), .val (.load (some 7) (.t 6)), none⟩,
    ⟨(some 20), .val (.faddr 0 (.t 7)), none⟩,
    ⟨(some 21), .val (.load none (.t 20)), none⟩,
    ⟨(some 22), .call (.f 28) [(.t 19), (.t 21)], none⟩,
    ⟨(some 18), .val (.mov (.t 22)), none⟩,
    ⟨(some 23), .val (.ext (.t 18) 0), none⟩,
    ⟨(some 24), .val (.ext (.t 18) 1), none⟩,
    ⟨(some 10), .allocN 10 [.int .i64 0, .int .u64 0, .str [], .nils, .nils, .nils, .nils], none⟩,
    ⟨none, .store 7 (.t 10) (.t 23), none⟩,
    ⟨(some 11), .val (.mov (.t 24)), none⟩]
def g60_2 : List Am.Item := [
    ⟨(some 25), .val (.build [.int .i64 0, .int .u64 0, .str [], .nils, .nils, .nils, .nils] [(0, 1, (.c (.int .i64 10)))]), none⟩,
    ⟨(some 12), .allocN 12 [.int .i64 0, .int .u64 0, .str [], .nils, .nils, .nils, .nils], none⟩,
    ⟨none, .store 7 (.t 12) (.t 25), none⟩]
def g60_3 : List Am.Item := [
    ⟨(some 26), .val (.faddr 3 (.t 7)), none⟩,
    ⟨(some 27), .val (.load none (.t 26)), none⟩,
    ⟨(some 28), .val (.bin .num .eql (.t 27) (.c (.int .i64 4))), none⟩]
def g60_4 : List Am.Item := [
    ⟨(some 13), .val (.mov (.c (.int .i64 1))), none⟩]
def g60_5 : List Am.Item := [
    ⟨(some 29), .val (.mov (.t 11)), none⟩,
    ⟨(some 30), .val (.un .not (.t 29)), none⟩]
def g60_6 : List Am.Item := [
    ⟨(some 13), .val (.mov (.c (.int .i64 2))), none⟩]
def g60_7 : List Am.Item := [
    ⟨(some 32), .val (.mov (.t 0)), none⟩,
    ⟨(some 33), .val (.faddr 6 (.t 7)), none⟩,
    ⟨(some 34), .val (.load none (.t 33)), none⟩,
    ⟨(some 35), .val (.load (some 7) (.t 12)), none⟩,
    ⟨(some 36), .val (.mov (.t 13)), none⟩,
    ⟨(some 37), .callF (.f 87) [(.t 32), (.t 34), (.t 35), (.t 36)], none⟩,
    ⟨(some 31), .val (.mov (.t 37)), none⟩,
    ⟨(some 38), .val (.ext (.t 31) 0), none⟩,
    ⟨(some 39), .val (.ext (.t 31) 1), none⟩,
    ⟨(some 14), .allocN 14 [.int .i64 0, .int .u64 0, .str [], .nils, .nils, .nils, .nils], none⟩,
    ⟨none, .store 7 (.t 14) (.t 38), none⟩,
    ⟨(some 15), .val (.mov (.t 39)), none⟩]
def g60_8 : List Am.Item := [
    ⟨(some 40), .val (.mov (.t 15)), none⟩,
    ⟨(some 41), .val (.bin .num .neq (.t 40) (.c (.int .i64 0))), none⟩]
def g60_9 : List Am.Item := [
    ⟨(some 42), .val (.load (some 7) (.t 6)), none⟩,
    ⟨(some 43), .val (.mov (.t 15)), none⟩,
    ⟨none, .store 7 (.t 8) (.t 42), none⟩,
    ⟨(some 9), .val (.mov (.t 43)), none⟩]
def g60_10 : List Am.Item := [
    ⟨(some 44), .val (.loadv 0 5 (some 3) (.t 5)), none⟩,
    ⟨(some 45), .val (.loadv 0 6 (some 7) (.t 6)), none⟩,
    ⟨(some 46), .val (.loadv 0 7 (some 8) (.t 7)), none⟩,
    ⟨(some 47), .val (.loadv 0 10 (some 7) (.t 10)), none⟩,
    ⟨(some 48), .val (.loadv 0 14 (some 7) (.t 14)), none⟩,
    ⟨(some 49), .call (.f 88) [(.t 47), (.t 48)], none⟩,
    ⟨(some 50), .call (.f 84) [(.t 44), (.t 45), (.t 46), (.t 49)], none⟩,
    ⟨none, .storev 0 8 7 (.t 8) (.t 50), none⟩,
    ⟨(some 9), .val (.mov (.c (.int .i64 0))), none⟩]
def g60_11 : List Am.Item := [
    ⟨(some 51), .val (.mov (.t 11)), none⟩,
    ⟨(some 52), .val (.un .not (.t 51)), none⟩]
def g60_12 : List Am.Item := [
    ⟨(some 53), .val (.load (some 7) (.t 12)), none⟩,
    ⟨none, .store 7 (.t 10) (.t 53), none⟩]
def g60_13 : List Am.Item := [
    ⟨(some 55), .val (.mov (.t 0)), none⟩,
    ⟨(some 56), .val (.faddr 6 (.t 7)), none⟩,
    ⟨(some 57), .val (.load none (.t 56)), none⟩,
    ⟨(some 58), .val (.load (some 7) (.t 10)), none⟩,
    ⟨(some 59), .callF (.f 87) [(.t 55), (.t 57), (.t 58), (.c (.int .i64 1))], none⟩,
    ⟨(some 54), .val (.mov (.t 59)), none⟩,
    ⟨(some 60), .val (.ext (.t 54) 0), none⟩,
    ⟨(some 61), .val (.ext (.t 54) 1), none⟩,
    ⟨(some 16), .allocN 16 [.int .i64 0, .int .u64 0, .str [], .nils, .nils, .nils, .nils], none⟩,
    ⟨none, .store 7 (.t 16) (.t 60), none⟩,
    ⟨(some 17), .val (.mov (.t 61)), none⟩]
def g60_14 : List Am.Item := [
    ⟨(some 62), .val (.mov (.t 17)), none⟩,
    ⟨(some 63), .val (.bin .num .neq (.t 62) (.c (.int .i64 0))), none⟩]
def g60_15 : List Am.Item := [
    ⟨(some 64), .val (.load (some 7) (.t 6)), none⟩,
    ⟨(some 65), .val (.mov (.t 17)), none⟩,
    ⟨none, .store 7 (.t 8) (.t 64), none⟩,
    ⟨(some 9), .val (.mov (.t 65)), none⟩]
def g60_16 : List Am.Item := [
    ⟨(some 66), .val (.load (some 3) (.t 5)), none⟩,
    ⟨(some 67), .val (.load (some 7) (.t 6)), none⟩,
    ⟨(some 68), .val (.load (some 8) (.t 7)), none⟩,
    ⟨(some 69), .val (.load (some 7) (.t 16)), none⟩,
    ⟨(some 70), .call (.f 84) [(.t 66), (.t 67), (.t 68), (.t 69)], none⟩,
    ⟨none, .store 7 (.t 8) (.t 70), none⟩,
    ⟨(some 9), .val (.mov (.c (.int .i64 0))), none⟩]
def r60 : RC := .seq (.reg g60_0) (.seq (.reg g60_1) (.seq (.reg g60_2) (.seq (.seq (.reg g60_3) (.cond (.t 28) (.seq (.reg g60_4) (.seq (.seq (.reg g60_5) (.cond (.t 30) (.reg g60_6) (.skip))) (.seq (.reg g60_7) (.seq (.seq (.reg g60_8) (.cond (.t 41) (.seq (.reg g60_9) (.ret)) (.skip))) (.seq (.draw g60_10) (.ret)))))) (.skip))) (.seq (.seq (.reg g60_11) (.cond (.t 52) (.reg g60_12) (.skip))) (.seq (.reg g60_13) (.seq (.seq (.reg g60_14) (.cond (.t 63) (.seq (.reg g60_15) (.ret)) (.skip))) (.seq (.reg g60_16) (.ret))))))))
def o60 : List RR := [.cell 8 (some 7), .tmp 9]
theorem k60 : chkC Tryz.prog 71 r60 (Tryz.f60.body.getD .skip) = true := by decide +kernel
theorem q60 : chkR Tryz.prog Tryz.f60.results.toList o60 = true := by decide +kernel

/- (*wireschema/tagdec.reader).one -/
def g61_0 : List Am.Item := [
    ⟨(some 5), .boxN 5 (.t 1), none⟩,
    ⟨(some 6), .boxN 6 (.t 2), none⟩,
    ⟨(some 7), .boxN 7 (.t 3), none⟩,
    ⟨(some 8), .allocN 8 [.int .i64 0, .int .u64 0, .str [], .nils, .nils, .nils, .nils], none⟩,
    ⟨(some 9), .val (.mov (.c (.int .i64 0))), none⟩]
def g61_1 : List Am.Item := [
    ⟨(some 17), .val (.mov (.t 0)), none⟩,
    ⟨(some 18), .callF (.f 23) [(.t 17), (.c (.int .i64 1))], none⟩,
    ⟨(some 10), .val (.mov (.t 18)), none⟩]
def g61_2 : List Am.Item := [
    ⟨(some 19), .val (.mov (.t 10)), none⟩,
    ⟨(some 20), .val (.bin .num .neq (.t 19) (.c (.int .i64 0))), none⟩]
def g61_3 : List Am.Item := [
    ⟨(some 21), .val (.load (some 7) (.t 6)), none⟩,
    ⟨(some 22), .val (.mov (.t 10)), none⟩,
    ⟨none, .store 7 (.t 8) (.t 21), none⟩,
    ⟨(some 9), .val (.mov (.t 22)), none⟩]
def g61_4 : List Am.Item := [
    ⟨(some 24), .val (.mov (.t 0)), none⟩,
    ⟨(some 25), .val (.load (some 8) (.t 7)), none⟩,
    ⟨(some 26), .call (.f 59) [(.t 25)], none⟩,
    ⟨(some 27), .callF (.f 89) [(.t 24), (.t 26)], none⟩,
    ⟨(some 23), .val (.mov (.t 27)), none⟩,
    ⟨(some 28), .val (.ext (.t 23) 0), none⟩,
    ⟨(some 29), .val (.ext (.t 23) 1), none⟩,
    ⟨(some 11), .allocN 11 [.int .i64 0, .int .i64 0, .int .u64 0, .str []], none⟩,
    ⟨none, .store 4 (.t 11) (.t 28), none⟩,
    ⟨(some 12), .val (.mov (.t 29)), none⟩]
def g61_5 : List Am.Item := [
    ⟨(some 30), .val (.mov (.t 12)), none⟩,
    ⟨(some 31), .val (.bin .num .neq (.t 30) (.c (.int .i64 0))), none⟩]
def g61_6 : List Am.Item := [
    ⟨(some 32), .val (.load (some 7) (.t 6)), none⟩,
    ⟨(some 33), .val (.mov (.t 12)), none⟩,
    ⟨none, .store 7 (.t 8) (.t 32), none⟩,
    ⟨(some 9), .val (.mov (.t 33)), none⟩]
def g61_7 : List Am.Item := [
    ⟨(some 35), .val (.mov (.t 0)), none⟩,
    ⟨(some 36), .val (.nilck (.t 35)), none⟩,
    ⟨(some 37), .val (.faddr 0 (.t 36)), none⟩,
    ⟨(some 38), .val (.loado (some 2) (.t 37)), none⟩,
    ⟨(some 39), .val (.loadv 0 7 (some 8) (.t 7)), none⟩,
    ⟨(some 40), .val (.loadv 0 11 (some 4) (.t 11)), none⟩,
    ⟨(some 41), .call (.f 90) [(.t 38), (.t 39), (.t 40)], none⟩,
    ⟨(some 34), .val (.mov (.t 41)), none⟩,
    ⟨(some 42), .val (.ext (.t 34) 0), none⟩,
    ⟨(some 43), .val (.ext (.t 34) 1), none⟩,
    ⟨(some 13), .allocN 13 [.int .i64 0, .int .u64 0, .str [], .nils, .nils, .nils, .nils], none⟩,
    ⟨none, .storev 0 13 7 (.t 13) (.t 42), none⟩,
    ⟨(some 12), .val (.mov (.t 43)), none⟩]
def g61_8 : List Am.Item := [
    ⟨(some 44), .val (.mov (.t 12)), none⟩,
    ⟨(some 45), .val (.bin .num .eql (.t 44) (.c (.int .i64 16))), none⟩]
def g61_9 : List Am.Item := [
    ⟨(some 46), .val (.load (some 7) (.t 6)), none⟩,
    ⟨(some 47), .val (.faddr 0 (.t 7)), none⟩,
    ⟨(some 48), .val (.load none (.t 47)), none⟩,
    ⟨(some 49), .val (.faddr 2 (.t 11)), none⟩,
    ⟨(some 50), .val (.load none (.t 49)), none⟩,
    ⟨(some 51), .val (.build [.int .i64 0, .int .i64 0, .int .u64 0, .str []] [(0, 1, (.t 48)), (1, 1, (.c (.int .i64 0))), (2, 1, (.t 50))]), none⟩,
    ⟨(some 52), .call (.f 38) [(.t 46), (.t 51)], none⟩,
    ⟨none, .store 7 (.t 8) (.t 52), none⟩,
    ⟨(some 9), .val (.mov (.c (.int .i64 0))), none⟩]
def g61_10 : List Am.Item := [
    ⟨(some 53), .val (.mov (.t 12)), none⟩,
    ⟨(some 54), .val (.bin .num .neq (.t 53) (.c (.int .i64 0))), none⟩]
def g61_11 : List Am.Item := [
    ⟨(some 55), .val (.load (some 7) (.t 6)), none⟩,
    ⟨(some 56), .val (.mov (.t 12)), none⟩,
    ⟨none, .store 7 (.t 8) (.t 55), none⟩,
    ⟨(some 9), .val (.mov (.t 56)), none⟩]
def g61_12 : List Am.Item := [
    ⟨(some 57), .val (.faddr 3 (.t 7)), none⟩,
    ⟨(some 58), .val (.load none (.t 57)), none⟩,
    ⟨(some 59), .val (.bin .num .neq (.t 58) (.c (.int .i64 4))), none⟩]
def g61_13 : List Am.Item := [
    ⟨(some 60), .val (.load (some 3) (.t 5)), none⟩,
    ⟨(some 61), .val (.load (some 7) (.t 6)), none⟩,
    ⟨(some 62), .val (.load (some 8) (.t 7)), none⟩,
    ⟨(some 63), .val (.load (some 7) (.t 13)), none⟩,
    ⟨(some 64), .call (.f 84) [(.t 60), (.t 61), (.t 62), (.t 63)], none⟩,
    ⟨none, .store 7 (.t 8) (.t 64), none⟩,
    ⟨(some 9), .val (.mov (.c (.int .i64 0))), none⟩]
def g61_14 : List Am.Item := [
    ⟨(some 66), .val (.load (some 7) (.t 6)), none⟩,
    ⟨(some 67), .val (.faddr 0 (.t 7)), none⟩,
    ⟨(some 68), .val (.load none (.t 67)), none⟩,
    ⟨(some 69), .call (.f 28) [(.t 66), (.t 68)], none⟩,
    ⟨(some 65), .val (.mov (.t 69)), none⟩,
    ⟨(some 70), .val (.ext (.t 65) 0), none⟩,
    ⟨(some 71), .val (.ext (.t 65) 1), none⟩,
    ⟨(some 14), .allocN 14 [.int .i64 0, .int .u64 0, .str [], .nils, .nils, .nils, .nils], none⟩,
    ⟨none, .store 7 (.t 14) (.t 70), none⟩,
    ⟨(some 15), .val (.mov (.t 71)), none⟩]
def g61_15 : List Am.Item := [
    ⟨(some 72), .val (.mov (.t 15)), none⟩,
    ⟨(some 73), .val (.un .not (.t 72)), none⟩]
def g61_16 : List Am.Item := [
    ⟨(some 74), .val (.mov (.t 0)), none⟩,
    ⟨(some 75), .callF (.f 23) [(.t 74), (.c (.int .i64 1))], none⟩,
    ⟨(some 16), .val (.mov (.t 75)), none⟩]
def g61_17 : List Am.Item := [
    ⟨(some 76), .val (.mov (.t 16)), none⟩,
    ⟨(some 77), .val (.bin .num .neq (.t 76) (.c (.int .i64 0))), none⟩]
def g61_18 : List Am.Item := [
    ⟨(some 78), .val (.load (some 7) (.t 6)), none⟩,
    ⟨(some 79), .val (.mov (.t 16)), none⟩,
    ⟨none, .store 7 (.t 8) (.t 78), none⟩,
    ⟨(some 9), .val (.mov (.t 79)), none⟩]
def g61_19 : List Am.Item := [
    ⟨(some 80), .val (.loadv 0 5 (some 3) (.t 5)), none⟩,
    ⟨(some 81), .val (.loadv 0 6 (some 7) (.t 6)), none⟩,
    ⟨(some 82), .val (.loadv 0 7 (some 8) (.t 7)), none⟩,
    ⟨(some 83), .val (.loadv 0 14 (some 7) (.t 14)), none⟩,
    ⟨(some 84), .val (.loadv 0 13 (some 7) (.t 13)), none⟩,
    ⟨(some 85), .call (.f 88) [(.t 83), (.t 84)], none⟩,
    ⟨(some 86), .call (.f 84) [(.t 80), (.t 81), (.t 82), (.t 85)], none⟩,
    ⟨none, .storev 0 8 7 (.t 8) (.t 86), none⟩,
    ⟨(some 9), .val (.mov (.c (.int .i64 0))), none⟩]
def r61 : RC := .seq (.reg g61_0) (.seq (.seq (.reg g61_1) (.seq (.reg g61_2) (.cond (.t 20) (.seq (.reg g61_3) (.ret)) (.skip)))) (.seq (.reg g61_4) (.seq (.seq (.reg g61_5) (.cond (.t 31) (.seq (.reg g61_6) (.ret)) (.skip))) (.seq (.draw g61_7) (.seq (.seq (.reg g61_8) (.cond (.t 45) (.seq (.reg g61_9) (.ret)) (.skip))) (.seq (.seq (.reg g61_10) (.cond (.t 54) (.seq (.reg g61_11) (.ret)) (.skip))) (.seq (.seq (.reg g61_12) (.cond (.t 59) (.seq (.reg g61_13) (.ret)) (.skip))) (.seq (.reg g61_14) (.seq (.seq (.reg g61_15) (.cond (.t 73) (.seq (.reg g61_16) (.seq (.reg g61_17) (.cond (.t 77) (.seq (.reg g61_18) (.ret)) (.skip)))) (.skip))) (.seq (.draw g61_19) (.ret)))))))))))
def o61 : List RR := [.cell 8 (some 7), .tmp 9]
theorem k61 : chkC Tryz.prog 87 r61 (Tryz.f61.body.getD .skip) = true := by decide +kernel
theorem q61 : chkR Tryz.prog Tryz.f61.results.toList o61 = true := by decide +kernel

/- slices.Clone[[]wireschema/api.Slot,wireschema/api.Slot] -/
def g62_0 : List Am.Item := [
    ⟨(some 2), .val (.mov (.c (.nils))), none⟩]
def g62_1 : List Am.Item := [
    ⟨(some 3), .val (.mov (.t 0)), none⟩,
    ⟨(some 4), .isnil false (.t 3), none⟩]
def g62_2 : List Am.Item := [
    ⟨(some 2), .val (.mov (.c (.nils))), none⟩]
def g62_3 : List Am.Item := [
    ⟨(some 5), .bsl0 5 8, none⟩,
    ⟨(some 6), .val (.mov (.t 0)), none⟩,
    ⟨(some 7), .app 8 136 66 (.t 5) (.t 6), none⟩,
    ⟨(some 2), .val (.mov (.t 7)), none⟩]
def r62 : RC := .seq (.reg g62_0) (.seq (.seq (.reg g62_1) (.cond (.t 4) (.seq (.reg g62_2) (.gho (.vec 2 2 8) (.gho (.give 2 2 1 1000) (.ret)))) (.skip))) (.seq (.reg g62_3) (.gho (.give 2 5 1 1000) (.ret))))
def o62 : List RR := [.tmp 2]
theorem k62 : chkC Tryz.prog 8 r62 (Tryz.f62.body.getD .skip) = true := by decide +kernel
theorem q62 : chkR Tryz.prog Tryz.f62.results.toList o62 = true := by decide +kernel

/- slices.SortStableFunc[[]wireschema/api.Slot,wireschema/api.Slot] -/
def g63_0 : List Am.Item := [
    ⟨(some 4), .val (.mov (.t 0)), none⟩,
    ⟨(some 5), .val (.mov (.t 0)), none⟩,
    ⟨(some 6), .val (.len 1 (.t 5)), none⟩,
    ⟨(some 7), .val (.mov (.t 1)), none⟩,
    ⟨(some 8), .callF (.f 91) [(.t 4), (.t 6), (.t 7)], none⟩]
def r63 : RC := .reg g63_0
def o63 : List RR := []
theorem k63 : chkC Tryz.prog 9 r63 (Tryz.f63.body.getD .skip) = true := by decide +kernel
theorem q63 : chkR Tryz.prog Tryz.f63.results.toList o63 = true := by decide +kernel

/- wireschema/order.Slots$1 -/
def g64_0 : List Am.Item := [
    ⟨(some 2), .boxN 2 (.t 0), none⟩,
    ⟨(some 3), .boxN 3 (.t 1), none⟩,
    ⟨(some 4), .val (.mov (.c (.int .i64 0))), none⟩]
def g64_1 : List Am.Item := [
    ⟨(some 5), .val (.faddr 0 (.t 2)), none⟩,
    ⟨(some 6), .val (.load none (.t 5)), none⟩,
    ⟨(some 7), .val (.faddr 0 (.t 3)), none⟩,
    ⟨(some 8), .val (.load none (.t 7)), none⟩,
    ⟨(some 9), .call (.f 20) [(.t 6), (.t 8)], none⟩,
    ⟨(some 4), .val (.mov (.t 9)), none⟩]
def r64 : RC := .seq (.reg g64_0) (.seq (.reg g64_1) (.ret))
def o64 : List RR := [.tmp 4]
theorem k64 : chkC Tryz.prog 10 r64 (Tryz.f64.body.getD .skip) = true := by decide +kernel
theorem q64 : chkR Tryz.prog Tryz.f64.results.toList o64 = true := by decide +kernel

/- wireschema/plan.Op$1 -/
def g65_0 : List Am.Item := [
    ⟨(some 2), .boxN 2 (.t 0), none⟩,
    ⟨(some 3), .val (.mov (.c (.bool false))), none⟩]
def g65_1 : List Am.Item := [
    ⟨(some 4), .val (.faddr 0 (.t 2)), none⟩,
    ⟨(some 5), .val (.load none (.t 4)), none⟩,
    ⟨(some 6), .val (.load none (.t 1)), none⟩,
    ⟨(some 7), .val (.bin .num .eql (.t 5) (.t 6)), none⟩,
    ⟨(some 3), .val (.mov (.t 7)), none⟩]
def r65 : RC := .seq (.reg g65_0) (.seq (.reg g65_1) (.ret))
def o65 : List RR := [.tmp 3]
theorem k65 : chkC Tryz.prog 8 r65 (Tryz.f65.body.getD .skip) = true := by decide +kernel
theorem q65 : chkR Tryz.prog Tryz.f65.results.toList o65 = true := by decide +kernel

/- (wireschema/plan.finder).in -/
def g66_0 : List Am.Item := [
    ⟨(some 2), .boxN 2 (.t 0), none⟩,
    ⟨(some 3), .boxN 3 (.t 1), none⟩,
    ⟨(some 4), .allocN 4 [.int .i64 0, .str [], .str [], .int .i64 0, .int .i64 0, .int .i64 0, .int .i64 0, .int .i64 0], none⟩,
    ⟨(some 5), .val (.mov (.c (.bool false))), none⟩]
def g66_1 : List Am.Item := [
    ⟨(some 7), .val (.faddr 1 (.t 3)), none⟩,
    ⟨(some 8), .val (.load none (.t 7)), none⟩,
    ⟨(some 9), .val (.faddr 0 (.t 2)), none⟩,
    ⟨(some 10), .val (.load none (.t 9)), none⟩,
    ⟨(some 11), .callF (.f 92) [(.t 8), (.t 10)], none⟩,
    ⟨(some 6), .val (.mov (.t 11)), none⟩]
def g66_2 : List Am.Item := [
    ⟨(some 12), .val (.mov (.t 6)), none⟩,
    ⟨(some 13), .val (.bin .num .lss (.t 12) (.c (.int .i64 0))), none⟩]
def g66_3 : List Am.Item := [
    ⟨(some 14), .val (.build [.int .i64 0, .str [], .str [], .int .i64 0, .int .i64 0, .int .i64 0, .int .i64 0, .int .i64 0] []), none⟩,
    ⟨none, .store 8 (.t 4) (.t 14), none⟩,
    ⟨(some 5), .val (.mov (.c (.bool false))), none⟩]
def g66_4 : List Am.Item := [
    ⟨(some 15), .val (.faddr 1 (.t 3)), none⟩,
    ⟨(some 16), .val (.load none (.t 15)), none⟩,
    ⟨(some 17), .val (.mov (.t 6)), none⟩,
    ⟨(some 18), .val (.iaddr 8 none (.t 16) (.t 17)), none⟩,
    ⟨(some 19), .val (.load (some 8) (.t 18)), none⟩,
    ⟨none, .store 8 (.t 4) (.t 19), none⟩,
    ⟨(some 5), .val (.mov (.c (.bool true))), none⟩]
def r66 : RC := .seq (.reg g66_0) (.seq (.reg g66_1) (.seq (.seq (.reg g66_2) (.cond (.t 13) (.seq (.reg g66_3) (.ret)) (.skip))) (.seq (.reg g66_4) (.ret))))
def o66 : List RR := [.cell 4 (some 8), .tmp 5]
theorem k66 : chkC Tryz.prog 20 r66 (Tryz.f66.body.getD .skip) = true := by decide +kernel
theorem q66 : chkR Tryz.prog Tryz.f66.results.toList o66 = true := by decide +kernel

/- wireschema/plan.normElem -/
def g67_0 : List Am.Item := [
    ⟨(some 3), .boxN 3 (.t 0), none⟩,
    ⟨(some 4), .boxN 4 (.t 1), none⟩,
    ⟨(some 5), .boxN 5 (.t 2), none⟩,
    ⟨(some 6), .allocN 6 [.int .i64 0, .int .u64 0, .str [], .nils, .nils, .nils, .nils], none⟩]
def g67_1 : List Am.Item := [
    ⟨(some 7), .val (.faddr 5 (.t 4)), none⟩,
    ⟨(some 8), .val (.load none (.t 7)), none⟩,
    ⟨(some 9), .val (.bin .num .eql (.t 8) (.c (.int .i64 10))), none⟩]
def g67_2 : List Am.Item := [
    ⟨(some 10), .val (.load (some 2) (.t 3)), none⟩,
    ⟨(some 11), .val (.faddr 6 (.t 4)), none⟩,
    ⟨(some 12), .val (.load none (.t 11)), none⟩,
    ⟨(some 13), .val (.load (some 7) (.t 5)), none⟩,
    ⟨(some 14), .call (.f 25) [(.t 10), (.t 12), (.t 13)], none⟩,
    ⟨none, .store 7 (.t 6) (.t 14), none⟩]
def g67_3 : List Am.Item := [
    ⟨(some 15), .val (.load (some 7) (.t 5)), none⟩,
    ⟨(some 16), .call (.f 69) [(.t 15)], none⟩,
    ⟨none, .store 7 (.t 6) (.t 16), none⟩]
def r67 : RC := .seq (.reg g67_0) (.seq (.seq (.reg g67_1) (.cond (.t 9) (.seq (.reg g67_2) (.ret)) (.skip))) (.seq (.reg g67_3) (.ret)))
def o67 : List RR := [.cell 6 (some 7)]
theorem k67 : chkC Tryz.prog 17 r67 (Tryz.f67.body.getD .skip) = true := by decide +kernel
theorem q67 : chkR Tryz.prog Tryz.f67.results.toList o67 = true := by decide +kernel

/- wireschema/order.Pairs -/
def g68_0 : List Am.Item := [
    ⟨(some 2), .val (.mov (.c (.nils))), none⟩]
def g68_1 : List Am.Item := [
    ⟨(some 7), .val (.mov (.t 0)), none⟩,
    ⟨(some 8), .callF (.f 93) [(.t 7)], none⟩,
    ⟨(some 3), .val (.mov (.t 8)), none⟩]
def g68_2 : List Am.Item := [
    ⟨(some 9), .val (.mov (.t 3)), none⟩,
    ⟨(some 10), .callF (.f 94) [(.t 9), (.f 95)], none⟩]
def g68_3 : List Am.Item := [
    ⟨(some 4), .val (.mov (.c (.nils))), none⟩]
def g68_4 : List Am.Item := [
    ⟨(some 11), .val (.mov (.t 3)), none⟩,
    ⟨(some 12), .val (.len 1 (.t 11)), none⟩,
    ⟨(some 13), .val (.mov (.c (.int .i64 0))), none⟩]
def g68_5 : List Am.Item := [
    ⟨(some 14), .val (.bin .num .lss (.t 13) (.t 12)), none⟩]
def g68_6 : List Am.Item := [
    ⟨(some 15), .val (.mov (.t 13)), none⟩,
    ⟨(some 16), .val (.iaddr 14 none (.t 11) (.t 13)), none⟩,
    ⟨(some 17), .val (.load (some 14) (.t 16)), none⟩,
    ⟨(some 6), .allocN 6 [.int .i64 0, .int .u64 0, .str [], .nils, .nils, .nils, .nils, .int .i64 0, .int .u64 0, .str [], .nils, .nils, .nils, .nils], none⟩,
    ⟨(some 5), .val (.mov (.t 15)), none⟩,
    ⟨none, .store 14 (.t 6) (.t 17), none⟩]
def g68_7 : List Am.Item := [
    ⟨(some 18), .val (.mov (.t 5)), none⟩,
    ⟨(some 19), .val (.bin .num .add (.t 18) (.c (.int .i64 1))), none⟩,
    ⟨(some 20), .val (.mov (.t 3)), none⟩,
    ⟨(some 21), .val (.len 1 (.t 20)), none⟩,
    ⟨(some 22), .val (.bin .num .eql (.t 19) (.t 21)), none⟩,
    ⟨(some 23), .val (.mov (.t 22)), none⟩,
    ⟨(some 24), .val (.faddr 0 (.t 6)), (some (23, false))⟩,
    ⟨(some 25), .val (.loadv 0 6 (some 7) (.t 24)), (some (23, false))⟩,
    ⟨(some 26), .val (.mov (.t 3)), (some (23, false))⟩,
    ⟨(some 27), .val (.mov (.t 5)), (some (23, false))⟩,
    ⟨(some 28), .val (.bin .num .add (.t 27) (.c (.int .i64 1))), (some (23, false))⟩,
    ⟨(some 29), .val (.iaddr 14 none (.t 26) (.t 28)), (some (23, false))⟩,
    ⟨(some 30), .val (.faddr 0 (.t 29)), (some (23, false))⟩,
    ⟨(some 31), .val (.loadr (some 7) (.t 30)), (some (23, false))⟩,
    ⟨(some 32), .call (.f 97) [(.t 25), (.t 31)], (some (23, false))⟩,
    ⟨(some 33), .val (.un .not (.t 32)), (some (23, false))⟩,
    ⟨(some 34), .val (.pick (.t 23) (.c (.bool true)) (.t 33)), none⟩]
def g68_8 : List Am.Item := [
    ⟨(some 35), .val (.mov (.t 4)), none⟩,
    ⟨(some 36), .val (.load (some 14) (.t 6)), none⟩,
    ⟨(some 37), .bsl 14 1 [.int .i64 0, .int .u64 0, .str [], .nils, .nils, .nils, .nils, .int .i64 0, .int .u64 0, .str [], .nils, .nils, .nils, .nils] [(0, 14, (.t 36))], none⟩,
    ⟨(some 38), .app 14 256 100 (.t 35) (.t 37), none⟩,
    ⟨(some 4), .val (.mov (.t 38)), none⟩]
def g68_9 : List Am.Item := [
    ⟨(some 39), .val (.bin .num .add (.t 13) (.c (.int .i64 1))), none⟩,
    ⟨(some 13), .val (.mov (.t 39)), none⟩]
def l68_0 : RC := .gho (.drop 6) (.seq (.reg g68_5) (.seq (.cond (.t 14) (.skip) (.exit 0)) (.seq (.block 1 (.seq (.reg g68_6) (.seq (.draw g68_7) (.cond (.t 34) (.reg g68_8) (.skip))))) (.reg g68_9))))
def g68_10 : List Am.Item := [
    ⟨(some 40), .val (.mov (.t 4)), none⟩,
    ⟨(some 2), .val (.mov (.t 40)), none⟩]
def r68 : RC := .seq (.reg g68_0) (.seq (.reg g68_1) (.seq (.reg g68_2) (.seq (.reg g68_3) (.gho (.vec 4 4 14) (.seq (.seq (.reg g68_4) (.block 0 (.loop l68_0))) (.seq (.reg g68_10) (.ret)))))))
def o68 : List RR := [.tmp 2]
theorem k68 : chkC Tryz.prog 41 r68 (Tryz.f68.body.getD .skip) = true := by decide +kernel
theorem q68 : chkR Tryz.prog Tryz.f68.results.toList o68 = true := by decide +kernel

/- wireschema/scalar.Norm -/
def g69_0 : List Am.Item := [
    ⟨(some 1), .boxN 1 (.t 0), none⟩,
    ⟨(some 2), .allocN 2 [.int .i64 0, .int .u64 0, .str [], .nils, .nils, .nils, .nils], none⟩]
def g69_1 : List Am.Item := [
    ⟨(some 3), .val (.faddr 0 (.t 1)), none⟩,
    ⟨(some 4), .val (.load none (.t 3)), none⟩,
    ⟨(some 5), .val (.bin .num .eql (.t 4) (.c (.int .i64 6))), none⟩,
    ⟨(some 6), .val (.mov (.t 5)), none⟩,
    ⟨(some 7), .val (.faddr 1 (.t 1)), (some (6, true))⟩,
    ⟨(some 8), .val (.load none (.t 7)), (some (6, true))⟩,
    ⟨(some 9), .call (.f 98) [(.t 8)], (some (6, true))⟩,
    ⟨(some 10), .val (.bin .num .eql (.t 9) (.c (.int .i64 0))), (some (6, true))⟩,
    ⟨(some 11), .val (.pick (.t 6) (.t 10) (.c (.bool false))), none⟩]
def g69_2 : List Am.Item := [
    ⟨(some 12), .val (.faddr 1 (.t 1)), none⟩,
    ⟨none, .store 1 (.t 12) (.c (.int .u64 9221120237041090560)), none⟩]
def g69_3 : List Am.Item := [
    ⟨(some 13), .val (.load (some 7) (.t 1)), none⟩,
    ⟨none, .store 7 (.t 2) (.t 13), none⟩]
def r69 : RC := .seq (.reg g69_0) (.seq (.seq (.reg g69_1) (.cond (.t 11) (.reg g69_2) (.skip))) (.seq (.reg g69_3) (.ret)))
def o69 : List RR := [.cell 2 (some 7)]
theorem k69 : chkC Tryz.prog 14 r69 (Tryz.f69.body.getD .skip) = true := by decide +kernel
theorem q69 : chkR Tryz.prog Tryz.f69.results.toList o69 = true := by decide +kernel

/- wireschema/scalar.IsZero -/
def g70_0 : List Am.Item := [
    ⟨(some 1), .boxN 1 (.t 0), none⟩,
    ⟨(some 2), .val (.mov (.c (.bool false))), none⟩]
def g70_1 : List Am.Item := [
    ⟨(some 3), .val (.faddr 0 (.t 1)), none⟩,
    ⟨(some 4), .val (.load none (.t 3)), none⟩,
    ⟨(some 5), .call (.f 99) [(.t 4)], none⟩,
    ⟨(some 6), .val (.mov (.t 5)), none⟩,
    ⟨(some 7), .val (.load (some 7) (.t 1)), (some (6, true))⟩,
    ⟨(some 8), .call (.f 100) [(.t 7)], (some (6, true))⟩,
    ⟨(some 9), .val (.pick (.t 6) (.t 8) (.c (.bool false))), none⟩,
    ⟨(some 10), .val (.mov (.t 9)), none⟩,
    ⟨(some 11), .val (.faddr 1 (.t 1)), (some (10, true))⟩,
    ⟨(some 12), .val (.load none (.t 11)), (some (10, true))⟩,
    ⟨(some 13), .val (.bin .num .eql (.t 12) (.c (.int .u64 0))), (some (10, true))⟩,
    ⟨(some 14), .val (.pick (.t 10) (.t 13) (.c (.bool false))), none⟩,
    ⟨(some 15), .val (.mov (.t 14)), none⟩,
    ⟨(some 16), .val (.faddr 2 (.t 1)), (some (15, true))⟩,
    ⟨(some 17), .val (.load none (.t 16)), (some (15, true))⟩,
    ⟨(some 18), .val (.bin .str .eql (.t 17) (.c (.str []))), (some (15, true))⟩,
    ⟨(some 19), .val (.pick (.t 15) (.t 18) (.c (.bool false))), none⟩,
    ⟨(some 2), .val (.mov (.t 19)), none⟩]
def r70 : RC := .seq (.reg g70_0) (.seq (.reg g70_1) (.ret))
def o70 : List RR := [.tmp 2]
theorem k70 : chkC Tryz.prog 20 r70 (Tryz.f70.body.getD .skip) = true := by decide +kernel
theorem q70 : chkR Tryz.prog Tryz.f70.results.toList o70 = true := by decide +kernel

/- slices.rotateCmpFunc[wireschema/api.Raw] -/
def g75_0 : List Am.Item := [
    ⟨(some 12), .val (.mov (.t 2)), none⟩,
    ⟨(some 13), .val (.mov (.t 1)), none⟩,
    ⟨(some 14), .val (.bin .num .sub (.t 12) (.t 13)), none⟩,
    ⟨(some 10), .val (.mov (.t 14)), none⟩]
def g75_1 : List Am.Item := [
    ⟨(some 15), .val (.mov (.t 3)), none⟩,
    ⟨(some 16), .val (.mov (.t 2)), none⟩,
    ⟨(some 17), .val (.bin .num .sub (.t 15) (.t 16)), none⟩,
    ⟨(some 11), .val (.mov (.t 17)), none⟩]
def g75_2 : List Am.Item := [
    ⟨(some 18), .val (.mov (.t 10)), none⟩,
    ⟨(some 19), .val (.mov (.t 11)), none⟩,
    ⟨(some 20), .val (.bin .num .neq (.t 18) (.t 19)), none⟩]
def g75_3 : List Am.Item := [
    ⟨(some 21), .val (.mov (.t 10)), none⟩,
    ⟨(some 22), .val (.mov (.t 11)), none⟩,
    ⟨(some 23), .val (.bin .num .gtr (.t 21) (.t 22)), none⟩]
def g75_4 : List Am.Item := [
    ⟨(some 24), .val (.mov (.t 0)), none⟩,
    ⟨(some 25), .val (.mov (.t 2)), none⟩,
    ⟨(some 26), .val (.mov (.t 10)), none⟩,
    ⟨(some 27), .val (.bin .num .sub (.t 25) (.t 26)), none⟩,
    ⟨(some 28), .val (.mov (.t 2)), none⟩,
    ⟨(some 29), .val (.mov (.t 11)), none⟩,
    ⟨(some 30), .val (.mov (.t 4)), none⟩,
    ⟨(some 31), .callF (.f 103) [(.t 24), (.t 27), (.t 28), (.t 29), (.t 30)], none⟩]
def g75_5 : List Am.Item := [
    ⟨(some 32), .val (.mov (.t 10)), none⟩,
    ⟨(some 33), .val (.mov (.t 11)), none⟩,
    ⟨(some 34), .val (.bin .num .sub (.t 32) (.t 33)), none⟩,
    ⟨(some 10), .val (.mov (.t 34)), none⟩]
def g75_6 : List Am.Item := [
    ⟨(some 35), .val (.mov (.t 0)), none⟩,
    ⟨(some 36), .val (.mov (.t 2)), none⟩,
    ⟨(some 37), .val (.mov (.t 10)), none⟩,
    ⟨(some 38), .val (.bin .num .sub (.t 36) (.t 37)), none⟩,
    ⟨(some 39), .val (.mov (.t 2)), none⟩,
    ⟨(some 40), .val (.mov (.t 11)), none⟩,
    ⟨(some 41), .val (.bin .num .add (.t 39) (.t 40)), none⟩,
    ⟨(some 42), .val (.mov (.t 10)), none⟩,
    ⟨(some 43), .val (.bin .num .sub (.t 41) (.t 42)), none⟩,
    ⟨(some 44), .val (.mov (.t 10)), none⟩,
    ⟨(some 45), .val (.mov (.t 4)), none⟩,
    ⟨(some 46), .callF (.f 103) [(.t 35), (.t 38), (.t 43), (.t 44), (.t 45)], none⟩]
def g75_7 : List Am.Item := [
    ⟨(some 47), .val (.mov (.t 11)), none⟩,
    ⟨(some 48), .val (.mov (.t 10)), none⟩,
    ⟨(some 49), .val (.bin .num .sub (.t 47) (.t 48)), none⟩,
    ⟨(some 11), .val (.mov (.t 49)), none⟩]
def l75_0 : RC := .seq (.seq (.reg g75_2) (.cond (.t 20) (.skip) (.exit 0))) (.block 1 (.seq (.reg g75_3) (.cond (.t 23) (.seq (.reg g75_4) (.reg g75_5)) (.seq (.reg g75_6) (.reg g75_7)))))
def g75_8 : List Am.Item := [
    ⟨(some 50), .val (.mov (.t 0)), none⟩,
    ⟨(some 51), .val (.mov (.t 2)), none⟩,
    ⟨(some 52), .val (.mov (.t 10)), none⟩,
    ⟨(some 53), .val (.bin .num .sub (.t 51) (.t 52)), none⟩,
    ⟨(some 54), .val (.mov (.t 2)), none⟩,
    ⟨(some 55), .val (.mov (.t 10)), none⟩,
    ⟨(some 56), .val (.mov (.t 4)), none⟩,
    ⟨(some 57), .callF (.f 103) [(.t 50), (.t 53), (.t 54), (.t 55), (.t 56)], none⟩]
def r75 : RC := .seq (.reg g75_0) (.seq (.reg g75_1) (.seq (.block 0 (.loop l75_0)) (.reg g75_8)))
def o75 : List RR := []
theorem k75 : chkC Tryz.prog 58 r75 (Tryz.f75.body.getD .skip) = true := by decide +kernel
theorem q75 : chkR Tryz.prog Tryz.f75.results.toList o75 = true := by decide +kernel

/- wireschema/varint.Take -/
def g76_0 : List Am.Item := [
    ⟨(some 2), .val (.mov (.c (.int .u64 0))), none⟩,
    ⟨(some 3), .val (.mov (.c (.int .i64 0))), none⟩,
    ⟨(some 4), .val (.mov (.c (.int .i64 0))), none⟩]
def g76_1 : List Am.Item := [
    ⟨(some 5), .val (.mov (.c (.int .u64 0))), none⟩]
def g76_2 : List Am.Item := [
    ⟨(some 6), .val (.mov (.c (.int .i64 0))), none⟩]
def g76_3 : List Am.Item := [
    ⟨(some 8), .val (.mov (.t 6)), none⟩,
    ⟨(some 9), .val (.mov (.t 0)), none⟩,
    ⟨(some 10), .val (.len 0 (.t 9)), none⟩,
    ⟨(some 11), .val (.bin .num .eql (.t 8) (.t 10)), none⟩]
def g76_4 : List Am.Item := [
    ⟨(some 2), .val (.mov (.c (.int .u64 0))), none⟩,
    ⟨(some 3), .val (.mov (.c (.int .i64 0))), none⟩,
    ⟨(some 4), .val (.mov (.c (.int .i64 4))), none⟩]
def g76_5 : List Am.Item := [
    ⟨(some 12), .val (.mov (.t 0)), none⟩,
    ⟨(some 13), .val (.mov (.t 6)), none⟩,
    ⟨(some 14), .val (.idx (.t 12) (.t 13)), none⟩,
    ⟨(some 7), .val (.mov (.t 14)), none⟩]
def g76_6 : List Am.Item := [
    ⟨(some 15), .val (.mov (.t 6)), none⟩,
    ⟨(some 16), .val (.bin .num .eql (.t 15) (.c (.int .i64 9))), none⟩,
    ⟨(some 17), .val (.mov (.t 16)), none⟩,
    ⟨(some 18), .val (.mov (.t 7)), (some (17, true))⟩,
    ⟨(some 19), .val (.bin .num .gtr (.t 18) (.c (.int .u8 1))), (some (17, true))⟩,
    ⟨(some 20), .val (.pick (.t 17) (.t 19) (.c (.bool false))), none⟩]
def g76_7 : List Am.Item := [
    ⟨(some 2), .val (.mov (.c (.int .u64 0))), none⟩,
    ⟨(some 3), .val (.mov (.c (.int .i64 0))), none⟩,
    ⟨(some 4), .val (.mov (.c (.int .i64 6))), none⟩]
def g76_8 : List Am.Item := [
    ⟨(some 21), .val (.mov (.t 5)), none⟩,
    ⟨(some 22), .val (.mov (.t 7)), none⟩,
    ⟨(some 23), .val (.bin .num .and (.t 22) (.c (.int .u8 127))), none⟩,
    ⟨(some 24), .val (.cvi .u64 (.t 23)), none⟩,
    ⟨(some 25), .val (.mov (.t 6)), none⟩,
    ⟨(some 26), .val (.bin .num .mul (.c (.int .i64 7)) (.t 25)), none⟩,
    ⟨(some 27), .val (.bin .num .shl (.t 24) (.t 26)), none⟩,
    ⟨(some 28), .val (.bin .num .or (.t 21) (.t 27)), none⟩,
    ⟨(some 5), .val (.mov (.t 28)), none⟩]
def g76_9 : List Am.Item := [
    ⟨(some 29), .val (.mov (.t 6)), none⟩,
    ⟨(some 30), .val (.bin .num .add (.t 29) (.c (.int .i64 1))), none⟩,
    ⟨(some 6), .val (.mov (.t 30)), none⟩]
def g76_10 : List Am.Item := [
    ⟨(some 32), .val (.mov (.t 7)), none⟩,
    ⟨(some 33), .val (.bin .num .lss (.t 32) (.c (.int .u8 128))), none⟩,
    ⟨(some 31), .val (.mov (.t 33)), none⟩]
def l76_0 : RC := .block 1 (.seq (.seq (.reg g76_3) (.cond (.t 11) (.seq (.reg g76_4) (.ret)) (.skip))) (.seq (.reg g76_5) (.seq (.seq (.reg g76_6) (.cond (.t 20) (.seq (.reg g76_7) (.ret)) (.skip))) (.seq (.reg g76_8) (.seq (.reg g76_9) (.block 2 (.seq (.reg g76_10) (.cond (.t 31) (.exit 0) (.skip)))))))))
def g76_11 : List Am.Item := [
    ⟨(some 34), .val (.mov (.t 5)), none⟩,
    ⟨(some 35), .val (.mov (.t 6)), none⟩,
    ⟨(some 2), .val (.mov (.t 34)), none⟩,
    ⟨(some 3), .val (.mov (.t 35)), none⟩,
    ⟨(some 4), .val (.mov (.c (.int .i64 0))), none⟩]
def r76 : RC := .seq (.reg g76_0) (.scope (.seq (.reg g76_1) (.seq (.reg g76_2) (.seq (.lab) (.seq (.block 0 (.loop l76_0)) (.seq (.reg g76_11) (.ret)))))))
def o76 : List RR := [.tmp 2, .tmp 3, .tmp 4]
theorem k76 : chkC Tryz.prog 36 r76 (Tryz.f76.body.getD .skip) = true := by decide +kernel
theorem q76 : chkR Tryz.prog Tryz.f76.results.toList o76 = true := by decide +kernel

/- wireschema/cursor.head -/
def g77_0 : List Am.Item := [
    ⟨(some 2), .boxN 2 (.t 0), none⟩,
    ⟨(some 4), .val (.mov (.c (.str []))), none⟩]
def g77_1 : List Am.Item := [
    ⟨(some 5), .val (.load (some 6) (.t 2)), none⟩,
    ⟨(some 6), .call (.f 55) [(.t 5)], none⟩,
    ⟨(some 7), .val (.un .not (.t 6)), none⟩]
def g77_2 : List Am.Item := [
    ⟨(some 4), .val (.mov (.c (.str []))), none⟩]
def g77_3 : List Am.Item := [
    ⟨(some 8), .val (.faddr 0 (.t 2)), none⟩,
    ⟨(some 9), .val (.load none (.t 8)), none⟩,
    ⟨(some 10), .val (.faddr 1 (.t 2)), none⟩,
    ⟨(some 11), .val (.load none (.t 10)), none⟩,
    ⟨(some 12), .val (.faddr 2 (.t 2)), none⟩,
    ⟨(some 13), .val (.load none (.t 12)), none⟩,
    ⟨(some 14), .val (.faddr 1 (.t 2)), none⟩,
    ⟨(some 15), .val (.load none (.t 14)), none⟩,
    ⟨(some 16), .val (.mov (.t 1)), none⟩,
    ⟨(some 17), .val (.bin .num .add (.t 15) (.t 16)), none⟩,
    ⟨(some 18), .val (.mnx false (.t 13) (.t 17)), none⟩,
    ⟨(some 19), .val (.slc none (.t 9) (some (.t 11)) (some (.t 18)) none), none⟩,
    ⟨(some 4), .val (.mov (.t 19)), none⟩]
def r77 : RC := .seq (.reg g77_0) (.seq (.seq (.reg g77_1) (.cond (.t 7) (.seq (.reg g77_2) (.ret)) (.skip))) (.seq (.reg g77_3) (.ret)))
def o77 : List RR := [.tmp 4]
theorem k77 : chkC Tryz.prog 20 r77 (Tryz.f77.body.getD .skip) = true := by decide +kernel
theorem q77 : chkR Tryz.prog Tryz.f77.results.toList o77 = true := by decide +kernel

/- wireschema/cursor.ahead -/
def g78_0 : List Am.Item := [
    ⟨(some 2), .boxN 2 (.t 0), none⟩,
    ⟨(some 4), .allocN 4 [.str [], .int .i64 0, .int .i64 0, .int .i64 0, .int .i64 0, .int .i64 0], none⟩]
def g78_1 : List Am.Item := [
    ⟨(some 5), .val (.faddr 1 (.t 2)), none⟩,
    ⟨(some 6), .val (.load none (.t 5)), none⟩,
    ⟨(some 7), .val (.mov (.t 1)), none⟩,
    ⟨(some 8), .val (.bin .num .add (.t 6) (.t 7)), none⟩,
    ⟨(some 9), .val (.faddr 1 (.t 2)), none⟩,
    ⟨none, .store 1 (.t 9) (.t 8), none⟩]
def g78_2 : List Am.Item := [
    ⟨(some 10), .val (.load (some 6) (.t 2)), none⟩,
    ⟨none, .store 6 (.t 4) (.t 10), none⟩]
def r78 : RC := .seq (.reg g78_0) (.seq (.reg g78_1) (.seq (.reg g78_2) (.ret)))
def o78 : List RR := [.cell 4 (some 6)]
theorem k78 : chkC Tryz.prog 11 r78 (Tryz.f78.body.getD .skip) = true := by decide +kernel
theorem q78 : chkR Tryz.prog Tryz.f78.results.toList o78 = true := by decide +kernel

/- wireschema/varint.TakeFixed -/
def g79_0 : List Am.Item := [
    ⟨(some 2), .val (.mov (.c (.int .u64 0))), none⟩,
    ⟨(some 3), .val (.mov (.c (.int .i64 0))), none⟩]
def g79_1 : List Am.Item := [
    ⟨(some 6), .val (.mov (.t 0)), none⟩,
    ⟨(some 7), .val (.len 0 (.t 6)), none⟩,
    ⟨(some 8), .val (.bin .num .lss (.t 7) (.c (.int .i64 8))), none⟩]
def g79_2 : List Am.Item := [
    ⟨(some 2), .val (.mov (.c (.int .u64 0))), none⟩,
    ⟨(some 3), .val (.mov (.c (.int .i64 4))), none⟩]
def g79_3 : List Am.Item := [
    ⟨(some 4), .val (.mov (.c (.int .u64 0))), none⟩]
def g79_4 : List Am.Item := [
    ⟨(some 9), .val (.mov (.c (.int .i64 0))), none⟩]
def g79_5 : List Am.Item := [
    ⟨(some 10), .val (.bin .num .lss (.t 9) (.c (.int .i64 8))), none⟩]
def g79_6 : List Am.Item := [
    ⟨(some 11), .val (.mov (.t 9)), none⟩,
    ⟨(some 5), .val (.mov (.t 11)), none⟩]
def g79_7 : List Am.Item := [
    ⟨(some 12), .val (.mov (.t 4)), none⟩,
    ⟨(some 13), .val (.mov (.t 0)), none⟩,
    ⟨(some 14), .val (.mov (.t 5)), none⟩,
    ⟨(some 15), .val (.idx (.t 13) (.t 14)), none⟩,
    ⟨(some 16), .val (.cvi .u64 (.t 15)), none⟩,
    ⟨(some 17), .val (.mov (.t 5)), none⟩,
    ⟨(some 18), .val (.bin .num .mul (.c (.int .i64 8)) (.t 17)), none⟩,
    ⟨(some 19), .val (.bin .num .shl (.t 16) (.t 18)), none⟩,
    ⟨(some 20), .val (.bin .num .or (.t 12) (.t 19)), none⟩,
    ⟨(some 4), .val (.mov (.t 20)), none⟩]
def g79_8 : List Am.Item := [
    ⟨(some 21), .val (.bin .num .add (.t 9) (.c (.int .i64 1))), none⟩,
    ⟨(some 9), .val (.mov (.t 21)), none⟩]
def l79_0 : RC := .seq (.reg g79_5) (.seq (.cond (.t 10) (.skip) (.exit 0)) (.seq (.block 1 (.seq (.reg g79_6) (.reg g79_7))) (.reg g79_8)))
def g79_9 : List Am.Item := [
    ⟨(some 22), .val (.mov (.t 4)), none⟩,
    ⟨(some 2), .val (.mov (.t 22)), none⟩,
    ⟨(some 3), .val (.mov (.c (.int .i64 0))), none⟩]
def r79 : RC := .seq (.reg g79_0) (.seq (.seq (.reg g79_1) (.cond (.t 8) (.seq (.reg g79_2) (.ret)) (.skip))) (.seq (.reg g79_3) (.seq (.seq (.reg g79_4) (.block 0 (.loop l79_0))) (.seq (.reg g79_9) (.ret)))))
def o79 : List RR := [.tmp 2, .tmp 3]
theorem k79 : chkC Tryz.prog 23 r79 (Tryz.f79.body.getD .skip) = true := by decide +kernel
theorem q79 : chkR Tryz.prog Tryz.f79.results.toList o79 = true := by decide +kernel

/- (*wireschema/tagdec.reader).length -/
def g80_0 : List Am.Item := [
    ⟨(some 2), .val (.mov (.c (.int .i64 0))), none⟩,
    ⟨(some 3), .val (.mov (.c (.int .i64 0))), none⟩]
def g80_1 : List Am.Item := [
    ⟨(some 8), .val (.mov (.t 0)), none⟩,
    ⟨(some 9), .val (.nilck (.t 8)), none⟩,
    ⟨(some 10), .val (.faddr 2 (.t 9)), none⟩,
    ⟨(some 11), .val (.load (some 6) (.t 10)), none⟩,
    ⟨(some 12), .call (.f 52) [(.t 11)], none⟩,
    ⟨(some 7), .val (.mov (.t 12)), none⟩,
    ⟨(some 13), .val (.ext (.t 7) 0), none⟩,
    ⟨(some 14), .val (.ext (.t 7) 1), none⟩,
    ⟨(some 15), .val (.ext (.t 7) 2), none⟩,
    ⟨(some 5), .allocN 5 [.str [], .int .i64 0, .int .i64 0, .int .i64 0, .int .i64 0, .int .i64 0], none⟩,
    ⟨(some 4), .val (.mov (.t 13)), none⟩,
    ⟨none, .store 6 (.t 5) (.t 14), none⟩,
    ⟨(some 6), .val (.mov (.t 15)), none⟩]
def g80_2 : List Am.Item := [
    ⟨(some 16), .val (.mov (.t 6)), none⟩,
    ⟨(some 17), .val (.bin .num .neq (.t 16) (.c (.int .i64 0))), none⟩]
def g80_3 : List Am.Item := [
    ⟨(some 18), .val (.mov (.t 6)), none⟩,
    ⟨(some 2), .val (.mov (.c (.int .i64 0))), none⟩,
    ⟨(some 3), .val (.mov (.t 18)), none⟩]
def g80_4 : List Am.Item := [
    ⟨(some 19), .val (.mov (.t 4)), none⟩,
    ⟨(some 20), .val (.load (some 6) (.t 5)), none⟩,
    ⟨(some 21), .call (.f 36) [(.t 20)], none⟩,
    ⟨(some 22), .val (.cvi .u64 (.t 21)), none⟩,
    ⟨(some 23), .val (.bin .num .gtr (.t 19) (.t 22)), none⟩]
def g80_5 : List Am.Item := [
    ⟨(some 2), .val (.mov (.c (.int .i64 0))), none⟩,
    ⟨(some 3), .val (.mov (.c (.int .i64 4))), none⟩]
def g80_6 : List Am.Item := [
    ⟨(some 24), .val (.mov (.t 0)), none⟩,
    ⟨(some 25), .val (.load (some 6) (.t 5)), none⟩,
    ⟨(some 26), .val (.nilck (.t 24)), none⟩,
    ⟨(some 27), .val (.faddr 2 (.t 26)), none⟩,
    ⟨none, .store 6 (.t 27) (.t 25), none⟩]
def g80_7 : List Am.Item := [
    ⟨(some 28), .val (.mov (.t 4)), none⟩,
    ⟨(some 29), .val (.cvi .i64 (.t 28)), none⟩,
    ⟨(some 2), .val (.mov (.t 29)), none⟩,
    ⟨(some 3), .val (.mov (.c (.int .i64 0))), none⟩]
def r80 : RC := .seq (.reg g80_0) (.seq (.reg g80_1) (.seq (.seq (.reg g80_2) (.cond (.t 17) (.seq (.reg g80_3) (.ret)) (.skip))) (.seq (.seq (.reg g80_4) (.cond (.t 23) (.seq (.reg g80_5) (.ret)) (.skip))) (.seq (.reg g80_6) (.seq (.reg g80_7) (.ret))))))
def o80 : List RR := [.tmp 2, .tmp 3]
theorem k80 : chkC Tryz.prog 30 r80 (Tryz.f80.body.getD .skip) = true := by decide +kernel
theorem q80 : chkR Tryz.prog Tryz.f80.results.toList o80 = true := by decide +kernel

/- (*wireschema/tagdec.reader).part -/
def g81_0 : List Am.Item := [
    ⟨(some 4), .allocN 4 [.str [], .int .i64 0, .int .i64 0, .int .i64 0, .int .i64 0, .int .i64 0], none⟩]
def g81_1 : List Am.Item := [
    ⟨(some 6), .val (.mov (.t 0)), none⟩,
    ⟨(some 7), .val (.nilck (.t 6)), none⟩,
    ⟨(some 8), .val (.faddr 2 (.t 7)), none⟩,
    ⟨(some 9), .val (.load (some 6) (.t 8)), none⟩,
    ⟨(some 5), .allocN 5 [.str [], .int .i64 0, .int .i64 0, .int .i64 0, .int .i64 0, .int .i64 0], none⟩,
    ⟨none, .store 6 (.t 5) (.t 9), none⟩]
def g81_2 : List Am.Item := [
    ⟨(some 10), .val (.mov (.t 0)), none⟩,
    ⟨(some 11), .val (.mov (.t 0)), none⟩,
    ⟨(some 12), .val (.nilck (.t 11)), none⟩,
    ⟨(some 13), .val (.faddr 2 (.t 12)), none⟩,
    ⟨(some 14), .val (.faddr 1 (.t 13)), none⟩,
    ⟨(some 15), .val (.load none (.t 14)), none⟩,
    ⟨(some 16), .val (.mov (.t 1)), none⟩,
    ⟨(some 17), .val (.bin .num .add (.t 15) (.t 16)), none⟩,
    ⟨(some 18), .val (.nilck (.t 10)), none⟩,
    ⟨(some 19), .val (.faddr 2 (.t 18)), none⟩,
    ⟨(some 20), .val (.faddr 2 (.t 19)), none⟩,
    ⟨none, .store 1 (.t 20) (.t 17), none⟩]
def g81_3 : List Am.Item := [
    ⟨(some 21), .val (.load (some 6) (.t 5)), none⟩,
    ⟨none, .store 6 (.t 4) (.t 21), none⟩]
def r81 : RC := .seq (.reg g81_0) (.seq (.reg g81_1) (.seq (.reg g81_2) (.seq (.reg g81_3) (.ret))))
def o81 : List RR := [.cell 4 (some 6)]
theorem k81 : chkC Tryz.prog 22 r81 (Tryz.f81.body.getD .skip) = true := by decide +kernel
theorem q81 : chkR Tryz.prog Tryz.f81.results.toList o81 = true := by decide +kernel

/- (*wireschema/tagdec.reader).side -/
def g82_0 : List Am.Item := [
    ⟨(some 4), .boxN 4 (.t 1), none⟩,
    ⟨(some 6), .allocN 6 [.int .i64 0, .int .u64 0, .str [], .nils, .nils, .nils, .nils], none⟩,
    ⟨(some 7), .val (.mov (.c (.int .i64 0))), none⟩]
def g82_1 : List Am.Item := [
    ⟨(some 10), .val (.mov (.t 2)), none⟩,
    ⟨(some 11), .val (.load (some 8) (.t 4)), none⟩,
    ⟨(some 12), .call (.f 59) [(.t 11)], none⟩,
    ⟨(some 13), .val (.bin .num .neq (.t 10) (.t 12)), none⟩]
def g82_2 : List Am.Item := [
    ⟨(some 14), .val (.build [.int .i64 0, .int .u64 0, .str [], .nils, .nils, .nils, .nils] []), none⟩,
    ⟨none, .store 7 (.t 6) (.t 14), none⟩,
    ⟨(some 7), .val (.mov (.c (.int .i64 13))), none⟩]
def g82_3 : List Am.Item := [
    ⟨(some 15), .val (.faddr 5 (.t 4)), none⟩,
    ⟨(some 16), .val (.load none (.t 15)), none⟩,
    ⟨(some 17), .val (.bin .num .eql (.t 16) (.c (.int .i64 10))), none⟩]
def g82_4 : List Am.Item := [
    ⟨(some 18), .val (.mov (.t 0)), none⟩,
    ⟨(some 19), .val (.faddr 6 (.t 4)), none⟩,
    ⟨(some 20), .val (.load none (.t 19)), none⟩,
    ⟨(some 21), .val (.build [.int .i64 0, .int .u64 0, .str [], .nils, .nils, .nils, .nils] [(0, 1, (.c (.int .i64 10)))]), none⟩,
    ⟨(some 22), .callF (.f 87) [(.t 18), (.t 20), (.t 21), (.c (.int .i64 0))], none⟩,
    ⟨(some 23), .val (.ext (.t 22) 0), none⟩,
    ⟨(some 24), .val (.ext (.t 22) 1), none⟩,
    ⟨none, .store 7 (.t 6) (.t 23), none⟩,
    ⟨(some 7), .val (.mov (.t 24)), none⟩]
def g82_5 : List Am.Item := [
    ⟨(some 26), .val (.mov (.t 0)), none⟩,
    ⟨(some 27), .val (.mov (.t 2)), none⟩,
    ⟨(some 28), .callF (.f 89) [(.t 26), (.t 27)], none⟩,
    ⟨(some 25), .val (.mov (.t 28)), none⟩,
    ⟨(some 29), .val (.ext (.t 25) 0), none⟩,
    ⟨(some 30), .val (.ext (.t 25) 1), none⟩,
    ⟨(some 8), .allocN 8 [.int .i64 0, .int .i64 0, .int .u64 0, .str []], none⟩,
    ⟨none, .store 4 (.t 8) (.t 29), none⟩,
    ⟨(some 9), .val (.mov (.t 30)), none⟩]
def g82_6 : List Am.Item := [
    ⟨(some 31), .val (.mov (.t 9)), none⟩,
    ⟨(some 32), .val (.bin .num .neq (.t 31) (.c (.int .i64 0))), none⟩]
def g82_7 : List Am.Item := [
    ⟨(some 33), .val (.build [.int .i64 0, .int .u64 0, .str [], .nils, .nils, .nils, .nils] []), none⟩,
    ⟨(some 34), .val (.mov (.t 9)), none⟩,
    ⟨none, .store 7 (.t 6) (.t 33), none⟩,
    ⟨(some 7), .val (.mov (.t 34)), none⟩]
def g82_8 : List Am.Item := [
    ⟨(some 35), .val (.mov (.t 0)), none⟩,
    ⟨(some 36), .val (.nilck (.t 35)), none⟩,
    ⟨(some 37), .val (.faddr 0 (.t 36)), none⟩,
    ⟨(some 38), .val (.loado (some 2) (.t 37)), none⟩,
    ⟨(some 39), .val (.loadv 0 4 (some 8) (.t 4)), none⟩,
    ⟨(some 40), .val (.loadv 0 8 (some 4) (.t 8)), none⟩,
    ⟨(some 41), .call (.f 90) [(.t 38), (.t 39), (.t 40)], none⟩,
    ⟨(some 42), .val (.ext (.t 41) 0), none⟩,
    ⟨(some 43), .val (.ext (.t 41) 1), none⟩,
    ⟨none, .storev 0 6 7 (.t 6) (.t 42), none⟩,
    ⟨(some 7), .val (.mov (.t 43)), none⟩]
def r82 : RC := .seq (.reg g82_0) (.seq (.seq (.reg g82_1) (.cond (.t 13) (.seq (.reg g82_2) (.ret)) (.skip))) (.seq (.seq (.reg g82_3) (.cond (.t 17) (.seq (.reg g82_4) (.ret)) (.skip))) (.seq (.reg g82_5) (.seq (.seq (.reg g82_6) (.cond (.t 32) (.seq (.reg g82_7) (.ret)) (.skip))) (.seq (.draw g82_8) (.ret))))))
def o82 : List RR := [.cell 6 (some 7), .tmp 7]
theorem k82 : chkC Tryz.prog 44 r82 (Tryz.f82.body.getD .skip) = true := by decide +kernel
theorem q82 : chkR Tryz.prog Tryz.f82.results.toList o82 = true := by decide +kernel

/- (*wireschema/tagdec.reader).behind -/
def g83_0 : List Am.Item := [
    ⟨(some 3), .boxN 3 (.t 1), none⟩]
def g83_1 : List Am.Item := [
    ⟨(some 4), .val (.mov (.t 0)), none⟩,
    ⟨(some 5), .val (.nilck (.t 4)), none⟩,
    ⟨(some 6), .val (.faddr 2 (.t 5)), none⟩,
    ⟨(some 7), .val (.faddr 2 (.t 6)), none⟩,
    ⟨(some 8), .val (.loado none (.t 7)), none⟩,
    ⟨(some 9), .val (.mov (.t 0)), none⟩,
    ⟨(some 10), .val (.nilck (.t 9)), none⟩,
    ⟨(some 11), .val (.faddr 2 (.t 10)), none⟩,
    ⟨(some 12), .val (.faddr 4 (.t 11)), none⟩,
    ⟨(some 13), .val (.loado none (.t 12)), none⟩,
    ⟨(some 14), .val (.faddr 1 (.t 3)), none⟩,
    ⟨none, .storev 0 3 1 (.t 14) (.t 8), none⟩,
    ⟨(some 15), .val (.faddr 4 (.t 3)), none⟩,
    ⟨none, .storev 0 3 1 (.t 15) (.t 13), none⟩]
def g83_2 : List Am.Item := [
    ⟨(some 16), .val (.mov (.t 0)), none⟩,
    ⟨(some 17), .val (.load (some 6) (.t 3)), none⟩,
    ⟨(some 18), .val (.nilck (.t 16)), none⟩,
    ⟨(some 19), .val (.faddr 2 (.t 18)), none⟩,
    ⟨none, .store 6 (.t 19) (.t 17), none⟩]
def r83 : RC := .seq (.reg g83_0) (.seq (.draw g83_1) (.reg g83_2))
def o83 : List RR := []
theorem k83 : chkC Tryz.prog 20 r83 (Tryz.f83.body.getD .skip) = true := by decide +kernel
theorem q83 : chkR Tryz.prog Tryz.f83.results.toList o83 = true := by decide +kernel

/- wireschema/tagdec.set -/
def g84_0 : List Am.Item := [
    ⟨(some 4), .boxN 4 (.t 0), none⟩,
    ⟨(some 5), .boxN 5 (.t 1), none⟩,
    ⟨(some 6), .boxN 6 (.t 2), none⟩,
    ⟨(some 7), .boxN 7 (.t 3), none⟩,
    ⟨(some 8), .allocN 8 [.int .i64 0, .int .u64 0, .str [], .nils, .nils, .nils, .nils], none⟩]
def g84_1 : List Am.Item := [
    ⟨(some 14), .val (.faddr 6 (.t 5)), none⟩,
    ⟨(some 15), .val (.load none (.t 14)), none⟩,
    ⟨(some 16), .val (.build [.int .i64 0, .int .u64 0, .str [], .nils, .nils, .nils, .nils] [(0, 1, (.c (.int .i64 10))), (6, 1, (.t 15))]), none⟩,
    ⟨(some 9), .allocN 9 [.int .i64 0, .int .u64 0, .str [], .nils, .nils, .nils, .nils], none⟩,
    ⟨none, .store 7 (.t 9) (.t 16), none⟩]
def g84_2 : List Am.Item := [
    ⟨(some 17), .val (.faddr 5 (.t 5)), none⟩,
    ⟨(some 18), .val (.load none (.t 17)), none⟩,
    ⟨(some 19), .val (.len 1 (.t 18)), none⟩,
    ⟨(some 20), .val (.mov (.c (.int .i64 0))), none⟩]
def g84_3 : List Am.Item := [
    ⟨(some 21), .val (.bin .num .lss (.t 20) (.t 19)), none⟩]
def g84_4 : List Am.Item := [
    ⟨(some 22), .val (.iaddr 8 none (.t 18) (.t 20)), none⟩,
    ⟨(some 23), .val (.load (some 8) (.t 22)), none⟩,
    ⟨(some 11), .allocN 11 [.int .i64 0, .int .i64 0, .int .u64 0, .str [], .nils, .nils, .nils, .nils], none⟩,
    ⟨none, .store 8 (.t 11) (.t 23), none⟩]
def g84_5 : List Am.Item := [
    ⟨(some 24), .val (.faddr 0 (.t 11)), none⟩,
    ⟨(some 25), .val (.load none (.t 24)), none⟩,
    ⟨(some 26), .val (.faddr 0 (.t 6)), none⟩,
    ⟨(some 27), .val (.load none (.t 26)), none⟩,
    ⟨(some 28), .val (.bin .num .eql (.t 25) (.t 27)), none⟩]
def g84_6 : List Am.Item := [
    ⟨(some 30), .val (.load (some 3) (.t 4)), none⟩,
    ⟨(some 31), .val (.faddr 0 (.t 11)), none⟩,
    ⟨(some 32), .val (.load none (.t 31)), none⟩,
    ⟨(some 33), .call (.f 40) [(.t 30), (.t 32)], none⟩,
    ⟨(some 29), .val (.mov (.t 33)), none⟩,
    ⟨(some 34), .val (.ext (.t 29) 0), none⟩,
    ⟨(some 35), .val (.ext (.t 29) 1), none⟩,
    ⟨(some 12), .allocN 12 [.int .i64 0, .str [], .str [], .int .i64 0, .int .i64 0, .int .i64 0, .int .i64 0, .int .i64 0], none⟩,
    ⟨none, .store 8 (.t 12) (.t 34), none⟩,
    ⟨(some 13), .val (.mov (.t 35)), none⟩]
def g84_7 : List Am.Item := [
    ⟨(some 36), .val (.mov (.t 13)), none⟩,
    ⟨(some 37), .val (.mov (.t 36)), none⟩,
    ⟨(some 38), .val (.faddr 7 (.t 6)), (some (37, true))⟩,
    ⟨(some 39), .val (.load none (.t 38)), (some (37, true))⟩,
    ⟨(some 40), .val (.bin .num .geq (.t 39) (.c (.int .i64 0))), (some (37, true))⟩,
    ⟨(some 41), .val (.pick (.t 37) (.t 40) (.c (.bool false))), none⟩,
    ⟨(some 42), .val (.mov (.t 41)), none⟩,
    ⟨(some 43), .val (.faddr 7 (.t 12)), (some (42, true))⟩,
    ⟨(some 44), .val (.load none (.t 43)), (some (42, true))⟩,
    ⟨(some 45), .val (.faddr 7 (.t 6)), (some (42, true))⟩,
    ⟨(some 46), .val (.load none (.t 45)), (some (42, true))⟩,
    ⟨(some 47), .val (.bin .num .eql (.t 44) (.t 46)), (some (42, true))⟩,
    ⟨(some 48), .val (.pick (.t 42) (.t 47) (.c (.bool false))), none⟩]
def g84_8 : List Am.Item := [
    ⟨(some 49), .val (.faddr 5 (.t 9)), none⟩,
    ⟨(some 50), .val (.load none (.t 49)), none⟩,
    ⟨(some 51), .val (.load (some 8) (.t 11)), none⟩,
    ⟨(some 52), .bsl 8 1 [.int .i64 0, .int .i64 0, .int .u64 0, .str [], .nils, .nils, .nils, .nils] [(0, 8, (.t 51))], none⟩,
    ⟨(some 53), .app 8 136 66 (.t 50) (.t 52), none⟩,
    ⟨(some 54), .val (.faddr 5 (.t 9)), none⟩,
    ⟨none, .store 1 (.t 54) (.t 53), none⟩]
def g84_9 : List Am.Item := [
    ⟨(some 55), .val (.bin .num .add (.t 20) (.c (.int .i64 1))), none⟩,
    ⟨(some 20), .val (.mov (.t 55)), none⟩]
def l84_0 : RC := .gho (.drop 12) (.gho (.drop 11) (.seq (.reg g84_3) (.seq (.cond (.t 21) (.skip) (.exit 0)) (.seq (.block 1 (.seq (.reg g84_4) (.seq (.seq (.reg g84_5) (.cond (.t 28) (.exit 1) (.skip))) (.seq (.seq (.reg g84_6) (.seq (.reg g84_7) (.cond (.t 48) (.exit 1) (.skip)))) (.reg g84_8))))) (.reg g84_9)))))
def g84_10 : List Am.Item := [
    ⟨(some 56), .val (.faddr 5 (.t 9)), none⟩,
    ⟨(some 57), .val (.load none (.t 56)), none⟩,
    ⟨(some 58), .val (.faddr 0 (.t 6)), none⟩,
    ⟨(some 59), .val (.load none (.t 58)), none⟩,
    ⟨(some 60), .val (.load (some 7) (.t 7)), none⟩,
    ⟨(some 61), .val (.build [.int .i64 0, .int .i64 0, .int .u64 0, .str [], .nils, .nils, .nils, .nils] [(0, 1, (.t 59)), (1, 7, (.t 60))]), none⟩,
    ⟨(some 62), .bsl 8 1 [.int .i64 0, .int .i64 0, .int .u64 0, .str [], .nils, .nils, .nils, .nils] [(0, 8, (.t 61))], none⟩,
    ⟨(some 63), .app 8 136 66 (.t 57) (.t 62), none⟩,
    ⟨(some 64), .val (.faddr 5 (.t 9)), none⟩,
    ⟨none, .store 1 (.t 64) (.t 63), none⟩]
def g84_11 : List Am.Item := [
    ⟨(some 65), .val (.load (some 7) (.t 9)), none⟩,
    ⟨none, .store 7 (.t 8) (.t 65), none⟩]
def r84 : RC := .seq (.reg g84_0) (.seq (.reg g84_1) (.gho (.vecc 9 5 1100 8) (.seq (.seq (.reg g84_2) (.block 0 (.loop l84_0))) (.seq (.reg g84_10) (.seq (.reg g84_11) (.ret))))))
def o84 : List RR := [.cell 8 (some 7)]
theorem k84 : chkC Tryz.prog 66 r84 (Tryz.f84.body.getD .skip) = true := by decide +kernel
theorem q84 : chkR Tryz.prog Tryz.f84.results.toList o84 = true := by decide +kernel

end Go.Proofs.YtofcnjhnjagncaaGreat.Rc

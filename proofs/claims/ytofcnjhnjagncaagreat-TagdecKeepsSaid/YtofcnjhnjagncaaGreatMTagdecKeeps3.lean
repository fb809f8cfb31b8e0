/- Parts of the proof, in order. -/
import Derived.WalkKit
import Derived.Test.YtofcnjhnjagncaaGreatMTagdecKeeps2

/- The code of functions of the program, as the abstract machine has it. -/
namespace Go.Proofs.YtofcnjhnjagncaaGreat.Rc
open Go Am

/- wireschema/cursor.Byte -/
def g85_0 : List Am.Item := [
    ⟨(some 1), .boxN 1 (.t 0), none⟩,
    ⟨(some 2), .val (.mov (.c (.int .u8 0))), none⟩,
    ⟨(some 3), .allocN 3 [.str [], .int .i64 0, .int .i64 0, .int .i64 0, .int .i64 0, .int .i64 0], none⟩,
    ⟨(some 4), .val (.mov (.c (.int .i64 0))), none⟩]
def g85_1 : List Am.Item := [
    ⟨(some 5), .val (.load (some 6) (.t 1)), none⟩,
    ⟨(some 6), .call (.f 36) [(.t 5)], none⟩,
    ⟨(some 7), .val (.bin .num .lss (.t 6) (.c (.int .i64 1))), none⟩]
def g85_2 : List Am.Item := [
    ⟨(some 8), .val (.loadv 0 1 (some 6) (.t 1)), none⟩,
    ⟨(some 2), .val (.mov (.c (.int .u8 0))), none⟩,
    ⟨none, .storev 0 3 6 (.t 3) (.t 8), none⟩,
    ⟨(some 4), .val (.mov (.c (.int .i64 4))), none⟩]
def g85_3 : List Am.Item := [
    ⟨(some 9), .val (.faddr 0 (.t 1)), none⟩,
    ⟨(some 10), .val (.loadv 0 1 none (.t 9)), none⟩,
    ⟨(some 11), .val (.faddr 1 (.t 1)), none⟩,
    ⟨(some 12), .val (.loadv 0 1 none (.t 11)), none⟩,
    ⟨(some 13), .val (.idx (.t 10) (.t 12)), none⟩,
    ⟨(some 14), .val (.loadv 0 1 (some 6) (.t 1)), none⟩,
    ⟨(some 15), .call (.f 78) [(.t 14), (.c (.int .i64 1))], none⟩,
    ⟨(some 2), .val (.mov (.t 13)), none⟩,
    ⟨none, .storev 0 3 6 (.t 3) (.t 15), none⟩,
    ⟨(some 4), .val (.mov (.c (.int .i64 0))), none⟩]
def r85 : RC := .seq (.reg g85_0) (.seq (.seq (.reg g85_1) (.cond (.t 7) (.seq (.draw g85_2) (.ret)) (.skip))) (.seq (.draw g85_3) (.ret)))
def o85 : List RR := [.tmp 2, .cell 3 (some 6), .tmp 4]
theorem k85 : chkC Tryz.prog 16 r85 (Tryz.f85.body.getD .skip) = true := by decide +kernel
theorem q85 : chkR Tryz.prog Tryz.f85.results.toList o85 = true := by decide +kernel

/- wireschema/plan.Wire -/
def g86_0 : List Am.Item := [
    ⟨(some 1), .boxN 1 (.t 0), none⟩,
    ⟨(some 2), .val (.mov (.c (.int .i64 0))), none⟩]
def g86_1 : List Am.Item := [
    ⟨(some 4), .val (.faddr 3 (.t 1)), none⟩,
    ⟨(some 5), .val (.load none (.t 4)), none⟩,
    ⟨(some 6), .val (.bin .num .eql (.t 5) (.c (.int .i64 5))), none⟩,
    ⟨(some 3), .val (.mov (.t 6)), none⟩]
def g86_2 : List Am.Item := [
    ⟨(some 2), .val (.mov (.c (.int .i64 6))), none⟩]
def g86_3 : List Am.Item := [
    ⟨(some 8), .val (.load (some 8) (.t 1)), none⟩,
    ⟨(some 9), .call (.f 57) [(.t 8)], none⟩,
    ⟨(some 7), .val (.mov (.t 9)), none⟩]
def g86_4 : List Am.Item := [
    ⟨(some 2), .val (.mov (.c (.int .i64 5))), none⟩]
def g86_5 : List Am.Item := [
    ⟨(some 10), .val (.faddr 5 (.t 1)), none⟩,
    ⟨(some 11), .val (.load none (.t 10)), none⟩]
def g86_6 : List Am.Item := [
    ⟨(some 13), .val (.bin .num .eql (.t 11) (.c (.int .i64 1))), none⟩,
    ⟨(some 12), .val (.mov (.t 13)), none⟩]
def g86_7 : List Am.Item := [
    ⟨(some 14), .val (.bin .num .eql (.t 11) (.c (.int .i64 4))), none⟩,
    ⟨(some 12), .val (.mov (.t 14)), none⟩]
def g86_8 : List Am.Item := [
    ⟨(some 15), .val (.bin .num .eql (.t 11) (.c (.int .i64 5))), none⟩,
    ⟨(some 12), .val (.mov (.t 15)), none⟩]
def g86_9 : List Am.Item := [
    ⟨(some 16), .val (.bin .num .eql (.t 11) (.c (.int .i64 9))), none⟩,
    ⟨(some 12), .val (.mov (.t 16)), none⟩]
def g86_10 : List Am.Item := [
    ⟨(some 2), .val (.mov (.c (.int .i64 0))), none⟩]
def g86_11 : List Am.Item := [
    ⟨(some 18), .val (.bin .num .eql (.t 11) (.c (.int .i64 2))), none⟩,
    ⟨(some 17), .val (.mov (.t 18)), none⟩]
def g86_12 : List Am.Item := [
    ⟨(some 19), .val (.bin .num .eql (.t 11) (.c (.int .i64 3))), none⟩,
    ⟨(some 17), .val (.mov (.t 19)), none⟩]
def g86_13 : List Am.Item := [
    ⟨(some 2), .val (.mov (.c (.int .i64 1))), none⟩]
def g86_14 : List Am.Item := [
    ⟨(some 21), .val (.bin .num .eql (.t 11) (.c (.int .i64 6))), none⟩,
    ⟨(some 20), .val (.mov (.t 21)), none⟩]
def g86_15 : List Am.Item := [
    ⟨(some 2), .val (.mov (.c (.int .i64 2))), none⟩]
def g86_16 : List Am.Item := [
    ⟨(some 23), .val (.bin .num .eql (.t 11) (.c (.int .i64 7))), none⟩,
    ⟨(some 22), .val (.mov (.t 23)), none⟩]
def g86_17 : List Am.Item := [
    ⟨(some 24), .val (.bin .num .eql (.t 11) (.c (.int .i64 8))), none⟩,
    ⟨(some 22), .val (.mov (.t 24)), none⟩]
def g86_18 : List Am.Item := [
    ⟨(some 2), .val (.mov (.c (.int .i64 3))), none⟩]
def g86_19 : List Am.Item := [
    ⟨(some 26), .val (.bin .num .eql (.t 11) (.c (.int .i64 10))), none⟩,
    ⟨(some 25), .val (.mov (.t 26)), none⟩]
def g86_20 : List Am.Item := [
    ⟨(some 2), .val (.mov (.c (.int .i64 4))), none⟩]
def g86_21 : List Am.Item := [
    ⟨(some 2), .val (.mov (.c (.int .i64 (-1)))), none⟩]
def r86 : RC := .seq (.reg g86_0) (.seq (.block 0 (.seq (.reg g86_1) (.cond (.t 3) (.seq (.reg g86_2) (.ret)) (.seq (.reg g86_3) (.cond (.t 7) (.seq (.reg g86_4) (.ret)) (.skip)))))) (.seq (.seq (.reg g86_5) (.block 1 (.seq (.seq (.reg g86_6) (.cond (.t 12) (.skip) (.seq (.reg g86_7) (.cond (.t 12) (.skip) (.seq (.reg g86_8) (.cond (.t 12) (.skip) (.reg g86_9))))))) (.cond (.t 12) (.seq (.reg g86_10) (.ret)) (.seq (.seq (.reg g86_11) (.cond (.t 17) (.skip) (.reg g86_12))) (.cond (.t 17) (.seq (.reg g86_13) (.ret)) (.seq (.reg g86_14) (.cond (.t 20) (.seq (.reg g86_15) (.ret)) (.seq (.seq (.reg g86_16) (.cond (.t 22) (.skip) (.reg g86_17))) (.cond (.t 22) (.seq (.reg g86_18) (.ret)) (.seq (.reg g86_19) (.cond (.t 25) (.seq (.reg g86_20) (.ret)) (.skip))))))))))))) (.seq (.reg g86_21) (.ret))))
def o86 : List RR := [.tmp 2]
theorem k86 : chkC Tryz.prog 27 r86 (Tryz.f86.body.getD .skip) = true := by decide +kernel
theorem q86 : chkR Tryz.prog Tryz.f86.results.toList o86 = true := by decide +kernel

/- (*wireschema/tagdec.reader).inside -/
def g87_0 : List Am.Item := [
    ⟨(some 6), .boxN 6 (.t 2), none⟩,
    ⟨(some 8), .allocN 8 [.int .i64 0, .int .u64 0, .str [], .nils, .nils, .nils, .nils], none⟩,
    ⟨(some 9), .val (.mov (.c (.int .i64 0))), none⟩]
def g87_1 : List Am.Item := [
    ⟨(some 15), .val (.mov (.t 0)), none⟩,
    ⟨(some 16), .callF (.f 80) [(.t 15)], none⟩,
    ⟨(some 14), .val (.mov (.t 16)), none⟩,
    ⟨(some 17), .val (.ext (.t 14) 0), none⟩,
    ⟨(some 18), .val (.ext (.t 14) 1), none⟩,
    ⟨(some 10), .val (.mov (.t 17)), none⟩,
    ⟨(some 11), .val (.mov (.t 18)), none⟩]
def g87_2 : List Am.Item := [
    ⟨(some 19), .val (.mov (.t 11)), none⟩,
    ⟨(some 20), .val (.bin .num .neq (.t 19) (.c (.int .i64 0))), none⟩]
def g87_3 : List Am.Item := [
    ⟨(some 21), .val (.load (some 7) (.t 6)), none⟩,
    ⟨(some 22), .val (.mov (.t 11)), none⟩,
    ⟨none, .store 7 (.t 8) (.t 21), none⟩,
    ⟨(some 9), .val (.mov (.t 22)), none⟩]
def g87_4 : List Am.Item := [
    ⟨(some 23), .val (.mov (.t 0)), none⟩,
    ⟨(some 24), .val (.nilck (.t 23)), none⟩,
    ⟨(some 25), .val (.faddr 2 (.t 24)), none⟩,
    ⟨(some 26), .val (.load (some 6) (.t 25)), none⟩,
    ⟨(some 12), .allocN 12 [.str [], .int .i64 0, .int .i64 0, .int .i64 0, .int .i64 0, .int .i64 0], none⟩,
    ⟨none, .store 6 (.t 12) (.t 26), none⟩]
def g87_5 : List Am.Item := [
    ⟨(some 28), .val (.mov (.t 0)), none⟩,
    ⟨(some 29), .val (.load (some 6) (.t 12)), none⟩,
    ⟨(some 30), .val (.mov (.t 10)), none⟩,
    ⟨(some 31), .call (.f 104) [(.t 29), (.t 30)], none⟩,
    ⟨(some 27), .val (.mov (.t 31)), none⟩,
    ⟨(some 32), .val (.ext (.t 27) 0), none⟩,
    ⟨(some 33), .val (.ext (.t 27) 1), none⟩,
    ⟨(some 34), .val (.nilck (.t 28)), none⟩,
    ⟨(some 35), .val (.faddr 2 (.t 34)), none⟩,
    ⟨none, .store 6 (.t 35) (.t 32), none⟩,
    ⟨(some 11), .val (.mov (.t 33)), none⟩]
def g87_6 : List Am.Item := [
    ⟨(some 36), .val (.mov (.t 11)), none⟩,
    ⟨(some 37), .val (.bin .num .neq (.t 36) (.c (.int .i64 0))), none⟩]
def g87_7 : List Am.Item := [
    ⟨(some 38), .val (.load (some 7) (.t 6)), none⟩,
    ⟨(some 39), .val (.mov (.t 11)), none⟩,
    ⟨none, .store 7 (.t 8) (.t 38), none⟩,
    ⟨(some 9), .val (.mov (.t 39)), none⟩]
def g87_8 : List Am.Item := [
    ⟨(some 40), .val (.mov (.t 0)), none⟩,
    ⟨(some 41), .val (.mov (.t 3)), none⟩,
    ⟨(some 42), .callF (.f 23) [(.t 40), (.t 41)], none⟩,
    ⟨(some 11), .val (.mov (.t 42)), none⟩]
def g87_9 : List Am.Item := [
    ⟨(some 43), .val (.mov (.t 11)), none⟩,
    ⟨(some 44), .val (.bin .num .neq (.t 43) (.c (.int .i64 0))), none⟩]
def g87_10 : List Am.Item := [
    ⟨(some 45), .val (.load (some 7) (.t 6)), none⟩,
    ⟨(some 46), .val (.mov (.t 11)), none⟩,
    ⟨none, .store 7 (.t 8) (.t 45), none⟩,
    ⟨(some 9), .val (.mov (.t 46)), none⟩]
def g87_11 : List Am.Item := [
    ⟨(some 48), .val (.mov (.t 0)), none⟩,
    ⟨(some 49), .val (.mov (.t 1)), none⟩,
    ⟨(some 50), .val (.load (some 7) (.t 6)), none⟩,
    ⟨(some 51), .callF (.f 24) [(.t 48), (.t 49), (.t 50)], none⟩,
    ⟨(some 47), .val (.mov (.t 51)), none⟩,
    ⟨(some 52), .val (.ext (.t 47) 0), none⟩,
    ⟨(some 53), .val (.ext (.t 47) 1), none⟩,
    ⟨(some 13), .allocN 13 [.int .i64 0, .int .u64 0, .str [], .nils, .nils, .nils, .nils], none⟩,
    ⟨none, .store 7 (.t 13) (.t 52), none⟩,
    ⟨(some 11), .val (.mov (.t 53)), none⟩]
def g87_12 : List Am.Item := [
    ⟨(some 54), .val (.mov (.t 11)), none⟩,
    ⟨(some 55), .val (.bin .num .neq (.t 54) (.c (.int .i64 0))), none⟩]
def g87_13 : List Am.Item := [
    ⟨(some 56), .val (.load (some 7) (.t 6)), none⟩,
    ⟨(some 57), .val (.mov (.t 11)), none⟩,
    ⟨none, .store 7 (.t 8) (.t 56), none⟩,
    ⟨(some 9), .val (.mov (.t 57)), none⟩]
def g87_14 : List Am.Item := [
    ⟨(some 58), .val (.mov (.t 0)), none⟩,
    ⟨(some 59), .val (.loadv 0 12 (some 6) (.t 12)), none⟩,
    ⟨(some 60), .val (.mov (.t 0)), none⟩,
    ⟨(some 61), .val (.nilck (.t 60)), none⟩,
    ⟨(some 62), .val (.faddr 2 (.t 61)), none⟩,
    ⟨(some 63), .val (.loado (some 6) (.t 62)), none⟩,
    ⟨(some 64), .call (.f 105) [(.t 59), (.t 63)], none⟩,
    ⟨(some 65), .val (.nilck (.t 58)), none⟩,
    ⟨(some 66), .val (.faddr 2 (.t 65)), none⟩,
    ⟨none, .store 6 (.t 66) (.t 64), none⟩]
def g87_15 : List Am.Item := [
    ⟨(some 67), .val (.load (some 7) (.t 13)), none⟩,
    ⟨none, .store 7 (.t 8) (.t 67), none⟩,
    ⟨(some 9), .val (.mov (.c (.int .i64 0))), none⟩]
def r87 : RC := .seq (.reg g87_0) (.seq (.reg g87_1) (.seq (.seq (.reg g87_2) (.cond (.t 20) (.seq (.reg g87_3) (.ret)) (.skip))) (.seq (.reg g87_4) (.seq (.reg g87_5) (.seq (.seq (.reg g87_6) (.cond (.t 37) (.seq (.reg g87_7) (.ret)) (.skip))) (.seq (.seq (.reg g87_8) (.seq (.reg g87_9) (.cond (.t 44) (.seq (.reg g87_10) (.ret)) (.skip)))) (.seq (.reg g87_11) (.seq (.seq (.reg g87_12) (.cond (.t 55) (.seq (.reg g87_13) (.ret)) (.skip))) (.seq (.draw g87_14) (.seq (.reg g87_15) (.ret)))))))))))
def o87 : List RR := [.cell 8 (some 7), .tmp 9]
theorem k87 : chkC Tryz.prog 68 r87 (Tryz.f87.body.getD .skip) = true := by decide +kernel
theorem q87 : chkR Tryz.prog Tryz.f87.results.toList o87 = true := by decide +kernel

/- wireschema/tagdec.longer -/
def g88_0 : List Am.Item := [
    ⟨(some 2), .boxN 2 (.t 0), none⟩,
    ⟨(some 3), .boxN 3 (.t 1), none⟩,
    ⟨(some 4), .allocN 4 [.int .i64 0, .int .u64 0, .str [], .nils, .nils, .nils, .nils], none⟩]
def g88_1 : List Am.Item := [
    ⟨(some 6), .val (.faddr 3 (.t 2)), none⟩,
    ⟨(some 7), .val (.load none (.t 6)), none⟩,
    ⟨(some 8), .val (.len 1 (.t 7)), none⟩,
    ⟨(some 5), .val (.mov (.t 8)), none⟩]
def g88_2 : List Am.Item := [
    ⟨(some 9), .val (.faddr 3 (.t 2)), none⟩,
    ⟨(some 10), .val (.loadv 0 2 none (.t 9)), none⟩,
    ⟨(some 11), .val (.mov (.t 5)), none⟩,
    ⟨(some 12), .val (.mov (.t 5)), none⟩,
    ⟨(some 13), .val (.slcl (.t 10) (.t 11) (.t 12)), none⟩,
    ⟨(some 14), .val (.loadv 0 3 (some 7) (.t 3)), none⟩,
    ⟨(some 15), .bsl 7 1 [.int .i64 0, .int .u64 0, .str [], .nils, .nils, .nils, .nils] [(0, 7, (.t 14))], none⟩,
    ⟨(some 16), .appc 16 7 128 33 (.t 13) (.t 15), none⟩,
    ⟨(some 17), .val (.build [.int .i64 0, .int .u64 0, .str [], .nils, .nils, .nils, .nils] [(0, 1, (.c (.int .i64 11))), (3, 1, (.t 16))]), none⟩,
    ⟨none, .storev 0 4 7 (.t 4) (.t 17), none⟩]
def r88 : RC := .seq (.reg g88_0) (.seq (.reg g88_1) (.seq (.draw g88_2) (.ret)))
def o88 : List RR := [.cell 4 (some 7)]
theorem k88 : chkC Tryz.prog 18 r88 (Tryz.f88.body.getD .skip) = true := by decide +kernel
theorem q88 : chkR Tryz.prog Tryz.f88.results.toList o88 = true := by decide +kernel

/- (*wireschema/tagdec.reader).contents -/
def g89_0 : List Am.Item := [
    ⟨(some 4), .allocN 4 [.int .i64 0, .int .i64 0, .int .u64 0, .str []], none⟩,
    ⟨(some 5), .val (.mov (.c (.int .i64 0))), none⟩]
def g89_1 : List Am.Item := [
    ⟨(some 10), .val (.mov (.t 1)), none⟩,
    ⟨(some 11), .val (.build [.int .i64 0, .int .i64 0, .int .u64 0, .str []] [(1, 1, (.t 10))]), none⟩,
    ⟨(some 6), .allocN 6 [.int .i64 0, .int .i64 0, .int .u64 0, .str []], none⟩,
    ⟨none, .store 4 (.t 6) (.t 11), none⟩]
def g89_2 : List Am.Item := [
    ⟨(some 7), .val (.mov (.c (.int .i64 0))), none⟩]
def g89_3 : List Am.Item := [
    ⟨(some 12), .val (.mov (.t 1)), none⟩]
def g89_5 : List Am.Item := [
    ⟨(some 27), .val (.bin .num .eql (.t 12) (.c (.int .i64 3))), none⟩,
    ⟨(some 26), .val (.mov (.t 27)), none⟩]
def g89_6 : List Am.Item := [
    ⟨(some 29), .val (.mov (.t 0)), none⟩,
    ⟨(some 30), .callF (.f 80) [(.t 29)], none⟩,
    ⟨(some 28), .val (.mov (.t 30)), none⟩,
    ⟨(some 31), .val (.ext (.t 28) 0), none⟩,
    ⟨(some 32), .val (.ext (.t 28) 1), none⟩,
    ⟨(some 8), .val (.mov (.t 31)), none⟩,
    ⟨(some 9), .val (.mov (.t 32)), none⟩]
def g89_7 : List Am.Item := [
    ⟨(some 33), .val (.mov (.t 9)), none⟩,
    ⟨(some 34), .val (.bin .num .neq (.t 33) (.c (.int .i64 0))), none⟩]
def g89_8 : List Am.Item := [
    ⟨(some 35), .val (.load (some 4) (.t 6)), none⟩,
    ⟨(some 36), .val (.mov (.t 9)), none⟩,
    ⟨none, .store 4 (.t 4) (.t 35), none⟩,
    ⟨(some 5), .val (.mov (.t 36)), none⟩]
def g89_9 : List Am.Item := [
    ⟨(some 38), .val (.mov (.t 0)), none⟩,
    ⟨(some 39), .val (.mov (.t 0)), none⟩,
    ⟨(some 40), .val (.nilck (.t 39)), none⟩,
    ⟨(some 41), .val (.faddr 2 (.t 40)), none⟩,
    ⟨(some 42), .val (.load (some 6) (.t 41)), none⟩,
    ⟨(some 43), .val (.mov (.t 8)), none⟩,
    ⟨(some 44), .call (.f 106) [(.t 42), (.t 43)], none⟩,
    ⟨(some 37), .val (.mov (.t 44)), none⟩,
    ⟨(some 45), .val (.ext (.t 37) 0), none⟩,
    ⟨(some 46), .val (.ext (.t 37) 1), none⟩,
    ⟨(some 47), .val (.ext (.t 37) 2), none⟩,
    ⟨(some 48), .val (.faddr 3 (.t 6)), none⟩,
    ⟨none, .store 1 (.t 48) (.t 45), none⟩,
    ⟨(some 49), .val (.nilck (.t 38)), none⟩,
    ⟨(some 50), .val (.faddr 2 (.t 49)), none⟩,
    ⟨none, .store 6 (.t 50) (.t 46), none⟩,
    ⟨(some 7), .val (.mov (.t 47)), none⟩]
def g89_10 : List Am.Item := [
    ⟨(some 52), .val (.bin .num .eql (.t 12) (.c (.int .i64 2))), none⟩,
    ⟨(some 51), .val (.mov (.t 52)), none⟩]
def g89_11 : List Am.Item := [
    ⟨(some 54), .val (.mov (.t 0)), none⟩,
    ⟨(some 55), .val (.mov (.t 0)), none⟩,
    ⟨(some 56), .val (.nilck (.t 55)), none⟩,
    ⟨(some 57), .val (.faddr 2 (.t 56)), none⟩,
    ⟨(some 58), .val (.load (some 6) (.t 57)), none⟩,
    ⟨(some 59), .call (.f 53) [(.t 58)], none⟩,
    ⟨(some 53), .val (.mov (.t 59)), none⟩,
    ⟨(some 60), .val (.ext (.t 53) 0), none⟩,
    ⟨(some 61), .val (.ext (.t 53) 1), none⟩,
    ⟨(some 62), .val (.ext (.t 53) 2), none⟩,
    ⟨(some 63), .val (.faddr 2 (.t 6)), none⟩,
    ⟨none, .store 1 (.t 63) (.t 60), none⟩,
    ⟨(some 64), .val (.nilck (.t 54)), none⟩,
    ⟨(some 65), .val (.faddr 2 (.t 64)), none⟩,
    ⟨none, .store 6 (.t 65) (.t 61), none⟩,
    ⟨(some 7), .val (.mov (.t 62)), none⟩]
def g89_4 : List Am.Item := [
    ⟨(some 14), .val (.mov (.t 0)), none⟩,
    ⟨(some 15), .val (.mov (.t 0)), none⟩,
    ⟨(some 16), .val (.nilck (.t 15)), none⟩,
    ⟨(some 17), .val (.faddr 2 (.t 16)), none⟩,
    ⟨(some 18), .val (.load (some 6) (.t 17)), none⟩,
    ⟨(some 19), .call (.f 52) [(.t 18)], none⟩,
    ⟨(some 13), .val (.mov (.t 19)), none⟩,
    ⟨(some 20), .val (.ext (.t 13) 0), none⟩,
    ⟨(some 21), .val (.ext (.t 13) 1), none⟩,
    ⟨(some 22), .val (.ext (.t 13) 2), none⟩,
    ⟨(some 23), .val (.faddr 2 (.t 6)), none⟩,
    ⟨none, .store 1 (.t 23) (.t 20), none⟩,
    ⟨(some 24), .val (.nilck (.t 14)), none⟩,
    ⟨(some 25), .val (.faddr 2 (.t 24)), none⟩,
    ⟨none, .store 6 (.t 25) (.t 21), none⟩,
    ⟨(some 7), .val (.mov (.t 22)), none⟩]
def g89_12 : List Am.Item := [
    ⟨(some 66), .val (.load (some 4) (.t 6)), none⟩,
    ⟨(some 67), .val (.mov (.t 7)), none⟩,
    ⟨none, .store 4 (.t 4) (.t 66), none⟩,
    ⟨(some 5), .val (.mov (.t 67)), none⟩]
def r89 : RC := .seq (.reg g89_0) (.seq (.reg g89_1) (.seq (.reg g89_2) (.seq (.seq (.reg g89_3) (.block 0 (.seq (.reg g89_5) (.cond (.t 26) (.seq (.reg g89_6) (.seq (.seq (.reg g89_7) (.cond (.t 34) (.seq (.reg g89_8) (.ret)) (.skip))) (.reg g89_9))) (.seq (.reg g89_10) (.cond (.t 51) (.reg g89_11) (.reg g89_4))))))) (.seq (.reg g89_12) (.ret)))))
def o89 : List RR := [.cell 4 (some 4), .tmp 5]
theorem k89 : chkC Tryz.prog 68 r89 (Tryz.f89.body.getD .skip) = true := by decide +kernel
theorem q89 : chkR Tryz.prog Tryz.f89.results.toList o89 = true := by decide +kernel

/- wireschema/tagdec.Scalar -/
def g90_0 : List Am.Item := [
    ⟨(some 3), .boxN 3 (.t 0), none⟩,
    ⟨(some 4), .boxN 4 (.t 1), none⟩,
    ⟨(some 5), .boxN 5 (.t 2), none⟩,
    ⟨(some 6), .allocN 6 [.int .i64 0, .int .u64 0, .str [], .nils, .nils, .nils, .nils], none⟩,
    ⟨(some 7), .val (.mov (.c (.int .i64 0))), none⟩]
def g90_1 : List Am.Item := [
    ⟨(some 9), .val (.faddr 5 (.t 4)), none⟩,
    ⟨(some 10), .val (.load none (.t 9)), none⟩,
    ⟨(some 11), .call (.f 99) [(.t 10)], none⟩,
    ⟨(some 12), .val (.un .not (.t 11)), none⟩]
def g90_2 : List Am.Item := [
    ⟨(some 13), .val (.build [.int .i64 0, .int .u64 0, .str [], .nils, .nils, .nils, .nils] []), none⟩,
    ⟨none, .store 7 (.t 6) (.t 13), none⟩,
    ⟨(some 7), .val (.mov (.c (.int .i64 12))), none⟩]
def g90_3 : List Am.Item := [
    ⟨(some 14), .val (.faddr 1 (.t 5)), none⟩,
    ⟨(some 15), .val (.loadv 0 5 none (.t 14)), none⟩,
    ⟨(some 16), .val (.loadv 0 4 (some 8) (.t 4)), none⟩,
    ⟨(some 17), .call (.f 59) [(.t 16)], none⟩,
    ⟨(some 18), .val (.bin .num .neq (.t 15) (.t 17)), none⟩]
def g90_4 : List Am.Item := [
    ⟨(some 19), .val (.build [.int .i64 0, .int .u64 0, .str [], .nils, .nils, .nils, .nils] []), none⟩,
    ⟨none, .store 7 (.t 6) (.t 19), none⟩,
    ⟨(some 7), .val (.mov (.c (.int .i64 13))), none⟩]
def g90_5 : List Am.Item := [
    ⟨(some 20), .val (.faddr 1 (.t 5)), none⟩,
    ⟨(some 21), .val (.load none (.t 20)), none⟩,
    ⟨(some 22), .val (.bin .num .eql (.t 21) (.c (.int .i64 3))), none⟩]
def g90_6 : List Am.Item := [
    ⟨(some 23), .val (.faddr 5 (.t 4)), none⟩,
    ⟨(some 24), .val (.load none (.t 23)), none⟩,
    ⟨(some 25), .val (.bin .num .eql (.t 24) (.c (.int .i64 7))), none⟩,
    ⟨(some 26), .val (.mov (.t 25)), none⟩,
    ⟨(some 27), .val (.faddr 3 (.t 5)), (some (26, true))⟩,
    ⟨(some 28), .val (.load none (.t 27)), (some (26, true))⟩,
    ⟨(some 29), .call (.f 107) [(.t 28)], (some (26, true))⟩,
    ⟨(some 30), .val (.un .not (.t 29)), (some (26, true))⟩,
    ⟨(some 31), .val (.pick (.t 26) (.t 30) (.c (.bool false))), none⟩]
def g90_7 : List Am.Item := [
    ⟨(some 32), .val (.build [.int .i64 0, .int .u64 0, .str [], .nils, .nils, .nils, .nils] []), none⟩,
    ⟨none, .store 7 (.t 6) (.t 32), none⟩,
    ⟨(some 7), .val (.mov (.c (.int .i64 7))), none⟩]
def g90_8 : List Am.Item := [
    ⟨(some 33), .val (.faddr 5 (.t 4)), none⟩,
    ⟨(some 34), .val (.load none (.t 33)), none⟩,
    ⟨(some 35), .val (.faddr 3 (.t 5)), none⟩,
    ⟨(some 36), .val (.load none (.t 35)), none⟩,
    ⟨(some 37), .val (.build [.int .i64 0, .int .u64 0, .str [], .nils, .nils, .nils, .nils] [(0, 1, (.t 34)), (2, 1, (.t 36))]), none⟩,
    ⟨none, .store 7 (.t 6) (.t 37), none⟩,
    ⟨(some 7), .val (.mov (.c (.int .i64 0))), none⟩]
def g90_9 : List Am.Item := [
    ⟨(some 38), .val (.faddr 5 (.t 4)), none⟩,
    ⟨(some 39), .val (.load none (.t 38)), none⟩,
    ⟨(some 40), .val (.faddr 2 (.t 5)), none⟩,
    ⟨(some 41), .val (.load none (.t 40)), none⟩,
    ⟨(some 42), .val (.build [.int .i64 0, .int .u64 0, .str [], .nils, .nils, .nils, .nils] [(0, 1, (.t 39)), (1, 1, (.t 41))]), none⟩,
    ⟨(some 8), .allocN 8 [.int .i64 0, .int .u64 0, .str [], .nils, .nils, .nils, .nils], none⟩,
    ⟨none, .store 7 (.t 8) (.t 42), none⟩]
def g90_10 : List Am.Item := [
    ⟨(some 43), .val (.faddr 1 (.t 5)), none⟩,
    ⟨(some 44), .val (.load none (.t 43)), none⟩,
    ⟨(some 45), .val (.bin .num .eql (.t 44) (.c (.int .i64 1))), none⟩]
def g90_11 : List Am.Item := [
    ⟨(some 46), .val (.faddr 2 (.t 5)), none⟩,
    ⟨(some 47), .val (.load none (.t 46)), none⟩,
    ⟨(some 48), .call (.f 108) [(.t 47)], none⟩,
    ⟨(some 49), .val (.cvi .u64 (.t 48)), none⟩,
    ⟨(some 50), .val (.faddr 1 (.t 8)), none⟩,
    ⟨none, .store 1 (.t 50) (.t 49), none⟩]
def g90_12 : List Am.Item := [
    ⟨(some 51), .val (.faddr 5 (.t 4)), none⟩,
    ⟨(some 52), .val (.load none (.t 51)), none⟩,
    ⟨(some 53), .val (.load (some 7) (.t 8)), none⟩,
    ⟨(some 54), .call (.f 109) [(.t 52), (.t 53)], none⟩,
    ⟨(some 55), .val (.un .not (.t 54)), none⟩]
def g90_13 : List Am.Item := [
    ⟨(some 56), .val (.build [.int .i64 0, .int .u64 0, .str [], .nils, .nils, .nils, .nils] []), none⟩,
    ⟨none, .store 7 (.t 6) (.t 56), none⟩,
    ⟨(some 7), .val (.mov (.c (.int .i64 6))), none⟩]
def g90_14 : List Am.Item := [
    ⟨(some 57), .val (.faddr 5 (.t 4)), none⟩,
    ⟨(some 58), .val (.load none (.t 57)), none⟩,
    ⟨(some 59), .val (.bin .num .eql (.t 58) (.c (.int .i64 9))), none⟩,
    ⟨(some 60), .val (.mov (.t 59)), none⟩,
    ⟨(some 61), .val (.load (some 2) (.t 3)), (some (60, true))⟩,
    ⟨(some 62), .val (.faddr 6 (.t 4)), (some (60, true))⟩,
    ⟨(some 63), .val (.load none (.t 62)), (some (60, true))⟩,
    ⟨(some 64), .val (.faddr 1 (.t 8)), (some (60, true))⟩,
    ⟨(some 65), .val (.load none (.t 64)), (some (60, true))⟩,
    ⟨(some 66), .call (.f 110) [(.t 61), (.t 63), (.t 65)], (some (60, true))⟩,
    ⟨(some 67), .val (.un .not (.t 66)), (some (60, true))⟩,
    ⟨(some 68), .val (.pick (.t 60) (.t 67) (.c (.bool false))), none⟩]
def g90_15 : List Am.Item := [
    ⟨(some 69), .val (.build [.int .i64 0, .int .u64 0, .str [], .nils, .nils, .nils, .nils] []), none⟩,
    ⟨none, .store 7 (.t 6) (.t 69), none⟩,
    ⟨(some 7), .val (.mov (.c (.int .i64 16))), none⟩]
def g90_16 : List Am.Item := [
    ⟨(some 70), .val (.load (some 7) (.t 8)), none⟩,
    ⟨(some 71), .call (.f 69) [(.t 70)], none⟩,
    ⟨none, .store 7 (.t 6) (.t 71), none⟩,
    ⟨(some 7), .val (.mov (.c (.int .i64 0))), none⟩]
def r90 : RC := .seq (.reg g90_0) (.seq (.seq (.reg g90_1) (.cond (.t 12) (.seq (.reg g90_2) (.ret)) (.skip))) (.seq (.seq (.draw g90_3) (.cond (.t 18) (.seq (.reg g90_4) (.ret)) (.skip))) (.seq (.seq (.reg g90_5) (.cond (.t 22) (.seq (.seq (.reg g90_6) (.cond (.t 31) (.seq (.reg g90_7) (.ret)) (.skip))) (.seq (.reg g90_8) (.ret))) (.skip))) (.seq (.reg g90_9) (.seq (.seq (.reg g90_10) (.cond (.t 45) (.reg g90_11) (.skip))) (.seq (.seq (.reg g90_12) (.cond (.t 55) (.seq (.reg g90_13) (.ret)) (.skip))) (.seq (.seq (.reg g90_14) (.cond (.t 68) (.seq (.reg g90_15) (.ret)) (.skip))) (.seq (.reg g90_16) (.ret)))))))))
def o90 : List RR := [.cell 6 (some 7), .tmp 7]
theorem k90 : chkC Tryz.prog 72 r90 (Tryz.f90.body.getD .skip) = true := by decide +kernel
theorem q90 : chkR Tryz.prog Tryz.f90.results.toList o90 = true := by decide +kernel

/- slices.stableCmpFunc[wireschema/api.Slot] -/
def g91_0 : List Am.Item := [
    ⟨(some 6), .val (.mov (.c (.int .i64 20))), none⟩]
def g91_1 : List Am.Item := [
    ⟨(some 10), .val (.mov (.t 6)), none⟩,
    ⟨(some 7), .val (.mov (.c (.int .i64 0))), none⟩,
    ⟨(some 8), .val (.mov (.t 10)), none⟩]
def g91_2 : List Am.Item := [
    ⟨(some 11), .val (.mov (.t 8)), none⟩,
    ⟨(some 12), .val (.mov (.t 1)), none⟩,
    ⟨(some 13), .val (.bin .num .leq (.t 11) (.t 12)), none⟩]
def g91_3 : List Am.Item := [
    ⟨(some 14), .val (.mov (.t 0)), none⟩,
    ⟨(some 15), .val (.mov (.t 7)), none⟩,
    ⟨(some 16), .val (.mov (.t 8)), none⟩,
    ⟨(some 17), .val (.mov (.t 2)), none⟩,
    ⟨(some 18), .callF (.f 111) [(.t 14), (.t 15), (.t 16), (.t 17)], none⟩]
def g91_4 : List Am.Item := [
    ⟨(some 19), .val (.mov (.t 8)), none⟩,
    ⟨(some 7), .val (.mov (.t 19)), none⟩]
def g91_5 : List Am.Item := [
    ⟨(some 20), .val (.mov (.t 8)), none⟩,
    ⟨(some 21), .val (.mov (.t 6)), none⟩,
    ⟨(some 22), .val (.bin .num .add (.t 20) (.t 21)), none⟩,
    ⟨(some 8), .val (.mov (.t 22)), none⟩]
def l91_0 : RC := .seq (.seq (.reg g91_2) (.cond (.t 13) (.skip) (.exit 0))) (.block 1 (.seq (.reg g91_3) (.seq (.reg g91_4) (.reg g91_5))))
def g91_6 : List Am.Item := [
    ⟨(some 23), .val (.mov (.t 0)), none⟩,
    ⟨(some 24), .val (.mov (.t 7)), none⟩,
    ⟨(some 25), .val (.mov (.t 1)), none⟩,
    ⟨(some 26), .val (.mov (.t 2)), none⟩,
    ⟨(some 27), .callF (.f 111) [(.t 23), (.t 24), (.t 25), (.t 26)], none⟩]
def g91_7 : List Am.Item := [
    ⟨(some 28), .val (.mov (.t 6)), none⟩,
    ⟨(some 29), .val (.mov (.t 1)), none⟩,
    ⟨(some 30), .val (.bin .num .lss (.t 28) (.t 29)), none⟩]
def g91_8 : List Am.Item := [
    ⟨(some 31), .val (.mov (.t 6)), none⟩,
    ⟨(some 32), .val (.bin .num .mul (.c (.int .i64 2)) (.t 31)), none⟩,
    ⟨(some 7), .val (.mov (.c (.int .i64 0))), none⟩,
    ⟨(some 8), .val (.mov (.t 32)), none⟩]
def g91_9 : List Am.Item := [
    ⟨(some 33), .val (.mov (.t 8)), none⟩,
    ⟨(some 34), .val (.mov (.t 1)), none⟩,
    ⟨(some 35), .val (.bin .num .leq (.t 33) (.t 34)), none⟩]
def g91_10 : List Am.Item := [
    ⟨(some 36), .val (.mov (.t 0)), none⟩,
    ⟨(some 37), .val (.mov (.t 7)), none⟩,
    ⟨(some 38), .val (.mov (.t 7)), none⟩,
    ⟨(some 39), .val (.mov (.t 6)), none⟩,
    ⟨(some 40), .val (.bin .num .add (.t 38) (.t 39)), none⟩,
    ⟨(some 41), .val (.mov (.t 8)), none⟩,
    ⟨(some 42), .val (.mov (.t 2)), none⟩,
    ⟨(some 43), .callF (.f 112) [(.t 36), (.t 37), (.t 40), (.t 41), (.t 42)], none⟩]
def g91_11 : List Am.Item := [
    ⟨(some 44), .val (.mov (.t 8)), none⟩,
    ⟨(some 7), .val (.mov (.t 44)), none⟩]
def g91_12 : List Am.Item := [
    ⟨(some 45), .val (.mov (.t 8)), none⟩,
    ⟨(some 46), .val (.mov (.t 6)), none⟩,
    ⟨(some 47), .val (.bin .num .mul (.c (.int .i64 2)) (.t 46)), none⟩,
    ⟨(some 48), .val (.bin .num .add (.t 45) (.t 47)), none⟩,
    ⟨(some 8), .val (.mov (.t 48)), none⟩]
def l91_1 : RC := .seq (.seq (.reg g91_9) (.cond (.t 35) (.skip) (.exit 4))) (.block 5 (.seq (.reg g91_10) (.seq (.reg g91_11) (.reg g91_12))))
def g91_13 : List Am.Item := [
    ⟨(some 49), .val (.mov (.t 7)), none⟩,
    ⟨(some 50), .val (.mov (.t 6)), none⟩,
    ⟨(some 51), .val (.bin .num .add (.t 49) (.t 50)), none⟩,
    ⟨(some 9), .val (.mov (.t 51)), none⟩]
def g91_14 : List Am.Item := [
    ⟨(some 52), .val (.mov (.t 9)), none⟩,
    ⟨(some 53), .val (.mov (.t 1)), none⟩,
    ⟨(some 54), .val (.bin .num .lss (.t 52) (.t 53)), none⟩]
def g91_15 : List Am.Item := [
    ⟨(some 55), .val (.mov (.t 0)), none⟩,
    ⟨(some 56), .val (.mov (.t 7)), none⟩,
    ⟨(some 57), .val (.mov (.t 9)), none⟩,
    ⟨(some 58), .val (.mov (.t 1)), none⟩,
    ⟨(some 59), .val (.mov (.t 2)), none⟩,
    ⟨(some 60), .callF (.f 112) [(.t 55), (.t 56), (.t 57), (.t 58), (.t 59)], none⟩]
def g91_16 : List Am.Item := [
    ⟨(some 61), .val (.mov (.t 6)), none⟩,
    ⟨(some 62), .val (.bin .num .mul (.t 61) (.c (.int .i64 2))), none⟩,
    ⟨(some 6), .val (.mov (.t 62)), none⟩]
def l91_2 : RC := .seq (.seq (.reg g91_7) (.cond (.t 30) (.skip) (.exit 2))) (.block 3 (.seq (.reg g91_8) (.seq (.block 4 (.loop l91_1)) (.seq (.seq (.reg g91_13) (.seq (.reg g91_14) (.cond (.t 54) (.reg g91_15) (.skip)))) (.reg g91_16)))))
def r91 : RC := .seq (.reg g91_0) (.seq (.reg g91_1) (.seq (.block 0 (.loop l91_0)) (.seq (.reg g91_6) (.block 2 (.loop l91_2)))))
def o91 : List RR := []
theorem k91 : chkC Tryz.prog 63 r91 (Tryz.f91.body.getD .skip) = true := by decide +kernel
theorem q91 : chkR Tryz.prog Tryz.f91.results.toList o91 = true := by decide +kernel

/- slices.IndexFunc[[]wireschema/api.Op,wireschema/api.Op] -/
def g92_0 : List Am.Item := [
    ⟨(some 4), .val (.mov (.c (.int .i64 0))), none⟩]
def g92_1 : List Am.Item := [
    ⟨(some 6), .val (.mov (.t 0)), none⟩,
    ⟨(some 7), .val (.len 1 (.t 6)), none⟩,
    ⟨(some 8), .val (.mov (.c (.int .i64 0))), none⟩]
def g92_2 : List Am.Item := [
    ⟨(some 9), .val (.bin .num .lss (.t 8) (.t 7)), none⟩]
def g92_3 : List Am.Item := [
    ⟨(some 10), .val (.mov (.t 8)), none⟩,
    ⟨(some 5), .val (.mov (.t 10)), none⟩]
def g92_4 : List Am.Item := [
    ⟨(some 11), .val (.mov (.t 1)), none⟩,
    ⟨(some 12), .val (.mov (.t 0)), none⟩,
    ⟨(some 13), .val (.mov (.t 5)), none⟩,
    ⟨(some 14), .val (.iaddr 8 none (.t 12) (.t 13)), none⟩,
    ⟨(some 15), .val (.load (some 8) (.t 14)), none⟩,
    ⟨(some 16), .callF (.t 11) [(.t 15)], none⟩]
def g92_5 : List Am.Item := [
    ⟨(some 17), .val (.mov (.t 5)), none⟩,
    ⟨(some 4), .val (.mov (.t 17)), none⟩]
def g92_6 : List Am.Item := [
    ⟨(some 18), .val (.bin .num .add (.t 8) (.c (.int .i64 1))), none⟩,
    ⟨(some 8), .val (.mov (.t 18)), none⟩]
def l92_0 : RC := .seq (.reg g92_2) (.seq (.cond (.t 9) (.skip) (.exit 0)) (.seq (.block 1 (.seq (.reg g92_3) (.seq (.reg g92_4) (.cond (.t 16) (.seq (.reg g92_5) (.ret)) (.skip))))) (.reg g92_6)))
def g92_7 : List Am.Item := [
    ⟨(some 4), .val (.mov (.c (.int .i64 (-1)))), none⟩]
def r92 : RC := .seq (.reg g92_0) (.seq (.seq (.reg g92_1) (.block 0 (.loop l92_0))) (.seq (.reg g92_7) (.ret)))
def o92 : List RR := [.tmp 4]
theorem k92 : chkC Tryz.prog 19 r92 (Tryz.f92.body.getD .skip) = true := by decide +kernel
theorem q92 : chkR Tryz.prog Tryz.f92.results.toList o92 = true := by decide +kernel

/- slices.Clone[[]wireschema/api.Pair,wireschema/api.Pair] -/
def g93_0 : List Am.Item := [
    ⟨(some 2), .val (.mov (.c (.nils))), none⟩]
def g93_1 : List Am.Item := [
    ⟨(some 3), .val (.mov (.t 0)), none⟩,
    ⟨(some 4), .isnil false (.t 3), none⟩]
def g93_2 : List Am.Item := [
    ⟨(some 2), .val (.mov (.c (.nils))), none⟩]
def g93_3 : List Am.Item := [
    ⟨(some 5), .bsl0 5 14, none⟩,
    ⟨(some 6), .val (.mov (.t 0)), none⟩,
    ⟨(some 7), .app 14 256 100 (.t 5) (.t 6), none⟩,
    ⟨(some 2), .val (.mov (.t 7)), none⟩]
def r93 : RC := .seq (.reg g93_0) (.seq (.seq (.reg g93_1) (.cond (.t 4) (.seq (.reg g93_2) (.gho (.vec 2 2 14) (.gho (.give 2 2 1 1000) (.ret)))) (.skip))) (.seq (.reg g93_3) (.gho (.give 2 5 1 1000) (.ret))))
def o93 : List RR := [.tmp 2]
theorem k93 : chkC Tryz.prog 8 r93 (Tryz.f93.body.getD .skip) = true := by decide +kernel
theorem q93 : chkR Tryz.prog Tryz.f93.results.toList o93 = true := by decide +kernel

/- slices.SortStableFunc[[]wireschema/api.Pair,wireschema/api.Pair] -/
def g94_0 : List Am.Item := [
    ⟨(some 4), .val (.mov (.t 0)), none⟩,
    ⟨(some 5), .val (.mov (.t 0)), none⟩,
    ⟨(some 6), .val (.len 1 (.t 5)), none⟩,
    ⟨(some 7), .val (.mov (.t 1)), none⟩,
    ⟨(some 8), .callF (.f 113) [(.t 4), (.t 6), (.t 7)], none⟩]
def r94 : RC := .reg g94_0
def o94 : List RR := []
theorem k94 : chkC Tryz.prog 9 r94 (Tryz.f94.body.getD .skip) = true := by decide +kernel
theorem q94 : chkR Tryz.prog Tryz.f94.results.toList o94 = true := by decide +kernel

/- wireschema/order.Pairs$1 -/
def g95_0 : List Am.Item := [
    ⟨(some 2), .boxN 2 (.t 0), none⟩,
    ⟨(some 3), .boxN 3 (.t 1), none⟩,
    ⟨(some 4), .val (.mov (.c (.int .i64 0))), none⟩]
def g95_1 : List Am.Item := [
    ⟨(some 5), .val (.faddr 0 (.t 2)), none⟩,
    ⟨(some 6), .val (.load (some 7) (.t 5)), none⟩,
    ⟨(some 7), .val (.faddr 0 (.t 3)), none⟩,
    ⟨(some 8), .val (.load (some 7) (.t 7)), none⟩,
    ⟨(some 9), .call (.f 96) [(.t 6), (.t 8)], none⟩,
    ⟨(some 4), .val (.mov (.t 9)), none⟩]
def r95 : RC := .seq (.reg g95_0) (.seq (.reg g95_1) (.ret))
def o95 : List RR := [.tmp 4]
theorem k95 : chkC Tryz.prog 10 r95 (Tryz.f95.body.getD .skip) = true := by decide +kernel
theorem q95 : chkR Tryz.prog Tryz.f95.results.toList o95 = true := by decide +kernel

/- wireschema/order.Equal -/
def g97_0 : List Am.Item := [
    ⟨(some 2), .boxN 2 (.t 0), none⟩,
    ⟨(some 3), .boxN 3 (.t 1), none⟩,
    ⟨(some 4), .val (.mov (.c (.bool false))), none⟩]
def g97_1 : List Am.Item := [
    ⟨(some 5), .val (.load (some 7) (.t 2)), none⟩,
    ⟨(some 6), .val (.load (some 7) (.t 3)), none⟩,
    ⟨(some 7), .call (.f 96) [(.t 5), (.t 6)], none⟩,
    ⟨(some 8), .val (.bin .num .eql (.t 7) (.c (.int .i64 0))), none⟩,
    ⟨(some 4), .val (.mov (.t 8)), none⟩]
def r97 : RC := .seq (.reg g97_0) (.seq (.reg g97_1) (.ret))
def o97 : List RR := [.tmp 4]
theorem k97 : chkC Tryz.prog 9 r97 (Tryz.f97.body.getD .skip) = true := by decide +kernel
theorem q97 : chkR Tryz.prog Tryz.f97.results.toList o97 = true := by decide +kernel

/- wireschema/scalar.Class -/
def g98_0 : List Am.Item := [
    ⟨(some 2), .val (.mov (.c (.int .i64 0))), none⟩]
def g98_1 : List Am.Item := [
    ⟨(some 5), .val (.mov (.t 0)), none⟩,
    ⟨(some 6), .val (.bin .num .and (.t 5) (.c (.int .u64 9218868437227405312))), none⟩,
    ⟨(some 7), .val (.mov (.t 0)), none⟩,
    ⟨(some 8), .val (.bin .num .and (.t 7) (.c (.int .u64 4503599627370495))), none⟩,
    ⟨(some 3), .val (.mov (.t 6)), none⟩,
    ⟨(some 4), .val (.mov (.t 8)), none⟩]
def g98_2 : List Am.Item := [
    ⟨(some 10), .val (.mov (.t 3)), none⟩,
    ⟨(some 11), .val (.bin .num .eql (.t 10) (.c (.int .u64 9218868437227405312))), none⟩,
    ⟨(some 12), .val (.mov (.t 11)), none⟩,
    ⟨(some 13), .val (.mov (.t 4)), (some (12, true))⟩,
    ⟨(some 14), .val (.bin .num .neq (.t 13) (.c (.int .u64 0))), (some (12, true))⟩,
    ⟨(some 15), .val (.pick (.t 12) (.t 14) (.c (.bool false))), none⟩,
    ⟨(some 9), .val (.mov (.t 15)), none⟩]
def g98_3 : List Am.Item := [
    ⟨(some 2), .val (.mov (.c (.int .i64 0))), none⟩]
def g98_4 : List Am.Item := [
    ⟨(some 17), .val (.mov (.t 3)), none⟩,
    ⟨(some 18), .val (.bin .num .eql (.t 17) (.c (.int .u64 9218868437227405312))), none⟩,
    ⟨(some 16), .val (.mov (.t 18)), none⟩]
def g98_5 : List Am.Item := [
    ⟨(some 2), .val (.mov (.c (.int .i64 1))), none⟩]
def g98_6 : List Am.Item := [
    ⟨(some 20), .val (.mov (.t 3)), none⟩,
    ⟨(some 21), .val (.bin .num .eql (.t 20) (.c (.int .u64 0))), none⟩,
    ⟨(some 22), .val (.mov (.t 21)), none⟩,
    ⟨(some 23), .val (.mov (.t 4)), (some (22, true))⟩,
    ⟨(some 24), .val (.bin .num .eql (.t 23) (.c (.int .u64 0))), (some (22, true))⟩,
    ⟨(some 25), .val (.pick (.t 22) (.t 24) (.c (.bool false))), none⟩,
    ⟨(some 19), .val (.mov (.t 25)), none⟩]
def g98_7 : List Am.Item := [
    ⟨(some 2), .val (.mov (.c (.int .i64 2))), none⟩]
def g98_8 : List Am.Item := [
    ⟨(some 27), .val (.mov (.t 3)), none⟩,
    ⟨(some 28), .val (.bin .num .eql (.t 27) (.c (.int .u64 0))), none⟩,
    ⟨(some 26), .val (.mov (.t 28)), none⟩]
def g98_9 : List Am.Item := [
    ⟨(some 2), .val (.mov (.c (.int .i64 3))), none⟩]
def g98_10 : List Am.Item := [
    ⟨(some 2), .val (.mov (.c (.int .i64 4))), none⟩]
def r98 : RC := .seq (.reg g98_0) (.seq (.seq (.reg g98_1) (.block 0 (.seq (.reg g98_2) (.cond (.t 9) (.seq (.reg g98_3) (.ret)) (.seq (.reg g98_4) (.cond (.t 16) (.seq (.reg g98_5) (.ret)) (.seq (.reg g98_6) (.cond (.t 19) (.seq (.reg g98_7) (.ret)) (.seq (.reg g98_8) (.cond (.t 26) (.seq (.reg g98_9) (.ret)) (.skip))))))))))) (.seq (.reg g98_10) (.ret)))
def o98 : List RR := [.tmp 2]
theorem k98 : chkC Tryz.prog 29 r98 (Tryz.f98.body.getD .skip) = true := by decide +kernel
theorem q98 : chkR Tryz.prog Tryz.f98.results.toList o98 = true := by decide +kernel

/- wireschema/scalar.Is -/
def g99_0 : List Am.Item := [
    ⟨(some 2), .val (.mov (.c (.bool false))), none⟩]
def g99_1 : List Am.Item := [
    ⟨(some 3), .val (.mov (.t 0)), none⟩,
    ⟨(some 4), .val (.bin .num .geq (.t 3) (.c (.int .i64 1))), none⟩,
    ⟨(some 5), .val (.mov (.t 4)), none⟩,
    ⟨(some 6), .val (.mov (.t 0)), (some (5, true))⟩,
    ⟨(some 7), .val (.bin .num .leq (.t 6) (.c (.int .i64 9))), (some (5, true))⟩,
    ⟨(some 8), .val (.pick (.t 5) (.t 7) (.c (.bool false))), none⟩,
    ⟨(some 2), .val (.mov (.t 8)), none⟩]
def r99 : RC := .seq (.reg g99_0) (.seq (.reg g99_1) (.ret))
def o99 : List RR := [.tmp 2]
theorem k99 : chkC Tryz.prog 9 r99 (Tryz.f99.body.getD .skip) = true := by decide +kernel
theorem q99 : chkR Tryz.prog Tryz.f99.results.toList o99 = true := by decide +kernel

/- wireschema/scalar.lean -/
def g100_0 : List Am.Item := [
    ⟨(some 1), .boxN 1 (.t 0), none⟩,
    ⟨(some 2), .val (.mov (.c (.bool false))), none⟩]
def g100_1 : List Am.Item := [
    ⟨(some 3), .val (.faddr 3 (.t 1)), none⟩,
    ⟨(some 4), .val (.load none (.t 3)), none⟩,
    ⟨(some 5), .val (.len 1 (.t 4)), none⟩,
    ⟨(some 6), .val (.faddr 4 (.t 1)), none⟩,
    ⟨(some 7), .val (.load none (.t 6)), none⟩,
    ⟨(some 8), .val (.len 1 (.t 7)), none⟩,
    ⟨(some 9), .val (.bin .num .add (.t 5) (.t 8)), none⟩,
    ⟨(some 10), .val (.faddr 5 (.t 1)), none⟩,
    ⟨(some 11), .val (.load none (.t 10)), none⟩,
    ⟨(some 12), .val (.len 1 (.t 11)), none⟩,
    ⟨(some 13), .val (.bin .num .add (.t 9) (.t 12)), none⟩,
    ⟨(some 14), .val (.faddr 6 (.t 1)), none⟩,
    ⟨(some 15), .val (.load none (.t 14)), none⟩,
    ⟨(some 16), .val (.len 1 (.t 15)), none⟩,
    ⟨(some 17), .val (.bin .num .add (.t 13) (.t 16)), none⟩,
    ⟨(some 18), .val (.bin .num .gtr (.t 17) (.c (.int .i64 0))), none⟩]
def g100_2 : List Am.Item := [
    ⟨(some 2), .val (.mov (.c (.bool false))), none⟩]
def g100_3 : List Am.Item := [
    ⟨(some 19), .val (.faddr 0 (.t 1)), none⟩,
    ⟨(some 20), .val (.load none (.t 19)), none⟩,
    ⟨(some 21), .call (.f 124) [(.t 20)], none⟩]
def g100_4 : List Am.Item := [
    ⟨(some 22), .val (.faddr 1 (.t 1)), none⟩,
    ⟨(some 23), .val (.load none (.t 22)), none⟩,
    ⟨(some 24), .val (.bin .num .eql (.t 23) (.c (.int .u64 0))), none⟩,
    ⟨(some 2), .val (.mov (.t 24)), none⟩]
def g100_5 : List Am.Item := [
    ⟨(some 25), .val (.faddr 2 (.t 1)), none⟩,
    ⟨(some 26), .val (.load none (.t 25)), none⟩,
    ⟨(some 27), .val (.bin .str .eql (.t 26) (.c (.str []))), none⟩,
    ⟨(some 2), .val (.mov (.t 27)), none⟩]
def r100 : RC := .seq (.reg g100_0) (.seq (.seq (.reg g100_1) (.cond (.t 18) (.seq (.reg g100_2) (.ret)) (.skip))) (.seq (.seq (.reg g100_3) (.cond (.t 21) (.seq (.reg g100_4) (.ret)) (.skip))) (.seq (.reg g100_5) (.ret))))
def o100 : List RR := [.tmp 2]
theorem k100 : chkC Tryz.prog 28 r100 (Tryz.f100.body.getD .skip) = true := by decide +kernel
theorem q100 : chkR Tryz.prog Tryz.f100.results.toList o100 = true := by decide +kernel

/- slices.swapRangeCmpFunc[wireschema/api.Raw] -/
def g103_0 : List Am.Item := [
    ⟨(some 10), .val (.mov (.c (.int .i64 0))), none⟩]
def g103_1 : List Am.Item := [
    ⟨(some 11), .val (.mov (.t 10)), none⟩,
    ⟨(some 12), .val (.mov (.t 3)), none⟩,
    ⟨(some 13), .val (.bin .num .lss (.t 11) (.t 12)), none⟩]
def g103_3 : List Am.Item := [
    ⟨(some 16), .val (.mov (.t 0)), none⟩,
    ⟨(some 17), .val (.mov (.t 1)), none⟩,
    ⟨(some 18), .val (.mov (.t 10)), none⟩,
    ⟨(some 19), .val (.bin .num .add (.t 17) (.t 18)), none⟩,
    ⟨(some 20), .val (.mov (.t 0)), none⟩,
    ⟨(some 21), .val (.mov (.t 2)), none⟩,
    ⟨(some 22), .val (.mov (.t 10)), none⟩,
    ⟨(some 23), .val (.bin .num .add (.t 21) (.t 22)), none⟩,
    ⟨(some 24), .val (.mov (.t 0)), none⟩,
    ⟨(some 25), .val (.mov (.t 2)), none⟩,
    ⟨(some 26), .val (.mov (.t 10)), none⟩,
    ⟨(some 27), .val (.bin .num .add (.t 25) (.t 26)), none⟩,
    ⟨(some 28), .val (.iaddr 4 none (.t 24) (.t 27)), none⟩,
    ⟨(some 29), .val (.loadr (some 4) (.t 28)), none⟩,
    ⟨(some 30), .val (.mov (.t 0)), none⟩,
    ⟨(some 31), .val (.mov (.t 1)), none⟩,
    ⟨(some 32), .val (.mov (.t 10)), none⟩,
    ⟨(some 33), .val (.bin .num .add (.t 31) (.t 32)), none⟩,
    ⟨(some 34), .val (.iaddr 4 none (.t 30) (.t 33)), none⟩,
    ⟨(some 35), .val (.loadr (some 4) (.t 34)), none⟩,
    ⟨(some 36), .val (.iaddr 4 none (.t 16) (.t 19)), none⟩,
    ⟨none, .store 4 (.t 36) (.t 29), none⟩,
    ⟨(some 37), .val (.iaddr 4 none (.t 20) (.t 23)), none⟩,
    ⟨none, .store 4 (.t 37) (.t 35), none⟩]
def g103_2 : List Am.Item := [
    ⟨(some 14), .val (.mov (.t 10)), none⟩,
    ⟨(some 15), .val (.bin .num .add (.t 14) (.c (.int .i64 1))), none⟩,
    ⟨(some 10), .val (.mov (.t 15)), none⟩]
def l103_0 : RC := .seq (.seq (.reg g103_1) (.cond (.t 13) (.skip) (.exit 0))) (.seq (.block 1 (.draw g103_3)) (.reg g103_2))
def r103 : RC := .seq (.reg g103_0) (.block 0 (.loop l103_0))
def o103 : List RR := []
theorem k103 : chkC Tryz.prog 38 r103 (Tryz.f103.body.getD .skip) = true := by decide +kernel
theorem q103 : chkR Tryz.prog Tryz.f103.results.toList o103 = true := by decide +kernel

/- wireschema/cursor.Enter -/
def g104_0 : List Am.Item := [
    ⟨(some 2), .boxN 2 (.t 0), none⟩,
    ⟨(some 4), .allocN 4 [.str [], .int .i64 0, .int .i64 0, .int .i64 0, .int .i64 0, .int .i64 0], none⟩,
    ⟨(some 5), .val (.mov (.c (.int .i64 0))), none⟩]
def g104_1 : List Am.Item := [
    ⟨(some 7), .val (.mov (.t 1)), none⟩,
    ⟨(some 8), .val (.bin .num .lss (.t 7) (.c (.int .i64 0))), none⟩,
    ⟨(some 6), .val (.mov (.t 8)), none⟩]
def g104_2 : List Am.Item := [
    ⟨(some 9), .val (.load (some 6) (.t 2)), none⟩,
    ⟨none, .store 6 (.t 4) (.t 9), none⟩,
    ⟨(some 5), .val (.mov (.c (.int .i64 1))), none⟩]
def g104_3 : List Am.Item := [
    ⟨(some 11), .val (.mov (.t 1)), none⟩,
    ⟨(some 12), .val (.load (some 6) (.t 2)), none⟩,
    ⟨(some 13), .call (.f 36) [(.t 12)], none⟩,
    ⟨(some 14), .val (.bin .num .gtr (.t 11) (.t 13)), none⟩,
    ⟨(some 10), .val (.mov (.t 14)), none⟩]
def g104_4 : List Am.Item := [
    ⟨(some 15), .val (.load (some 6) (.t 2)), none⟩,
    ⟨none, .store 6 (.t 4) (.t 15), none⟩,
    ⟨(some 5), .val (.mov (.c (.int .i64 4))), none⟩]
def g104_5 : List Am.Item := [
    ⟨(some 17), .val (.faddr 3 (.t 2)), none⟩,
    ⟨(some 18), .val (.load none (.t 17)), none⟩,
    ⟨(some 19), .val (.bin .num .lss (.t 18) (.c (.int .i64 1))), none⟩,
    ⟨(some 16), .val (.mov (.t 19)), none⟩]
def g104_6 : List Am.Item := [
    ⟨(some 20), .val (.load (some 6) (.t 2)), none⟩,
    ⟨none, .store 6 (.t 4) (.t 20), none⟩,
    ⟨(some 5), .val (.mov (.c (.int .i64 17))), none⟩]
def g104_7 : List Am.Item := [
    ⟨(some 21), .val (.faddr 1 (.t 2)), none⟩,
    ⟨(some 22), .val (.load none (.t 21)), none⟩,
    ⟨(some 23), .val (.mov (.t 1)), none⟩,
    ⟨(some 24), .val (.bin .num .add (.t 22) (.t 23)), none⟩,
    ⟨(some 25), .val (.faddr 2 (.t 2)), none⟩,
    ⟨none, .store 1 (.t 25) (.t 24), none⟩]
def g104_8 : List Am.Item := [
    ⟨(some 26), .val (.faddr 3 (.t 2)), none⟩,
    ⟨(some 27), .val (.load none (.t 26)), none⟩,
    ⟨(some 28), .val (.bin .num .sub (.t 27) (.c (.int .i64 1))), none⟩,
    ⟨(some 29), .val (.faddr 3 (.t 2)), none⟩,
    ⟨none, .store 1 (.t 29) (.t 28), none⟩]
def g104_9 : List Am.Item := [
    ⟨(some 30), .val (.load (some 6) (.t 2)), none⟩,
    ⟨none, .store 6 (.t 4) (.t 30), none⟩,
    ⟨(some 5), .val (.mov (.c (.int .i64 0))), none⟩]
def r104 : RC := .seq (.reg g104_0) (.seq (.block 0 (.seq (.reg g104_1) (.cond (.t 6) (.seq (.reg g104_2) (.ret)) (.seq (.reg g104_3) (.cond (.t 10) (.seq (.reg g104_4) (.ret)) (.seq (.reg g104_5) (.cond (.t 16) (.seq (.reg g104_6) (.ret)) (.skip)))))))) (.seq (.reg g104_7) (.seq (.reg g104_8) (.seq (.reg g104_9) (.ret)))))
def o104 : List RR := [.cell 4 (some 6), .tmp 5]
theorem k104 : chkC Tryz.prog 31 r104 (Tryz.f104.body.getD .skip) = true := by decide +kernel
theorem q104 : chkR Tryz.prog Tryz.f104.results.toList o104 = true := by decide +kernel

/- wireschema/cursor.Leave -/
def g105_0 : List Am.Item := [
    ⟨(some 2), .boxN 2 (.t 0), none⟩,
    ⟨(some 3), .boxN 3 (.t 1), none⟩,
    ⟨(some 4), .allocN 4 [.str [], .int .i64 0, .int .i64 0, .int .i64 0, .int .i64 0, .int .i64 0], none⟩]
def g105_1 : List Am.Item := [
    ⟨(some 5), .val (.load (some 6) (.t 2)), none⟩,
    ⟨(some 6), .call (.f 55) [(.t 5)], none⟩,
    ⟨(some 7), .val (.un .not (.t 6)), none⟩,
    ⟨(some 8), .val (.mov (.t 7)), none⟩,
    ⟨(some 9), .val (.faddr 2 (.t 3)), (some (8, false))⟩,
    ⟨(some 10), .val (.load none (.t 9)), (some (8, false))⟩,
    ⟨(some 11), .val (.faddr 1 (.t 2)), (some (8, false))⟩,
    ⟨(some 12), .val (.load none (.t 11)), (some (8, false))⟩,
    ⟨(some 13), .val (.bin .num .lss (.t 10) (.t 12)), (some (8, false))⟩,
    ⟨(some 14), .val (.pick (.t 8) (.c (.bool true)) (.t 13)), none⟩,
    ⟨(some 15), .val (.mov (.t 14)), none⟩,
    ⟨(some 16), .val (.faddr 2 (.t 3)), (some (15, false))⟩,
    ⟨(some 17), .val (.load none (.t 16)), (some (15, false))⟩,
    ⟨(some 18), .val (.faddr 2 (.t 2)), (some (15, false))⟩,
    ⟨(some 19), .val (.load none (.t 18)), (some (15, false))⟩,
    ⟨(some 20), .val (.bin .num .gtr (.t 17) (.t 19)), (some (15, false))⟩,
    ⟨(some 21), .val (.pick (.t 15) (.c (.bool true)) (.t 20)), none⟩,
    ⟨(some 22), .val (.mov (.t 21)), none⟩,
    ⟨(some 23), .val (.faddr 4 (.t 3)), (some (22, false))⟩,
    ⟨(some 24), .val (.load none (.t 23)), (some (22, false))⟩,
    ⟨(some 25), .val (.bin .num .lss (.t 24) (.c (.int .i64 0))), (some (22, false))⟩,
    ⟨(some 26), .val (.pick (.t 22) (.c (.bool true)) (.t 25)), none⟩,
    ⟨(some 27), .val (.mov (.t 26)), none⟩,
    ⟨(some 28), .val (.faddr 4 (.t 3)), (some (27, false))⟩,
    ⟨(some 29), .val (.load none (.t 28)), (some (27, false))⟩,
    ⟨(some 30), .val (.faddr 4 (.t 2)), (some (27, false))⟩,
    ⟨(some 31), .val (.load none (.t 30)), (some (27, false))⟩,
    ⟨(some 32), .val (.bin .num .gtr (.t 29) (.t 31)), (some (27, false))⟩,
    ⟨(some 33), .val (.pick (.t 27) (.c (.bool true)) (.t 32)), none⟩]
def g105_2 : List Am.Item := [
    ⟨(some 34), .val (.load (some 6) (.t 2)), none⟩,
    ⟨none, .store 6 (.t 4) (.t 34), none⟩]
def g105_3 : List Am.Item := [
    ⟨(some 35), .val (.faddr 2 (.t 3)), none⟩,
    ⟨(some 36), .val (.loadv 0 3 none (.t 35)), none⟩,
    ⟨(some 37), .val (.faddr 4 (.t 3)), none⟩,
    ⟨(some 38), .val (.loadv 0 3 none (.t 37)), none⟩,
    ⟨(some 39), .val (.faddr 1 (.t 2)), none⟩,
    ⟨none, .storev 0 2 1 (.t 39) (.t 36), none⟩,
    ⟨(some 40), .val (.faddr 4 (.t 2)), none⟩,
    ⟨none, .storev 0 2 1 (.t 40) (.t 38), none⟩]
def g105_4 : List Am.Item := [
    ⟨(some 41), .val (.load (some 6) (.t 2)), none⟩,
    ⟨none, .store 6 (.t 4) (.t 41), none⟩]
def r105 : RC := .seq (.reg g105_0) (.seq (.seq (.reg g105_1) (.cond (.t 33) (.seq (.reg g105_2) (.ret)) (.skip))) (.seq (.draw g105_3) (.seq (.reg g105_4) (.ret))))
def o105 : List RR := [.cell 4 (some 6)]
theorem k105 : chkC Tryz.prog 42 r105 (Tryz.f105.body.getD .skip) = true := by decide +kernel
theorem q105 : chkR Tryz.prog Tryz.f105.results.toList o105 = true := by decide +kernel

/- wireschema/cursor.Text -/
def g106_0 : List Am.Item := [
    ⟨(some 2), .boxN 2 (.t 0), none⟩,
    ⟨(some 4), .val (.mov (.c (.str []))), none⟩,
    ⟨(some 5), .allocN 5 [.str [], .int .i64 0, .int .i64 0, .int .i64 0, .int .i64 0, .int .i64 0], none⟩,
    ⟨(some 6), .val (.mov (.c (.int .i64 0))), none⟩]
def g106_1 : List Am.Item := [
    ⟨(some 8), .val (.mov (.t 1)), none⟩,
    ⟨(some 9), .val (.bin .num .lss (.t 8) (.c (.int .i64 0))), none⟩,
    ⟨(some 7), .val (.mov (.t 9)), none⟩]
def g106_2 : List Am.Item := [
    ⟨(some 10), .val (.loadv 0 2 (some 6) (.t 2)), none⟩,
    ⟨(some 4), .val (.mov (.c (.str []))), none⟩,
    ⟨none, .storev 0 5 6 (.t 5) (.t 10), none⟩,
    ⟨(some 6), .val (.mov (.c (.int .i64 1))), none⟩]
def g106_3 : List Am.Item := [
    ⟨(some 12), .val (.mov (.t 1)), none⟩,
    ⟨(some 13), .val (.load (some 6) (.t 2)), none⟩,
    ⟨(some 14), .call (.f 36) [(.t 13)], none⟩,
    ⟨(some 15), .val (.bin .num .gtr (.t 12) (.t 14)), none⟩,
    ⟨(some 11), .val (.mov (.t 15)), none⟩]
def g106_4 : List Am.Item := [
    ⟨(some 16), .val (.loadv 0 2 (some 6) (.t 2)), none⟩,
    ⟨(some 4), .val (.mov (.c (.str []))), none⟩,
    ⟨none, .storev 0 5 6 (.t 5) (.t 16), none⟩,
    ⟨(some 6), .val (.mov (.c (.int .i64 4))), none⟩]
def g106_5 : List Am.Item := [
    ⟨(some 18), .val (.mov (.t 1)), none⟩,
    ⟨(some 19), .val (.faddr 5 (.t 2)), none⟩,
    ⟨(some 20), .val (.load none (.t 19)), none⟩,
    ⟨(some 21), .val (.bin .num .gtr (.t 18) (.t 20)), none⟩,
    ⟨(some 17), .val (.mov (.t 21)), none⟩]
def g106_6 : List Am.Item := [
    ⟨(some 22), .val (.loadv 0 2 (some 6) (.t 2)), none⟩,
    ⟨(some 4), .val (.mov (.c (.str []))), none⟩,
    ⟨none, .storev 0 5 6 (.t 5) (.t 22), none⟩,
    ⟨(some 6), .val (.mov (.c (.int .i64 3))), none⟩]
def g106_7 : List Am.Item := [
    ⟨(some 23), .val (.mov (.t 1)), none⟩,
    ⟨(some 24), .val (.bin .num .eql (.t 23) (.c (.int .i64 0))), none⟩]
def g106_8 : List Am.Item := [
    ⟨(some 25), .val (.loadv 0 2 (some 6) (.t 2)), none⟩,
    ⟨(some 4), .val (.mov (.c (.str []))), none⟩,
    ⟨none, .storev 0 5 6 (.t 5) (.t 25), none⟩,
    ⟨(some 6), .val (.mov (.c (.int .i64 0))), none⟩]
def g106_9 : List Am.Item := [
    ⟨(some 26), .val (.loadv 0 2 (some 6) (.t 2)), none⟩,
    ⟨(some 27), .val (.mov (.t 1)), none⟩,
    ⟨(some 28), .call (.f 125) [(.t 26), (.t 27)], none⟩,
    ⟨(some 29), .val (.b2s (.t 28)), none⟩,
    ⟨(some 30), .val (.loadv 0 2 (some 6) (.t 2)), none⟩,
    ⟨(some 31), .val (.mov (.t 1)), none⟩,
    ⟨(some 32), .call (.f 78) [(.t 30), (.t 31)], none⟩,
    ⟨(some 4), .val (.mov (.t 29)), none⟩,
    ⟨none, .storev 0 5 6 (.t 5) (.t 32), none⟩,
    ⟨(some 6), .val (.mov (.c (.int .i64 0))), none⟩]
def r106 : RC := .seq (.reg g106_0) (.seq (.block 0 (.seq (.reg g106_1) (.cond (.t 7) (.seq (.draw g106_2) (.ret)) (.seq (.reg g106_3) (.cond (.t 11) (.seq (.draw g106_4) (.ret)) (.seq (.reg g106_5) (.cond (.t 17) (.seq (.draw g106_6) (.ret)) (.skip)))))))) (.seq (.seq (.reg g106_7) (.cond (.t 24) (.seq (.draw g106_8) (.ret)) (.skip))) (.seq (.draw g106_9) (.ret))))
def o106 : List RR := [.tmp 4, .cell 5 (some 6), .tmp 6]
theorem k106 : chkC Tryz.prog 33 r106 (Tryz.f106.body.getD .skip) = true := by decide +kernel
theorem q106 : chkR Tryz.prog Tryz.f106.results.toList o106 = true := by decide +kernel

/- wireschema/utf.Valid -/
def g107_0 : List Am.Item := [
    ⟨(some 2), .val (.mov (.c (.bool false))), none⟩]
def g107_1 : List Am.Item := [
    ⟨(some 3), .val (.mov (.t 0)), none⟩,
    ⟨(some 4), .call (.f 126) [(.t 3)], none⟩,
    ⟨(some 5), .val (.bin .num .lss (.t 4) (.c (.int .i64 0))), none⟩,
    ⟨(some 2), .val (.mov (.t 5)), none⟩]
def r107 : RC := .seq (.reg g107_0) (.seq (.reg g107_1) (.ret))
def o107 : List RR := [.tmp 2]
theorem k107 : chkC Tryz.prog 6 r107 (Tryz.f107.body.getD .skip) = true := by decide +kernel
theorem q107 : chkR Tryz.prog Tryz.f107.results.toList o107 = true := by decide +kernel

/- wireschema/varint.Zag -/
def g108_0 : List Am.Item := [
    ⟨(some 2), .val (.mov (.c (.int .i64 0))), none⟩]
def g108_1 : List Am.Item := [
    ⟨(some 3), .val (.mov (.t 0)), none⟩,
    ⟨(some 4), .val (.bin .num .shr (.t 3) (.c (.int .u64 1))), none⟩,
    ⟨(some 5), .val (.cvi .i64 (.t 4)), none⟩,
    ⟨(some 6), .val (.mov (.t 0)), none⟩,
    ⟨(some 7), .val (.bin .num .and (.t 6) (.c (.int .u64 1))), none⟩,
    ⟨(some 8), .val (.cvi .i64 (.t 7)), none⟩,
    ⟨(some 9), .val (.un .neg (.t 8)), none⟩,
    ⟨(some 10), .val (.bin .num .xor (.t 5) (.t 9)), none⟩,
    ⟨(some 2), .val (.mov (.t 10)), none⟩]
def r108 : RC := .seq (.reg g108_0) (.seq (.reg g108_1) (.ret))
def o108 : List RR := [.tmp 2]
theorem k108 : chkC Tryz.prog 11 r108 (Tryz.f108.body.getD .skip) = true := by decide +kernel
theorem q108 : chkR Tryz.prog Tryz.f108.results.toList o108 = true := by decide +kernel

/- wireschema/scalar.Fits -/
def g109_0 : List Am.Item := [
    ⟨(some 3), .boxN 3 (.t 1), none⟩,
    ⟨(some 4), .val (.mov (.c (.bool false))), none⟩]
def g109_1 : List Am.Item := [
    ⟨(some 5), .val (.mov (.t 0)), none⟩,
    ⟨(some 6), .call (.f 99) [(.t 5)], none⟩,
    ⟨(some 7), .val (.un .not (.t 6)), none⟩,
    ⟨(some 8), .val (.mov (.t 7)), none⟩,
    ⟨(some 9), .val (.faddr 0 (.t 3)), (some (8, false))⟩,
    ⟨(some 10), .val (.load none (.t 9)), (some (8, false))⟩,
    ⟨(some 11), .val (.mov (.t 0)), (some (8, false))⟩,
    ⟨(some 12), .val (.bin .num .neq (.t 10) (.t 11)), (some (8, false))⟩,
    ⟨(some 13), .val (.pick (.t 8) (.c (.bool true)) (.t 12)), none⟩,
    ⟨(some 14), .val (.mov (.t 13)), none⟩,
    ⟨(some 15), .val (.load (some 7) (.t 3)), (some (14, false))⟩,
    ⟨(some 16), .call (.f 100) [(.t 15)], (some (14, false))⟩,
    ⟨(some 17), .val (.un .not (.t 16)), (some (14, false))⟩,
    ⟨(some 18), .val (.pick (.t 14) (.c (.bool true)) (.t 17)), none⟩,
    ⟨(some 19), .val (.mov (.t 18)), none⟩,
    ⟨(some 20), .val (.mov (.t 0)), (some (19, false))⟩,
    ⟨(some 21), .val (.faddr 1 (.t 3)), (some (19, false))⟩,
    ⟨(some 22), .val (.load none (.t 21)), (some (19, false))⟩,
    ⟨(some 23), .call (.f 127) [(.t 20), (.t 22)], (some (19, false))⟩,
    ⟨(some 24), .val (.un .not (.t 23)), (some (19, false))⟩,
    ⟨(some 25), .val (.pick (.t 19) (.c (.bool true)) (.t 24)), none⟩,
    ⟨(some 26), .val (.mov (.t 25)), none⟩,
    ⟨(some 27), .val (.faddr 2 (.t 3)), (some (26, false))⟩,
    ⟨(some 28), .val (.load none (.t 27)), (some (26, false))⟩,
    ⟨(some 29), .val (.len 0 (.t 28)), (some (26, false))⟩,
    ⟨(some 30), .val (.bin .num .gtr (.t 29) (.c (.int .i64 4096))), (some (26, false))⟩,
    ⟨(some 31), .val (.pick (.t 26) (.c (.bool true)) (.t 30)), none⟩]
def g109_2 : List Am.Item := [
    ⟨(some 4), .val (.mov (.c (.bool false))), none⟩]
def g109_3 : List Am.Item := [
    ⟨(some 32), .val (.mov (.t 0)), none⟩,
    ⟨(some 33), .val (.bin .num .neq (.t 32) (.c (.int .i64 7))), none⟩,
    ⟨(some 34), .val (.mov (.t 33)), none⟩,
    ⟨(some 35), .val (.faddr 2 (.t 3)), (some (34, false))⟩,
    ⟨(some 36), .val (.load none (.t 35)), (some (34, false))⟩,
    ⟨(some 37), .call (.f 107) [(.t 36)], (some (34, false))⟩,
    ⟨(some 38), .val (.pick (.t 34) (.c (.bool true)) (.t 37)), none⟩,
    ⟨(some 4), .val (.mov (.t 38)), none⟩]
def r109 : RC := .seq (.reg g109_0) (.seq (.seq (.reg g109_1) (.cond (.t 31) (.seq (.reg g109_2) (.ret)) (.skip))) (.seq (.reg g109_3) (.ret)))
def o109 : List RR := [.tmp 4]
theorem k109 : chkC Tryz.prog 39 r109 (Tryz.f109.body.getD .skip) = true := by decide +kernel
theorem q109 : chkR Tryz.prog Tryz.f109.results.toList o109 = true := by decide +kernel

/- wireschema/plan.Accepts -/
def g110_0 : List Am.Item := [
    ⟨(some 3), .boxN 3 (.t 0), none⟩,
    ⟨(some 5), .boxN 5 (.t 2), none⟩,
    ⟨(some 6), .val (.mov (.c (.bool false))), none⟩]
def g110_1 : List Am.Item := [
    ⟨(some 8), .val (.mov (.t 1)), none⟩,
    ⟨(some 9), .val (.bin .num .lss (.t 8) (.c (.int .i64 0))), none⟩,
    ⟨(some 10), .val (.mov (.t 9)), none⟩,
    ⟨(some 11), .val (.mov (.t 1)), (some (10, false))⟩,
    ⟨(some 12), .val (.faddr 1 (.t 3)), (some (10, false))⟩,
    ⟨(some 13), .val (.load none (.t 12)), (some (10, false))⟩,
    ⟨(some 14), .val (.len 1 (.t 13)), (some (10, false))⟩,
    ⟨(some 15), .val (.bin .num .geq (.t 11) (.t 14)), (some (10, false))⟩,
    ⟨(some 16), .val (.pick (.t 10) (.c (.bool true)) (.t 15)), none⟩,
    ⟨(some 17), .val (.mov (.t 16)), none⟩,
    ⟨(some 18), .val (.load none (.t 5)), (some (17, false))⟩,
    ⟨(some 19), .val (.bin .num .gtr (.t 18) (.c (.int .u64 2147483647))), (some (17, false))⟩,
    ⟨(some 20), .val (.pick (.t 17) (.c (.bool true)) (.t 19)), none⟩]
def g110_2 : List Am.Item := [
    ⟨(some 6), .val (.mov (.c (.bool false))), none⟩]
def g110_3 : List Am.Item := [
    ⟨(some 21), .val (.faddr 1 (.t 3)), none⟩,
    ⟨(some 22), .val (.load none (.t 21)), none⟩,
    ⟨(some 23), .val (.mov (.t 1)), none⟩,
    ⟨(some 24), .val (.iaddr 5 none (.t 22) (.t 23)), none⟩,
    ⟨(some 25), .val (.load (some 5) (.t 24)), none⟩,
    ⟨(some 7), .allocN 7 [.str [], .bool false, .nils, .nils, .nils], none⟩,
    ⟨none, .store 5 (.t 7) (.t 25), none⟩]
def g110_4 : List Am.Item := [
    ⟨(some 26), .val (.faddr 1 (.t 7)), none⟩,
    ⟨(some 27), .val (.load none (.t 26)), none⟩,
    ⟨(some 28), .val (.mov (.t 27)), none⟩,
    ⟨(some 29), .val (.faddr 2 (.t 7)), (some (28, false))⟩,
    ⟨(some 30), .val (.load none (.t 29)), (some (28, false))⟩,
    ⟨(some 31), .val (.mkfn (.func 129) [] [(.t 5)]), (some (28, false))⟩,
    ⟨(some 32), .callF (.f 128) [(.t 30), (.t 31)], (some (28, false))⟩,
    ⟨(some 33), .val (.pick (.t 28) (.c (.bool true)) (.t 32)), none⟩,
    ⟨(some 6), .val (.mov (.t 33)), none⟩]
def r110 : RC := .seq (.reg g110_0) (.seq (.seq (.reg g110_1) (.cond (.t 20) (.seq (.reg g110_2) (.ret)) (.skip))) (.seq (.reg g110_3) (.seq (.reg g110_4) (.ret))))
def o110 : List RR := [.tmp 6]
theorem k110 : chkC Tryz.prog 34 r110 (Tryz.f110.body.getD .skip) = true := by decide +kernel
theorem q110 : chkR Tryz.prog Tryz.f110.results.toList o110 = true := by decide +kernel

/- slices.insertionSortCmpFunc[wireschema/api.Slot] -/
def g111_0 : List Am.Item := [
    ⟨(some 10), .val (.mov (.t 1)), none⟩,
    ⟨(some 11), .val (.bin .num .add (.t 10) (.c (.int .i64 1))), none⟩,
    ⟨(some 8), .val (.mov (.t 11)), none⟩]
def g111_1 : List Am.Item := [
    ⟨(some 12), .val (.mov (.t 8)), none⟩,
    ⟨(some 13), .val (.mov (.t 2)), none⟩,
    ⟨(some 14), .val (.bin .num .lss (.t 12) (.t 13)), none⟩]
def g111_3 : List Am.Item := [
    ⟨(some 17), .val (.mov (.t 8)), none⟩,
    ⟨(some 9), .val (.mov (.t 17)), none⟩]
def g111_4 : List Am.Item := [
    ⟨(some 18), .val (.mov (.t 9)), none⟩,
    ⟨(some 19), .val (.mov (.t 1)), none⟩,
    ⟨(some 20), .val (.bin .num .gtr (.t 18) (.t 19)), none⟩,
    ⟨(some 21), .val (.mov (.t 20)), none⟩,
    ⟨(some 22), .val (.mov (.t 3)), (some (21, true))⟩,
    ⟨(some 23), .val (.mov (.t 0)), (some (21, true))⟩,
    ⟨(some 24), .val (.mov (.t 9)), (some (21, true))⟩,
    ⟨(some 25), .val (.iaddr 8 none (.t 23) (.t 24)), (some (21, true))⟩,
    ⟨(some 26), .val (.loadr (some 8) (.t 25)), (some (21, true))⟩,
    ⟨(some 27), .val (.mov (.t 0)), (some (21, true))⟩,
    ⟨(some 28), .val (.mov (.t 9)), (some (21, true))⟩,
    ⟨(some 29), .val (.bin .num .sub (.t 28) (.c (.int .i64 1))), (some (21, true))⟩,
    ⟨(some 30), .val (.iaddr 8 none (.t 27) (.t 29)), (some (21, true))⟩,
    ⟨(some 31), .val (.loadr (some 8) (.t 30)), (some (21, true))⟩,
    ⟨(some 32), .call (.t 22) [(.t 26), (.t 31)], (some (21, true))⟩,
    ⟨(some 33), .val (.bin .num .lss (.t 32) (.c (.int .i64 0))), (some (21, true))⟩,
    ⟨(some 34), .val (.pick (.t 21) (.t 33) (.c (.bool false))), none⟩]
def g111_6 : List Am.Item := [
    ⟨(some 37), .val (.mov (.t 0)), none⟩,
    ⟨(some 38), .val (.mov (.t 9)), none⟩,
    ⟨(some 39), .val (.mov (.t 0)), none⟩,
    ⟨(some 40), .val (.mov (.t 9)), none⟩,
    ⟨(some 41), .val (.bin .num .sub (.t 40) (.c (.int .i64 1))), none⟩,
    ⟨(some 42), .val (.mov (.t 0)), none⟩,
    ⟨(some 43), .val (.mov (.t 9)), none⟩,
    ⟨(some 44), .val (.bin .num .sub (.t 43) (.c (.int .i64 1))), none⟩,
    ⟨(some 45), .val (.iaddr 8 none (.t 42) (.t 44)), none⟩,
    ⟨(some 46), .val (.loadr (some 8) (.t 45)), none⟩,
    ⟨(some 47), .val (.mov (.t 0)), none⟩,
    ⟨(some 48), .val (.mov (.t 9)), none⟩,
    ⟨(some 49), .val (.iaddr 8 none (.t 47) (.t 48)), none⟩,
    ⟨(some 50), .val (.loadr (some 8) (.t 49)), none⟩,
    ⟨(some 51), .val (.iaddr 8 none (.t 37) (.t 38)), none⟩,
    ⟨none, .store 8 (.t 51) (.t 46), none⟩,
    ⟨(some 52), .val (.iaddr 8 none (.t 39) (.t 41)), none⟩,
    ⟨none, .store 8 (.t 52) (.t 50), none⟩]
def g111_5 : List Am.Item := [
    ⟨(some 35), .val (.mov (.t 9)), none⟩,
    ⟨(some 36), .val (.bin .num .sub (.t 35) (.c (.int .i64 1))), none⟩,
    ⟨(some 9), .val (.mov (.t 36)), none⟩]
def l111_0 : RC := .seq (.seq (.draw g111_4) (.cond (.t 34) (.skip) (.exit 2))) (.seq (.block 3 (.draw g111_6)) (.reg g111_5))
def g111_2 : List Am.Item := [
    ⟨(some 15), .val (.mov (.t 8)), none⟩,
    ⟨(some 16), .val (.bin .num .add (.t 15) (.c (.int .i64 1))), none⟩,
    ⟨(some 8), .val (.mov (.t 16)), none⟩]
def l111_1 : RC := .seq (.seq (.reg g111_1) (.cond (.t 14) (.skip) (.exit 0))) (.seq (.block 1 (.seq (.reg g111_3) (.block 2 (.loop l111_0)))) (.reg g111_2))
def r111 : RC := .seq (.reg g111_0) (.block 0 (.loop l111_1))
def o111 : List RR := []
theorem k111 : chkC Tryz.prog 53 r111 (Tryz.f111.body.getD .skip) = true := by decide +kernel
theorem q111 : chkR Tryz.prog Tryz.f111.results.toList o111 = true := by decide +kernel

/- slices.symMergeCmpFunc[wireschema/api.Slot] -/
def g112_0 : List Am.Item := [
    ⟨(some 25), .val (.mov (.t 2)), none⟩,
    ⟨(some 26), .val (.mov (.t 1)), none⟩,
    ⟨(some 27), .val (.bin .num .sub (.t 25) (.t 26)), none⟩,
    ⟨(some 28), .val (.bin .num .eql (.t 27) (.c (.int .i64 1))), none⟩]
def g112_1 : List Am.Item := [
    ⟨(some 29), .val (.mov (.t 2)), none⟩,
    ⟨(some 10), .val (.mov (.t 29)), none⟩]
def g112_2 : List Am.Item := [
    ⟨(some 30), .val (.mov (.t 3)), none⟩,
    ⟨(some 11), .val (.mov (.t 30)), none⟩]
def g112_3 : List Am.Item := [
    ⟨(some 31), .val (.mov (.t 10)), none⟩,
    ⟨(some 32), .val (.mov (.t 11)), none⟩,
    ⟨(some 33), .val (.bin .num .lss (.t 31) (.t 32)), none⟩]
def g112_4 : List Am.Item := [
    ⟨(some 34), .val (.mov (.t 10)), none⟩,
    ⟨(some 35), .val (.mov (.t 11)), none⟩,
    ⟨(some 36), .val (.bin .num .add (.t 34) (.t 35)), none⟩,
    ⟨(some 37), .val (.cvi .u64 (.t 36)), none⟩,
    ⟨(some 38), .val (.bin .num .shr (.t 37) (.c (.int .u64 1))), none⟩,
    ⟨(some 39), .val (.cvi .i64 (.t 38)), none⟩,
    ⟨(some 12), .val (.mov (.t 39)), none⟩]
def g112_5 : List Am.Item := [
    ⟨(some 40), .val (.mov (.t 4)), none⟩,
    ⟨(some 41), .val (.mov (.t 0)), none⟩,
    ⟨(some 42), .val (.mov (.t 12)), none⟩,
    ⟨(some 43), .val (.iaddr 8 none (.t 41) (.t 42)), none⟩,
    ⟨(some 44), .val (.loadr (some 8) (.t 43)), none⟩,
    ⟨(some 45), .val (.mov (.t 0)), none⟩,
    ⟨(some 46), .val (.mov (.t 1)), none⟩,
    ⟨(some 47), .val (.iaddr 8 none (.t 45) (.t 46)), none⟩,
    ⟨(some 48), .val (.loadr (some 8) (.t 47)), none⟩,
    ⟨(some 49), .call (.t 40) [(.t 44), (.t 48)], none⟩,
    ⟨(some 50), .val (.bin .num .lss (.t 49) (.c (.int .i64 0))), none⟩]
def g112_6 : List Am.Item := [
    ⟨(some 51), .val (.mov (.t 12)), none⟩,
    ⟨(some 52), .val (.bin .num .add (.t 51) (.c (.int .i64 1))), none⟩,
    ⟨(some 10), .val (.mov (.t 52)), none⟩]
def g112_7 : List Am.Item := [
    ⟨(some 53), .val (.mov (.t 12)), none⟩,
    ⟨(some 11), .val (.mov (.t 53)), none⟩]
def l112_0 : RC := .seq (.seq (.reg g112_3) (.cond (.t 33) (.skip) (.exit 0))) (.block 1 (.seq (.reg g112_4) (.seq (.draw g112_5) (.cond (.t 50) (.reg g112_6) (.reg g112_7)))))
def g112_8 : List Am.Item := [
    ⟨(some 54), .val (.mov (.t 1)), none⟩,
    ⟨(some 13), .val (.mov (.t 54)), none⟩]
def g112_9 : List Am.Item := [
    ⟨(some 55), .val (.mov (.t 13)), none⟩,
    ⟨(some 56), .val (.mov (.t 10)), none⟩,
    ⟨(some 57), .val (.bin .num .sub (.t 56) (.c (.int .i64 1))), none⟩,
    ⟨(some 58), .val (.bin .num .lss (.t 55) (.t 57)), none⟩]
def g112_11 : List Am.Item := [
    ⟨(some 61), .val (.mov (.t 0)), none⟩,
    ⟨(some 62), .val (.mov (.t 13)), none⟩,
    ⟨(some 63), .val (.mov (.t 0)), none⟩,
    ⟨(some 64), .val (.mov (.t 13)), none⟩,
    ⟨(some 65), .val (.bin .num .add (.t 64) (.c (.int .i64 1))), none⟩,
    ⟨(some 66), .val (.mov (.t 0)), none⟩,
    ⟨(some 67), .val (.mov (.t 13)), none⟩,
    ⟨(some 68), .val (.bin .num .add (.t 67) (.c (.int .i64 1))), none⟩,
    ⟨(some 69), .val (.iaddr 8 none (.t 66) (.t 68)), none⟩,
    ⟨(some 70), .val (.loadr (some 8) (.t 69)), none⟩,
    ⟨(some 71), .val (.mov (.t 0)), none⟩,
    ⟨(some 72), .val (.mov (.t 13)), none⟩,
    ⟨(some 73), .val (.iaddr 8 none (.t 71) (.t 72)), none⟩,
    ⟨(some 74), .val (.loadr (some 8) (.t 73)), none⟩,
    ⟨(some 75), .val (.iaddr 8 none (.t 61) (.t 62)), none⟩,
    ⟨none, .store 8 (.t 75) (.t 70), none⟩,
    ⟨(some 76), .val (.iaddr 8 none (.t 63) (.t 65)), none⟩,
    ⟨none, .store 8 (.t 76) (.t 74), none⟩]
def g112_10 : List Am.Item := [
    ⟨(some 59), .val (.mov (.t 13)), none⟩,
    ⟨(some 60), .val (.bin .num .add (.t 59) (.c (.int .i64 1))), none⟩,
    ⟨(some 13), .val (.mov (.t 60)), none⟩]
def l112_1 : RC := .seq (.seq (.reg g112_9) (.cond (.t 58) (.skip) (.exit 2))) (.seq (.block 3 (.draw g112_11)) (.reg g112_10))
def g112_12 : List Am.Item := [
    ⟨(some 77), .val (.mov (.t 3)), none⟩,
    ⟨(some 78), .val (.mov (.t 2)), none⟩,
    ⟨(some 79), .val (.bin .num .sub (.t 77) (.t 78)), none⟩,
    ⟨(some 80), .val (.bin .num .eql (.t 79) (.c (.int .i64 1))), none⟩]
def g112_13 : List Am.Item := [
    ⟨(some 81), .val (.mov (.t 1)), none⟩,
    ⟨(some 14), .val (.mov (.t 81)), none⟩]
def g112_14 : List Am.Item := [
    ⟨(some 82), .val (.mov (.t 2)), none⟩,
    ⟨(some 15), .val (.mov (.t 82)), none⟩]
def g112_15 : List Am.Item := [
    ⟨(some 83), .val (.mov (.t 14)), none⟩,
    ⟨(some 84), .val (.mov (.t 15)), none⟩,
    ⟨(some 85), .val (.bin .num .lss (.t 83) (.t 84)), none⟩]
def g112_16 : List Am.Item := [
    ⟨(some 86), .val (.mov (.t 14)), none⟩,
    ⟨(some 87), .val (.mov (.t 15)), none⟩,
    ⟨(some 88), .val (.bin .num .add (.t 86) (.t 87)), none⟩,
    ⟨(some 89), .val (.cvi .u64 (.t 88)), none⟩,
    ⟨(some 90), .val (.bin .num .shr (.t 89) (.c (.int .u64 1))), none⟩,
    ⟨(some 91), .val (.cvi .i64 (.t 90)), none⟩,
    ⟨(some 16), .val (.mov (.t 91)), none⟩]
def g112_17 : List Am.Item := [
    ⟨(some 92), .val (.mov (.t 4)), none⟩,
    ⟨(some 93), .val (.mov (.t 0)), none⟩,
    ⟨(some 94), .val (.mov (.t 2)), none⟩,
    ⟨(some 95), .val (.iaddr 8 none (.t 93) (.t 94)), none⟩,
    ⟨(some 96), .val (.loadr (some 8) (.t 95)), none⟩,
    ⟨(some 97), .val (.mov (.t 0)), none⟩,
    ⟨(some 98), .val (.mov (.t 16)), none⟩,
    ⟨(some 99), .val (.iaddr 8 none (.t 97) (.t 98)), none⟩,
    ⟨(some 100), .val (.loadr (some 8) (.t 99)), none⟩,
    ⟨(some 101), .call (.t 92) [(.t 96), (.t 100)], none⟩,
    ⟨(some 102), .val (.bin .num .lss (.t 101) (.c (.int .i64 0))), none⟩,
    ⟨(some 103), .val (.un .not (.t 102)), none⟩]
def g112_18 : List Am.Item := [
    ⟨(some 104), .val (.mov (.t 16)), none⟩,
    ⟨(some 105), .val (.bin .num .add (.t 104) (.c (.int .i64 1))), none⟩,
    ⟨(some 14), .val (.mov (.t 105)), none⟩]
def g112_19 : List Am.Item := [
    ⟨(some 106), .val (.mov (.t 16)), none⟩,
    ⟨(some 15), .val (.mov (.t 106)), none⟩]
def l112_2 : RC := .seq (.seq (.reg g112_15) (.cond (.t 85) (.skip) (.exit 4))) (.block 5 (.seq (.reg g112_16) (.seq (.draw g112_17) (.cond (.t 103) (.reg g112_18) (.reg g112_19)))))
def g112_20 : List Am.Item := [
    ⟨(some 107), .val (.mov (.t 2)), none⟩,
    ⟨(some 17), .val (.mov (.t 107)), none⟩]
def g112_21 : List Am.Item := [
    ⟨(some 108), .val (.mov (.t 17)), none⟩,
    ⟨(some 109), .val (.mov (.t 14)), none⟩,
    ⟨(some 110), .val (.bin .num .gtr (.t 108) (.t 109)), none⟩]
def g112_23 : List Am.Item := [
    ⟨(some 113), .val (.mov (.t 0)), none⟩,
    ⟨(some 114), .val (.mov (.t 17)), none⟩,
    ⟨(some 115), .val (.mov (.t 0)), none⟩,
    ⟨(some 116), .val (.mov (.t 17)), none⟩,
    ⟨(some 117), .val (.bin .num .sub (.t 116) (.c (.int .i64 1))), none⟩,
    ⟨(some 118), .val (.mov (.t 0)), none⟩,
    ⟨(some 119), .val (.mov (.t 17)), none⟩,
    ⟨(some 120), .val (.bin .num .sub (.t 119) (.c (.int .i64 1))), none⟩,
    ⟨(some 121), .val (.iaddr 8 none (.t 118) (.t 120)), none⟩,
    ⟨(some 122), .val (.loadr (some 8) (.t 121)), none⟩,
    ⟨(some 123), .val (.mov (.t 0)), none⟩,
    ⟨(some 124), .val (.mov (.t 17)), none⟩,
    ⟨(some 125), .val (.iaddr 8 none (.t 123) (.t 124)), none⟩,
    ⟨(some 126), .val (.loadr (some 8) (.t 125)), none⟩,
    ⟨(some 127), .val (.iaddr 8 none (.t 113) (.t 114)), none⟩,
    ⟨none, .store 8 (.t 127) (.t 122), none⟩,
    ⟨(some 128), .val (.iaddr 8 none (.t 115) (.t 117)), none⟩,
    ⟨none, .store 8 (.t 128) (.t 126), none⟩]
def g112_22 : List Am.Item := [
    ⟨(some 111), .val (.mov (.t 17)), none⟩,
    ⟨(some 112), .val (.bin .num .sub (.t 111) (.c (.int .i64 1))), none⟩,
    ⟨(some 17), .val (.mov (.t 112)), none⟩]
def l112_3 : RC := .seq (.seq (.reg g112_21) (.cond (.t 110) (.skip) (.exit 6))) (.seq (.block 7 (.draw g112_23)) (.reg g112_22))
def g112_24 : List Am.Item := [
    ⟨(some 129), .val (.mov (.t 1)), none⟩,
    ⟨(some 130), .val (.mov (.t 3)), none⟩,
    ⟨(some 131), .val (.bin .num .add (.t 129) (.t 130)), none⟩,
    ⟨(some 132), .val (.cvi .u64 (.t 131)), none⟩,
    ⟨(some 133), .val (.bin .num .shr (.t 132) (.c (.int .u64 1))), none⟩,
    ⟨(some 134), .val (.cvi .i64 (.t 133)), none⟩,
    ⟨(some 18), .val (.mov (.t 134)), none⟩]
def g112_25 : List Am.Item := [
    ⟨(some 135), .val (.mov (.t 18)), none⟩,
    ⟨(some 136), .val (.mov (.t 2)), none⟩,
    ⟨(some 137), .val (.bin .num .add (.t 135) (.t 136)), none⟩,
    ⟨(some 19), .val (.mov (.t 137)), none⟩]
def g112_26 : List Am.Item := [
    ⟨(some 20), .val (.mov (.c (.int .i64 0))), none⟩,
    ⟨(some 21), .val (.mov (.c (.int .i64 0))), none⟩]
def g112_27 : List Am.Item := [
    ⟨(some 138), .val (.mov (.t 2)), none⟩,
    ⟨(some 139), .val (.mov (.t 18)), none⟩,
    ⟨(some 140), .val (.bin .num .gtr (.t 138) (.t 139)), none⟩]
def g112_28 : List Am.Item := [
    ⟨(some 141), .val (.mov (.t 19)), none⟩,
    ⟨(some 142), .val (.mov (.t 3)), none⟩,
    ⟨(some 143), .val (.bin .num .sub (.t 141) (.t 142)), none⟩,
    ⟨(some 20), .val (.mov (.t 143)), none⟩]
def g112_29 : List Am.Item := [
    ⟨(some 144), .val (.mov (.t 18)), none⟩,
    ⟨(some 21), .val (.mov (.t 144)), none⟩]
def g112_30 : List Am.Item := [
    ⟨(some 145), .val (.mov (.t 1)), none⟩,
    ⟨(some 20), .val (.mov (.t 145)), none⟩]
def g112_31 : List Am.Item := [
    ⟨(some 146), .val (.mov (.t 2)), none⟩,
    ⟨(some 21), .val (.mov (.t 146)), none⟩]
def g112_32 : List Am.Item := [
    ⟨(some 147), .val (.mov (.t 19)), none⟩,
    ⟨(some 148), .val (.bin .num .sub (.t 147) (.c (.int .i64 1))), none⟩,
    ⟨(some 22), .val (.mov (.t 148)), none⟩]
def g112_33 : List Am.Item := [
    ⟨(some 149), .val (.mov (.t 20)), none⟩,
    ⟨(some 150), .val (.mov (.t 21)), none⟩,
    ⟨(some 151), .val (.bin .num .lss (.t 149) (.t 150)), none⟩]
def g112_34 : List Am.Item := [
    ⟨(some 152), .val (.mov (.t 20)), none⟩,
    ⟨(some 153), .val (.mov (.t 21)), none⟩,
    ⟨(some 154), .val (.bin .num .add (.t 152) (.t 153)), none⟩,
    ⟨(some 155), .val (.cvi .u64 (.t 154)), none⟩,
    ⟨(some 156), .val (.bin .num .shr (.t 155) (.c (.int .u64 1))), none⟩,
    ⟨(some 157), .val (.cvi .i64 (.t 156)), none⟩,
    ⟨(some 23), .val (.mov (.t 157)), none⟩]
def g112_35 : List Am.Item := [
    ⟨(some 158), .val (.mov (.t 4)), none⟩,
    ⟨(some 159), .val (.mov (.t 0)), none⟩,
    ⟨(some 160), .val (.mov (.t 22)), none⟩,
    ⟨(some 161), .val (.mov (.t 23)), none⟩,
    ⟨(some 162), .val (.bin .num .sub (.t 160) (.t 161)), none⟩,
    ⟨(some 163), .val (.iaddr 8 none (.t 159) (.t 162)), none⟩,
    ⟨(some 164), .val (.loadr (some 8) (.t 163)), none⟩,
    ⟨(some 165), .val (.mov (.t 0)), none⟩,
    ⟨(some 166), .val (.mov (.t 23)), none⟩,
    ⟨(some 167), .val (.iaddr 8 none (.t 165) (.t 166)), none⟩,
    ⟨(some 168), .val (.loadr (some 8) (.t 167)), none⟩,
    ⟨(some 169), .call (.t 158) [(.t 164), (.t 168)], none⟩,
    ⟨(some 170), .val (.bin .num .lss (.t 169) (.c (.int .i64 0))), none⟩,
    ⟨(some 171), .val (.un .not (.t 170)), none⟩]
def g112_36 : List Am.Item := [
    ⟨(some 172), .val (.mov (.t 23)), none⟩,
    ⟨(some 173), .val (.bin .num .add (.t 172) (.c (.int .i64 1))), none⟩,
    ⟨(some 20), .val (.mov (.t 173)), none⟩]
def g112_37 : List Am.Item := [
    ⟨(some 174), .val (.mov (.t 23)), none⟩,
    ⟨(some 21), .val (.mov (.t 174)), none⟩]
def l112_4 : RC := .seq (.seq (.reg g112_33) (.cond (.t 151) (.skip) (.exit 8))) (.block 9 (.seq (.reg g112_34) (.seq (.draw g112_35) (.cond (.t 171) (.reg g112_36) (.reg g112_37)))))
def g112_38 : List Am.Item := [
    ⟨(some 175), .val (.mov (.t 19)), none⟩,
    ⟨(some 176), .val (.mov (.t 20)), none⟩,
    ⟨(some 177), .val (.bin .num .sub (.t 175) (.t 176)), none⟩,
    ⟨(some 24), .val (.mov (.t 177)), none⟩]
def g112_39 : List Am.Item := [
    ⟨(some 178), .val (.mov (.t 20)), none⟩,
    ⟨(some 179), .val (.mov (.t 2)), none⟩,
    ⟨(some 180), .val (.bin .num .lss (.t 178) (.t 179)), none⟩,
    ⟨(some 181), .val (.mov (.t 180)), none⟩,
    ⟨(some 182), .val (.mov (.t 2)), (some (181, true))⟩,
    ⟨(some 183), .val (.mov (.t 24)), (some (181, true))⟩,
    ⟨(some 184), .val (.bin .num .lss (.t 182) (.t 183)), (some (181, true))⟩,
    ⟨(some 185), .val (.pick (.t 181) (.t 184) (.c (.bool false))), none⟩]
def g112_40 : List Am.Item := [
    ⟨(some 186), .val (.mov (.t 0)), none⟩,
    ⟨(some 187), .val (.mov (.t 20)), none⟩,
    ⟨(some 188), .val (.mov (.t 2)), none⟩,
    ⟨(some 189), .val (.mov (.t 24)), none⟩,
    ⟨(some 190), .val (.mov (.t 4)), none⟩,
    ⟨(some 191), .callF (.f 130) [(.t 186), (.t 187), (.t 188), (.t 189), (.t 190)], none⟩]
def g112_41 : List Am.Item := [
    ⟨(some 192), .val (.mov (.t 1)), none⟩,
    ⟨(some 193), .val (.mov (.t 20)), none⟩,
    ⟨(some 194), .val (.bin .num .lss (.t 192) (.t 193)), none⟩,
    ⟨(some 195), .val (.mov (.t 194)), none⟩,
    ⟨(some 196), .val (.mov (.t 20)), (some (195, true))⟩,
    ⟨(some 197), .val (.mov (.t 18)), (some (195, true))⟩,
    ⟨(some 198), .val (.bin .num .lss (.t 196) (.t 197)), (some (195, true))⟩,
    ⟨(some 199), .val (.pick (.t 195) (.t 198) (.c (.bool false))), none⟩]
def g112_42 : List Am.Item := [
    ⟨(some 200), .val (.mov (.t 0)), none⟩,
    ⟨(some 201), .val (.mov (.t 1)), none⟩,
    ⟨(some 202), .val (.mov (.t 20)), none⟩,
    ⟨(some 203), .val (.mov (.t 18)), none⟩,
    ⟨(some 204), .val (.mov (.t 4)), none⟩,
    ⟨(some 205), .callF (.f 112) [(.t 200), (.t 201), (.t 202), (.t 203), (.t 204)], none⟩]
def g112_43 : List Am.Item := [
    ⟨(some 206), .val (.mov (.t 18)), none⟩,
    ⟨(some 207), .val (.mov (.t 24)), none⟩,
    ⟨(some 208), .val (.bin .num .lss (.t 206) (.t 207)), none⟩,
    ⟨(some 209), .val (.mov (.t 208)), none⟩,
    ⟨(some 210), .val (.mov (.t 24)), (some (209, true))⟩,
    ⟨(some 211), .val (.mov (.t 3)), (some (209, true))⟩,
    ⟨(some 212), .val (.bin .num .lss (.t 210) (.t 211)), (some (209, true))⟩,
    ⟨(some 213), .val (.pick (.t 209) (.t 212) (.c (.bool false))), none⟩]
def g112_44 : List Am.Item := [
    ⟨(some 214), .val (.mov (.t 0)), none⟩,
    ⟨(some 215), .val (.mov (.t 18)), none⟩,
    ⟨(some 216), .val (.mov (.t 24)), none⟩,
    ⟨(some 217), .val (.mov (.t 3)), none⟩,
    ⟨(some 218), .val (.mov (.t 4)), none⟩,
    ⟨(some 219), .callF (.f 112) [(.t 214), (.t 215), (.t 216), (.t 217), (.t 218)], none⟩]
def r112 : RC := .seq (.seq (.reg g112_0) (.cond (.t 28) (.seq (.reg g112_1) (.seq (.reg g112_2) (.seq (.block 0 (.loop l112_0)) (.seq (.seq (.reg g112_8) (.block 2 (.loop l112_1))) (.ret))))) (.skip))) (.seq (.seq (.reg g112_12) (.cond (.t 80) (.seq (.reg g112_13) (.seq (.reg g112_14) (.seq (.block 4 (.loop l112_2)) (.seq (.seq (.reg g112_20) (.block 6 (.loop l112_3))) (.ret))))) (.skip))) (.seq (.reg g112_24) (.seq (.reg g112_25) (.seq (.reg g112_26) (.seq (.seq (.reg g112_27) (.cond (.t 140) (.seq (.reg g112_28) (.reg g112_29)) (.seq (.reg g112_30) (.reg g112_31)))) (.seq (.reg g112_32) (.seq (.block 8 (.loop l112_4)) (.seq (.reg g112_38) (.seq (.seq (.reg g112_39) (.cond (.t 185) (.reg g112_40) (.skip))) (.seq (.seq (.reg g112_41) (.cond (.t 199) (.reg g112_42) (.skip))) (.seq (.reg g112_43) (.cond (.t 213) (.reg g112_44) (.skip)))))))))))))
def o112 : List RR := []
theorem k112 : chkC Tryz.prog 220 r112 (Tryz.f112.body.getD .skip) = true := by decide +kernel
theorem q112 : chkR Tryz.prog Tryz.f112.results.toList o112 = true := by decide +kernel

/- slices.stableCmpFunc[wireschema/api.Pair] -/
def g113_0 : List Am.Item := [
    ⟨(some 6), .val (.mov (.c (.int .i64 20))), none⟩]
def g113_1 : List Am.Item := [
    ⟨(some 10), .val (.mov (.t 6)), none⟩,
    ⟨(some 7), .val (.mov (.c (.int .i64 0))), none⟩,
    ⟨(some 8), .val (.mov (.t 10)), none⟩]
def g113_2 : List Am.Item := [
    ⟨(some 11), .val (.mov (.t 8)), none⟩,
    ⟨(some 12), .val (.mov (.t 1)), none⟩,
    ⟨(some 13), .val (.bin .num .leq (.t 11) (.t 12)), none⟩]
def g113_3 : List Am.Item := [
    ⟨(some 14), .val (.mov (.t 0)), none⟩,
    ⟨(some 15), .val (.mov (.t 7)), none⟩,
    ⟨(some 16), .val (.mov (.t 8)), none⟩,
    ⟨(some 17), .val (.mov (.t 2)), none⟩,
    ⟨(some 18), .callF (.f 131) [(.t 14), (.t 15), (.t 16), (.t 17)], none⟩]
def g113_4 : List Am.Item := [
    ⟨(some 19), .val (.mov (.t 8)), none⟩,
    ⟨(some 7), .val (.mov (.t 19)), none⟩]
def g113_5 : List Am.Item := [
    ⟨(some 20), .val (.mov (.t 8)), none⟩,
    ⟨(some 21), .val (.mov (.t 6)), none⟩,
    ⟨(some 22), .val (.bin .num .add (.t 20) (.t 21)), none⟩,
    ⟨(some 8), .val (.mov (.t 22)), none⟩]
def l113_0 : RC := .seq (.seq (.reg g113_2) (.cond (.t 13) (.skip) (.exit 0))) (.block 1 (.seq (.reg g113_3) (.seq (.reg g113_4) (.reg g113_5))))
def g113_6 : List Am.Item := [
    ⟨(some 23), .val (.mov (.t 0)), none⟩,
    ⟨(some 24), .val (.mov (.t 7)), none⟩,
    ⟨(some 25), .val (.mov (.t 1)), none⟩,
    ⟨(some 26), .val (.mov (.t 2)), none⟩,
    ⟨(some 27), .callF (.f 131) [(.t 23), (.t 24), (.t 25), (.t 26)], none⟩]
def g113_7 : List Am.Item := [
    ⟨(some 28), .val (.mov (.t 6)), none⟩,
    ⟨(some 29), .val (.mov (.t 1)), none⟩,
    ⟨(some 30), .val (.bin .num .lss (.t 28) (.t 29)), none⟩]
def g113_8 : List Am.Item := [
    ⟨(some 31), .val (.mov (.t 6)), none⟩,
    ⟨(some 32), .val (.bin .num .mul (.c (.int .i64 2)) (.t 31)), none⟩,
    ⟨(some 7), .val (.mov (.c (.int .i64 0))), none⟩,
    ⟨(some 8), .val (.mov (.t 32)), none⟩]
def g113_9 : List Am.Item := [
    ⟨(some 33), .val (.mov (.t 8)), none⟩,
    ⟨(some 34), .val (.mov (.t 1)), none⟩,
    ⟨(some 35), .val (.bin .num .leq (.t 33) (.t 34)), none⟩]
def g113_10 : List Am.Item := [
    ⟨(some 36), .val (.mov (.t 0)), none⟩,
    ⟨(some 37), .val (.mov (.t 7)), none⟩,
    ⟨(some 38), .val (.mov (.t 7)), none⟩,
    ⟨(some 39), .val (.mov (.t 6)), none⟩,
    ⟨(some 40), .val (.bin .num .add (.t 38) (.t 39)), none⟩,
    ⟨(some 41), .val (.mov (.t 8)), none⟩,
    ⟨(some 42), .val (.mov (.t 2)), none⟩,
    ⟨(some 43), .callF (.f 132) [(.t 36), (.t 37), (.t 40), (.t 41), (.t 42)], none⟩]
def g113_11 : List Am.Item := [
    ⟨(some 44), .val (.mov (.t 8)), none⟩,
    ⟨(some 7), .val (.mov (.t 44)), none⟩]
def g113_12 : List Am.Item := [
    ⟨(some 45), .val (.mov (.t 8)), none⟩,
    ⟨(some 46), .val (.mov (.t 6)), none⟩,
    ⟨(some 47), .val (.bin .num .mul (.c (.int .i64 2)) (.t 46)), none⟩,
    ⟨(some 48), .val (.bin .num .add (.t 45) (.t 47)), none⟩,
    ⟨(some 8), .val (.mov (.t 48)), none⟩]
def l113_1 : RC := .seq (.seq (.reg g113_9) (.cond (.t 35) (.skip) (.exit 4))) (.block 5 (.seq (.reg g113_10) (.seq (.reg g113_11) (.reg g113_12))))
def g113_13 : List Am.Item := [
    ⟨(some 49), .val (.mov (.t 7)), none⟩,
    ⟨(some 50), .val (.mov (.t 6)), none⟩,
    ⟨(some 51), .val (.bin .num .add (.t 49) (.t 50)), none⟩,
    ⟨(some 9), .val (.mov (.t 51)), none⟩]
def g113_14 : List Am.Item := [
    ⟨(some 52), .val (.mov (.t 9)), none⟩,
    ⟨(some 53), .val (.mov (.t 1)), none⟩,
    ⟨(some 54), .val (.bin .num .lss (.t 52) (.t 53)), none⟩]
def g113_15 : List Am.Item := [
    ⟨(some 55), .val (.mov (.t 0)), none⟩,
    ⟨(some 56), .val (.mov (.t 7)), none⟩,
    ⟨(some 57), .val (.mov (.t 9)), none⟩,
    ⟨(some 58), .val (.mov (.t 1)), none⟩,
    ⟨(some 59), .val (.mov (.t 2)), none⟩,
    ⟨(some 60), .callF (.f 132) [(.t 55), (.t 56), (.t 57), (.t 58), (.t 59)], none⟩]
def g113_16 : List Am.Item := [
    ⟨(some 61), .val (.mov (.t 6)), none⟩,
    ⟨(some 62), .val (.bin .num .mul (.t 61) (.c (.int .i64 2))), none⟩,
    ⟨(some 6), .val (.mov (.t 62)), none⟩]
def l113_2 : RC := .seq (.seq (.reg g113_7) (.cond (.t 30) (.skip) (.exit 2))) (.block 3 (.seq (.reg g113_8) (.seq (.block 4 (.loop l113_1)) (.seq (.seq (.reg g113_13) (.seq (.reg g113_14) (.cond (.t 54) (.reg g113_15) (.skip)))) (.reg g113_16)))))
def r113 : RC := .seq (.reg g113_0) (.seq (.reg g113_1) (.seq (.block 0 (.loop l113_0)) (.seq (.reg g113_6) (.block 2 (.loop l113_2)))))
def o113 : List RR := []
theorem k113 : chkC Tryz.prog 63 r113 (Tryz.f113.body.getD .skip) = true := by decide +kernel
theorem q113 : chkR Tryz.prog Tryz.f113.results.toList o113 = true := by decide +kernel

/- wireschema/scalar.Cmp -/
def g115_0 : List Am.Item := [
    ⟨(some 2), .boxN 2 (.t 0), none⟩,
    ⟨(some 3), .boxN 3 (.t 1), none⟩,
    ⟨(some 4), .val (.mov (.c (.int .i64 0))), none⟩]
def g115_1 : List Am.Item := [
    ⟨(some 6), .val (.faddr 0 (.t 2)), none⟩,
    ⟨(some 7), .val (.load none (.t 6)), none⟩,
    ⟨(some 8), .val (.faddr 0 (.t 3)), none⟩,
    ⟨(some 9), .val (.load none (.t 8)), none⟩,
    ⟨(some 10), .val (.bin .num .neq (.t 7) (.t 9)), none⟩,
    ⟨(some 5), .val (.mov (.t 10)), none⟩]
def g115_2 : List Am.Item := [
    ⟨(some 11), .val (.faddr 0 (.t 2)), none⟩,
    ⟨(some 12), .val (.load none (.t 11)), none⟩,
    ⟨(some 13), .val (.faddr 0 (.t 3)), none⟩,
    ⟨(some 14), .val (.load none (.t 13)), none⟩,
    ⟨(some 15), .call (.f 20) [(.t 12), (.t 14)], none⟩,
    ⟨(some 4), .val (.mov (.t 15)), none⟩]
def g115_3 : List Am.Item := [
    ⟨(some 17), .val (.faddr 0 (.t 2)), none⟩,
    ⟨(some 18), .val (.load none (.t 17)), none⟩,
    ⟨(some 19), .call (.f 99) [(.t 18)], none⟩,
    ⟨(some 20), .val (.un .not (.t 19)), none⟩,
    ⟨(some 16), .val (.mov (.t 20)), none⟩]
def g115_4 : List Am.Item := [
    ⟨(some 4), .val (.mov (.c (.int .i64 0))), none⟩]
def g115_5 : List Am.Item := [
    ⟨(some 22), .val (.faddr 0 (.t 2)), none⟩,
    ⟨(some 23), .val (.load none (.t 22)), none⟩,
    ⟨(some 24), .call (.f 124) [(.t 23)], none⟩,
    ⟨(some 21), .val (.mov (.t 24)), none⟩]
def g115_6 : List Am.Item := [
    ⟨(some 25), .val (.faddr 2 (.t 2)), none⟩,
    ⟨(some 26), .val (.load none (.t 25)), none⟩,
    ⟨(some 27), .val (.faddr 2 (.t 3)), none⟩,
    ⟨(some 28), .val (.load none (.t 27)), none⟩,
    ⟨(some 29), .call (.f 133) [(.t 26), (.t 28)], none⟩,
    ⟨(some 4), .val (.mov (.t 29)), none⟩]
def g115_7 : List Am.Item := [
    ⟨(some 31), .val (.faddr 0 (.t 2)), none⟩,
    ⟨(some 32), .val (.load none (.t 31)), none⟩,
    ⟨(some 33), .val (.bin .num .eql (.t 32) (.c (.int .i64 2))), none⟩,
    ⟨(some 34), .val (.mov (.t 33)), none⟩,
    ⟨(some 35), .val (.faddr 0 (.t 2)), (some (34, false))⟩,
    ⟨(some 36), .val (.load none (.t 35)), (some (34, false))⟩,
    ⟨(some 37), .val (.bin .num .eql (.t 36) (.c (.int .i64 3))), (some (34, false))⟩,
    ⟨(some 38), .val (.pick (.t 34) (.c (.bool true)) (.t 37)), none⟩,
    ⟨(some 30), .val (.mov (.t 38)), none⟩]
def g115_8 : List Am.Item := [
    ⟨(some 39), .val (.faddr 1 (.t 2)), none⟩,
    ⟨(some 40), .val (.load none (.t 39)), none⟩,
    ⟨(some 41), .val (.cvi .i64 (.t 40)), none⟩,
    ⟨(some 42), .val (.faddr 1 (.t 3)), none⟩,
    ⟨(some 43), .val (.load none (.t 42)), none⟩,
    ⟨(some 44), .val (.cvi .i64 (.t 43)), none⟩,
    ⟨(some 45), .call (.f 20) [(.t 41), (.t 44)], none⟩,
    ⟨(some 4), .val (.mov (.t 45)), none⟩]
def g115_9 : List Am.Item := [
    ⟨(some 47), .val (.faddr 0 (.t 2)), none⟩,
    ⟨(some 48), .val (.load none (.t 47)), none⟩,
    ⟨(some 49), .val (.bin .num .eql (.t 48) (.c (.int .i64 6))), none⟩,
    ⟨(some 46), .val (.mov (.t 49)), none⟩]
def g115_10 : List Am.Item := [
    ⟨(some 50), .val (.faddr 1 (.t 2)), none⟩,
    ⟨(some 51), .val (.loadv 0 2 none (.t 50)), none⟩,
    ⟨(some 52), .call (.f 135) [(.t 51)], none⟩,
    ⟨(some 53), .val (.faddr 1 (.t 3)), none⟩,
    ⟨(some 54), .val (.loadv 0 3 none (.t 53)), none⟩,
    ⟨(some 55), .call (.f 135) [(.t 54)], none⟩,
    ⟨(some 56), .call (.f 134) [(.t 52), (.t 55)], none⟩,
    ⟨(some 4), .val (.mov (.t 56)), none⟩]
def g115_11 : List Am.Item := [
    ⟨(some 57), .val (.faddr 1 (.t 2)), none⟩,
    ⟨(some 58), .val (.load none (.t 57)), none⟩,
    ⟨(some 59), .val (.faddr 1 (.t 3)), none⟩,
    ⟨(some 60), .val (.load none (.t 59)), none⟩,
    ⟨(some 61), .call (.f 134) [(.t 58), (.t 60)], none⟩,
    ⟨(some 4), .val (.mov (.t 61)), none⟩]
def r115 : RC := .seq (.reg g115_0) (.seq (.block 0 (.seq (.reg g115_1) (.cond (.t 5) (.seq (.reg g115_2) (.ret)) (.seq (.reg g115_3) (.cond (.t 16) (.seq (.reg g115_4) (.ret)) (.seq (.reg g115_5) (.cond (.t 21) (.seq (.reg g115_6) (.ret)) (.seq (.reg g115_7) (.cond (.t 30) (.seq (.reg g115_8) (.ret)) (.seq (.reg g115_9) (.cond (.t 46) (.seq (.draw g115_10) (.ret)) (.skip)))))))))))) (.seq (.reg g115_11) (.ret)))
def o115 : List RR := [.tmp 4]
theorem k115 : chkC Tryz.prog 62 r115 (Tryz.f115.body.getD .skip) = true := by decide +kernel
theorem q115 : chkR Tryz.prog Tryz.f115.results.toList o115 = true := by decide +kernel

/- slices.CompareFunc[wireschema/order.list,wireschema/order.list,wireschema/api.Value,wireschema/api.Value] -/
def g116_0 : List Am.Item := [
    ⟨(some 6), .val (.mov (.c (.int .i64 0))), none⟩]
def g116_1 : List Am.Item := [
    ⟨(some 11), .val (.mov (.t 0)), none⟩,
    ⟨(some 12), .val (.len 1 (.t 11)), none⟩,
    ⟨(some 13), .val (.mov (.c (.int .i64 0))), none⟩]
def g116_2 : List Am.Item := [
    ⟨(some 14), .val (.bin .num .lss (.t 13) (.t 12)), none⟩]
def g116_3 : List Am.Item := [
    ⟨(some 15), .val (.mov (.t 13)), none⟩,
    ⟨(some 16), .val (.iaddr 7 none (.t 11) (.t 13)), none⟩,
    ⟨(some 17), .val (.load (some 7) (.t 16)), none⟩,
    ⟨(some 8), .allocN 8 [.int .i64 0, .int .u64 0, .str [], .nils, .nils, .nils, .nils], none⟩,
    ⟨(some 7), .val (.mov (.t 15)), none⟩,
    ⟨none, .store 7 (.t 8) (.t 17), none⟩]
def g116_4 : List Am.Item := [
    ⟨(some 18), .val (.mov (.t 7)), none⟩,
    ⟨(some 19), .val (.mov (.t 1)), none⟩,
    ⟨(some 20), .val (.len 1 (.t 19)), none⟩,
    ⟨(some 21), .val (.bin .num .geq (.t 18) (.t 20)), none⟩]
def g116_5 : List Am.Item := [
    ⟨(some 6), .val (.mov (.c (.int .i64 1))), none⟩]
def g116_6 : List Am.Item := [
    ⟨(some 22), .val (.mov (.t 1)), none⟩,
    ⟨(some 23), .val (.mov (.t 7)), none⟩,
    ⟨(some 24), .val (.iaddr 7 none (.t 22) (.t 23)), none⟩,
    ⟨(some 25), .val (.load (some 7) (.t 24)), none⟩,
    ⟨(some 9), .allocN 9 [.int .i64 0, .int .u64 0, .str [], .nils, .nils, .nils, .nils], none⟩,
    ⟨none, .store 7 (.t 9) (.t 25), none⟩]
def g116_7 : List Am.Item := [
    ⟨(some 26), .val (.mov (.t 2)), none⟩,
    ⟨(some 27), .val (.load (some 7) (.t 8)), none⟩,
    ⟨(some 28), .val (.load (some 7) (.t 9)), none⟩,
    ⟨(some 29), .callF (.t 26) [(.t 27), (.t 28)], none⟩,
    ⟨(some 10), .val (.mov (.t 29)), none⟩]
def g116_8 : List Am.Item := [
    ⟨(some 30), .val (.mov (.t 10)), none⟩,
    ⟨(some 31), .val (.bin .num .neq (.t 30) (.c (.int .i64 0))), none⟩]
def g116_9 : List Am.Item := [
    ⟨(some 32), .val (.mov (.t 10)), none⟩,
    ⟨(some 6), .val (.mov (.t 32)), none⟩]
def g116_10 : List Am.Item := [
    ⟨(some 33), .val (.bin .num .add (.t 13) (.c (.int .i64 1))), none⟩,
    ⟨(some 13), .val (.mov (.t 33)), none⟩]
def l116_0 : RC := .gho (.drop 9) (.gho (.drop 8) (.seq (.reg g116_2) (.seq (.cond (.t 14) (.skip) (.exit 0)) (.seq (.block 1 (.seq (.reg g116_3) (.seq (.seq (.reg g116_4) (.cond (.t 21) (.seq (.reg g116_5) (.ret)) (.skip))) (.seq (.reg g116_6) (.seq (.reg g116_7) (.seq (.reg g116_8) (.cond (.t 31) (.seq (.reg g116_9) (.ret)) (.skip)))))))) (.reg g116_10)))))
def g116_11 : List Am.Item := [
    ⟨(some 34), .val (.mov (.t 0)), none⟩,
    ⟨(some 35), .val (.len 1 (.t 34)), none⟩,
    ⟨(some 36), .val (.mov (.t 1)), none⟩,
    ⟨(some 37), .val (.len 1 (.t 36)), none⟩,
    ⟨(some 38), .val (.bin .num .lss (.t 35) (.t 37)), none⟩]
def g116_12 : List Am.Item := [
    ⟨(some 6), .val (.mov (.c (.int .i64 (-1)))), none⟩]
def g116_13 : List Am.Item := [
    ⟨(some 6), .val (.mov (.c (.int .i64 0))), none⟩]
def r116 : RC := .seq (.reg g116_0) (.seq (.seq (.reg g116_1) (.block 0 (.loop l116_0))) (.seq (.seq (.reg g116_11) (.cond (.t 38) (.seq (.reg g116_12) (.ret)) (.skip))) (.seq (.reg g116_13) (.ret))))
def o116 : List RR := [.tmp 6]
theorem k116 : chkC Tryz.prog 39 r116 (Tryz.f116.body.getD .skip) = true := by decide +kernel
theorem q116 : chkR Tryz.prog Tryz.f116.results.toList o116 = true := by decide +kernel

/- slices.CompareFunc[wireschema/order.pairs,wireschema/order.pairs,wireschema/api.Pair,wireschema/api.Pair] -/
def g117_0 : List Am.Item := [
    ⟨(some 6), .val (.mov (.c (.int .i64 0))), none⟩]
def g117_1 : List Am.Item := [
    ⟨(some 11), .val (.mov (.t 0)), none⟩,
    ⟨(some 12), .val (.len 1 (.t 11)), none⟩,
    ⟨(some 13), .val (.mov (.c (.int .i64 0))), none⟩]
def g117_2 : List Am.Item := [
    ⟨(some 14), .val (.bin .num .lss (.t 13) (.t 12)), none⟩]
def g117_3 : List Am.Item := [
    ⟨(some 15), .val (.mov (.t 13)), none⟩,
    ⟨(some 16), .val (.iaddr 14 none (.t 11) (.t 13)), none⟩,
    ⟨(some 17), .val (.load (some 14) (.t 16)), none⟩,
    ⟨(some 8), .allocN 8 [.int .i64 0, .int .u64 0, .str [], .nils, .nils, .nils, .nils, .int .i64 0, .int .u64 0, .str [], .nils, .nils, .nils, .nils], none⟩,
    ⟨(some 7), .val (.mov (.t 15)), none⟩,
    ⟨none, .store 14 (.t 8) (.t 17), none⟩]
def g117_4 : List Am.Item := [
    ⟨(some 18), .val (.mov (.t 7)), none⟩,
    ⟨(some 19), .val (.mov (.t 1)), none⟩,
    ⟨(some 20), .val (.len 1 (.t 19)), none⟩,
    ⟨(some 21), .val (.bin .num .geq (.t 18) (.t 20)), none⟩]
def g117_5 : List Am.Item := [
    ⟨(some 6), .val (.mov (.c (.int .i64 1))), none⟩]
def g117_6 : List Am.Item := [
    ⟨(some 22), .val (.mov (.t 1)), none⟩,
    ⟨(some 23), .val (.mov (.t 7)), none⟩,
    ⟨(some 24), .val (.iaddr 14 none (.t 22) (.t 23)), none⟩,
    ⟨(some 25), .val (.load (some 14) (.t 24)), none⟩,
    ⟨(some 9), .allocN 9 [.int .i64 0, .int .u64 0, .str [], .nils, .nils, .nils, .nils, .int .i64 0, .int .u64 0, .str [], .nils, .nils, .nils, .nils], none⟩,
    ⟨none, .store 14 (.t 9) (.t 25), none⟩]
def g117_7 : List Am.Item := [
    ⟨(some 26), .val (.mov (.t 2)), none⟩,
    ⟨(some 27), .val (.load (some 14) (.t 8)), none⟩,
    ⟨(some 28), .val (.load (some 14) (.t 9)), none⟩,
    ⟨(some 29), .callF (.t 26) [(.t 27), (.t 28)], none⟩,
    ⟨(some 10), .val (.mov (.t 29)), none⟩]
def g117_8 : List Am.Item := [
    ⟨(some 30), .val (.mov (.t 10)), none⟩,
    ⟨(some 31), .val (.bin .num .neq (.t 30) (.c (.int .i64 0))), none⟩]
def g117_9 : List Am.Item := [
    ⟨(some 32), .val (.mov (.t 10)), none⟩,
    ⟨(some 6), .val (.mov (.t 32)), none⟩]
def g117_10 : List Am.Item := [
    ⟨(some 33), .val (.bin .num .add (.t 13) (.c (.int .i64 1))), none⟩,
    ⟨(some 13), .val (.mov (.t 33)), none⟩]
def l117_0 : RC := .gho (.drop 9) (.gho (.drop 8) (.seq (.reg g117_2) (.seq (.cond (.t 14) (.skip) (.exit 0)) (.seq (.block 1 (.seq (.reg g117_3) (.seq (.seq (.reg g117_4) (.cond (.t 21) (.seq (.reg g117_5) (.ret)) (.skip))) (.seq (.reg g117_6) (.seq (.reg g117_7) (.seq (.reg g117_8) (.cond (.t 31) (.seq (.reg g117_9) (.ret)) (.skip)))))))) (.reg g117_10)))))
def g117_11 : List Am.Item := [
    ⟨(some 34), .val (.mov (.t 0)), none⟩,
    ⟨(some 35), .val (.len 1 (.t 34)), none⟩,
    ⟨(some 36), .val (.mov (.t 1)), none⟩,
    ⟨(some 37), .val (.len 1 (.t 36)), none⟩,
    ⟨(some 38), .val (.bin .num .lss (.t 35) (.t 37)), none⟩]
def g117_12 : List Am.Item := [
    ⟨(some 6), .val (.mov (.c (.int .i64 (-1)))), none⟩]
def g117_13 : List Am.Item := [
    ⟨(some 6), .val (.mov (.c (.int .i64 0))), none⟩]
def r117 : RC := .seq (.reg g117_0) (.seq (.seq (.reg g117_1) (.block 0 (.loop l117_0))) (.seq (.seq (.reg g117_11) (.cond (.t 38) (.seq (.reg g117_12) (.ret)) (.skip))) (.seq (.reg g117_13) (.ret))))
def o117 : List RR := [.tmp 6]
theorem k117 : chkC Tryz.prog 39 r117 (Tryz.f117.body.getD .skip) = true := by decide +kernel
theorem q117 : chkR Tryz.prog Tryz.f117.results.toList o117 = true := by decide +kernel

/- wireschema/order.cmpPair -/
def g118_0 : List Am.Item := [
    ⟨(some 2), .boxN 2 (.t 0), none⟩,
    ⟨(some 3), .boxN 3 (.t 1), none⟩,
    ⟨(some 4), .val (.mov (.c (.int .i64 0))), none⟩]
def g118_1 : List Am.Item := [
    ⟨(some 5), .val (.faddr 0 (.t 2)), none⟩,
    ⟨(some 6), .val (.loadv 0 2 (some 7) (.t 5)), none⟩,
    ⟨(some 7), .val (.faddr 0 (.t 3)), none⟩,
    ⟨(some 8), .val (.loadv 0 3 (some 7) (.t 7)), none⟩,
    ⟨(some 9), .call (.f 96) [(.t 6), (.t 8)], none⟩,
    ⟨(some 10), .val (.faddr 7 (.t 2)), none⟩,
    ⟨(some 11), .val (.loadv 0 2 (some 7) (.t 10)), none⟩,
    ⟨(some 12), .val (.faddr 7 (.t 3)), none⟩,
    ⟨(some 13), .val (.loadv 0 3 (some 7) (.t 12)), none⟩,
    ⟨(some 14), .call (.f 96) [(.t 11), (.t 13)], none⟩,
    ⟨(some 15), .bsl 1 2 [.int .i64 0] [(0, 1, (.t 9)), (1, 1, (.t 14))], none⟩,
    ⟨(some 16), .call (.f 119) [(.t 15)], none⟩,
    ⟨(some 4), .val (.mov (.t 16)), none⟩]
def r118 : RC := .seq (.reg g118_0) (.seq (.draw g118_1) (.ret))
def o118 : List RR := [.tmp 4]
theorem k118 : chkC Tryz.prog 17 r118 (Tryz.f118.body.getD .skip) = true := by decide +kernel
theorem q118 : chkR Tryz.prog Tryz.f118.results.toList o118 = true := by decide +kernel

/- cmp.Or[int] -/
def g119_0 : List Am.Item := [
    ⟨(some 2), .val (.mov (.c (.int .i64 0))), none⟩]
def g119_1 : List Am.Item := [
    ⟨(some 3), .val (.mov (.c (.int .i64 0))), none⟩]
def g119_2 : List Am.Item := [
    ⟨(some 6), .val (.mov (.t 0)), none⟩,
    ⟨(some 7), .val (.len 1 (.t 6)), none⟩,
    ⟨(some 8), .val (.mov (.c (.int .i64 0))), none⟩]
def g119_3 : List Am.Item := [
    ⟨(some 9), .val (.bin .num .lss (.t 8) (.t 7)), none⟩]
def g119_4 : List Am.Item := [
    ⟨(some 10), .val (.iaddr 1 none (.t 6) (.t 8)), none⟩,
    ⟨(some 11), .val (.load none (.t 10)), none⟩,
    ⟨(some 5), .val (.mov (.t 11)), none⟩]
def g119_5 : List Am.Item := [
    ⟨(some 12), .val (.mov (.t 5)), none⟩,
    ⟨(some 13), .val (.mov (.t 3)), none⟩,
    ⟨(some 14), .val (.bin .num .neq (.t 12) (.t 13)), none⟩]
def g119_6 : List Am.Item := [
    ⟨(some 15), .val (.mov (.t 5)), none⟩,
    ⟨(some 2), .val (.mov (.t 15)), none⟩]
def g119_7 : List Am.Item := [
    ⟨(some 16), .val (.bin .num .add (.t 8) (.c (.int .i64 1))), none⟩,
    ⟨(some 8), .val (.mov (.t 16)), none⟩]
def l119_0 : RC := .seq (.reg g119_3) (.seq (.cond (.t 9) (.skip) (.exit 0)) (.seq (.block 1 (.seq (.reg g119_4) (.seq (.reg g119_5) (.cond (.t 14) (.seq (.reg g119_6) (.ret)) (.skip))))) (.reg g119_7)))
def g119_8 : List Am.Item := [
    ⟨(some 17), .val (.mov (.t 3)), none⟩,
    ⟨(some 2), .val (.mov (.t 17)), none⟩]
def r119 : RC := .seq (.reg g119_0) (.seq (.reg g119_1) (.seq (.seq (.reg g119_2) (.block 0 (.loop l119_0))) (.seq (.reg g119_8) (.ret))))
def o119 : List RR := [.tmp 2]
theorem k119 : chkC Tryz.prog 18 r119 (Tryz.f119.body.getD .skip) = true := by decide +kernel
theorem q119 : chkR Tryz.prog Tryz.f119.results.toList o119 = true := by decide +kernel

/- slices.CompareFunc[[]wireschema/api.Slot,[]wireschema/api.Slot,wireschema/api.Slot,wireschema/api.Slot] -/
def g120_0 : List Am.Item := [
    ⟨(some 6), .val (.mov (.c (.int .i64 0))), none⟩]
def g120_1 : List Am.Item := [
    ⟨(some 11), .val (.mov (.t 0)), none⟩,
    ⟨(some 12), .val (.len 1 (.t 11)), none⟩,
    ⟨(some 13), .val (.mov (.c (.int .i64 0))), none⟩]
def g120_2 : List Am.Item := [
    ⟨(some 14), .val (.bin .num .lss (.t 13) (.t 12)), none⟩]
def g120_3 : List Am.Item := [
    ⟨(some 15), .val (.mov (.t 13)), none⟩,
    ⟨(some 16), .val (.iaddr 8 none (.t 11) (.t 13)), none⟩,
    ⟨(some 17), .val (.load (some 8) (.t 16)), none⟩,
    ⟨(some 8), .allocN 8 [.int .i64 0, .int .i64 0, .int .u64 0, .str [], .nils, .nils, .nils, .nils], none⟩,
    ⟨(some 7), .val (.mov (.t 15)), none⟩,
    ⟨none, .store 8 (.t 8) (.t 17), none⟩]
def g120_4 : List Am.Item := [
    ⟨(some 18), .val (.mov (.t 7)), none⟩,
    ⟨(some 19), .val (.mov (.t 1)), none⟩,
    ⟨(some 20), .val (.len 1 (.t 19)), none⟩,
    ⟨(some 21), .val (.bin .num .geq (.t 18) (.t 20)), none⟩]
def g120_5 : List Am.Item := [
    ⟨(some 6), .val (.mov (.c (.int .i64 1))), none⟩]
def g120_6 : List Am.Item := [
    ⟨(some 22), .val (.mov (.t 1)), none⟩,
    ⟨(some 23), .val (.mov (.t 7)), none⟩,
    ⟨(some 24), .val (.iaddr 8 none (.t 22) (.t 23)), none⟩,
    ⟨(some 25), .val (.load (some 8) (.t 24)), none⟩,
    ⟨(some 9), .allocN 9 [.int .i64 0, .int .i64 0, .int .u64 0, .str [], .nils, .nils, .nils, .nils], none⟩,
    ⟨none, .store 8 (.t 9) (.t 25), none⟩]
def g120_7 : List Am.Item := [
    ⟨(some 26), .val (.mov (.t 2)), none⟩,
    ⟨(some 27), .val (.load (some 8) (.t 8)), none⟩,
    ⟨(some 28), .val (.load (some 8) (.t 9)), none⟩,
    ⟨(some 29), .callF (.t 26) [(.t 27), (.t 28)], none⟩,
    ⟨(some 10), .val (.mov (.t 29)), none⟩]
def g120_8 : List Am.Item := [
    ⟨(some 30), .val (.mov (.t 10)), none⟩,
    ⟨(some 31), .val (.bin .num .neq (.t 30) (.c (.int .i64 0))), none⟩]
def g120_9 : List Am.Item := [
    ⟨(some 32), .val (.mov (.t 10)), none⟩,
    ⟨(some 6), .val (.mov (.t 32)), none⟩]
def g120_10 : List Am.Item := [
    ⟨(some 33), .val (.bin .num .add (.t 13) (.c (.int .i64 1))), none⟩,
    ⟨(some 13), .val (.mov (.t 33)), none⟩]
def l120_0 : RC := .gho (.drop 9) (.gho (.drop 8) (.seq (.reg g120_2) (.seq (.cond (.t 14) (.skip) (.exit 0)) (.seq (.block 1 (.seq (.reg g120_3) (.seq (.seq (.reg g120_4) (.cond (.t 21) (.seq (.reg g120_5) (.ret)) (.skip))) (.seq (.reg g120_6) (.seq (.reg g120_7) (.seq (.reg g120_8) (.cond (.t 31) (.seq (.reg g120_9) (.ret)) (.skip)))))))) (.reg g120_10)))))
def g120_11 : List Am.Item := [
    ⟨(some 34), .val (.mov (.t 0)), none⟩,
    ⟨(some 35), .val (.len 1 (.t 34)), none⟩,
    ⟨(some 36), .val (.mov (.t 1)), none⟩,
    ⟨(some 37), .val (.len 1 (.t 36)), none⟩,
    ⟨(some 38), .val (.bin .num .lss (.t 35) (.t 37)), none⟩]
def g120_12 : List Am.Item := [
    ⟨(some 6), .val (.mov (.c (.int .i64 (-1)))), none⟩]
def g120_13 : List Am.Item := [
    ⟨(some 6), .val (.mov (.c (.int .i64 0))), none⟩]
def r120 : RC := .seq (.reg g120_0) (.seq (.seq (.reg g120_1) (.block 0 (.loop l120_0))) (.seq (.seq (.reg g120_11) (.cond (.t 38) (.seq (.reg g120_12) (.ret)) (.skip))) (.seq (.reg g120_13) (.ret))))
def o120 : List RR := [.tmp 6]
theorem k120 : chkC Tryz.prog 39 r120 (Tryz.f120.body.getD .skip) = true := by decide +kernel
theorem q120 : chkR Tryz.prog Tryz.f120.results.toList o120 = true := by decide +kernel

/- wireschema/order.cmpSlot -/
def g121_0 : List Am.Item := [
    ⟨(some 2), .boxN 2 (.t 0), none⟩,
    ⟨(some 3), .boxN 3 (.t 1), none⟩,
    ⟨(some 4), .val (.mov (.c (.int .i64 0))), none⟩]
def g121_1 : List Am.Item := [
    ⟨(some 5), .val (.faddr 0 (.t 2)), none⟩,
    ⟨(some 6), .val (.loadv 0 2 none (.t 5)), none⟩,
    ⟨(some 7), .val (.faddr 0 (.t 3)), none⟩,
    ⟨(some 8), .val (.loadv 0 3 none (.t 7)), none⟩,
    ⟨(some 9), .call (.f 20) [(.t 6), (.t 8)], none⟩,
    ⟨(some 10), .val (.faddr 1 (.t 2)), none⟩,
    ⟨(some 11), .val (.loadv 0 2 (some 7) (.t 10)), none⟩,
    ⟨(some 12), .val (.faddr 1 (.t 3)), none⟩,
    ⟨(some 13), .val (.loadv 0 3 (some 7) (.t 12)), none⟩,
    ⟨(some 14), .call (.f 96) [(.t 11), (.t 13)], none⟩,
    ⟨(some 15), .bsl 1 2 [.int .i64 0] [(0, 1, (.t 9)), (1, 1, (.t 14))], none⟩,
    ⟨(some 16), .call (.f 119) [(.t 15)], none⟩,
    ⟨(some 4), .val (.mov (.t 16)), none⟩]
def r121 : RC := .seq (.reg g121_0) (.seq (.draw g121_1) (.ret))
def o121 : List RR := [.tmp 4]
theorem k121 : chkC Tryz.prog 17 r121 (Tryz.f121.body.getD .skip) = true := by decide +kernel
theorem q121 : chkR Tryz.prog Tryz.f121.results.toList o121 = true := by decide +kernel

/- slices.CompareFunc[[]wireschema/api.Raw,[]wireschema/api.Raw,wireschema/api.Raw,wireschema/api.Raw] -/
def g122_0 : List Am.Item := [
    ⟨(some 6), .val (.mov (.c (.int .i64 0))), none⟩]
def g122_1 : List Am.Item := [
    ⟨(some 11), .val (.mov (.t 0)), none⟩,
    ⟨(some 12), .val (.len 1 (.t 11)), none⟩,
    ⟨(some 13), .val (.mov (.c (.int .i64 0))), none⟩]
def g122_2 : List Am.Item := [
    ⟨(some 14), .val (.bin .num .lss (.t 13) (.t 12)), none⟩]
def g122_3 : List Am.Item := [
    ⟨(some 15), .val (.mov (.t 13)), none⟩,
    ⟨(some 16), .val (.iaddr 4 none (.t 11) (.t 13)), none⟩,
    ⟨(some 17), .val (.load (some 4) (.t 16)), none⟩,
    ⟨(some 8), .allocN 8 [.int .i64 0, .int .i64 0, .int .u64 0, .str []], none⟩,
    ⟨(some 7), .val (.mov (.t 15)), none⟩,
    ⟨none, .store 4 (.t 8) (.t 17), none⟩]
def g122_4 : List Am.Item := [
    ⟨(some 18), .val (.mov (.t 7)), none⟩,
    ⟨(some 19), .val (.mov (.t 1)), none⟩,
    ⟨(some 20), .val (.len 1 (.t 19)), none⟩,
    ⟨(some 21), .val (.bin .num .geq (.t 18) (.t 20)), none⟩]
def g122_5 : List Am.Item := [
    ⟨(some 6), .val (.mov (.c (.int .i64 1))), none⟩]
def g122_6 : List Am.Item := [
    ⟨(some 22), .val (.mov (.t 1)), none⟩,
    ⟨(some 23), .val (.mov (.t 7)), none⟩,
    ⟨(some 24), .val (.iaddr 4 none (.t 22) (.t 23)), none⟩,
    ⟨(some 25), .val (.load (some 4) (.t 24)), none⟩,
    ⟨(some 9), .allocN 9 [.int .i64 0, .int .i64 0, .int .u64 0, .str []], none⟩,
    ⟨none, .store 4 (.t 9) (.t 25), none⟩]
def g122_7 : List Am.Item := [
    ⟨(some 26), .val (.mov (.t 2)), none⟩,
    ⟨(some 27), .val (.load (some 4) (.t 8)), none⟩,
    ⟨(some 28), .val (.load (some 4) (.t 9)), none⟩,
    ⟨(some 29), .callF (.t 26) [(.t 27), (.t 28)], none⟩,
    ⟨(some 10), .val (.mov (.t 29)), none⟩]
def g122_8 : List Am.Item := [
    ⟨(some 30), .val (.mov (.t 10)), none⟩,
    ⟨(some 31), .val (.bin .num .neq (.t 30) (.c (.int .i64 0))), none⟩]
def g122_9 : List Am.Item := [
    ⟨(some 32), .val (.mov (.t 10)), none⟩,
    ⟨(some 6), .val (.mov (.t 32)), none⟩]
def g122_10 : List Am.Item := [
    ⟨(some 33), .val (.bin .num .add (.t 13) (.c (.int .i64 1))), none⟩,
    ⟨(some 13), .val (.mov (.t 33)), none⟩]
def l122_0 : RC := .gho (.drop 9) (.gho (.drop 8) (.seq (.reg g122_2) (.seq (.cond (.t 14) (.skip) (.exit 0)) (.seq (.block 1 (.seq (.reg g122_3) (.seq (.seq (.reg g122_4) (.cond (.t 21) (.seq (.reg g122_5) (.ret)) (.skip))) (.seq (.reg g122_6) (.seq (.reg g122_7) (.seq (.reg g122_8) (.cond (.t 31) (.seq (.reg g122_9) (.ret)) (.skip)))))))) (.reg g122_10)))))
def g122_11 : List Am.Item := [
    ⟨(some 34), .val (.mov (.t 0)), none⟩,
    ⟨(some 35), .val (.len 1 (.t 34)), none⟩,
    ⟨(some 36), .val (.mov (.t 1)), none⟩,
    ⟨(some 37), .val (.len 1 (.t 36)), none⟩,
    ⟨(some 38), .val (.bin .num .lss (.t 35) (.t 37)), none⟩]
def g122_12 : List Am.Item := [
    ⟨(some 6), .val (.mov (.c (.int .i64 (-1)))), none⟩]
def g122_13 : List Am.Item := [
    ⟨(some 6), .val (.mov (.c (.int .i64 0))), none⟩]
def r122 : RC := .seq (.reg g122_0) (.seq (.seq (.reg g122_1) (.block 0 (.loop l122_0))) (.seq (.seq (.reg g122_11) (.cond (.t 38) (.seq (.reg g122_12) (.ret)) (.skip))) (.seq (.reg g122_13) (.ret))))
def o122 : List RR := [.tmp 6]
theorem k122 : chkC Tryz.prog 39 r122 (Tryz.f122.body.getD .skip) = true := by decide +kernel
theorem q122 : chkR Tryz.prog Tryz.f122.results.toList o122 = true := by decide +kernel

/- wireschema/order.cmpRaw -/
def g123_0 : List Am.Item := [
    ⟨(some 2), .boxN 2 (.t 0), none⟩,
    ⟨(some 3), .boxN 3 (.t 1), none⟩,
    ⟨(some 4), .val (.mov (.c (.int .i64 0))), none⟩]
def g123_1 : List Am.Item := [
    ⟨(some 5), .val (.faddr 0 (.t 2)), none⟩,
    ⟨(some 6), .val (.loadv 0 2 none (.t 5)), none⟩,
    ⟨(some 7), .val (.faddr 0 (.t 3)), none⟩,
    ⟨(some 8), .val (.loadv 0 3 none (.t 7)), none⟩,
    ⟨(some 9), .call (.f 20) [(.t 6), (.t 8)], none⟩,
    ⟨(some 10), .val (.faddr 1 (.t 2)), none⟩,
    ⟨(some 11), .val (.loadv 0 2 none (.t 10)), none⟩,
    ⟨(some 12), .val (.faddr 1 (.t 3)), none⟩,
    ⟨(some 13), .val (.loadv 0 3 none (.t 12)), none⟩,
    ⟨(some 14), .call (.f 20) [(.t 11), (.t 13)], none⟩,
    ⟨(some 15), .val (.faddr 2 (.t 2)), none⟩,
    ⟨(some 16), .val (.loadv 0 2 none (.t 15)), none⟩,
    ⟨(some 17), .val (.faddr 2 (.t 3)), none⟩,
    ⟨(some 18), .val (.loadv 0 3 none (.t 17)), none⟩,
    ⟨(some 19), .call (.f 134) [(.t 16), (.t 18)], none⟩,
    ⟨(some 20), .val (.faddr 3 (.t 2)), none⟩,
    ⟨(some 21), .val (.loadv 0 2 none (.t 20)), none⟩,
    ⟨(some 22), .val (.faddr 3 (.t 3)), none⟩,
    ⟨(some 23), .val (.loadv 0 3 none (.t 22)), none⟩,
    ⟨(some 24), .call (.f 133) [(.t 21), (.t 23)], none⟩,
    ⟨(some 25), .bsl 1 4 [.int .i64 0] [(0, 1, (.t 9)), (1, 1, (.t 14)), (2, 1, (.t 19)), (3, 1, (.t 24))], none⟩,
    ⟨(some 26), .call (.f 119) [(.t 25)], none⟩,
    ⟨(some 4), .val (.mov (.t 26)), none⟩]
def r123 : RC := .seq (.reg g123_0) (.seq (.draw g123_1) (.ret))
def o123 : List RR := [.tmp 4]
theorem k123 : chkC Tryz.prog 27 r123 (Tryz.f123.body.getD .skip) = true := by decide +kernel
theorem q123 : chkR Tryz.prog Tryz.f123.results.toList o123 = true := by decide +kernel

/- wireschema/scalar.texty -/
def g124_0 : List Am.Item := [
    ⟨(some 2), .val (.mov (.c (.bool false))), none⟩]
def g124_1 : List Am.Item := [
    ⟨(some 3), .val (.mov (.t 0)), none⟩,
    ⟨(some 4), .val (.bin .num .eql (.t 3) (.c (.int .i64 7))), none⟩,
    ⟨(some 5), .val (.mov (.t 4)), none⟩,
    ⟨(some 6), .val (.mov (.t 0)), (some (5, false))⟩,
    ⟨(some 7), .val (.bin .num .eql (.t 6) (.c (.int .i64 8))), (some (5, false))⟩,
    ⟨(some 8), .val (.pick (.t 5) (.c (.bool true)) (.t 7)), none⟩,
    ⟨(some 2), .val (.mov (.t 8)), none⟩]
def r124 : RC := .seq (.reg g124_0) (.seq (.reg g124_1) (.ret))
def o124 : List RR := [.tmp 2]
theorem k124 : chkC Tryz.prog 9 r124 (Tryz.f124.body.getD .skip) = true := by decide +kernel
theorem q124 : chkR Tryz.prog Tryz.f124.results.toList o124 = true := by decide +kernel

/- wireschema/cursor.piece -/
def g125_0 : List Am.Item := [
    ⟨(some 2), .boxN 2 (.t 0), none⟩,
    ⟨(some 4), .val (.mov (.c (.nils))), none⟩]
def g125_1 : List Am.Item := [
    ⟨(some 6), .val (.faddr 0 (.t 2)), none⟩,
    ⟨(some 7), .val (.load none (.t 6)), none⟩,
    ⟨(some 8), .val (.faddr 1 (.t 2)), none⟩,
    ⟨(some 9), .val (.load none (.t 8)), none⟩,
    ⟨(some 10), .val (.faddr 1 (.t 2)), none⟩,
    ⟨(some 11), .val (.load none (.t 10)), none⟩,
    ⟨(some 12), .val (.mov (.t 1)), none⟩,
    ⟨(some 13), .val (.bin .num .add (.t 11) (.t 12)), none⟩,
    ⟨(some 14), .val (.slc none (.t 7) (some (.t 9)) (some (.t 13)) none), none⟩,
    ⟨(some 15), .s2b 15 5 (.t 14), none⟩,
    ⟨(some 5), .val (.mov (.t 15)), none⟩]
def g125_2 : List Am.Item := [
    ⟨(some 16), .val (.mov (.t 5)), none⟩,
    ⟨(some 17), .val (.mov (.t 1)), none⟩,
    ⟨(some 18), .val (.mov (.t 1)), none⟩,
    ⟨(some 19), .val (.slc (some 1) (.t 16) none (some (.t 17)) (some (.t 18))), none⟩,
    ⟨(some 4), .val (.mov (.t 19)), none⟩]
def r125 : RC := .seq (.reg g125_0) (.seq (.reg g125_1) (.seq (.reg g125_2) (.ret)))
def o125 : List RR := [.tmp 4]
theorem k125 : chkC Tryz.prog 20 r125 (Tryz.f125.body.getD .skip) = true := by decide +kernel
theorem q125 : chkR Tryz.prog Tryz.f125.results.toList o125 = true := by decide +kernel

/- wireschema/scalar.within -/
def g127_0 : List Am.Item := [
    ⟨(some 4), .val (.mov (.c (.bool false))), none⟩]
def g127_1 : List Am.Item := [
    ⟨(some 5), .val (.mov (.c (.int .u64 4294967295))), none⟩]
def g127_2 : List Am.Item := [
    ⟨(some 6), .val (.mov (.t 0)), none⟩]
def g127_3 : List Am.Item := [
    ⟨(some 8), .val (.bin .num .eql (.t 6) (.c (.int .i64 1))), none⟩,
    ⟨(some 7), .val (.mov (.t 8)), none⟩]
def g127_4 : List Am.Item := [
    ⟨(some 10), .val (.bin .num .eql (.t 6) (.c (.int .i64 2))), none⟩,
    ⟨(some 9), .val (.mov (.t 10)), none⟩]
def g127_5 : List Am.Item := [
    ⟨(some 12), .val (.bin .num .eql (.t 6) (.c (.int .i64 9))), none⟩,
    ⟨(some 11), .val (.mov (.t 12)), none⟩]
def g127_6 : List Am.Item := [
    ⟨(some 14), .val (.bin .num .eql (.t 6) (.c (.int .i64 4))), none⟩,
    ⟨(some 13), .val (.mov (.t 14)), none⟩]
def g127_7 : List Am.Item := [
    ⟨(some 15), .val (.mov (.t 1)), none⟩,
    ⟨(some 16), .val (.bin .num .leq (.t 15) (.c (.int .u64 1))), none⟩,
    ⟨(some 4), .val (.mov (.t 16)), none⟩]
def g127_8 : List Am.Item := [
    ⟨(some 17), .val (.mov (.t 1)), none⟩,
    ⟨(some 18), .val (.cvi .i64 (.t 17)), none⟩,
    ⟨(some 19), .val (.bin .num .geq (.t 18) (.c (.int .i64 (-2147483648)))), none⟩,
    ⟨(some 20), .val (.mov (.t 19)), none⟩,
    ⟨(some 21), .val (.mov (.t 1)), (some (20, true))⟩,
    ⟨(some 22), .val (.cvi .i64 (.t 21)), (some (20, true))⟩,
    ⟨(some 23), .val (.bin .num .leq (.t 22) (.c (.int .i64 2147483647))), (some (20, true))⟩,
    ⟨(some 24), .val (.pick (.t 20) (.t 23) (.c (.bool false))), none⟩,
    ⟨(some 4), .val (.mov (.t 24)), none⟩]
def g127_9 : List Am.Item := [
    ⟨(some 5), .val (.mov (.c (.int .u64 2147483647))), none⟩]
def g127_10 : List Am.Item := [
    ⟨(some 25), .val (.mov (.t 1)), none⟩,
    ⟨(some 26), .val (.mov (.t 5)), none⟩,
    ⟨(some 27), .val (.bin .num .leq (.t 25) (.t 26)), none⟩,
    ⟨(some 4), .val (.mov (.t 27)), none⟩]
def g127_11 : List Am.Item := [
    ⟨(some 4), .val (.mov (.c (.bool true))), none⟩]
def r127 : RC := .seq (.reg g127_0) (.seq (.reg g127_1) (.seq (.seq (.reg g127_2) (.block 0 (.seq (.block 4 (.seq (.block 3 (.seq (.block 2 (.seq (.block 1 (.seq (.seq (.seq (.reg g127_3) (.cond (.t 7) (.exit 1) (.skip))) (.seq (.seq (.reg g127_4) (.cond (.t 9) (.exit 2) (.skip))) (.seq (.seq (.reg g127_5) (.cond (.t 11) (.exit 3) (.skip))) (.seq (.reg g127_6) (.cond (.t 13) (.exit 4) (.skip)))))) (.exit 0))) (.seq (.seq (.reg g127_7) (.ret)) (.exit 0)))) (.seq (.seq (.reg g127_8) (.ret)) (.exit 0)))) (.reg g127_9))) (.seq (.seq (.reg g127_10) (.ret)) (.exit 0))))) (.seq (.reg g127_11) (.ret))))
def o127 : List RR := [.tmp 4]
theorem k127 : chkC Tryz.prog 28 r127 (Tryz.f127.body.getD .skip) = true := by decide +kernel
theorem q127 : chkR Tryz.prog Tryz.f127.results.toList o127 = true := by decide +kernel

/- slices.ContainsFunc[[]wireschema/api.Item,wireschema/api.Item] -/
def g128_0 : List Am.Item := [
    ⟨(some 4), .val (.mov (.c (.bool false))), none⟩]
def g128_1 : List Am.Item := [
    ⟨(some 5), .val (.mov (.t 0)), none⟩,
    ⟨(some 6), .val (.mov (.t 1)), none⟩,
    ⟨(some 7), .callF (.f 137) [(.t 5), (.t 6)], none⟩,
    ⟨(some 8), .val (.bin .num .geq (.t 7) (.c (.int .i64 0))), none⟩,
    ⟨(some 4), .val (.mov (.t 8)), none⟩]
def r128 : RC := .seq (.reg g128_0) (.seq (.reg g128_1) (.ret))
def o128 : List RR := [.tmp 4]
theorem k128 : chkC Tryz.prog 9 r128 (Tryz.f128.body.getD .skip) = true := by decide +kernel
theorem q128 : chkR Tryz.prog Tryz.f128.results.toList o128 = true := by decide +kernel

/- wireschema/plan.Accepts$1 -/
def g129_0 : List Am.Item := [
    ⟨(some 2), .boxN 2 (.t 0), none⟩,
    ⟨(some 3), .val (.mov (.c (.bool false))), none⟩]
def g129_1 : List Am.Item := [
    ⟨(some 4), .val (.faddr 1 (.t 2)), none⟩,
    ⟨(some 5), .val (.load none (.t 4)), none⟩,
    ⟨(some 6), .val (.cvi .u64 (.t 5)), none⟩,
    ⟨(some 7), .val (.load none (.t 1)), none⟩,
    ⟨(some 8), .val (.bin .num .eql (.t 6) (.t 7)), none⟩,
    ⟨(some 3), .val (.mov (.t 8)), none⟩]
def r129 : RC := .seq (.reg g129_0) (.seq (.reg g129_1) (.ret))
def o129 : List RR := [.tmp 3]
theorem k129 : chkC Tryz.prog 9 r129 (Tryz.f129.body.getD .skip) = true := by decide +kernel
theorem q129 : chkR Tryz.prog Tryz.f129.results.toList o129 = true := by decide +kernel

/- slices.rotateCmpFunc[wireschema/api.Slot] -/
def g130_0 : List Am.Item := [
    ⟨(some 12), .val (.mov (.t 2)), none⟩,
    ⟨(some 13), .val (.mov (.t 1)), none⟩,
    ⟨(some 14), .val (.bin .num .sub (.t 12) (.t 13)), none⟩,
    ⟨(some 10), .val (.mov (.t 14)), none⟩]
def g130_1 : List Am.Item := [
    ⟨(some 15), .val (.mov (.t 3)), none⟩,
    ⟨(some 16), .val (.mov (.t 2)), none⟩,
    ⟨(some 17), .val (.bin .num .sub (.t 15) (.t 16)), none⟩,
    ⟨(some 11), .val (.mov (.t 17)), none⟩]
def g130_2 : List Am.Item := [
    ⟨(some 18), .val (.mov (.t 10)), none⟩,
    ⟨(some 19), .val (.mov (.t 11)), none⟩,
    ⟨(some 20), .val (.bin .num .neq (.t 18) (.t 19)), none⟩]
def g130_3 : List Am.Item := [
    ⟨(some 21), .val (.mov (.t 10)), none⟩,
    ⟨(some 22), .val (.mov (.t 11)), none⟩,
    ⟨(some 23), .val (.bin .num .gtr (.t 21) (.t 22)), none⟩]
def g130_4 : List Am.Item := [
    ⟨(some 24), .val (.mov (.t 0)), none⟩,
    ⟨(some 25), .val (.mov (.t 2)), none⟩,
    ⟨(some 26), .val (.mov (.t 10)), none⟩,
    ⟨(some 27), .val (.bin .num .sub (.t 25) (.t 26)), none⟩,
    ⟨(some 28), .val (.mov (.t 2)), none⟩,
    ⟨(some 29), .val (.mov (.t 11)), none⟩,
    ⟨(some 30), .val (.mov (.t 4)), none⟩,
    ⟨(some 31), .callF (.f 138) [(.t 24), (.t 27), (.t 28), (.t 29), (.t 30)], none⟩]
def g130_5 : List Am.Item := [
    ⟨(some 32), .val (.mov (.t 10)), none⟩,
    ⟨(some 33), .val (.mov (.t 11)), none⟩,
    ⟨(some 34), .val (.bin .num .sub (.t 32) (.t 33)), none⟩,
    ⟨(some 10), .val (.mov (.t 34)), none⟩]
def g130_6 : List Am.Item := [
    ⟨(some 35), .val (.mov (.t 0)), none⟩,
    ⟨(some 36), .val (.mov (.t 2)), none⟩,
    ⟨(some 37), .val (.mov (.t 10)), none⟩,
    ⟨(some 38), .val (.bin .num .sub (.t 36) (.t 37)), none⟩,
    ⟨(some 39), .val (.mov (.t 2)), none⟩,
    ⟨(some 40), .val (.mov (.t 11)), none⟩,
    ⟨(some 41), .val (.bin .num .add (.t 39) (.t 40)), none⟩,
    ⟨(some 42), .val (.mov (.t 10)), none⟩,
    ⟨(some 43), .val (.bin .num .sub (.t 41) (.t 42)), none⟩,
    ⟨(some 44), .val (.mov (.t 10)), none⟩,
    ⟨(some 45), .val (.mov (.t 4)), none⟩,
    ⟨(some 46), .callF (.f 138) [(.t 35), (.t 38), (.t 43), (.t 44), (.t 45)], none⟩]
def g130_7 : List Am.Item := [
    ⟨(some 47), .val (.mov (.t 11)), none⟩,
    ⟨(some 48), .val (.mov (.t 10)), none⟩,
    ⟨(some 49), .val (.bin .num .sub (.t 47) (.t 48)), none⟩,
    ⟨(some 11), .val (.mov (.t 49)), none⟩]
def l130_0 : RC := .seq (.seq (.reg g130_2) (.cond (.t 20) (.skip) (.exit 0))) (.block 1 (.seq (.reg g130_3) (.cond (.t 23) (.seq (.reg g130_4) (.reg g130_5)) (.seq (.reg g130_6) (.reg g130_7)))))
def g130_8 : List Am.Item := [
    ⟨(some 50), .val (.mov (.t 0)), none⟩,
    ⟨(some 51), .val (.mov (.t 2)), none⟩,
    ⟨(some 52), .val (.mov (.t 10)), none⟩,
    ⟨(some 53), .val (.bin .num .sub (.t 51) (.t 52)), none⟩,
    ⟨(some 54), .val (.mov (.t 2)), none⟩,
    ⟨(some 55), .val (.mov (.t 10)), none⟩,
    ⟨(some 56), .val (.mov (.t 4)), none⟩,
    ⟨(some 57), .callF (.f 138) [(.t 50), (.t 53), (.t 54), (.t 55), (.t 56)], none⟩]
def r130 : RC := .seq (.reg g130_0) (.seq (.reg g130_1) (.seq (.block 0 (.loop l130_0)) (.reg g130_8)))
def o130 : List RR := []
theorem k130 : chkC Tryz.prog 58 r130 (Tryz.f130.body.getD .skip) = true := by decide +kernel
theorem q130 : chkR Tryz.prog Tryz.f130.results.toList o130 = true := by decide +kernel

/- slices.insertionSortCmpFunc[wireschema/api.Pair] -/
def g131_0 : List Am.Item := [
    ⟨(some 10), .val (.mov (.t 1)), none⟩,
    ⟨(some 11), .val (.bin .num .add (.t 10) (.c (.int .i64 1))), none⟩,
    ⟨(some 8), .val (.mov (.t 11)), none⟩]
def g131_1 : List Am.Item := [
    ⟨(some 12), .val (.mov (.t 8)), none⟩,
    ⟨(some 13), .val (.mov (.t 2)), none⟩,
    ⟨(some 14), .val (.bin .num .lss (.t 12) (.t 13)), none⟩]
def g131_3 : List Am.Item := [
    ⟨(some 17), .val (.mov (.t 8)), none⟩,
    ⟨(some 9), .val (.mov (.t 17)), none⟩]
def g131_4 : List Am.Item := [
    ⟨(some 18), .val (.mov (.t 9)), none⟩,
    ⟨(some 19), .val (.mov (.t 1)), none⟩,
    ⟨(some 20), .val (.bin .num .gtr (.t 18) (.t 19)), none⟩,
    ⟨(some 21), .val (.mov (.t 20)), none⟩,
    ⟨(some 22), .val (.mov (.t 3)), (some (21, true))⟩,
    ⟨(some 23), .val (.mov (.t 0)), (some (21, true))⟩,
    ⟨(some 24), .val (.mov (.t 9)), (some (21, true))⟩,
    ⟨(some 25), .val (.iaddr 14 none (.t 23) (.t 24)), (some (21, true))⟩,
    ⟨(some 26), .val (.loadr (some 14) (.t 25)), (some (21, true))⟩,
    ⟨(some 27), .val (.mov (.t 0)), (some (21, true))⟩,
    ⟨(some 28), .val (.mov (.t 9)), (some (21, true))⟩,
    ⟨(some 29), .val (.bin .num .sub (.t 28) (.c (.int .i64 1))), (some (21, true))⟩,
    ⟨(some 30), .val (.iaddr 14 none (.t 27) (.t 29)), (some (21, true))⟩,
    ⟨(some 31), .val (.loadr (some 14) (.t 30)), (some (21, true))⟩,
    ⟨(some 32), .call (.t 22) [(.t 26), (.t 31)], (some (21, true))⟩,
    ⟨(some 33), .val (.bin .num .lss (.t 32) (.c (.int .i64 0))), (some (21, true))⟩,
    ⟨(some 34), .val (.pick (.t 21) (.t 33) (.c (.bool false))), none⟩]
def g131_6 : List Am.Item := [
    ⟨(some 37), .val (.mov (.t 0)), none⟩,
    ⟨(some 38), .val (.mov (.t 9)), none⟩,
    ⟨(some 39), .val (.mov (.t 0)), none⟩,
    ⟨(some 40), .val (.mov (.t 9)), none⟩,
    ⟨(some 41), .val (.bin .num .sub (.t 40) (.c (.int .i64 1))), none⟩,
    ⟨(some 42), .val (.mov (.t 0)), none⟩,
    ⟨(some 43), .val (.mov (.t 9)), none⟩,
    ⟨(some 44), .val (.bin .num .sub (.t 43) (.c (.int .i64 1))), none⟩,
    ⟨(some 45), .val (.iaddr 14 none (.t 42) (.t 44)), none⟩,
    ⟨(some 46), .val (.loadr (some 14) (.t 45)), none⟩,
    ⟨(some 47), .val (.mov (.t 0)), none⟩,
    ⟨(some 48), .val (.mov (.t 9)), none⟩,
    ⟨(some 49), .val (.iaddr 14 none (.t 47) (.t 48)), none⟩,
    ⟨(some 50), .val (.loadr (some 14) (.t 49)), none⟩,
    ⟨(some 51), .val (.iaddr 14 none (.t 37) (.t 38)), none⟩,
    ⟨none, .store 14 (.t 51) (.t 46), none⟩,
    ⟨(some 52), .val (.iaddr 14 none (.t 39) (.t 41)), none⟩,
    ⟨none, .store 14 (.t 52) (.t 50), none⟩]
def g131_5 : List Am.Item := [
    ⟨(some 35), .val (.mov (.t 9)), none⟩,
    ⟨(some 36), .val (.bin .num .sub (.t 35) (.c (.int .i64 1))), none⟩,
    ⟨(some 9), .val (.mov (.t 36)), none⟩]
def l131_0 : RC := .seq (.seq (.draw g131_4) (.cond (.t 34) (.skip) (.exit 2))) (.seq (.block 3 (.draw g131_6)) (.reg g131_5))
def g131_2 : List Am.Item := [
    ⟨(some 15), .val (.mov (.t 8)), none⟩,
    ⟨(some 16), .val (.bin .num .add (.t 15) (.c (.int .i64 1))), none⟩,
    ⟨(some 8), .val (.mov (.t 16)), none⟩]
def l131_1 : RC := .seq (.seq (.reg g131_1) (.cond (.t 14) (.skip) (.exit 0))) (.seq (.block 1 (.seq (.reg g131_3) (.block 2 (.loop l131_0)))) (.reg g131_2))
def r131 : RC := .seq (.reg g131_0) (.block 0 (.loop l131_1))
def o131 : List RR := []
theorem k131 : chkC Tryz.prog 53 r131 (Tryz.f131.body.getD .skip) = true := by decide +kernel
theorem q131 : chkR Tryz.prog Tryz.f131.results.toList o131 = true := by decide +kernel

/- slices.symMergeCmpFunc[wireschema/api.Pair] -/
def g132_0 : List Am.Item := [
    ⟨(some 25), .val (.mov (.t 2)), none⟩,
    ⟨(some 26), .val (.mov (.t 1)), none⟩,
    ⟨(some 27), .val (.bin .num .sub (.t 25) (.t 26)), none⟩,
    ⟨(some 28), .val (.bin .num .eql (.t 27) (.c (.int .i64 1))), none⟩]
def g132_1 : List Am.Item := [
    ⟨(some 29), .val (.mov (.t 2)), none⟩,
    ⟨(some 10), .val (.mov (.t 29)), none⟩]
def g132_2 : List Am.Item := [
    ⟨(some 30), .val (.mov (.t 3)), none⟩,
    ⟨(some 11), .val (.mov (.t 30)), none⟩]
def g132_3 : List Am.Item := [
    ⟨(some 31), .val (.mov (.t 10)), none⟩,
    ⟨(some 32), .val (.mov (.t 11)), none⟩,
    ⟨(some 33), .val (.bin .num .lss (.t 31) (.t 32)), none⟩]
def g132_4 : List Am.Item := [
    ⟨(some 34), .val (.mov (.t 10)), none⟩,
    ⟨(some 35), .val (.mov (.t 11)), none⟩,
    ⟨(some 36), .val (.bin .num .add (.t 34) (.t 35)), none⟩,
    ⟨(some 37), .val (.cvi .u64 (.t 36)), none⟩,
    ⟨(some 38), .val (.bin .num .shr (.t 37) (.c (.int .u64 1))), none⟩,
    ⟨(some 39), .val (.cvi .i64 (.t 38)), none⟩,
    ⟨(some 12), .val (.mov (.t 39)), none⟩]
def g132_5 : List Am.Item := [
    ⟨(some 40), .val (.mov (.t 4)), none⟩,
    ⟨(some 41), .val (.mov (.t 0)), none⟩,
    ⟨(some 42), .val (.mov (.t 12)), none⟩,
    ⟨(some 43), .val (.iaddr 14 none (.t 41) (.t 42)), none⟩,
    ⟨(some 44), .val (.loadr (some 14) (.t 43)), none⟩,
    ⟨(some 45), .val (.mov (.t 0)), none⟩,
    ⟨(some 46), .val (.mov (.t 1)), none⟩,
    ⟨(some 47), .val (.iaddr 14 none (.t 45) (.t 46)), none⟩,
    ⟨(some 48), .val (.loadr (some 14) (.t 47)), none⟩,
    ⟨(some 49), .call (.t 40) [(.t 44), (.t 48)], none⟩,
    ⟨(some 50), .val (.bin .num .lss (.t 49) (.c (.int .i64 0))), none⟩]
def g132_6 : List Am.Item := [
    ⟨(some 51), .val (.mov (.t 12)), none⟩,
    ⟨(some 52), .val (.bin .num .add (.t 51) (.c (.int .i64 1))), none⟩,
    ⟨(some 10), .val (.mov (.t 52)), none⟩]
def g132_7 : List Am.Item := [
    ⟨(some 53), .val (.mov (.t 12)), none⟩,
    ⟨(some 11), .val (.mov (.t 53)), none⟩]
def l132_0 : RC := .seq (.seq (.reg g132_3) (.cond (.t 33) (.skip) (.exit 0))) (.block 1 (.seq (.reg g132_4) (.seq (.draw g132_5) (.cond (.t 50) (.reg g132_6) (.reg g132_7)))))
def g132_8 : List Am.Item := [
    ⟨(some 54), .val (.mov (.t 1)), none⟩,
    ⟨(some 13), .val (.mov (.t 54)), none⟩]
def g132_9 : List Am.Item := [
    ⟨(some 55), .val (.mov (.t 13)), none⟩,
    ⟨(some 56), .val (.mov (.t 10)), none⟩,
    ⟨(some 57), .val (.bin .num .sub (.t 56) (.c (.int .i64 1))), none⟩,
    ⟨(some 58), .val (.bin .num .lss (.t 55) (.t 57)), none⟩]
def g132_11 : List Am.Item := [
    ⟨(some 61), .val (.mov (.t 0)), none⟩,
    ⟨(some 62), .val (.mov (.t 13)), none⟩,
    ⟨(some 63), .val (.mov (.t 0)), none⟩,
    ⟨(some 64), .val (.mov (.t 13)), none⟩,
    ⟨(some 65), .val (.bin .num .add (.t 64) (.c (.int .i64 1))), none⟩,
    ⟨(some 66), .val (.mov (.t 0)), none⟩,
    ⟨(some 67), .val (.mov (.t 13)), none⟩,
    ⟨(some 68), .val (.bin .num .add (.t 67) (.c (.int .i64 1))), none⟩,
    ⟨(some 69), .val (.iaddr 14 none (.t 66) (.t 68)), none⟩,
    ⟨(some 70), .val (.loadr (some 14) (.t 69)), none⟩,
    ⟨(some 71), .val (.mov (.t 0)), none⟩,
    ⟨(some 72), .val (.mov (.t 13)), none⟩,
    ⟨(some 73), .val (.iaddr 14 none (.t 71) (.t 72)), none⟩,
    ⟨(some 74), .val (.loadr (some 14) (.t 73)), none⟩,
    ⟨(some 75), .val (.iaddr 14 none (.t 61) (.t 62)), none⟩,
    ⟨none, .store 14 (.t 75) (.t 70), none⟩,
    ⟨(some 76), .val (.iaddr 14 none (.t 63) (.t 65)), none⟩,
    ⟨none, .store 14 (.t 76) (.t 74), none⟩]
def g132_10 : List Am.Item := [
    ⟨(some 59), .val (.mov (.t 13)), none⟩,
    ⟨(some 60), .val (.bin .num .add (.t 59) (.c (.int .i64 1))), none⟩,
    ⟨(some 13), .val (.mov (.t 60)), none⟩]
def l132_1 : RC := .seq (.seq (.reg g132_9) (.cond (.t 58) (.skip) (.exit 2))) (.seq (.block 3 (.draw g132_11)) (.reg g132_10))
def g132_12 : List Am.Item := [
    ⟨(some 77), .val (.mov (.t 3)), none⟩,
    ⟨(some 78), .val (.mov (.t 2)), none⟩,
    ⟨(some 79), .val (.bin .num .sub (.t 77) (.t 78)), none⟩,
    ⟨(some 80), .val (.bin .num .eql (.t 79) (.c (.int .i64 1))), none⟩]
def g132_13 : List Am.Item := [
    ⟨(some 81), .val (.mov (.t 1)), none⟩,
    ⟨(some 14), .val (.mov (.t 81)), none⟩]
def g132_14 : List Am.Item := [
    ⟨(some 82), .val (.mov (.t 2)), none⟩,
    ⟨(some 15), .val (.mov (.t 82)), none⟩]
def g132_15 : List Am.Item := [
    ⟨(some 83), .val (.mov (.t 14)), none⟩,
    ⟨(some 84), .val (.mov (.t 15)), none⟩,
    ⟨(some 85), .val (.bin .num .lss (.t 83) (.t 84)), none⟩]
def g132_16 : List Am.Item := [
    ⟨(some 86), .val (.mov (.t 14)), none⟩,
    ⟨(some 87), .val (.mov (.t 15)), none⟩,
    ⟨(some 88), .val (.bin .num .add (.t 86) (.t 87)), none⟩,
    ⟨(some 89), .val (.cvi .u64 (.t 88)), none⟩,
    ⟨(some 90), .val (.bin .num .shr (.t 89) (.c (.int .u64 1))), none⟩,
    ⟨(some 91), .val (.cvi .i64 (.t 90)), none⟩,
    ⟨(some 16), .val (.mov (.t 91)), none⟩]
def g132_17 : List Am.Item := [
    ⟨(some 92), .val (.mov (.t 4)), none⟩,
    ⟨(some 93), .val (.mov (.t 0)), none⟩,
    ⟨(some 94), .val (.mov (.t 2)), none⟩,
    ⟨(some 95), .val (.iaddr 14 none (.t 93) (.t 94)), none⟩,
    ⟨(some 96), .val (.loadr (some 14) (.t 95)), none⟩,
    ⟨(some 97), .val (.mov (.t 0)), none⟩,
    ⟨(some 98), .val (.mov (.t 16)), none⟩,
    ⟨(some 99), .val (.iaddr 14 none (.t 97) (.t 98)), none⟩,
    ⟨(some 100), .val (.loadr (some 14) (.t 99)), none⟩,
    ⟨(some 101), .call (.t 92) [(.t 96), (.t 100)], none⟩,
    ⟨(some 102), .val (.bin .num .lss (.t 101) (.c (.int .i64 0))), none⟩,
    ⟨(some 103), .val (.un .not (.t 102)), none⟩]
def g132_18 : List Am.Item := [
    ⟨(some 104), .val (.mov (.t 16)), none⟩,
    ⟨(some 105), .val (.bin .num .add (.t 104) (.c (.int .i64 1))), none⟩,
    ⟨(some 14), .val (.mov (.t 105)), none⟩]
def g132_19 : List Am.Item := [
    ⟨(some 106), .val (.mov (.t 16)), none⟩,
    ⟨(some 15), .val (.mov (.t 106)), none⟩]
def l132_2 : RC := .seq (.seq (.reg g132_15) (.cond (.t 85) (.skip) (.exit 4))) (.block 5 (.seq (.reg g132_16) (.seq (.draw g132_17) (.cond (.t 103) (.reg g132_18) (.reg g132_19)))))
def g132_20 : List Am.Item := [
    ⟨(some 107), .val (.mov (.t 2)), none⟩,
    ⟨(some 17), .val (.mov (.t 107)), none⟩]
def g132_21 : List Am.Item := [
    ⟨(some 108), .val (.mov (.t 17)), none⟩,
    ⟨(some 109), .val (.mov (.t 14)), none⟩,
    ⟨(some 110), .val (.bin .num .gtr (.t 108) (.t 109)), none⟩]
def g132_23 : List Am.Item := [
    ⟨(some 113), .val (.mov (.t 0)), none⟩,
    ⟨(some 114), .val (.mov (.t 17)), none⟩,
    ⟨(some 115), .val (.mov (.t 0)), none⟩,
    ⟨(some 116), .val (.mov (.t 17)), none⟩,
    ⟨(some 117), .val (.bin .num .sub (.t 116) (.c (.int .i64 1))), none⟩,
    ⟨(some 118), .val (.mov (.t 0)), none⟩,
    ⟨(some 119), .val (.mov (.t 17)), none⟩,
    ⟨(some 120), .val (.bin .num .sub (.t 119) (.c (.int .i64 1))), none⟩,
    ⟨(some 121), .val (.iaddr 14 none (.t 118) (.t 120)), none⟩,
    ⟨(some 122), .val (.loadr (some 14) (.t 121)), none⟩,
    ⟨(some 123), .val (.mov (.t 0)), none⟩,
    ⟨(some 124), .val (.mov (.t 17)), none⟩,
    ⟨(some 125), .val (.iaddr 14 none (.t 123) (.t 124)), none⟩,
    ⟨(some 126), .val (.loadr (some 14) (.t 125)), none⟩,
    ⟨(some 127), .val (.iaddr 14 none (.t 113) (.t 114)), none⟩,
    ⟨none, .store 14 (.t 127) (.t 122), none⟩,
    ⟨(some 128), .val (.iaddr 14 none (.t 115) (.t 117)), none⟩,
    ⟨none, .store 14 (.t 128) (.t 126), none⟩]
def g132_22 : List Am.Item := [
    ⟨(some 111), .val (.mov (.t 17)), none⟩,
    ⟨(some 112), .val (.bin .num .sub (.t 111) (.c (.int .i64 1))), none⟩,
    ⟨(some 17), .val (.mov (.t 112)), none⟩]
def l132_3 : RC := .seq (.seq (.reg g132_21) (.cond (.t 110) (.skip) (.exit 6))) (.seq (.block 7 (.draw g132_23)) (.reg g132_22))
def g132_24 : List Am.Item := [
    ⟨(some 129), .val (.mov (.t 1)), none⟩,
    ⟨(some 130), .val (.mov (.t 3)), none⟩,
    ⟨(some 131), .val (.bin .num .add (.t 129) (.t 130)), none⟩,
    ⟨(some 132), .val (.cvi .u64 (.t 131)), none⟩,
    ⟨(some 133), .val (.bin .num .shr (.t 132) (.c (.int .u64 1))), none⟩,
    ⟨(some 134), .val (.cvi .i64 (.t 133)), none⟩,
    ⟨(some 18), .val (.mov (.t 134)), none⟩]
def g132_25 : List Am.Item := [
    ⟨(some 135), .val (.mov (.t 18)), none⟩,
    ⟨(some 136), .val (.mov (.t 2)), none⟩,
    ⟨(some 137), .val (.bin .num .add (.t 135) (.t 136)), none⟩,
    ⟨(some 19), .val (.mov (.t 137)), none⟩]
def g132_26 : List Am.Item := [
    ⟨(some 20), .val (.mov (.c (.int .i64 0))), none⟩,
    ⟨(some 21), .val (.mov (.c (.int .i64 0))), none⟩]
def g132_27 : List Am.Item := [
    ⟨(some 138), .val (.mov (.t 2)), none⟩,
    ⟨(some 139), .val (.mov (.t 18)), none⟩,
    ⟨(some 140), .val (.bin .num .gtr (.t 138) (.t 139)), none⟩]
def g132_28 : List Am.Item := [
    ⟨(some 141), .val (.mov (.t 19)), none⟩,
    ⟨(some 142), .val (.mov (.t 3)), none⟩,
    ⟨(some 143), .val (.bin .num .sub (.t 141) (.t 142)), none⟩,
    ⟨(some 20), .val (.mov (.t 143)), none⟩]
def g132_29 : List Am.Item := [
    ⟨(some 144), .val (.mov (.t 18)), none⟩,
    ⟨(some 21), .val (.mov (.t 144)), none⟩]
def g132_30 : List Am.Item := [
    ⟨(some 145), .val (.mov (.t 1)), none⟩,
    ⟨(some 20), .val (.mov (.t 145)), none⟩]
def g132_31 : List Am.Item := [
    ⟨(some 146), .val (.mov (.t 2)), none⟩,
    ⟨(some 21), .val (.mov (.t 146)), none⟩]
def g132_32 : List Am.Item := [
    ⟨(some 147), .val (.mov (.t 19)), none⟩,
    ⟨(some 148), .val (.bin .num .sub (.t 147) (.c (.int .i64 1))), none⟩,
    ⟨(some 22), .val (.mov (.t 148)), none⟩]
def g132_33 : List Am.Item := [
    ⟨(some 149), .val (.mov (.t 20)), none⟩,
    ⟨(some 150), .val (.mov (.t 21)), none⟩,
    ⟨(some 151), .val (.bin .num .lss (.t 149) (.t 150)), none⟩]
def g132_34 : List Am.Item := [
    ⟨(some 152), .val (.mov (.t 20)), none⟩,
    ⟨(some 153), .val (.mov (.t 21)), none⟩,
    ⟨(some 154), .val (.bin .num .add (.t 152) (.t 153)), none⟩,
    ⟨(some 155), .val (.cvi .u64 (.t 154)), none⟩,
    ⟨(some 156), .val (.bin .num .shr (.t 155) (.c (.int .u64 1))), none⟩,
    ⟨(some 157), .val (.cvi .i64 (.t 156)), none⟩,
    ⟨(some 23), .val (.mov (.t 157)), none⟩]
def g132_35 : List Am.Item := [
    ⟨(some 158), .val (.mov (.t 4)), none⟩,
    ⟨(some 159), .val (.mov (.t 0)), none⟩,
    ⟨(some 160), .val (.mov (.t 22)), none⟩,
    ⟨(some 161), .val (.mov (.t 23)), none⟩,
    ⟨(some 162), .val (.bin .num .sub (.t 160) (.t 161)), none⟩,
    ⟨(some 163), .val (.iaddr 14 none (.t 159) (.t 162)), none⟩,
    ⟨(some 164), .val (.loadr (some 14) (.t 163)), none⟩,
    ⟨(some 165), .val (.mov (.t 0)), none⟩,
    ⟨(some 166), .val (.mov (.t 23)), none⟩,
    ⟨(some 167), .val (.iaddr 14 none (.t 165) (.t 166)), none⟩,
    ⟨(some 168), .val (.loadr (some 14) (.t 167)), none⟩,
    ⟨(some 169), .call (.t 158) [(.t 164), (.t 168)], none⟩,
    ⟨(some 170), .val (.bin .num .lss (.t 169) (.c (.int .i64 0))), none⟩,
    ⟨(some 171), .val (.un .not (.t 170)), none⟩]
def g132_36 : List Am.Item := [
    ⟨(some 172), .val (.mov (.t 23)), none⟩,
    ⟨(some 173), .val (.bin .num .add (.t 172) (.c (.int .i64 1))), none⟩,
    ⟨(some 20), .val (.mov (.t 173)), none⟩]
def g132_37 : List Am.Item := [
    ⟨(some 174), .val (.mov (.t 23)), none⟩,
    ⟨(some 21), .val (.mov (.t 174)), none⟩]
def l132_4 : RC := .seq (.seq (.reg g132_33) (.cond (.t 151) (.skip) (.exit 8))) (.block 9 (.seq (.reg g132_34) (.seq (.draw g132_35) (.cond (.t 171) (.reg g132_36) (.reg g132_37)))))
def g132_38 : List Am.Item := [
    ⟨(some 175), .val (.mov (.t 19)), none⟩,
    ⟨(some 176), .val (.mov (.t 20)), none⟩,
    ⟨(some 177), .val (.bin .num .sub (.t 175) (.t 176)), none⟩,
    ⟨(some 24), .val (.mov (.t 177)), none⟩]
def g132_39 : List Am.Item := [
    ⟨(some 178), .val (.mov (.t 20)), none⟩,
    ⟨(some 179), .val (.mov (.t 2)), none⟩,
    ⟨(some 180), .val (.bin .num .lss (.t 178) (.t 179)), none⟩,
    ⟨(some 181), .val (.mov (.t 180)), none⟩,
    ⟨(some 182), .val (.mov (.t 2)), (some (181, true))⟩,
    ⟨(some 183), .val (.mov (.t 24)), (some (181, true))⟩,
    ⟨(some 184), .val (.bin .num .lss (.t 182) (.t 183)), (some (181, true))⟩,
    ⟨(some 185), .val (.pick (.t 181) (.t 184) (.c (.bool false))), none⟩]
def g132_40 : List Am.Item := [
    ⟨(some 186), .val (.mov (.t 0)), none⟩,
    ⟨(some 187), .val (.mov (.t 20)), none⟩,
    ⟨(some 188), .val (.mov (.t 2)), none⟩,
    ⟨(some 189), .val (.mov (.t 24)), none⟩,
    ⟨(some 190), .val (.mov (.t 4)), none⟩,
    ⟨(some 191), .callF (.f 139) [(.t 186), (.t 187), (.t 188), (.t 189), (.t 190)], none⟩]
def g132_41 : List Am.Item := [
    ⟨(some 192), .val (.mov (.t 1)), none⟩,
    ⟨(some 193), .val (.mov (.t 20)), none⟩,
    ⟨(some 194), .val (.bin .num .lss (.t 192) (.t 193)), none⟩,
    ⟨(some 195), .val (.mov (.t 194)), none⟩,
    ⟨(some 196), .val (.mov (.t 20)), (some (195, true))⟩,
    ⟨(some 197), .val (.mov (.t 18)), (some (195, true))⟩,
    ⟨(some 198), .val (.bin .num .lss (.t 196) (.t 197)), (some (195, true))⟩,
    ⟨(some 199), .val (.pick (.t 195) (.t 198) (.c (.bool false))), none⟩]
def g132_42 : List Am.Item := [
    ⟨(some 200), .val (.mov (.t 0)), none⟩,
    ⟨(some 201), .val (.mov (.t 1)), none⟩,
    ⟨(some 202), .val (.mov (.t 20)), none⟩,
    ⟨(some 203), .val (.mov (.t 18)), none⟩,
    ⟨(some 204), .val (.mov (.t 4)), none⟩,
    ⟨(some 205), .callF (.f 132) [(.t 200), (.t 201), (.t 202), (.t 203), (.t 204)], none⟩]
def g132_43 : List Am.Item := [
    ⟨(some 206), .val (.mov (.t 18)), none⟩,
    ⟨(some 207), .val (.mov (.t 24)), none⟩,
    ⟨(some 208), .val (.bin .num .lss (.t 206) (.t 207)), none⟩,
    ⟨(some 209), .val (.mov (.t 208)), none⟩,
    ⟨(some 210), .val (.mov (.t 24)), (some (209, true))⟩,
    ⟨(some 211), .val (.mov (.t 3)), (some (209, true))⟩,
    ⟨(some 212), .val (.bin .num .lss (.t 210) (.t 211)), (some (209, true))⟩,
    ⟨(some 213), .val (.pick (.t 209) (.t 212) (.c (.bool false))), none⟩]
def g132_44 : List Am.Item := [
    ⟨(some 214), .val (.mov (.t 0)), none⟩,
    ⟨(some 215), .val (.mov (.t 18)), none⟩,
    ⟨(some 216), .val (.mov (.t 24)), none⟩,
    ⟨(some 217), .val (.mov (.t 3)), none⟩,
    ⟨(some 218), .val (.mov (.t 4)), none⟩,
    ⟨(some 219), .callF (.f 132) [(.t 214), (.t 215), (.t 216), (.t 217), (.t 218)], none⟩]
def r132 : RC := .seq (.seq (.reg g132_0) (.cond (.t 28) (.seq (.reg g132_1) (.seq (.reg g132_2) (.seq (.block 0 (.loop l132_0)) (.seq (.seq (.reg g132_8) (.block 2 (.loop l132_1))) (.ret))))) (.skip))) (.seq (.seq (.reg g132_12) (.cond (.t 80) (.seq (.reg g132_13) (.seq (.reg g132_14) (.seq (.block 4 (.loop l132_2)) (.seq (.seq (.reg g132_20) (.block 6 (.loop l132_3))) (.ret))))) (.skip))) (.seq (.reg g132_24) (.seq (.reg g132_25) (.seq (.reg g132_26) (.seq (.seq (.reg g132_27) (.cond (.t 140) (.seq (.reg g132_28) (.reg g132_29)) (.seq (.reg g132_30) (.reg g132_31)))) (.seq (.reg g132_32) (.seq (.block 8 (.loop l132_4)) (.seq (.reg g132_38) (.seq (.seq (.reg g132_39) (.cond (.t 185) (.reg g132_40) (.skip))) (.seq (.seq (.reg g132_41) (.cond (.t 199) (.reg g132_42) (.skip))) (.seq (.reg g132_43) (.cond (.t 213) (.reg g132_44) (.skip)))))))))))))
def o132 : List RR := []
theorem k132 : chkC Tryz.prog 220 r132 (Tryz.f132.body.getD .skip) = true := by decide +kernel
theorem q132 : chkR Tryz.prog Tryz.f132.results.toList o132 = true := by decide +kernel

/- cmp.Compare[string] -/
def g133_0 : List Am.Item := [
    ⟨(some 4), .val (.mov (.c (.int .i64 0))), none⟩]
def g133_1 : List Am.Item := [
    ⟨(some 7), .val (.mov (.t 0)), none⟩,
    ⟨(some 8), .call (.f 140) [(.t 7)], none⟩,
    ⟨(some 5), .val (.mov (.t 8)), none⟩]
def g133_2 : List Am.Item := [
    ⟨(some 9), .val (.mov (.t 1)), none⟩,
    ⟨(some 10), .call (.f 140) [(.t 9)], none⟩,
    ⟨(some 6), .val (.mov (.t 10)), none⟩]
def g133_3 : List Am.Item := [
    ⟨(some 11), .val (.mov (.t 5)), none⟩]
def g133_4 : List Am.Item := [
    ⟨(some 12), .val (.mov (.t 6)), none⟩]
def g133_5 : List Am.Item := [
    ⟨(some 4), .val (.mov (.c (.int .i64 0))), none⟩]
def g133_6 : List Am.Item := [
    ⟨(some 4), .val (.mov (.c (.int .i64 (-1)))), none⟩]
def g133_7 : List Am.Item := [
    ⟨(some 13), .val (.mov (.t 6)), none⟩]
def g133_8 : List Am.Item := [
    ⟨(some 4), .val (.mov (.c (.int .i64 1))), none⟩]
def g133_9 : List Am.Item := [
    ⟨(some 14), .val (.mov (.t 0)), none⟩,
    ⟨(some 15), .val (.mov (.t 1)), none⟩,
    ⟨(some 16), .val (.bin .str .lss (.t 14) (.t 15)), none⟩]
def g133_10 : List Am.Item := [
    ⟨(some 4), .val (.mov (.c (.int .i64 (-1)))), none⟩]
def g133_11 : List Am.Item := [
    ⟨(some 17), .val (.mov (.t 0)), none⟩,
    ⟨(some 18), .val (.mov (.t 1)), none⟩,
    ⟨(some 19), .val (.bin .str .gtr (.t 17) (.t 18)), none⟩]
def g133_12 : List Am.Item := [
    ⟨(some 4), .val (.mov (.c (.int .i64 1))), none⟩]
def g133_13 : List Am.Item := [
    ⟨(some 4), .val (.mov (.c (.int .i64 0))), none⟩]
def r133 : RC := .seq (.reg g133_0) (.seq (.reg g133_1) (.seq (.reg g133_2) (.seq (.seq (.reg g133_3) (.cond (.t 11) (.seq (.seq (.reg g133_4) (.cond (.t 12) (.seq (.reg g133_5) (.ret)) (.skip))) (.seq (.reg g133_6) (.ret))) (.skip))) (.seq (.seq (.reg g133_7) (.cond (.t 13) (.seq (.reg g133_8) (.ret)) (.skip))) (.seq (.seq (.reg g133_9) (.cond (.t 16) (.seq (.reg g133_10) (.ret)) (.skip))) (.seq (.seq (.reg g133_11) (.cond (.t 19) (.seq (.reg g133_12) (.ret)) (.skip))) (.seq (.reg g133_13) (.ret))))))))
def o133 : List RR := [.tmp 4]
theorem k133 : chkC Tryz.prog 20 r133 (Tryz.f133.body.getD .skip) = true := by decide +kernel
theorem q133 : chkR Tryz.prog Tryz.f133.results.toList o133 = true := by decide +kernel

/- cmp.Compare[uint64] -/
def g134_0 : List Am.Item := [
    ⟨(some 4), .val (.mov (.c (.int .i64 0))), none⟩]
def g134_1 : List Am.Item := [
    ⟨(some 7), .val (.mov (.t 0)), none⟩,
    ⟨(some 8), .call (.f 141) [(.t 7)], none⟩,
    ⟨(some 5), .val (.mov (.t 8)), none⟩]
def g134_2 : List Am.Item := [
    ⟨(some 9), .val (.mov (.t 1)), none⟩,
    ⟨(some 10), .call (.f 141) [(.t 9)], none⟩,
    ⟨(some 6), .val (.mov (.t 10)), none⟩]
def g134_3 : List Am.Item := [
    ⟨(some 11), .val (.mov (.t 5)), none⟩]
def g134_4 : List Am.Item := [
    ⟨(some 12), .val (.mov (.t 6)), none⟩]
def g134_5 : List Am.Item := [
    ⟨(some 4), .val (.mov (.c (.int .i64 0))), none⟩]
def g134_6 : List Am.Item := [
    ⟨(some 4), .val (.mov (.c (.int .i64 (-1)))), none⟩]
def g134_7 : List Am.Item := [
    ⟨(some 13), .val (.mov (.t 6)), none⟩]
def g134_8 : List Am.Item := [
    ⟨(some 4), .val (.mov (.c (.int .i64 1))), none⟩]
def g134_9 : List Am.Item := [
    ⟨(some 14), .val (.mov (.t 0)), none⟩,
    ⟨(some 15), .val (.mov (.t 1)), none⟩,
    ⟨(some 16), .val (.bin .num .lss (.t 14) (.t 15)), none⟩]
def g134_10 : List Am.Item := [
    ⟨(some 4), .val (.mov (.c (.int .i64 (-1)))), none⟩]
def g134_11 : List Am.Item := [
    ⟨(some 17), .val (.mov (.t 0)), none⟩,
    ⟨(some 18), .val (.mov (.t 1)), none⟩,
    ⟨(some 19), .val (.bin .num .gtr (.t 17) (.t 18)), none⟩]
def g134_12 : List Am.Item := [
    ⟨(some 4), .val (.mov (.c (.int .i64 1))), none⟩]
def g134_13 : List Am.Item := [
    ⟨(some 4), .val (.mov (.c (.int .i64 0))), none⟩]
def r134 : RC := .seq (.reg g134_0) (.seq (.reg g134_1) (.seq (.reg g134_2) (.seq (.seq (.reg g134_3) (.cond (.t 11) (.seq (.seq (.reg g134_4) (.cond (.t 12) (.seq (.reg g134_5) (.ret)) (.skip))) (.seq (.reg g134_6) (.ret))) (.skip))) (.seq (.seq (.reg g134_7) (.cond (.t 13) (.seq (.reg g134_8) (.ret)) (.skip))) (.seq (.seq (.reg g134_9) (.cond (.t 16) (.seq (.reg g134_10) (.ret)) (.skip))) (.seq (.seq (.reg g134_11) (.cond (.t 19) (.seq (.reg g134_12) (.ret)) (.skip))) (.seq (.reg g134_13) (.ret))))))))
def o134 : List RR := [.tmp 4]
theorem k134 : chkC Tryz.prog 20 r134 (Tryz.f134.body.getD .skip) = true := by decide +kernel
theorem q134 : chkR Tryz.prog Tryz.f134.results.toList o134 = true := by decide +kernel

/- wireschema/scalar.place -/
def g135_0 : List Am.Item := [
    ⟨(some 2), .val (.mov (.c (.int .u64 0))), none⟩]
def g135_1 : List Am.Item := [
    ⟨(some 4), .val (.mov (.t 0)), none⟩,
    ⟨(some 5), .call (.f 98) [(.t 4)], none⟩,
    ⟨(some 6), .val (.bin .num .eql (.t 5) (.c (.int .i64 0))), none⟩,
    ⟨(some 3), .val (.mov (.t 6)), none⟩]
def g135_2 : List Am.Item := [
    ⟨(some 2), .val (.mov (.c (.int .u64 18446744073709551615))), none⟩]
def g135_3 : List Am.Item := [
    ⟨(some 8), .val (.mov (.t 0)), none⟩,
    ⟨(some 9), .val (.bin .num .and (.t 8) (.c (.int .u64 9223372036854775808))), none⟩,
    ⟨(some 10), .val (.bin .num .neq (.t 9) (.c (.int .u64 0))), none⟩,
    ⟨(some 7), .val (.mov (.t 10)), none⟩]
def g135_4 : List Am.Item := [
    ⟨(some 11), .val (.mov (.t 0)), none⟩,
    ⟨(some 12), .val (.un .xor (.t 11)), none⟩,
    ⟨(some 2), .val (.mov (.t 12)), none⟩]
def g135_5 : List Am.Item := [
    ⟨(some 13), .val (.mov (.t 0)), none⟩,
    ⟨(some 14), .val (.bin .num .or (.t 13) (.c (.int .u64 9223372036854775808))), none⟩,
    ⟨(some 2), .val (.mov (.t 14)), none⟩]
def r135 : RC := .seq (.reg g135_0) (.seq (.block 0 (.seq (.reg g135_1) (.cond (.t 3) (.seq (.reg g135_2) (.ret)) (.seq (.reg g135_3) (.cond (.t 7) (.seq (.reg g135_4) (.ret)) (.skip)))))) (.seq (.reg g135_5) (.ret)))
def o135 : List RR := [.tmp 2]
theorem k135 : chkC Tryz.prog 15 r135 (Tryz.f135.body.getD .skip) = true := by decide +kernel
theorem q135 : chkR Tryz.prog Tryz.f135.results.toList o135 = true := by decide +kernel

/- wireschema/utf.wrong -/
def g136_0 : List Am.Item := [
    ⟨(some 6), .val (.mov (.c (.bool false))), none⟩]
def g136_1 : List Am.Item := [
    ⟨(some 7), .val (.mov (.t 2)), none⟩,
    ⟨(some 8), .val (.bin .num .eql (.t 7) (.c (.int .i32 65533))), none⟩,
    ⟨(some 9), .val (.mov (.t 8)), none⟩,
    ⟨(some 10), .val (.mov (.t 0)), (some (9, true))⟩,
    ⟨(some 11), .val (.mov (.t 1)), (some (9, true))⟩,
    ⟨(some 12), .val (.slc none (.t 10) (some (.t 11)) none none), (some (9, true))⟩,
    ⟨(some 13), .call (.f 142) [(.t 12), (.c (.str [239, 191, 189]))], (some (9, true))⟩,
    ⟨(some 14), .val (.un .not (.t 13)), (some (9, true))⟩,
    ⟨(some 15), .val (.pick (.t 9) (.t 14) (.c (.bool false))), none⟩,
    ⟨(some 6), .val (.mov (.t 15)), none⟩]
def r136 : RC := .seq (.reg g136_0) (.seq (.reg g136_1) (.ret))
def o136 : List RR := [.tmp 6]
theorem k136 : chkC Tryz.prog 16 r136 (Tryz.f136.body.getD .skip) = true := by decide +kernel
theorem q136 : chkR Tryz.prog Tryz.f136.results.toList o136 = true := by decide +kernel

/- slices.IndexFunc[[]wireschema/api.Item,wireschema/api.Item] -/
def g137_0 : List Am.Item := [
    ⟨(some 4), .val (.mov (.c (.int .i64 0))), none⟩]
def g137_1 : List Am.Item := [
    ⟨(some 6), .val (.mov (.t 0)), none⟩,
    ⟨(some 7), .val (.len 1 (.t 6)), none⟩,
    ⟨(some 8), .val (.mov (.c (.int .i64 0))), none⟩]
def g137_2 : List Am.Item := [
    ⟨(some 9), .val (.bin .num .lss (.t 8) (.t 7)), none⟩]
def g137_3 : List Am.Item := [
    ⟨(some 10), .val (.mov (.t 8)), none⟩,
    ⟨(some 5), .val (.mov (.t 10)), none⟩]
def g137_4 : List Am.Item := [
    ⟨(some 11), .val (.mov (.t 1)), none⟩,
    ⟨(some 12), .val (.mov (.t 0)), none⟩,
    ⟨(some 13), .val (.mov (.t 5)), none⟩,
    ⟨(some 14), .val (.iaddr 3 none (.t 12) (.t 13)), none⟩,
    ⟨(some 15), .val (.load (some 3) (.t 14)), none⟩,
    ⟨(some 16), .callF (.t 11) [(.t 15)], none⟩]
def g137_5 : List Am.Item := [
    ⟨(some 17), .val (.mov (.t 5)), none⟩,
    ⟨(some 4), .val (.mov (.t 17)), none⟩]
def g137_6 : List Am.Item := [
    ⟨(some 18), .val (.bin .num .add (.t 8) (.c (.int .i64 1))), none⟩,
    ⟨(some 8), .val (.mov (.t 18)), none⟩]
def l137_0 : RC := .seq (.reg g137_2) (.seq (.cond (.t 9) (.skip) (.exit 0)) (.seq (.block 1 (.seq (.reg g137_3) (.seq (.reg g137_4) (.cond (.t 16) (.seq (.reg g137_5) (.ret)) (.skip))))) (.reg g137_6)))
def g137_7 : List Am.Item := [
    ⟨(some 4), .val (.mov (.c (.int .i64 (-1)))), none⟩]
def r137 : RC := .seq (.reg g137_0) (.seq (.seq (.reg g137_1) (.block 0 (.loop l137_0))) (.seq (.reg g137_7) (.ret)))
def o137 : List RR := [.tmp 4]
theorem k137 : chkC Tryz.prog 19 r137 (Tryz.f137.body.getD .skip) = true := by decide +kernel
theorem q137 : chkR Tryz.prog Tryz.f137.results.toList o137 = true := by decide +kernel

/- slices.swapRangeCmpFunc[wireschema/api.Slot] -/
def g138_0 : List Am.Item := [
    ⟨(some 10), .val (.mov (.c (.int .i64 0))), none⟩]
def g138_1 : List Am.Item := [
    ⟨(some 11), .val (.mov (.t 10)), none⟩,
    ⟨(some 12), .val (.mov (.t 3)), none⟩,
    ⟨(some 13), .val (.bin .num .lss (.t 11) (.t 12)), none⟩]
def g138_3 : List Am.Item := [
    ⟨(some 16), .val (.mov (.t 0)), none⟩,
    ⟨(some 17), .val (.mov (.t 1)), none⟩,
    ⟨(some 18), .val (.mov (.t 10)), none⟩,
    ⟨(some 19), .val (.bin .num .add (.t 17) (.t 18)), none⟩,
    ⟨(some 20), .val (.mov (.t 0)), none⟩,
    ⟨(some 21), .val (.mov (.t 2)), none⟩,
    ⟨(some 22), .val (.mov (.t 10)), none⟩,
    ⟨(some 23), .val (.bin .num .add (.t 21) (.t 22)), none⟩,
    ⟨(some 24), .val (.mov (.t 0)), none⟩,
    ⟨(some 25), .val (.mov (.t 2)), none⟩,
    ⟨(some 26), .val (.mov (.t 10)), none⟩,
    ⟨(some 27), .val (.bin .num .add (.t 25) (.t 26)), none⟩,
    ⟨(some 28), .val (.iaddr 8 none (.t 24) (.t 27)), none⟩,
    ⟨(some 29), .val (.loadr (some 8) (.t 28)), none⟩,
    ⟨(some 30), .val (.mov (.t 0)), none⟩,
    ⟨(some 31), .val (.mov (.t 1)), none⟩,
    ⟨(some 32), .val (.mov (.t 10)), none⟩,
    ⟨(some 33), .val (.bin .num .add (.t 31) (.t 32)), none⟩,
    ⟨(some 34), .val (.iaddr 8 none (.t 30) (.t 33)), none⟩,
    ⟨(some 35), .val (.loadr (some 8) (.t 34)), none⟩,
    ⟨(some 36), .val (.iaddr 8 none (.t 16) (.t 19)), none⟩,
    ⟨none, .store 8 (.t 36) (.t 29), none⟩,
    ⟨(some 37), .val (.iaddr 8 none (.t 20) (.t 23)), none⟩,
    ⟨none, .store 8 (.t 37) (.t 35), none⟩]
def g138_2 : List Am.Item := [
    ⟨(some 14), .val (.mov (.t 10)), none⟩,
    ⟨(some 15), .val (.bin .num .add (.t 14) (.c (.int .i64 1))), none⟩,
    ⟨(some 10), .val (.mov (.t 15)), none⟩]
def l138_0 : RC := .seq (.seq (.reg g138_1) (.cond (.t 13) (.skip) (.exit 0))) (.seq (.block 1 (.draw g138_3)) (.reg g138_2))
def r138 : RC := .seq (.reg g138_0) (.block 0 (.loop l138_0))
def o138 : List RR := []
theorem k138 : chkC Tryz.prog 38 r138 (Tryz.f138.body.getD .skip) = true := by decide +kernel
theorem q138 : chkR Tryz.prog Tryz.f138.results.toList o138 = true := by decide +kernel

/- slices.rotateCmpFunc[wireschema/api.Pair] -/
def g139_0 : List Am.Item := [
    ⟨(some 12), .val (.mov (.t 2)), none⟩,
    ⟨(some 13), .val (.mov (.t 1)), none⟩,
    ⟨(some 14), .val (.bin .num .sub (.t 12) (.t 13)), none⟩,
    ⟨(some 10), .val (.mov (.t 14)), none⟩]
def g139_1 : List Am.Item := [
    ⟨(some 15), .val (.mov (.t 3)), none⟩,
    ⟨(some 16), .val (.mov (.t 2)), none⟩,
    ⟨(some 17), .val (.bin .num .sub (.t 15) (.t 16)), none⟩,
    ⟨(some 11), .val (.mov (.t 17)), none⟩]
def g139_2 : List Am.Item := [
    ⟨(some 18), .val (.mov (.t 10)), none⟩,
    ⟨(some 19), .val (.mov (.t 11)), none⟩,
    ⟨(some 20), .val (.bin .num .neq (.t 18) (.t 19)), none⟩]
def g139_3 : List Am.Item := [
    ⟨(some 21), .val (.mov (.t 10)), none⟩,
    ⟨(some 22), .val (.mov (.t 11)), none⟩,
    ⟨(some 23), .val (.bin .num .gtr (.t 21) (.t 22)), none⟩]
def g139_4 : List Am.Item := [
    ⟨(some 24), .val (.mov (.t 0)), none⟩,
    ⟨(some 25), .val (.mov (.t 2)), none⟩,
    ⟨(some 26), .val (.mov (.t 10)), none⟩,
    ⟨(some 27), .val (.bin .num .sub (.t 25) (.t 26)), none⟩,
    ⟨(some 28), .val (.mov (.t 2)), none⟩,
    ⟨(some 29), .val (.mov (.t 11)), none⟩,
    ⟨(some 30), .val (.mov (.t 4)), none⟩,
    ⟨(some 31), .callF (.f 143) [(.t 24), (.t 27), (.t 28), (.t 29), (.t 30)], none⟩]
def g139_5 : List Am.Item := [
    ⟨(some 32), .val (.mov (.t 10)), none⟩,
    ⟨(some 33), .val (.mov (.t 11)), none⟩,
    ⟨(some 34), .val (.bin .num .sub (.t 32) (.t 33)), none⟩,
    ⟨(some 10), .val (.mov (.t 34)), none⟩]
def g139_6 : List Am.Item := [
    ⟨(some 35), .val (.mov (.t 0)), none⟩,
    ⟨(some 36), .val (.mov (.t 2)), none⟩,
    ⟨(some 37), .val (.mov (.t 10)), none⟩,
    ⟨(some 38), .val (.bin .num .sub (.t 36) (.t 37)), none⟩,
    ⟨(some 39), .val (.mov (.t 2)), none⟩,
    ⟨(some 40), .val (.mov (.t 11)), none⟩,
    ⟨(some 41), .val (.bin .num .add (.t 39) (.t 40)), none⟩,
    ⟨(some 42), .val (.mov (.t 10)), none⟩,
    ⟨(some 43), .val (.bin .num .sub (.t 41) (.t 42)), none⟩,
    ⟨(some 44), .val (.mov (.t 10)), none⟩,
    ⟨(some 45), .val (.mov (.t 4)), none⟩,
    ⟨(some 46), .callF (.f 143) [(.t 35), (.t 38), (.t 43), (.t 44), (.t 45)], none⟩]
def g139_7 : List Am.Item := [
    ⟨(some 47), .val (.mov (.t 11)), none⟩,
    ⟨(some 48), .val (.mov (.t 10)), none⟩,
    ⟨(some 49), .val (.bin .num .sub (.t 47) (.t 48)), none⟩,
    ⟨(some 11), .val (.mov (.t 49)), none⟩]
def l139_0 : RC := .seq (.seq (.reg g139_2) (.cond (.t 20) (.skip) (.exit 0))) (.block 1 (.seq (.reg g139_3) (.cond (.t 23) (.seq (.reg g139_4) (.reg g139_5)) (.seq (.reg g139_6) (.reg g139_7)))))
def g139_8 : List Am.Item := [
    ⟨(some 50), .val (.mov (.t 0)), none⟩,
    ⟨(some 51), .val (.mov (.t 2)), none⟩,
    ⟨(some 52), .val (.mov (.t 10)), none⟩,
    ⟨(some 53), .val (.bin .num .sub (.t 51) (.t 52)), none⟩,
    ⟨(some 54), .val (.mov (.t 2)), none⟩,
    ⟨(some 55), .val (.mov (.t 10)), none⟩,
    ⟨(some 56), .val (.mov (.t 4)), none⟩,
    ⟨(some 57), .callF (.f 143) [(.t 50), (.t 53), (.t 54), (.t 55), (.t 56)], none⟩]
def r139 : RC := .seq (.reg g139_0) (.seq (.reg g139_1) (.seq (.block 0 (.loop l139_0)) (.reg g139_8)))
def o139 : List RR := []
theorem k139 : chkC Tryz.prog 58 r139 (Tryz.f139.body.getD .skip) = true := by decide +kernel
theorem q139 : chkR Tryz.prog Tryz.f139.results.toList o139 = true := by decide +kernel

/- cmp.isNaN[string] -/
def g140_0 : List Am.Item := [
    ⟨(some 2), .val (.mov (.c (.bool false))), none⟩]
def g140_1 : List Am.Item := [
    ⟨(some 3), .val (.mov (.t 0)), none⟩,
    ⟨(some 4), .val (.mov (.t 0)), none⟩,
    ⟨(some 5), .val (.bin .str .neq (.t 3) (.t 4)), none⟩,
    ⟨(some 2), .val (.mov (.t 5)), none⟩]
def r140 : RC := .seq (.reg g140_0) (.seq (.reg g140_1) (.ret))
def o140 : List RR := [.tmp 2]
theorem k140 : chkC Tryz.prog 6 r140 (Tryz.f140.body.getD .skip) = true := by decide +kernel
theorem q140 : chkR Tryz.prog Tryz.f140.results.toList o140 = true := by decide +kernel

/- cmp.isNaN[uint64] -/
def g141_0 : List Am.Item := [
    ⟨(some 2), .val (.mov (.c (.bool false))), none⟩]
def g141_1 : List Am.Item := [
    ⟨(some 3), .val (.mov (.t 0)), none⟩,
    ⟨(some 4), .val (.mov (.t 0)), none⟩,
    ⟨(some 5), .val (.bin .num .neq (.t 3) (.t 4)), none⟩,
    ⟨(some 2), .val (.mov (.t 5)), none⟩]
def r141 : RC := .seq (.reg g141_0) (.seq (.reg g141_1) (.ret))
def o141 : List RR := [.tmp 2]
theorem k141 : chkC Tryz.prog 6 r141 (Tryz.f141.body.getD .skip) = true := by decide +kernel
theorem q141 : chkR Tryz.prog Tryz.f141.results.toList o141 = true := by decide +kernel

/- strings.HasPrefix -/
def g142_0 : List Am.Item := [
    ⟨(some 4), .val (.mov (.c (.bool false))), none⟩]
def g142_1 : List Am.Item := [
    ⟨(some 5), .val (.mov (.t 0)), none⟩,
    ⟨(some 6), .val (.mov (.t 1)), none⟩,
    ⟨(some 7), .call (.f 144) [(.t 5), (.t 6)], none⟩,
    ⟨(some 4), .val (.mov (.t 7)), none⟩]
def r142 : RC := .seq (.reg g142_0) (.seq (.reg g142_1) (.ret))
def o142 : List RR := [.tmp 4]
theorem k142 : chkC Tryz.prog 8 r142 (Tryz.f142.body.getD .skip) = true := by decide +kernel
theorem q142 : chkR Tryz.prog Tryz.f142.results.toList o142 = true := by decide +kernel

/- slices.swapRangeCmpFunc[wireschema/api.Pair] -/
def g143_0 : List Am.Item := [
    ⟨(some 10), .val (.mov (.c (.int .i64 0))), none⟩]
def g143_1 : List Am.Item := [
    ⟨(some 11), .val (.mov (.t 10)), none⟩,
    ⟨(some 12), .val (.mov (.t 3)), none⟩,
    ⟨(some 13), .val (.bin .num .lss (.t 11) (.t 12)), none⟩]
def g143_3 : List Am.Item := [
    ⟨(some 16), .val (.mov (.t 0)), none⟩,
    ⟨(some 17), .val (.mov (.t 1)), none⟩,
    ⟨(some 18), .val (.mov (.t 10)), none⟩,
    ⟨(some 19), .val (.bin .num .add (.t 17) (.t 18)), none⟩,
    ⟨(some 20), .val (.mov (.t 0)), none⟩,
    ⟨(some 21), .val (.mov (.t 2)), none⟩,
    ⟨(some 22), .val (.mov (.t 10)), none⟩,
    ⟨(some 23), .val (.bin .num .add (.t 21) (.t 22)), none⟩,
    ⟨(some 24), .val (.mov (.t 0)), none⟩,
    ⟨(some 25), .val (.mov (.t 2)), none⟩,
    ⟨(some 26), .val (.mov (.t 10)), none⟩,
    ⟨(some 27), .val (.bin .num .add (.t 25) (.t 26)), none⟩,
    ⟨(some 28), .val (.iaddr 14 none (.t 24) (.t 27)), none⟩,
    ⟨(some 29), .val (.loadr (some 14) (.t 28)), none⟩,
    ⟨(some 30), .val (.mov (.t 0)), none⟩,
    ⟨(some 31), .val (.mov (.t 1)), none⟩,
    ⟨(some 32), .val (.mov (.t 10)), none⟩,
    ⟨(some 33), .val (.bin .num .add (.t 31) (.t 32)), none⟩,
    ⟨(some 34), .val (.iaddr 14 none (.t 30) (.t 33)), none⟩,
    ⟨(some 35), .val (.loadr (some 14) (.t 34)), none⟩,
    ⟨(some 36), .val (.iaddr 14 none (.t 16) (.t 19)), none⟩,
    ⟨none, .store 14 (.t 36) (.t 29), none⟩,
    ⟨(some 37), .val (.iaddr 14 none (.t 20) (.t 23)), none⟩,
    ⟨none, .store 14 (.t 37) (.t 35), none⟩]
def g143_2 : List Am.Item := [
    ⟨(some 14), .val (.mov (.t 10)), none⟩,
    ⟨(some 15), .val (.bin .num .add (.t 14) (.c (.int .i64 1))), none⟩,
    ⟨(some 10), .val (.mov (.t 15)), none⟩]
def l143_0 : RC := .seq (.seq (.reg g143_1) (.cond (.t 13) (.skip) (.exit 0))) (.seq (.block 1 (.draw g143_3)) (.reg g143_2))
def r143 : RC := .seq (.reg g143_0) (.block 0 (.loop l143_0))
def o143 : List RR := []
theorem k143 : chkC Tryz.prog 38 r143 (Tryz.f143.body.getD .skip) = true := by decide +kernel
theorem q143 : chkR Tryz.prog Tryz.f143.results.toList o143 = true := by decide +kernel

/- internal/stringslite.HasPrefix -/
def g144_0 : List Am.Item := [
    ⟨(some 4), .val (.mov (.c (.bool false))), none⟩]
def g144_1 : List Am.Item := [
    ⟨(some 5), .val (.mov (.t 0)), none⟩,
    ⟨(some 6), .val (.len 0 (.t 5)), none⟩,
    ⟨(some 7), .val (.mov (.t 1)), none⟩,
    ⟨(some 8), .val (.len 0 (.t 7)), none⟩,
    ⟨(some 9), .val (.bin .num .geq (.t 6) (.t 8)), none⟩,
    ⟨(some 10), .val (.mov (.t 9)), none⟩,
    ⟨(some 11), .val (.mov (.t 0)), (some (10, true))⟩,
    ⟨(some 12), .val (.mov (.t 1)), (some (10, true))⟩,
    ⟨(some 13), .val (.len 0 (.t 12)), (some (10, true))⟩,
    ⟨(some 14), .val (.slc none (.t 11) none (some (.t 13)) none), (some (10, true))⟩,
    ⟨(some 15), .val (.mov (.t 1)), (some (10, true))⟩,
    ⟨(some 16), .val (.bin .str .eql (.t 14) (.t 15)), (some (10, true))⟩,
    ⟨(some 17), .val (.pick (.t 10) (.t 16) (.c (.bool false))), none⟩,
    ⟨(some 4), .val (.mov (.t 17)), none⟩]
def r144 : RC := .seq (.reg g144_0) (.seq (.reg g144_1) (.ret))
def o144 : List RR := [.tmp 4]
theorem k144 : chkC Tryz.prog 18 r144 (Tryz.f144.body.getD .skip) = true := by decide +kernel
theorem q144 : chkR Tryz.prog Tryz.f144.results.toList o144 = true := by decide +kernel

/- wireschema/unknown.Scan -/
def g4_0 : List Am.Item := [
    ⟨(some 3), .boxN 3 (.t 1), none⟩,
    ⟨(some 4), .val (.mov (.c (.nils))), none⟩,
    ⟨(some 5), .val (.mov (.c (.int .i64 0))), none⟩]
def g4_1 : List Am.Item := [
    ⟨(some 13), .val (.mov (.t 0)), none⟩,
    ⟨(some 14), .val (.load (some 4) (.t 3)), none⟩,
    ⟨(some 15), .call (.f 9) [(.t 13), (.t 14)], none⟩,
    ⟨(some 12), .val (.mov (.t 15)), none⟩,
    ⟨(some 16), .val (.ext (.t 12) 0), none⟩,
    ⟨(some 17), .val (.ext (.t 12) 1), none⟩,
    ⟨(some 6), .allocN 6 [.str [], .int .i64 0, .int .i64 0, .int .i64 0, .int .i64 0, .int .i64 0], none⟩,
    ⟨none, .store 6 (.t 6) (.t 16), none⟩,
    ⟨(some 7), .val (.mov (.t 17)), none⟩]
def g4_2 : List Am.Item := [
    ⟨(some 18), .val (.mov (.t 7)), none⟩,
    ⟨(some 19), .val (.bin .num .neq (.t 18) (.c (.int .i64 0))), none⟩]
def g4_3 : List Am.Item := [
    ⟨(some 20), .val (.mov (.t 7)), none⟩,
    ⟨(some 4), .val (.mov (.c (.nils))), none⟩,
    ⟨(some 5), .val (.mov (.t 20)), none⟩]
def g4_4 : List Am.Item := [
    ⟨(some 21), .val (.load (some 6) (.t 6)), none⟩,
    ⟨(some 22), .val (.build [.str [], .int .i64 0, .int .i64 0, .int .i64 0, .int .i64 0, .int .i64 0, .int .i64 0] [(0, 6, (.t 21))]), none⟩,
    ⟨(some 23), .boxN 23 (.t 22), none⟩,
    ⟨(some 8), .val (.mov (.t 23)), none⟩]
def g4_5 : List Am.Item := [
    ⟨(some 9), .val (.mov (.c (.nils))), none⟩]
def g4_6 : List Am.Item := [
    ⟨(some 24), .val (.mov (.t 8)), none⟩,
    ⟨(some 25), .val (.nilck (.t 24)), none⟩,
    ⟨(some 26), .val (.faddr 6 (.t 25)), none⟩,
    ⟨(some 27), .val (.load none (.t 26)), none⟩,
    ⟨(some 28), .val (.mov (.t 0)), none⟩,
    ⟨(some 29), .val (.len 0 (.t 28)), none⟩,
    ⟨(some 30), .val (.bin .num .lss (.t 27) (.t 29)), none⟩]
def g4_7 : List Am.Item := [
    ⟨(some 32), .val (.mov (.t 8)), none⟩,
    ⟨(some 33), .callF (.f 10) [(.t 32)], none⟩,
    ⟨(some 31), .val (.mov (.t 33)), none⟩,
    ⟨(some 34), .val (.ext (.t 31) 0), none⟩,
    ⟨(some 35), .val (.ext (.t 31) 1), none⟩,
    ⟨(some 10), .allocN 10 [.int .i64 0, .int .i64 0, .int .u64 0, .str []], none⟩,
    ⟨none, .store 4 (.t 10) (.t 34), none⟩,
    ⟨(some 11), .val (.mov (.t 35)), none⟩]
def g4_8 : List Am.Item := [
    ⟨(some 36), .val (.mov (.t 11)), none⟩,
    ⟨(some 37), .val (.bin .num .neq (.t 36) (.c (.int .i64 0))), none⟩]
def g4_9 : List Am.Item := [
    ⟨(some 38), .val (.mov (.t 11)), none⟩,
    ⟨(some 4), .val (.mov (.c (.nils))), none⟩,
    ⟨(some 5), .val (.mov (.t 38)), none⟩]
def g4_10 : List Am.Item := [
    ⟨(some 39), .val (.mov (.t 9)), none⟩,
    ⟨(some 40), .val (.load (some 4) (.t 10)), none⟩,
    ⟨(some 41), .bsl 4 1 [.int .i64 0, .int .i64 0, .int .u64 0, .str []] [(0, 4, (.t 40))], none⟩,
    ⟨(some 42), .app 4 40 55 (.t 39) (.t 41), none⟩,
    ⟨(some 9), .val (.mov (.t 42)), none⟩]
def l4_0 : RC := .gho (.drop 10) (.seq (.seq (.reg g4_6) (.cond (.t 30) (.skip) (.exit 0))) (.block 1 (.seq (.reg g4_7) (.seq (.seq (.reg g4_8) (.cond (.t 37) (.seq (.reg g4_9) (.ret)) (.skip))) (.reg g4_10)))))
def g4_11 : List Am.Item := [
    ⟨(some 43), .val (.mov (.t 9)), none⟩,
    ⟨(some 4), .val (.mov (.t 43)), none⟩,
    ⟨(some 5), .val (.mov (.c (.int .i64 0))), none⟩]
def r4 : RC := .seq (.reg g4_0) (.seq (.reg g4_1) (.seq (.seq (.reg g4_2) (.cond (.t 19) (.seq (.reg g4_3) (.ret)) (.skip))) (.seq (.reg g4_4) (.seq (.reg g4_5) (.gho (.vec 9 9 4) (.seq (.block 0 (.loop l4_0)) (.seq (.reg g4_11) (.ret))))))))
def o4 : List RR := [.tmp 4, .tmp 5]
theorem k4 : chkC Tryz.prog 44 r4 (Tryz.f4.body.getD .skip) = true := by decide +kernel
theorem q4 : chkR Tryz.prog Tryz.f4.results.toList o4 = true := by decide +kernel

/- (*wireschema/unknown.scanner).next -/
def g10_0 : List Am.Item := [
    ⟨(some 1), .boxN 1 (.t 0), none⟩,
    ⟨(some 2), .allocN 2 [.int .i64 0, .int .i64 0, .int .u64 0, .str []], none⟩,
    ⟨(some 3), .val (.mov (.c (.int .i64 0))), none⟩]
def g10_1 : List Am.Item := [
    ⟨(some 5), .val (.load none (.t 1)), none⟩,
    ⟨(some 6), .val (.nilck (.t 5)), none⟩,
    ⟨(some 7), .val (.faddr 0 (.t 6)), none⟩,
    ⟨(some 8), .val (.faddr 1 (.t 7)), none⟩,
    ⟨(some 9), .val (.load none (.t 8)), none⟩,
    ⟨(some 4), .allocN 4 [.int .i64 0], none⟩,
    ⟨none, .store 1 (.t 4) (.t 9), none⟩]
def g10_2 : List Am.Item := [
    ⟨(some 10), .val (.mkfn (.func 21) [] [(.t 1), (.t 4)]), none⟩,
    ⟨none, .dfr (.t 10) [], none⟩]
def g10_3 : List Am.Item := [
    ⟨(some 12), .val (.loadv 0 1 none (.t 1)), none⟩,
    ⟨(some 13), .val (.loadv 0 1 none (.t 1)), none⟩,
    ⟨(some 14), .val (.nilck (.t 13)), none⟩,
    ⟨(some 15), .val (.faddr 0 (.t 14)), none⟩,
    ⟨(some 16), .val (.load (some 6) (.t 15)), none⟩,
    ⟨(some 17), .call (.f 22) [(.t 16)], none⟩,
    ⟨(some 11), .val (.mov (.t 17)), none⟩,
    ⟨(some 18), .val (.ext (.t 11) 0), none⟩,
    ⟨(some 19), .val (.ext (.t 11) 1), none⟩,
    ⟨(some 20), .val (.ext (.t 11) 2), none⟩,
    ⟨none, .storev 0 2 4 (.t 2) (.t 18), none⟩,
    ⟨(some 21), .val (.nilck (.t 12)), none⟩,
    ⟨(some 22), .val (.faddr 0 (.t 21)), none⟩,
    ⟨none, .store 6 (.t 22) (.t 19), none⟩,
    ⟨(some 3), .val (.mov (.t 20)), none⟩]
def g10_4 : List Am.Item := [
    ⟨(some 23), .val (.load (some 4) (.t 2)), none⟩,
    ⟨(some 24), .val (.mov (.t 3)), none⟩,
    ⟨none, .store 4 (.t 2) (.t 23), none⟩,
    ⟨(some 3), .val (.mov (.t 24)), none⟩]
def r10 : RC := .seq (.reg g10_0) (.seq (.reg g10_1) (.seq (.reg g10_2) (.seq (.draw g10_3) (.seq (.reg g10_4) (.ret)))))
def o10 : List RR := [.cell 2 (some 4), .tmp 3]
theorem k10 : chkC Tryz.prog 25 r10 (Tryz.f10.body.getD .skip) = true := by decide +kernel
theorem q10 : chkR Tryz.prog Tryz.f10.results.toList o10 = true := by decide +kernel

/- (*wireschema/unknown.scanner).next$1 -/
def g21_0 : List Am.Item := [
    ⟨(some 2), .val (.load none (.t 0)), none⟩,
    ⟨(some 3), .val (.nilck (.t 2)), none⟩,
    ⟨(some 4), .val (.faddr 6 (.t 3)), none⟩,
    ⟨(some 5), .val (.load none (.t 4)), none⟩,
    ⟨(some 6), .val (.load none (.t 0)), none⟩,
    ⟨(some 7), .val (.nilck (.t 6)), none⟩,
    ⟨(some 8), .val (.faddr 0 (.t 7)), none⟩,
    ⟨(some 9), .val (.faddr 1 (.t 8)), none⟩,
    ⟨(some 10), .val (.load none (.t 9)), none⟩,
    ⟨(some 11), .val (.load none (.t 1)), none⟩,
    ⟨(some 12), .val (.bin .num .sub (.t 10) (.t 11)), none⟩,
    ⟨(some 13), .val (.bin .num .add (.t 5) (.t 12)), none⟩,
    ⟨(some 14), .val (.nilck (.t 2)), none⟩,
    ⟨(some 15), .val (.faddr 6 (.t 14)), none⟩,
    ⟨none, .store 1 (.t 15) (.t 13), none⟩]
def r21 : RC := .draw g21_0
def o21 : List RR := []
theorem k21 : chkC Tryz.prog 16 r21 (Tryz.f21.body.getD .skip) = true := by decide +kernel
theorem q21 : chkR Tryz.prog Tryz.f21.results.toList o21 = true := by decide +kernel

/- wireschema/unknown.Sort -/
def g8_0 : List Am.Item := [
    ⟨(some 2), .val (.mov (.c (.nils))), none⟩]
def g8_1 : List Am.Item := [
    ⟨(some 4), .val (.mov (.t 0)), none⟩,
    ⟨(some 5), .callF (.f 17) [(.t 4)], none⟩,
    ⟨(some 3), .val (.mov (.t 5)), none⟩]
def g8_2 : List Am.Item := [
    ⟨(some 6), .val (.mov (.t 3)), none⟩,
    ⟨(some 7), .callF (.f 18) [(.t 6), (.f 19)], none⟩]
def g8_3 : List Am.Item := [
    ⟨(some 8), .val (.mov (.t 3)), none⟩,
    ⟨(some 2), .val (.mov (.t 8)), none⟩]
def r8 : RC := .seq (.reg g8_0) (.seq (.reg g8_1) (.seq (.reg g8_2) (.seq (.reg g8_3) (.ret))))
def o8 : List RR := [.tmp 2]
theorem k8 : chkC Tryz.prog 9 r8 (Tryz.f8.body.getD .skip) = true := by decide +kernel
theorem q8 : chkR Tryz.prog Tryz.f8.results.toList o8 = true := by decide +kernel

/- wireschema/unknown.Sort$1 -/
def g19_0 : List Am.Item := [
    ⟨(some 2), .boxN 2 (.t 0), none⟩,
    ⟨(some 3), .boxN 3 (.t 1), none⟩,
    ⟨(some 4), .val (.mov (.c (.int .i64 0))), none⟩]
def g19_1 : List Am.Item := [
    ⟨(some 5), .val (.faddr 0 (.t 2)), none⟩,
    ⟨(some 6), .val (.load none (.t 5)), none⟩,
    ⟨(some 7), .val (.faddr 0 (.t 3)), none⟩,
    ⟨(some 8), .val (.load none (.t 7)), none⟩,
    ⟨(some 9), .call (.f 20) [(.t 6), (.t 8)], none⟩,
    ⟨(some 4), .val (.mov (.t 9)), none⟩]
def r19 : RC := .seq (.reg g19_0) (.seq (.reg g19_1) (.ret))
def o19 : List RR := [.tmp 4]
theorem k19 : chkC Tryz.prog 10 r19 (Tryz.f19.body.getD .skip) = true := by decide +kernel
theorem q19 : chkR Tryz.prog Tryz.f19.results.toList o19 = true := by decide +kernel

/- wireschema/wireschemaref16.number -/
def g44_0 : List Am.Item := [
    ⟨(some 4), .val (.mov (.c (.int .i64 0))), none⟩]
def g44_1 : List Am.Item := [
    ⟨(some 5), .val (.mov (.t 0)), none⟩,
    ⟨(some 6), .val (.mov (.t 1)), none⟩,
    ⟨(some 7), .val (.bin .num .lss (.t 5) (.t 6)), none⟩]
def g44_2 : List Am.Item := [
    ⟨(some 4), .val (.mov (.c (.int .i64 (-1)))), none⟩]
def g44_3 : List Am.Item := [
    ⟨(some 8), .val (.mov (.t 0)), none⟩,
    ⟨(some 9), .val (.mov (.t 1)), none⟩,
    ⟨(some 10), .val (.bin .num .gtr (.t 8) (.t 9)), none⟩]
def g44_4 : List Am.Item := [
    ⟨(some 4), .val (.mov (.c (.int .i64 1))), none⟩]
def g44_5 : List Am.Item := [
    ⟨(some 4), .val (.mov (.c (.int .i64 0))), none⟩]
def r44 : RC := .seq (.reg g44_0) (.seq (.seq (.reg g44_1) (.cond (.t 7) (.seq (.reg g44_2) (.ret)) (.skip))) (.seq (.seq (.reg g44_3) (.cond (.t 10) (.seq (.reg g44_4) (.ret)) (.skip))) (.seq (.reg g44_5) (.ret))))
def o44 : List RR := [.tmp 4]
theorem k44 : chkC Tryz.prog 11 r44 (Tryz.f44.body.getD .skip) = true := by decide +kernel
theorem q44 : chkR Tryz.prog Tryz.f44.results.toList o44 = true := by decide +kernel

/- wireschema/wireschemaref16.raw -/
def g71_0 : List Am.Item := [
    ⟨(some 2), .boxN 2 (.t 0), none⟩,
    ⟨(some 3), .boxN 3 (.t 1), none⟩,
    ⟨(some 4), .val (.mov (.c (.int .i64 0))), none⟩]
def g71_1 : List Am.Item := [
    ⟨(some 6), .val (.faddr 0 (.t 2)), none⟩,
    ⟨(some 7), .val (.load none (.t 6)), none⟩,
    ⟨(some 8), .val (.faddr 0 (.t 3)), none⟩,
    ⟨(some 9), .val (.load none (.t 8)), none⟩,
    ⟨(some 10), .val (.bin .num .neq (.t 7) (.t 9)), none⟩,
    ⟨(some 5), .val (.mov (.t 10)), none⟩]
def g71_2 : List Am.Item := [
    ⟨(some 11), .val (.faddr 0 (.t 2)), none⟩,
    ⟨(some 12), .val (.load none (.t 11)), none⟩,
    ⟨(some 13), .val (.faddr 0 (.t 3)), none⟩,
    ⟨(some 14), .val (.load none (.t 13)), none⟩,
    ⟨(some 15), .call (.f 44) [(.t 12), (.t 14)], none⟩,
    ⟨(some 4), .val (.mov (.t 15)), none⟩]
def g71_3 : List Am.Item := [
    ⟨(some 17), .val (.faddr 1 (.t 2)), none⟩,
    ⟨(some 18), .val (.load none (.t 17)), none⟩,
    ⟨(some 19), .val (.faddr 1 (.t 3)), none⟩,
    ⟨(some 20), .val (.load none (.t 19)), none⟩,
    ⟨(some 21), .val (.bin .num .neq (.t 18) (.t 20)), none⟩,
    ⟨(some 16), .val (.mov (.t 21)), none⟩]
def g71_4 : List Am.Item := [
    ⟨(some 22), .val (.faddr 1 (.t 2)), none⟩,
    ⟨(some 23), .val (.load none (.t 22)), none⟩,
    ⟨(some 24), .val (.faddr 1 (.t 3)), none⟩,
    ⟨(some 25), .val (.load none (.t 24)), none⟩,
    ⟨(some 26), .call (.f 44) [(.t 23), (.t 25)], none⟩,
    ⟨(some 4), .val (.mov (.t 26)), none⟩]
def g71_5 : List Am.Item := [
    ⟨(some 28), .val (.faddr 2 (.t 2)), none⟩,
    ⟨(some 29), .val (.load none (.t 28)), none⟩,
    ⟨(some 30), .val (.faddr 2 (.t 3)), none⟩,
    ⟨(some 31), .val (.load none (.t 30)), none⟩,
    ⟨(some 32), .val (.bin .num .lss (.t 29) (.t 31)), none⟩,
    ⟨(some 27), .val (.mov (.t 32)), none⟩]
def g71_6 : List Am.Item := [
    ⟨(some 4), .val (.mov (.c (.int .i64 (-1)))), none⟩]
def g71_7 : List Am.Item := [
    ⟨(some 34), .val (.faddr 2 (.t 2)), none⟩,
    ⟨(some 35), .val (.load none (.t 34)), none⟩,
    ⟨(some 36), .val (.faddr 2 (.t 3)), none⟩,
    ⟨(some 37), .val (.load none (.t 36)), none⟩,
    ⟨(some 38), .val (.bin .num .gtr (.t 35) (.t 37)), none⟩,
    ⟨(some 33), .val (.mov (.t 38)), none⟩]
def g71_8 : List Am.Item := [
    ⟨(some 4), .val (.mov (.c (.int .i64 1))), none⟩]
def g71_9 : List Am.Item := [
    ⟨(some 40), .val (.faddr 3 (.t 2)), none⟩,
    ⟨(some 41), .val (.load none (.t 40)), none⟩,
    ⟨(some 42), .val (.faddr 3 (.t 3)), none⟩,
    ⟨(some 43), .val (.load none (.t 42)), none⟩,
    ⟨(some 44), .val (.bin .str .lss (.t 41) (.t 43)), none⟩,
    ⟨(some 39), .val (.mov (.t 44)), none⟩]
def g71_10 : List Am.Item := [
    ⟨(some 4), .val (.mov (.c (.int .i64 (-1)))), none⟩]
def g71_11 : List Am.Item := [
    ⟨(some 46), .val (.faddr 3 (.t 2)), none⟩,
    ⟨(some 47), .val (.load none (.t 46)), none⟩,
    ⟨(some 48), .val (.faddr 3 (.t 3)), none⟩,
    ⟨(some 49), .val (.load none (.t 48)), none⟩,
    ⟨(some 50), .val (.bin .str .gtr (.t 47) (.t 49)), none⟩,
    ⟨(some 45), .val (.mov (.t 50)), none⟩]
def g71_12 : List Am.Item := [
    ⟨(some 4), .val (.mov (.c (.int .i64 1))), none⟩]
def g71_13 : List Am.Item := [
    ⟨(some 4), .val (.mov (.c (.int .i64 0))), none⟩]
def r71 : RC := .seq (.reg g71_0) (.seq (.block 0 (.seq (.reg g71_1) (.cond (.t 5) (.seq (.reg g71_2) (.ret)) (.seq (.reg g71_3) (.cond (.t 16) (.seq (.reg g71_4) (.ret)) (.seq (.reg g71_5) (.cond (.t 27) (.seq (.reg g71_6) (.ret)) (.seq (.reg g71_7) (.cond (.t 33) (.seq (.reg g71_8) (.ret)) (.seq (.reg g71_9) (.cond (.t 39) (.seq (.reg g71_10) (.ret)) (.seq (.reg g71_11) (.cond (.t 45) (.seq (.reg g71_12) (.ret)) (.skip)))))))))))))) (.seq (.reg g71_13) (.ret)))
def o71 : List RR := [.tmp 4]
theorem k71 : chkC Tryz.prog 51 r71 (Tryz.f71.body.getD .skip) = true := by decide +kernel
theorem q71 : chkR Tryz.prog Tryz.f71.results.toList o71 = true := by decide +kernel

/- wireschema/wireschemaref16.raws -/
def g48_0 : List Am.Item := [
    ⟨(some 4), .val (.mov (.c (.int .i64 0))), none⟩]
def g48_1 : List Am.Item := [
    ⟨(some 5), .val (.mov (.c (.int .i64 0))), none⟩]
def g48_2 : List Am.Item := [
    ⟨(some 7), .val (.mov (.t 5)), none⟩,
    ⟨(some 8), .val (.mov (.t 0)), none⟩,
    ⟨(some 9), .val (.len 1 (.t 8)), none⟩,
    ⟨(some 10), .val (.bin .num .lss (.t 7) (.t 9)), none⟩,
    ⟨(some 11), .val (.mov (.t 10)), none⟩,
    ⟨(some 12), .val (.mov (.t 5)), (some (11, true))⟩,
    ⟨(some 13), .val (.mov (.t 1)), (some (11, true))⟩,
    ⟨(some 14), .val (.len 1 (.t 13)), (some (11, true))⟩,
    ⟨(some 15), .val (.bin .num .lss (.t 12) (.t 14)), (some (11, true))⟩,
    ⟨(some 16), .val (.pick (.t 11) (.t 15) (.c (.bool false))), none⟩]
def g48_4 : List Am.Item := [
    ⟨(some 19), .val (.mov (.t 0)), none⟩,
    ⟨(some 20), .val (.mov (.t 5)), none⟩,
    ⟨(some 21), .val (.iaddr 4 none (.t 19) (.t 20)), none⟩,
    ⟨(some 22), .val (.loadr (some 4) (.t 21)), none⟩,
    ⟨(some 23), .val (.mov (.t 1)), none⟩,
    ⟨(some 24), .val (.mov (.t 5)), none⟩,
    ⟨(some 25), .val (.iaddr 4 none (.t 23) (.t 24)), none⟩,
    ⟨(some 26), .val (.loadr (some 4) (.t 25)), none⟩,
    ⟨(some 27), .call (.f 71) [(.t 22), (.t 26)], none⟩,
    ⟨(some 6), .val (.mov (.t 27)), none⟩]
def g48_5 : List Am.Item := [
    ⟨(some 28), .val (.mov (.t 6)), none⟩,
    ⟨(some 29), .val (.bin .num .neq (.t 28) (.c (.int .i64 0))), none⟩]
def g48_6 : List Am.Item := [
    ⟨(some 30), .val (.mov (.t 6)), none⟩,
    ⟨(some 4), .val (.mov (.t 30)), none⟩]
def g48_3 : List Am.Item := [
    ⟨(some 17), .val (.mov (.t 5)), none⟩,
    ⟨(some 18), .val (.bin .num .add (.t 17) (.c (.int .i64 1))), none⟩,
    ⟨(some 5), .val (.mov (.t 18)), none⟩]
def l48_0 : RC := .seq (.seq (.reg g48_2) (.cond (.t 16) (.skip) (.exit 0))) (.seq (.block 1 (.seq (.draw g48_4) (.seq (.reg g48_5) (.cond (.t 29) (.seq (.reg g48_6) (.ret)) (.skip))))) (.reg g48_3))
def g48_7 : List Am.Item := [
    ⟨(some 31), .val (.mov (.t 0)), none⟩,
    ⟨(some 32), .val (.len 1 (.t 31)), none⟩,
    ⟨(some 33), .val (.mov (.t 1)), none⟩,
    ⟨(some 34), .val (.len 1 (.t 33)), none⟩,
    ⟨(some 35), .call (.f 44) [(.t 32), (.t 34)], none⟩,
    ⟨(some 4), .val (.mov (.t 35)), none⟩]
def r48 : RC := .seq (.reg g48_0) (.seq (.seq (.reg g48_1) (.block 0 (.loop l48_0))) (.seq (.reg g48_7) (.ret)))
def o48 : List RR := [.tmp 4]
theorem k48 : chkC Tryz.prog 36 r48 (Tryz.f48.body.getD .skip) = true := by decide +kernel
theorem q48 : chkR Tryz.prog Tryz.f48.results.toList o48 = true := by decide +kernel

/- wireschema/wireschemaref16.slots -/
def g47_0 : List Am.Item := [
    ⟨(some 4), .val (.mov (.c (.int .i64 0))), none⟩]
def g47_1 : List Am.Item := [
    ⟨(some 5), .val (.mov (.c (.int .i64 0))), none⟩]
def g47_2 : List Am.Item := [
    ⟨(some 8), .val (.mov (.t 5)), none⟩,
    ⟨(some 9), .val (.mov (.t 0)), none⟩,
    ⟨(some 10), .val (.len 1 (.t 9)), none⟩,
    ⟨(some 11), .val (.bin .num .lss (.t 8) (.t 10)), none⟩,
    ⟨(some 12), .val (.mov (.t 11)), none⟩,
    ⟨(some 13), .val (.mov (.t 5)), (some (12, true))⟩,
    ⟨(some 14), .val (.mov (.t 1)), (some (12, true))⟩,
    ⟨(some 15), .val (.len 1 (.t 14)), (some (12, true))⟩,
    ⟨(some 16), .val (.bin .num .lss (.t 13) (.t 15)), (some (12, true))⟩,
    ⟨(some 17), .val (.pick (.t 12) (.t 16) (.c (.bool false))), none⟩]
def g47_4 : List Am.Item := [
    ⟨(some 20), .val (.mov (.t 0)), none⟩,
    ⟨(some 21), .val (.mov (.t 5)), none⟩,
    ⟨(some 22), .val (.iaddr 8 none (.t 20) (.t 21)), none⟩,
    ⟨(some 23), .val (.faddr 0 (.t 22)), none⟩,
    ⟨(some 24), .val (.loadr none (.t 23)), none⟩,
    ⟨(some 25), .val (.mov (.t 1)), none⟩,
    ⟨(some 26), .val (.mov (.t 5)), none⟩,
    ⟨(some 27), .val (.iaddr 8 none (.t 25) (.t 26)), none⟩,
    ⟨(some 28), .val (.faddr 0 (.t 27)), none⟩,
    ⟨(some 29), .val (.loadr none (.t 28)), none⟩,
    ⟨(some 30), .call (.f 44) [(.t 24), (.t 29)], none⟩,
    ⟨(some 6), .val (.mov (.t 30)), none⟩]
def g47_5 : List Am.Item := [
    ⟨(some 31), .val (.mov (.t 6)), none⟩,
    ⟨(some 32), .val (.bin .num .neq (.t 31) (.c (.int .i64 0))), none⟩]
def g47_6 : List Am.Item := [
    ⟨(some 33), .val (.mov (.t 6)), none⟩,
    ⟨(some 4), .val (.mov (.t 33)), none⟩]
def g47_7 : List Am.Item := [
    ⟨(some 34), .val (.mov (.t 0)), none⟩,
    ⟨(some 35), .val (.mov (.t 5)), none⟩,
    ⟨(some 36), .val (.iaddr 8 none (.t 34) (.t 35)), none⟩,
    ⟨(some 37), .val (.faddr 1 (.t 36)), none⟩,
    ⟨(some 38), .val (.loadr (some 7) (.t 37)), none⟩,
    ⟨(some 39), .val (.mov (.t 1)), none⟩,
    ⟨(some 40), .val (.mov (.t 5)), none⟩,
    ⟨(some 41), .val (.iaddr 8 none (.t 39) (.t 40)), none⟩,
    ⟨(some 42), .val (.faddr 1 (.t 41)), none⟩,
    ⟨(some 43), .val (.loadr (some 7) (.t 42)), none⟩,
    ⟨(some 44), .call (.f 30) [(.t 38), (.t 43)], none⟩,
    ⟨(some 7), .val (.mov (.t 44)), none⟩]
def g47_8 : List Am.Item := [
    ⟨(some 45), .val (.mov (.t 7)), none⟩,
    ⟨(some 46), .val (.bin .num .neq (.t 45) (.c (.int .i64 0))), none⟩]
def g47_9 : List Am.Item := [
    ⟨(some 47), .val (.mov (.t 7)), none⟩,
    ⟨(some 4), .val (.mov (.t 47)), none⟩]
def g47_3 : List Am.Item := [
    ⟨(some 18), .val (.mov (.t 5)), none⟩,
    ⟨(some 19), .val (.bin .num .add (.t 18) (.c (.int .i64 1))), none⟩,
    ⟨(some 5), .val (.mov (.t 19)), none⟩]
def l47_0 : RC := .seq (.seq (.reg g47_2) (.cond (.t 17) (.skip) (.exit 0))) (.seq (.block 1 (.seq (.seq (.draw g47_4) (.seq (.reg g47_5) (.cond (.t 32) (.seq (.reg g47_6) (.ret)) (.skip)))) (.seq (.draw g47_7) (.seq (.reg g47_8) (.cond (.t 46) (.seq (.reg g47_9) (.ret)) (.skip)))))) (.reg g47_3))
def g47_10 : List Am.Item := [
    ⟨(some 48), .val (.mov (.t 0)), none⟩,
    ⟨(some 49), .val (.len 1 (.t 48)), none⟩,
    ⟨(some 50), .val (.mov (.t 1)), none⟩,
    ⟨(some 51), .val (.len 1 (.t 50)), none⟩,
    ⟨(some 52), .call (.f 44) [(.t 49), (.t 51)], none⟩,
    ⟨(some 4), .val (.mov (.t 52)), none⟩]
def r47 : RC := .seq (.reg g47_0) (.seq (.seq (.reg g47_1) (.block 0 (.loop l47_0))) (.seq (.reg g47_10) (.ret)))
def o47 : List RR := [.tmp 4]
theorem k47 : chkC Tryz.prog 53 r47 (Tryz.f47.body.getD .skip) = true := by decide +kernel
theorem q47 : chkR Tryz.prog Tryz.f47.results.toList o47 = true := by decide +kernel

/- wireschema/wireschemaref16.Cmp -/
def g30_0 : List Am.Item := [
    ⟨(some 2), .boxN 2 (.t 0), none⟩,
    ⟨(some 3), .boxN 3 (.t 1), none⟩,
    ⟨(some 4), .val (.mov (.c (.int .i64 0))), none⟩]
def g30_1 : List Am.Item := [
    ⟨(some 6), .val (.faddr 0 (.t 2)), none⟩,
    ⟨(some 7), .val (.load none (.t 6)), none⟩,
    ⟨(some 8), .val (.faddr 0 (.t 3)), none⟩,
    ⟨(some 9), .val (.load none (.t 8)), none⟩,
    ⟨(some 10), .val (.bin .num .neq (.t 7) (.t 9)), none⟩]
def g30_2 : List Am.Item := [
    ⟨(some 11), .val (.faddr 0 (.t 2)), none⟩,
    ⟨(some 12), .val (.load none (.t 11)), none⟩,
    ⟨(some 13), .val (.faddr 0 (.t 3)), none⟩,
    ⟨(some 14), .val (.load none (.t 13)), none⟩,
    ⟨(some 15), .call (.f 44) [(.t 12), (.t 14)], none⟩,
    ⟨(some 4), .val (.mov (.t 15)), none⟩]
def g30_3 : List Am.Item := [
    ⟨(some 16), .val (.faddr 0 (.t 2)), none⟩,
    ⟨(some 17), .val (.load none (.t 16)), none⟩]
def g30_4 : List Am.Item := [
    ⟨(some 19), .val (.bin .num .eql (.t 17) (.c (.int .i64 11))), none⟩,
    ⟨(some 18), .val (.mov (.t 19)), none⟩]
def g30_5 : List Am.Item := [
    ⟨(some 20), .val (.faddr 3 (.t 2)), none⟩,
    ⟨(some 21), .val (.load none (.t 20)), none⟩,
    ⟨(some 22), .val (.faddr 3 (.t 3)), none⟩,
    ⟨(some 23), .val (.load none (.t 22)), none⟩,
    ⟨(some 24), .call (.f 45) [(.t 21), (.t 23)], none⟩,
    ⟨(some 4), .val (.mov (.t 24)), none⟩]
def g30_6 : List Am.Item := [
    ⟨(some 26), .val (.bin .num .eql (.t 17) (.c (.int .i64 12))), none⟩,
    ⟨(some 25), .val (.mov (.t 26)), none⟩]
def g30_7 : List Am.Item := [
    ⟨(some 27), .val (.faddr 4 (.t 2)), none⟩,
    ⟨(some 28), .val (.load none (.t 27)), none⟩,
    ⟨(some 29), .val (.faddr 4 (.t 3)), none⟩,
    ⟨(some 30), .val (.load none (.t 29)), none⟩,
    ⟨(some 31), .call (.f 46) [(.t 28), (.t 30)], none⟩,
    ⟨(some 4), .val (.mov (.t 31)), none⟩]
def g30_8 : List Am.Item := [
    ⟨(some 33), .val (.bin .num .eql (.t 17) (.c (.int .i64 10))), none⟩,
    ⟨(some 32), .val (.mov (.t 33)), none⟩]
def g30_9 : List Am.Item := [
    ⟨(some 34), .val (.faddr 5 (.t 2)), none⟩,
    ⟨(some 35), .val (.load none (.t 34)), none⟩,
    ⟨(some 36), .val (.faddr 5 (.t 3)), none⟩,
    ⟨(some 37), .val (.load none (.t 36)), none⟩,
    ⟨(some 38), .call (.f 47) [(.t 35), (.t 37)], none⟩,
    ⟨(some 5), .val (.mov (.t 38)), none⟩]
def g30_10 : List Am.Item := [
    ⟨(some 39), .val (.mov (.t 5)), none⟩,
    ⟨(some 40), .val (.bin .num .neq (.t 39) (.c (.int .i64 0))), none⟩]
def g30_11 : List Am.Item := [
    ⟨(some 41), .val (.mov (.t 5)), none⟩,
    ⟨(some 4), .val (.mov (.t 41)), none⟩]
def g30_12 : List Am.Item := [
    ⟨(some 42), .val (.faddr 6 (.t 2)), none⟩,
    ⟨(some 43), .val (.load none (.t 42)), none⟩,
    ⟨(some 44), .val (.faddr 6 (.t 3)), none⟩,
    ⟨(some 45), .val (.load none (.t 44)), none⟩,
    ⟨(some 46), .call (.f 48) [(.t 43), (.t 45)], none⟩,
    ⟨(some 4), .val (.mov (.t 46)), none⟩]
def g30_13 : List Am.Item := [
    ⟨(some 47), .val (.load (some 7) (.t 2)), none⟩,
    ⟨(some 48), .val (.load (some 7) (.t 3)), none⟩,
    ⟨(some 49), .call (.f 49) [(.t 47), (.t 48)], none⟩,
    ⟨(some 4), .val (.mov (.t 49)), none⟩]
def r30 : RC := .seq (.reg g30_0) (.seq (.seq (.reg g30_1) (.cond (.t 10) (.seq (.reg g30_2) (.ret)) (.skip))) (.seq (.seq (.reg g30_3) (.block 0 (.seq (.reg g30_4) (.cond (.t 18) (.seq (.reg g30_5) (.ret)) (.seq (.reg g30_6) (.cond (.t 25) (.seq (.reg g30_7) (.ret)) (.seq (.reg g30_8) (.cond (.t 32) (.seq (.seq (.reg g30_9) (.seq (.reg g30_10) (.cond (.t 40) (.seq (.reg g30_11) (.ret)) (.skip)))) (.seq (.reg g30_12) (.ret))) (.skip))))))))) (.seq (.reg g30_13) (.ret))))
def o30 : List RR := [.tmp 4]
theorem k30 : chkC Tryz.prog 50 r30 (Tryz.f30.body.getD .skip) = true := by decide +kernel
theorem q30 : chkR Tryz.prog Tryz.f30.results.toList o30 = true := by decide +kernel

/- wireschema/wireschemaref16.Equal -/
def g16_0 : List Am.Item := [
    ⟨(some 2), .boxN 2 (.t 0), none⟩,
    ⟨(some 3), .boxN 3 (.t 1), none⟩,
    ⟨(some 4), .val (.mov (.c (.bool false))), none⟩]
def g16_1 : List Am.Item := [
    ⟨(some 5), .val (.load (some 7) (.t 2)), none⟩,
    ⟨(some 6), .val (.load (some 7) (.t 3)), none⟩,
    ⟨(some 7), .call (.f 30) [(.t 5), (.t 6)], none⟩,
    ⟨(some 8), .val (.bin .num .eql (.t 7) (.c (.int .i64 0))), none⟩,
    ⟨(some 4), .val (.mov (.t 8)), none⟩]
def r16 : RC := .seq (.reg g16_0) (.seq (.reg g16_1) (.ret))
def o16 : List RR := [.tmp 4]
theorem k16 : chkC Tryz.prog 9 r16 (Tryz.f16.body.getD .skip) = true := by decide +kernel
theorem q16 : chkR Tryz.prog Tryz.f16.results.toList o16 = true := by decide +kernel

/- wireschema/wireschemalaw25.same -/
def g7_0 : List Am.Item := [
    ⟨(some 2), .boxN 2 (.t 0), none⟩,
    ⟨(some 3), .boxN 3 (.t 1), none⟩,
    ⟨(some 4), .val (.mov (.c (.bool false))), none⟩]
def g7_1 : List Am.Item := [
    ⟨(some 5), .val (.load (some 7) (.t 2)), none⟩,
    ⟨(some 6), .val (.load (some 7) (.t 3)), none⟩,
    ⟨(some 7), .call (.f 16) [(.t 5), (.t 6)], none⟩,
    ⟨(some 4), .val (.mov (.t 7)), none⟩]
def r7 : RC := .seq (.reg g7_0) (.seq (.reg g7_1) (.ret))
def o7 : List RR := [.tmp 4]
theorem k7 : chkC Tryz.prog 8 r7 (Tryz.f7.body.getD .skip) = true := by decide +kernel
theorem q7 : chkR Tryz.prog Tryz.f7.results.toList o7 = true := by decide +kernel

/- wireschema/wireschemalaw25.TagdecKeeps -/
def g3_0 : List Am.Item := [
    ⟨(some 3), .boxN 3 (.t 1), none⟩,
    ⟨(some 4), .val (.mov (.c (.bool false))), none⟩]
def g3_1 : List Am.Item := [
    ⟨(some 10), .val (.mov (.t 0)), none⟩,
    ⟨(some 11), .val (.len 0 (.t 10)), none⟩,
    ⟨(some 12), .val (.bin .num .gtr (.t 11) (.c (.int .i64 3000))), none⟩,
    ⟨(some 13), .val (.mov (.t 12)), none⟩,
    ⟨(some 14), .val (.faddr 2 (.t 3)), (some (13, false))⟩,
    ⟨(some 15), .val (.load none (.t 14)), (some (13, false))⟩,
    ⟨(some 16), .val (.bin .num .lss (.t 15) (.c (.int .i64 0))), (some (13, false))⟩,
    ⟨(some 17), .val (.pick (.t 13) (.c (.bool true)) (.t 16)), none⟩,
    ⟨(some 18), .val (.mov (.t 17)), none⟩,
    ⟨(some 19), .val (.faddr 2 (.t 3)), (some (18, false))⟩,
    ⟨(some 20), .val (.load none (.t 19)), (some (18, false))⟩,
    ⟨(some 21), .val (.bin .num .gtr (.t 20) (.c (.int .i64 9999))), (some (18, false))⟩,
    ⟨(some 22), .val (.pick (.t 18) (.c (.bool true)) (.t 21)), none⟩,
    ⟨(some 23), .val (.mov (.t 22)), none⟩,
    ⟨(some 24), .val (.faddr 1 (.t 3)), (some (23, false))⟩,
    ⟨(some 25), .val (.load none (.t 24)), (some (23, false))⟩,
    ⟨(some 26), .val (.bin .num .lss (.t 25) (.c (.int .i64 1))), (some (23, false))⟩,
    ⟨(some 27), .val (.pick (.t 23) (.c (.bool true)) (.t 26)), none⟩]
def g3_2 : List Am.Item := [
    ⟨(some 4), .val (.mov (.c (.bool true))), none⟩]
def g3_3 : List Am.Item := [
    ⟨(some 29), .val (.mov (.t 0)), none⟩,
    ⟨(some 30), .val (.load (some 4) (.t 3)), none⟩,
    ⟨(some 31), .call (.f 4) [(.t 29), (.t 30)], none⟩,
    ⟨(some 28), .val (.mov (.t 31)), none⟩,
    ⟨(some 32), .val (.ext (.t 28) 0), none⟩,
    ⟨(some 33), .val (.ext (.t 28) 1), none⟩,
    ⟨(some 5), .val (.mov (.t 32)), none⟩,
    ⟨(some 6), .val (.mov (.t 33)), none⟩]
def g3_4 : List Am.Item := [
    ⟨(some 34), .val (.load (some 4) (.t 3)), none⟩,
    ⟨(some 7), .allocN 7 [.int .i64 0, .int .i64 0, .int .i64 0, .int .i64 0], none⟩,
    ⟨none, .store 4 (.t 7) (.t 34), none⟩]
def g3_5 : List Am.Item := [
    ⟨(some 35), .val (.faddr 2 (.t 3)), none⟩,
    ⟨(some 36), .val (.load none (.t 35)), none⟩,
    ⟨(some 37), .val (.bin .num .add (.t 36) (.c (.int .i64 1))), none⟩,
    ⟨(some 38), .val (.faddr 2 (.t 7)), none⟩,
    ⟨none, .store 1 (.t 38) (.t 37), none⟩]
def g3_6 : List Am.Item := [
    ⟨(some 40), .val (.build [.str [], .nils, .int .i64 0] [(0, 1, (.c (.str [77])))]), none⟩,
    ⟨(some 41), .bsl 3 1 [.str [], .nils, .int .i64 0] [(0, 3, (.t 40))], none⟩,
    ⟨(some 42), .val (.build [.nils, .nils] [(0, 1, (.t 41))]), none⟩,
    ⟨(some 43), .val (.mov (.t 0)), none⟩,
    ⟨(some 44), .val (.load (some 4) (.t 7)), none⟩,
    ⟨(some 45), .call (.f 5) [(.t 42), (.c (.str [77])), (.t 43), (.t 44)], none⟩,
    ⟨(some 39), .val (.mov (.t 45)), none⟩,
    ⟨(some 46), .val (.ext (.t 39) 0), none⟩,
    ⟨(some 47), .val (.ext (.t 39) 1), none⟩,
    ⟨(some 8), .allocN 8 [.int .i64 0, .int .u64 0, .str [], .nils, .nils, .nils, .nils], none⟩,
    ⟨none, .store 7 (.t 8) (.t 46), none⟩,
    ⟨(some 9), .val (.mov (.t 47)), none⟩]
def g3_7 : List Am.Item := [
    ⟨(some 48), .val (.mov (.t 6)), none⟩,
    ⟨(some 49), .val (.bin .num .neq (.t 48) (.c (.int .i64 0))), none⟩]
def g3_8 : List Am.Item := [
    ⟨(some 50), .val (.mov (.t 9)), none⟩,
    ⟨(some 51), .val (.mov (.t 6)), none⟩,
    ⟨(some 52), .val (.bin .num .eql (.t 50) (.t 51)), none⟩,
    ⟨(some 53), .val (.mov (.t 52)), none⟩,
    ⟨(some 54), .call (.f 6) [], (some (53, true))⟩,
    ⟨(some 55), .val (.pick (.t 53) (.t 54) (.c (.bool false))), none⟩,
    ⟨(some 4), .val (.mov (.t 55)), none⟩]
def g3_9 : List Am.Item := [
    ⟨(some 56), .val (.mov (.t 9)), none⟩,
    ⟨(some 57), .val (.bin .num .eql (.t 56) (.c (.int .i64 0))), none⟩,
    ⟨(some 58), .val (.mov (.t 57)), none⟩,
    ⟨(some 59), .val (.faddr 5 (.t 8)), (some (58, true))⟩,
    ⟨(some 60), .val (.loadv 0 8 none (.t 59)), (some (58, true))⟩,
    ⟨(some 61), .val (.len 1 (.t 60)), (some (58, true))⟩,
    ⟨(some 62), .val (.bin .num .eql (.t 61) (.c (.int .i64 0))), (some (58, true))⟩,
    ⟨(some 63), .val (.pick (.t 58) (.t 62) (.c (.bool false))), none⟩,
    ⟨(some 64), .val (.mov (.t 63)), none⟩,
    ⟨(some 65), .val (.loadv 0 8 (some 7) (.t 8)), (some (64, true))⟩,
    ⟨(some 66), .val (.mov (.t 5)), (some (64, true))⟩,
    ⟨(some 67), .call (.f 8) [(.t 66)], (some (64, true))⟩,
    ⟨(some 68), .val (.build [.int .i64 0, .int .u64 0, .str [], .nils, .nils, .nils, .nils] [(0, 1, (.c (.int .i64 10))), (6, 1, (.t 67))]), (some (64, true))⟩,
    ⟨(some 69), .call (.f 7) [(.t 65), (.t 68)], (some (64, true))⟩,
    ⟨(some 70), .val (.pick (.t 64) (.t 69) (.c (.bool false))), none⟩,
    ⟨(some 71), .val (.mov (.t 70)), none⟩,
    ⟨(some 72), .call (.f 6) [], (some (71, true))⟩,
    ⟨(some 73), .val (.pick (.t 71) (.t 72) (.c (.bool false))), none⟩,
    ⟨(some 4), .val (.mov (.t 73)), none⟩]
def r3 : RC := .seq (.reg g3_0) (.seq (.seq (.reg g3_1) (.cond (.t 27) (.seq (.reg g3_2) (.ret)) (.skip))) (.seq (.reg g3_3) (.seq (.reg g3_4) (.seq (.reg g3_5) (.seq (.reg g3_6) (.seq (.seq (.reg g3_7) (.cond (.t 49) (.seq (.reg g3_8) (.ret)) (.skip))) (.seq (.draw g3_9) (.ret))))))))
def o3 : List RR := [.tmp 4]
theorem k3 : chkC Tryz.prog 74 r3 (Tryz.f3.body.getD .skip) = true := by decide +kernel
theorem q3 : chkR Tryz.prog Tryz.f3.results.toList o3 = true := by decide +kernel

end Go.Proofs.YtofcnjhnjagncaaGreat.Rc

/- Plain laws of numbers: wrapping, bits of 64-bit numbers. -/
namespace Go.Proofs.YtofcnjhnjagncaaGreat.Bt
open Go

theorem wu64 (n : Int) : IntKind.u64.wrap n = n % 18446744073709551616 := by simp [IntKind.wrap, IntKind.bits, IntKind.signed]
theorem wu8 (n : Int) : IntKind.u8.wrap n = n % 256 := by simp [IntKind.wrap, IntKind.bits, IntKind.signed]
theorem wi64 (n : Int) : IntKind.i64.wrap n = (n + 9223372036854775808) % 18446744073709551616 - 9223372036854775808 := IntKind.wrap_i64 n

theorem ofInt_nat {n : Nat} (h : n < 18446744073709551616) : (BitVec.ofInt 64 (n : Int)).toNat = n := by
  simp
  omega

theorem xor_u64 (a b : Nat) (ha : a < 18446744073709551616) (hb : b < 18446744073709551616) : bits .xor .u64 (a : Int) (b : Int) = ((a ^^^ b : Nat) : Int) := by
  have hx : a ^^^ b < 2 ^ 64 := Nat.xor_lt_two_pow (by omega) (by omega)
  show IntKind.u64.wrap ((BitVec.ofInt 64 (a : Int) ^^^ BitVec.ofInt 64 (b : Int)).toNat : Int) = _
  rw [BitVec.toNat_xor, ofInt_nat ha, ofInt_nat hb, wu64]
  omega
theorem and_u64 (a b : Nat) (ha : a < 18446744073709551616) (hb : b < 18446744073709551616) : bits .and .u64 (a : Int) (b : Int) = ((a &&& b : Nat) : Int) := by
  have hx : a &&& b < 2 ^ 64 := Nat.and_lt_two_pow _ (by omega)
  show IntKind.u64.wrap ((BitVec.ofInt 64 (a : Int) &&& BitVec.ofInt 64 (b : Int)).toNat : Int) = _
  rw [BitVec.toNat_and, ofInt_nat ha, ofInt_nat hb, wu64]
  omega
theorem or_u64 (a b : Nat) (ha : a < 18446744073709551616) (hb : b < 18446744073709551616) : bits .or .u64 (a : Int) (b : Int) = ((a ||| b : Nat) : Int) := by
  have hx : a ||| b < 2 ^ 64 := Nat.or_lt_two_pow (by omega) (by omega)
  show IntKind.u64.wrap ((BitVec.ofInt 64 (a : Int) ||| BitVec.ofInt 64 (b : Int)).toNat : Int) = _
  rw [BitVec.toNat_or, ofInt_nat ha, ofInt_nat hb, wu64]
  omega

theorem xor_ones_nat (a : Nat) (ha : a < 18446744073709551616) : a ^^^ 18446744073709551615 = 18446744073709551615 - a := by
  have h1 : (BitVec.ofNat 64 a ^^^ BitVec.allOnes 64).toNat = a ^^^ 18446744073709551615 := by
    rw [BitVec.toNat_xor, BitVec.toNat_ofNat, BitVec.toNat_allOnes, Nat.mod_eq_of_lt (by omega)]
  rw [← h1, BitVec.xor_allOnes, BitVec.toNat_not, BitVec.toNat_ofNat, Nat.mod_eq_of_lt (by omega)]

theorem xor_u64_zero (a : Int) (h0 : 0 ≤ a) (h1 : a < 18446744073709551616) : bits .xor .u64 a 0 = a := by
  obtain ⟨n, rfl⟩ := Int.eq_ofNat_of_zero_le h0
  have := xor_u64 n 0 (by omega) (by omega)
  rw [Nat.xor_zero] at this
  exact this
theorem xor_u64_ones (a : Int) (h0 : 0 ≤ a) (h1 : a < 18446744073709551616) : bits .xor .u64 a 18446744073709551615 = 18446744073709551615 - a := by
  obtain ⟨n, rfl⟩ := Int.eq_ofNat_of_zero_le h0
  have := xor_u64 n 18446744073709551615 (by omega) (by omega)
  rw [xor_ones_nat n (by omega)] at this
  rw [show ((18446744073709551615 : Nat) : Int) = 18446744073709551615 from rfl] at this
  rw [this]
  omega
theorem and_u64_one (a : Int) (h0 : 0 ≤ a) (h1 : a < 18446744073709551616) : bits .and .u64 a 1 = a % 2 := by
  obtain ⟨n, rfl⟩ := Int.eq_ofNat_of_zero_le h0
  have := and_u64 n 1 (by omega) (by omega)
  rw [Nat.and_one_is_mod] at this
  rw [show ((1 : Nat) : Int) = 1 from rfl] at this
  rw [this]
  omega
theorem xor_i64_zero (a : Int) (h0 : -9223372036854775808 ≤ a) (h1 : a < 9223372036854775808) : bits .xor .i64 a 0 = a := by
  show IntKind.i64.wrap ((BitVec.ofInt 64 a ^^^ BitVec.ofInt 64 0).toNat : Int) = _
  rw [BitVec.toNat_xor, show (BitVec.ofInt 64 0).toNat = 0 from rfl, Nat.xor_zero, BitVec.toNat_ofInt, wi64]
  omega
theorem xor_i64_ones (a : Int) (h0 : -9223372036854775808 ≤ a) (h1 : a < 9223372036854775808) : bits .xor .i64 a (-1) = -1 - a := by
  show IntKind.i64.wrap ((BitVec.ofInt 64 a ^^^ BitVec.ofInt 64 (-1)).toNat : Int) = _
  rw [BitVec.toNat_xor, show (BitVec.ofInt 64 (-1)).toNat = 18446744073709551615 from rfl, BitVec.toNat_ofInt, xor_ones_nat _ (by omega), wi64]
  omega

end Go.Proofs.YtofcnjhnjagncaaGreat.Bt

/- Plain laws of varints: lists of bytes and numbers, no program in sight. -/
namespace Go.Proofs.YtofcnjhnjagncaaGreat.Vp

/-- The varint of u, of at most k + 1 groups. -/
def vput : Nat → Nat → List UInt8
  | 0, u => [UInt8.ofNat u]
  | k + 1, u => if u < 128 then [UInt8.ofNat u] else UInt8.ofNat (u % 128 + 128) :: vput k (u / 128)

def put (u : Nat) : List UInt8 := vput 9 u

/-- Reading a varint: the i-th byte is next, acc has been read. The number, the length, the error. -/
def vtk : Nat → Nat → List UInt8 → Nat × Nat × Nat
  | _, _, [] => (0, 0, 4)
  | i, acc, c :: t =>
    if i = 9 ∧ 1 < c.toNat then (0, 0, 6)
    else if c.toNat < 128 then (acc + c.toNat * 128 ^ i, i + 1, 0)
    else vtk (i + 1) (acc + (c.toNat - 128) * 128 ^ i) t

def take (s : List UInt8) : Nat × Nat × Nat := vtk 0 0 s

theorem toNat_ofNat (n : Nat) (h : n < 256) : (UInt8.ofNat n).toNat = n := by
  simp [UInt8.toNat_ofNat']; omega

theorem vput_ne (k u : Nat) : vput k u ≠ [] := by
  cases k with
  | zero => simp [vput]
  | succ k => unfold vput; split <;> simp

theorem vput_len (k u : Nat) : 1 ≤ (vput k u).length ∧ (vput k u).length ≤ k + 1 := by
  induction k generalizing u with
  | zero => simp [vput]
  | succ k ih =>
    unfold vput
    split
    · simp
    · have := ih (u / 128); simp; omega

theorem put_len (u : Nat) : 1 ≤ (put u).length ∧ (put u).length ≤ 10 := vput_len 9 u

theorem vput_small (k u : Nat) (h : u < 128) : vput k u = [UInt8.ofNat u] := by
  cases k <;> simp [vput, h]

theorem vput_big (k u : Nat) (h : ¬ u < 128) : vput (k + 1) u = UInt8.ofNat (u % 128 + 128) :: vput k (u / 128) := by
  simp [vput, h]

theorem vput_mono (k u v : Nat) (h : u ≤ v) : (vput k u).length ≤ (vput k v).length := by
  induction k generalizing u v with
  | zero => simp [vput]
  | succ k ih =>
    by_cases hu : u < 128
    · rw [vput_small _ _ hu]; exact (vput_len (k + 1) v).1
    · have hv : ¬ v < 128 := by omega
      rw [vput_big _ _ hu, vput_big _ _ hv]
      have := ih (u / 128) (v / 128) (by omega)
      simp; omega

/-- More groups allowed than needed: the same varint. -/
theorem vput_more (k j u : Nat) (h : u < 128 ^ (k + 1)) (hj : k ≤ j) : vput j u = vput k u := by
  induction k generalizing j u with
  | zero =>
    have hu : u < 128 := by simpa using h
    rw [vput_small _ _ hu, vput_small _ _ hu]
  | succ k ih =>
    obtain ⟨j, rfl⟩ : ∃ i, j = i + 1 := ⟨j - 1, by omega⟩
    by_cases hu : u < 128
    · rw [vput_small _ _ hu, vput_small _ _ hu]
    · rw [vput_big _ _ hu, vput_big _ _ hu, ih j (u / 128) _ (by omega)]
      rw [Nat.pow_succ] at h
      omega

/-- The bound of what the groups from the i-th on can hold. -/
def room (i : Nat) : Nat := 2 ^ (64 - 7 * i)

theorem room_succ (i u : Nat) (hi : i < 9) (h : u < room i) : u / 128 < room (i + 1) := by
  unfold room at *
  have e : 64 - 7 * i = (64 - 7 * (i + 1)) + 7 := by omega
  rw [e, Nat.pow_add] at h
  omega

theorem vtk_put (k i acc u : Nat) (t : List UInt8) (hk : k + i = 9) (hu : u < room i) :
    vtk i acc (vput k u ++ t) = (acc + u * 128 ^ i, i + (vput k u).length, 0) := by
  induction k generalizing i acc u with
  | zero =>
    obtain rfl : i = 9 := by omega
    have hu2 : u < 2 := by simpa [room] using hu
    have hc := toNat_ofNat u (by omega)
    simp only [vput, List.cons_append, List.nil_append, vtk, hc]
    rw [if_neg (by omega), if_pos (by omega)]
    rfl
  | succ k ih =>
    by_cases h : u < 128
    · have hc := toNat_ofNat u (by omega)
      rw [vput_small _ _ h]
      simp only [List.cons_append, List.nil_append, vtk, hc]
      rw [if_neg (by omega), if_pos h]
      rfl
    · have hc := toNat_ofNat (u % 128 + 128) (by omega)
      rw [vput_big _ _ h]
      simp only [List.cons_append, vtk, hc]
      rw [if_neg (by omega), if_neg (by omega), ih (i + 1) _ (u / 128) (by omega) (room_succ i u (by omega) hu)]
      have e : acc + (u % 128 + 128 - 128) * 128 ^ i + u / 128 * 128 ^ (i + 1) = acc + u * 128 ^ i := by
        rw [Nat.pow_succ, Nat.add_sub_cancel, Nat.add_assoc, Nat.mul_comm (128 ^ i) 128, ← Nat.mul_assoc, ← Nat.add_mul]
        congr 2; omega
      rw [e]
      simp only [List.length_cons, Prod.mk.injEq, true_and, and_true]
      omega

theorem take_put (u : Nat) (t : List UInt8) (h : u < 2 ^ 64) : take (put u ++ t) = (u, (put u).length, 0) := by
  have := vtk_put 9 0 0 u t rfl (by simpa [room] using h)
  simpa [take, put] using this

theorem vtk_err (i acc : Nat) (s : List UInt8) : (vtk i acc s).2.2 = 0 ∨ (vtk i acc s).2.2 = 4 ∨ (vtk i acc s).2.2 = 6 := by
  induction s generalizing i acc with
  | nil => simp [vtk]
  | cons c t ih =>
    unfold vtk
    split
    · simp
    · split
      · simp
      · exact ih _ _

theorem vtk_zero (i acc : Nat) (s : List UInt8) (h : (vtk i acc s).2.2 ≠ 0) : (vtk i acc s).1 = 0 ∧ (vtk i acc s).2.1 = 0 := by
  induction s generalizing i acc with
  | nil => simp [vtk]
  | cons c t ih =>
    unfold vtk at h ⊢
    split
    · simp
    · rename_i h1
      rw [if_neg h1] at h
      split
      · rename_i h2; simp [h2] at h
      · rename_i h2
        rw [if_neg h2] at h
        exact ih _ _ h

/-- How far a number reads, and its bounds. -/
theorem vtk_bounds (i acc : Nat) (s : List UInt8) (hi : i ≤ 9) (ha : acc < 128 ^ i) (h : (vtk i acc s).2.2 = 0) :
    i < (vtk i acc s).2.1 ∧ (vtk i acc s).2.1 ≤ i + s.length ∧ (vtk i acc s).2.1 ≤ 10 ∧ (vtk i acc s).1 < 2 ^ 64 := by
  induction s generalizing i acc with
  | nil => simp [vtk] at h
  | cons c t ih =>
    unfold vtk at h ⊢
    split
    · rename_i h1; rw [if_pos h1] at h; simp at h
    · rename_i h1
      rw [if_neg h1] at h
      have hp : 128 ^ i = 2 ^ (7 * i) := by rw [show (128 : Nat) = 2 ^ 7 from rfl, ← Nat.pow_mul]
      split
      · rename_i h2
        refine ⟨Nat.lt_succ_self i, by simp, by show i + 1 ≤ 10; omega, ?_⟩
        show acc + c.toNat * 128 ^ i < 2 ^ 64
        rcases Nat.lt_or_ge i 9 with h9 | h9
        · have : c.toNat * 128 ^ i ≤ 127 * 128 ^ i := Nat.mul_le_mul_right _ (by omega)
          have h3 : acc + c.toNat * 128 ^ i < 128 ^ (i + 1) := by rw [Nat.pow_succ]; omega
          have h4 : 128 ^ (i + 1) ≤ 128 ^ 9 := Nat.pow_le_pow_right (by omega) (by omega)
          omega
        · obtain rfl : i = 9 := by omega
          have : c.toNat ≤ 1 := by omega
          omega
      · rename_i h2
        rw [if_neg h2] at h
        have h9 : i < 9 := by
          rcases Nat.lt_or_ge i 9 with h9 | h9
          · exact h9
          · exact absurd ⟨by omega, by omega⟩ h1
        have hc := c.toNat_lt
        have h3 : acc + (c.toNat - 128) * 128 ^ i < 128 ^ (i + 1) := by
          have : (c.toNat - 128) * 128 ^ i ≤ 127 * 128 ^ i := Nat.mul_le_mul_right _ (by omega)
          rw [Nat.pow_succ]; omega
        obtain ⟨a, b, d, e⟩ := ih (i + 1) _ (by omega) h3 h
        exact ⟨by omega, by simp; omega, d, e⟩

theorem take_bounds (s : List UInt8) (h : (take s).2.2 = 0) : 0 < (take s).2.1 ∧ (take s).2.1 ≤ s.length ∧ (take s).2.1 ≤ 10 ∧ (take s).1 < 2 ^ 64 := by
  have := vtk_bounds 0 0 s (by omega) (by omega) h
  simpa [take] using this

/-- What is read does not depend on what follows the bytes that were read. -/
theorem vtk_append (i acc : Nat) (s t : List UInt8) (h : (vtk i acc s).2.2 ≠ 4) : vtk i acc (s ++ t) = vtk i acc s := by
  induction s generalizing i acc with
  | nil => simp [vtk] at h
  | cons c r ih =>
    simp only [List.cons_append]
    unfold vtk at h ⊢
    split
    · rfl
    · rename_i h1
      rw [if_neg h1] at h
      split
      · rfl
      · rename_i h2
        rw [if_neg h2] at h
        exact ih _ _ h

/-- Ten bytes are enough. -/
theorem vtk_ten (i acc : Nat) (s : List UInt8) (hi : i ≤ 9) (hl : 10 ≤ i + s.length) : (vtk i acc s).2.2 ≠ 4 := by
  induction s generalizing i acc with
  | nil => simp at hl; omega
  | cons c r ih =>
    unfold vtk
    split
    · simp
    · rename_i h1
      split
      · simp
      · rename_i h2
        exact ih _ _ (by omega) (by simp at hl; omega)

theorem take_take (s : List UInt8) : take (s.take 10) = take s := by
  rcases Nat.lt_or_ge s.length 10 with h | h
  · rw [List.take_of_length_le (by omega)]
  · have := vtk_append 0 0 (s.take 10) (s.drop 10) (vtk_ten 0 0 _ (by omega) (by simp; omega))
    rw [List.take_append_drop] at this
    exact this.symm

/-- All bytes read: the number's groups; zero only if the last byte is; the shortest form only if the last byte is not zero (or the only one). -/
theorem vtk_all (i acc : Nat) (s : List UInt8) (k : Nat) (hk : k + i = 9) (h : (vtk i acc s).2.2 = 0) (hn : (vtk i acc s).2.1 = i + s.length) :
    ∃ v, (vtk i acc s).1 = acc + v * 128 ^ i ∧ (v = 0 → s.getLast? = some 0) ∧ (s.length = 1 → s.getLast? = some (UInt8.ofNat v) ∧ v < 128) ∧
      (vput k v = s ↔ (s.length = 1 ∨ s.getLast? ≠ some 0)) := by
  induction s generalizing i acc k with
  | nil => simp [vtk] at h
  | cons c t ih =>
    unfold vtk at h hn ⊢
    split
    · rename_i h1; rw [if_pos h1] at h; simp at h
    · rename_i h1
      rw [if_neg h1] at h hn
      split
      · rename_i h2
        rw [if_pos h2] at hn
        have ht : t = [] := by
          have : t.length = 0 := by
            have hn' : i + 1 = i + (t.length + 1) := hn
            omega
          exact List.eq_nil_of_length_eq_zero this
        subst ht
        have hc : UInt8.ofNat c.toNat = c := by simp
        refine ⟨c.toNat, rfl, fun h0 => by simp; exact UInt8.toNat.inj (by simpa using h0), fun _ => ⟨by simp, h2⟩, ?_⟩
        rw [vput_small _ _ h2, hc]
        simp
      · rename_i h2
        rw [if_neg h2] at h hn
        have h9 : i < 9 := by
          rcases Nat.lt_or_ge i 9 with h9 | h9
          · exact h9
          · exact absurd ⟨by omega, by omega⟩ h1
        obtain ⟨k, rfl⟩ : ∃ j, k = j + 1 := ⟨k - 1, by omega⟩
        obtain ⟨v, e, z, one, sh⟩ := ih (i + 1) _ k (by omega) h (by rw [hn, List.length_cons]; omega)
        have hcl := c.toNat_lt
        have htn : t ≠ [] := by rintro rfl; simp [vtk] at h
        have hlast : (c :: t).getLast? = t.getLast? := by
          cases t with
          | nil => exact absurd rfl htn
          | cons d t => simp
        have hlen : (c :: t).length ≠ 1 := by
          cases t with
          | nil => exact absurd rfl htn
          | cons d t => simp
        refine ⟨(c.toNat - 128) + v * 128, ?_, ?_, fun hl => absurd hl hlen, ?_⟩
        · rw [e, Nat.pow_succ, Nat.add_mul, Nat.mul_comm (128 ^ i) 128, ← Nat.mul_assoc, Nat.add_assoc]
        · intro h0; rw [hlast]; exact z (by omega)
        · rw [hlast]
          simp only [hlen, false_or]
          by_cases hv : v = 0
          · have := z hv
            rw [vput_small _ _ (by omega), this]
            simp
            intro _
            exact htn
          · rw [vput_big _ _ (by omega)]
            have e1 : (c.toNat - 128 + v * 128) % 128 + 128 = c.toNat := by omega
            have e2 : (c.toNat - 128 + v * 128) / 128 = v := by omega
            rw [e1, e2]
            have hc : UInt8.ofNat c.toNat = c := by simp
            rw [hc]
            simp only [List.cons.injEq, true_and]
            rw [sh]
            constructor
            · rintro (h1 | h1)
              · obtain ⟨hl, hv'⟩ := one h1
                rw [hl]
                intro h0
                simp at h0
                have := congrArg UInt8.toNat h0
                rw [toNat_ofNat _ (by omega)] at this
                exact hv this
              · exact h1
            · exact fun h1 => .inr h1

theorem put_take (s : List UInt8) (h : (take s).2.2 = 0) (hn : (take s).2.1 = s.length) : put (take s).1 = s ↔ (s.length = 1 ∨ s.getLast? ≠ some 0) := by
  obtain ⟨v, e, _, _, sh⟩ := vtk_all 0 0 s 9 rfl h (by simpa [take] using hn)
  have : (take s).1 = v := by simpa [take] using e
  rw [this]; exact sh

/-- The shortest form. -/
def short (s : List UInt8) : Bool := (take s).2.2 == 0 && (take s).2.1 == s.length && decide (put (take s).1 = s)

theorem short_put (u : Nat) (h : u < 2 ^ 64) : short (put u) = true := by
  have := take_put u [] h
  rw [List.append_nil] at this
  simp [short, this]

/-- What the law says of any bytes. -/
theorem round_trip (u : Nat) (s : List UInt8) (h : u < 2 ^ 64) (hp : put (take s).1 = put u) : short s = decide (s = put u) := by
  by_cases hs : s = put u
  · subst hs; rw [short_put u h]; simp
  · have : short s = false := by
      cases hsh : short s with
      | false => rfl
      | true =>
        simp [short] at hsh
        exact absurd (hsh.2.symm.trans hp) hs
    rw [this]; simp [hs]

end Go.Proofs.YtofcnjhnjagncaaGreat.Vp

/- Varint functions that make bytes: what each computes. -/
set_option linter.unusedSimpArgs false
namespace Go.Proofs.YtofcnjhnjagncaaGreat.Va
open Go Am Rc Bt Vp

/-- Bytes as numbers. -/
def bl (l : List UInt8) : List AV := l.map fun b => .int .u8 (b.toNat : Int)
theorem bl_append (a b : List UInt8) : bl (a ++ b) = bl a ++ bl b := by simp [bl]
theorem bl_length (a : List UInt8) : (bl a).length = a.length := by simp [bl]
theorem bytesOf_bl (l : List UInt8) : bytesOf (bl l) = some l := by
  induction l with
  | nil => rfl
  | cons b l ih =>
    show (bytesOf (bl l)).map _ = _
    rw [ih]
    simp

theorem fdiv7 (u : Nat) : (u : Int).fdiv (2 ^ min 7 64) = ((u / 128 : Nat) : Int) := by
  rw [show min 7 64 = 7 from rfl, Int.fdiv_eq_ediv_of_nonneg _ (show (0 : Int) ≤ 2 ^ 7 by decide)]
  omega

theorem or128 (u : Nat) : bits .or .u8 (IntKind.u8.wrap (u : Int)) 128 = ((UInt8.ofNat (u % 128 + 128)).toNat : Int) := by
  rw [wu8]
  have h : ∀ n : Fin 256, bits .or .u8 ((n.val : Nat) : Int) 128 = ((n.val % 128 + 128 : Nat) : Int) := by decide +kernel
  have := h ⟨u % 256, by omega⟩
  simp only at this
  rw [show ((u : Int) % 256) = ((u % 256 : Nat) : Int) by omega, this, toNat_ofNat _ (by omega)]
  omega

theorem low8 (u : Nat) (h : u < 128) : IntKind.u8.wrap (u : Int) = ((UInt8.ofNat u).toNat : Int) := by
  rw [wu8, toNat_ofNat _ (by omega)]
  omega

def PutI (u0 : Nat) (k : Nat) (st : St) : Prop :=
  ∃ f fr u g j l, st = ⟨f, [fr], []⟩ ∧ k = u ∧ f 0 = .int .u64 (u : Nat) ∧ f 3 = .vec 0 3 g 0 l.length false ∧ fr 3 = .vec g 1 (bl l) ∧ u < room (9 - j) ∧ l.length + j = 9 ∧ l ++ vput j u = Vp.put u0

theorem tmod128 (n : Nat) : (n : Int).tmod 128 = ((n % 128 : Nat) : Int) := by
  rw [Int.tmod_eq_emod_of_nonneg (by omega)]; omega
theorem tdiv128 (n : Nat) (h : n < 18446744073709551616) : IntKind.u64.wrap ((n : Int).tdiv 128) = ((n / 128 : Nat) : Int) := by
  rw [Int.tdiv_eq_ediv_of_nonneg (by omega), wu64]; omega
theorem ref128 (n : Nat) : IntKind.u8.wrap (IntKind.u64.wrap (((n % 128 : Nat) : Int) + 128)) = ((UInt8.ofNat (n % 128 + 128)).toNat : Int) := by
  rw [wu64, wu8, toNat_ofNat _ (by omega)]; omega
theorem room_le (i n : Nat) (h : n < room i) : n < 18446744073709551616 := by
  refine Nat.lt_of_lt_of_le h ?_
  unfold room
  exact Nat.pow_le_pow_right (by omega) (by omega : 64 - 7 * i ≤ 64)

def LenI (u0 : Nat) (k : Nat) (st : St) : Prop :=
  ∃ f u j c, st = ⟨f, [noObs], []⟩ ∧ k = u ∧ f 0 = .int .u64 (u : Nat) ∧ f 3 = .int .i64 (c : Nat) ∧ u < room (9 - j) ∧ 1 ≤ c ∧ c + j = 10 ∧ c + (vput j u).length = (Vp.put u0).length + 1

end Go.Proofs.YtofcnjhnjagncaaGreat.Va

/- Varint functions that read: what each computes. -/
set_option linter.unusedSimpArgs false
namespace Go.Proofs.YtofcnjhnjagncaaGreat.Va
open Go Am Rc Bt Vp

/-- What reading gives. -/
def tk (r : Nat × Nat × Nat) : AV := .tup [.int .u64 (r.1 : Nat), .int .i64 (r.2.1 : Nat), .int .i64 (r.2.2 : Nat)]

theorem tk_end : tk (0, 0, 4) = .tup [.int .u64 0, .int .i64 0, .int .i64 4] := rfl
theorem tk_bad : tk (0, 0, 6) = .tup [.int .u64 0, .int .i64 0, .int .i64 6] := rfl
theorem tk_ok (v n : Nat) : tk (v, n, 0) = .tup [.int .u64 (v : Nat), .int .i64 (n : Nat), .int .i64 0] := rfl

theorem and127 (c : UInt8) : bits .and .u8 (c.toNat : Int) 127 = ((c.toNat % 128 : Nat) : Int) := by
  have h : ∀ n : Fin 256, bits .and .u8 ((n.val : Nat) : Int) 127 = ((n.val % 128 : Nat) : Int) := by decide +kernel
  exact h ⟨c.toNat, c.toNat_lt⟩

theorem pow128 (i : Nat) : 128 ^ i = 2 ^ (7 * i) := by rw [Nat.pow_mul]

theorem add_digit (acc d i : Nat) (hi : i ≤ 9) (ha : acc < 128 ^ i) (hd : d < 128) (h9 : i = 9 → d ≤ 1) :
    bits .or .u64 (acc : Int) (IntKind.u64.wrap (IntKind.u64.wrap (d : Int) * 2 ^ min (IntKind.i64.wrap (7 * (i : Int))).toNat 64)) = ((acc + d * 128 ^ i : Nat) : Int) := by
  have e1 : IntKind.i64.wrap (7 * (i : Int)) = ((7 * i : Nat) : Int) := by rw [wi64]; omega
  have hb : d * 128 ^ i < 18446744073709551616 := by
    rcases Nat.lt_or_ge i 9 with h | h
    · have h1 : 128 ^ i ≤ 128 ^ 8 := Nat.pow_le_pow_right (by omega) (by omega)
      calc d * 128 ^ i ≤ 127 * 128 ^ 8 := Nat.mul_le_mul (by omega) h1
        _ < _ := by decide
    · have : i = 9 := by omega
      subst this
      calc d * 128 ^ 9 ≤ 1 * 128 ^ 9 := Nat.mul_le_mul (h9 rfl) (Nat.le_refl _)
        _ < _ := by decide
  have hacc : acc < 18446744073709551616 := by
    refine Nat.lt_of_lt_of_le ha ?_
    calc 128 ^ i ≤ 128 ^ 9 := Nat.pow_le_pow_right (by omega) hi
      _ ≤ _ := by decide
  have e2 : IntKind.u64.wrap (d : Int) = (d : Int) := by rw [wu64]; omega
  have e3 : IntKind.u64.wrap ((d : Int) * 2 ^ (7 * i)) = ((d * 128 ^ i : Nat) : Int) := by
    rw [wu64, pow128]
    have : ((d * 2 ^ (7 * i) : Nat) : Int) = (d : Int) * 2 ^ (7 * i) := by push_cast; rfl
    rw [← this]
    rw [pow128] at hb
    omega
  rw [e1, Int.toNat_natCast, Nat.min_eq_left (by omega), e2, e3, or_u64 _ _ hacc hb]
  congr 1
  rw [pow128] at ha ⊢
  have := Nat.two_pow_add_eq_or_of_lt ha d
  rw [Nat.or_comm, Nat.mul_comm d, ← this, Nat.add_comm]

theorem digit_lt {acc d i : Nat} (ha : acc < 128 ^ i) (hd : d < 128) : acc + d * 128 ^ i < 128 ^ (i + 1) := by
  have : d * 128 ^ i ≤ 127 * 128 ^ i := Nat.mul_le_mul_right _ (by omega)
  rw [Nat.pow_succ]
  omega

theorem getElem_drop {l t : List UInt8} {c : UInt8} {i : Nat} (h : l.drop i = c :: t) : l[i]? = some c ∧ l.drop (i + 1) = t ∧ i < l.length := by
  have hi : i < l.length := by
    rcases Nat.lt_or_ge i l.length with h' | h'
    · exact h'
    · rw [List.drop_of_length_le h'] at h; cases h
  rw [List.drop_eq_getElem_cons hi] at h
  injection h with h1 h2
  exact ⟨by rw [List.getElem?_eq_getElem hi, h1], h2, hi⟩

def TakeI (s : List UInt8) (k : Nat) (st : St) : Prop :=
  ∃ f i acc, st = ⟨f, [noObs], []⟩ ∧ k = s.length - i ∧ f 0 = .str s ∧ f 5 = .int .u64 (acc : Nat) ∧ f 6 = .int .i64 (i : Nat) ∧ i ≤ s.length ∧ i ≤ 9 ∧ acc < 128 ^ i ∧ vtk i acc (s.drop i) = Vp.take s

theorem c76 (s : List UInt8) : Fn1 Tryz.prog 76 [.str s] (tk (Vp.take s)) := by
  refine fn1_of_awp (rc := r76) (rs := o76) Tryz.func76 rfl rfl Tryz.ntmps76 k76 q76 (by simp) ?_
  simp only [g76_0, g76_1, g76_2, g76_3, g76_4, g76_5, g76_6, g76_7, g76_8, g76_9, g76_10, g76_11, r76, o76, eEV, Nat.reduceBEq, Int.reduceLE, Int.reduceLT, Int.reduceToNat, Int.reduceEq, ↓reduceIte, reduceCtorEq, Nat.reducePow]
  refine awp_loop (TakeI s) _ ⟨_, 0, 0, rfl, rfl, rfl, rfl, rfl, Nat.zero_le _, Nat.zero_le _, by decide, rfl⟩ ?_
  rintro n st ⟨f, i, acc, rfl, rfl, h0, h5, h6, hil, hi, ha, hv⟩
  simp only [l76_0, g76_0, g76_1, g76_2, g76_3, g76_4, g76_5, g76_6, g76_7, g76_8, g76_9, g76_10, g76_11, r76, o76, h0, h5, h6, eEV, Nat.reduceBEq, Int.reduceLE, Int.reduceLT, Int.reduceToNat, Int.reduceEq, ↓reduceIte, reduceCtorEq, Nat.reducePow]
  refine csel_of (fun h => ?_) (fun h => ?_)
  · have h : i = s.length := by have h : (i : Int) = s.length := by simpa using h
                                omega
    rw [List.drop_of_length_le (by omega)] at hv
    simp only [← hv, vtk, tk_end, h0, h5, h6, eEV, Nat.reduceBEq, Int.reduceLE, Int.reduceLT, Int.reduceToNat, Int.reduceEq, ↓reduceIte, reduceCtorEq, Nat.reducePow]
  · have h : i < s.length := by have h : ¬ (i : Int) = s.length := by simpa using h
                                omega
    obtain ⟨c, t, hc⟩ : ∃ c t, s.drop i = c :: t := by
      cases hd : s.drop i with
      | nil => have := congrArg List.length hd; simp at this; omega
      | cons c t => exact ⟨c, t, rfl⟩
    obtain ⟨g1, g2, _⟩ := getElem_drop hc
    rw [hc] at hv
    have n0 : (0 ≤ (i : Int)) = True := by simp
    have e7 : IntKind.i64.wrap (7 * (i : Int)) = ((7 * i : Nat) : Int) := by rw [wi64]; omega
    have n7 : (0 ≤ IntKind.i64.wrap (7 * (i : Int))) = True := eq_true (by rw [e7]; omega)
    have e1 : IntKind.i64.wrap ((i : Int) + 1) = ((i + 1 : Nat) : Int) := by rw [wi64]; omega
    rw [vtk] at hv
    simp only [h0, h5, h6, n0, g1, Int.toNat_natCast, eEV, Nat.reduceBEq, Int.reduceLE, Int.reduceLT, Int.reduceToNat, Int.reduceEq, ↓reduceIte, reduceCtorEq, Nat.reducePow]
    by_cases h9 : i = 9
    · have e9 : ((i : Int) == 9) = true := by simp; omega
      simp only [e9, h0, h5, h6, eEV, Nat.reduceBEq, Int.reduceLE, Int.reduceLT, Int.reduceToNat, Int.reduceEq, ↓reduceIte, reduceCtorEq, Nat.reducePow]
      refine csel_of (fun hc1 => ?_) (fun hc1 => ?_)
      · have hc1 : 1 < c.toNat := by have hc1 : (1 : Int) < c.toNat := by simpa using hc1
                                     omega
        rw [if_pos ⟨h9, hc1⟩] at hv
        simp only [← hv, tk_bad, h0, h5, h6, eEV, Nat.reduceBEq, Int.reduceLE, Int.reduceLT, Int.reduceToNat, Int.reduceEq, ↓reduceIte, reduceCtorEq, Nat.reducePow]
      · have hc1 : c.toNat ≤ 1 := by have hc1 : (c.toNat : Int) ≤ 1 := by simpa using hc1
                                     omega
        have hbad : ¬ (i = 9 ∧ 1 < c.toNat) := by omega
        rw [if_neg hbad] at hv
        have hd := add_digit acc (c.toNat % 128) i hi ha (by omega) (fun _ => by omega)
        simp only [and127, n7, hd, e1, h0, h5, h6, eEV, Nat.reduceBEq, Int.reduceLE, Int.reduceLT, Int.reduceToNat, Int.reduceEq, ↓reduceIte, reduceCtorEq, Nat.reducePow]
        refine csel_of (fun hlt => ?_) (fun hlt => ?_)
        · have hlt : c.toNat < 128 := by omega
          rw [if_pos hlt] at hv
          simp only [← hv, tk_ok, Nat.mod_eq_of_lt hlt, h0, h5, h6, eEV, Nat.reduceBEq, Int.reduceLE, Int.reduceLT, Int.reduceToNat, Int.reduceEq, ↓reduceIte, reduceCtorEq, Nat.reducePow]
        · exfalso
          have hlt : (128 : Int) ≤ c.toNat := by simpa using hlt
          omega
    · have hbad : ¬ (i = 9 ∧ 1 < c.toNat) := by omega
      rw [if_neg hbad] at hv
      have e9 : ((i : Int) == 9) = false := by simp; omega
      have hd := add_digit acc (c.toNat % 128) i hi ha (by omega) (fun e => absurd e h9)
      simp only [e9, and127, n7, hd, e1, h0, h5, h6, eEV, Nat.reduceBEq, Int.reduceLE, Int.reduceLT, Int.reduceToNat, Int.reduceEq, ↓reduceIte, reduceCtorEq, Nat.reducePow]
      refine csel_of (fun hlt => ?_) (fun hlt => ?_)
      · have hlt : c.toNat < 128 := by have hlt : (c.toNat : Int) < 128 := by simpa using hlt
                                       omega
        rw [if_pos hlt] at hv
        simp only [← hv, tk_ok, Nat.mod_eq_of_lt hlt, h0, h5, h6, eEV, Nat.reduceBEq, Int.reduceLE, Int.reduceLT, Int.reduceToNat, Int.reduceEq, ↓reduceIte, reduceCtorEq, Nat.reducePow]
      · have hlt : 128 ≤ c.toNat := by have hlt : (128 : Int) ≤ c.toNat := by simpa using hlt
                                       omega
        rw [if_neg (by omega)] at hv
        simp only [and127, n7, hd, e1, h0, h5, h6, eEV, Nat.reduceBEq, Int.reduceLE, Int.reduceLT, Int.reduceToNat, Int.reduceEq, ↓reduceIte, reduceCtorEq, Nat.reducePow]
        refine ⟨s.length - (i + 1), by omega, _, i + 1, acc + c.toNat % 128 * 128 ^ i, rfl, rfl, ?_, ?_, ?_, by omega, by omega, digit_lt ha (by omega), ?_⟩
        · simp only [h0, eEV, Nat.reduceBEq, Int.reduceLE, Int.reduceLT, Int.reduceToNat, Int.reduceEq, ↓reduceIte, reduceCtorEq, Nat.reducePow]
        · simp only [eEV, Nat.reduceBEq, Int.reduceLE, Int.reduceLT, Int.reduceToNat, Int.reduceEq, ↓reduceIte, reduceCtorEq, Nat.reducePow]
        · simp only [eEV, Nat.reduceBEq, Int.reduceLE, Int.reduceLT, Int.reduceToNat, Int.reduceEq, ↓reduceIte, reduceCtorEq, Nat.reducePow]
        · rw [g2, ← hv]
          have := c.toNat_lt
          rw [show c.toNat % 128 = c.toNat - 128 by omega]

theorem acc_lt {acc i : Nat} (hi : i ≤ 9) (ha : acc < 128 ^ i) : acc < 9223372036854775808 := by
  refine Nat.lt_of_lt_of_le ha ?_
  calc 128 ^ i ≤ 128 ^ 9 := Nat.pow_le_pow_right (by omega) hi
    _ ≤ _ := by decide
theorem pow_le {i : Nat} (hi : i ≤ 9) : 128 ^ i ≤ 9223372036854775808 := by
  calc 128 ^ i ≤ 128 ^ 9 := Nat.pow_le_pow_right (by omega) hi
    _ ≤ _ := by decide
theorem dig_lt {d i : Nat} (hi : i ≤ 9) (hd : d < 128) (h9 : i = 9 → d ≤ 1) : d * 128 ^ i ≤ 9223372036854775808 := by
  rcases Nat.lt_or_ge i 9 with h | h
  · have h1 : 128 ^ i ≤ 128 ^ 8 := Nat.pow_le_pow_right (by omega) (by omega)
    calc d * 128 ^ i ≤ 127 * 128 ^ 8 := Nat.mul_le_mul (by omega) h1
      _ ≤ _ := by decide
  · have : i = 9 := by omega
    calc d * 128 ^ i ≤ 1 * 9223372036854775808 := Nat.mul_le_mul (h9 this) (pow_le hi)
      _ ≤ _ := by decide
theorem mul_digit (d i : Nat) (hi : i ≤ 9) (hd : d < 128) (h9 : i = 9 → d ≤ 1) : IntKind.u64.wrap ((d : Int) * ((128 ^ i : Nat) : Int)) = ((d * 128 ^ i : Nat) : Int) := by
  have hb := dig_lt hi hd h9
  have : ((d * 128 ^ i : Nat) : Int) = (d : Int) * ((128 ^ i : Nat) : Int) := Int.natCast_mul ..
  rw [wu64, ← this]
  omega
theorem plus_digit (acc d i : Nat) (hi : i ≤ 9) (ha : acc < 128 ^ i) (hd : d < 128) (h9 : i = 9 → d ≤ 1) : IntKind.u64.wrap ((acc : Int) + ((d * 128 ^ i : Nat) : Int)) = ((acc + d * 128 ^ i : Nat) : Int) := by
  have hb := dig_lt hi hd h9
  have hc := acc_lt hi ha
  rw [wu64]
  omega
theorem next_pow (i : Nat) (hi : i < 9) : IntKind.u64.wrap (((128 ^ i : Nat) : Int) * 128) = ((128 ^ (i + 1) : Nat) : Int) := by
  have h : 128 ^ i ≤ 128 ^ 8 := Nat.pow_le_pow_right (by omega) (by omega)
  have h2 : (128 : Nat) ^ 8 = 72057594037927936 := by decide
  rw [wu64, Nat.pow_succ]
  omega

def RTakeI (s : List UInt8) (k : Nat) (st : St) : Prop :=
  ∃ f i acc, st = ⟨f, [noObs], []⟩ ∧ k = s.length - i ∧ f 0 = .str s ∧ f 5 = .int .u64 (acc : Nat) ∧ f 6 = .int .u64 ((128 ^ i : Nat) : Int) ∧ f 7 = .int .i64 (i : Nat) ∧ i ≤ s.length ∧ i ≤ 9 ∧ acc < 128 ^ i ∧ vtk i acc (s.drop i) = Vp.take s

end Go.Proofs.YtofcnjhnjagncaaGreat.Va

/- Cursors, as plain data: what each function of the package computes. -/
namespace Go.Proofs.YtofcnjhnjagncaaGreat.Cp
open Go Am Bt Vp

/-- A cursor. -/
structure C where
  d : List UInt8
  a : Int
  e : Int
  dp : Int
  nd : Int
  tx : Int

def C.av (c : C) : AV := .agg [.str c.d, .int .i64 c.a, .int .i64 c.e, .int .i64 c.dp, .int .i64 c.nd, .int .i64 c.tx]
def zc : C := ⟨[], 0, 0, 0, 0, 0⟩

/-- Limits. -/
structure L where
  b : Int
  dp : Int
  nd : Int
  tx : Int
def L.av (l : L) : AV := .agg [.int .i64 l.b, .int .i64 l.dp, .int .i64 l.nd, .int .i64 l.tx]

def C.sound (c : C) : Bool := decide (0 ≤ c.a) && decide (c.a ≤ c.e) && decide (c.e ≤ (c.d.length : Int))
def C.rest (c : C) : List UInt8 := bif c.sound then (c.d.drop c.a.toNat).take (c.e.toNat - c.a.toNat) else []
def C.left (c : C) : Int := (c.rest.length : Int)
def C.ahead (c : C) (n : Int) : C := { c with a := IntKind.i64.wrap (c.a + n) }

def opn (s : List UInt8) (l : L) : C × Nat :=
  if l.b < 0 ∨ l.dp < 0 ∨ l.nd < 0 ∨ l.tx < 0 then (zc, 1) else if l.b < (s.length : Int) then (zc, 3) else (⟨s, 0, s.length, l.dp, l.nd, l.tx⟩, 0)

/-- A number read at a cursor. -/
def C.varint (c : C) : Nat × C × Nat :=
  let r := Vp.take c.rest
  if r.2.2 = 0 then (r.1, c.ahead r.2.1, 0) else (0, c, r.2.2)

def fix8 (s : List UInt8) : Nat := (s.take 8).foldr (fun b u => 256 * u + b.toNat) 0

def C.fixed (c : C) : Nat × C × Nat :=
  if c.rest.length < 8 then (0, c, 4) else (fix8 c.rest, c.ahead 8, 0)

def C.spend (c : C) (n : Int) : C × Nat :=
  if n < 0 then (c, 1) else if c.nd < n then (c, 3) else ({ c with nd := IntKind.i64.wrap (c.nd - n) }, 0)

def ncav (r : Nat × C × Nat) : AV := .tup [.int .u64 (r.1 : Nat), r.2.1.av, .int .i64 (r.2.2 : Nat)]
def cav (r : C × Nat) : AV := .tup [r.1.av, .int .i64 (r.2 : Nat)]

theorem C.sound_iff (c : C) : c.sound = true ↔ 0 ≤ c.a ∧ c.a ≤ c.e ∧ c.e ≤ (c.d.length : Int) := by
  simp [C.sound, and_assoc]

theorem C.rest_len (c : C) : c.left = if c.sound = true then c.e - c.a else 0 := by
  unfold C.left C.rest
  split
  · rename_i h
    rw [h]
    have := (C.sound_iff c).1 h
    simp
    omega
  · rename_i h
    have h : c.sound = false := by simpa using h
    rw [h]; rfl

theorem C.rest_of {c : C} (h : c.sound = true) : c.rest = (c.d.drop c.a.toNat).take (c.e.toNat - c.a.toNat) := by
  unfold C.rest; rw [h]; rfl

theorem C.rest_no {c : C} (h : c.sound = false) : c.rest = [] := by
  unfold C.rest; rw [h]; rfl

/-- The first bytes that are left. -/
theorem C.head_of {c : C} (h : c.sound = true) (n : Nat) (k : Int) (hk : k = if c.a + n < c.e then c.a + n else c.e) : c.rest.take n = (c.d.drop c.a.toNat).take (k.toNat - c.a.toNat) := by
  have hs := (C.sound_iff c).1 h
  rw [C.rest_of h, List.take_take]
  congr 1
  split at hk <;> omega

end Go.Proofs.YtofcnjhnjagncaaGreat.Cp

/- Cursor functions that only reckon. -/
set_option linter.unusedSimpArgs false
namespace Go.Proofs.YtofcnjhnjagncaaGreat.Va
open Go Am Rc Bt Vp Cp

theorem c55 (c : C) : Fn1 Tryz.prog 55 [c.av] (.bool c.sound) := by
  refine fn1_of_awp (rc := r55) (rs := o55) Tryz.func55 rfl rfl Tryz.ntmps55 k55 q55 (by simp) ?_
  simp only [g55_0, g55_1, r55, o55, C.av, eES, eEX, Nat.reduceBEq, Int.reduceLE, Int.reduceLT, Int.reduceToNat, Int.reduceEq, ↓reduceIte, reduceCtorEq, Nat.reducePow, Nat.reduceAdd, Nat.reduceLeDiff, Nat.reduceLT, Nat.reduceSub, Nat.reduceEqDiff]
  repeat' (first | (refine csel_of (fun h => ?_) (fun h => ?_) <;> simp only [h, eES, eEX, Nat.reduceBEq, Int.reduceLE, Int.reduceLT, Int.reduceToNat, Int.reduceEq, ↓reduceIte, reduceCtorEq, Nat.reducePow, Nat.reduceAdd, Nat.reduceLeDiff, Nat.reduceLT, Nat.reduceSub, Nat.reduceEqDiff]) | (refine gsel_t (fun h => ?_) (fun h => ?_) <;> simp only [h, updO, eES, eEX, Nat.reduceBEq, Int.reduceLE, Int.reduceLT, Int.reduceToNat, Int.reduceEq, ↓reduceIte, reduceCtorEq, Nat.reducePow, Nat.reduceAdd, Nat.reduceLeDiff, Nat.reduceLT, Nat.reduceSub, Nat.reduceEqDiff]) | (refine gsel_f (fun h => ?_) (fun h => ?_) <;> simp only [h, updO, eES, eEX, Nat.reduceBEq, Int.reduceLE, Int.reduceLT, Int.reduceToNat, Int.reduceEq, ↓reduceIte, reduceCtorEq, Nat.reducePow, Nat.reduceAdd, Nat.reduceLeDiff, Nat.reduceLT, Nat.reduceSub, Nat.reduceEqDiff]))
  all_goals (simp_all [C.sound] <;> omega)

theorem c78 (c : C) (n : Int) : Fn1 Tryz.prog 78 [c.av, .int .i64 n] (c.ahead n).av := by
  refine fn1_of_awp (rc := r78) (rs := o78) Tryz.func78 rfl rfl Tryz.ntmps78 k78 q78 (by simp) ?_
  simp only [g78_0, g78_1, g78_2, r78, o78, C.av, C.ahead, eES, eEX, Nat.reduceBEq, Int.reduceLE, Int.reduceLT, Int.reduceToNat, Int.reduceEq, ↓reduceIte, reduceCtorEq, Nat.reducePow, Nat.reduceAdd, Nat.reduceLeDiff, Nat.reduceLT, Nat.reduceSub, Nat.reduceEqDiff]

theorem c9 (s : List UInt8) (l : L) : Fn1 Tryz.prog 9 [.str s, l.av] (cav (opn s l)) := by
  refine fn1_of_awp (rc := r9) (rs := o9) Tryz.func9 rfl rfl Tryz.ntmps9 k9 q9 (by simp) ?_
  simp only [g9_0, g9_1, g9_2, g9_3, g9_4, g9_5, r9, o9, L.av, eES, eEX, Nat.reduceBEq, Int.reduceLE, Int.reduceLT, Int.reduceToNat, Int.reduceEq, ↓reduceIte, reduceCtorEq, Nat.reducePow, Nat.reduceAdd, Nat.reduceLeDiff, Nat.reduceLT, Nat.reduceSub, Nat.reduceEqDiff]
  repeat' (first | (refine csel_of (fun h => ?_) (fun h => ?_) <;> simp only [h, eES, eEX, Nat.reduceBEq, Int.reduceLE, Int.reduceLT, Int.reduceToNat, Int.reduceEq, ↓reduceIte, reduceCtorEq, Nat.reducePow, Nat.reduceAdd, Nat.reduceLeDiff, Nat.reduceLT, Nat.reduceSub, Nat.reduceEqDiff]) | (refine gsel_t (fun h => ?_) (fun h => ?_) <;> simp only [h, updO, eES, eEX, Nat.reduceBEq, Int.reduceLE, Int.reduceLT, Int.reduceToNat, Int.reduceEq, ↓reduceIte, reduceCtorEq, Nat.reducePow, Nat.reduceAdd, Nat.reduceLeDiff, Nat.reduceLT, Nat.reduceSub, Nat.reduceEqDiff]) | (refine gsel_f (fun h => ?_) (fun h => ?_) <;> simp only [h, updO, eES, eEX, Nat.reduceBEq, Int.reduceLE, Int.reduceLT, Int.reduceToNat, Int.reduceEq, ↓reduceIte, reduceCtorEq, Nat.reducePow, Nat.reduceAdd, Nat.reduceLeDiff, Nat.reduceLT, Nat.reduceSub, Nat.reduceEqDiff]))
  all_goals ((try simp only [decide_eq_true_eq, decide_eq_false_iff_not, beq_iff_eq, bne_iff_ne, beq_eq_false_iff_ne, bne_eq_false_iff_eq, ne_eq] at *) <;> unfold opn <;> (repeat' split) <;> first | rfl | (exfalso; omega))

theorem c34 (c : C) (n : Int) : Fn1 Tryz.prog 34 [c.av, .int .i64 n] (cav (c.spend n)) := by
  refine fn1_of_awp (rc := r34) (rs := o34) Tryz.func34 rfl rfl Tryz.ntmps34 k34 q34 (by simp) ?_
  simp only [g34_0, g34_1, g34_2, g34_3, g34_4, g34_5, g34_6, r34, o34, C.av, eES, eEX, Nat.reduceBEq, Int.reduceLE, Int.reduceLT, Int.reduceToNat, Int.reduceEq, ↓reduceIte, reduceCtorEq, Nat.reducePow, Nat.reduceAdd, Nat.reduceLeDiff, Nat.reduceLT, Nat.reduceSub, Nat.reduceEqDiff]
  repeat' (first | (refine csel_of (fun h => ?_) (fun h => ?_) <;> simp only [h, eES, eEX, Nat.reduceBEq, Int.reduceLE, Int.reduceLT, Int.reduceToNat, Int.reduceEq, ↓reduceIte, reduceCtorEq, Nat.reducePow, Nat.reduceAdd, Nat.reduceLeDiff, Nat.reduceLT, Nat.reduceSub, Nat.reduceEqDiff]) | (refine gsel_t (fun h => ?_) (fun h => ?_) <;> simp only [h, updO, eES, eEX, Nat.reduceBEq, Int.reduceLE, Int.reduceLT, Int.reduceToNat, Int.reduceEq, ↓reduceIte, reduceCtorEq, Nat.reducePow, Nat.reduceAdd, Nat.reduceLeDiff, Nat.reduceLT, Nat.reduceSub, Nat.reduceEqDiff]) | (refine gsel_f (fun h => ?_) (fun h => ?_) <;> simp only [h, updO, eES, eEX, Nat.reduceBEq, Int.reduceLE, Int.reduceLT, Int.reduceToNat, Int.reduceEq, ↓reduceIte, reduceCtorEq, Nat.reducePow, Nat.reduceAdd, Nat.reduceLeDiff, Nat.reduceLT, Nat.reduceSub, Nat.reduceEqDiff]))
  all_goals ((try simp only [decide_eq_true_eq, decide_eq_false_iff_not, beq_iff_eq, bne_iff_ne, beq_eq_false_iff_ne, bne_eq_false_iff_eq, ne_eq] at *) <;> unfold C.spend <;> (repeat' split) <;> first | rfl | (exfalso; omega))

end Go.Proofs.YtofcnjhnjagncaaGreat.Va

/- Cursor functions: what is left, the first bytes. -/
set_option linter.unusedSimpArgs false
namespace Go.Proofs.YtofcnjhnjagncaaGreat.Va
open Go Am Rc Bt Vp Cp

theorem c36 (c : C) (hl : c.d.length ≤ 9223372036854775807) : Fn1 Tryz.prog 36 [c.av] (.int .i64 c.left) := by
  refine fn1_of_awp (rc := r36) (rs := o36) Tryz.func36 rfl rfl Tryz.ntmps36 k36 q36 (by simp) ?_
  simp only [g36_0, g36_1, g36_2, g36_3, r36, o36, C.av, eES, eEX, Nat.reduceBEq, Int.reduceLE, Int.reduceLT, Int.reduceToNat, Int.reduceEq, ↓reduceIte, reduceCtorEq, Nat.reducePow, Nat.reduceAdd, Nat.reduceLeDiff, Nat.reduceLT, Nat.reduceSub, Nat.reduceEqDiff]
  refine aops_call (c55 c) rfl rfl rfl (.inl rfl) ?_
  have hr := c.rest_len
  cases hs : c.sound with
  | false =>
    rw [hs, if_neg (by simp)] at hr
    simp only [Bool.not_false, hr, eES, eEX, Nat.reduceBEq, Int.reduceLE, Int.reduceLT, Int.reduceToNat, Int.reduceEq, ↓reduceIte, reduceCtorEq, Nat.reducePow, Nat.reduceAdd, Nat.reduceLeDiff, Nat.reduceLT, Nat.reduceSub, Nat.reduceEqDiff]
  | true =>
    rw [hs, if_pos rfl] at hr
    have h := (C.sound_iff c).1 hs
    have e1 : IntKind.i64.wrap (c.e - c.a) = c.e - c.a := by rw [wi64]; omega
    simp only [Bool.not_true, hr, e1, eES, eEX, Nat.reduceBEq, Int.reduceLE, Int.reduceLT, Int.reduceToNat, Int.reduceEq, ↓reduceIte, reduceCtorEq, Nat.reducePow, Nat.reduceAdd, Nat.reduceLeDiff, Nat.reduceLT, Nat.reduceSub, Nat.reduceEqDiff]

theorem c77 (c : C) (n : Nat) (hn : n ≤ 1000) (hl : c.d.length ≤ 9223372036854770000) : Fn1 Tryz.prog 77 [c.av, .int .i64 (n : Int)] (.str (c.rest.take n)) := by
  refine fn1_of_awp (rc := r77) (rs := o77) Tryz.func77 rfl rfl Tryz.ntmps77 k77 q77 (by simp) ?_
  simp only [g77_0, g77_1, g77_2, g77_3, r77, o77, C.av, eES, eEX, Nat.reduceBEq, Int.reduceLE, Int.reduceLT, Int.reduceToNat, Int.reduceEq, ↓reduceIte, reduceCtorEq, Nat.reducePow, Nat.reduceAdd, Nat.reduceLeDiff, Nat.reduceLT, Nat.reduceSub, Nat.reduceEqDiff]
  refine aops_call (c55 c) rfl rfl rfl (.inl rfl) ?_
  cases hs : c.sound with
  | false =>
    simp only [Bool.not_false, C.rest_no hs, eES, eEX, Nat.reduceBEq, Int.reduceLE, Int.reduceLT, Int.reduceToNat, Int.reduceEq, ↓reduceIte, reduceCtorEq, Nat.reducePow, Nat.reduceAdd, Nat.reduceLeDiff, Nat.reduceLT, Nat.reduceSub, Nat.reduceEqDiff]
  | true =>
    have h := (C.sound_iff c).1 hs
    have e1 : IntKind.i64.wrap (c.a + n) = c.a + n := by rw [wi64]; omega
    have hh := C.head_of hs n _ rfl
    generalize hk : (if c.a + n < c.e then c.a + n else c.e) = k at hh
    have hk' : c.a ≤ k ∧ k ≤ c.e := by split at hk <;> omega
    have n1 : (0 ≤ c.a) = True := eq_true h.1
    have n2 : (0 ≤ k) = True := eq_true (by omega)
    have n3 : (c.a.toNat ≤ k.toNat ∧ k.toNat ≤ c.d.length) = True := eq_true (by omega)
    simp only [Bool.not_true, e1, hk, n1, n2, n3, hh, eES, eEX, Nat.reduceBEq, Int.reduceLE, Int.reduceLT, Int.reduceToNat, Int.reduceEq, ↓reduceIte, reduceCtorEq, Nat.reducePow, Nat.reduceAdd, Nat.reduceLeDiff, Nat.reduceLT, Nat.reduceSub, Nat.reduceEqDiff]

theorem c52 (c : C) (hl : c.d.length ≤ 9223372036854770000) : Fn1 Tryz.prog 52 [c.av] (ncav c.varint) := by
  refine fn1_of_awp (rc := r52) (rs := o52) Tryz.func52 rfl rfl Tryz.ntmps52 k52 q52 (by simp) ?_
  simp only [g52_0, g52_1, g52_2, g52_3, g52_4, r52, o52, C.av, eES, eEX, Nat.reduceBEq, Int.reduceLE, Int.reduceLT, Int.reduceToNat, Int.reduceEq, ↓reduceIte, reduceCtorEq, Nat.reducePow, Nat.reduceAdd, Nat.reduceLeDiff, Nat.reduceLT, Nat.reduceSub, Nat.reduceEqDiff]
  refine aops_call (c77 c 10 (by omega) hl) rfl rfl rfl (.inl rfl) ?_
  refine aops_call (c76 (c.rest.take 10)) rfl rfl rfl (.inl rfl) ?_
  rw [take_take]
  unfold C.varint
  generalize Vp.take c.rest = r
  obtain ⟨u, n, e⟩ := r
  simp only [tk, eES, eEX, Nat.reduceBEq, Int.reduceLE, Int.reduceLT, Int.reduceToNat, Int.reduceEq, ↓reduceIte, reduceCtorEq, Nat.reducePow, Nat.reduceAdd, Nat.reduceLeDiff, Nat.reduceLT, Nat.reduceSub, Nat.reduceEqDiff]
  refine csel_of (fun h => ?_) (fun h => ?_)
  · have h : ¬ e = 0 := by simpa using h
    simp only [h, ncav, C.av, eES, eEX, Nat.reduceBEq, Int.reduceLE, Int.reduceLT, Int.reduceToNat, Int.reduceEq, ↓reduceIte, reduceCtorEq, Nat.reducePow, Nat.reduceAdd, Nat.reduceLeDiff, Nat.reduceLT, Nat.reduceSub, Nat.reduceEqDiff]
    rfl
  · have h : e = 0 := by simpa using h
    subst h
    simp only [eES, eEX, Nat.reduceBEq, Int.reduceLE, Int.reduceLT, Int.reduceToNat, Int.reduceEq, ↓reduceIte, reduceCtorEq, Nat.reducePow, Nat.reduceAdd, Nat.reduceLeDiff, Nat.reduceLT, Nat.reduceSub, Nat.reduceEqDiff]
    refine aops_call (c78 c (n : Int)) rfl rfl rfl (.inl rfl) ?_
    simp only [ncav, C.av, C.ahead, eES, eEX, Nat.reduceBEq, Int.reduceLE, Int.reduceLT, Int.reduceToNat, Int.reduceEq, ↓reduceIte, reduceCtorEq, Nat.reducePow, Nat.reduceAdd, Nat.reduceLeDiff, Nat.reduceLT, Nat.reduceSub, Nat.reduceEqDiff]
    rfl

end Go.Proofs.YtofcnjhnjagncaaGreat.Va

/- Eight bytes: written and read. -/
set_option linter.unusedSimpArgs false
namespace Go.Proofs.YtofcnjhnjagncaaGreat.Va
open Go Am Rc Bt Vp Cp

/-- The eight bytes of a number. -/
def fx : Nat → Nat → List UInt8
  | 0, _ => []
  | k + 1, u => UInt8.ofNat (u % 256) :: fx k (u / 256)

theorem fx_len (k u : Nat) : (fx k u).length = k := by
  induction k generalizing u with
  | zero => rfl
  | succ k ih => simp [fx, ih]

theorem fx_snoc (k u : Nat) : fx (k + 1) u = fx k u ++ [UInt8.ofNat (u / 256 ^ k % 256)] := by
  induction k generalizing u with
  | zero => simp [fx]
  | succ k ih =>
    rw [fx, ih (u / 256)]
    simp only [fx, List.cons_append, Nat.div_div_eq_div_mul, Nat.pow_succ, Nat.mul_comm]

theorem fx_read : ∀ (k u : Nat), u < 256 ^ k → (fx k u).foldr (fun b v => 256 * v + b.toNat) 0 = u
  | 0, u, h => by simp at h; simp [fx, h]
  | k + 1, u, h => by
    rw [fx, List.foldr_cons, fx_read k (u / 256) (by rw [Nat.pow_succ] at h; omega), toNat_ofNat _ (by omega)]
    omega

theorem fix8_fx (u : Nat) (t : List UInt8) (h : u < 2 ^ 64) : fix8 (fx 8 u ++ t) = u := by
  unfold fix8
  rw [List.take_left' (fx_len 8 u)]
  exact fx_read 8 u (by have : (256 : Nat) ^ 8 = 2 ^ 64 := by decide
                        omega)

/-- The number of the first bytes. -/
def lo8 (s : List UInt8) : Nat → Nat
  | 0 => 0
  | k + 1 => lo8 s k + ((s[k]?).getD 0).toNat * 256 ^ k

theorem lo8_lt (s : List UInt8) (k : Nat) : lo8 s k < 256 ^ k := by
  induction k with
  | zero => exact Nat.one_pos
  | succ k ih =>
    have h1 := ((s[k]?).getD 0).toNat_lt
    have h2 : ((s[k]?).getD 0).toNat * 256 ^ k ≤ 255 * 256 ^ k := Nat.mul_le_mul_right _ (by omega)
    rw [lo8, Nat.pow_succ]
    omega

theorem foldr_app (b : UInt8) : ∀ (l : List UInt8) (z : Nat), l.foldr (fun b v => 256 * v + b.toNat) z = l.foldr (fun b v => 256 * v + b.toNat) 0 + z * 256 ^ l.length
  | [], z => by simp
  | a :: l, z => by
    rw [List.foldr_cons, List.foldr_cons, foldr_app b l z, List.length_cons, Nat.pow_succ]
    rw [Nat.mul_add, ← Nat.mul_assoc, Nat.mul_comm 256 z, Nat.mul_assoc z, Nat.mul_comm 256 (256 ^ _)]
    omega

theorem lo8_take (s : List UInt8) : ∀ (k : Nat), k ≤ s.length → (s.take k).foldr (fun b v => 256 * v + b.toNat) 0 = lo8 s k
  | 0, _ => rfl
  | k + 1, h => by
    rw [List.take_succ_eq_append_getElem (by omega), List.foldr_append, List.foldr_cons, List.foldr_nil, foldr_app 0, lo8_take s k (by omega), lo8]
    rw [List.getElem?_eq_getElem (by omega), List.length_take, Nat.min_eq_left (by omega)]
    simp

theorem fix8_lo8 (s : List UInt8) (h : 8 ≤ s.length) : fix8 s = lo8 s 8 := lo8_take s 8 h

/-- Added from the top down. -/
theorem foldr_drop (s : List UInt8) (k : Nat) (h : k < s.length) (hk : k < 8) : ((s.take 8).drop k).foldr (fun b v => 256 * v + b.toNat) 0 = 256 * ((s.take 8).drop (k + 1)).foldr (fun b v => 256 * v + b.toNat) 0 + ((s[k]?).getD 0).toNat := by
  have hl : k < (s.take 8).length := by simp; omega
  rw [List.drop_eq_getElem_cons hl, List.foldr_cons]
  rw [List.getElem?_eq_getElem h]
  simp

def TakeFixedI (s : List UInt8) (k : Nat) (st : St) : Prop :=
  ∃ f i, st = ⟨f, [noObs], []⟩ ∧ k = 8 - i ∧ i ≤ 8 ∧ f 0 = .str s ∧ f 4 = .int .u64 (lo8 s i : Nat) ∧ f 9 = .int .i64 (i : Nat)

theorem add_byte (s : List UInt8) (i : Nat) (c : UInt8) (hi : i < 8) (hc : s[i]? = some c) :
    bits .or .u64 (lo8 s i : Int) (IntKind.u64.wrap (IntKind.u64.wrap (c.toNat : Int) * 2 ^ min (IntKind.i64.wrap (8 * (i : Int))).toNat 64)) = (lo8 s (i + 1) : Nat) := by
  have e1 : IntKind.i64.wrap (8 * (i : Int)) = ((8 * i : Nat) : Int) := by rw [wi64]; omega
  have hp : 256 ^ i = 2 ^ (8 * i) := by rw [Nat.pow_mul]
  have hcl := c.toNat_lt
  have hlt := lo8_lt s (i + 1)
  have hlt0 := lo8_lt s i
  rw [lo8, hc] at hlt
  simp only [Option.getD_some] at hlt
  have h8 : 256 ^ (i + 1) ≤ 256 ^ 8 := Nat.pow_le_pow_right (by omega) (by omega)
  have h88 : (256 : Nat) ^ 8 = 18446744073709551616 := by decide
  have e2 : IntKind.u64.wrap (c.toNat : Int) = (c.toNat : Int) := by rw [wu64]; omega
  have e3 : IntKind.u64.wrap ((c.toNat : Int) * 2 ^ (8 * i)) = ((c.toNat * 256 ^ i : Nat) : Int) := by
    have : ((c.toNat * 2 ^ (8 * i) : Nat) : Int) = (c.toNat : Int) * 2 ^ (8 * i) := by push_cast; rfl
    rw [wu64, ← this, hp]
    rw [hp] at hlt
    omega
  rw [e1, Int.toNat_natCast, Nat.min_eq_left (by omega), e2, e3, or_u64 _ _ (by omega) (by omega), lo8, hc]
  congr 1
  rw [hp] at hlt0 ⊢
  have := Nat.two_pow_add_eq_or_of_lt hlt0 c.toNat
  simp only [Option.getD_some]
  rw [Nat.or_comm, Nat.mul_comm c.toNat, ← this, Nat.add_comm]

/-- What reading eight bytes gives. -/
def tkf (s : List UInt8) : AV := if s.length < 8 then .tup [.int .u64 0, .int .i64 4] else .tup [.int .u64 (fix8 s : Nat), .int .i64 0]

theorem c79 (s : List UInt8) : Fn1 Tryz.prog 79 [.str s] (tkf s) := by
  refine fn1_of_awp (rc := r79) (rs := o79) Tryz.func79 rfl rfl Tryz.ntmps79 k79 q79 (by simp) ?_
  simp only [g79_0, g79_1, g79_2, g79_3, g79_4, g79_5, g79_6, g79_7, g79_8, g79_9, r79, o79, eES, eEX, Nat.reduceBEq, Int.reduceLE, Int.reduceLT, Int.reduceToNat, Int.reduceEq, ↓reduceIte, reduceCtorEq, Nat.reducePow, Nat.reduceAdd, Nat.reduceLeDiff, Nat.reduceLT, Nat.reduceSub, Nat.reduceEqDiff]
  refine csel_of (fun h => ?_) (fun h => ?_)
  · have h : s.length < 8 := by have h : (s.length : Int) < 8 := by simpa using h
                                omega
    simp only [tkf, h, eES, eEX, Nat.reduceBEq, Int.reduceLE, Int.reduceLT, Int.reduceToNat, Int.reduceEq, ↓reduceIte, reduceCtorEq, Nat.reducePow, Nat.reduceAdd, Nat.reduceLeDiff, Nat.reduceLT, Nat.reduceSub, Nat.reduceEqDiff]
  · have h : ¬ s.length < 8 := by have h : ¬ (s.length : Int) < 8 := by simpa using h
                                  omega
    simp only [eES, eEX, Nat.reduceBEq, Int.reduceLE, Int.reduceLT, Int.reduceToNat, Int.reduceEq, ↓reduceIte, reduceCtorEq, Nat.reducePow, Nat.reduceAdd, Nat.reduceLeDiff, Nat.reduceLT, Nat.reduceSub, Nat.reduceEqDiff]
    refine awp_loop (TakeFixedI s) _ ⟨_, 0, rfl, rfl, by omega, rfl, rfl, rfl⟩ ?_
    rintro n st ⟨f, i, rfl, rfl, hi, h0, h4, h9⟩
    simp only [l79_0, g79_0, g79_1, g79_2, g79_3, g79_4, g79_5, g79_6, g79_7, g79_8, g79_9, r79, o79, h0, h4, h9, eES, eEX, Nat.reduceBEq, Int.reduceLE, Int.reduceLT, Int.reduceToNat, Int.reduceEq, ↓reduceIte, reduceCtorEq, Nat.reducePow, Nat.reduceAdd, Nat.reduceLeDiff, Nat.reduceLT, Nat.reduceSub, Nat.reduceEqDiff]
    refine csel_of (fun hc => ?_) (fun hc => ?_)
    · have hc : i < 8 := by have hc : (i : Int) < 8 := by simpa using hc
                            omega
      have n0 : (0 ≤ (i : Int)) = True := by simp
      obtain ⟨b, hb⟩ : ∃ b, s[i]? = some b := ⟨s[i], List.getElem?_eq_getElem (by omega)⟩
      have e1 : IntKind.i64.wrap ((i : Int) + 1) = ((i + 1 : Nat) : Int) := by rw [wi64]; omega
      have e0 : IntKind.i64.wrap (8 * (i : Int)) = ((8 * i : Nat) : Int) := by rw [wi64]; omega
      have n8 : (0 ≤ IntKind.i64.wrap (8 * (i : Int))) = True := eq_true (by rw [e0]; omega)
      have ha := add_byte s i b hc hb
      simp only [n0, Int.toNat_natCast, hb, n8, ha, e1, h0, h4, h9, eES, eEX, Nat.reduceBEq, Int.reduceLE, Int.reduceLT, Int.reduceToNat, Int.reduceEq, ↓reduceIte, reduceCtorEq, Nat.reducePow, Nat.reduceAdd, Nat.reduceLeDiff, Nat.reduceLT, Nat.reduceSub, Nat.reduceEqDiff]
      exact ⟨8 - (i + 1), by omega, _, i + 1, rfl, rfl, by omega, by simp only [h0, eES, eEX, Nat.reduceBEq, Int.reduceLE, Int.reduceLT, Int.reduceToNat, Int.reduceEq, ↓reduceIte, reduceCtorEq, Nat.reducePow, Nat.reduceAdd, Nat.reduceLeDiff, Nat.reduceLT, Nat.reduceSub, Nat.reduceEqDiff], by simp only [eES, eEX, Nat.reduceBEq, Int.reduceLE, Int.reduceLT, Int.reduceToNat, Int.reduceEq, ↓reduceIte, reduceCtorEq, Nat.reducePow, Nat.reduceAdd, Nat.reduceLeDiff, Nat.reduceLT, Nat.reduceSub, Nat.reduceEqDiff], by simp only [eES, eEX, Nat.reduceBEq, Int.reduceLE, Int.reduceLT, Int.reduceToNat, Int.reduceEq, ↓reduceIte, reduceCtorEq, Nat.reducePow, Nat.reduceAdd, Nat.reduceLeDiff, Nat.reduceLT, Nat.reduceSub, Nat.reduceEqDiff]⟩
    · have hc : i = 8 := by have hc : ¬ (i : Int) < 8 := by simpa using hc
                            omega
      subst hc
      simp only [h0, h4, h9, eES, eEX, Nat.reduceBEq, Int.reduceLE, Int.reduceLT, Int.reduceToNat, Int.reduceEq, ↓reduceIte, reduceCtorEq, Nat.reducePow, Nat.reduceAdd, Nat.reduceLeDiff, Nat.reduceLT, Nat.reduceSub, Nat.reduceEqDiff]
      rw [tkf, if_neg h, fix8_lo8 s (by omega)]

theorem c53 (c : C) (hl : c.d.length ≤ 9223372036854770000) : Fn1 Tryz.prog 53 [c.av] (ncav c.fixed) := by
  refine fn1_of_awp (rc := r53) (rs := o53) Tryz.func53 rfl rfl Tryz.ntmps53 k53 q53 (by simp) ?_
  simp only [g53_0, g53_1, g53_2, g53_3, g53_4, r53, o53, C.av, eES, eEX, Nat.reduceBEq, Int.reduceLE, Int.reduceLT, Int.reduceToNat, Int.reduceEq, ↓reduceIte, reduceCtorEq, Nat.reducePow, Nat.reduceAdd, Nat.reduceLeDiff, Nat.reduceLT, Nat.reduceSub, Nat.reduceEqDiff]
  refine aops_call (c77 c 8 (by omega) hl) rfl rfl rfl (.inl rfl) ?_
  have h8 : fix8 (c.rest.take 8) = fix8 c.rest := by simp [fix8, List.take_take]
  have hlen : (c.rest.take 8).length < 8 ↔ c.rest.length < 8 := by simp; omega
  by_cases h : c.rest.length < 8
  · have ht := c79 (c.rest.take 8)
    rw [tkf, if_pos (hlen.2 h)] at ht
    refine aops_call ht rfl rfl rfl (.inl rfl) ?_
    simp only [show (((4 : Int) != 0) = true) from rfl, C.fixed, ncav, h, C.av, eES, eEX, Nat.reduceBEq, Int.reduceLE, Int.reduceLT, Int.reduceToNat, Int.reduceEq, ↓reduceIte, reduceCtorEq, Nat.reducePow, Nat.reduceAdd, Nat.reduceLeDiff, Nat.reduceLT, Nat.reduceSub, Nat.reduceEqDiff]
    rfl
  · have ht := c79 (c.rest.take 8)
    rw [tkf, if_neg (fun h' => h (hlen.1 h')), h8] at ht
    refine aops_call ht rfl rfl rfl (.inl rfl) ?_
    simp only [bne_self_eq_false, eES, eEX, Nat.reduceBEq, Int.reduceLE, Int.reduceLT, Int.reduceToNat, Int.reduceEq, ↓reduceIte, reduceCtorEq, Nat.reducePow, Nat.reduceAdd, Nat.reduceLeDiff, Nat.reduceLT, Nat.reduceSub, Nat.reduceEqDiff]
    refine aops_call (c78 c 8) rfl rfl rfl (.inl rfl) ?_
    simp only [ncav, C.fixed, h, C.av, C.ahead, eES, eEX, Nat.reduceBEq, Int.reduceLE, Int.reduceLT, Int.reduceToNat, Int.reduceEq, ↓reduceIte, reduceCtorEq, Nat.reducePow, Nat.reduceAdd, Nat.reduceLeDiff, Nat.reduceLT, Nat.reduceSub, Nat.reduceEqDiff]
    rfl

theorem foldr_lt : ∀ (l : List UInt8), l.foldr (fun b v => 256 * v + b.toNat) 0 < 256 ^ l.length
  | [] => by simp
  | b :: l => by
    have h := foldr_lt l
    have hb := b.toNat_lt
    rw [List.foldr_cons, List.length_cons, Nat.pow_succ]
    omega

/-- The number of the bytes from the i-th on. -/
def hi8 (s : List UInt8) (i : Nat) : Nat := ((s.take 8).drop i).foldr (fun b v => 256 * v + b.toNat) 0

theorem hi8_step (s : List UInt8) (i : Nat) (hi : i < 8) (hs : 8 ≤ s.length) (c : UInt8) (hc : s[i]? = some c) : IntKind.u64.wrap (IntKind.u64.wrap ((hi8 s (i + 1) : Nat) * 256 : Int) + IntKind.u64.wrap (c.toNat : Int)) = ((hi8 s i : Nat) : Int) ∧ IntKind.u64.wrap (IntKind.u64.wrap (256 * (hi8 s (i + 1) : Nat) : Int) + IntKind.u64.wrap (c.toNat : Int)) = ((hi8 s i : Nat) : Int) := by
  have h := foldr_drop s i (by omega) hi
  rw [hc] at h
  simp only [Option.getD_some] at h
  have h : hi8 s i = 256 * hi8 s (i + 1) + c.toNat := h
  have hlt : hi8 s i < 256 ^ (8 - i) := by
    have := foldr_lt ((s.take 8).drop i)
    rw [List.length_drop, List.length_take, Nat.min_eq_left hs] at this
    exact this
  have h8 : 256 ^ (8 - i) ≤ 256 ^ 8 := Nat.pow_le_pow_right (by omega) (by omega)
  have h88 : (256 : Nat) ^ 8 = 18446744073709551616 := by decide
  have hcl := c.toNat_lt
  constructor <;> (simp only [wu64]; omega)

def RFixedI (s : List UInt8) (fr : Nat → Ob) (k : Nat) (st : St) : Prop :=
  ∃ f, ∃ i : Nat, st = ⟨f, [fr], []⟩ ∧ k = i ∧ i ≤ 8 ∧ f 1 = .ptr 0 1 0 ∧ f 3 = .ptr 0 3 0 ∧ f 5 = .str s ∧ f 6 = .int .u64 (hi8 s i : Nat) ∧ f 7 = .int .i64 ((i : Int) - 1)

end Go.Proofs.YtofcnjhnjagncaaGreat.Va

/- Raw fields, as plain data: what each function of the package computes. -/
namespace Go.Proofs.YtofcnjhnjagncaaGreat.Up
open Go Am Bt Vp Cp

/-- A raw field. -/
structure R where
  num : Int
  wire : Int
  bits : Nat
  data : List UInt8
  deriving DecidableEq

def R.av (f : R) : AV := .agg [.int .i64 f.num, .int .i64 f.wire, .int .u64 (f.bits : Nat), .str f.data]
def zr : R := ⟨0, 0, 0, []⟩

def tag (num wire : Int) : List UInt8 × Nat :=
  if num < 1 ∨ 65535 < num ∨ wire < 0 ∨ 6 < wire then ([], 6) else (Vp.put (num * 8 + wire).toNat, 0)
def tagv (r : List UInt8 × Nat) : AV := .tup [.str r.1, .int .i64 (r.2 : Nat)]

def takeTag (c : C) : Int × Int × C × Nat :=
  let r := c.varint
  if r.2.2 = 0 then
    if r.1 % 8 = 7 then (0, 0, c, 5) else if r.1 / 8 < 1 ∨ 65535 < r.1 / 8 then (0, 0, c, 6) else ((r.1 / 8 : Nat), (r.1 % 8 : Nat), r.2.1, 0)
  else (0, 0, c, r.2.2)
def ttv (r : Int × Int × C × Nat) : AV := .tup [.int .i64 r.1, .int .i64 r.2.1, r.2.2.1.av, .int .i64 (r.2.2.2 : Nat)]

def number (wire : Int) : Bool := wire == 0 || wire == 1 || wire == 2

/-- A length and as many bytes. -/
def dat (c : C) (wire : Int) : List UInt8 × C × Nat :=
  let r := c.varint
  if r.2.2 = 0 then
    if r.2.1.left < (r.1 : Int) then ([], c, 4)
    else if (if wire = 3 then c.tx else 65536) < (r.1 : Int) then ([], c, 3)
    else ((r.2.1.d.drop r.2.1.a.toNat).take r.1, r.2.1.ahead r.1, 0)
  else ([], c, r.2.2)
def datv (r : List UInt8 × C × Nat) : AV := .tup [.str r.1, r.2.1.av, .int .i64 (r.2.2 : Nat)]

/-- The contents of a field. -/
def cont (c : C) (f : R) : R × C × Nat :=
  if f.wire = 2 then ({ f with bits := c.fixed.1 }, c.fixed.2.1, c.fixed.2.2)
  else if f.wire = 0 ∨ f.wire = 1 then ({ f with bits := c.varint.1 }, c.varint.2.1, c.varint.2.2)
  else ({ f with data := (dat c f.wire).1 }, (dat c f.wire).2.1, (dat c f.wire).2.2)

/-- A raw field read at a cursor. -/
def nxt (c : C) : R × C × Nat :=
  let t := takeTag c
  if t.2.2.2 = 0 then
    let s := t.2.2.1.spend 1
    if s.2 = 0 then
      let k := cont s.1 { num := t.1, wire := t.2.1, bits := 0, data := [] }
      if k.2.2 = 0 then k else (zr, c, k.2.2)
    else (zr, c, s.2)
  else (zr, c, t.2.2.2)
def nxtv (r : R × C × Nat) : AV := .tup [r.1.av, r.2.1.av, .int .i64 (r.2.2 : Nat)]

theorem rest_snd {c : C} (h : c.rest ≠ []) : c.sound = true := by
  cases hs : c.sound with
  | true => rfl
  | false => exact absurd (C.rest_no hs) h

/-- Behind a number that was read the cursor is sound. -/
theorem varint_next {c : C} (hl : c.d.length ≤ 9223372036854775807) (h : c.varint.2.2 = 0) : ∃ n : Nat, 0 < n ∧ n ≤ 10 ∧ (n : Int) ≤ c.left ∧ c.varint.2.1 = { c with a := c.a + n } ∧ c.sound = true ∧ c.varint.2.1.sound = true ∧ c.varint.1 < 2 ^ 64 := by
  unfold C.varint at h ⊢
  have hb := take_bounds c.rest
  generalize Vp.take c.rest = r at h hb ⊢
  obtain ⟨u, n, e⟩ := r
  simp only at h hb ⊢
  split at h
  · rename_i he
    subst he
    obtain ⟨h1, h2, h3, h4⟩ := hb rfl
    have hne : c.rest ≠ [] := by intro e; rw [e] at h2; simp at h2; omega
    have hs := rest_snd hne
    have hs' := (C.sound_iff c).1 hs
    have hle := c.rest_len
    rw [if_pos hs] at hle
    have hw : IntKind.i64.wrap (c.a + (n : Int)) = c.a + n := by
      have : (n : Int) ≤ c.left := by unfold C.left; omega
      rw [wi64]; omega
    have hnl : (n : Int) ≤ c.left := by unfold C.left; omega
    refine ⟨n, h1, h3, hnl, ?_, hs, ?_, ?_⟩
    · rw [if_pos rfl]; simp only [C.ahead, hw]
    · rw [if_pos rfl]
      rw [C.sound_iff]
      simp only [C.ahead, hw]
      omega
    · rw [if_pos rfl]; exact h4
  · rename_i he; exact absurd h he

end Go.Proofs.YtofcnjhnjagncaaGreat.Up

/- Raw fields: tags, lengths, contents. -/
set_option linter.unusedSimpArgs false
namespace Go.Proofs.YtofcnjhnjagncaaGreat.Va
open Go Am Rc Bt Vp Cp Up

theorem tag_arith {n w : Int} (h : ¬ (n < 1 ∨ 65535 < n ∨ w < 0 ∨ 6 < w)) : IntKind.u64.wrap (IntKind.i64.wrap (IntKind.i64.wrap (n * 8) + w)) = ((n * 8 + w).toNat : Nat) ∧ (n * 8 + w).toNat < 18446744073709551616 := by
  simp only [wu64, wi64]
  omega

theorem tag_read {u : Nat} (h : ¬ (u / 8 < 1 ∨ 65535 < u / 8)) : IntKind.i64.wrap (IntKind.u64.wrap ((u : Int).tdiv 8)) = ((u / 8 : Nat) : Int) ∧ IntKind.i64.wrap ((u : Int).tmod 8) = ((u % 8 : Nat) : Int) := by
  have e1 : (u : Int).tdiv 8 = ((u / 8 : Nat) : Int) := by rw [Int.tdiv_eq_ediv_of_nonneg (by omega)]; omega
  have e2 : (u : Int).tmod 8 = ((u % 8 : Nat) : Int) := by rw [Int.tmod_eq_emod_of_nonneg (by omega)]; omega
  rw [e1, e2]
  simp only [wu64, wi64]
  omega

theorem c33 (c : C) (hl : c.d.length ≤ 9223372036854770000) : Fn1 Tryz.prog 33 [c.av] (ttv (takeTag c)) := by
  refine fn1_of_awp (rc := r33) (rs := o33) Tryz.func33 rfl rfl Tryz.ntmps33 k33 q33 (by simp) ?_
  simp only [g33_0, g33_1, g33_2, g33_3, g33_4, g33_5, g33_6, g33_7, g33_8, r33, o33, C.av, eES, eEX, Nat.reduceBEq, Int.reduceLE, Int.reduceLT, Int.reduceToNat, Int.reduceEq, ↓reduceIte, reduceCtorEq, Nat.reducePow, Nat.reduceAdd, Nat.reduceLeDiff, Nat.reduceLT, Nat.reduceSub, Nat.reduceEqDiff]
  refine aops_call (c52 c hl) rfl rfl rfl (.inl rfl) ?_
  have hv := fun h => varint_next (c := c) (by omega) h
  unfold takeTag
  generalize c.varint = r at hv ⊢
  obtain ⟨u, d, e⟩ := r
  simp only [ncav, C.av, eES, eEX, Nat.reduceBEq, Int.reduceLE, Int.reduceLT, Int.reduceToNat, Int.reduceEq, ↓reduceIte, reduceCtorEq, Nat.reducePow, Nat.reduceAdd, Nat.reduceLeDiff, Nat.reduceLT, Nat.reduceSub, Nat.reduceEqDiff] at hv ⊢
  refine csel_of (fun h => ?_) (fun h => ?_)
  · have h : ¬ e = 0 := by simpa using h
    simp only [h, ttv, C.av, eES, eEX, Nat.reduceBEq, Int.reduceLE, Int.reduceLT, Int.reduceToNat, Int.reduceEq, ↓reduceIte, reduceCtorEq, Nat.reducePow, Nat.reduceAdd, Nat.reduceLeDiff, Nat.reduceLT, Nat.reduceSub, Nat.reduceEqDiff]
  · have h : e = 0 := by simpa using h
    subst h
    obtain ⟨n, _, _, _, _, _, _, hu⟩ := hv rfl
    have e1 : (u : Int).tdiv 8 = ((u / 8 : Nat) : Int) := by rw [Int.tdiv_eq_ediv_of_nonneg (by omega)]; omega
    have e2 : (u : Int).tmod 8 = ((u % 8 : Nat) : Int) := by rw [Int.tmod_eq_emod_of_nonneg (by omega)]; omega
    have e3 : IntKind.u64.wrap ((u / 8 : Nat) : Int) = ((u / 8 : Nat) : Int) := by rw [wu64]; omega
    simp only [e1, e2, e3, show (((8 : Int) = 0)) = False from by simp, if_false, eES, eEX, Nat.reduceBEq, Int.reduceLE, Int.reduceLT, Int.reduceToNat, Int.reduceEq, ↓reduceIte, reduceCtorEq, Nat.reducePow, Nat.reduceAdd, Nat.reduceLeDiff, Nat.reduceLT, Nat.reduceSub, Nat.reduceEqDiff]
    refine csel_of (fun h => ?_) (fun h => ?_)
    · have h : u % 8 = 7 := by have h : ((u % 8 : Nat) : Int) = 7 := by simpa using h
                               omega
      simp only [h, ttv, C.av, eES, eEX, Nat.reduceBEq, Int.reduceLE, Int.reduceLT, Int.reduceToNat, Int.reduceEq, ↓reduceIte, reduceCtorEq, Nat.reducePow, Nat.reduceAdd, Nat.reduceLeDiff, Nat.reduceLT, Nat.reduceSub, Nat.reduceEqDiff]
      rfl
    · have h7 : ¬ u % 8 = 7 := by have h : ¬ ((u % 8 : Nat) : Int) = 7 := by simpa using h
                                  omega
      simp only [e1, e2, e3, show (((8 : Int) = 0)) = False from by simp, if_false, eES, eEX, Nat.reduceBEq, Int.reduceLE, Int.reduceLT, Int.reduceToNat, Int.reduceEq, ↓reduceIte, reduceCtorEq, Nat.reducePow, Nat.reduceAdd, Nat.reduceLeDiff, Nat.reduceLT, Nat.reduceSub, Nat.reduceEqDiff]
      by_cases hb : u / 8 < 1 ∨ 65535 < u / 8
      · repeat' (first | (refine csel_of (fun h => ?_) (fun h => ?_) <;> simp only [h, e1, e2, e3, show (((8 : Int) = 0)) = False from by simp, if_false, eES, eEX, Nat.reduceBEq, Int.reduceLE, Int.reduceLT, Int.reduceToNat, Int.reduceEq, ↓reduceIte, reduceCtorEq, Nat.reducePow, Nat.reduceAdd, Nat.reduceLeDiff, Nat.reduceLT, Nat.reduceSub, Nat.reduceEqDiff]) | (refine gsel_t (fun h => ?_) (fun h => ?_) <;> simp only [h, updO, e1, e2, e3, show (((8 : Int) = 0)) = False from by simp, if_false, eES, eEX, Nat.reduceBEq, Int.reduceLE, Int.reduceLT, Int.reduceToNat, Int.reduceEq, ↓reduceIte, reduceCtorEq, Nat.reducePow, Nat.reduceAdd, Nat.reduceLeDiff, Nat.reduceLT, Nat.reduceSub, Nat.reduceEqDiff]) | (refine gsel_f (fun h => ?_) (fun h => ?_) <;> simp only [h, updO, e1, e2, e3, show (((8 : Int) = 0)) = False from by simp, if_false, eES, eEX, Nat.reduceBEq, Int.reduceLE, Int.reduceLT, Int.reduceToNat, Int.reduceEq, ↓reduceIte, reduceCtorEq, Nat.reducePow, Nat.reduceAdd, Nat.reduceLeDiff, Nat.reduceLT, Nat.reduceSub, Nat.reduceEqDiff]))
        all_goals first
          | (simp only [h7, hb, ttv, C.av, eES, eEX, Nat.reduceBEq, Int.reduceLE, Int.reduceLT, Int.reduceToNat, Int.reduceEq, ↓reduceIte, reduceCtorEq, Nat.reducePow, Nat.reduceAdd, Nat.reduceLeDiff, Nat.reduceLT, Nat.reduceSub, Nat.reduceEqDiff] <;> rfl)
          | (exfalso; simp only [decide_eq_true_eq, decide_eq_false_iff_not] at *; omega)
      · obtain ⟨t1, t2⟩ := tag_read hb
        rw [e1, e3] at t1
        rw [e2] at t2
        have d1 : decide (((u / 8 : Nat) : Int) < 1) = false := by simp; omega
        have d2 : decide (65535 < ((u / 8 : Nat) : Int)) = false := by simp; omega
        simp only [d1, d2, e1, e2, e3, t1, t2, show (((8 : Int) = 0)) = False from by simp, if_false, eES, eEX, Nat.reduceBEq, Int.reduceLE, Int.reduceLT, Int.reduceToNat, Int.reduceEq, ↓reduceIte, reduceCtorEq, Nat.reducePow, Nat.reduceAdd, Nat.reduceLeDiff, Nat.reduceLT, Nat.reduceSub, Nat.reduceEqDiff]
        simp only [h7, hb, ttv, C.av, eES, eEX, Nat.reduceBEq, Int.reduceLE, Int.reduceLT, Int.reduceToNat, Int.reduceEq, ↓reduceIte, reduceCtorEq, Nat.reducePow, Nat.reduceAdd, Nat.reduceLeDiff, Nat.reduceLT, Nat.reduceSub, Nat.reduceEqDiff]
        rfl

end Go.Proofs.YtofcnjhnjagncaaGreat.Va

/- Raw fields: contents. -/
set_option linter.unusedSimpArgs false
namespace Go.Proofs.YtofcnjhnjagncaaGreat.Va
open Go Am Rc Bt Vp Cp Up

theorem cut_ok {c d : C} {u : Nat} (hl : c.d.length ≤ 9223372036854770000) (hd : c.varint = (u, d, 0)) (hu : ¬ d.left < (u : Int)) :
    d.a + u ≤ d.d.length ∧ 0 ≤ d.a ∧ (u : Int) ≤ 9223372036854770000 ∧ d.d.length = c.d.length := by
  obtain ⟨n, h1, h2, h3, h4, h5, h6, h7⟩ := varint_next (c := c) (by omega) (by rw [hd])
  rw [hd] at h4 h6
  simp only at h4 h6
  have hs := (C.sound_iff d).1 h6
  have hr := d.rest_len
  rw [if_pos h6] at hr
  have : d.d = c.d := by rw [h4]
  have e : d.d.length = c.d.length := by rw [this]
  omega

theorem cut_len {c d : C} {u : Nat} (hl : c.d.length ≤ 9223372036854770000) (hd : c.varint = (u, d, 0)) : d.d.length ≤ 9223372036854770000 := by
  obtain ⟨n, h1, h2, h3, h4, h5, h6, h7⟩ := varint_next (c := c) (by omega) (by rw [hd])
  rw [hd] at h4
  simp only at h4
  rw [h4]; exact hl

theorem left_bound (d : C) : 0 ≤ d.left ∧ d.left ≤ (d.d.length : Int) := by
  have hr := d.rest_len
  have hs := C.sound_iff d
  split at hr
  · rename_i h; have := hs.1 h; omega
  · omega

theorem c54 (c : C) (w : Int) (hl : c.d.length ≤ 9223372036854770000) : Fn1 Tryz.prog 54 [c.av, .int .i64 w] (datv (dat c w)) := by
  refine fn1_of_awp (rc := r54) (rs := o54) Tryz.func54 rfl rfl Tryz.ntmps54 k54 q54 (by simp) ?_
  simp only [g54_0, g54_1, g54_2, g54_3, g54_4, g54_5, g54_6, g54_7, g54_8, g54_9, g54_10, g54_11, g54_12, g54_13, g54_14, r54, o54, C.av, eES, eEX, Nat.reduceBEq, Int.reduceLE, Int.reduceLT, Int.reduceToNat, Int.reduceEq, ↓reduceIte, reduceCtorEq, Nat.reducePow, Nat.reduceAdd, Nat.reduceLeDiff, Nat.reduceLT, Nat.reduceSub, Nat.reduceEqDiff]
  refine aops_call (c52 c hl) rfl rfl rfl (.inl rfl) ?_
  have hdl := fun u d h => cut_len (c := c) (d := d) (u := u) hl h
  have hcut := fun u d h hu => cut_ok (c := c) (d := d) (u := u) hl h hu
  unfold dat
  generalize c.varint = r at hcut hdl ⊢
  obtain ⟨u, d, e⟩ := r
  simp only [ncav, C.av, eES, eEX, Nat.reduceBEq, Int.reduceLE, Int.reduceLT, Int.reduceToNat, Int.reduceEq, ↓reduceIte, reduceCtorEq, Nat.reducePow, Nat.reduceAdd, Nat.reduceLeDiff, Nat.reduceLT, Nat.reduceSub, Nat.reduceEqDiff]
  refine csel_of (fun h => ?_) (fun h => ?_)
  · have h : ¬ e = 0 := by simpa using h
    simp only [h, datv, C.av, eES, eEX, Nat.reduceBEq, Int.reduceLE, Int.reduceLT, Int.reduceToNat, Int.reduceEq, ↓reduceIte, reduceCtorEq, Nat.reducePow, Nat.reduceAdd, Nat.reduceLeDiff, Nat.reduceLT, Nat.reduceSub, Nat.reduceEqDiff]
  · have h : e = 0 := by simpa using h
    subst h
    have hcut := hcut u d rfl
    have hdl := hdl u d rfl
    have hlf := left_bound d
    have e0 : IntKind.u64.wrap d.left = d.left := by rw [wu64]; omega
    by_cases hw : w = 3
    all_goals
      first
        | (have dw : (w == 3) = true := by rw [hw] <;> rfl)
        | (have dw : (w == 3) = false := by simpa using hw)
      simp only [dw, eES, eEX, Nat.reduceBEq, Int.reduceLE, Int.reduceLT, Int.reduceToNat, Int.reduceEq, ↓reduceIte, reduceCtorEq, Nat.reducePow, Nat.reduceAdd, Nat.reduceLeDiff, Nat.reduceLT, Nat.reduceSub, Nat.reduceEqDiff]
      refine aops_call (c36 d (by omega)) rfl rfl rfl (.inl rfl) ?_
      by_cases hu : d.left < (u : Int)
      · have d1 : decide (d.left < (u : Int)) = true := by simpa using hu
        simp only [e0, d1, hu, datv, C.av, eES, eEX, Nat.reduceBEq, Int.reduceLE, Int.reduceLT, Int.reduceToNat, Int.reduceEq, ↓reduceIte, reduceCtorEq, Nat.reducePow, Nat.reduceAdd, Nat.reduceLeDiff, Nat.reduceLT, Nat.reduceSub, Nat.reduceEqDiff]
        rfl
      · have d1 : decide (d.left < (u : Int)) = false := by simpa using hu
        obtain ⟨k1, k2, k3, k4⟩ := hcut hu
        have e1 : IntKind.i64.wrap (u : Int) = u := by rw [wi64]; omega
        have e2 : IntKind.i64.wrap (d.a + (u : Int)) = d.a + u := by rw [wi64]; omega
        have n1 : (0 ≤ d.a) = True := eq_true k2
        have n2 : (0 ≤ d.a + (u : Int)) = True := eq_true (by omega)
        have n3 : (d.a.toNat ≤ (d.a + (u : Int)).toNat ∧ (d.a + (u : Int)).toNat ≤ d.d.length) = True := eq_true (by omega)
        have n4 : (d.a + (u : Int)).toNat - d.a.toNat = u := by omega
        first
          | (rw [if_pos hw]
             by_cases hm : c.tx < (u : Int)
             · have d2 : decide (c.tx < (u : Int)) = true := by simpa using hm
               simp only [e0, e1, d1, d2, hu, hm, datv, C.av, eES, eEX, Nat.reduceBEq, Int.reduceLE, Int.reduceLT, Int.reduceToNat, Int.reduceEq, ↓reduceIte, reduceCtorEq, Nat.reducePow, Nat.reduceAdd, Nat.reduceLeDiff, Nat.reduceLT, Nat.reduceSub, Nat.reduceEqDiff]
               rfl
             · have d2 : decide (c.tx < (u : Int)) = false := by simpa using hm
               simp only [e0, e1, e2, n1, n2, n3, n4, d1, d2, hu, hm, datv, C.av, C.ahead, eES, eEX, Nat.reduceBEq, Int.reduceLE, Int.reduceLT, Int.reduceToNat, Int.reduceEq, ↓reduceIte, reduceCtorEq, Nat.reducePow, Nat.reduceAdd, Nat.reduceLeDiff, Nat.reduceLT, Nat.reduceSub, Nat.reduceEqDiff]
               rfl)
          | (rw [if_neg hw]
             by_cases hm : 65536 < (u : Int)
             · have d2 : decide (65536 < (u : Int)) = true := by simpa using hm
               simp only [e0, e1, d1, d2, hu, hm, datv, C.av, eES, eEX, Nat.reduceBEq, Int.reduceLE, Int.reduceLT, Int.reduceToNat, Int.reduceEq, ↓reduceIte, reduceCtorEq, Nat.reducePow, Nat.reduceAdd, Nat.reduceLeDiff, Nat.reduceLT, Nat.reduceSub, Nat.reduceEqDiff]
               rfl
             · have d2 : decide (65536 < (u : Int)) = false := by simpa using hm
               simp only [e0, e1, e2, n1, n2, n3, n4, d1, d2, hu, hm, datv, C.av, C.ahead, eES, eEX, Nat.reduceBEq, Int.reduceLE, Int.reduceLT, Int.reduceToNat, Int.reduceEq, ↓reduceIte, reduceCtorEq, Nat.reducePow, Nat.reduceAdd, Nat.reduceLeDiff, Nat.reduceLT, Nat.reduceSub, Nat.reduceEqDiff]
               rfl)

theorem c35 (c : C) (f : R) (s : Nat) (fr : Nat → Ob) (m : Mem) (hs : fr s = .cells f.av.cells) (hl : c.d.length ≤ 9223372036854770000) :
    ACalls Tryz.prog 35 [c.av, .ptr 0 s 0] (fr :: m) fun x m1 => x = cav (cont c f).2 ∧ m1 = upd fr s (.cells (cont c f).1.av.cells) :: m := by
  refine acalls_of_awp (rc := r35) (rs := o35) Tryz.func35 rfl rfl Tryz.ntmps35 k35 q35 (by simp) ?_
  simp only [R.av, AV.cells] at hs
  simp only [g35_0, g35_1, g35_2, g35_4, g35_5, g35_6, g35_7, g35_8, g35_3, g35_9, r35, o35, C.av, hs, eES, eEX, Nat.reduceBEq, Int.reduceLE, Int.reduceLT, Int.reduceToNat, Int.reduceEq, ↓reduceIte, reduceCtorEq, Nat.reducePow, Nat.reduceAdd, Nat.reduceLeDiff, Nat.reduceLT, Nat.reduceSub, Nat.reduceEqDiff]
  by_cases h0 : f.wire = 0
  · have d0 : (f.wire == 0) = true := by simpa using h0
    simp only [d0, hs, eES, eEX, Nat.reduceBEq, Int.reduceLE, Int.reduceLT, Int.reduceToNat, Int.reduceEq, ↓reduceIte, reduceCtorEq, Nat.reducePow, Nat.reduceAdd, Nat.reduceLeDiff, Nat.reduceLT, Nat.reduceSub, Nat.reduceEqDiff]
    refine aops_call (c52 c hl) rfl rfl rfl (.inl rfl) ?_
    simp only [ncav, hs, C.av, eES, eEX, Nat.reduceBEq, Int.reduceLE, Int.reduceLT, Int.reduceToNat, Int.reduceEq, ↓reduceIte, reduceCtorEq, Nat.reducePow, Nat.reduceAdd, Nat.reduceLeDiff, Nat.reduceLT, Nat.reduceSub, Nat.reduceEqDiff]
    refine ⟨?_, ?_⟩
    · simp only [cont, cav, h0, C.av, eES, eEX, Nat.reduceBEq, Int.reduceLE, Int.reduceLT, Int.reduceToNat, Int.reduceEq, ↓reduceIte, reduceCtorEq, Nat.reducePow, Nat.reduceAdd, Nat.reduceLeDiff, Nat.reduceLT, Nat.reduceSub, Nat.reduceEqDiff]
      rfl
    · simp only [cont, h0, R.av, eES, eEX, Nat.reduceBEq, Int.reduceLE, Int.reduceLT, Int.reduceToNat, Int.reduceEq, ↓reduceIte, reduceCtorEq, Nat.reducePow, Nat.reduceAdd, Nat.reduceLeDiff, Nat.reduceLT, Nat.reduceSub, Nat.reduceEqDiff]
      rfl
  · have d0 : (f.wire == 0) = false := by simpa using h0
    by_cases h1 : f.wire = 1
    · have d1 : (f.wire == 1) = true := by simpa using h1
      simp only [d0, d1, hs, eES, eEX, Nat.reduceBEq, Int.reduceLE, Int.reduceLT, Int.reduceToNat, Int.reduceEq, ↓reduceIte, reduceCtorEq, Nat.reducePow, Nat.reduceAdd, Nat.reduceLeDiff, Nat.reduceLT, Nat.reduceSub, Nat.reduceEqDiff]
      refine aops_call (c52 c hl) rfl rfl rfl (.inl rfl) ?_
      simp only [ncav, hs, C.av, eES, eEX, Nat.reduceBEq, Int.reduceLE, Int.reduceLT, Int.reduceToNat, Int.reduceEq, ↓reduceIte, reduceCtorEq, Nat.reducePow, Nat.reduceAdd, Nat.reduceLeDiff, Nat.reduceLT, Nat.reduceSub, Nat.reduceEqDiff]
      refine ⟨?_, ?_⟩
      · simp only [cont, cav, h1, C.av, eES, eEX, Nat.reduceBEq, Int.reduceLE, Int.reduceLT, Int.reduceToNat, Int.reduceEq, ↓reduceIte, reduceCtorEq, Nat.reducePow, Nat.reduceAdd, Nat.reduceLeDiff, Nat.reduceLT, Nat.reduceSub, Nat.reduceEqDiff]
        rfl
      · simp only [cont, h1, R.av, eES, eEX, Nat.reduceBEq, Int.reduceLE, Int.reduceLT, Int.reduceToNat, Int.reduceEq, ↓reduceIte, reduceCtorEq, Nat.reducePow, Nat.reduceAdd, Nat.reduceLeDiff, Nat.reduceLT, Nat.reduceSub, Nat.reduceEqDiff]
        rfl
    · have d1 : (f.wire == 1) = false := by simpa using h1
      by_cases h2 : f.wire = 2
      · have d2 : (f.wire == 2) = true := by simpa using h2
        simp only [d0, d1, d2, hs, eES, eEX, Nat.reduceBEq, Int.reduceLE, Int.reduceLT, Int.reduceToNat, Int.reduceEq, ↓reduceIte, reduceCtorEq, Nat.reducePow, Nat.reduceAdd, Nat.reduceLeDiff, Nat.reduceLT, Nat.reduceSub, Nat.reduceEqDiff]
        refine aops_call (c53 c hl) rfl rfl rfl (.inl rfl) ?_
        simp only [ncav, hs, C.av, eES, eEX, Nat.reduceBEq, Int.reduceLE, Int.reduceLT, Int.reduceToNat, Int.reduceEq, ↓reduceIte, reduceCtorEq, Nat.reducePow, Nat.reduceAdd, Nat.reduceLeDiff, Nat.reduceLT, Nat.reduceSub, Nat.reduceEqDiff]
        refine ⟨?_, ?_⟩
        · simp only [cont, cav, h2, C.av, eES, eEX, Nat.reduceBEq, Int.reduceLE, Int.reduceLT, Int.reduceToNat, Int.reduceEq, ↓reduceIte, reduceCtorEq, Nat.reducePow, Nat.reduceAdd, Nat.reduceLeDiff, Nat.reduceLT, Nat.reduceSub, Nat.reduceEqDiff]
        · simp only [cont, h2, R.av, eES, eEX, Nat.reduceBEq, Int.reduceLE, Int.reduceLT, Int.reduceToNat, Int.reduceEq, ↓reduceIte, reduceCtorEq, Nat.reducePow, Nat.reduceAdd, Nat.reduceLeDiff, Nat.reduceLT, Nat.reduceSub, Nat.reduceEqDiff]
      · have d2 : (f.wire == 2) = false := by simpa using h2
        have hc : cont c f = ({ f with data := (dat c f.wire).1 }, (dat c f.wire).2.1, (dat c f.wire).2.2) := by
          simp only [cont, h0, h1, h2, if_false, or_self]
        simp only [d0, d1, d2, hs, eES, eEX, Nat.reduceBEq, Int.reduceLE, Int.reduceLT, Int.reduceToNat, Int.reduceEq, ↓reduceIte, reduceCtorEq, Nat.reducePow, Nat.reduceAdd, Nat.reduceLeDiff, Nat.reduceLT, Nat.reduceSub, Nat.reduceEqDiff]
        refine aops_call (c54 c f.wire hl) rfl rfl rfl (.inl rfl) ?_
        rw [hc]
        simp only [datv, hs, C.av, eES, eEX, Nat.reduceBEq, Int.reduceLE, Int.reduceLT, Int.reduceToNat, Int.reduceEq, ↓reduceIte, reduceCtorEq, Nat.reducePow, Nat.reduceAdd, Nat.reduceLeDiff, Nat.reduceLT, Nat.reduceSub, Nat.reduceEqDiff]
        exact ⟨rfl, rfl⟩

end Go.Proofs.YtofcnjhnjagncaaGreat.Va

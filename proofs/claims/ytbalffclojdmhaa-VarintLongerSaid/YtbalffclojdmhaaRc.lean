/- The code of functions of the program, as the abstract machine has it. -/
import Derived.Test.YtbalffclojdmhaaAmr
import Derived.Test.YtbalffclojdmhaaProg
namespace Go.Proofs.Ytbalffclojdmhaa.Rc
open Go Am

/- wireschema/varint.Put -/
def g16_0 : List Am.Item := [
    ⟨(some 2), .val (.mov (.c (.str []))), none⟩]
def g16_1 : List Am.Item := [
    ⟨(some 3), .val (.mov (.c (.nils))), none⟩]
def g16_2 : List Am.Item := [
    ⟨(some 4), .val (.mov (.t 0)), none⟩,
    ⟨(some 5), .val (.bin .num .geq (.t 4) (.c (.int .u64 128))), none⟩]
def g16_3 : List Am.Item := [
    ⟨(some 6), .val (.mov (.t 3)), none⟩,
    ⟨(some 7), .val (.mov (.t 0)), none⟩,
    ⟨(some 8), .val (.cvi .u8 (.t 7)), none⟩,
    ⟨(some 9), .val (.bin .num .or (.t 8) (.c (.int .u8 128))), none⟩,
    ⟨(some 10), .bsl 1 1 [.int .u8 0] [(0, 1, (.t 9))], none⟩,
    ⟨(some 11), .app 1 1 5 (.t 6) (.t 10), none⟩,
    ⟨(some 3), .val (.mov (.t 11)), none⟩]
def g16_4 : List Am.Item := [
    ⟨(some 12), .val (.mov (.t 0)), none⟩,
    ⟨(some 13), .val (.bin .num .shr (.t 12) (.c (.int .u64 7))), none⟩,
    ⟨(some 0), .val (.mov (.t 13)), none⟩]
def l16_0 : RC := .seq (.seq (.reg g16_2) (.cond (.t 5) (.skip) (.exit 0))) (.block 1 (.seq (.reg g16_3) (.reg g16_4)))
def g16_5 : List Am.Item := [
    ⟨(some 14), .val (.mov (.t 3)), none⟩,
    ⟨(some 15), .val (.mov (.t 0)), none⟩,
    ⟨(some 16), .val (.cvi .u8 (.t 15)), none⟩,
    ⟨(some 17), .bsl 1 1 [.int .u8 0] [(0, 1, (.t 16))], none⟩,
    ⟨(some 18), .app 1 1 5 (.t 14) (.t 17), none⟩,
    ⟨(some 19), .val (.b2s (.t 18)), none⟩,
    ⟨(some 2), .val (.mov (.t 19)), none⟩]
def r16 : RC := .seq (.reg g16_0) (.seq (.reg g16_1) (.gho (.vec 3 3 1) (.seq (.block 0 (.loop l16_0)) (.seq (.reg g16_5) (.ret)))))
def o16 : List RR := [.tmp 2]
theorem k16 : chkC Try.prog 20 r16 (Try.f16.body.getD .skip) = true := by decide +kernel
theorem q16 : chkR Try.prog Try.f16.results.toList o16 = true := by decide +kernel

/- wireschema/wireschemaref01.Put -/
def g17_0 : List Am.Item := [
    ⟨(some 2), .val (.mov (.c (.str []))), none⟩]
def g17_1 : List Am.Item := [
    ⟨(some 3), .val (.mov (.c (.nils))), none⟩]
def g17_2 : List Am.Item := [
    ⟨(some 4), .val (.mov (.t 0)), none⟩,
    ⟨(some 5), .val (.bin .num .geq (.t 4) (.c (.int .u64 128))), none⟩]
def g17_3 : List Am.Item := [
    ⟨(some 6), .val (.mov (.t 3)), none⟩,
    ⟨(some 7), .val (.mov (.t 0)), none⟩,
    ⟨(some 8), .val (.bin .num .rem (.t 7) (.c (.int .u64 128))), none⟩,
    ⟨(some 9), .val (.bin .num .add (.t 8) (.c (.int .u64 128))), none⟩,
    ⟨(some 10), .val (.cvi .u8 (.t 9)), none⟩,
    ⟨(some 11), .bsl 1 1 [.int .u8 0] [(0, 1, (.t 10))], none⟩,
    ⟨(some 12), .app 1 1 5 (.t 6) (.t 11), none⟩,
    ⟨(some 3), .val (.mov (.t 12)), none⟩]
def g17_4 : List Am.Item := [
    ⟨(some 13), .val (.mov (.t 0)), none⟩,
    ⟨(some 14), .val (.bin .num .quo (.t 13) (.c (.int .u64 128))), none⟩,
    ⟨(some 0), .val (.mov (.t 14)), none⟩]
def l17_0 : RC := .seq (.seq (.reg g17_2) (.cond (.t 5) (.skip) (.exit 0))) (.block 1 (.seq (.reg g17_3) (.reg g17_4)))
def g17_5 : List Am.Item := [
    ⟨(some 15), .val (.mov (.t 3)), none⟩,
    ⟨(some 16), .val (.mov (.t 0)), none⟩,
    ⟨(some 17), .val (.cvi .u8 (.t 16)), none⟩,
    ⟨(some 18), .bsl 1 1 [.int .u8 0] [(0, 1, (.t 17))], none⟩,
    ⟨(some 19), .app 1 1 5 (.t 15) (.t 18), none⟩,
    ⟨(some 20), .val (.b2s (.t 19)), none⟩,
    ⟨(some 2), .val (.mov (.t 20)), none⟩]
def r17 : RC := .seq (.reg g17_0) (.seq (.reg g17_1) (.gho (.vec 3 3 1) (.seq (.block 0 (.loop l17_0)) (.seq (.reg g17_5) (.ret)))))
def o17 : List RR := [.tmp 2]
theorem k17 : chkC Try.prog 21 r17 (Try.f17.body.getD .skip) = true := by decide +kernel
theorem q17 : chkR Try.prog Try.f17.results.toList o17 = true := by decide +kernel

/- wireschema/varint.Len -/
def g14_0 : List Am.Item := [
    ⟨(some 2), .val (.mov (.c (.int .i64 0))), none⟩]
def g14_1 : List Am.Item := [
    ⟨(some 3), .val (.mov (.c (.int .i64 1))), none⟩]
def g14_2 : List Am.Item := [
    ⟨(some 4), .val (.mov (.t 0)), none⟩,
    ⟨(some 5), .val (.bin .num .geq (.t 4) (.c (.int .u64 128))), none⟩]
def g14_3 : List Am.Item := [
    ⟨(some 6), .val (.mov (.t 0)), none⟩,
    ⟨(some 7), .val (.bin .num .shr (.t 6) (.c (.int .u64 7))), none⟩,
    ⟨(some 0), .val (.mov (.t 7)), none⟩]
def g14_4 : List Am.Item := [
    ⟨(some 8), .val (.mov (.t 3)), none⟩,
    ⟨(some 9), .val (.bin .num .add (.t 8) (.c (.int .i64 1))), none⟩,
    ⟨(some 3), .val (.mov (.t 9)), none⟩]
def l14_0 : RC := .seq (.seq (.reg g14_2) (.cond (.t 5) (.skip) (.exit 0))) (.block 1 (.seq (.reg g14_3) (.reg g14_4)))
def g14_5 : List Am.Item := [
    ⟨(some 10), .val (.mov (.t 3)), none⟩,
    ⟨(some 2), .val (.mov (.t 10)), none⟩]
def r14 : RC := .seq (.reg g14_0) (.seq (.reg g14_1) (.seq (.block 0 (.loop l14_0)) (.seq (.reg g14_5) (.ret))))
def o14 : List RR := [.tmp 2]
theorem k14 : chkC Try.prog 11 r14 (Try.f14.body.getD .skip) = true := by decide +kernel
theorem q14 : chkR Try.prog Try.f14.results.toList o14 = true := by decide +kernel

/- wireschema/varint.Take -/
def g23_0 : List Am.Item := [
    ⟨(some 2), .val (.mov (.c (.int .u64 0))), none⟩,
    ⟨(some 3), .val (.mov (.c (.int .i64 0))), none⟩,
    ⟨(some 4), .val (.mov (.c (.int .i64 0))), none⟩]
def g23_1 : List Am.Item := [
    ⟨(some 5), .val (.mov (.c (.int .u64 0))), none⟩]
def g23_2 : List Am.Item := [
    ⟨(some 6), .val (.mov (.c (.int .i64 0))), none⟩]
def g23_3 : List Am.Item := [
    ⟨(some 8), .val (.mov (.t 6)), none⟩,
    ⟨(some 9), .val (.mov (.t 0)), none⟩,
    ⟨(some 10), .val (.len 0 (.t 9)), none⟩,
    ⟨(some 11), .val (.bin .num .eql (.t 8) (.t 10)), none⟩]
def g23_4 : List Am.Item := [
    ⟨(some 2), .val (.mov (.c (.int .u64 0))), none⟩,
    ⟨(some 3), .val (.mov (.c (.int .i64 0))), none⟩,
    ⟨(some 4), .val (.mov (.c (.int .i64 4))), none⟩]
def g23_5 : List Am.Item := [
    ⟨(some 12), .val (.mov (.t 0)), none⟩,
    ⟨(some 13), .val (.mov (.t 6)), none⟩,
    ⟨(some 14), .val (.idx (.t 12) (.t 13)), none⟩,
    ⟨(some 7), .val (.mov (.t 14)), none⟩]
def g23_6 : List Am.Item := [
    ⟨(some 15), .val (.mov (.t 6)), none⟩,
    ⟨(some 16), .val (.bin .num .eql (.t 15) (.c (.int .i64 9))), none⟩,
    ⟨(some 17), .val (.mov (.t 16)), none⟩,
    ⟨(some 18), .val (.mov (.t 7)), (some (17, true))⟩,
    ⟨(some 19), .val (.bin .num .gtr (.t 18) (.c (.int .u8 1))), (some (17, true))⟩,
    ⟨(some 20), .val (.pick (.t 17) (.t 19) (.c (.bool false))), none⟩]
def g23_7 : List Am.Item := [
    ⟨(some 2), .val (.mov (.c (.int .u64 0))), none⟩,
    ⟨(some 3), .val (.mov (.c (.int .i64 0))), none⟩,
    ⟨(some 4), .val (.mov (.c (.int .i64 6))), none⟩]
def g23_8 : List Am.Item := [
    ⟨(some 21), .val (.mov (.t 5)), none⟩,
    ⟨(some 22), .val (.mov (.t 7)), none⟩,
    ⟨(some 23), .val (.bin .num .and (.t 22) (.c (.int .u8 127))), none⟩,
    ⟨(some 24), .val (.cvi .u64 (.t 23)), none⟩,
    ⟨(some 25), .val (.mov (.t 6)), none⟩,
    ⟨(some 26), .val (.bin .num .mul (.c (.int .i64 7)) (.t 25)), none⟩,
    ⟨(some 27), .val (.bin .num .shl (.t 24) (.t 26)), none⟩,
    ⟨(some 28), .val (.bin .num .or (.t 21) (.t 27)), none⟩,
    ⟨(some 5), .val (.mov (.t 28)), none⟩]
def g23_9 : List Am.Item := [
    ⟨(some 29), .val (.mov (.t 6)), none⟩,
    ⟨(some 30), .val (.bin .num .add (.t 29) (.c (.int .i64 1))), none⟩,
    ⟨(some 6), .val (.mov (.t 30)), none⟩]
def g23_10 : List Am.Item := [
    ⟨(some 32), .val (.mov (.t 7)), none⟩,
    ⟨(some 33), .val (.bin .num .lss (.t 32) (.c (.int .u8 128))), none⟩,
    ⟨(some 31), .val (.mov (.t 33)), none⟩]
def l23_0 : RC := .block 1 (.seq (.seq (.reg g23_3) (.cond (.t 11) (.seq (.reg g23_4) (.ret)) (.skip))) (.seq (.reg g23_5) (.seq (.seq (.reg g23_6) (.cond (.t 20) (.seq (.reg g23_7) (.ret)) (.skip))) (.seq (.reg g23_8) (.seq (.reg g23_9) (.block 2 (.seq (.reg g23_10) (.cond (.t 31) (.exit 0) (.skip)))))))))
def g23_11 : List Am.Item := [
    ⟨(some 34), .val (.mov (.t 5)), none⟩,
    ⟨(some 35), .val (.mov (.t 6)), none⟩,
    ⟨(some 2), .val (.mov (.t 34)), none⟩,
    ⟨(some 3), .val (.mov (.t 35)), none⟩,
    ⟨(some 4), .val (.mov (.c (.int .i64 0))), none⟩]
def r23 : RC := .seq (.reg g23_0) (.scope (.seq (.reg g23_1) (.seq (.reg g23_2) (.seq (.lab) (.seq (.block 0 (.loop l23_0)) (.seq (.reg g23_11) (.ret)))))))
def o23 : List RR := [.tmp 2, .tmp 3, .tmp 4]
theorem k23 : chkC Try.prog 36 r23 (Try.f23.body.getD .skip) = true := by decide +kernel
theorem q23 : chkR Try.prog Try.f23.results.toList o23 = true := by decide +kernel

/- wireschema/wireschemaref01.Take -/
def g24_0 : List Am.Item := [
    ⟨(some 2), .val (.mov (.c (.int .u64 0))), none⟩,
    ⟨(some 3), .val (.mov (.c (.int .i64 0))), none⟩,
    ⟨(some 4), .val (.mov (.c (.int .i64 0))), none⟩]
def g24_1 : List Am.Item := [
    ⟨(some 5), .val (.mov (.c (.int .u64 0))), none⟩,
    ⟨(some 6), .val (.mov (.c (.int .u64 1))), none⟩]
def g24_2 : List Am.Item := [
    ⟨(some 7), .val (.mov (.c (.int .i64 0))), none⟩]
def g24_3 : List Am.Item := [
    ⟨(some 9), .val (.mov (.t 7)), none⟩,
    ⟨(some 10), .val (.bin .num .lss (.t 9) (.c (.int .i64 10))), none⟩]
def g24_5 : List Am.Item := [
    ⟨(some 13), .val (.mov (.t 7)), none⟩,
    ⟨(some 14), .val (.mov (.t 0)), none⟩,
    ⟨(some 15), .val (.len 0 (.t 14)), none⟩,
    ⟨(some 16), .val (.bin .num .geq (.t 13) (.t 15)), none⟩]
def g24_6 : List Am.Item := [
    ⟨(some 2), .val (.mov (.c (.int .u64 0))), none⟩,
    ⟨(some 3), .val (.mov (.c (.int .i64 0))), none⟩,
    ⟨(some 4), .val (.mov (.c (.int .i64 4))), none⟩]
def g24_7 : List Am.Item := [
    ⟨(some 17), .val (.mov (.t 0)), none⟩,
    ⟨(some 18), .val (.mov (.t 7)), none⟩,
    ⟨(some 19), .val (.idx (.t 17) (.t 18)), none⟩,
    ⟨(some 20), .val (.cvi .u64 (.t 19)), none⟩,
    ⟨(some 8), .val (.mov (.t 20)), none⟩]
def g24_8 : List Am.Item := [
    ⟨(some 21), .val (.mov (.t 7)), none⟩,
    ⟨(some 22), .val (.bin .num .eql (.t 21) (.c (.int .i64 9))), none⟩,
    ⟨(some 23), .val (.mov (.t 22)), none⟩,
    ⟨(some 24), .val (.mov (.t 8)), (some (23, true))⟩,
    ⟨(some 25), .val (.bin .num .gtr (.t 24) (.c (.int .u64 1))), (some (23, true))⟩,
    ⟨(some 26), .val (.pick (.t 23) (.t 25) (.c (.bool false))), none⟩]
def g24_9 : List Am.Item := [
    ⟨(some 2), .val (.mov (.c (.int .u64 0))), none⟩,
    ⟨(some 3), .val (.mov (.c (.int .i64 0))), none⟩,
    ⟨(some 4), .val (.mov (.c (.int .i64 6))), none⟩]
def g24_10 : List Am.Item := [
    ⟨(some 27), .val (.mov (.t 5)), none⟩,
    ⟨(some 28), .val (.mov (.t 8)), none⟩,
    ⟨(some 29), .val (.bin .num .rem (.t 28) (.c (.int .u64 128))), none⟩,
    ⟨(some 30), .val (.mov (.t 6)), none⟩,
    ⟨(some 31), .val (.bin .num .mul (.t 29) (.t 30)), none⟩,
    ⟨(some 32), .val (.bin .num .add (.t 27) (.t 31)), none⟩,
    ⟨(some 5), .val (.mov (.t 32)), none⟩]
def g24_11 : List Am.Item := [
    ⟨(some 33), .val (.mov (.t 8)), none⟩,
    ⟨(some 34), .val (.bin .num .lss (.t 33) (.c (.int .u64 128))), none⟩]
def g24_12 : List Am.Item := [
    ⟨(some 35), .val (.mov (.t 5)), none⟩,
    ⟨(some 36), .val (.mov (.t 7)), none⟩,
    ⟨(some 37), .val (.bin .num .add (.t 36) (.c (.int .i64 1))), none⟩,
    ⟨(some 2), .val (.mov (.t 35)), none⟩,
    ⟨(some 3), .val (.mov (.t 37)), none⟩,
    ⟨(some 4), .val (.mov (.c (.int .i64 0))), none⟩]
def g24_13 : List Am.Item := [
    ⟨(some 38), .val (.mov (.t 6)), none⟩,
    ⟨(some 39), .val (.bin .num .mul (.t 38) (.c (.int .u64 128))), none⟩,
    ⟨(some 6), .val (.mov (.t 39)), none⟩]
def g24_4 : List Am.Item := [
    ⟨(some 11), .val (.mov (.t 7)), none⟩,
    ⟨(some 12), .val (.bin .num .add (.t 11) (.c (.int .i64 1))), none⟩,
    ⟨(some 7), .val (.mov (.t 12)), none⟩]
def l24_0 : RC := .seq (.seq (.reg g24_3) (.cond (.t 10) (.skip) (.exit 0))) (.seq (.block 1 (.seq (.seq (.reg g24_5) (.cond (.t 16) (.seq (.reg g24_6) (.ret)) (.skip))) (.seq (.reg g24_7) (.seq (.seq (.reg g24_8) (.cond (.t 26) (.seq (.reg g24_9) (.ret)) (.skip))) (.seq (.reg g24_10) (.seq (.seq (.reg g24_11) (.cond (.t 34) (.seq (.reg g24_12) (.ret)) (.skip))) (.reg g24_13))))))) (.reg g24_4))
def g24_14 : List Am.Item := [
    ⟨(some 2), .val (.mov (.c (.int .u64 0))), none⟩,
    ⟨(some 3), .val (.mov (.c (.int .i64 0))), none⟩,
    ⟨(some 4), .val (.mov (.c (.int .i64 6))), none⟩]
def r24 : RC := .seq (.reg g24_0) (.seq (.reg g24_1) (.seq (.seq (.reg g24_2) (.block 0 (.loop l24_0))) (.seq (.reg g24_14) (.ret))))
def o24 : List RR := [.tmp 2, .tmp 3, .tmp 4]
theorem k24 : chkC Try.prog 40 r24 (Try.f24.body.getD .skip) = true := by decide +kernel
theorem q24 : chkR Try.prog Try.f24.results.toList o24 = true := by decide +kernel

/- wireschema/varint.Short -/
def g25_0 : List Am.Item := [
    ⟨(some 2), .val (.mov (.c (.bool false))), none⟩]
def g25_1 : List Am.Item := [
    ⟨(some 7), .val (.mov (.t 0)), none⟩,
    ⟨(some 8), .call (.f 23) [(.t 7)], none⟩,
    ⟨(some 6), .val (.mov (.t 8)), none⟩,
    ⟨(some 9), .val (.ext (.t 6) 0), none⟩,
    ⟨(some 10), .val (.ext (.t 6) 1), none⟩,
    ⟨(some 11), .val (.ext (.t 6) 2), none⟩,
    ⟨(some 3), .val (.mov (.t 9)), none⟩,
    ⟨(some 4), .val (.mov (.t 10)), none⟩,
    ⟨(some 5), .val (.mov (.t 11)), none⟩]
def g25_2 : List Am.Item := [
    ⟨(some 12), .val (.mov (.t 5)), none⟩,
    ⟨(some 13), .val (.bin .num .eql (.t 12) (.c (.int .i64 0))), none⟩,
    ⟨(some 14), .val (.mov (.t 13)), none⟩,
    ⟨(some 15), .val (.mov (.t 4)), (some (14, true))⟩,
    ⟨(some 16), .val (.mov (.t 0)), (some (14, true))⟩,
    ⟨(some 17), .val (.len 0 (.t 16)), (some (14, true))⟩,
    ⟨(some 18), .val (.bin .num .eql (.t 15) (.t 17)), (some (14, true))⟩,
    ⟨(some 19), .val (.pick (.t 14) (.t 18) (.c (.bool false))), none⟩,
    ⟨(some 20), .val (.mov (.t 19)), none⟩,
    ⟨(some 21), .val (.mov (.t 4)), (some (20, true))⟩,
    ⟨(some 22), .val (.bin .num .eql (.t 21) (.c (.int .i64 1))), (some (20, true))⟩,
    ⟨(some 23), .val (.mov (.t 22)), (some (20, true))⟩,
    ⟨(some 24), .val (.mov (.t 0)), (some (23, false))⟩,
    ⟨(some 25), .val (.mov (.t 4)), (some (23, false))⟩,
    ⟨(some 26), .val (.bin .num .sub (.t 25) (.c (.int .i64 1))), (some (23, false))⟩,
    ⟨(some 27), .val (.idx (.t 24) (.t 26)), (some (23, false))⟩,
    ⟨(some 28), .val (.bin .num .neq (.t 27) (.c (.int .u8 0))), (some (23, false))⟩,
    ⟨(some 29), .val (.pick (.t 23) (.c (.bool true)) (.t 28)), (some (20, true))⟩,
    ⟨(some 30), .val (.pick (.t 20) (.t 29) (.c (.bool false))), none⟩,
    ⟨(some 2), .val (.mov (.t 30)), none⟩]
def r25 : RC := .seq (.reg g25_0) (.seq (.reg g25_1) (.seq (.reg g25_2) (.ret)))
def o25 : List RR := [.tmp 2]
theorem k25 : chkC Try.prog 31 r25 (Try.f25.body.getD .skip) = true := by decide +kernel
theorem q25 : chkR Try.prog Try.f25.results.toList o25 = true := by decide +kernel

/- wireschema/wireschemaref01.Short -/
def g26_0 : List Am.Item := [
    ⟨(some 2), .val (.mov (.c (.bool false))), none⟩]
def g26_1 : List Am.Item := [
    ⟨(some 7), .val (.mov (.t 0)), none⟩,
    ⟨(some 8), .call (.f 24) [(.t 7)], none⟩,
    ⟨(some 6), .val (.mov (.t 8)), none⟩,
    ⟨(some 9), .val (.ext (.t 6) 0), none⟩,
    ⟨(some 10), .val (.ext (.t 6) 1), none⟩,
    ⟨(some 11), .val (.ext (.t 6) 2), none⟩,
    ⟨(some 3), .val (.mov (.t 9)), none⟩,
    ⟨(some 4), .val (.mov (.t 10)), none⟩,
    ⟨(some 5), .val (.mov (.t 11)), none⟩]
def g26_2 : List Am.Item := [
    ⟨(some 12), .val (.mov (.t 5)), none⟩,
    ⟨(some 13), .val (.bin .num .eql (.t 12) (.c (.int .i64 0))), none⟩,
    ⟨(some 14), .val (.mov (.t 13)), none⟩,
    ⟨(some 15), .val (.mov (.t 4)), (some (14, true))⟩,
    ⟨(some 16), .val (.mov (.t 0)), (some (14, true))⟩,
    ⟨(some 17), .val (.len 0 (.t 16)), (some (14, true))⟩,
    ⟨(some 18), .val (.bin .num .eql (.t 15) (.t 17)), (some (14, true))⟩,
    ⟨(some 19), .val (.pick (.t 14) (.t 18) (.c (.bool false))), none⟩,
    ⟨(some 20), .val (.mov (.t 19)), none⟩,
    ⟨(some 21), .val (.mov (.t 3)), (some (20, true))⟩,
    ⟨(some 22), .call (.f 17) [(.t 21)], (some (20, true))⟩,
    ⟨(some 23), .val (.mov (.t 0)), (some (20, true))⟩,
    ⟨(some 24), .val (.bin .str .eql (.t 22) (.t 23)), (some (20, true))⟩,
    ⟨(some 25), .val (.pick (.t 20) (.t 24) (.c (.bool false))), none⟩,
    ⟨(some 2), .val (.mov (.t 25)), none⟩]
def r26 : RC := .seq (.reg g26_0) (.seq (.reg g26_1) (.seq (.reg g26_2) (.ret)))
def o26 : List RR := [.tmp 2]
theorem k26 : chkC Try.prog 26 r26 (Try.f26.body.getD .skip) = true := by decide +kernel
theorem q26 : chkR Try.prog Try.f26.results.toList o26 = true := by decide +kernel

/- wireschema/varint.Fixed -/
def g21_0 : List Am.Item := [
    ⟨(some 2), .val (.mov (.c (.str []))), none⟩]
def g21_1 : List Am.Item := [
    ⟨(some 5), .mk 5 5 1 1 [.int .u8 0] (.c (.int .i64 8)) (.c (.int .i64 8)), none⟩,
    ⟨(some 3), .val (.mov (.t 5)), none⟩]
def g21_2 : List Am.Item := [
    ⟨(some 6), .val (.mov (.t 3)), none⟩,
    ⟨(some 7), .val (.len 1 (.t 6)), none⟩,
    ⟨(some 8), .val (.mov (.c (.int .i64 0))), none⟩]
def g21_3 : List Am.Item := [
    ⟨(some 9), .val (.bin .num .lss (.t 8) (.t 7)), none⟩]
def g21_4 : List Am.Item := [
    ⟨(some 10), .val (.mov (.t 8)), none⟩,
    ⟨(some 4), .val (.mov (.t 10)), none⟩]
def g21_5 : List Am.Item := [
    ⟨(some 11), .val (.mov (.t 3)), none⟩,
    ⟨(some 12), .val (.mov (.t 4)), none⟩,
    ⟨(some 13), .val (.mov (.t 0)), none⟩,
    ⟨(some 14), .val (.mov (.t 4)), none⟩,
    ⟨(some 15), .val (.bin .num .mul (.c (.int .i64 8)) (.t 14)), none⟩,
    ⟨(some 16), .val (.bin .num .shr (.t 13) (.t 15)), none⟩,
    ⟨(some 17), .val (.cvi .u8 (.t 16)), none⟩,
    ⟨(some 18), .val (.iaddr 1 none (.t 11) (.t 12)), none⟩,
    ⟨none, .store 1 (.t 18) (.t 17), none⟩]
def g21_6 : List Am.Item := [
    ⟨(some 19), .val (.bin .num .add (.t 8) (.c (.int .i64 1))), none⟩,
    ⟨(some 8), .val (.mov (.t 19)), none⟩]
def l21_0 : RC := .seq (.reg g21_3) (.seq (.cond (.t 9) (.skip) (.exit 0)) (.seq (.block 1 (.seq (.reg g21_4) (.reg g21_5))) (.reg g21_6)))
def g21_7 : List Am.Item := [
    ⟨(some 20), .val (.mov (.t 3)), none⟩,
    ⟨(some 21), .val (.b2s (.t 20)), none⟩,
    ⟨(some 2), .val (.mov (.t 21)), none⟩]
def r21 : RC := .seq (.reg g21_0) (.seq (.reg g21_1) (.seq (.seq (.reg g21_2) (.block 0 (.loop l21_0))) (.seq (.reg g21_7) (.ret))))
def o21 : List RR := [.tmp 2]
theorem k21 : chkC Try.prog 22 r21 (Try.f21.body.getD .skip) = true := by decide +kernel
theorem q21 : chkR Try.prog Try.f21.results.toList o21 = true := by decide +kernel

/- wireschema/wireschemaref01.Fixed -/
def g22_0 : List Am.Item := [
    ⟨(some 2), .val (.mov (.c (.str []))), none⟩]
def g22_1 : List Am.Item := [
    ⟨(some 3), .val (.mov (.c (.nils))), none⟩]
def g22_2 : List Am.Item := [
    ⟨(some 4), .val (.mov (.c (.int .i64 0))), none⟩]
def g22_3 : List Am.Item := [
    ⟨(some 5), .val (.mov (.t 4)), none⟩,
    ⟨(some 6), .val (.bin .num .lss (.t 5) (.c (.int .i64 8))), none⟩]
def g22_5 : List Am.Item := [
    ⟨(some 9), .val (.mov (.t 3)), none⟩,
    ⟨(some 10), .val (.mov (.t 0)), none⟩,
    ⟨(some 11), .val (.bin .num .rem (.t 10) (.c (.int .u64 256))), none⟩,
    ⟨(some 12), .val (.cvi .u8 (.t 11)), none⟩,
    ⟨(some 13), .bsl 1 1 [.int .u8 0] [(0, 1, (.t 12))], none⟩,
    ⟨(some 14), .app 1 1 5 (.t 9) (.t 13), none⟩,
    ⟨(some 3), .val (.mov (.t 14)), none⟩]
def g22_6 : List Am.Item := [
    ⟨(some 15), .val (.mov (.t 0)), none⟩,
    ⟨(some 16), .val (.bin .num .quo (.t 15) (.c (.int .u64 256))), none⟩,
    ⟨(some 0), .val (.mov (.t 16)), none⟩]
def g22_4 : List Am.Item := [
    ⟨(some 7), .val (.mov (.t 4)), none⟩,
    ⟨(some 8), .val (.bin .num .add (.t 7) (.c (.int .i64 1))), none⟩,
    ⟨(some 4), .val (.mov (.t 8)), none⟩]
def l22_0 : RC := .seq (.seq (.reg g22_3) (.cond (.t 6) (.skip) (.exit 0))) (.seq (.block 1 (.seq (.reg g22_5) (.reg g22_6))) (.reg g22_4))
def g22_7 : List Am.Item := [
    ⟨(some 17), .val (.mov (.t 3)), none⟩,
    ⟨(some 18), .val (.b2s (.t 17)), none⟩,
    ⟨(some 2), .val (.mov (.t 18)), none⟩]
def r22 : RC := .seq (.reg g22_0) (.seq (.reg g22_1) (.gho (.vec 3 3 1) (.seq (.seq (.reg g22_2) (.block 0 (.loop l22_0))) (.seq (.reg g22_7) (.ret)))))
def o22 : List RR := [.tmp 2]
theorem k22 : chkC Try.prog 19 r22 (Try.f22.body.getD .skip) = true := by decide +kernel
theorem q22 : chkR Try.prog Try.f22.results.toList o22 = true := by decide +kernel

/- wireschema/varint.TakeFixed -/
def g19_0 : List Am.Item := [
    ⟨(some 2), .val (.mov (.c (.int .u64 0))), none⟩,
    ⟨(some 3), .val (.mov (.c (.int .i64 0))), none⟩]
def g19_1 : List Am.Item := [
    ⟨(some 6), .val (.mov (.t 0)), none⟩,
    ⟨(some 7), .val (.len 0 (.t 6)), none⟩,
    ⟨(some 8), .val (.bin .num .lss (.t 7) (.c (.int .i64 8))), none⟩]
def g19_2 : List Am.Item := [
    ⟨(some 2), .val (.mov (.c (.int .u64 0))), none⟩,
    ⟨(some 3), .val (.mov (.c (.int .i64 4))), none⟩]
def g19_3 : List Am.Item := [
    ⟨(some 4), .val (.mov (.c (.int .u64 0))), none⟩]
def g19_4 : List Am.Item := [
    ⟨(some 9), .val (.mov (.c (.int .i64 0))), none⟩]
def g19_5 : List Am.Item := [
    ⟨(some 10), .val (.bin .num .lss (.t 9) (.c (.int .i64 8))), none⟩]
def g19_6 : List Am.Item := [
    ⟨(some 11), .val (.mov (.t 9)), none⟩,
    ⟨(some 5), .val (.mov (.t 11)), none⟩]
def g19_7 : List Am.Item := [
    ⟨(some 12), .val (.mov (.t 4)), none⟩,
    ⟨(some 13), .val (.mov (.t 0)), none⟩,
    ⟨(some 14), .val (.mov (.t 5)), none⟩,
    ⟨(some 15), .val (.idx (.t 13) (.t 14)), none⟩,
    ⟨(some 16), .val (.cvi .u64 (.t 15)), none⟩,
    ⟨(some 17), .val (.mov (.t 5)), none⟩,
    ⟨(some 18), .val (.bin .num .mul (.c (.int .i64 8)) (.t 17)), none⟩,
    ⟨(some 19), .val (.bin .num .shl (.t 16) (.t 18)), none⟩,
    ⟨(some 20), .val (.bin .num .or (.t 12) (.t 19)), none⟩,
    ⟨(some 4), .val (.mov (.t 20)), none⟩]
def g19_8 : List Am.Item := [
    ⟨(some 21), .val (.bin .num .add (.t 9) (.c (.int .i64 1))), none⟩,
    ⟨(some 9), .val (.mov (.t 21)), none⟩]
def l19_0 : RC := .seq (.reg g19_5) (.seq (.cond (.t 10) (.skip) (.exit 0)) (.seq (.block 1 (.seq (.reg g19_6) (.reg g19_7))) (.reg g19_8)))
def g19_9 : List Am.Item := [
    ⟨(some 22), .val (.mov (.t 4)), none⟩,
    ⟨(some 2), .val (.mov (.t 22)), none⟩,
    ⟨(some 3), .val (.mov (.c (.int .i64 0))), none⟩]
def r19 : RC := .seq (.reg g19_0) (.seq (.seq (.reg g19_1) (.cond (.t 8) (.seq (.reg g19_2) (.ret)) (.skip))) (.seq (.reg g19_3) (.seq (.seq (.reg g19_4) (.block 0 (.loop l19_0))) (.seq (.reg g19_9) (.ret)))))
def o19 : List RR := [.tmp 2, .tmp 3]
theorem k19 : chkC Try.prog 23 r19 (Try.f19.body.getD .skip) = true := by decide +kernel
theorem q19 : chkR Try.prog Try.f19.results.toList o19 = true := by decide +kernel

/- wireschema/wireschemaref01.TakeFixed -/
def g20_0 : List Am.Item := [
    ⟨(some 2), .val (.mov (.c (.int .u64 0))), none⟩,
    ⟨(some 3), .val (.mov (.c (.int .i64 0))), none⟩]
def g20_1 : List Am.Item := [
    ⟨(some 6), .val (.mov (.t 0)), none⟩,
    ⟨(some 7), .val (.len 0 (.t 6)), none⟩,
    ⟨(some 8), .val (.bin .num .lss (.t 7) (.c (.int .i64 8))), none⟩]
def g20_2 : List Am.Item := [
    ⟨(some 2), .val (.mov (.c (.int .u64 0))), none⟩,
    ⟨(some 3), .val (.mov (.c (.int .i64 4))), none⟩]
def g20_3 : List Am.Item := [
    ⟨(some 4), .val (.mov (.c (.int .u64 0))), none⟩]
def g20_4 : List Am.Item := [
    ⟨(some 5), .val (.mov (.c (.int .i64 7))), none⟩]
def g20_5 : List Am.Item := [
    ⟨(some 9), .val (.mov (.t 5)), none⟩,
    ⟨(some 10), .val (.bin .num .geq (.t 9) (.c (.int .i64 0))), none⟩]
def g20_7 : List Am.Item := [
    ⟨(some 13), .val (.mov (.t 4)), none⟩,
    ⟨(some 14), .val (.bin .num .mul (.c (.int .u64 256)) (.t 13)), none⟩,
    ⟨(some 15), .val (.mov (.t 0)), none⟩,
    ⟨(some 16), .val (.mov (.t 5)), none⟩,
    ⟨(some 17), .val (.idx (.t 15) (.t 16)), none⟩,
    ⟨(some 18), .val (.cvi .u64 (.t 17)), none⟩,
    ⟨(some 19), .val (.bin .num .add (.t 14) (.t 18)), none⟩,
    ⟨(some 4), .val (.mov (.t 19)), none⟩]
def g20_6 : List Am.Item := [
    ⟨(some 11), .val (.mov (.t 5)), none⟩,
    ⟨(some 12), .val (.bin .num .sub (.t 11) (.c (.int .i64 1))), none⟩,
    ⟨(some 5), .val (.mov (.t 12)), none⟩]
def l20_0 : RC := .seq (.seq (.reg g20_5) (.cond (.t 10) (.skip) (.exit 0))) (.seq (.block 1 (.reg g20_7)) (.reg g20_6))
def g20_8 : List Am.Item := [
    ⟨(some 20), .val (.mov (.t 4)), none⟩,
    ⟨(some 2), .val (.mov (.t 20)), none⟩,
    ⟨(some 3), .val (.mov (.c (.int .i64 0))), none⟩]
def r20 : RC := .seq (.reg g20_0) (.seq (.seq (.reg g20_1) (.cond (.t 8) (.seq (.reg g20_2) (.ret)) (.skip))) (.seq (.reg g20_3) (.seq (.seq (.reg g20_4) (.block 0 (.loop l20_0))) (.seq (.reg g20_8) (.ret)))))
def o20 : List RR := [.tmp 2, .tmp 3]
theorem k20 : chkC Try.prog 21 r20 (Try.f20.body.getD .skip) = true := by decide +kernel
theorem q20 : chkR Try.prog Try.f20.results.toList o20 = true := by decide +kernel

/- wireschema/varint.Zig -/
def g10_0 : List Am.Item := [
    ⟨(some 2), .val (.mov (.c (.int .u64 0))), none⟩]
def g10_1 : List Am.Item := [
    ⟨(some 3), .val (.mov (.t 0)), none⟩,
    ⟨(some 4), .val (.cvi .u64 (.t 3)), none⟩,
    ⟨(some 5), .val (.bin .num .shl (.t 4) (.c (.int .u64 1))), none⟩,
    ⟨(some 6), .val (.mov (.t 0)), none⟩,
    ⟨(some 7), .val (.bin .num .shr (.t 6) (.c (.int .u64 63))), none⟩,
    ⟨(some 8), .val (.cvi .u64 (.t 7)), none⟩,
    ⟨(some 9), .val (.bin .num .xor (.t 5) (.t 8)), none⟩,
    ⟨(some 2), .val (.mov (.t 9)), none⟩]
def r10 : RC := .seq (.reg g10_0) (.seq (.reg g10_1) (.ret))
def o10 : List RR := [.tmp 2]
theorem k10 : chkC Try.prog 10 r10 (Try.f10.body.getD .skip) = true := by decide +kernel
theorem q10 : chkR Try.prog Try.f10.results.toList o10 = true := by decide +kernel

/- wireschema/wireschemaref01.Zig -/
def g11_0 : List Am.Item := [
    ⟨(some 2), .val (.mov (.c (.int .u64 0))), none⟩]
def g11_1 : List Am.Item := [
    ⟨(some 3), .val (.mov (.t 0)), none⟩,
    ⟨(some 4), .val (.bin .num .geq (.t 3) (.c (.int .i64 0))), none⟩]
def g11_2 : List Am.Item := [
    ⟨(some 5), .val (.mov (.t 0)), none⟩,
    ⟨(some 6), .val (.cvi .u64 (.t 5)), none⟩,
    ⟨(some 7), .val (.bin .num .mul (.c (.int .u64 2)) (.t 6)), none⟩,
    ⟨(some 2), .val (.mov (.t 7)), none⟩]
def g11_3 : List Am.Item := [
    ⟨(some 8), .val (.mov (.t 0)), none⟩,
    ⟨(some 9), .val (.bin .num .add (.t 8) (.c (.int .i64 1))), none⟩,
    ⟨(some 10), .val (.un .neg (.t 9)), none⟩,
    ⟨(some 11), .val (.cvi .u64 (.t 10)), none⟩,
    ⟨(some 12), .val (.bin .num .mul (.c (.int .u64 2)) (.t 11)), none⟩,
    ⟨(some 13), .val (.bin .num .add (.t 12) (.c (.int .u64 1))), none⟩,
    ⟨(some 2), .val (.mov (.t 13)), none⟩]
def r11 : RC := .seq (.reg g11_0) (.seq (.seq (.reg g11_1) (.cond (.t 4) (.seq (.reg g11_2) (.ret)) (.skip))) (.seq (.reg g11_3) (.ret)))
def o11 : List RR := [.tmp 2]
theorem k11 : chkC Try.prog 14 r11 (Try.f11.body.getD .skip) = true := by decide +kernel
theorem q11 : chkR Try.prog Try.f11.results.toList o11 = true := by decide +kernel

/- wireschema/varint.Zag -/
def g12_0 : List Am.Item := [
    ⟨(some 2), .val (.mov (.c (.int .i64 0))), none⟩]
def g12_1 : List Am.Item := [
    ⟨(some 3), .val (.mov (.t 0)), none⟩,
    ⟨(some 4), .val (.bin .num .shr (.t 3) (.c (.int .u64 1))), none⟩,
    ⟨(some 5), .val (.cvi .i64 (.t 4)), none⟩,
    ⟨(some 6), .val (.mov (.t 0)), none⟩,
    ⟨(some 7), .val (.bin .num .and (.t 6) (.c (.int .u64 1))), none⟩,
    ⟨(some 8), .val (.cvi .i64 (.t 7)), none⟩,
    ⟨(some 9), .val (.un .neg (.t 8)), none⟩,
    ⟨(some 10), .val (.bin .num .xor (.t 5) (.t 9)), none⟩,
    ⟨(some 2), .val (.mov (.t 10)), none⟩]
def r12 : RC := .seq (.reg g12_0) (.seq (.reg g12_1) (.ret))
def o12 : List RR := [.tmp 2]
theorem k12 : chkC Try.prog 11 r12 (Try.f12.body.getD .skip) = true := by decide +kernel
theorem q12 : chkR Try.prog Try.f12.results.toList o12 = true := by decide +kernel

/- wireschema/wireschemaref01.Zag -/
def g13_0 : List Am.Item := [
    ⟨(some 2), .val (.mov (.c (.int .i64 0))), none⟩]
def g13_1 : List Am.Item := [
    ⟨(some 3), .val (.mov (.t 0)), none⟩,
    ⟨(some 4), .val (.bin .num .rem (.t 3) (.c (.int .u64 2))), none⟩,
    ⟨(some 5), .val (.bin .num .eql (.t 4) (.c (.int .u64 0))), none⟩]
def g13_2 : List Am.Item := [
    ⟨(some 6), .val (.mov (.t 0)), none⟩,
    ⟨(some 7), .val (.bin .num .quo (.t 6) (.c (.int .u64 2))), none⟩,
    ⟨(some 8), .val (.cvi .i64 (.t 7)), none⟩,
    ⟨(some 2), .val (.mov (.t 8)), none⟩]
def g13_3 : List Am.Item := [
    ⟨(some 9), .val (.mov (.t 0)), none⟩,
    ⟨(some 10), .val (.bin .num .quo (.t 9) (.c (.int .u64 2))), none⟩,
    ⟨(some 11), .val (.cvi .i64 (.t 10)), none⟩,
    ⟨(some 12), .val (.un .neg (.t 11)), none⟩,
    ⟨(some 13), .val (.bin .num .sub (.t 12) (.c (.int .i64 1))), none⟩,
    ⟨(some 2), .val (.mov (.t 13)), none⟩]
def r13 : RC := .seq (.reg g13_0) (.seq (.seq (.reg g13_1) (.cond (.t 5) (.seq (.reg g13_2) (.ret)) (.skip))) (.seq (.reg g13_3) (.ret)))
def o13 : List RR := [.tmp 2]
theorem k13 : chkC Try.prog 14 r13 (Try.f13.body.getD .skip) = true := by decide +kernel
theorem q13 : chkR Try.prog Try.f13.results.toList o13 = true := by decide +kernel

/- wireschema/wireschemaref01.Len -/
def g18_0 : List Am.Item := [
    ⟨(some 2), .val (.mov (.c (.int .i64 0))), none⟩]
def g18_1 : List Am.Item := [
    ⟨(some 3), .val (.mov (.t 0)), none⟩,
    ⟨(some 4), .call (.f 17) [(.t 3)], none⟩,
    ⟨(some 5), .val (.len 0 (.t 4)), none⟩,
    ⟨(some 2), .val (.mov (.t 5)), none⟩]
def r18 : RC := .seq (.reg g18_0) (.seq (.reg g18_1) (.ret))
def o18 : List RR := [.tmp 2]
theorem k18 : chkC Try.prog 6 r18 (Try.f18.body.getD .skip) = true := by decide +kernel
theorem q18 : chkR Try.prog Try.f18.results.toList o18 = true := by decide +kernel

/- wireschema/wireschemalaw01.nearer -/
def g15_0 : List Am.Item := [
    ⟨(some 4), .val (.mov (.c (.bool false))), none⟩]
def g15_1 : List Am.Item := [
    ⟨(some 5), .val (.mov (.t 0)), none⟩,
    ⟨(some 6), .val (.bin .num .gtr (.t 5) (.c (.int .i64 0))), none⟩]
def g15_2 : List Am.Item := [
    ⟨(some 7), .val (.mov (.t 0)), none⟩,
    ⟨(some 8), .val (.un .neg (.t 7)), none⟩,
    ⟨(some 0), .val (.mov (.t 8)), none⟩]
def g15_3 : List Am.Item := [
    ⟨(some 9), .val (.mov (.t 1)), none⟩,
    ⟨(some 10), .val (.bin .num .gtr (.t 9) (.c (.int .i64 0))), none⟩]
def g15_4 : List Am.Item := [
    ⟨(some 11), .val (.mov (.t 1)), none⟩,
    ⟨(some 12), .val (.un .neg (.t 11)), none⟩,
    ⟨(some 1), .val (.mov (.t 12)), none⟩]
def g15_5 : List Am.Item := [
    ⟨(some 13), .val (.mov (.t 0)), none⟩,
    ⟨(some 14), .val (.mov (.t 1)), none⟩,
    ⟨(some 15), .val (.bin .num .gtr (.t 13) (.t 14)), none⟩,
    ⟨(some 4), .val (.mov (.t 15)), none⟩]
def r15 : RC := .seq (.reg g15_0) (.seq (.seq (.reg g15_1) (.cond (.t 6) (.reg g15_2) (.skip))) (.seq (.seq (.reg g15_3) (.cond (.t 10) (.reg g15_4) (.skip))) (.seq (.reg g15_5) (.ret))))
def o15 : List RR := [.tmp 4]
theorem k15 : chkC Try.prog 16 r15 (Try.f15.body.getD .skip) = true := by decide +kernel
theorem q15 : chkR Try.prog Try.f15.results.toList o15 = true := by decide +kernel

/- wireschema/wireschemalaw01.takes -/
def g27_0 : List Am.Item := [
    ⟨(some 2), .val (.mov (.c (.int .u64 0))), none⟩]
def g27_1 : List Am.Item := [
    ⟨(some 7), .val (.mov (.t 0)), none⟩,
    ⟨(some 8), .call (.f 23) [(.t 7)], none⟩,
    ⟨(some 6), .val (.mov (.t 8)), none⟩,
    ⟨(some 9), .val (.ext (.t 6) 0), none⟩,
    ⟨(some 10), .val (.ext (.t 6) 1), none⟩,
    ⟨(some 11), .val (.ext (.t 6) 2), none⟩,
    ⟨(some 3), .val (.mov (.t 9)), none⟩,
    ⟨(some 4), .val (.mov (.t 10)), none⟩,
    ⟨(some 5), .val (.mov (.t 11)), none⟩]
def g27_2 : List Am.Item := [
    ⟨(some 12), .val (.mov (.t 3)), none⟩,
    ⟨(some 2), .val (.mov (.t 12)), none⟩]
def r27 : RC := .seq (.reg g27_0) (.seq (.reg g27_1) (.seq (.reg g27_2) (.ret)))
def o27 : List RR := [.tmp 2]
theorem k27 : chkC Try.prog 13 r27 (Try.f27.body.getD .skip) = true := by decide +kernel
theorem q27 : chkR Try.prog Try.f27.results.toList o27 = true := by decide +kernel

/- wireschema/wireschemalaw01.VarintFixed -/
def g6_0 : List Am.Item := [
    ⟨(some 4), .val (.mov (.c (.bool false))), none⟩]
def g6_1 : List Am.Item := [
    ⟨(some 13), .val (.mov (.t 1)), none⟩,
    ⟨(some 14), .call (.f 19) [(.t 13)], none⟩,
    ⟨(some 12), .val (.mov (.t 14)), none⟩,
    ⟨(some 15), .val (.ext (.t 12) 0), none⟩,
    ⟨(some 16), .val (.ext (.t 12) 1), none⟩,
    ⟨(some 5), .val (.mov (.t 15)), none⟩,
    ⟨(some 6), .val (.mov (.t 16)), none⟩]
def g6_2 : List Am.Item := [
    ⟨(some 18), .val (.mov (.t 1)), none⟩,
    ⟨(some 19), .call (.f 20) [(.t 18)], none⟩,
    ⟨(some 17), .val (.mov (.t 19)), none⟩,
    ⟨(some 20), .val (.ext (.t 17) 0), none⟩,
    ⟨(some 21), .val (.ext (.t 17) 1), none⟩,
    ⟨(some 7), .val (.mov (.t 20)), none⟩,
    ⟨(some 8), .val (.mov (.t 21)), none⟩]
def g6_3 : List Am.Item := [
    ⟨(some 22), .val (.mov (.t 0)), none⟩,
    ⟨(some 23), .call (.f 21) [(.t 22)], none⟩,
    ⟨(some 9), .val (.mov (.t 23)), none⟩]
def g6_4 : List Am.Item := [
    ⟨(some 25), .val (.mov (.t 9)), none⟩,
    ⟨(some 26), .val (.mov (.t 1)), none⟩,
    ⟨(some 27), .val (.bin .str .add (.t 25) (.t 26)), none⟩,
    ⟨(some 28), .call (.f 19) [(.t 27)], none⟩,
    ⟨(some 24), .val (.mov (.t 28)), none⟩,
    ⟨(some 29), .val (.ext (.t 24) 0), none⟩,
    ⟨(some 30), .val (.ext (.t 24) 1), none⟩,
    ⟨(some 10), .val (.mov (.t 29)), none⟩,
    ⟨(some 11), .val (.mov (.t 30)), none⟩]
def g6_5 : List Am.Item := [
    ⟨(some 31), .val (.mov (.t 9)), none⟩,
    ⟨(some 32), .val (.mov (.t 0)), none⟩,
    ⟨(some 33), .call (.f 22) [(.t 32)], none⟩,
    ⟨(some 34), .val (.bin .str .eql (.t 31) (.t 33)), none⟩,
    ⟨(some 35), .val (.mov (.t 34)), none⟩,
    ⟨(some 36), .val (.mov (.t 5)), (some (35, true))⟩,
    ⟨(some 37), .val (.mov (.t 7)), (some (35, true))⟩,
    ⟨(some 38), .val (.bin .num .eql (.t 36) (.t 37)), (some (35, true))⟩,
    ⟨(some 39), .val (.pick (.t 35) (.t 38) (.c (.bool false))), none⟩,
    ⟨(some 40), .val (.mov (.t 39)), none⟩,
    ⟨(some 41), .val (.mov (.t 6)), (some (40, true))⟩,
    ⟨(some 42), .val (.mov (.t 8)), (some (40, true))⟩,
    ⟨(some 43), .val (.bin .num .eql (.t 41) (.t 42)), (some (40, true))⟩,
    ⟨(some 44), .val (.pick (.t 40) (.t 43) (.c (.bool false))), none⟩,
    ⟨(some 45), .val (.mov (.t 44)), none⟩,
    ⟨(some 46), .val (.mov (.t 10)), (some (45, true))⟩,
    ⟨(some 47), .val (.mov (.t 0)), (some (45, true))⟩,
    ⟨(some 48), .val (.bin .num .eql (.t 46) (.t 47)), (some (45, true))⟩,
    ⟨(some 49), .val (.pick (.t 45) (.t 48) (.c (.bool false))), none⟩,
    ⟨(some 50), .val (.mov (.t 49)), none⟩,
    ⟨(some 51), .val (.mov (.t 11)), (some (50, true))⟩,
    ⟨(some 52), .val (.bin .num .eql (.t 51) (.c (.int .i64 0))), (some (50, true))⟩,
    ⟨(some 53), .val (.pick (.t 50) (.t 52) (.c (.bool false))), none⟩,
    ⟨(some 4), .val (.mov (.t 53)), none⟩]
def r6 : RC := .seq (.reg g6_0) (.seq (.reg g6_1) (.seq (.reg g6_2) (.seq (.reg g6_3) (.seq (.reg g6_4) (.seq (.reg g6_5) (.ret))))))
def o6 : List RR := [.tmp 4]
theorem k6 : chkC Try.prog 54 r6 (Try.f6.body.getD .skip) = true := by decide +kernel
theorem q6 : chkR Try.prog Try.f6.results.toList o6 = true := by decide +kernel

/- wireschema/wireschemalaw01.VarintLonger -/
def g8_0 : List Am.Item := [
    ⟨(some 4), .val (.mov (.c (.bool false))), none⟩]
def g8_1 : List Am.Item := [
    ⟨(some 14), .val (.mov (.t 0)), none⟩,
    ⟨(some 15), .call (.f 16) [(.t 14)], none⟩,
    ⟨(some 16), .s2b 16 5 (.t 15), none⟩,
    ⟨(some 5), .val (.mov (.t 16)), none⟩]
def g8_2 : List Am.Item := [
    ⟨(some 17), .val (.mov (.t 5)), none⟩,
    ⟨(some 18), .val (.len 1 (.t 17)), none⟩,
    ⟨(some 19), .val (.bin .num .eql (.t 18) (.c (.int .i64 0))), none⟩]
def g8_3 : List Am.Item := [
    ⟨(some 4), .val (.mov (.c (.bool false))), none⟩]
def g8_4 : List Am.Item := [
    ⟨(some 21), .val (.mov (.t 5)), none⟩,
    ⟨(some 22), .val (.mov (.t 5)), none⟩,
    ⟨(some 23), .val (.len 1 (.t 22)), none⟩,
    ⟨(some 24), .val (.bin .num .sub (.t 23) (.c (.int .i64 1))), none⟩,
    ⟨(some 25), .val (.slc (some 1) (.t 21) none (some (.t 24)) none), none⟩,
    ⟨(some 26), .val (.b2s (.t 25)), none⟩,
    ⟨(some 27), .call (.f 23) [(.t 26)], none⟩,
    ⟨(some 20), .val (.mov (.t 27)), none⟩,
    ⟨(some 28), .val (.ext (.t 20) 0), none⟩,
    ⟨(some 29), .val (.ext (.t 20) 1), none⟩,
    ⟨(some 30), .val (.ext (.t 20) 2), none⟩,
    ⟨(some 6), .val (.mov (.t 28)), none⟩,
    ⟨(some 7), .val (.mov (.t 29)), none⟩,
    ⟨(some 8), .val (.mov (.t 30)), none⟩]
def g8_5 : List Am.Item := [
    ⟨(some 31), .val (.mov (.t 8)), none⟩,
    ⟨(some 32), .val (.bin .num .neq (.t 31) (.c (.int .i64 4))), none⟩]
def g8_6 : List Am.Item := [
    ⟨(some 4), .val (.mov (.c (.bool false))), none⟩]
def g8_7 : List Am.Item := [
    ⟨(some 33), .val (.mov (.t 1)), none⟩,
    ⟨(some 34), .val (.cvi .i64 (.t 33)), none⟩,
    ⟨(some 35), .val (.bin .num .rem (.t 34) (.c (.int .i64 10))), none⟩,
    ⟨(some 36), .val (.bin .num .add (.t 35) (.c (.int .i64 1))), none⟩,
    ⟨(some 9), .val (.mov (.t 36)), none⟩]
def g8_8 : List Am.Item := [
    ⟨(some 37), .val (.mov (.t 5)), none⟩,
    ⟨(some 38), .val (.mov (.t 5)), none⟩,
    ⟨(some 39), .val (.len 1 (.t 38)), none⟩,
    ⟨(some 40), .val (.bin .num .sub (.t 39) (.c (.int .i64 1))), none⟩,
    ⟨(some 41), .val (.iaddr 1 none (.t 37) (.t 40)), none⟩,
    ⟨(some 42), .val (.load none (.t 41)), none⟩,
    ⟨(some 43), .val (.bin .num .add (.t 42) (.c (.int .u8 128))), none⟩,
    ⟨(some 44), .val (.iaddr 1 none (.t 37) (.t 40)), none⟩,
    ⟨none, .store 1 (.t 44) (.t 43), none⟩]
def g8_9 : List Am.Item := [
    ⟨(some 10), .val (.mov (.c (.int .i64 1))), none⟩]
def g8_10 : List Am.Item := [
    ⟨(some 45), .val (.mov (.t 10)), none⟩,
    ⟨(some 46), .val (.mov (.t 9)), none⟩,
    ⟨(some 47), .val (.bin .num .lss (.t 45) (.t 46)), none⟩]
def g8_12 : List Am.Item := [
    ⟨(some 50), .val (.mov (.t 5)), none⟩,
    ⟨(some 51), .bsl 1 1 [.int .u8 0] [(0, 1, (.c (.int .u8 128)))], none⟩,
    ⟨(some 52), .app 1 1 5 (.t 50) (.t 51), none⟩,
    ⟨(some 5), .val (.mov (.t 52)), none⟩]
def g8_11 : List Am.Item := [
    ⟨(some 48), .val (.mov (.t 10)), none⟩,
    ⟨(some 49), .val (.bin .num .add (.t 48) (.c (.int .i64 1))), none⟩,
    ⟨(some 10), .val (.mov (.t 49)), none⟩]
def l8_0 : RC := .seq (.seq (.reg g8_10) (.cond (.t 47) (.skip) (.exit 0))) (.seq (.block 1 (.reg g8_12)) (.reg g8_11))
def g8_13 : List Am.Item := [
    ⟨(some 53), .val (.mov (.t 5)), none⟩,
    ⟨(some 54), .bsl 1 1 [.int .u8 0] [(0, 1, (.c (.int .u8 0)))], none⟩,
    ⟨(some 55), .app 1 1 5 (.t 53) (.t 54), none⟩,
    ⟨(some 56), .val (.b2s (.t 55)), none⟩,
    ⟨(some 11), .val (.mov (.t 56)), none⟩]
def g8_14 : List Am.Item := [
    ⟨(some 58), .val (.mov (.t 11)), none⟩,
    ⟨(some 59), .call (.f 23) [(.t 58)], none⟩,
    ⟨(some 57), .val (.mov (.t 59)), none⟩,
    ⟨(some 60), .val (.ext (.t 57) 0), none⟩,
    ⟨(some 61), .val (.ext (.t 57) 1), none⟩,
    ⟨(some 62), .val (.ext (.t 57) 2), none⟩,
    ⟨(some 12), .val (.mov (.t 60)), none⟩,
    ⟨(some 13), .val (.mov (.t 61)), none⟩,
    ⟨(some 8), .val (.mov (.t 62)), none⟩]
def g8_15 : List Am.Item := [
    ⟨(some 63), .val (.mov (.t 11)), none⟩,
    ⟨(some 64), .val (.len 0 (.t 63)), none⟩,
    ⟨(some 65), .val (.bin .num .gtr (.t 64) (.c (.int .i64 10))), none⟩]
def g8_16 : List Am.Item := [
    ⟨(some 66), .val (.mov (.t 8)), none⟩,
    ⟨(some 67), .val (.bin .num .eql (.t 66) (.c (.int .i64 6))), none⟩,
    ⟨(some 68), .val (.mov (.t 67)), none⟩,
    ⟨(some 69), .val (.mov (.t 13)), (some (68, true))⟩,
    ⟨(some 70), .val (.bin .num .eql (.t 69) (.c (.int .i64 0))), (some (68, true))⟩,
    ⟨(some 71), .val (.pick (.t 68) (.t 70) (.c (.bool false))), none⟩,
    ⟨(some 72), .val (.mov (.t 71)), none⟩,
    ⟨(some 73), .val (.mov (.t 11)), (some (72, true))⟩,
    ⟨(some 74), .call (.f 25) [(.t 73)], (some (72, true))⟩,
    ⟨(some 75), .val (.un .not (.t 74)), (some (72, true))⟩,
    ⟨(some 76), .val (.pick (.t 72) (.t 75) (.c (.bool false))), none⟩,
    ⟨(some 4), .val (.mov (.t 76)), none⟩]
def g8_17 : List Am.Item := [
    ⟨(some 77), .val (.mov (.t 12)), none⟩,
    ⟨(some 78), .val (.mov (.t 0)), none⟩,
    ⟨(some 79), .val (.bin .num .eql (.t 77) (.t 78)), none⟩,
    ⟨(some 80), .val (.mov (.t 79)), none⟩,
    ⟨(some 81), .val (.mov (.t 13)), (some (80, true))⟩,
    ⟨(some 82), .val (.mov (.t 11)), (some (80, true))⟩,
    ⟨(some 83), .val (.len 0 (.t 82)), (some (80, true))⟩,
    ⟨(some 84), .val (.bin .num .eql (.t 81) (.t 83)), (some (80, true))⟩,
    ⟨(some 85), .val (.pick (.t 80) (.t 84) (.c (.bool false))), none⟩,
    ⟨(some 86), .val (.mov (.t 85)), none⟩,
    ⟨(some 87), .val (.mov (.t 8)), (some (86, true))⟩,
    ⟨(some 88), .val (.bin .num .eql (.t 87) (.c (.int .i64 0))), (some (86, true))⟩,
    ⟨(some 89), .val (.pick (.t 86) (.t 88) (.c (.bool false))), none⟩,
    ⟨(some 90), .val (.mov (.t 89)), none⟩,
    ⟨(some 91), .val (.mov (.t 11)), (some (90, true))⟩,
    ⟨(some 92), .call (.f 25) [(.t 91)], (some (90, true))⟩,
    ⟨(some 93), .val (.un .not (.t 92)), (some (90, true))⟩,
    ⟨(some 94), .val (.pick (.t 90) (.t 93) (.c (.bool false))), none⟩,
    ⟨(some 4), .val (.mov (.t 94)), none⟩]
def r8 : RC := .seq (.reg g8_0) (.seq (.reg g8_1) (.seq (.seq (.reg g8_2) (.cond (.t 19) (.seq (.reg g8_3) (.ret)) (.skip))) (.seq (.reg g8_4) (.seq (.seq (.reg g8_5) (.cond (.t 32) (.seq (.reg g8_6) (.ret)) (.skip))) (.seq (.reg g8_7) (.seq (.reg g8_8) (.seq (.seq (.reg g8_9) (.block 0 (.loop l8_0))) (.seq (.reg g8_13) (.seq (.reg g8_14) (.seq (.seq (.reg g8_15) (.cond (.t 65) (.seq (.reg g8_16) (.ret)) (.skip))) (.seq (.reg g8_17) (.ret))))))))))))
def o8 : List RR := [.tmp 4]
theorem k8 : chkC Try.prog 95 r8 (Try.f8.body.getD .skip) = true := by decide +kernel
theorem q8 : chkR Try.prog Try.f8.results.toList o8 = true := by decide +kernel

/- wireschema/wireschemalaw01.VarintTakes -/
def g7_0 : List Am.Item := [
    ⟨(some 2), .val (.mov (.c (.bool false))), none⟩]
def g7_1 : List Am.Item := [
    ⟨(some 10), .val (.mov (.t 0)), none⟩,
    ⟨(some 11), .call (.f 23) [(.t 10)], none⟩,
    ⟨(some 9), .val (.mov (.t 11)), none⟩,
    ⟨(some 12), .val (.ext (.t 9) 0), none⟩,
    ⟨(some 13), .val (.ext (.t 9) 1), none⟩,
    ⟨(some 14), .val (.ext (.t 9) 2), none⟩,
    ⟨(some 3), .val (.mov (.t 12)), none⟩,
    ⟨(some 4), .val (.mov (.t 13)), none⟩,
    ⟨(some 5), .val (.mov (.t 14)), none⟩]
def g7_2 : List Am.Item := [
    ⟨(some 16), .val (.mov (.t 0)), none⟩,
    ⟨(some 17), .call (.f 24) [(.t 16)], none⟩,
    ⟨(some 15), .val (.mov (.t 17)), none⟩,
    ⟨(some 18), .val (.ext (.t 15) 0), none⟩,
    ⟨(some 19), .val (.ext (.t 15) 1), none⟩,
    ⟨(some 20), .val (.ext (.t 15) 2), none⟩,
    ⟨(some 6), .val (.mov (.t 18)), none⟩,
    ⟨(some 7), .val (.mov (.t 19)), none⟩,
    ⟨(some 8), .val (.mov (.t 20)), none⟩]
def g7_3 : List Am.Item := [
    ⟨(some 21), .val (.mov (.t 3)), none⟩,
    ⟨(some 22), .val (.mov (.t 6)), none⟩,
    ⟨(some 23), .val (.bin .num .eql (.t 21) (.t 22)), none⟩,
    ⟨(some 24), .val (.mov (.t 23)), none⟩,
    ⟨(some 25), .val (.mov (.t 4)), (some (24, true))⟩,
    ⟨(some 26), .val (.mov (.t 7)), (some (24, true))⟩,
    ⟨(some 27), .val (.bin .num .eql (.t 25) (.t 26)), (some (24, true))⟩,
    ⟨(some 28), .val (.pick (.t 24) (.t 27) (.c (.bool false))), none⟩,
    ⟨(some 29), .val (.mov (.t 28)), none⟩,
    ⟨(some 30), .val (.mov (.t 5)), (some (29, true))⟩,
    ⟨(some 31), .val (.mov (.t 8)), (some (29, true))⟩,
    ⟨(some 32), .val (.bin .num .eql (.t 30) (.t 31)), (some (29, true))⟩,
    ⟨(some 33), .val (.pick (.t 29) (.t 32) (.c (.bool false))), none⟩,
    ⟨(some 34), .val (.mov (.t 33)), none⟩,
    ⟨(some 35), .val (.mov (.t 0)), (some (34, true))⟩,
    ⟨(some 36), .call (.f 25) [(.t 35)], (some (34, true))⟩,
    ⟨(some 37), .val (.mov (.t 0)), (some (34, true))⟩,
    ⟨(some 38), .call (.f 26) [(.t 37)], (some (34, true))⟩,
    ⟨(some 39), .val (.bin .bool .eql (.t 36) (.t 38)), (some (34, true))⟩,
    ⟨(some 40), .val (.pick (.t 34) (.t 39) (.c (.bool false))), none⟩,
    ⟨(some 41), .val (.mov (.t 40)), none⟩,
    ⟨(some 42), .call (.f 14) [(.c (.int .u64 0))], (some (41, true))⟩,
    ⟨(some 43), .val (.bin .num .eql (.t 42) (.c (.int .i64 1))), (some (41, true))⟩,
    ⟨(some 44), .val (.pick (.t 41) (.t 43) (.c (.bool false))), none⟩,
    ⟨(some 2), .val (.mov (.t 44)), none⟩]
def r7 : RC := .seq (.reg g7_0) (.seq (.reg g7_1) (.seq (.reg g7_2) (.seq (.reg g7_3) (.ret))))
def o7 : List RR := [.tmp 2]
theorem k7 : chkC Try.prog 45 r7 (Try.f7.body.getD .skip) = true := by decide +kernel
theorem q7 : chkR Try.prog Try.f7.results.toList o7 = true := by decide +kernel

/- wireschema/wireschemalaw01.VarintPuts -/
def g5_0 : List Am.Item := [
    ⟨(some 2), .val (.mov (.c (.bool false))), none⟩]
def g5_1 : List Am.Item := [
    ⟨(some 3), .val (.mov (.t 0)), none⟩,
    ⟨(some 4), .call (.f 16) [(.t 3)], none⟩,
    ⟨(some 5), .val (.mov (.t 0)), none⟩,
    ⟨(some 6), .call (.f 17) [(.t 5)], none⟩,
    ⟨(some 7), .val (.bin .str .eql (.t 4) (.t 6)), none⟩,
    ⟨(some 8), .val (.mov (.t 7)), none⟩,
    ⟨(some 9), .val (.mov (.t 0)), (some (8, true))⟩,
    ⟨(some 10), .call (.f 14) [(.t 9)], (some (8, true))⟩,
    ⟨(some 11), .val (.mov (.t 0)), (some (8, true))⟩,
    ⟨(some 12), .call (.f 18) [(.t 11)], (some (8, true))⟩,
    ⟨(some 13), .val (.bin .num .eql (.t 10) (.t 12)), (some (8, true))⟩,
    ⟨(some 14), .val (.pick (.t 8) (.t 13) (.c (.bool false))), none⟩,
    ⟨(some 2), .val (.mov (.t 14)), none⟩]
def r5 : RC := .seq (.reg g5_0) (.seq (.reg g5_1) (.ret))
def o5 : List RR := [.tmp 2]
theorem k5 : chkC Try.prog 15 r5 (Try.f5.body.getD .skip) = true := by decide +kernel
theorem q5 : chkR Try.prog Try.f5.results.toList o5 = true := by decide +kernel

end Go.Proofs.Ytbalffclojdmhaa.Rc

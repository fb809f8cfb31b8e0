/- The code of functions of the program, as the abstract machine has it. -/
import Derived.Test.YtmgpiglpakideaaAmr
import Derived.Test.YtmgpiglpakideaaProg
namespace Go.Proofs.Ytmgpiglpakideaa.Rc
open Go Am

/- wireschema/varint.Zig -/
def g23_0 : List Am.Item := [
    ⟨(some 2), .val (.mov (.c (.int .u64 0))), none⟩]
def g23_1 : List Am.Item := [
    ⟨(some 3), .val (.mov (.t 0)), none⟩,
    ⟨(some 4), .val (.cvi .u64 (.t 3)), none⟩,
    ⟨(some 5), .val (.bin .num .shl (.t 4) (.c (.int .u64 1))), none⟩,
    ⟨(some 6), .val (.mov (.t 0)), none⟩,
    ⟨(some 7), .val (.bin .num .shr (.t 6) (.c (.int .u64 63))), none⟩,
    ⟨(some 8), .val (.cvi .u64 (.t 7)), none⟩,
    ⟨(some 9), .val (.bin .num .xor (.t 5) (.t 8)), none⟩,
    ⟨(some 2), .val (.mov (.t 9)), none⟩]
def r23 : RC := .seq (.reg g23_0) (.seq (.reg g23_1) (.ret))
def o23 : List RR := [.tmp 2]
theorem k23 : chkC Try.prog 10 r23 (Try.f23.body.getD .skip) = true := by decide +kernel
theorem q23 : chkR Try.prog Try.f23.results.toList o23 = true := by decide +kernel

/- wireschema/wireschemaref01.Zig -/
def g24_0 : List Am.Item := [
    ⟨(some 2), .val (.mov (.c (.int .u64 0))), none⟩]
def g24_1 : List Am.Item := [
    ⟨(some 3), .val (.mov (.t 0)), none⟩,
    ⟨(some 4), .val (.bin .num .geq (.t 3) (.c (.int .i64 0))), none⟩]
def g24_2 : List Am.Item := [
    ⟨(some 5), .val (.mov (.t 0)), none⟩,
    ⟨(some 6), .val (.cvi .u64 (.t 5)), none⟩,
    ⟨(some 7), .val (.bin .num .mul (.c (.int .u64 2)) (.t 6)), none⟩,
    ⟨(some 2), .val (.mov (.t 7)), none⟩]
def g24_3 : List Am.Item := [
    ⟨(some 8), .val (.mov (.t 0)), none⟩,
    ⟨(some 9), .val (.bin .num .add (.t 8) (.c (.int .i64 1))), none⟩,
    ⟨(some 10), .val (.un .neg (.t 9)), none⟩,
    ⟨(some 11), .val (.cvi .u64 (.t 10)), none⟩,
    ⟨(some 12), .val (.bin .num .mul (.c (.int .u64 2)) (.t 11)), none⟩,
    ⟨(some 13), .val (.bin .num .add (.t 12) (.c (.int .u64 1))), none⟩,
    ⟨(some 2), .val (.mov (.t 13)), none⟩]
def r24 : RC := .seq (.reg g24_0) (.seq (.seq (.reg g24_1) (.cond (.t 4) (.seq (.reg g24_2) (.ret)) (.skip))) (.seq (.reg g24_3) (.ret)))
def o24 : List RR := [.tmp 2]
theorem k24 : chkC Try.prog 14 r24 (Try.f24.body.getD .skip) = true := by decide +kernel
theorem q24 : chkR Try.prog Try.f24.results.toList o24 = true := by decide +kernel

/- wireschema/varint.Zag -/
def g25_0 : List Am.Item := [
    ⟨(some 2), .val (.mov (.c (.int .i64 0))), none⟩]
def g25_1 : List Am.Item := [
    ⟨(some 3), .val (.mov (.t 0)), none⟩,
    ⟨(some 4), .val (.bin .num .shr (.t 3) (.c (.int .u64 1))), none⟩,
    ⟨(some 5), .val (.cvi .i64 (.t 4)), none⟩,
    ⟨(some 6), .val (.mov (.t 0)), none⟩,
    ⟨(some 7), .val (.bin .num .and (.t 6) (.c (.int .u64 1))), none⟩,
    ⟨(some 8), .val (.cvi .i64 (.t 7)), none⟩,
    ⟨(some 9), .val (.un .neg (.t 8)), none⟩,
    ⟨(some 10), .val (.bin .num .xor (.t 5) (.t 9)), none⟩,
    ⟨(some 2), .val (.mov (.t 10)), none⟩]
def r25 : RC := .seq (.reg g25_0) (.seq (.reg g25_1) (.ret))
def o25 : List RR := [.tmp 2]
theorem k25 : chkC Try.prog 11 r25 (Try.f25.body.getD .skip) = true := by decide +kernel
theorem q25 : chkR Try.prog Try.f25.results.toList o25 = true := by decide +kernel

/- wireschema/wireschemaref01.Zag -/
def g26_0 : List Am.Item := [
    ⟨(some 2), .val (.mov (.c (.int .i64 0))), none⟩]
def g26_1 : List Am.Item := [
    ⟨(some 3), .val (.mov (.t 0)), none⟩,
    ⟨(some 4), .val (.bin .num .rem (.t 3) (.c (.int .u64 2))), none⟩,
    ⟨(some 5), .val (.bin .num .eql (.t 4) (.c (.int .u64 0))), none⟩]
def g26_2 : List Am.Item := [
    ⟨(some 6), .val (.mov (.t 0)), none⟩,
    ⟨(some 7), .val (.bin .num .quo (.t 6) (.c (.int .u64 2))), none⟩,
    ⟨(some 8), .val (.cvi .i64 (.t 7)), none⟩,
    ⟨(some 2), .val (.mov (.t 8)), none⟩]
def g26_3 : List Am.Item := [
    ⟨(some 9), .val (.mov (.t 0)), none⟩,
    ⟨(some 10), .val (.bin .num .quo (.t 9) (.c (.int .u64 2))), none⟩,
    ⟨(some 11), .val (.cvi .i64 (.t 10)), none⟩,
    ⟨(some 12), .val (.un .neg (.t 11)), none⟩,
    ⟨(some 13), .val (.bin .num .sub (.t 12) (.c (.int .i64 1))), none⟩,
    ⟨(some 2), .val (.mov (.t 13)), none⟩]
def r26 : RC := .seq (.reg g26_0) (.seq (.seq (.reg g26_1) (.cond (.t 5) (.seq (.reg g26_2) (.ret)) (.skip))) (.seq (.reg g26_3) (.ret)))
def o26 : List RR := [.tmp 2]
theorem k26 : chkC Try.prog 14 r26 (Try.f26.body.getD .skip) = true := by decide +kernel
theorem q26 : chkR Try.prog Try.f26.results.toList o26 = true := by decide +kernel

/- wireschema/varint.Len -/
def g27_0 : List Am.Item := [
    ⟨(some 2), .val (.mov (.c (.int .i64 0))), none⟩]
def g27_1 : List Am.Item := [
    ⟨(some 3), .val (.mov (.c (.int .i64 1))), none⟩]
def g27_2 : List Am.Item := [
    ⟨(some 4), .val (.mov (.t 0)), none⟩,
    ⟨(some 5), .val (.bin .num .geq (.t 4) (.c (.int .u64 128))), none⟩]
def g27_3 : List Am.Item := [
    ⟨(some 6), .val (.mov (.t 0)), none⟩,
    ⟨(some 7), .val (.bin .num .shr (.t 6) (.c (.int .u64 7))), none⟩,
    ⟨(some 0), .val (.mov (.t 7)), none⟩]
def g27_4 : List Am.Item := [
    ⟨(some 8), .val (.mov (.t 3)), none⟩,
    ⟨(some 9), .val (.bin .num .add (.t 8) (.c (.int .i64 1))), none⟩,
    ⟨(some 3), .val (.mov (.t 9)), none⟩]
def l27_0 : RC := .seq (.seq (.reg g27_2) (.cond (.t 5) (.skip) (.exit 0))) (.block 1 (.seq (.reg g27_3) (.reg g27_4)))
def g27_5 : List Am.Item := [
    ⟨(some 10), .val (.mov (.t 3)), none⟩,
    ⟨(some 2), .val (.mov (.t 10)), none⟩]
def r27 : RC := .seq (.reg g27_0) (.seq (.reg g27_1) (.seq (.block 0 (.loop l27_0)) (.seq (.reg g27_5) (.ret))))
def o27 : List RR := [.tmp 2]
theorem k27 : chkC Try.prog 11 r27 (Try.f27.body.getD .skip) = true := by decide +kernel
theorem q27 : chkR Try.prog Try.f27.results.toList o27 = true := by decide +kernel

/- wireschema/wireschemalaw01.nearer -/
def g28_0 : List Am.Item := [
    ⟨(some 4), .val (.mov (.c (.bool false))), none⟩]
def g28_1 : List Am.Item := [
    ⟨(some 5), .val (.mov (.t 0)), none⟩,
    ⟨(some 6), .val (.bin .num .gtr (.t 5) (.c (.int .i64 0))), none⟩]
def g28_2 : List Am.Item := [
    ⟨(some 7), .val (.mov (.t 0)), none⟩,
    ⟨(some 8), .val (.un .neg (.t 7)), none⟩,
    ⟨(some 0), .val (.mov (.t 8)), none⟩]
def g28_3 : List Am.Item := [
    ⟨(some 9), .val (.mov (.t 1)), none⟩,
    ⟨(some 10), .val (.bin .num .gtr (.t 9) (.c (.int .i64 0))), none⟩]
def g28_4 : List Am.Item := [
    ⟨(some 11), .val (.mov (.t 1)), none⟩,
    ⟨(some 12), .val (.un .neg (.t 11)), none⟩,
    ⟨(some 1), .val (.mov (.t 12)), none⟩]
def g28_5 : List Am.Item := [
    ⟨(some 13), .val (.mov (.t 0)), none⟩,
    ⟨(some 14), .val (.mov (.t 1)), none⟩,
    ⟨(some 15), .val (.bin .num .gtr (.t 13) (.t 14)), none⟩,
    ⟨(some 4), .val (.mov (.t 15)), none⟩]
def r28 : RC := .seq (.reg g28_0) (.seq (.seq (.reg g28_1) (.cond (.t 6) (.reg g28_2) (.skip))) (.seq (.seq (.reg g28_3) (.cond (.t 10) (.reg g28_4) (.skip))) (.seq (.reg g28_5) (.ret))))
def o28 : List RR := [.tmp 4]
theorem k28 : chkC Try.prog 16 r28 (Try.f28.body.getD .skip) = true := by decide +kernel
theorem q28 : chkR Try.prog Try.f28.results.toList o28 = true := by decide +kernel

/- wireschema/varint.Put -/
def g29_0 : List Am.Item := [
    ⟨(some 2), .val (.mov (.c (.str []))), none⟩]
def g29_1 : List Am.Item := [
    ⟨(some 3), .val (.mov (.c (.nils))), none⟩]
def g29_2 : List Am.Item := [
    ⟨(some 4), .val (.mov (.t 0)), none⟩,
    ⟨(some 5), .val (.bin .num .geq (.t 4) (.c (.int .u64 128))), none⟩]
def g29_3 : List Am.Item := [
    ⟨(some 6), .val (.mov (.t 3)), none⟩,
    ⟨(some 7), .val (.mov (.t 0)), none⟩,
    ⟨(some 8), .val (.cvi .u8 (.t 7)), none⟩,
    ⟨(some 9), .val (.bin .num .or (.t 8) (.c (.int .u8 128))), none⟩,
    ⟨(some 10), .bsl 1 1 [.int .u8 0] [(0, 1, (.t 9))], none⟩,
    ⟨(some 11), .app 1 1 (.t 6) (.t 10), none⟩,
    ⟨(some 3), .val (.mov (.t 11)), none⟩]
def g29_4 : List Am.Item := [
    ⟨(some 12), .val (.mov (.t 0)), none⟩,
    ⟨(some 13), .val (.bin .num .shr (.t 12) (.c (.int .u64 7))), none⟩,
    ⟨(some 0), .val (.mov (.t 13)), none⟩]
def l29_0 : RC := .seq (.seq (.reg g29_2) (.cond (.t 5) (.skip) (.exit 0))) (.block 1 (.seq (.reg g29_3) (.reg g29_4)))
def g29_5 : List Am.Item := [
    ⟨(some 14), .val (.mov (.t 3)), none⟩,
    ⟨(some 15), .val (.mov (.t 0)), none⟩,
    ⟨(some 16), .val (.cvi .u8 (.t 15)), none⟩,
    ⟨(some 17), .bsl 1 1 [.int .u8 0] [(0, 1, (.t 16))], none⟩,
    ⟨(some 18), .app 1 1 (.t 14) (.t 17), none⟩,
    ⟨(some 19), .val (.b2s (.t 18)), none⟩,
    ⟨(some 2), .val (.mov (.t 19)), none⟩]
def r29 : RC := .seq (.reg g29_0) (.seq (.reg g29_1) (.seq (.block 0 (.loop l29_0)) (.seq (.reg g29_5) (.ret))))
def o29 : List RR := [.tmp 2]
theorem k29 : chkC Try.prog 20 r29 (Try.f29.body.getD .skip) = true := by decide +kernel
theorem q29 : chkR Try.prog Try.f29.results.toList o29 = true := by decide +kernel

/- wireschema/wireschemaref01.Put -/
def g30_0 : List Am.Item := [
    ⟨(some 2), .val (.mov (.c (.str []))), none⟩]
def g30_1 : List Am.Item := [
    ⟨(some 3), .val (.mov (.c (.nils))), none⟩]
def g30_2 : List Am.Item := [
    ⟨(some 4), .val (.mov (.t 0)), none⟩,
    ⟨(some 5), .val (.bin .num .geq (.t 4) (.c (.int .u64 128))), none⟩]
def g30_3 : List Am.Item := [
    ⟨(some 6), .val (.mov (.t 3)), none⟩,
    ⟨(some 7), .val (.mov (.t 0)), none⟩,
    ⟨(some 8), .val (.bin .num .rem (.t 7) (.c (.int .u64 128))), none⟩,
    ⟨(some 9), .val (.bin .num .add (.t 8) (.c (.int .u64 128))), none⟩,
    ⟨(some 10), .val (.cvi .u8 (.t 9)), none⟩,
    ⟨(some 11), .bsl 1 1 [.int .u8 0] [(0, 1, (.t 10))], none⟩,
    ⟨(some 12), .app 1 1 (.t 6) (.t 11), none⟩,
    ⟨(some 3), .val (.mov (.t 12)), none⟩]
def g30_4 : List Am.Item := [
    ⟨(some 13), .val (.mov (.t 0)), none⟩,
    ⟨(some 14), .val (.bin .num .quo (.t 13) (.c (.int .u64 128))), none⟩,
    ⟨(some 0), .val (.mov (.t 14)), none⟩]
def l30_0 : RC := .seq (.seq (.reg g30_2) (.cond (.t 5) (.skip) (.exit 0))) (.block 1 (.seq (.reg g30_3) (.reg g30_4)))
def g30_5 : List Am.Item := [
    ⟨(some 15), .val (.mov (.t 3)), none⟩,
    ⟨(some 16), .val (.mov (.t 0)), none⟩,
    ⟨(some 17), .val (.cvi .u8 (.t 16)), none⟩,
    ⟨(some 18), .bsl 1 1 [.int .u8 0] [(0, 1, (.t 17))], none⟩,
    ⟨(some 19), .app 1 1 (.t 15) (.t 18), none⟩,
    ⟨(some 20), .val (.b2s (.t 19)), none⟩,
    ⟨(some 2), .val (.mov (.t 20)), none⟩]
def r30 : RC := .seq (.reg g30_0) (.seq (.reg g30_1) (.seq (.block 0 (.loop l30_0)) (.seq (.reg g30_5) (.ret))))
def o30 : List RR := [.tmp 2]
theorem k30 : chkC Try.prog 21 r30 (Try.f30.body.getD .skip) = true := by decide +kernel
theorem q30 : chkR Try.prog Try.f30.results.toList o30 = true := by decide +kernel

/- wireschema/wireschemaref01.Len -/
def g31_0 : List Am.Item := [
    ⟨(some 2), .val (.mov (.c (.int .i64 0))), none⟩]
def g31_1 : List Am.Item := [
    ⟨(some 3), .val (.mov (.t 0)), none⟩,
    ⟨(some 4), .call (.f 30) [(.t 3)], none⟩,
    ⟨(some 5), .val (.len 0 (.t 4)), none⟩,
    ⟨(some 2), .val (.mov (.t 5)), none⟩]
def r31 : RC := .seq (.reg g31_0) (.seq (.reg g31_1) (.ret))
def o31 : List RR := [.tmp 2]
theorem k31 : chkC Try.prog 6 r31 (Try.f31.body.getD .skip) = true := by decide +kernel
theorem q31 : chkR Try.prog Try.f31.results.toList o31 = true := by decide +kernel

/- wireschema/varint.TakeFixed -/
def g32_0 : List Am.Item := [
    ⟨(some 2), .val (.mov (.c (.int .u64 0))), none⟩,
    ⟨(some 3), .val (.mov (.c (.int .i64 0))), none⟩]
def g32_1 : List Am.Item := [
    ⟨(some 6), .val (.mov (.t 0)), none⟩,
    ⟨(some 7), .val (.len 0 (.t 6)), none⟩,
    ⟨(some 8), .val (.bin .num .lss (.t 7) (.c (.int .i64 8))), none⟩]
def g32_2 : List Am.Item := [
    ⟨(some 2), .val (.mov (.c (.int .u64 0))), none⟩,
    ⟨(some 3), .val (.mov (.c (.int .i64 4))), none⟩]
def g32_3 : List Am.Item := [
    ⟨(some 4), .val (.mov (.c (.int .u64 0))), none⟩]
def g32_4 : List Am.Item := [
    ⟨(some 9), .val (.mov (.c (.int .i64 0))), none⟩]
def g32_5 : List Am.Item := [
    ⟨(some 10), .val (.bin .num .lss (.t 9) (.c (.int .i64 8))), none⟩]
def g32_6 : List Am.Item := [
    ⟨(some 11), .val (.mov (.t 9)), none⟩,
    ⟨(some 5), .val (.mov (.t 11)), none⟩]
def g32_7 : List Am.Item := [
    ⟨(some 12), .val (.mov (.t 4)), none⟩,
    ⟨(some 13), .val (.mov (.t 0)), none⟩,
    ⟨(some 14), .val (.mov (.t 5)), none⟩,
    ⟨(some 15), .val (.idx (.t 13) (.t 14)), none⟩,
    ⟨(some 16), .val (.cvi .u64 (.t 15)), none⟩,
    ⟨(some 17), .val (.mov (.t 5)), none⟩,
    ⟨(some 18), .val (.bin .num .mul (.c (.int .i64 8)) (.t 17)), none⟩,
    ⟨(some 19), .val (.bin .num .shl (.t 16) (.t 18)), none⟩,
    ⟨(some 20), .val (.bin .num .or (.t 12) (.t 19)), none⟩,
    ⟨(some 4), .val (.mov (.t 20)), none⟩]
def g32_8 : List Am.Item := [
    ⟨(some 21), .val (.bin .num .add (.t 9) (.c (.int .i64 1))), none⟩,
    ⟨(some 9), .val (.mov (.t 21)), none⟩]
def l32_0 : RC := .seq (.reg g32_5) (.seq (.cond (.t 10) (.skip) (.exit 0)) (.seq (.block 1 (.seq (.reg g32_6) (.reg g32_7))) (.reg g32_8)))
def g32_9 : List Am.Item := [
    ⟨(some 22), .val (.mov (.t 4)), none⟩,
    ⟨(some 2), .val (.mov (.t 22)), none⟩,
    ⟨(some 3), .val (.mov (.c (.int .i64 0))), none⟩]
def r32 : RC := .seq (.reg g32_0) (.seq (.seq (.reg g32_1) (.cond (.t 8) (.seq (.reg g32_2) (.ret)) (.skip))) (.seq (.reg g32_3) (.seq (.seq (.reg g32_4) (.block 0 (.loop l32_0))) (.seq (.reg g32_9) (.ret)))))
def o32 : List RR := [.tmp 2, .tmp 3]
theorem k32 : chkC Try.prog 23 r32 (Try.f32.body.getD .skip) = true := by decide +kernel
theorem q32 : chkR Try.prog Try.f32.results.toList o32 = true := by decide +kernel

/- wireschema/wireschemaref01.TakeFixed -/
def g33_0 : List Am.Item := [
    ⟨(some 2), .val (.mov (.c (.int .u64 0))), none⟩,
    ⟨(some 3), .val (.mov (.c (.int .i64 0))), none⟩]
def g33_1 : List Am.Item := [
    ⟨(some 6), .val (.mov (.t 0)), none⟩,
    ⟨(some 7), .val (.len 0 (.t 6)), none⟩,
    ⟨(some 8), .val (.bin .num .lss (.t 7) (.c (.int .i64 8))), none⟩]
def g33_2 : List Am.Item := [
    ⟨(some 2), .val (.mov (.c (.int .u64 0))), none⟩,
    ⟨(some 3), .val (.mov (.c (.int .i64 4))), none⟩]
def g33_3 : List Am.Item := [
    ⟨(some 4), .val (.mov (.c (.int .u64 0))), none⟩]
def g33_4 : List Am.Item := [
    ⟨(some 5), .val (.mov (.c (.int .i64 7))), none⟩]
def g33_5 : List Am.Item := [
    ⟨(some 9), .val (.mov (.t 5)), none⟩,
    ⟨(some 10), .val (.bin .num .geq (.t 9) (.c (.int .i64 0))), none⟩]
def g33_7 : List Am.Item := [
    ⟨(some 13), .val (.mov (.t 4)), none⟩,
    ⟨(some 14), .val (.bin .num .mul (.c (.int .u64 256)) (.t 13)), none⟩,
    ⟨(some 15), .val (.mov (.t 0)), none⟩,
    ⟨(some 16), .val (.mov (.t 5)), none⟩,
    ⟨(some 17), .val (.idx (.t 15) (.t 16)), none⟩,
    ⟨(some 18), .val (.cvi .u64 (.t 17)), none⟩,
    ⟨(some 19), .val (.bin .num .add (.t 14) (.t 18)), none⟩,
    ⟨(some 4), .val (.mov (.t 19)), none⟩]
def g33_6 : List Am.Item := [
    ⟨(some 11), .val (.mov (.t 5)), none⟩,
    ⟨(some 12), .val (.bin .num .sub (.t 11) (.c (.int .i64 1))), none⟩,
    ⟨(some 5), .val (.mov (.t 12)), none⟩]
def l33_0 : RC := .seq (.seq (.reg g33_5) (.cond (.t 10) (.skip) (.exit 0))) (.seq (.block 1 (.reg g33_7)) (.reg g33_6))
def g33_8 : List Am.Item := [
    ⟨(some 20), .val (.mov (.t 4)), none⟩,
    ⟨(some 2), .val (.mov (.t 20)), none⟩,
    ⟨(some 3), .val (.mov (.c (.int .i64 0))), none⟩]
def r33 : RC := .seq (.reg g33_0) (.seq (.seq (.reg g33_1) (.cond (.t 8) (.seq (.reg g33_2) (.ret)) (.skip))) (.seq (.reg g33_3) (.seq (.seq (.reg g33_4) (.block 0 (.loop l33_0))) (.seq (.reg g33_8) (.ret)))))
def o33 : List RR := [.tmp 2, .tmp 3]
theorem k33 : chkC Try.prog 21 r33 (Try.f33.body.getD .skip) = true := by decide +kernel
theorem q33 : chkR Try.prog Try.f33.results.toList o33 = true := by decide +kernel

/- wireschema/wireschemaref01.Fixed -/
def g35_0 : List Am.Item := [
    ⟨(some 2), .val (.mov (.c (.str []))), none⟩]
def g35_1 : List Am.Item := [
    ⟨(some 3), .val (.mov (.c (.nils))), none⟩]
def g35_2 : List Am.Item := [
    ⟨(some 4), .val (.mov (.c (.int .i64 0))), none⟩]
def g35_3 : List Am.Item := [
    ⟨(some 5), .val (.mov (.t 4)), none⟩,
    ⟨(some 6), .val (.bin .num .lss (.t 5) (.c (.int .i64 8))), none⟩]
def g35_5 : List Am.Item := [
    ⟨(some 9), .val (.mov (.t 3)), none⟩,
    ⟨(some 10), .val (.mov (.t 0)), none⟩,
    ⟨(some 11), .val (.bin .num .rem (.t 10) (.c (.int .u64 256))), none⟩,
    ⟨(some 12), .val (.cvi .u8 (.t 11)), none⟩,
    ⟨(some 13), .bsl 1 1 [.int .u8 0] [(0, 1, (.t 12))], none⟩,
    ⟨(some 14), .app 1 1 (.t 9) (.t 13), none⟩,
    ⟨(some 3), .val (.mov (.t 14)), none⟩]
def g35_6 : List Am.Item := [
    ⟨(some 15), .val (.mov (.t 0)), none⟩,
    ⟨(some 16), .val (.bin .num .quo (.t 15) (.c (.int .u64 256))), none⟩,
    ⟨(some 0), .val (.mov (.t 16)), none⟩]
def g35_4 : List Am.Item := [
    ⟨(some 7), .val (.mov (.t 4)), none⟩,
    ⟨(some 8), .val (.bin .num .add (.t 7) (.c (.int .i64 1))), none⟩,
    ⟨(some 4), .val (.mov (.t 8)), none⟩]
def l35_0 : RC := .seq (.seq (.reg g35_3) (.cond (.t 6) (.skip) (.exit 0))) (.seq (.block 1 (.seq (.reg g35_5) (.reg g35_6))) (.reg g35_4))
def g35_7 : List Am.Item := [
    ⟨(some 17), .val (.mov (.t 3)), none⟩,
    ⟨(some 18), .val (.b2s (.t 17)), none⟩,
    ⟨(some 2), .val (.mov (.t 18)), none⟩]
def r35 : RC := .seq (.reg g35_0) (.seq (.reg g35_1) (.seq (.seq (.reg g35_2) (.block 0 (.loop l35_0))) (.seq (.reg g35_7) (.ret))))
def o35 : List RR := [.tmp 2]
theorem k35 : chkC Try.prog 19 r35 (Try.f35.body.getD .skip) = true := by decide +kernel
theorem q35 : chkR Try.prog Try.f35.results.toList o35 = true := by decide +kernel

/- wireschema/varint.Take -/
def g36_0 : List Am.Item := [
    ⟨(some 2), .val (.mov (.c (.int .u64 0))), none⟩,
    ⟨(some 3), .val (.mov (.c (.int .i64 0))), none⟩,
    ⟨(some 4), .val (.mov (.c (.int .i64 0))), none⟩]
def g36_1 : List Am.Item := [
    ⟨(some 5), .val (.mov (.c (.int .u64 0))), none⟩]
def g36_2 : List Am.Item := [
    ⟨(some 6), .val (.mov (.c (.int .i64 0))), none⟩]
def g36_3 : List Am.Item := [
    ⟨(some 8), .val (.mov (.t 6)), none⟩,
    ⟨(some 9), .val (.mov (.t 0)), none⟩,
    ⟨(some 10), .val (.len 0 (.t 9)), none⟩,
    ⟨(some 11), .val (.bin .num .eql (.t 8) (.t 10)), none⟩]
def g36_4 : List Am.Item := [
    ⟨(some 2), .val (.mov (.c (.int .u64 0))), none⟩,
    ⟨(some 3), .val (.mov (.c (.int .i64 0))), none⟩,
    ⟨(some 4), .val (.mov (.c (.int .i64 4))), none⟩]
def g36_5 : List Am.Item := [
    ⟨(some 12), .val (.mov (.t 0)), none⟩,
    ⟨(some 13), .val (.mov (.t 6)), none⟩,
    ⟨(some 14), .val (.idx (.t 12) (.t 13)), none⟩,
    ⟨(some 7), .val (.mov (.t 14)), none⟩]
def g36_6 : List Am.Item := [
    ⟨(some 15), .val (.mov (.t 6)), none⟩,
    ⟨(some 16), .val (.bin .num .eql (.t 15) (.c (.int .i64 9))), none⟩,
    ⟨(some 17), .val (.mov (.t 16)), none⟩,
    ⟨(some 18), .val (.mov (.t 7)), (some (17, true))⟩,
    ⟨(some 19), .val (.bin .num .gtr (.t 18) (.c (.int .u8 1))), (some (17, true))⟩,
    ⟨(some 20), .val (.pick (.t 17) (.t 19) (.c (.bool false))), none⟩]
def g36_7 : List Am.Item := [
    ⟨(some 2), .val (.mov (.c (.int .u64 0))), none⟩,
    ⟨(some 3), .val (.mov (.c (.int .i64 0))), none⟩,
    ⟨(some 4), .val (.mov (.c (.int .i64 6))), none⟩]
def g36_8 : List Am.Item := [
    ⟨(some 21), .val (.mov (.t 5)), none⟩,
    ⟨(some 22), .val (.mov (.t 7)), none⟩,
    ⟨(some 23), .val (.bin .num .and (.t 22) (.c (.int .u8 127))), none⟩,
    ⟨(some 24), .val (.cvi .u64 (.t 23)), none⟩,
    ⟨(some 25), .val (.mov (.t 6)), none⟩,
    ⟨(some 26), .val (.bin .num .mul (.c (.int .i64 7)) (.t 25)), none⟩,
    ⟨(some 27), .val (.bin .num .shl (.t 24) (.t 26)), none⟩,
    ⟨(some 28), .val (.bin .num .or (.t 21) (.t 27)), none⟩,
    ⟨(some 5), .val (.mov (.t 28)), none⟩]
def g36_9 : List Am.Item := [
    ⟨(some 29), .val (.mov (.t 6)), none⟩,
    ⟨(some 30), .val (.bin .num .add (.t 29) (.c (.int .i64 1))), none⟩,
    ⟨(some 6), .val (.mov (.t 30)), none⟩]
def g36_10 : List Am.Item := [
    ⟨(some 32), .val (.mov (.t 7)), none⟩,
    ⟨(some 33), .val (.bin .num .lss (.t 32) (.c (.int .u8 128))), none⟩,
    ⟨(some 31), .val (.mov (.t 33)), none⟩]
def l36_0 : RC := .block 1 (.seq (.seq (.reg g36_3) (.cond (.t 11) (.seq (.reg g36_4) (.ret)) (.skip))) (.seq (.reg g36_5) (.seq (.seq (.reg g36_6) (.cond (.t 20) (.seq (.reg g36_7) (.ret)) (.skip))) (.seq (.reg g36_8) (.seq (.reg g36_9) (.block 2 (.seq (.reg g36_10) (.cond (.t 31) (.exit 0) (.skip)))))))))
def g36_11 : List Am.Item := [
    ⟨(some 34), .val (.mov (.t 5)), none⟩,
    ⟨(some 35), .val (.mov (.t 6)), none⟩,
    ⟨(some 2), .val (.mov (.t 34)), none⟩,
    ⟨(some 3), .val (.mov (.t 35)), none⟩,
    ⟨(some 4), .val (.mov (.c (.int .i64 0))), none⟩]
def r36 : RC := .seq (.reg g36_0) (.scope (.seq (.reg g36_1) (.seq (.reg g36_2) (.seq (.lab) (.seq (.block 0 (.loop l36_0)) (.seq (.reg g36_11) (.ret)))))))
def o36 : List RR := [.tmp 2, .tmp 3, .tmp 4]
theorem k36 : chkC Try.prog 36 r36 (Try.f36.body.getD .skip) = true := by decide +kernel
theorem q36 : chkR Try.prog Try.f36.results.toList o36 = true := by decide +kernel

/- wireschema/wireschemaref01.Take -/
def g37_0 : List Am.Item := [
    ⟨(some 2), .val (.mov (.c (.int .u64 0))), none⟩,
    ⟨(some 3), .val (.mov (.c (.int .i64 0))), none⟩,
    ⟨(some 4), .val (.mov (.c (.int .i64 0))), none⟩]
def g37_1 : List Am.Item := [
    ⟨(some 5), .val (.mov (.c (.int .u64 0))), none⟩,
    ⟨(some 6), .val (.mov (.c (.int .u64 1))), none⟩]
def g37_2 : List Am.Item := [
    ⟨(some 7), .val (.mov (.c (.int .i64 0))), none⟩]
def g37_3 : List Am.Item := [
    ⟨(some 9), .val (.mov (.t 7)), none⟩,
    ⟨(some 10), .val (.bin .num .lss (.t 9) (.c (.int .i64 10))), none⟩]
def g37_5 : List Am.Item := [
    ⟨(some 13), .val (.mov (.t 7)), none⟩,
    ⟨(some 14), .val (.mov (.t 0)), none⟩,
    ⟨(some 15), .val (.len 0 (.t 14)), none⟩,
    ⟨(some 16), .val (.bin .num .geq (.t 13) (.t 15)), none⟩]
def g37_6 : List Am.Item := [
    ⟨(some 2), .val (.mov (.c (.int .u64 0))), none⟩,
    ⟨(some 3), .val (.mov (.c (.int .i64 0))), none⟩,
    ⟨(some 4), .val (.mov (.c (.int .i64 4))), none⟩]
def g37_7 : List Am.Item := [
    ⟨(some 17), .val (.mov (.t 0)), none⟩,
    ⟨(some 18), .val (.mov (.t 7)), none⟩,
    ⟨(some 19), .val (.idx (.t 17) (.t 18)), none⟩,
    ⟨(some 20), .val (.cvi .u64 (.t 19)), none⟩,
    ⟨(some 8), .val (.mov (.t 20)), none⟩]
def g37_8 : List Am.Item := [
    ⟨(some 21), .val (.mov (.t 7)), none⟩,
    ⟨(some 22), .val (.bin .num .eql (.t 21) (.c (.int .i64 9))), none⟩,
    ⟨(some 23), .val (.mov (.t 22)), none⟩,
    ⟨(some 24), .val (.mov (.t 8)), (some (23, true))⟩,
    ⟨(some 25), .val (.bin .num .gtr (.t 24) (.c (.int .u64 1))), (some (23, true))⟩,
    ⟨(some 26), .val (.pick (.t 23) (.t 25) (.c (.bool false))), none⟩]
def g37_9 : List Am.Item := [
    ⟨(some 2), .val (.mov (.c (.int .u64 0))), none⟩,
    ⟨(some 3), .val (.mov (.c (.int .i64 0))), none⟩,
    ⟨(some 4), .val (.mov (.c (.int .i64 6))), none⟩]
def g37_10 : List Am.Item := [
    ⟨(some 27), .val (.mov (.t 5)), none⟩,
    ⟨(some 28), .val (.mov (.t 8)), none⟩,
    ⟨(some 29), .val (.bin .num .rem (.t 28) (.c (.int .u64 128))), none⟩,
    ⟨(some 30), .val (.mov (.t 6)), none⟩,
    ⟨(some 31), .val (.bin .num .mul (.t 29) (.t 30)), none⟩,
    ⟨(some 32), .val (.bin .num .add (.t 27) (.t 31)), none⟩,
    ⟨(some 5), .val (.mov (.t 32)), none⟩]
def g37_11 : List Am.Item := [
    ⟨(some 33), .val (.mov (.t 8)), none⟩,
    ⟨(some 34), .val (.bin .num .lss (.t 33) (.c (.int .u64 128))), none⟩]
def g37_12 : List Am.Item := [
    ⟨(some 35), .val (.mov (.t 5)), none⟩,
    ⟨(some 36), .val (.mov (.t 7)), none⟩,
    ⟨(some 37), .val (.bin .num .add (.t 36) (.c (.int .i64 1))), none⟩,
    ⟨(some 2), .val (.mov (.t 35)), none⟩,
    ⟨(some 3), .val (.mov (.t 37)), none⟩,
    ⟨(some 4), .val (.mov (.c (.int .i64 0))), none⟩]
def g37_13 : List Am.Item := [
    ⟨(some 38), .val (.mov (.t 6)), none⟩,
    ⟨(some 39), .val (.bin .num .mul (.t 38) (.c (.int .u64 128))), none⟩,
    ⟨(some 6), .val (.mov (.t 39)), none⟩]
def g37_4 : List Am.Item := [
    ⟨(some 11), .val (.mov (.t 7)), none⟩,
    ⟨(some 12), .val (.bin .num .add (.t 11) (.c (.int .i64 1))), none⟩,
    ⟨(some 7), .val (.mov (.t 12)), none⟩]
def l37_0 : RC := .seq (.seq (.reg g37_3) (.cond (.t 10) (.skip) (.exit 0))) (.seq (.block 1 (.seq (.seq (.reg g37_5) (.cond (.t 16) (.seq (.reg g37_6) (.ret)) (.skip))) (.seq (.reg g37_7) (.seq (.seq (.reg g37_8) (.cond (.t 26) (.seq (.reg g37_9) (.ret)) (.skip))) (.seq (.reg g37_10) (.seq (.seq (.reg g37_11) (.cond (.t 34) (.seq (.reg g37_12) (.ret)) (.skip))) (.reg g37_13))))))) (.reg g37_4))
def g37_14 : List Am.Item := [
    ⟨(some 2), .val (.mov (.c (.int .u64 0))), none⟩,
    ⟨(some 3), .val (.mov (.c (.int .i64 0))), none⟩,
    ⟨(some 4), .val (.mov (.c (.int .i64 6))), none⟩]
def r37 : RC := .seq (.reg g37_0) (.seq (.reg g37_1) (.seq (.seq (.reg g37_2) (.block 0 (.loop l37_0))) (.seq (.reg g37_14) (.ret))))
def o37 : List RR := [.tmp 2, .tmp 3, .tmp 4]
theorem k37 : chkC Try.prog 40 r37 (Try.f37.body.getD .skip) = true := by decide +kernel
theorem q37 : chkR Try.prog Try.f37.results.toList o37 = true := by decide +kernel

/- wireschema/varint.Short -/
def g38_0 : List Am.Item := [
    ⟨(some 2), .val (.mov (.c (.bool false))), none⟩]
def g38_1 : List Am.Item := [
    ⟨(some 7), .val (.mov (.t 0)), none⟩,
    ⟨(some 8), .call (.f 36) [(.t 7)], none⟩,
    ⟨(some 6), .val (.mov (.t 8)), none⟩,
    ⟨(some 9), .val (.ext (.t 6) 0), none⟩,
    ⟨(some 10), .val (.ext (.t 6) 1), none⟩,
    ⟨(some 11), .val (.ext (.t 6) 2), none⟩,
    ⟨(some 3), .val (.mov (.t 9)), none⟩,
    ⟨(some 4), .val (.mov (.t 10)), none⟩,
    ⟨(some 5), .val (.mov (.t 11)), none⟩]
def g38_2 : List Am.Item := [
    ⟨(some 12), .val (.mov (.t 5)), none⟩,
    ⟨(some 13), .val (.bin .num .eql (.t 12) (.c (.int .i64 0))), none⟩,
    ⟨(some 14), .val (.mov (.t 13)), none⟩,
    ⟨(some 15), .val (.mov (.t 4)), (some (14, true))⟩,
    ⟨(some 16), .val (.mov (.t 0)), (some (14, true))⟩,
    ⟨(some 17), .val (.len 0 (.t 16)), (some (14, true))⟩,
    ⟨(some 18), .val (.bin .num .eql (.t 15) (.t 17)), (some (14, true))⟩,
    ⟨(some 19), .val (.pick (.t 14) (.t 18) (.c (.bool false))), none⟩,
    ⟨(some 20), .val (.mov (.t 19)), none⟩,
    ⟨(some 21), .val (.mov (.t 4)), (some (20, true))⟩,
    ⟨(some 22), .val (.bin .num .eql (.t 21) (.c (.int .i64 1))), (some (20, true))⟩,
    ⟨(some 23), .val (.mov (.t 22)), (some (20, true))⟩,
    ⟨(some 24), .val (.mov (.t 0)), (some (23, false))⟩,
    ⟨(some 25), .val (.mov (.t 4)), (some (23, false))⟩,
    ⟨(some 26), .val (.bin .num .sub (.t 25) (.c (.int .i64 1))), (some (23, false))⟩,
    ⟨(some 27), .val (.idx (.t 24) (.t 26)), (some (23, false))⟩,
    ⟨(some 28), .val (.bin .num .neq (.t 27) (.c (.int .u8 0))), (some (23, false))⟩,
    ⟨(some 29), .val (.pick (.t 23) (.c (.bool true)) (.t 28)), (some (20, true))⟩,
    ⟨(some 30), .val (.pick (.t 20) (.t 29) (.c (.bool false))), none⟩,
    ⟨(some 2), .val (.mov (.t 30)), none⟩]
def r38 : RC := .seq (.reg g38_0) (.seq (.reg g38_1) (.seq (.reg g38_2) (.ret)))
def o38 : List RR := [.tmp 2]
theorem k38 : chkC Try.prog 31 r38 (Try.f38.body.getD .skip) = true := by decide +kernel
theorem q38 : chkR Try.prog Try.f38.results.toList o38 = true := by decide +kernel

/- wireschema/wireschemaref01.Short -/
def g39_0 : List Am.Item := [
    ⟨(some 2), .val (.mov (.c (.bool false))), none⟩]
def g39_1 : List Am.Item := [
    ⟨(some 7), .val (.mov (.t 0)), none⟩,
    ⟨(some 8), .call (.f 37) [(.t 7)], none⟩,
    ⟨(some 6), .val (.mov (.t 8)), none⟩,
    ⟨(some 9), .val (.ext (.t 6) 0), none⟩,
    ⟨(some 10), .val (.ext (.t 6) 1), none⟩,
    ⟨(some 11), .val (.ext (.t 6) 2), none⟩,
    ⟨(some 3), .val (.mov (.t 9)), none⟩,
    ⟨(some 4), .val (.mov (.t 10)), none⟩,
    ⟨(some 5), .val (.mov (.t 11)), none⟩]
def g39_2 : List Am.Item := [
    ⟨(some 12), .val (.mov (.t 5)), none⟩,
    ⟨(some 13), .val (.bin .num .eql (.t 12) (.c (.int .i64 0))), none⟩,
    ⟨(some 14), .val (.mov (.t 13)), none⟩,
    ⟨(some 15), .val (.mov (.t 4)), (some (14, true))⟩,
    ⟨(some 16), .val (.mov (.t 0)), (some (14, true))⟩,
    ⟨(some 17), .val (.len 0 (.t 16)), (some (14, true))⟩,
    ⟨(some 18), .val (.bin .num .eql (.t 15) (.t 17)), (some (14, true))⟩,
    ⟨(some 19), .val (.pick (.t 14) (.t 18) (.c (.bool false))), none⟩,
    ⟨(some 20), .val (.mov (.t 19)), none⟩,
    ⟨(some 21), .val (.mov (.t 3)), (some (20, true))⟩,
    ⟨(some 22), .call (.f 30) [(.t 21)], (some (20, true))⟩,
    ⟨(some 23), .val (.mov (.t 0)), (some (20, true))⟩,
    ⟨(some 24), .val (.bin .str .eql (.t 22) (.t 23)), (some (20, true))⟩,
    ⟨(some 25), .val (.pick (.t 20) (.t 24) (.c (.bool false))), none⟩,
    ⟨(some 2), .val (.mov (.t 25)), none⟩]
def r39 : RC := .seq (.reg g39_0) (.seq (.reg g39_1) (.seq (.reg g39_2) (.ret)))
def o39 : List RR := [.tmp 2]
theorem k39 : chkC Try.prog 26 r39 (Try.f39.body.getD .skip) = true := by decide +kernel
theorem q39 : chkR Try.prog Try.f39.results.toList o39 = true := by decide +kernel

/- wireschema/wireschemalaw01.takes -/
def g40_0 : List Am.Item := [
    ⟨(some 2), .val (.mov (.c (.int .u64 0))), none⟩]
def g40_1 : List Am.Item := [
    ⟨(some 7), .val (.mov (.t 0)), none⟩,
    ⟨(some 8), .call (.f 36) [(.t 7)], none⟩,
    ⟨(some 6), .val (.mov (.t 8)), none⟩,
    ⟨(some 9), .val (.ext (.t 6) 0), none⟩,
    ⟨(some 10), .val (.ext (.t 6) 1), none⟩,
    ⟨(some 11), .val (.ext (.t 6) 2), none⟩,
    ⟨(some 3), .val (.mov (.t 9)), none⟩,
    ⟨(some 4), .val (.mov (.t 10)), none⟩,
    ⟨(some 5), .val (.mov (.t 11)), none⟩]
def g40_2 : List Am.Item := [
    ⟨(some 12), .val (.mov (.t 3)), none⟩,
    ⟨(some 2), .val (.mov (.t 12)), none⟩]
def r40 : RC := .seq (.reg g40_0) (.seq (.reg g40_1) (.seq (.reg g40_2) (.ret)))
def o40 : List RR := [.tmp 2]
theorem k40 : chkC Try.prog 13 r40 (Try.f40.body.getD .skip) = true := by decide +kernel
theorem q40 : chkR Try.prog Try.f40.results.toList o40 = true := by decide +kernel

/- wireschema/wireschemalaw01.VarintZigs -/
def g3_0 : List Am.Item := [
    ⟨(some 4), .val (.mov (.c (.bool false))), none⟩]
def g3_1 : List Am.Item := [
    ⟨(some 5), .val (.mov (.t 0)), none⟩,
    ⟨(some 6), .call (.f 23) [(.t 5)], none⟩,
    ⟨(some 7), .val (.mov (.t 0)), none⟩,
    ⟨(some 8), .call (.f 24) [(.t 7)], none⟩,
    ⟨(some 9), .val (.bin .num .eql (.t 6) (.t 8)), none⟩,
    ⟨(some 10), .val (.mov (.t 9)), none⟩,
    ⟨(some 11), .val (.mov (.t 1)), (some (10, true))⟩,
    ⟨(some 12), .call (.f 25) [(.t 11)], (some (10, true))⟩,
    ⟨(some 13), .val (.mov (.t 1)), (some (10, true))⟩,
    ⟨(some 14), .call (.f 26) [(.t 13)], (some (10, true))⟩,
    ⟨(some 15), .val (.bin .num .eql (.t 12) (.t 14)), (some (10, true))⟩,
    ⟨(some 16), .val (.pick (.t 10) (.t 15) (.c (.bool false))), none⟩,
    ⟨(some 17), .val (.mov (.t 16)), none⟩,
    ⟨(some 18), .val (.mov (.t 0)), (some (17, true))⟩,
    ⟨(some 19), .call (.f 23) [(.t 18)], (some (17, true))⟩,
    ⟨(some 20), .call (.f 25) [(.t 19)], (some (17, true))⟩,
    ⟨(some 21), .val (.mov (.t 0)), (some (17, true))⟩,
    ⟨(some 22), .val (.bin .num .eql (.t 20) (.t 21)), (some (17, true))⟩,
    ⟨(some 23), .val (.pick (.t 17) (.t 22) (.c (.bool false))), none⟩,
    ⟨(some 24), .val (.mov (.t 23)), none⟩,
    ⟨(some 25), .val (.mov (.t 1)), (some (24, true))⟩,
    ⟨(some 26), .call (.f 25) [(.t 25)], (some (24, true))⟩,
    ⟨(some 27), .call (.f 23) [(.t 26)], (some (24, true))⟩,
    ⟨(some 28), .val (.mov (.t 1)), (some (24, true))⟩,
    ⟨(some 29), .val (.bin .num .eql (.t 27) (.t 28)), (some (24, true))⟩,
    ⟨(some 30), .val (.pick (.t 24) (.t 29) (.c (.bool false))), none⟩,
    ⟨(some 31), .val (.mov (.t 30)), none⟩,
    ⟨(some 32), .call (.f 23) [(.c (.int .i64 1))], (some (31, true))⟩,
    ⟨(some 33), .val (.bin .num .eql (.t 32) (.c (.int .u64 2))), (some (31, true))⟩,
    ⟨(some 34), .val (.pick (.t 31) (.t 33) (.c (.bool false))), none⟩,
    ⟨(some 4), .val (.mov (.t 34)), none⟩]
def r3 : RC := .seq (.reg g3_0) (.seq (.reg g3_1) (.ret))
def o3 : List RR := [.tmp 4]
theorem k3 : chkC Try.prog 35 r3 (Try.f3.body.getD .skip) = true := by decide +kernel
theorem q3 : chkR Try.prog Try.f3.results.toList o3 = true := by decide +kernel

/- wireschema/wireschemalaw01.VarintGrows -/
def g4_0 : List Am.Item := [
    ⟨(some 2), .boxN 2 (.t 0), none⟩,
    ⟨(some 3), .boxN 3 (.t 1), none⟩,
    ⟨(some 4), .val (.mov (.c (.bool false))), none⟩]
def g4_1 : List Am.Item := [
    ⟨(some 7), .val (.iaddr 1 (some 2) (.t 2) (.c (.int .i64 0))), none⟩,
    ⟨(some 8), .val (.load none (.t 7)), none⟩,
    ⟨(some 9), .val (.iaddr 1 (some 2) (.t 2) (.c (.int .i64 1))), none⟩,
    ⟨(some 10), .val (.load none (.t 9)), none⟩,
    ⟨(some 11), .val (.mnx false (.t 8) (.t 10)), none⟩,
    ⟨(some 12), .call (.f 27) [(.t 11)], none⟩,
    ⟨(some 13), .val (.iaddr 1 (some 2) (.t 2) (.c (.int .i64 0))), none⟩,
    ⟨(some 14), .val (.load none (.t 13)), none⟩,
    ⟨(some 15), .val (.iaddr 1 (some 2) (.t 2) (.c (.int .i64 1))), none⟩,
    ⟨(some 16), .val (.load none (.t 15)), none⟩,
    ⟨(some 17), .val (.mnx true (.t 14) (.t 16)), none⟩,
    ⟨(some 18), .call (.f 27) [(.t 17)], none⟩,
    ⟨(some 5), .val (.mov (.t 12)), none⟩,
    ⟨(some 6), .val (.mov (.t 18)), none⟩]
def g4_2 : List Am.Item := [
    ⟨(some 19), .val (.mov (.t 5)), none⟩,
    ⟨(some 20), .val (.mov (.t 6)), none⟩,
    ⟨(some 21), .val (.bin .num .gtr (.t 19) (.t 20)), none⟩,
    ⟨(some 22), .val (.mov (.t 21)), none⟩,
    ⟨(some 23), .val (.mov (.t 5)), (some (22, false))⟩,
    ⟨(some 24), .val (.bin .num .lss (.t 23) (.c (.int .i64 1))), (some (22, false))⟩,
    ⟨(some 25), .val (.pick (.t 22) (.c (.bool true)) (.t 24)), none⟩,
    ⟨(some 26), .val (.mov (.t 25)), none⟩,
    ⟨(some 27), .val (.mov (.t 6)), (some (26, false))⟩,
    ⟨(some 28), .val (.bin .num .gtr (.t 27) (.c (.int .i64 10))), (some (26, false))⟩,
    ⟨(some 29), .val (.pick (.t 26) (.c (.bool true)) (.t 28)), none⟩]
def g4_3 : List Am.Item := [
    ⟨(some 4), .val (.mov (.c (.bool false))), none⟩]
def g4_4 : List Am.Item := [
    ⟨(some 30), .val (.iaddr 1 (some 2) (.t 3) (.c (.int .i64 0))), none⟩,
    ⟨(some 31), .val (.load none (.t 30)), none⟩,
    ⟨(some 32), .val (.iaddr 1 (some 2) (.t 3) (.c (.int .i64 1))), none⟩,
    ⟨(some 33), .val (.load none (.t 32)), none⟩,
    ⟨(some 34), .call (.f 28) [(.t 31), (.t 33)], none⟩,
    ⟨(some 35), .val (.un .not (.t 34)), none⟩,
    ⟨(some 36), .val (.mov (.t 35)), none⟩,
    ⟨(some 37), .val (.iaddr 1 (some 2) (.t 3) (.c (.int .i64 0))), (some (36, false))⟩,
    ⟨(some 38), .val (.load none (.t 37)), (some (36, false))⟩,
    ⟨(some 39), .call (.f 23) [(.t 38)], (some (36, false))⟩,
    ⟨(some 40), .call (.f 27) [(.t 39)], (some (36, false))⟩,
    ⟨(some 41), .val (.iaddr 1 (some 2) (.t 3) (.c (.int .i64 1))), (some (36, false))⟩,
    ⟨(some 42), .val (.load none (.t 41)), (some (36, false))⟩,
    ⟨(some 43), .call (.f 23) [(.t 42)], (some (36, false))⟩,
    ⟨(some 44), .call (.f 27) [(.t 43)], (some (36, false))⟩,
    ⟨(some 45), .val (.bin .num .leq (.t 40) (.t 44)), (some (36, false))⟩,
    ⟨(some 46), .val (.pick (.t 36) (.c (.bool true)) (.t 45)), none⟩,
    ⟨(some 4), .val (.mov (.t 46)), none⟩]
def r4 : RC := .seq (.reg g4_0) (.seq (.draw g4_1) (.seq (.seq (.reg g4_2) (.cond (.t 29) (.seq (.reg g4_3) (.ret)) (.skip))) (.seq (.draw g4_4) (.ret))))
def o4 : List RR := [.tmp 4]
theorem k4 : chkC Try.prog 47 r4 (Try.f4.body.getD .skip) = true := by decide +kernel
theorem q4 : chkR Try.prog Try.f4.results.toList o4 = true := by decide +kernel

/- wireschema/wireschemalaw01.VarintPuts -/
def g5_0 : List Am.Item := [
    ⟨(some 2), .val (.mov (.c (.bool false))), none⟩]
def g5_1 : List Am.Item := [
    ⟨(some 3), .val (.mov (.t 0)), none⟩,
    ⟨(some 4), .call (.f 29) [(.t 3)], none⟩,
    ⟨(some 5), .val (.mov (.t 0)), none⟩,
    ⟨(some 6), .call (.f 30) [(.t 5)], none⟩,
    ⟨(some 7), .val (.bin .str .eql (.t 4) (.t 6)), none⟩,
    ⟨(some 8), .val (.mov (.t 7)), none⟩,
    ⟨(some 9), .val (.mov (.t 0)), (some (8, true))⟩,
    ⟨(some 10), .call (.f 27) [(.t 9)], (some (8, true))⟩,
    ⟨(some 11), .val (.mov (.t 0)), (some (8, true))⟩,
    ⟨(some 12), .call (.f 31) [(.t 11)], (some (8, true))⟩,
    ⟨(some 13), .val (.bin .num .eql (.t 10) (.t 12)), (some (8, true))⟩,
    ⟨(some 14), .val (.pick (.t 8) (.t 13) (.c (.bool false))), none⟩,
    ⟨(some 2), .val (.mov (.t 14)), none⟩]
def r5 : RC := .seq (.reg g5_0) (.seq (.reg g5_1) (.ret))
def o5 : List RR := [.tmp 2]
theorem k5 : chkC Try.prog 15 r5 (Try.f5.body.getD .skip) = true := by decide +kernel
theorem q5 : chkR Try.prog Try.f5.results.toList o5 = true := by decide +kernel

/- wireschema/wireschemalaw01.VarintFixed -/
def g6_0 : List Am.Item := [
    ⟨(some 4), .val (.mov (.c (.bool false))), none⟩]
def g6_1 : List Am.Item := [
    ⟨(some 13), .val (.mov (.t 1)), none⟩,
    ⟨(some 14), .call (.f 32) [(.t 13)], none⟩,
    ⟨(some 12), .val (.mov (.t 14)), none⟩,
    ⟨(some 15), .val (.ext (.t 12) 0), none⟩,
    ⟨(some 16), .val (.ext (.t 12) 1), none⟩,
    ⟨(some 5), .val (.mov (.t 15)), none⟩,
    ⟨(some 6), .val (.mov (.t 16)), none⟩]
def g6_2 : List Am.Item := [
    ⟨(some 18), .val (.mov (.t 1)), none⟩,
    ⟨(some 19), .call (.f 33) [(.t 18)], none⟩,
    ⟨(some 17), .val (.mov (.t 19)), none⟩,
    ⟨(some 20), .val (.ext (.t 17) 0), none⟩,
    ⟨(some 21), .val (.ext (.t 17) 1), none⟩,
    ⟨(some 7), .val (.mov (.t 20)), none⟩,
    ⟨(some 8), .val (.mov (.t 21)), none⟩]
def g6_3 : List Am.Item := [
    ⟨(some 22), .val (.mov (.t 0)), none⟩,
    ⟨(some 23), .call (.f 34) [(.t 22)], none⟩,
    ⟨(some 9), .val (.mov (.t 23)), none⟩]
def g6_4 : List Am.Item := [
    ⟨(some 25), .val (.mov (.t 9)), none⟩,
    ⟨(some 26), .val (.mov (.t 1)), none⟩,
    ⟨(some 27), .val (.bin .str .add (.t 25) (.t 26)), none⟩,
    ⟨(some 28), .call (.f 32) [(.t 27)], none⟩,
    ⟨(some 24), .val (.mov (.t 28)), none⟩,
    ⟨(some 29), .val (.ext (.t 24) 0), none⟩,
    ⟨(some 30), .val (.ext (.t 24) 1), none⟩,
    ⟨(some 10), .val (.mov (.t 29)), none⟩,
    ⟨(some 11), .val (.mov (.t 30)), none⟩]
def g6_5 : List Am.Item := [
    ⟨(some 31), .val (.mov (.t 9)), none⟩,
    ⟨(some 32), .val (.mov (.t 0)), none⟩,
    ⟨(some 33), .call (.f 35) [(.t 32)], none⟩,
    ⟨(some 34), .val (.bin .str .eql (.t 31) (.t 33)), none⟩,
    ⟨(some 35), .val (.mov (.t 34)), none⟩,
    ⟨(some 36), .val (.mov (.t 5)), (some (35, true))⟩,
    ⟨(some 37), .val (.mov (.t 7)), (some (35, true))⟩,
    ⟨(some 38), .val (.bin .num .eql (.t 36) (.t 37)), (some (35, true))⟩,
    ⟨(some 39), .val (.pick (.t 35) (.t 38) (.c (.bool false))), none⟩,
    ⟨(some 40), .val (.mov (.t 39)), none⟩,
    ⟨(some 41), .val (.mov (.t 6)), (some (40, true))⟩,
    ⟨(some 42), .val (.mov (.t 8)), (some (40, true))⟩,
    ⟨(some 43), .val (.bin .num .eql (.t 41) (.t 42)), (some (40, true))⟩,
    ⟨(some 44), .val (.pick (.t 40) (.t 43) (.c (.bool false))), none⟩,
    ⟨(some 45), .val (.mov (.t 44)), none⟩,
    ⟨(some 46), .val (.mov (.t 10)), (some (45, true))⟩,
    ⟨(some 47), .val (.mov (.t 0)), (some (45, true))⟩,
    ⟨(some 48), .val (.bin .num .eql (.t 46) (.t 47)), (some (45, true))⟩,
    ⟨(some 49), .val (.pick (.t 45) (.t 48) (.c (.bool false))), none⟩,
    ⟨(some 50), .val (.mov (.t 49)), none⟩,
    ⟨(some 51), .val (.mov (.t 11)), (some (50, true))⟩,
    ⟨(some 52), .val (.bin .num .eql (.t 51) (.c (.int .i64 0))), (some (50, true))⟩,
    ⟨(some 53), .val (.pick (.t 50) (.t 52) (.c (.bool false))), none⟩,
    ⟨(some 4), .val (.mov (.t 53)), none⟩]
def r6 : RC := .seq (.reg g6_0) (.seq (.reg g6_1) (.seq (.reg g6_2) (.seq (.reg g6_3) (.seq (.reg g6_4) (.seq (.reg g6_5) (.ret))))))
def o6 : List RR := [.tmp 4]
theorem k6 : chkC Try.prog 54 r6 (Try.f6.body.getD .skip) = true := by decide +kernel
theorem q6 : chkR Try.prog Try.f6.results.toList o6 = true := by decide +kernel

/- wireschema/wireschemalaw01.VarintTakes -/
def g7_0 : List Am.Item := [
    ⟨(some 2), .val (.mov (.c (.bool false))), none⟩]
def g7_1 : List Am.Item := [
    ⟨(some 10), .val (.mov (.t 0)), none⟩,
    ⟨(some 11), .call (.f 36) [(.t 10)], none⟩,
    ⟨(some 9), .val (.mov (.t 11)), none⟩,
    ⟨(some 12), .val (.ext (.t 9) 0), none⟩,
    ⟨(some 13), .val (.ext (.t 9) 1), none⟩,
    ⟨(some 14), .val (.ext (.t 9) 2), none⟩,
    ⟨(some 3), .val (.mov (.t 12)), none⟩,
    ⟨(some 4), .val (.mov (.t 13)), none⟩,
    ⟨(some 5), .val (.mov (.t 14)), none⟩]
def g7_2 : List Am.Item := [
    ⟨(some 16), .val (.mov (.t 0)), none⟩,
    ⟨(some 17), .call (.f 37) [(.t 16)], none⟩,
    ⟨(some 15), .val (.mov (.t 17)), none⟩,
    ⟨(some 18), .val (.ext (.t 15) 0), none⟩,
    ⟨(some 19), .val (.ext (.t 15) 1), none⟩,
    ⟨(some 20), .val (.ext (.t 15) 2), none⟩,
    ⟨(some 6), .val (.mov (.t 18)), none⟩,
    ⟨(some 7), .val (.mov (.t 19)), none⟩,
    ⟨(some 8), .val (.mov (.t 20)), none⟩]
def g7_3 : List Am.Item := [
    ⟨(some 21), .val (.mov (.t 3)), none⟩,
    ⟨(some 22), .val (.mov (.t 6)), none⟩,
    ⟨(some 23), .val (.bin .num .eql (.t 21) (.t 22)), none⟩,
    ⟨(some 24), .val (.mov (.t 23)), none⟩,
    ⟨(some 25), .val (.mov (.t 4)), (some (24, true))⟩,
    ⟨(some 26), .val (.mov (.t 7)), (some (24, true))⟩,
    ⟨(some 27), .val (.bin .num .eql (.t 25) (.t 26)), (some (24, true))⟩,
    ⟨(some 28), .val (.pick (.t 24) (.t 27) (.c (.bool false))), none⟩,
    ⟨(some 29), .val (.mov (.t 28)), none⟩,
    ⟨(some 30), .val (.mov (.t 5)), (some (29, true))⟩,
    ⟨(some 31), .val (.mov (.t 8)), (some (29, true))⟩,
    ⟨(some 32), .val (.bin .num .eql (.t 30) (.t 31)), (some (29, true))⟩,
    ⟨(some 33), .val (.pick (.t 29) (.t 32) (.c (.bool false))), none⟩,
    ⟨(some 34), .val (.mov (.t 33)), none⟩,
    ⟨(some 35), .val (.mov (.t 0)), (some (34, true))⟩,
    ⟨(some 36), .call (.f 38) [(.t 35)], (some (34, true))⟩,
    ⟨(some 37), .val (.mov (.t 0)), (some (34, true))⟩,
    ⟨(some 38), .call (.f 39) [(.t 37)], (some (34, true))⟩,
    ⟨(some 39), .val (.bin .bool .eql (.t 36) (.t 38)), (some (34, true))⟩,
    ⟨(some 40), .val (.pick (.t 34) (.t 39) (.c (.bool false))), none⟩,
    ⟨(some 41), .val (.mov (.t 40)), none⟩,
    ⟨(some 42), .call (.f 27) [(.c (.int .u64 0))], (some (41, true))⟩,
    ⟨(some 43), .val (.bin .num .eql (.t 42) (.c (.int .i64 1))), (some (41, true))⟩,
    ⟨(some 44), .val (.pick (.t 41) (.t 43) (.c (.bool false))), none⟩,
    ⟨(some 2), .val (.mov (.t 44)), none⟩]
def r7 : RC := .seq (.reg g7_0) (.seq (.reg g7_1) (.seq (.reg g7_2) (.seq (.reg g7_3) (.ret))))
def o7 : List RR := [.tmp 2]
theorem k7 : chkC Try.prog 45 r7 (Try.f7.body.getD .skip) = true := by decide +kernel
theorem q7 : chkR Try.prog Try.f7.results.toList o7 = true := by decide +kernel

/- wireschema/wireschemalaw01.VarintRoundTrips -/
def g9_0 : List Am.Item := [
    ⟨(some 4), .val (.mov (.c (.bool false))), none⟩]
def g9_1 : List Am.Item := [
    ⟨(some 9), .val (.mov (.t 0)), none⟩,
    ⟨(some 10), .call (.f 29) [(.t 9)], none⟩,
    ⟨(some 5), .val (.mov (.t 10)), none⟩]
def g9_2 : List Am.Item := [
    ⟨(some 12), .val (.mov (.t 5)), none⟩,
    ⟨(some 13), .val (.mov (.t 1)), none⟩,
    ⟨(some 14), .val (.bin .str .add (.t 12) (.t 13)), none⟩,
    ⟨(some 15), .call (.f 36) [(.t 14)], none⟩,
    ⟨(some 11), .val (.mov (.t 15)), none⟩,
    ⟨(some 16), .val (.ext (.t 11) 0), none⟩,
    ⟨(some 17), .val (.ext (.t 11) 1), none⟩,
    ⟨(some 18), .val (.ext (.t 11) 2), none⟩,
    ⟨(some 6), .val (.mov (.t 16)), none⟩,
    ⟨(some 7), .val (.mov (.t 17)), none⟩,
    ⟨(some 8), .val (.mov (.t 18)), none⟩]
def g9_3 : List Am.Item := [
    ⟨(some 19), .val (.mov (.t 6)), none⟩,
    ⟨(some 20), .val (.mov (.t 0)), none⟩,
    ⟨(some 21), .val (.bin .num .neq (.t 19) (.t 20)), none⟩,
    ⟨(some 22), .val (.mov (.t 21)), none⟩,
    ⟨(some 23), .val (.mov (.t 7)), (some (22, false))⟩,
    ⟨(some 24), .val (.mov (.t 5)), (some (22, false))⟩,
    ⟨(some 25), .val (.len 0 (.t 24)), (some (22, false))⟩,
    ⟨(some 26), .val (.bin .num .neq (.t 23) (.t 25)), (some (22, false))⟩,
    ⟨(some 27), .val (.pick (.t 22) (.c (.bool true)) (.t 26)), none⟩,
    ⟨(some 28), .val (.mov (.t 27)), none⟩,
    ⟨(some 29), .val (.mov (.t 7)), (some (28, false))⟩,
    ⟨(some 30), .val (.mov (.t 0)), (some (28, false))⟩,
    ⟨(some 31), .call (.f 27) [(.t 30)], (some (28, false))⟩,
    ⟨(some 32), .val (.bin .num .neq (.t 29) (.t 31)), (some (28, false))⟩,
    ⟨(some 33), .val (.pick (.t 28) (.c (.bool true)) (.t 32)), none⟩,
    ⟨(some 34), .val (.mov (.t 33)), none⟩,
    ⟨(some 35), .val (.mov (.t 8)), (some (34, false))⟩,
    ⟨(some 36), .val (.bin .num .neq (.t 35) (.c (.int .i64 0))), (some (34, false))⟩,
    ⟨(some 37), .val (.pick (.t 34) (.c (.bool true)) (.t 36)), none⟩,
    ⟨(some 38), .val (.mov (.t 37)), none⟩,
    ⟨(some 39), .val (.mov (.t 5)), (some (38, false))⟩,
    ⟨(some 40), .call (.f 38) [(.t 39)], (some (38, false))⟩,
    ⟨(some 41), .val (.un .not (.t 40)), (some (38, false))⟩,
    ⟨(some 42), .val (.pick (.t 38) (.c (.bool true)) (.t 41)), none⟩]
def g9_4 : List Am.Item := [
    ⟨(some 4), .val (.mov (.c (.bool false))), none⟩]
def g9_5 : List Am.Item := [
    ⟨(some 43), .val (.mov (.t 1)), none⟩,
    ⟨(some 44), .call (.f 38) [(.t 43)], none⟩,
    ⟨(some 45), .val (.mov (.t 1)), none⟩,
    ⟨(some 46), .val (.mov (.t 5)), none⟩,
    ⟨(some 47), .val (.bin .str .eql (.t 45) (.t 46)), none⟩,
    ⟨(some 48), .val (.bin .bool .eql (.t 44) (.t 47)), none⟩,
    ⟨(some 49), .val (.mov (.t 48)), none⟩,
    ⟨(some 50), .val (.mov (.t 1)), (some (49, false))⟩,
    ⟨(some 51), .call (.f 40) [(.t 50)], (some (49, false))⟩,
    ⟨(some 52), .call (.f 29) [(.t 51)], (some (49, false))⟩,
    ⟨(some 53), .val (.mov (.t 5)), (some (49, false))⟩,
    ⟨(some 54), .val (.bin .str .neq (.t 52) (.t 53)), (some (49, false))⟩,
    ⟨(some 55), .val (.pick (.t 49) (.c (.bool true)) (.t 54)), none⟩,
    ⟨(some 4), .val (.mov (.t 55)), none⟩]
def r9 : RC := .seq (.reg g9_0) (.seq (.reg g9_1) (.seq (.reg g9_2) (.seq (.seq (.reg g9_3) (.cond (.t 42) (.seq (.reg g9_4) (.ret)) (.skip))) (.seq (.reg g9_5) (.ret)))))
def o9 : List RR := [.tmp 4]
theorem k9 : chkC Try.prog 56 r9 (Try.f9.body.getD .skip) = true := by decide +kernel
theorem q9 : chkR Try.prog Try.f9.results.toList o9 = true := by decide +kernel

end Go.Proofs.Ytmgpiglpakideaa.Rc

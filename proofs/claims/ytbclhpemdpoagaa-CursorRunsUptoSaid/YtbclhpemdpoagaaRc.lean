/- The code of functions of the program, as the abstract machine has it. -/
import Derived.Test.YtbclhpemdpoagaaAmr
import Derived.Test.YtbclhpemdpoagaaProg
namespace Go.Proofs.Ytbclhpemdpoagaa.Rc
open Go Am

/- wireschema/varint.Put -/
def g20_0 : List Am.Item := [
    ⟨(some 2), .val (.mov (.c (.str []))), none⟩]
def g20_1 : List Am.Item := [
    ⟨(some 3), .val (.mov (.c (.nils))), none⟩]
def g20_2 : List Am.Item := [
    ⟨(some 4), .val (.mov (.t 0)), none⟩,
    ⟨(some 5), .val (.bin .num .geq (.t 4) (.c (.int .u64 128))), none⟩]
def g20_3 : List Am.Item := [
    ⟨(some 6), .val (.mov (.t 3)), none⟩,
    ⟨(some 7), .val (.mov (.t 0)), none⟩,
    ⟨(some 8), .val (.cvi .u8 (.t 7)), none⟩,
    ⟨(some 9), .val (.bin .num .or (.t 8) (.c (.int .u8 128))), none⟩,
    ⟨(some 10), .bsl 1 1 [.int .u8 0] [(0, 1, (.t 9))], none⟩,
    ⟨(some 11), .app 1 1 5 (.t 6) (.t 10), none⟩,
    ⟨(some 3), .val (.mov (.t 11)), none⟩]
def g20_4 : List Am.Item := [
    ⟨(some 12), .val (.mov (.t 0)), none⟩,
    ⟨(some 13), .val (.bin .num .shr (.t 12) (.c (.int .u64 7))), none⟩,
    ⟨(some 0), .val (.mov (.t 13)), none⟩]
def l20_0 : RC := .seq (.seq (.reg g20_2) (.cond (.t 5) (.skip) (.exit 0))) (.block 1 (.seq (.reg g20_3) (.reg g20_4)))
def g20_5 : List Am.Item := [
    ⟨(some 14), .val (.mov (.t 3)), none⟩,
    ⟨(some 15), .val (.mov (.t 0)), none⟩,
    ⟨(some 16), .val (.cvi .u8 (.t 15)), none⟩,
    ⟨(some 17), .bsl 1 1 [.int .u8 0] [(0, 1, (.t 16))], none⟩,
    ⟨(some 18), .app 1 1 5 (.t 14) (.t 17), none⟩,
    ⟨(some 19), .val (.b2s (.t 18)), none⟩,
    ⟨(some 2), .val (.mov (.t 19)), none⟩]
def r20 : RC := .seq (.reg g20_0) (.seq (.reg g20_1) (.gho (.vec 3 3 1) (.seq (.block 0 (.loop l20_0)) (.seq (.reg g20_5) (.ret)))))
def o20 : List RR := [.tmp 2]
theorem k20 : chkC Try.prog 20 r20 (Try.f20.body.getD .skip) = true := by decide +kernel
theorem q20 : chkR Try.prog Try.f20.results.toList o20 = true := by decide +kernel

/- wireschema/varint.Take -/
def g32_0 : List Am.Item := [
    ⟨(some 2), .val (.mov (.c (.int .u64 0))), none⟩,
    ⟨(some 3), .val (.mov (.c (.int .i64 0))), none⟩,
    ⟨(some 4), .val (.mov (.c (.int .i64 0))), none⟩]
def g32_1 : List Am.Item := [
    ⟨(some 5), .val (.mov (.c (.int .u64 0))), none⟩]
def g32_2 : List Am.Item := [
    ⟨(some 6), .val (.mov (.c (.int .i64 0))), none⟩]
def g32_3 : List Am.Item := [
    ⟨(some 8), .val (.mov (.t 6)), none⟩,
    ⟨(some 9), .val (.mov (.t 0)), none⟩,
    ⟨(some 10), .val (.len 0 (.t 9)), none⟩,
    ⟨(some 11), .val (.bin .num .eql (.t 8) (.t 10)), none⟩]
def g32_4 : List Am.Item := [
    ⟨(some 2), .val (.mov (.c (.int .u64 0))), none⟩,
    ⟨(some 3), .val (.mov (.c (.int .i64 0))), none⟩,
    ⟨(some 4), .val (.mov (.c (.int .i64 4))), none⟩]
def g32_5 : List Am.Item := [
    ⟨(some 12), .val (.mov (.t 0)), none⟩,
    ⟨(some 13), .val (.mov (.t 6)), none⟩,
    ⟨(some 14), .val (.idx (.t 12) (.t 13)), none⟩,
    ⟨(some 7), .val (.mov (.t 14)), none⟩]
def g32_6 : List Am.Item := [
    ⟨(some 15), .val (.mov (.t 6)), none⟩,
    ⟨(some 16), .val (.bin .num .eql (.t 15) (.c (.int .i64 9))), none⟩,
    ⟨(some 17), .val (.mov (.t 16)), none⟩,
    ⟨(some 18), .val (.mov (.t 7)), (some (17, true))⟩,
    ⟨(some 19), .val (.bin .num .gtr (.t 18) (.c (.int .u8 1))), (some (17, true))⟩,
    ⟨(some 20), .val (.pick (.t 17) (.t 19) (.c (.bool false))), none⟩]
def g32_7 : List Am.Item := [
    ⟨(some 2), .val (.mov (.c (.int .u64 0))), none⟩,
    ⟨(some 3), .val (.mov (.c (.int .i64 0))), none⟩,
    ⟨(some 4), .val (.mov (.c (.int .i64 6))), none⟩]
def g32_8 : List Am.Item := [
    ⟨(some 21), .val (.mov (.t 5)), none⟩,
    ⟨(some 22), .val (.mov (.t 7)), none⟩,
    ⟨(some 23), .val (.bin .num .and (.t 22) (.c (.int .u8 127))), none⟩,
    ⟨(some 24), .val (.cvi .u64 (.t 23)), none⟩,
    ⟨(some 25), .val (.mov (.t 6)), none⟩,
    ⟨(some 26), .val (.bin .num .mul (.c (.int .i64 7)) (.t 25)), none⟩,
    ⟨(some 27), .val (.bin .num .shl (.t 24) (.t 26)), none⟩,
    ⟨(some 28), .val (.bin .num .or (.t 21) (.t 27)), none⟩,
    ⟨(some 5), .val (.mov (.t 28)), none⟩]
def g32_9 : List Am.Item := [
    ⟨(some 29), .val (.mov (.t 6)), none⟩,
    ⟨(some 30), .val (.bin .num .add (.t 29) (.c (.int .i64 1))), none⟩,
    ⟨(some 6), .val (.mov (.t 30)), none⟩]
def g32_10 : List Am.Item := [
    ⟨(some 32), .val (.mov (.t 7)), none⟩,
    ⟨(some 33), .val (.bin .num .lss (.t 32) (.c (.int .u8 128))), none⟩,
    ⟨(some 31), .val (.mov (.t 33)), none⟩]
def l32_0 : RC := .block 1 (.seq (.seq (.reg g32_3) (.cond (.t 11) (.seq (.reg g32_4) (.ret)) (.skip))) (.seq (.reg g32_5) (.seq (.seq (.reg g32_6) (.cond (.t 20) (.seq (.reg g32_7) (.ret)) (.skip))) (.seq (.reg g32_8) (.seq (.reg g32_9) (.block 2 (.seq (.reg g32_10) (.cond (.t 31) (.exit 0) (.skip)))))))))
def g32_11 : List Am.Item := [
    ⟨(some 34), .val (.mov (.t 5)), none⟩,
    ⟨(some 35), .val (.mov (.t 6)), none⟩,
    ⟨(some 2), .val (.mov (.t 34)), none⟩,
    ⟨(some 3), .val (.mov (.t 35)), none⟩,
    ⟨(some 4), .val (.mov (.c (.int .i64 0))), none⟩]
def r32 : RC := .seq (.reg g32_0) (.scope (.seq (.reg g32_1) (.seq (.reg g32_2) (.seq (.lab) (.seq (.block 0 (.loop l32_0)) (.seq (.reg g32_11) (.ret)))))))
def o32 : List RR := [.tmp 2, .tmp 3, .tmp 4]
theorem k32 : chkC Try.prog 36 r32 (Try.f32.body.getD .skip) = true := by decide +kernel
theorem q32 : chkR Try.prog Try.f32.results.toList o32 = true := by decide +kernel

/- wireschema/wireschemaref01.Take -/
def g42_0 : List Am.Item := [
    ⟨(some 2), .val (.mov (.c (.int .u64 0))), none⟩,
    ⟨(some 3), .val (.mov (.c (.int .i64 0))), none⟩,
    ⟨(some 4), .val (.mov (.c (.int .i64 0))), none⟩]
def g42_1 : List Am.Item := [
    ⟨(some 5), .val (.mov (.c (.int .u64 0))), none⟩,
    ⟨(some 6), .val (.mov (.c (.int .u64 1))), none⟩]
def g42_2 : List Am.Item := [
    ⟨(some 7), .val (.mov (.c (.int .i64 0))), none⟩]
def g42_3 : List Am.Item := [
    ⟨(some 9), .val (.mov (.t 7)), none⟩,
    ⟨(some 10), .val (.bin .num .lss (.t 9) (.c (.int .i64 10))), none⟩]
def g42_5 : List Am.Item := [
    ⟨(some 13), .val (.mov (.t 7)), none⟩,
    ⟨(some 14), .val (.mov (.t 0)), none⟩,
    ⟨(some 15), .val (.len 0 (.t 14)), none⟩,
    ⟨(some 16), .val (.bin .num .geq (.t 13) (.t 15)), none⟩]
def g42_6 : List Am.Item := [
    ⟨(some 2), .val (.mov (.c (.int .u64 0))), none⟩,
    ⟨(some 3), .val (.mov (.c (.int .i64 0))), none⟩,
    ⟨(some 4), .val (.mov (.c (.int .i64 4))), none⟩]
def g42_7 : List Am.Item := [
    ⟨(some 17), .val (.mov (.t 0)), none⟩,
    ⟨(some 18), .val (.mov (.t 7)), none⟩,
    ⟨(some 19), .val (.idx (.t 17) (.t 18)), none⟩,
    ⟨(some 20), .val (.cvi .u64 (.t 19)), none⟩,
    ⟨(some 8), .val (.mov (.t 20)), none⟩]
def g42_8 : List Am.Item := [
    ⟨(some 21), .val (.mov (.t 7)), none⟩,
    ⟨(some 22), .val (.bin .num .eql (.t 21) (.c (.int .i64 9))), none⟩,
    ⟨(some 23), .val (.mov (.t 22)), none⟩,
    ⟨(some 24), .val (.mov (.t 8)), (some (23, true))⟩,
    ⟨(some 25), .val (.bin .num .gtr (.t 24) (.c (.int .u64 1))), (some (23, true))⟩,
    ⟨(some 26), .val (.pick (.t 23) (.t 25) (.c (.bool false))), none⟩]
def g42_9 : List Am.Item := [
    ⟨(some 2), .val (.mov (.c (.int .u64 0))), none⟩,
    ⟨(some 3), .val (.mov (.c (.int .i64 0))), none⟩,
    ⟨(some 4), .val (.mov (.c (.int .i64 6))), none⟩]
def g42_10 : List Am.Item := [
    ⟨(some 27), .val (.mov (.t 5)), none⟩,
    ⟨(some 28), .val (.mov (.t 8)), none⟩,
    ⟨(some 29), .val (.bin .num .rem (.t 28) (.c (.int .u64 128))), none⟩,
    ⟨(some 30), .val (.mov (.t 6)), none⟩,
    ⟨(some 31), .val (.bin .num .mul (.t 29) (.t 30)), none⟩,
    ⟨(some 32), .val (.bin .num .add (.t 27) (.t 31)), none⟩,
    ⟨(some 5), .val (.mov (.t 32)), none⟩]
def g42_11 : List Am.Item := [
    ⟨(some 33), .val (.mov (.t 8)), none⟩,
    ⟨(some 34), .val (.bin .num .lss (.t 33) (.c (.int .u64 128))), none⟩]
def g42_12 : List Am.Item := [
    ⟨(some 35), .val (.mov (.t 5)), none⟩,
    ⟨(some 36), .val (.mov (.t 7)), none⟩,
    ⟨(some 37), .val (.bin .num .add (.t 36) (.c (.int .i64 1))), none⟩,
    ⟨(some 2), .val (.mov (.t 35)), none⟩,
    ⟨(some 3), .val (.mov (.t 37)), none⟩,
    ⟨(some 4), .val (.mov (.c (.int .i64 0))), none⟩]
def g42_13 : List Am.Item := [
    ⟨(some 38), .val (.mov (.t 6)), none⟩,
    ⟨(some 39), .val (.bin .num .mul (.t 38) (.c (.int .u64 128))), none⟩,
    ⟨(some 6), .val (.mov (.t 39)), none⟩]
def g42_4 : List Am.Item := [
    ⟨(some 11), .val (.mov (.t 7)), none⟩,
    ⟨(some 12), .val (.bin .num .add (.t 11) (.c (.int .i64 1))), none⟩,
    ⟨(some 7), .val (.mov (.t 12)), none⟩]
def l42_0 : RC := .seq (.seq (.reg g42_3) (.cond (.t 10) (.skip) (.exit 0))) (.seq (.block 1 (.seq (.seq (.reg g42_5) (.cond (.t 16) (.seq (.reg g42_6) (.ret)) (.skip))) (.seq (.reg g42_7) (.seq (.seq (.reg g42_8) (.cond (.t 26) (.seq (.reg g42_9) (.ret)) (.skip))) (.seq (.reg g42_10) (.seq (.seq (.reg g42_11) (.cond (.t 34) (.seq (.reg g42_12) (.ret)) (.skip))) (.reg g42_13))))))) (.reg g42_4))
def g42_14 : List Am.Item := [
    ⟨(some 2), .val (.mov (.c (.int .u64 0))), none⟩,
    ⟨(some 3), .val (.mov (.c (.int .i64 0))), none⟩,
    ⟨(some 4), .val (.mov (.c (.int .i64 6))), none⟩]
def r42 : RC := .seq (.reg g42_0) (.seq (.reg g42_1) (.seq (.seq (.reg g42_2) (.block 0 (.loop l42_0))) (.seq (.reg g42_14) (.ret))))
def o42 : List RR := [.tmp 2, .tmp 3, .tmp 4]
theorem k42 : chkC Try.prog 40 r42 (Try.f42.body.getD .skip) = true := by decide +kernel
theorem q42 : chkR Try.prog Try.f42.results.toList o42 = true := by decide +kernel

/- wireschema/varint.Fixed -/
def g21_0 : List Am.Item := [
    ⟨(some 2), .val (.mov (.c (.str []))), none⟩]
def g21_1 : List Am.Item := [
    ⟨(some 5), .mk 5 5 1 1 [.int .u8 0] (.c (.int .i64 8)) (.c (.int .i64 8)), none⟩,
    ⟨(some 3), .val (.mov (.t 5)), none⟩]
def g21_2 : List Am.Item := [
    ⟨(some 6), .val (.mov (.t 3)), none⟩,
    ⟨(some 7), .val (.len 1 (.t 6)), none⟩,
    ⟨(some 8), .val (.mov (.c (.int .i64 0))), none⟩]
def g21_3 : List Am.Item := [
    ⟨(some 9), .val (.bin .num .lss (.t 8) (.t 7)), none⟩]
def g21_4 : List Am.Item := [
    ⟨(some 10), .val (.mov (.t 8)), none⟩,
    ⟨(some 4), .val (.mov (.t 10)), none⟩]
def g21_5 : List Am.Item := [
    ⟨(some 11), .val (.mov (.t 3)), none⟩,
    ⟨(some 12), .val (.mov (.t 4)), none⟩,
    ⟨(some 13), .val (.mov (.t 0)), none⟩,
    ⟨(some 14), .val (.mov (.t 4)), none⟩,
    ⟨(some 15), .val (.bin .num .mul (.c (.int .i64 8)) (.t 14)), none⟩,
    ⟨(some 16), .val (.bin .num .shr (.t 13) (.t 15)), none⟩,
    ⟨(some 17), .val (.cvi .u8 (.t 16)), none⟩,
    ⟨(some 18), .val (.iaddr 1 none (.t 11) (.t 12)), none⟩,
    ⟨none, .store 1 (.t 18) (.t 17), none⟩]
def g21_6 : List Am.Item := [
    ⟨(some 19), .val (.bin .num .add (.t 8) (.c (.int .i64 1))), none⟩,
    ⟨(some 8), .val (.mov (.t 19)), none⟩]
def l21_0 : RC := .seq (.reg g21_3) (.seq (.cond (.t 9) (.skip) (.exit 0)) (.seq (.block 1 (.seq (.reg g21_4) (.reg g21_5))) (.reg g21_6)))
def g21_7 : List Am.Item := [
    ⟨(some 20), .val (.mov (.t 3)), none⟩,
    ⟨(some 21), .val (.b2s (.t 20)), none⟩,
    ⟨(some 2), .val (.mov (.t 21)), none⟩]
def r21 : RC := .seq (.reg g21_0) (.seq (.reg g21_1) (.seq (.seq (.reg g21_2) (.block 0 (.loop l21_0))) (.seq (.reg g21_7) (.ret))))
def o21 : List RR := [.tmp 2]
theorem k21 : chkC Try.prog 22 r21 (Try.f21.body.getD .skip) = true := by decide +kernel
theorem q21 : chkR Try.prog Try.f21.results.toList o21 = true := by decide +kernel

/- wireschema/varint.TakeFixed -/
def g34_0 : List Am.Item := [
    ⟨(some 2), .val (.mov (.c (.int .u64 0))), none⟩,
    ⟨(some 3), .val (.mov (.c (.int .i64 0))), none⟩]
def g34_1 : List Am.Item := [
    ⟨(some 6), .val (.mov (.t 0)), none⟩,
    ⟨(some 7), .val (.len 0 (.t 6)), none⟩,
    ⟨(some 8), .val (.bin .num .lss (.t 7) (.c (.int .i64 8))), none⟩]
def g34_2 : List Am.Item := [
    ⟨(some 2), .val (.mov (.c (.int .u64 0))), none⟩,
    ⟨(some 3), .val (.mov (.c (.int .i64 4))), none⟩]
def g34_3 : List Am.Item := [
    ⟨(some 4), .val (.mov (.c (.int .u64 0))), none⟩]
def g34_4 : List Am.Item := [
    ⟨(some 9), .val (.mov (.c (.int .i64 0))), none⟩]
def g34_5 : List Am.Item := [
    ⟨(some 10), .val (.bin .num .lss (.t 9) (.c (.int .i64 8))), none⟩]
def g34_6 : List Am.Item := [
    ⟨(some 11), .val (.mov (.t 9)), none⟩,
    ⟨(some 5), .val (.mov (.t 11)), none⟩]
def g34_7 : List Am.Item := [
    ⟨(some 12), .val (.mov (.t 4)), none⟩,
    ⟨(some 13), .val (.mov (.t 0)), none⟩,
    ⟨(some 14), .val (.mov (.t 5)), none⟩,
    ⟨(some 15), .val (.idx (.t 13) (.t 14)), none⟩,
    ⟨(some 16), .val (.cvi .u64 (.t 15)), none⟩,
    ⟨(some 17), .val (.mov (.t 5)), none⟩,
    ⟨(some 18), .val (.bin .num .mul (.c (.int .i64 8)) (.t 17)), none⟩,
    ⟨(some 19), .val (.bin .num .shl (.t 16) (.t 18)), none⟩,
    ⟨(some 20), .val (.bin .num .or (.t 12) (.t 19)), none⟩,
    ⟨(some 4), .val (.mov (.t 20)), none⟩]
def g34_8 : List Am.Item := [
    ⟨(some 21), .val (.bin .num .add (.t 9) (.c (.int .i64 1))), none⟩,
    ⟨(some 9), .val (.mov (.t 21)), none⟩]
def l34_0 : RC := .seq (.reg g34_5) (.seq (.cond (.t 10) (.skip) (.exit 0)) (.seq (.block 1 (.seq (.reg g34_6) (.reg g34_7))) (.reg g34_8)))
def g34_9 : List Am.Item := [
    ⟨(some 22), .val (.mov (.t 4)), none⟩,
    ⟨(some 2), .val (.mov (.t 22)), none⟩,
    ⟨(some 3), .val (.mov (.c (.int .i64 0))), none⟩]
def r34 : RC := .seq (.reg g34_0) (.seq (.seq (.reg g34_1) (.cond (.t 8) (.seq (.reg g34_2) (.ret)) (.skip))) (.seq (.reg g34_3) (.seq (.seq (.reg g34_4) (.block 0 (.loop l34_0))) (.seq (.reg g34_9) (.ret)))))
def o34 : List RR := [.tmp 2, .tmp 3]
theorem k34 : chkC Try.prog 23 r34 (Try.f34.body.getD .skip) = true := by decide +kernel
theorem q34 : chkR Try.prog Try.f34.results.toList o34 = true := by decide +kernel

/- wireschema/cursor.Open -/
def g9_0 : List Am.Item := [
    ⟨(some 3), .boxN 3 (.t 1), none⟩,
    ⟨(some 4), .allocN 4 [.str [], .int .i64 0, .int .i64 0, .int .i64 0, .int .i64 0, .int .i64 0], none⟩,
    ⟨(some 5), .val (.mov (.c (.int .i64 0))), none⟩]
def g9_1 : List Am.Item := [
    ⟨(some 7), .val (.faddr 0 (.t 3)), none⟩,
    ⟨(some 8), .val (.load none (.t 7)), none⟩,
    ⟨(some 9), .val (.bin .num .lss (.t 8) (.c (.int .i64 0))), none⟩,
    ⟨(some 10), .val (.mov (.t 9)), none⟩,
    ⟨(some 11), .val (.faddr 1 (.t 3)), (some (10, false))⟩,
    ⟨(some 12), .val (.load none (.t 11)), (some (10, false))⟩,
    ⟨(some 13), .val (.bin .num .lss (.t 12) (.c (.int .i64 0))), (some (10, false))⟩,
    ⟨(some 14), .val (.pick (.t 10) (.c (.bool true)) (.t 13)), none⟩,
    ⟨(some 15), .val (.mov (.t 14)), none⟩,
    ⟨(some 16), .val (.faddr 2 (.t 3)), (some (15, false))⟩,
    ⟨(some 17), .val (.load none (.t 16)), (some (15, false))⟩,
    ⟨(some 18), .val (.bin .num .lss (.t 17) (.c (.int .i64 0))), (some (15, false))⟩,
    ⟨(some 19), .val (.pick (.t 15) (.c (.bool true)) (.t 18)), none⟩,
    ⟨(some 20), .val (.mov (.t 19)), none⟩,
    ⟨(some 21), .val (.faddr 3 (.t 3)), (some (20, false))⟩,
    ⟨(some 22), .val (.load none (.t 21)), (some (20, false))⟩,
    ⟨(some 23), .val (.bin .num .lss (.t 22) (.c (.int .i64 0))), (some (20, false))⟩,
    ⟨(some 24), .val (.pick (.t 20) (.c (.bool true)) (.t 23)), none⟩,
    ⟨(some 6), .val (.mov (.t 24)), none⟩]
def g9_2 : List Am.Item := [
    ⟨(some 25), .val (.build [.str [], .int .i64 0, .int .i64 0, .int .i64 0, .int .i64 0, .int .i64 0] []), none⟩,
    ⟨none, .store 6 (.t 4) (.t 25), none⟩,
    ⟨(some 5), .val (.mov (.c (.int .i64 1))), none⟩]
def g9_3 : List Am.Item := [
    ⟨(some 27), .val (.mov (.t 0)), none⟩,
    ⟨(some 28), .val (.len 0 (.t 27)), none⟩,
    ⟨(some 29), .val (.faddr 0 (.t 3)), none⟩,
    ⟨(some 30), .val (.load none (.t 29)), none⟩,
    ⟨(some 31), .val (.bin .num .gtr (.t 28) (.t 30)), none⟩,
    ⟨(some 26), .val (.mov (.t 31)), none⟩]
def g9_4 : List Am.Item := [
    ⟨(some 32), .val (.build [.str [], .int .i64 0, .int .i64 0, .int .i64 0, .int .i64 0, .int .i64 0] []), none⟩,
    ⟨none, .store 6 (.t 4) (.t 32), none⟩,
    ⟨(some 5), .val (.mov (.c (.int .i64 3))), none⟩]
def g9_5 : List Am.Item := [
    ⟨(some 33), .val (.mov (.t 0)), none⟩,
    ⟨(some 34), .val (.mov (.t 0)), none⟩,
    ⟨(some 35), .val (.len 0 (.t 34)), none⟩,
    ⟨(some 36), .val (.faddr 1 (.t 3)), none⟩,
    ⟨(some 37), .val (.load none (.t 36)), none⟩,
    ⟨(some 38), .val (.faddr 2 (.t 3)), none⟩,
    ⟨(some 39), .val (.load none (.t 38)), none⟩,
    ⟨(some 40), .val (.faddr 3 (.t 3)), none⟩,
    ⟨(some 41), .val (.load none (.t 40)), none⟩,
    ⟨(some 42), .val (.build [.str [], .int .i64 0, .int .i64 0, .int .i64 0, .int .i64 0, .int .i64 0] [(0, 1, (.t 33)), (2, 1, (.t 35)), (3, 1, (.t 37)), (4, 1, (.t 39)), (5, 1, (.t 41))]), none⟩,
    ⟨none, .store 6 (.t 4) (.t 42), none⟩,
    ⟨(some 5), .val (.mov (.c (.int .i64 0))), none⟩]
def r9 : RC := .seq (.reg g9_0) (.seq (.block 0 (.seq (.reg g9_1) (.cond (.t 6) (.seq (.reg g9_2) (.ret)) (.seq (.reg g9_3) (.cond (.t 26) (.seq (.reg g9_4) (.ret)) (.skip)))))) (.seq (.reg g9_5) (.ret)))
def o9 : List RR := [.cell 4 (some 6), .tmp 5]
theorem k9 : chkC Try.prog 43 r9 (Try.f9.body.getD .skip) = true := by decide +kernel
theorem q9 : chkR Try.prog Try.f9.results.toList o9 = true := by decide +kernel

/- wireschema/cursor.Sound -/
def g11_0 : List Am.Item := [
    ⟨(some 1), .boxN 1 (.t 0), none⟩,
    ⟨(some 2), .val (.mov (.c (.bool false))), none⟩]
def g11_1 : List Am.Item := [
    ⟨(some 3), .val (.faddr 1 (.t 1)), none⟩,
    ⟨(some 4), .val (.load none (.t 3)), none⟩,
    ⟨(some 5), .val (.bin .num .geq (.t 4) (.c (.int .i64 0))), none⟩,
    ⟨(some 6), .val (.mov (.t 5)), none⟩,
    ⟨(some 7), .val (.faddr 1 (.t 1)), (some (6, true))⟩,
    ⟨(some 8), .val (.load none (.t 7)), (some (6, true))⟩,
    ⟨(some 9), .val (.faddr 2 (.t 1)), (some (6, true))⟩,
    ⟨(some 10), .val (.load none (.t 9)), (some (6, true))⟩,
    ⟨(some 11), .val (.bin .num .leq (.t 8) (.t 10)), (some (6, true))⟩,
    ⟨(some 12), .val (.pick (.t 6) (.t 11) (.c (.bool false))), none⟩,
    ⟨(some 13), .val (.mov (.t 12)), none⟩,
    ⟨(some 14), .val (.faddr 2 (.t 1)), (some (13, true))⟩,
    ⟨(some 15), .val (.load none (.t 14)), (some (13, true))⟩,
    ⟨(some 16), .val (.faddr 0 (.t 1)), (some (13, true))⟩,
    ⟨(some 17), .val (.load none (.t 16)), (some (13, true))⟩,
    ⟨(some 18), .val (.len 0 (.t 17)), (some (13, true))⟩,
    ⟨(some 19), .val (.bin .num .leq (.t 15) (.t 18)), (some (13, true))⟩,
    ⟨(some 20), .val (.pick (.t 13) (.t 19) (.c (.bool false))), none⟩,
    ⟨(some 2), .val (.mov (.t 20)), none⟩]
def r11 : RC := .seq (.reg g11_0) (.seq (.reg g11_1) (.ret))
def o11 : List RR := [.tmp 2]
theorem k11 : chkC Try.prog 21 r11 (Try.f11.body.getD .skip) = true := by decide +kernel
theorem q11 : chkR Try.prog Try.f11.results.toList o11 = true := by decide +kernel

/- wireschema/cursor.Left -/
def g13_0 : List Am.Item := [
    ⟨(some 1), .boxN 1 (.t 0), none⟩,
    ⟨(some 2), .val (.mov (.c (.int .i64 0))), none⟩]
def g13_1 : List Am.Item := [
    ⟨(some 3), .val (.load (some 6) (.t 1)), none⟩,
    ⟨(some 4), .call (.f 11) [(.t 3)], none⟩,
    ⟨(some 5), .val (.un .not (.t 4)), none⟩]
def g13_2 : List Am.Item := [
    ⟨(some 2), .val (.mov (.c (.int .i64 0))), none⟩]
def g13_3 : List Am.Item := [
    ⟨(some 6), .val (.faddr 2 (.t 1)), none⟩,
    ⟨(some 7), .val (.load none (.t 6)), none⟩,
    ⟨(some 8), .val (.faddr 1 (.t 1)), none⟩,
    ⟨(some 9), .val (.load none (.t 8)), none⟩,
    ⟨(some 10), .val (.bin .num .sub (.t 7) (.t 9)), none⟩,
    ⟨(some 2), .val (.mov (.t 10)), none⟩]
def r13 : RC := .seq (.reg g13_0) (.seq (.seq (.reg g13_1) (.cond (.t 5) (.seq (.reg g13_2) (.ret)) (.skip))) (.seq (.reg g13_3) (.ret)))
def o13 : List RR := [.tmp 2]
theorem k13 : chkC Try.prog 11 r13 (Try.f13.body.getD .skip) = true := by decide +kernel
theorem q13 : chkR Try.prog Try.f13.results.toList o13 = true := by decide +kernel

/- wireschema/cursor.head -/
def g33_0 : List Am.Item := [
    ⟨(some 2), .boxN 2 (.t 0), none⟩,
    ⟨(some 4), .val (.mov (.c (.str []))), none⟩]
def g33_1 : List Am.Item := [
    ⟨(some 5), .val (.load (some 6) (.t 2)), none⟩,
    ⟨(some 6), .call (.f 11) [(.t 5)], none⟩,
    ⟨(some 7), .val (.un .not (.t 6)), none⟩]
def g33_2 : List Am.Item := [
    ⟨(some 4), .val (.mov (.c (.str []))), none⟩]
def g33_3 : List Am.Item := [
    ⟨(some 8), .val (.faddr 0 (.t 2)), none⟩,
    ⟨(some 9), .val (.load none (.t 8)), none⟩,
    ⟨(some 10), .val (.faddr 1 (.t 2)), none⟩,
    ⟨(some 11), .val (.load none (.t 10)), none⟩,
    ⟨(some 12), .val (.faddr 2 (.t 2)), none⟩,
    ⟨(some 13), .val (.load none (.t 12)), none⟩,
    ⟨(some 14), .val (.faddr 1 (.t 2)), none⟩,
    ⟨(some 15), .val (.load none (.t 14)), none⟩,
    ⟨(some 16), .val (.mov (.t 1)), none⟩,
    ⟨(some 17), .val (.bin .num .add (.t 15) (.t 16)), none⟩,
    ⟨(some 18), .val (.mnx false (.t 13) (.t 17)), none⟩,
    ⟨(some 19), .val (.slc none (.t 9) (some (.t 11)) (some (.t 18)) none), none⟩,
    ⟨(some 4), .val (.mov (.t 19)), none⟩]
def r33 : RC := .seq (.reg g33_0) (.seq (.seq (.reg g33_1) (.cond (.t 7) (.seq (.reg g33_2) (.ret)) (.skip))) (.seq (.reg g33_3) (.ret)))
def o33 : List RR := [.tmp 4]
theorem k33 : chkC Try.prog 20 r33 (Try.f33.body.getD .skip) = true := by decide +kernel
theorem q33 : chkR Try.prog Try.f33.results.toList o33 = true := by decide +kernel

/- wireschema/cursor.ahead -/
def g31_0 : List Am.Item := [
    ⟨(some 2), .boxN 2 (.t 0), none⟩,
    ⟨(some 4), .allocN 4 [.str [], .int .i64 0, .int .i64 0, .int .i64 0, .int .i64 0, .int .i64 0], none⟩]
def g31_1 : List Am.Item := [
    ⟨(some 5), .val (.faddr 1 (.t 2)), none⟩,
    ⟨(some 6), .val (.load none (.t 5)), none⟩,
    ⟨(some 7), .val (.mov (.t 1)), none⟩,
    ⟨(some 8), .val (.bin .num .add (.t 6) (.t 7)), none⟩,
    ⟨(some 9), .val (.faddr 1 (.t 2)), none⟩,
    ⟨none, .store 1 (.t 9) (.t 8), none⟩]
def g31_2 : List Am.Item := [
    ⟨(some 10), .val (.load (some 6) (.t 2)), none⟩,
    ⟨none, .store 6 (.t 4) (.t 10), none⟩]
def r31 : RC := .seq (.reg g31_0) (.seq (.reg g31_1) (.seq (.reg g31_2) (.ret)))
def o31 : List RR := [.cell 4 (some 6)]
theorem k31 : chkC Try.prog 11 r31 (Try.f31.body.getD .skip) = true := by decide +kernel
theorem q31 : chkR Try.prog Try.f31.results.toList o31 = true := by decide +kernel

/- wireschema/cursor.piece -/
def g30_0 : List Am.Item := [
    ⟨(some 2), .boxN 2 (.t 0), none⟩,
    ⟨(some 4), .val (.mov (.c (.nils))), none⟩]
def g30_1 : List Am.Item := [
    ⟨(some 6), .val (.faddr 0 (.t 2)), none⟩,
    ⟨(some 7), .val (.load none (.t 6)), none⟩,
    ⟨(some 8), .val (.faddr 1 (.t 2)), none⟩,
    ⟨(some 9), .val (.load none (.t 8)), none⟩,
    ⟨(some 10), .val (.faddr 1 (.t 2)), none⟩,
    ⟨(some 11), .val (.load none (.t 10)), none⟩,
    ⟨(some 12), .val (.mov (.t 1)), none⟩,
    ⟨(some 13), .val (.bin .num .add (.t 11) (.t 12)), none⟩,
    ⟨(some 14), .val (.slc none (.t 7) (some (.t 9)) (some (.t 13)) none), none⟩,
    ⟨(some 15), .s2b 15 5 (.t 14), none⟩,
    ⟨(some 5), .val (.mov (.t 15)), none⟩]
def g30_2 : List Am.Item := [
    ⟨(some 16), .val (.mov (.t 5)), none⟩,
    ⟨(some 17), .val (.mov (.t 1)), none⟩,
    ⟨(some 18), .val (.mov (.t 1)), none⟩,
    ⟨(some 19), .val (.slc (some 1) (.t 16) none (some (.t 17)) (some (.t 18))), none⟩,
    ⟨(some 4), .val (.mov (.t 19)), none⟩]
def r30 : RC := .seq (.reg g30_0) (.seq (.reg g30_1) (.seq (.reg g30_2) (.ret)))
def o30 : List RR := [.tmp 4]
theorem k30 : chkC Try.prog 20 r30 (Try.f30.body.getD .skip) = true := by decide +kernel
theorem q30 : chkR Try.prog Try.f30.results.toList o30 = true := by decide +kernel

/- wireschema/cursor.Byte -/
def g17_0 : List Am.Item := [
    ⟨(some 1), .boxN 1 (.t 0), none⟩,
    ⟨(some 2), .val (.mov (.c (.int .u8 0))), none⟩,
    ⟨(some 3), .allocN 3 [.str [], .int .i64 0, .int .i64 0, .int .i64 0, .int .i64 0, .int .i64 0], none⟩,
    ⟨(some 4), .val (.mov (.c (.int .i64 0))), none⟩]
def g17_1 : List Am.Item := [
    ⟨(some 5), .val (.load (some 6) (.t 1)), none⟩,
    ⟨(some 6), .call (.f 13) [(.t 5)], none⟩,
    ⟨(some 7), .val (.bin .num .lss (.t 6) (.c (.int .i64 1))), none⟩]
def g17_2 : List Am.Item := [
    ⟨(some 8), .val (.loadv 0 1 (some 6) (.t 1)), none⟩,
    ⟨(some 2), .val (.mov (.c (.int .u8 0))), none⟩,
    ⟨none, .storev 0 3 6 (.t 3) (.t 8), none⟩,
    ⟨(some 4), .val (.mov (.c (.int .i64 4))), none⟩]
def g17_3 : List Am.Item := [
    ⟨(some 9), .val (.faddr 0 (.t 1)), none⟩,
    ⟨(some 10), .val (.loadv 0 1 none (.t 9)), none⟩,
    ⟨(some 11), .val (.faddr 1 (.t 1)), none⟩,
    ⟨(some 12), .val (.loadv 0 1 none (.t 11)), none⟩,
    ⟨(some 13), .val (.idx (.t 10) (.t 12)), none⟩,
    ⟨(some 14), .val (.loadv 0 1 (some 6) (.t 1)), none⟩,
    ⟨(some 15), .call (.f 31) [(.t 14), (.c (.int .i64 1))], none⟩,
    ⟨(some 2), .val (.mov (.t 13)), none⟩,
    ⟨none, .storev 0 3 6 (.t 3) (.t 15), none⟩,
    ⟨(some 4), .val (.mov (.c (.int .i64 0))), none⟩]
def r17 : RC := .seq (.reg g17_0) (.seq (.seq (.reg g17_1) (.cond (.t 7) (.seq (.draw g17_2) (.ret)) (.skip))) (.seq (.draw g17_3) (.ret)))
def o17 : List RR := [.tmp 2, .cell 3 (some 6), .tmp 4]
theorem k17 : chkC Try.prog 16 r17 (Try.f17.body.getD .skip) = true := by decide +kernel
theorem q17 : chkR Try.prog Try.f17.results.toList o17 = true := by decide +kernel

/- wireschema/cursor.Varint -/
def g22_0 : List Am.Item := [
    ⟨(some 1), .boxN 1 (.t 0), none⟩,
    ⟨(some 2), .val (.mov (.c (.int .u64 0))), none⟩,
    ⟨(some 3), .allocN 3 [.str [], .int .i64 0, .int .i64 0, .int .i64 0, .int .i64 0, .int .i64 0], none⟩,
    ⟨(some 4), .val (.mov (.c (.int .i64 0))), none⟩]
def g22_1 : List Am.Item := [
    ⟨(some 9), .val (.load (some 6) (.t 1)), none⟩,
    ⟨(some 10), .call (.f 33) [(.t 9), (.c (.int .i64 10))], none⟩,
    ⟨(some 11), .call (.f 32) [(.t 10)], none⟩,
    ⟨(some 8), .val (.mov (.t 11)), none⟩,
    ⟨(some 12), .val (.ext (.t 8) 0), none⟩,
    ⟨(some 13), .val (.ext (.t 8) 1), none⟩,
    ⟨(some 14), .val (.ext (.t 8) 2), none⟩,
    ⟨(some 5), .val (.mov (.t 12)), none⟩,
    ⟨(some 6), .val (.mov (.t 13)), none⟩,
    ⟨(some 7), .val (.mov (.t 14)), none⟩]
def g22_2 : List Am.Item := [
    ⟨(some 15), .val (.mov (.t 7)), none⟩,
    ⟨(some 16), .val (.bin .num .neq (.t 15) (.c (.int .i64 0))), none⟩]
def g22_3 : List Am.Item := [
    ⟨(some 17), .val (.loadv 0 1 (some 6) (.t 1)), none⟩,
    ⟨(some 18), .val (.mov (.t 7)), none⟩,
    ⟨(some 2), .val (.mov (.c (.int .u64 0))), none⟩,
    ⟨none, .storev 0 3 6 (.t 3) (.t 17), none⟩,
    ⟨(some 4), .val (.mov (.t 18)), none⟩]
def g22_4 : List Am.Item := [
    ⟨(some 19), .val (.mov (.t 5)), none⟩,
    ⟨(some 20), .val (.load (some 6) (.t 1)), none⟩,
    ⟨(some 21), .val (.mov (.t 6)), none⟩,
    ⟨(some 22), .call (.f 31) [(.t 20), (.t 21)], none⟩,
    ⟨(some 2), .val (.mov (.t 19)), none⟩,
    ⟨none, .store 6 (.t 3) (.t 22), none⟩,
    ⟨(some 4), .val (.mov (.c (.int .i64 0))), none⟩]
def r22 : RC := .seq (.reg g22_0) (.seq (.reg g22_1) (.seq (.seq (.reg g22_2) (.cond (.t 16) (.seq (.draw g22_3) (.ret)) (.skip))) (.seq (.reg g22_4) (.ret))))
def o22 : List RR := [.tmp 2, .cell 3 (some 6), .tmp 4]
theorem k22 : chkC Try.prog 23 r22 (Try.f22.body.getD .skip) = true := by decide +kernel
theorem q22 : chkR Try.prog Try.f22.results.toList o22 = true := by decide +kernel

/- wireschema/cursor.Fixed -/
def g23_0 : List Am.Item := [
    ⟨(some 1), .boxN 1 (.t 0), none⟩,
    ⟨(some 2), .val (.mov (.c (.int .u64 0))), none⟩,
    ⟨(some 3), .allocN 3 [.str [], .int .i64 0, .int .i64 0, .int .i64 0, .int .i64 0, .int .i64 0], none⟩,
    ⟨(some 4), .val (.mov (.c (.int .i64 0))), none⟩]
def g23_1 : List Am.Item := [
    ⟨(some 8), .val (.load (some 6) (.t 1)), none⟩,
    ⟨(some 9), .call (.f 33) [(.t 8), (.c (.int .i64 8))], none⟩,
    ⟨(some 10), .call (.f 34) [(.t 9)], none⟩,
    ⟨(some 7), .val (.mov (.t 10)), none⟩,
    ⟨(some 11), .val (.ext (.t 7) 0), none⟩,
    ⟨(some 12), .val (.ext (.t 7) 1), none⟩,
    ⟨(some 5), .val (.mov (.t 11)), none⟩,
    ⟨(some 6), .val (.mov (.t 12)), none⟩]
def g23_2 : List Am.Item := [
    ⟨(some 13), .val (.mov (.t 6)), none⟩,
    ⟨(some 14), .val (.bin .num .neq (.t 13) (.c (.int .i64 0))), none⟩]
def g23_3 : List Am.Item := [
    ⟨(some 15), .val (.loadv 0 1 (some 6) (.t 1)), none⟩,
    ⟨(some 16), .val (.mov (.t 6)), none⟩,
    ⟨(some 2), .val (.mov (.c (.int .u64 0))), none⟩,
    ⟨none, .storev 0 3 6 (.t 3) (.t 15), none⟩,
    ⟨(some 4), .val (.mov (.t 16)), none⟩]
def g23_4 : List Am.Item := [
    ⟨(some 17), .val (.mov (.t 5)), none⟩,
    ⟨(some 18), .val (.load (some 6) (.t 1)), none⟩,
    ⟨(some 19), .call (.f 31) [(.t 18), (.c (.int .i64 8))], none⟩,
    ⟨(some 2), .val (.mov (.t 17)), none⟩,
    ⟨none, .store 6 (.t 3) (.t 19), none⟩,
    ⟨(some 4), .val (.mov (.c (.int .i64 0))), none⟩]
def r23 : RC := .seq (.reg g23_0) (.seq (.reg g23_1) (.seq (.seq (.reg g23_2) (.cond (.t 14) (.seq (.draw g23_3) (.ret)) (.skip))) (.seq (.reg g23_4) (.ret))))
def o23 : List RR := [.tmp 2, .cell 3 (some 6), .tmp 4]
theorem k23 : chkC Try.prog 20 r23 (Try.f23.body.getD .skip) = true := by decide +kernel
theorem q23 : chkR Try.prog Try.f23.results.toList o23 = true := by decide +kernel

/- wireschema/cursor.Text -/
def g16_0 : List Am.Item := [
    ⟨(some 2), .boxN 2 (.t 0), none⟩,
    ⟨(some 4), .val (.mov (.c (.str []))), none⟩,
    ⟨(some 5), .allocN 5 [.str [], .int .i64 0, .int .i64 0, .int .i64 0, .int .i64 0, .int .i64 0], none⟩,
    ⟨(some 6), .val (.mov (.c (.int .i64 0))), none⟩]
def g16_1 : List Am.Item := [
    ⟨(some 8), .val (.mov (.t 1)), none⟩,
    ⟨(some 9), .val (.bin .num .lss (.t 8) (.c (.int .i64 0))), none⟩,
    ⟨(some 7), .val (.mov (.t 9)), none⟩]
def g16_2 : List Am.Item := [
    ⟨(some 10), .val (.loadv 0 2 (some 6) (.t 2)), none⟩,
    ⟨(some 4), .val (.mov (.c (.str []))), none⟩,
    ⟨none, .storev 0 5 6 (.t 5) (.t 10), none⟩,
    ⟨(some 6), .val (.mov (.c (.int .i64 1))), none⟩]
def g16_3 : List Am.Item := [
    ⟨(some 12), .val (.mov (.t 1)), none⟩,
    ⟨(some 13), .val (.load (some 6) (.t 2)), none⟩,
    ⟨(some 14), .call (.f 13) [(.t 13)], none⟩,
    ⟨(some 15), .val (.bin .num .gtr (.t 12) (.t 14)), none⟩,
    ⟨(some 11), .val (.mov (.t 15)), none⟩]
def g16_4 : List Am.Item := [
    ⟨(some 16), .val (.loadv 0 2 (some 6) (.t 2)), none⟩,
    ⟨(some 4), .val (.mov (.c (.str []))), none⟩,
    ⟨none, .storev 0 5 6 (.t 5) (.t 16), none⟩,
    ⟨(some 6), .val (.mov (.c (.int .i64 4))), none⟩]
def g16_5 : List Am.Item := [
    ⟨(some 18), .val (.mov (.t 1)), none⟩,
    ⟨(some 19), .val (.faddr 5 (.t 2)), none⟩,
    ⟨(some 20), .val (.load none (.t 19)), none⟩,
    ⟨(some 21), .val (.bin .num .gtr (.t 18) (.t 20)), none⟩,
    ⟨(some 17), .val (.mov (.t 21)), none⟩]
def g16_6 : List Am.Item := [
    ⟨(some 22), .val (.loadv 0 2 (some 6) (.t 2)), none⟩,
    ⟨(some 4), .val (.mov (.c (.str []))), none⟩,
    ⟨none, .storev 0 5 6 (.t 5) (.t 22), none⟩,
    ⟨(some 6), .val (.mov (.c (.int .i64 3))), none⟩]
def g16_7 : List Am.Item := [
    ⟨(some 23), .val (.mov (.t 1)), none⟩,
    ⟨(some 24), .val (.bin .num .eql (.t 23) (.c (.int .i64 0))), none⟩]
def g16_8 : List Am.Item := [
    ⟨(some 25), .val (.loadv 0 2 (some 6) (.t 2)), none⟩,
    ⟨(some 4), .val (.mov (.c (.str []))), none⟩,
    ⟨none, .storev 0 5 6 (.t 5) (.t 25), none⟩,
    ⟨(some 6), .val (.mov (.c (.int .i64 0))), none⟩]
def g16_9 : List Am.Item := [
    ⟨(some 26), .val (.loadv 0 2 (some 6) (.t 2)), none⟩,
    ⟨(some 27), .val (.mov (.t 1)), none⟩,
    ⟨(some 28), .call (.f 30) [(.t 26), (.t 27)], none⟩,
    ⟨(some 29), .val (.b2s (.t 28)), none⟩,
    ⟨(some 30), .val (.loadv 0 2 (some 6) (.t 2)), none⟩,
    ⟨(some 31), .val (.mov (.t 1)), none⟩,
    ⟨(some 32), .call (.f 31) [(.t 30), (.t 31)], none⟩,
    ⟨(some 4), .val (.mov (.t 29)), none⟩,
    ⟨none, .storev 0 5 6 (.t 5) (.t 32), none⟩,
    ⟨(some 6), .val (.mov (.c (.int .i64 0))), none⟩]
def r16 : RC := .seq (.reg g16_0) (.seq (.block 0 (.seq (.reg g16_1) (.cond (.t 7) (.seq (.draw g16_2) (.ret)) (.seq (.reg g16_3) (.cond (.t 11) (.seq (.draw g16_4) (.ret)) (.seq (.reg g16_5) (.cond (.t 17) (.seq (.draw g16_6) (.ret)) (.skip)))))))) (.seq (.seq (.reg g16_7) (.cond (.t 24) (.seq (.draw g16_8) (.ret)) (.skip))) (.seq (.draw g16_9) (.ret))))
def o16 : List RR := [.tmp 4, .cell 5 (some 6), .tmp 6]
theorem k16 : chkC Try.prog 33 r16 (Try.f16.body.getD .skip) = true := by decide +kernel
theorem q16 : chkR Try.prog Try.f16.results.toList o16 = true := by decide +kernel

/- wireschema/cursor.Spend -/
def g39_0 : List Am.Item := [
    ⟨(some 2), .boxN 2 (.t 0), none⟩,
    ⟨(some 4), .allocN 4 [.str [], .int .i64 0, .int .i64 0, .int .i64 0, .int .i64 0, .int .i64 0], none⟩,
    ⟨(some 5), .val (.mov (.c (.int .i64 0))), none⟩]
def g39_1 : List Am.Item := [
    ⟨(some 7), .val (.mov (.t 1)), none⟩,
    ⟨(some 8), .val (.bin .num .lss (.t 7) (.c (.int .i64 0))), none⟩,
    ⟨(some 6), .val (.mov (.t 8)), none⟩]
def g39_2 : List Am.Item := [
    ⟨(some 9), .val (.load (some 6) (.t 2)), none⟩,
    ⟨none, .store 6 (.t 4) (.t 9), none⟩,
    ⟨(some 5), .val (.mov (.c (.int .i64 1))), none⟩]
def g39_3 : List Am.Item := [
    ⟨(some 11), .val (.mov (.t 1)), none⟩,
    ⟨(some 12), .val (.faddr 4 (.t 2)), none⟩,
    ⟨(some 13), .val (.load none (.t 12)), none⟩,
    ⟨(some 14), .val (.bin .num .gtr (.t 11) (.t 13)), none⟩,
    ⟨(some 10), .val (.mov (.t 14)), none⟩]
def g39_4 : List Am.Item := [
    ⟨(some 15), .val (.load (some 6) (.t 2)), none⟩,
    ⟨none, .store 6 (.t 4) (.t 15), none⟩,
    ⟨(some 5), .val (.mov (.c (.int .i64 3))), none⟩]
def g39_5 : List Am.Item := [
    ⟨(some 16), .val (.faddr 4 (.t 2)), none⟩,
    ⟨(some 17), .val (.load none (.t 16)), none⟩,
    ⟨(some 18), .val (.mov (.t 1)), none⟩,
    ⟨(some 19), .val (.bin .num .sub (.t 17) (.t 18)), none⟩,
    ⟨(some 20), .val (.faddr 4 (.t 2)), none⟩,
    ⟨none, .store 1 (.t 20) (.t 19), none⟩]
def g39_6 : List Am.Item := [
    ⟨(some 21), .val (.load (some 6) (.t 2)), none⟩,
    ⟨none, .store 6 (.t 4) (.t 21), none⟩,
    ⟨(some 5), .val (.mov (.c (.int .i64 0))), none⟩]
def r39 : RC := .seq (.reg g39_0) (.seq (.block 0 (.seq (.reg g39_1) (.cond (.t 6) (.seq (.reg g39_2) (.ret)) (.seq (.reg g39_3) (.cond (.t 10) (.seq (.reg g39_4) (.ret)) (.skip)))))) (.seq (.reg g39_5) (.seq (.reg g39_6) (.ret))))
def o39 : List RR := [.cell 4 (some 6), .tmp 5]
theorem k39 : chkC Try.prog 22 r39 (Try.f39.body.getD .skip) = true := by decide +kernel
theorem q39 : chkR Try.prog Try.f39.results.toList o39 = true := by decide +kernel

/- wireschema/cursor.Enter -/
def g24_0 : List Am.Item := [
    ⟨(some 2), .boxN 2 (.t 0), none⟩,
    ⟨(some 4), .allocN 4 [.str [], .int .i64 0, .int .i64 0, .int .i64 0, .int .i64 0, .int .i64 0], none⟩,
    ⟨(some 5), .val (.mov (.c (.int .i64 0))), none⟩]
def g24_1 : List Am.Item := [
    ⟨(some 7), .val (.mov (.t 1)), none⟩,
    ⟨(some 8), .val (.bin .num .lss (.t 7) (.c (.int .i64 0))), none⟩,
    ⟨(some 6), .val (.mov (.t 8)), none⟩]
def g24_2 : List Am.Item := [
    ⟨(some 9), .val (.load (some 6) (.t 2)), none⟩,
    ⟨none, .store 6 (.t 4) (.t 9), none⟩,
    ⟨(some 5), .val (.mov (.c (.int .i64 1))), none⟩]
def g24_3 : List Am.Item := [
    ⟨(some 11), .val (.mov (.t 1)), none⟩,
    ⟨(some 12), .val (.load (some 6) (.t 2)), none⟩,
    ⟨(some 13), .call (.f 13) [(.t 12)], none⟩,
    ⟨(some 14), .val (.bin .num .gtr (.t 11) (.t 13)), none⟩,
    ⟨(some 10), .val (.mov (.t 14)), none⟩]
def g24_4 : List Am.Item := [
    ⟨(some 15), .val (.load (some 6) (.t 2)), none⟩,
    ⟨none, .store 6 (.t 4) (.t 15), none⟩,
    ⟨(some 5), .val (.mov (.c (.int .i64 4))), none⟩]
def g24_5 : List Am.Item := [
    ⟨(some 17), .val (.faddr 3 (.t 2)), none⟩,
    ⟨(some 18), .val (.load none (.t 17)), none⟩,
    ⟨(some 19), .val (.bin .num .lss (.t 18) (.c (.int .i64 1))), none⟩,
    ⟨(some 16), .val (.mov (.t 19)), none⟩]
def g24_6 : List Am.Item := [
    ⟨(some 20), .val (.load (some 6) (.t 2)), none⟩,
    ⟨none, .store 6 (.t 4) (.t 20), none⟩,
    ⟨(some 5), .val (.mov (.c (.int .i64 17))), none⟩]
def g24_7 : List Am.Item := [
    ⟨(some 21), .val (.faddr 1 (.t 2)), none⟩,
    ⟨(some 22), .val (.load none (.t 21)), none⟩,
    ⟨(some 23), .val (.mov (.t 1)), none⟩,
    ⟨(some 24), .val (.bin .num .add (.t 22) (.t 23)), none⟩,
    ⟨(some 25), .val (.faddr 2 (.t 2)), none⟩,
    ⟨none, .store 1 (.t 25) (.t 24), none⟩]
def g24_8 : List Am.Item := [
    ⟨(some 26), .val (.faddr 3 (.t 2)), none⟩,
    ⟨(some 27), .val (.load none (.t 26)), none⟩,
    ⟨(some 28), .val (.bin .num .sub (.t 27) (.c (.int .i64 1))), none⟩,
    ⟨(some 29), .val (.faddr 3 (.t 2)), none⟩,
    ⟨none, .store 1 (.t 29) (.t 28), none⟩]
def g24_9 : List Am.Item := [
    ⟨(some 30), .val (.load (some 6) (.t 2)), none⟩,
    ⟨none, .store 6 (.t 4) (.t 30), none⟩,
    ⟨(some 5), .val (.mov (.c (.int .i64 0))), none⟩]
def r24 : RC := .seq (.reg g24_0) (.seq (.block 0 (.seq (.reg g24_1) (.cond (.t 6) (.seq (.reg g24_2) (.ret)) (.seq (.reg g24_3) (.cond (.t 10) (.seq (.reg g24_4) (.ret)) (.seq (.reg g24_5) (.cond (.t 16) (.seq (.reg g24_6) (.ret)) (.skip)))))))) (.seq (.reg g24_7) (.seq (.reg g24_8) (.seq (.reg g24_9) (.ret)))))
def o24 : List RR := [.cell 4 (some 6), .tmp 5]
theorem k24 : chkC Try.prog 31 r24 (Try.f24.body.getD .skip) = true := by decide +kernel
theorem q24 : chkR Try.prog Try.f24.results.toList o24 = true := by decide +kernel

/- wireschema/cursor.Leave -/
def g18_0 : List Am.Item := [
    ⟨(some 2), .boxN 2 (.t 0), none⟩,
    ⟨(some 3), .boxN 3 (.t 1), none⟩,
    ⟨(some 4), .allocN 4 [.str [], .int .i64 0, .int .i64 0, .int .i64 0, .int .i64 0, .int .i64 0], none⟩]
def g18_1 : List Am.Item := [
    ⟨(some 5), .val (.load (some 6) (.t 2)), none⟩,
    ⟨(some 6), .call (.f 11) [(.t 5)], none⟩,
    ⟨(some 7), .val (.un .not (.t 6)), none⟩,
    ⟨(some 8), .val (.mov (.t 7)), none⟩,
    ⟨(some 9), .val (.faddr 2 (.t 3)), (some (8, false))⟩,
    ⟨(some 10), .val (.load none (.t 9)), (some (8, false))⟩,
    ⟨(some 11), .val (.faddr 1 (.t 2)), (some (8, false))⟩,
    ⟨(some 12), .val (.load none (.t 11)), (some (8, false))⟩,
    ⟨(some 13), .val (.bin .num .lss (.t 10) (.t 12)), (some (8, false))⟩,
    ⟨(some 14), .val (.pick (.t 8) (.c (.bool true)) (.t 13)), none⟩,
    ⟨(some 15), .val (.mov (.t 14)), none⟩,
    ⟨(some 16), .val (.faddr 2 (.t 3)), (some (15, false))⟩,
    ⟨(some 17), .val (.load none (.t 16)), (some (15, false))⟩,
    ⟨(some 18), .val (.faddr 2 (.t 2)), (some (15, false))⟩,
    ⟨(some 19), .val (.load none (.t 18)), (some (15, false))⟩,
    ⟨(some 20), .val (.bin .num .gtr (.t 17) (.t 19)), (some (15, false))⟩,
    ⟨(some 21), .val (.pick (.t 15) (.c (.bool true)) (.t 20)), none⟩,
    ⟨(some 22), .val (.mov (.t 21)), none⟩,
    ⟨(some 23), .val (.faddr 4 (.t 3)), (some (22, false))⟩,
    ⟨(some 24), .val (.load none (.t 23)), (some (22, false))⟩,
    ⟨(some 25), .val (.bin .num .lss (.t 24) (.c (.int .i64 0))), (some (22, false))⟩,
    ⟨(some 26), .val (.pick (.t 22) (.c (.bool true)) (.t 25)), none⟩,
    ⟨(some 27), .val (.mov (.t 26)), none⟩,
    ⟨(some 28), .val (.faddr 4 (.t 3)), (some (27, false))⟩,
    ⟨(some 29), .val (.load none (.t 28)), (some (27, false))⟩,
    ⟨(some 30), .val (.faddr 4 (.t 2)), (some (27, false))⟩,
    ⟨(some 31), .val (.load none (.t 30)), (some (27, false))⟩,
    ⟨(some 32), .val (.bin .num .gtr (.t 29) (.t 31)), (some (27, false))⟩,
    ⟨(some 33), .val (.pick (.t 27) (.c (.bool true)) (.t 32)), none⟩]
def g18_2 : List Am.Item := [
    ⟨(some 34), .val (.load (some 6) (.t 2)), none⟩,
    ⟨none, .store 6 (.t 4) (.t 34), none⟩]
def g18_3 : List Am.Item := [
    ⟨(some 35), .val (.faddr 2 (.t 3)), none⟩,
    ⟨(some 36), .val (.loadv 0 3 none (.t 35)), none⟩,
    ⟨(some 37), .val (.faddr 4 (.t 3)), none⟩,
    ⟨(some 38), .val (.loadv 0 3 none (.t 37)), none⟩,
    ⟨(some 39), .val (.faddr 1 (.t 2)), none⟩,
    ⟨none, .storev 0 2 1 (.t 39) (.t 36), none⟩,
    ⟨(some 40), .val (.faddr 4 (.t 2)), none⟩,
    ⟨none, .storev 0 2 1 (.t 40) (.t 38), none⟩]
def g18_4 : List Am.Item := [
    ⟨(some 41), .val (.load (some 6) (.t 2)), none⟩,
    ⟨none, .store 6 (.t 4) (.t 41), none⟩]
def r18 : RC := .seq (.reg g18_0) (.seq (.seq (.reg g18_1) (.cond (.t 33) (.seq (.reg g18_2) (.ret)) (.skip))) (.seq (.draw g18_3) (.seq (.reg g18_4) (.ret))))
def o18 : List RR := [.cell 4 (some 6)]
theorem k18 : chkC Try.prog 42 r18 (Try.f18.body.getD .skip) = true := by decide +kernel
theorem q18 : chkR Try.prog Try.f18.results.toList o18 = true := by decide +kernel

/- wireschema/wireschemaref02.Open -/
def g10_0 : List Am.Item := [
    ⟨(some 3), .boxN 3 (.t 1), none⟩,
    ⟨(some 4), .allocN 4 [.str [], .int .i64 0, .int .i64 0, .int .i64 0, .int .i64 0, .int .i64 0], none⟩,
    ⟨(some 5), .val (.mov (.c (.int .i64 0))), none⟩]
def g10_1 : List Am.Item := [
    ⟨(some 6), .val (.faddr 0 (.t 3)), none⟩,
    ⟨(some 7), .val (.load none (.t 6)), none⟩,
    ⟨(some 8), .val (.bin .num .lss (.t 7) (.c (.int .i64 0))), none⟩,
    ⟨(some 9), .val (.mov (.t 8)), none⟩,
    ⟨(some 10), .val (.faddr 1 (.t 3)), (some (9, false))⟩,
    ⟨(some 11), .val (.load none (.t 10)), (some (9, false))⟩,
    ⟨(some 12), .val (.bin .num .lss (.t 11) (.c (.int .i64 0))), (some (9, false))⟩,
    ⟨(some 13), .val (.pick (.t 9) (.c (.bool true)) (.t 12)), none⟩,
    ⟨(some 14), .val (.mov (.t 13)), none⟩,
    ⟨(some 15), .val (.faddr 2 (.t 3)), (some (14, false))⟩,
    ⟨(some 16), .val (.load none (.t 15)), (some (14, false))⟩,
    ⟨(some 17), .val (.bin .num .lss (.t 16) (.c (.int .i64 0))), (some (14, false))⟩,
    ⟨(some 18), .val (.pick (.t 14) (.c (.bool true)) (.t 17)), none⟩,
    ⟨(some 19), .val (.mov (.t 18)), none⟩,
    ⟨(some 20), .val (.faddr 3 (.t 3)), (some (19, false))⟩,
    ⟨(some 21), .val (.load none (.t 20)), (some (19, false))⟩,
    ⟨(some 22), .val (.bin .num .lss (.t 21) (.c (.int .i64 0))), (some (19, false))⟩,
    ⟨(some 23), .val (.pick (.t 19) (.c (.bool true)) (.t 22)), none⟩]
def g10_2 : List Am.Item := [
    ⟨(some 24), .val (.build [.str [], .int .i64 0, .int .i64 0, .int .i64 0, .int .i64 0, .int .i64 0] []), none⟩,
    ⟨none, .store 6 (.t 4) (.t 24), none⟩,
    ⟨(some 5), .val (.mov (.c (.int .i64 1))), none⟩]
def g10_3 : List Am.Item := [
    ⟨(some 25), .val (.mov (.t 0)), none⟩,
    ⟨(some 26), .val (.len 0 (.t 25)), none⟩,
    ⟨(some 27), .val (.faddr 0 (.t 3)), none⟩,
    ⟨(some 28), .val (.load none (.t 27)), none⟩,
    ⟨(some 29), .val (.bin .num .gtr (.t 26) (.t 28)), none⟩]
def g10_4 : List Am.Item := [
    ⟨(some 30), .val (.build [.str [], .int .i64 0, .int .i64 0, .int .i64 0, .int .i64 0, .int .i64 0] []), none⟩,
    ⟨none, .store 6 (.t 4) (.t 30), none⟩,
    ⟨(some 5), .val (.mov (.c (.int .i64 3))), none⟩]
def g10_5 : List Am.Item := [
    ⟨(some 31), .val (.mov (.t 0)), none⟩,
    ⟨(some 32), .val (.mov (.t 0)), none⟩,
    ⟨(some 33), .val (.len 0 (.t 32)), none⟩,
    ⟨(some 34), .val (.faddr 1 (.t 3)), none⟩,
    ⟨(some 35), .val (.load none (.t 34)), none⟩,
    ⟨(some 36), .val (.faddr 2 (.t 3)), none⟩,
    ⟨(some 37), .val (.load none (.t 36)), none⟩,
    ⟨(some 38), .val (.faddr 3 (.t 3)), none⟩,
    ⟨(some 39), .val (.load none (.t 38)), none⟩,
    ⟨(some 40), .val (.build [.str [], .int .i64 0, .int .i64 0, .int .i64 0, .int .i64 0, .int .i64 0] [(0, 1, (.t 31)), (2, 1, (.t 33)), (3, 1, (.t 35)), (4, 1, (.t 37)), (5, 1, (.t 39))]), none⟩,
    ⟨none, .store 6 (.t 4) (.t 40), none⟩,
    ⟨(some 5), .val (.mov (.c (.int .i64 0))), none⟩]
def r10 : RC := .seq (.reg g10_0) (.seq (.seq (.reg g10_1) (.cond (.t 23) (.seq (.reg g10_2) (.ret)) (.skip))) (.seq (.seq (.reg g10_3) (.cond (.t 29) (.seq (.reg g10_4) (.ret)) (.skip))) (.seq (.reg g10_5) (.ret))))
def o10 : List RR := [.cell 4 (some 6), .tmp 5]
theorem k10 : chkC Try.prog 41 r10 (Try.f10.body.getD .skip) = true := by decide +kernel
theorem q10 : chkR Try.prog Try.f10.results.toList o10 = true := by decide +kernel

/- wireschema/wireschemaref02.Sound -/
def g12_0 : List Am.Item := [
    ⟨(some 1), .boxN 1 (.t 0), none⟩,
    ⟨(some 2), .val (.mov (.c (.bool false))), none⟩]
def g12_1 : List Am.Item := [
    ⟨(some 3), .val (.faddr 1 (.t 1)), none⟩,
    ⟨(some 4), .val (.load none (.t 3)), none⟩,
    ⟨(some 5), .val (.bin .num .leq (.c (.int .i64 0)) (.t 4)), none⟩,
    ⟨(some 6), .val (.mov (.t 5)), none⟩,
    ⟨(some 7), .val (.faddr 1 (.t 1)), (some (6, true))⟩,
    ⟨(some 8), .val (.load none (.t 7)), (some (6, true))⟩,
    ⟨(some 9), .val (.faddr 2 (.t 1)), (some (6, true))⟩,
    ⟨(some 10), .val (.load none (.t 9)), (some (6, true))⟩,
    ⟨(some 11), .val (.bin .num .leq (.t 8) (.t 10)), (some (6, true))⟩,
    ⟨(some 12), .val (.pick (.t 6) (.t 11) (.c (.bool false))), none⟩,
    ⟨(some 13), .val (.mov (.t 12)), none⟩,
    ⟨(some 14), .val (.faddr 2 (.t 1)), (some (13, true))⟩,
    ⟨(some 15), .val (.load none (.t 14)), (some (13, true))⟩,
    ⟨(some 16), .val (.faddr 0 (.t 1)), (some (13, true))⟩,
    ⟨(some 17), .val (.load none (.t 16)), (some (13, true))⟩,
    ⟨(some 18), .val (.len 0 (.t 17)), (some (13, true))⟩,
    ⟨(some 19), .val (.bin .num .leq (.t 15) (.t 18)), (some (13, true))⟩,
    ⟨(some 20), .val (.pick (.t 13) (.t 19) (.c (.bool false))), none⟩,
    ⟨(some 2), .val (.mov (.t 20)), none⟩]
def r12 : RC := .seq (.reg g12_0) (.seq (.reg g12_1) (.ret))
def o12 : List RR := [.tmp 2]
theorem k12 : chkC Try.prog 21 r12 (Try.f12.body.getD .skip) = true := by decide +kernel
theorem q12 : chkR Try.prog Try.f12.results.toList o12 = true := by decide +kernel

/- wireschema/wireschemaref02.rest -/
def g29_0 : List Am.Item := [
    ⟨(some 1), .boxN 1 (.t 0), none⟩,
    ⟨(some 2), .val (.mov (.c (.str []))), none⟩]
def g29_1 : List Am.Item := [
    ⟨(some 3), .val (.load (some 6) (.t 1)), none⟩,
    ⟨(some 4), .call (.f 12) [(.t 3)], none⟩,
    ⟨(some 5), .val (.un .not (.t 4)), none⟩]
def g29_2 : List Am.Item := [
    ⟨(some 2), .val (.mov (.c (.str []))), none⟩]
def g29_3 : List Am.Item := [
    ⟨(some 6), .val (.faddr 0 (.t 1)), none⟩,
    ⟨(some 7), .val (.load none (.t 6)), none⟩,
    ⟨(some 8), .val (.faddr 1 (.t 1)), none⟩,
    ⟨(some 9), .val (.load none (.t 8)), none⟩,
    ⟨(some 10), .val (.faddr 2 (.t 1)), none⟩,
    ⟨(some 11), .val (.load none (.t 10)), none⟩,
    ⟨(some 12), .val (.slc none (.t 7) (some (.t 9)) (some (.t 11)) none), none⟩,
    ⟨(some 2), .val (.mov (.t 12)), none⟩]
def r29 : RC := .seq (.reg g29_0) (.seq (.seq (.reg g29_1) (.cond (.t 5) (.seq (.reg g29_2) (.ret)) (.skip))) (.seq (.reg g29_3) (.ret)))
def o29 : List RR := [.tmp 2]
theorem k29 : chkC Try.prog 13 r29 (Try.f29.body.getD .skip) = true := by decide +kernel
theorem q29 : chkR Try.prog Try.f29.results.toList o29 = true := by decide +kernel

/- wireschema/wireschemaref02.Left -/
def g14_0 : List Am.Item := [
    ⟨(some 1), .boxN 1 (.t 0), none⟩,
    ⟨(some 2), .val (.mov (.c (.int .i64 0))), none⟩]
def g14_1 : List Am.Item := [
    ⟨(some 3), .val (.load (some 6) (.t 1)), none⟩,
    ⟨(some 4), .call (.f 29) [(.t 3)], none⟩,
    ⟨(some 5), .val (.len 0 (.t 4)), none⟩,
    ⟨(some 2), .val (.mov (.t 5)), none⟩]
def r14 : RC := .seq (.reg g14_0) (.seq (.reg g14_1) (.ret))
def o14 : List RR := [.tmp 2]
theorem k14 : chkC Try.prog 6 r14 (Try.f14.body.getD .skip) = true := by decide +kernel
theorem q14 : chkR Try.prog Try.f14.results.toList o14 = true := by decide +kernel

/- wireschema/wireschemaref02.behind -/
def g41_0 : List Am.Item := [
    ⟨(some 2), .boxN 2 (.t 0), none⟩,
    ⟨(some 4), .allocN 4 [.str [], .int .i64 0, .int .i64 0, .int .i64 0, .int .i64 0, .int .i64 0], none⟩]
def g41_1 : List Am.Item := [
    ⟨(some 5), .val (.faddr 1 (.t 2)), none⟩,
    ⟨(some 6), .val (.load none (.t 5)), none⟩,
    ⟨(some 7), .val (.mov (.t 1)), none⟩,
    ⟨(some 8), .val (.bin .num .add (.t 6) (.t 7)), none⟩,
    ⟨(some 9), .val (.faddr 1 (.t 2)), none⟩,
    ⟨none, .store 1 (.t 9) (.t 8), none⟩]
def g41_2 : List Am.Item := [
    ⟨(some 10), .val (.load (some 6) (.t 2)), none⟩,
    ⟨none, .store 6 (.t 4) (.t 10), none⟩]
def r41 : RC := .seq (.reg g41_0) (.seq (.reg g41_1) (.seq (.reg g41_2) (.ret)))
def o41 : List RR := [.cell 4 (some 6)]
theorem k41 : chkC Try.prog 11 r41 (Try.f41.body.getD .skip) = true := by decide +kernel
theorem q41 : chkR Try.prog Try.f41.results.toList o41 = true := by decide +kernel

/- wireschema/wireschemaref02.Byte -/
def g35_0 : List Am.Item := [
    ⟨(some 1), .boxN 1 (.t 0), none⟩,
    ⟨(some 2), .val (.mov (.c (.int .u8 0))), none⟩,
    ⟨(some 3), .allocN 3 [.str [], .int .i64 0, .int .i64 0, .int .i64 0, .int .i64 0, .int .i64 0], none⟩,
    ⟨(some 4), .val (.mov (.c (.int .i64 0))), none⟩]
def g35_1 : List Am.Item := [
    ⟨(some 6), .val (.load (some 6) (.t 1)), none⟩,
    ⟨(some 7), .call (.f 29) [(.t 6)], none⟩,
    ⟨(some 5), .val (.mov (.t 7)), none⟩]
def g35_2 : List Am.Item := [
    ⟨(some 8), .val (.mov (.t 5)), none⟩,
    ⟨(some 9), .val (.bin .str .eql (.t 8) (.c (.str []))), none⟩]
def g35_3 : List Am.Item := [
    ⟨(some 10), .val (.loadv 0 1 (some 6) (.t 1)), none⟩,
    ⟨(some 2), .val (.mov (.c (.int .u8 0))), none⟩,
    ⟨none, .storev 0 3 6 (.t 3) (.t 10), none⟩,
    ⟨(some 4), .val (.mov (.c (.int .i64 4))), none⟩]
def g35_4 : List Am.Item := [
    ⟨(some 11), .val (.mov (.t 5)), none⟩,
    ⟨(some 12), .val (.idx (.t 11) (.c (.int .i64 0))), none⟩,
    ⟨(some 13), .val (.loadv 0 1 (some 6) (.t 1)), none⟩,
    ⟨(some 14), .call (.f 41) [(.t 13), (.c (.int .i64 1))], none⟩,
    ⟨(some 2), .val (.mov (.t 12)), none⟩,
    ⟨none, .storev 0 3 6 (.t 3) (.t 14), none⟩,
    ⟨(some 4), .val (.mov (.c (.int .i64 0))), none⟩]
def r35 : RC := .seq (.reg g35_0) (.seq (.reg g35_1) (.seq (.seq (.reg g35_2) (.cond (.t 9) (.seq (.draw g35_3) (.ret)) (.skip))) (.seq (.draw g35_4) (.ret))))
def o35 : List RR := [.tmp 2, .cell 3 (some 6), .tmp 4]
theorem k35 : chkC Try.prog 15 r35 (Try.f35.body.getD .skip) = true := by decide +kernel
theorem q35 : chkR Try.prog Try.f35.results.toList o35 = true := by decide +kernel

/- wireschema/wireschemaref02.Varint -/
def g36_0 : List Am.Item := [
    ⟨(some 1), .boxN 1 (.t 0), none⟩,
    ⟨(some 2), .val (.mov (.c (.int .u64 0))), none⟩,
    ⟨(some 3), .allocN 3 [.str [], .int .i64 0, .int .i64 0, .int .i64 0, .int .i64 0, .int .i64 0], none⟩,
    ⟨(some 4), .val (.mov (.c (.int .i64 0))), none⟩]
def g36_1 : List Am.Item := [
    ⟨(some 9), .val (.load (some 6) (.t 1)), none⟩,
    ⟨(some 10), .call (.f 29) [(.t 9)], none⟩,
    ⟨(some 11), .call (.f 42) [(.t 10)], none⟩,
    ⟨(some 8), .val (.mov (.t 11)), none⟩,
    ⟨(some 12), .val (.ext (.t 8) 0), none⟩,
    ⟨(some 13), .val (.ext (.t 8) 1), none⟩,
    ⟨(some 14), .val (.ext (.t 8) 2), none⟩,
    ⟨(some 5), .val (.mov (.t 12)), none⟩,
    ⟨(some 6), .val (.mov (.t 13)), none⟩,
    ⟨(some 7), .val (.mov (.t 14)), none⟩]
def g36_2 : List Am.Item := [
    ⟨(some 15), .val (.mov (.t 7)), none⟩,
    ⟨(some 16), .val (.bin .num .neq (.t 15) (.c (.int .i64 0))), none⟩]
def g36_3 : List Am.Item := [
    ⟨(some 17), .val (.loadv 0 1 (some 6) (.t 1)), none⟩,
    ⟨(some 18), .val (.mov (.t 7)), none⟩,
    ⟨(some 2), .val (.mov (.c (.int .u64 0))), none⟩,
    ⟨none, .storev 0 3 6 (.t 3) (.t 17), none⟩,
    ⟨(some 4), .val (.mov (.t 18)), none⟩]
def g36_4 : List Am.Item := [
    ⟨(some 19), .val (.mov (.t 5)), none⟩,
    ⟨(some 20), .val (.load (some 6) (.t 1)), none⟩,
    ⟨(some 21), .val (.mov (.t 6)), none⟩,
    ⟨(some 22), .call (.f 41) [(.t 20), (.t 21)], none⟩,
    ⟨(some 2), .val (.mov (.t 19)), none⟩,
    ⟨none, .store 6 (.t 3) (.t 22), none⟩,
    ⟨(some 4), .val (.mov (.c (.int .i64 0))), none⟩]
def r36 : RC := .seq (.reg g36_0) (.seq (.reg g36_1) (.seq (.seq (.reg g36_2) (.cond (.t 16) (.seq (.draw g36_3) (.ret)) (.skip))) (.seq (.reg g36_4) (.ret))))
def o36 : List RR := [.tmp 2, .cell 3 (some 6), .tmp 4]
theorem k36 : chkC Try.prog 23 r36 (Try.f36.body.getD .skip) = true := by decide +kernel
theorem q36 : chkR Try.prog Try.f36.results.toList o36 = true := by decide +kernel

/- wireschema/wireschemaref02.Fixed -/
def g37_0 : List Am.Item := [
    ⟨(some 1), .boxN 1 (.t 0), none⟩,
    ⟨(some 2), .val (.mov (.c (.int .u64 0))), none⟩,
    ⟨(some 3), .allocN 3 [.str [], .int .i64 0, .int .i64 0, .int .i64 0, .int .i64 0, .int .i64 0], none⟩,
    ⟨(some 4), .val (.mov (.c (.int .i64 0))), none⟩]
def g37_1 : List Am.Item := [
    ⟨(some 8), .val (.load (some 6) (.t 1)), none⟩,
    ⟨(some 9), .call (.f 29) [(.t 8)], none⟩,
    ⟨(some 5), .val (.mov (.t 9)), none⟩]
def g37_2 : List Am.Item := [
    ⟨(some 10), .val (.mov (.t 5)), none⟩,
    ⟨(some 11), .val (.len 0 (.t 10)), none⟩,
    ⟨(some 12), .val (.bin .num .lss (.t 11) (.c (.int .i64 8))), none⟩]
def g37_3 : List Am.Item := [
    ⟨(some 13), .val (.loadv 0 1 (some 6) (.t 1)), none⟩,
    ⟨(some 2), .val (.mov (.c (.int .u64 0))), none⟩,
    ⟨none, .storev 0 3 6 (.t 3) (.t 13), none⟩,
    ⟨(some 4), .val (.mov (.c (.int .i64 4))), none⟩]
def g37_4 : List Am.Item := [
    ⟨(some 6), .val (.mov (.c (.int .u64 0))), none⟩]
def g37_5 : List Am.Item := [
    ⟨(some 7), .val (.mov (.c (.int .i64 7))), none⟩]
def g37_6 : List Am.Item := [
    ⟨(some 14), .val (.mov (.t 7)), none⟩,
    ⟨(some 15), .val (.bin .num .geq (.t 14) (.c (.int .i64 0))), none⟩]
def g37_8 : List Am.Item := [
    ⟨(some 18), .val (.mov (.t 6)), none⟩,
    ⟨(some 19), .val (.bin .num .mul (.t 18) (.c (.int .u64 256))), none⟩,
    ⟨(some 20), .val (.mov (.t 5)), none⟩,
    ⟨(some 21), .val (.mov (.t 7)), none⟩,
    ⟨(some 22), .val (.idx (.t 20) (.t 21)), none⟩,
    ⟨(some 23), .val (.cvi .u64 (.t 22)), none⟩,
    ⟨(some 24), .val (.bin .num .add (.t 19) (.t 23)), none⟩,
    ⟨(some 6), .val (.mov (.t 24)), none⟩]
def g37_7 : List Am.Item := [
    ⟨(some 16), .val (.mov (.t 7)), none⟩,
    ⟨(some 17), .val (.bin .num .sub (.t 16) (.c (.int .i64 1))), none⟩,
    ⟨(some 7), .val (.mov (.t 17)), none⟩]
def l37_0 : RC := .seq (.seq (.reg g37_6) (.cond (.t 15) (.skip) (.exit 0))) (.seq (.block 1 (.reg g37_8)) (.reg g37_7))
def g37_9 : List Am.Item := [
    ⟨(some 25), .val (.mov (.t 6)), none⟩,
    ⟨(some 26), .val (.load (some 6) (.t 1)), none⟩,
    ⟨(some 27), .call (.f 41) [(.t 26), (.c (.int .i64 8))], none⟩,
    ⟨(some 2), .val (.mov (.t 25)), none⟩,
    ⟨none, .store 6 (.t 3) (.t 27), none⟩,
    ⟨(some 4), .val (.mov (.c (.int .i64 0))), none⟩]
def r37 : RC := .seq (.reg g37_0) (.seq (.reg g37_1) (.seq (.seq (.reg g37_2) (.cond (.t 12) (.seq (.draw g37_3) (.ret)) (.skip))) (.seq (.reg g37_4) (.seq (.seq (.reg g37_5) (.block 0 (.loop l37_0))) (.seq (.reg g37_9) (.ret))))))
def o37 : List RR := [.tmp 2, .cell 3 (some 6), .tmp 4]
theorem k37 : chkC Try.prog 28 r37 (Try.f37.body.getD .skip) = true := by decide +kernel
theorem q37 : chkR Try.prog Try.f37.results.toList o37 = true := by decide +kernel

/- wireschema/wireschemaref02.Text -/
def g38_0 : List Am.Item := [
    ⟨(some 2), .boxN 2 (.t 0), none⟩,
    ⟨(some 4), .val (.mov (.c (.str []))), none⟩,
    ⟨(some 5), .allocN 5 [.str [], .int .i64 0, .int .i64 0, .int .i64 0, .int .i64 0, .int .i64 0], none⟩,
    ⟨(some 6), .val (.mov (.c (.int .i64 0))), none⟩]
def g38_1 : List Am.Item := [
    ⟨(some 8), .val (.load (some 6) (.t 2)), none⟩,
    ⟨(some 9), .call (.f 29) [(.t 8)], none⟩,
    ⟨(some 7), .val (.mov (.t 9)), none⟩]
def g38_2 : List Am.Item := [
    ⟨(some 10), .val (.mov (.t 1)), none⟩,
    ⟨(some 11), .val (.bin .num .lss (.t 10) (.c (.int .i64 0))), none⟩]
def g38_3 : List Am.Item := [
    ⟨(some 12), .val (.loadv 0 2 (some 6) (.t 2)), none⟩,
    ⟨(some 4), .val (.mov (.c (.str []))), none⟩,
    ⟨none, .storev 0 5 6 (.t 5) (.t 12), none⟩,
    ⟨(some 6), .val (.mov (.c (.int .i64 1))), none⟩]
def g38_4 : List Am.Item := [
    ⟨(some 13), .val (.mov (.t 1)), none⟩,
    ⟨(some 14), .val (.mov (.t 7)), none⟩,
    ⟨(some 15), .val (.len 0 (.t 14)), none⟩,
    ⟨(some 16), .val (.bin .num .gtr (.t 13) (.t 15)), none⟩]
def g38_5 : List Am.Item := [
    ⟨(some 17), .val (.loadv 0 2 (some 6) (.t 2)), none⟩,
    ⟨(some 4), .val (.mov (.c (.str []))), none⟩,
    ⟨none, .storev 0 5 6 (.t 5) (.t 17), none⟩,
    ⟨(some 6), .val (.mov (.c (.int .i64 4))), none⟩]
def g38_6 : List Am.Item := [
    ⟨(some 18), .val (.mov (.t 1)), none⟩,
    ⟨(some 19), .val (.faddr 5 (.t 2)), none⟩,
    ⟨(some 20), .val (.load none (.t 19)), none⟩,
    ⟨(some 21), .val (.bin .num .gtr (.t 18) (.t 20)), none⟩]
def g38_7 : List Am.Item := [
    ⟨(some 22), .val (.loadv 0 2 (some 6) (.t 2)), none⟩,
    ⟨(some 4), .val (.mov (.c (.str []))), none⟩,
    ⟨none, .storev 0 5 6 (.t 5) (.t 22), none⟩,
    ⟨(some 6), .val (.mov (.c (.int .i64 3))), none⟩]
def g38_8 : List Am.Item := [
    ⟨(some 23), .val (.mov (.t 7)), none⟩,
    ⟨(some 24), .val (.mov (.t 1)), none⟩,
    ⟨(some 25), .val (.slc none (.t 23) none (some (.t 24)) none), none⟩,
    ⟨(some 26), .val (.loadv 0 2 (some 6) (.t 2)), none⟩,
    ⟨(some 27), .val (.mov (.t 1)), none⟩,
    ⟨(some 28), .call (.f 41) [(.t 26), (.t 27)], none⟩,
    ⟨(some 4), .val (.mov (.t 25)), none⟩,
    ⟨none, .storev 0 5 6 (.t 5) (.t 28), none⟩,
    ⟨(some 6), .val (.mov (.c (.int .i64 0))), none⟩]
def r38 : RC := .seq (.reg g38_0) (.seq (.reg g38_1) (.seq (.seq (.reg g38_2) (.cond (.t 11) (.seq (.draw g38_3) (.ret)) (.skip))) (.seq (.seq (.reg g38_4) (.cond (.t 16) (.seq (.draw g38_5) (.ret)) (.skip))) (.seq (.seq (.reg g38_6) (.cond (.t 21) (.seq (.draw g38_7) (.ret)) (.skip))) (.seq (.draw g38_8) (.ret))))))
def o38 : List RR := [.tmp 4, .cell 5 (some 6), .tmp 6]
theorem k38 : chkC Try.prog 29 r38 (Try.f38.body.getD .skip) = true := by decide +kernel
theorem q38 : chkR Try.prog Try.f38.results.toList o38 = true := by decide +kernel

/- wireschema/wireschemaref02.Spend -/
def g40_0 : List Am.Item := [
    ⟨(some 2), .boxN 2 (.t 0), none⟩,
    ⟨(some 4), .allocN 4 [.str [], .int .i64 0, .int .i64 0, .int .i64 0, .int .i64 0, .int .i64 0], none⟩,
    ⟨(some 5), .val (.mov (.c (.int .i64 0))), none⟩]
def g40_1 : List Am.Item := [
    ⟨(some 6), .val (.mov (.t 1)), none⟩,
    ⟨(some 7), .val (.bin .num .lss (.t 6) (.c (.int .i64 0))), none⟩]
def g40_2 : List Am.Item := [
    ⟨(some 8), .val (.load (some 6) (.t 2)), none⟩,
    ⟨none, .store 6 (.t 4) (.t 8), none⟩,
    ⟨(some 5), .val (.mov (.c (.int .i64 1))), none⟩]
def g40_3 : List Am.Item := [
    ⟨(some 9), .val (.mov (.t 1)), none⟩,
    ⟨(some 10), .val (.faddr 4 (.t 2)), none⟩,
    ⟨(some 11), .val (.load none (.t 10)), none⟩,
    ⟨(some 12), .val (.bin .num .gtr (.t 9) (.t 11)), none⟩]
def g40_4 : List Am.Item := [
    ⟨(some 13), .val (.load (some 6) (.t 2)), none⟩,
    ⟨none, .store 6 (.t 4) (.t 13), none⟩,
    ⟨(some 5), .val (.mov (.c (.int .i64 3))), none⟩]
def g40_5 : List Am.Item := [
    ⟨(some 14), .val (.faddr 4 (.t 2)), none⟩,
    ⟨(some 15), .val (.load none (.t 14)), none⟩,
    ⟨(some 16), .val (.mov (.t 1)), none⟩,
    ⟨(some 17), .val (.bin .num .sub (.t 15) (.t 16)), none⟩,
    ⟨(some 18), .val (.faddr 4 (.t 2)), none⟩,
    ⟨none, .store 1 (.t 18) (.t 17), none⟩]
def g40_6 : List Am.Item := [
    ⟨(some 19), .val (.load (some 6) (.t 2)), none⟩,
    ⟨none, .store 6 (.t 4) (.t 19), none⟩,
    ⟨(some 5), .val (.mov (.c (.int .i64 0))), none⟩]
def r40 : RC := .seq (.reg g40_0) (.seq (.seq (.reg g40_1) (.cond (.t 7) (.seq (.reg g40_2) (.ret)) (.skip))) (.seq (.seq (.reg g40_3) (.cond (.t 12) (.seq (.reg g40_4) (.ret)) (.skip))) (.seq (.reg g40_5) (.seq (.reg g40_6) (.ret)))))
def o40 : List RR := [.cell 4 (some 6), .tmp 5]
theorem k40 : chkC Try.prog 20 r40 (Try.f40.body.getD .skip) = true := by decide +kernel
theorem q40 : chkR Try.prog Try.f40.results.toList o40 = true := by decide +kernel

/- wireschema/wireschemaref02.Enter -/
def g25_0 : List Am.Item := [
    ⟨(some 2), .boxN 2 (.t 0), none⟩,
    ⟨(some 4), .allocN 4 [.str [], .int .i64 0, .int .i64 0, .int .i64 0, .int .i64 0, .int .i64 0], none⟩,
    ⟨(some 5), .val (.mov (.c (.int .i64 0))), none⟩]
def g25_1 : List Am.Item := [
    ⟨(some 6), .val (.mov (.t 1)), none⟩,
    ⟨(some 7), .val (.bin .num .lss (.t 6) (.c (.int .i64 0))), none⟩]
def g25_2 : List Am.Item := [
    ⟨(some 8), .val (.load (some 6) (.t 2)), none⟩,
    ⟨none, .store 6 (.t 4) (.t 8), none⟩,
    ⟨(some 5), .val (.mov (.c (.int .i64 1))), none⟩]
def g25_3 : List Am.Item := [
    ⟨(some 9), .val (.mov (.t 1)), none⟩,
    ⟨(some 10), .val (.load (some 6) (.t 2)), none⟩,
    ⟨(some 11), .call (.f 14) [(.t 10)], none⟩,
    ⟨(some 12), .val (.bin .num .gtr (.t 9) (.t 11)), none⟩]
def g25_4 : List Am.Item := [
    ⟨(some 13), .val (.load (some 6) (.t 2)), none⟩,
    ⟨none, .store 6 (.t 4) (.t 13), none⟩,
    ⟨(some 5), .val (.mov (.c (.int .i64 4))), none⟩]
def g25_5 : List Am.Item := [
    ⟨(some 14), .val (.faddr 3 (.t 2)), none⟩,
    ⟨(some 15), .val (.load none (.t 14)), none⟩,
    ⟨(some 16), .val (.bin .num .lss (.t 15) (.c (.int .i64 1))), none⟩]
def g25_6 : List Am.Item := [
    ⟨(some 17), .val (.load (some 6) (.t 2)), none⟩,
    ⟨none, .store 6 (.t 4) (.t 17), none⟩,
    ⟨(some 5), .val (.mov (.c (.int .i64 17))), none⟩]
def g25_7 : List Am.Item := [
    ⟨(some 18), .val (.faddr 1 (.t 2)), none⟩,
    ⟨(some 19), .val (.load none (.t 18)), none⟩,
    ⟨(some 20), .val (.mov (.t 1)), none⟩,
    ⟨(some 21), .val (.bin .num .add (.t 19) (.t 20)), none⟩,
    ⟨(some 22), .val (.faddr 2 (.t 2)), none⟩,
    ⟨none, .store 1 (.t 22) (.t 21), none⟩]
def g25_8 : List Am.Item := [
    ⟨(some 23), .val (.faddr 3 (.t 2)), none⟩,
    ⟨(some 24), .val (.load none (.t 23)), none⟩,
    ⟨(some 25), .val (.bin .num .sub (.t 24) (.c (.int .i64 1))), none⟩,
    ⟨(some 26), .val (.faddr 3 (.t 2)), none⟩,
    ⟨none, .store 1 (.t 26) (.t 25), none⟩]
def g25_9 : List Am.Item := [
    ⟨(some 27), .val (.load (some 6) (.t 2)), none⟩,
    ⟨none, .store 6 (.t 4) (.t 27), none⟩,
    ⟨(some 5), .val (.mov (.c (.int .i64 0))), none⟩]
def r25 : RC := .seq (.reg g25_0) (.seq (.seq (.reg g25_1) (.cond (.t 7) (.seq (.reg g25_2) (.ret)) (.skip))) (.seq (.seq (.reg g25_3) (.cond (.t 12) (.seq (.reg g25_4) (.ret)) (.skip))) (.seq (.seq (.reg g25_5) (.cond (.t 16) (.seq (.reg g25_6) (.ret)) (.skip))) (.seq (.reg g25_7) (.seq (.reg g25_8) (.seq (.reg g25_9) (.ret)))))))
def o25 : List RR := [.cell 4 (some 6), .tmp 5]
theorem k25 : chkC Try.prog 28 r25 (Try.f25.body.getD .skip) = true := by decide +kernel
theorem q25 : chkR Try.prog Try.f25.results.toList o25 = true := by decide +kernel

/- wireschema/wireschemaref02.Leave -/
def g19_0 : List Am.Item := [
    ⟨(some 2), .boxN 2 (.t 0), none⟩,
    ⟨(some 3), .boxN 3 (.t 1), none⟩,
    ⟨(some 4), .allocN 4 [.str [], .int .i64 0, .int .i64 0, .int .i64 0, .int .i64 0, .int .i64 0], none⟩]
def g19_1 : List Am.Item := [
    ⟨(some 5), .val (.load (some 6) (.t 2)), none⟩,
    ⟨(some 6), .call (.f 12) [(.t 5)], none⟩,
    ⟨(some 7), .val (.un .not (.t 6)), none⟩,
    ⟨(some 8), .val (.mov (.t 7)), none⟩,
    ⟨(some 9), .val (.faddr 2 (.t 3)), (some (8, false))⟩,
    ⟨(some 10), .val (.load none (.t 9)), (some (8, false))⟩,
    ⟨(some 11), .val (.faddr 1 (.t 2)), (some (8, false))⟩,
    ⟨(some 12), .val (.load none (.t 11)), (some (8, false))⟩,
    ⟨(some 13), .val (.bin .num .lss (.t 10) (.t 12)), (some (8, false))⟩,
    ⟨(some 14), .val (.pick (.t 8) (.c (.bool true)) (.t 13)), none⟩,
    ⟨(some 15), .val (.mov (.t 14)), none⟩,
    ⟨(some 16), .val (.faddr 2 (.t 3)), (some (15, false))⟩,
    ⟨(some 17), .val (.load none (.t 16)), (some (15, false))⟩,
    ⟨(some 18), .val (.faddr 2 (.t 2)), (some (15, false))⟩,
    ⟨(some 19), .val (.load none (.t 18)), (some (15, false))⟩,
    ⟨(some 20), .val (.bin .num .gtr (.t 17) (.t 19)), (some (15, false))⟩,
    ⟨(some 21), .val (.pick (.t 15) (.c (.bool true)) (.t 20)), none⟩,
    ⟨(some 22), .val (.mov (.t 21)), none⟩,
    ⟨(some 23), .val (.faddr 4 (.t 3)), (some (22, false))⟩,
    ⟨(some 24), .val (.load none (.t 23)), (some (22, false))⟩,
    ⟨(some 25), .val (.bin .num .lss (.t 24) (.c (.int .i64 0))), (some (22, false))⟩,
    ⟨(some 26), .val (.pick (.t 22) (.c (.bool true)) (.t 25)), none⟩,
    ⟨(some 27), .val (.mov (.t 26)), none⟩,
    ⟨(some 28), .val (.faddr 4 (.t 3)), (some (27, false))⟩,
    ⟨(some 29), .val (.load none (.t 28)), (some (27, false))⟩,
    ⟨(some 30), .val (.faddr 4 (.t 2)), (some (27, false))⟩,
    ⟨(some 31), .val (.load none (.t 30)), (some (27, false))⟩,
    ⟨(some 32), .val (.bin .num .gtr (.t 29) (.t 31)), (some (27, false))⟩,
    ⟨(some 33), .val (.pick (.t 27) (.c (.bool true)) (.t 32)), none⟩]
def g19_2 : List Am.Item := [
    ⟨(some 34), .val (.load (some 6) (.t 2)), none⟩,
    ⟨none, .store 6 (.t 4) (.t 34), none⟩]
def g19_3 : List Am.Item := [
    ⟨(some 35), .val (.faddr 2 (.t 3)), none⟩,
    ⟨(some 36), .val (.load none (.t 35)), none⟩,
    ⟨(some 37), .val (.faddr 1 (.t 2)), none⟩,
    ⟨none, .store 1 (.t 37) (.t 36), none⟩]
def g19_4 : List Am.Item := [
    ⟨(some 38), .val (.faddr 4 (.t 3)), none⟩,
    ⟨(some 39), .val (.load none (.t 38)), none⟩,
    ⟨(some 40), .val (.faddr 4 (.t 2)), none⟩,
    ⟨none, .store 1 (.t 40) (.t 39), none⟩]
def g19_5 : List Am.Item := [
    ⟨(some 41), .val (.load (some 6) (.t 2)), none⟩,
    ⟨none, .store 6 (.t 4) (.t 41), none⟩]
def r19 : RC := .seq (.reg g19_0) (.seq (.seq (.reg g19_1) (.cond (.t 33) (.seq (.reg g19_2) (.ret)) (.skip))) (.seq (.reg g19_3) (.seq (.reg g19_4) (.seq (.reg g19_5) (.ret)))))
def o19 : List RR := [.cell 4 (some 6)]
theorem k19 : chkC Try.prog 42 r19 (Try.f19.body.getD .skip) = true := by decide +kernel
theorem q19 : chkR Try.prog Try.f19.results.toList o19 = true := by decide +kernel

/- wireschema/wireschemalaw02.awake -/
def g15_0 : List Am.Item := [
    ⟨(some 0), .val (.mov (.c (.bool false))), none⟩]
def g15_1 : List Am.Item := [
    ⟨(some 13), .val (.build [.int .i64 0, .int .i64 0, .int .i64 0, .int .i64 0] [(0, 1, (.c (.int .i64 3))), (1, 1, (.c (.int .i64 1))), (2, 1, (.c (.int .i64 2))), (3, 1, (.c (.int .i64 2)))]), none⟩,
    ⟨(some 14), .call (.f 9) [(.c (.str [5, 97, 98])), (.t 13)], none⟩,
    ⟨(some 12), .val (.mov (.t 14)), none⟩,
    ⟨(some 15), .val (.ext (.t 12) 0), none⟩,
    ⟨(some 16), .val (.ext (.t 12) 1), none⟩,
    ⟨(some 1), .allocN 1 [.str [], .int .i64 0, .int .i64 0, .int .i64 0, .int .i64 0, .int .i64 0], none⟩,
    ⟨none, .store 6 (.t 1) (.t 15), none⟩,
    ⟨(some 2), .val (.mov (.t 16)), none⟩]
def g15_2 : List Am.Item := [
    ⟨(some 18), .val (.load (some 6) (.t 1)), none⟩,
    ⟨(some 19), .call (.f 17) [(.t 18)], none⟩,
    ⟨(some 17), .val (.mov (.t 19)), none⟩,
    ⟨(some 20), .val (.ext (.t 17) 0), none⟩,
    ⟨(some 21), .val (.ext (.t 17) 1), none⟩,
    ⟨(some 22), .val (.ext (.t 17) 2), none⟩,
    ⟨(some 4), .allocN 4 [.str [], .int .i64 0, .int .i64 0, .int .i64 0, .int .i64 0, .int .i64 0], none⟩,
    ⟨(some 3), .val (.mov (.t 20)), none⟩,
    ⟨none, .store 6 (.t 4) (.t 21), none⟩,
    ⟨(some 5), .val (.mov (.t 22)), none⟩]
def g15_3 : List Am.Item := [
    ⟨(some 24), .val (.load (some 6) (.t 4)), none⟩,
    ⟨(some 25), .call (.f 16) [(.t 24), (.c (.int .i64 2))], none⟩,
    ⟨(some 23), .val (.mov (.t 25)), none⟩,
    ⟨(some 26), .val (.ext (.t 23) 0), none⟩,
    ⟨(some 27), .val (.ext (.t 23) 1), none⟩,
    ⟨(some 28), .val (.ext (.t 23) 2), none⟩,
    ⟨(some 7), .allocN 7 [.str [], .int .i64 0, .int .i64 0, .int .i64 0, .int .i64 0, .int .i64 0], none⟩,
    ⟨(some 6), .val (.mov (.t 26)), none⟩,
    ⟨none, .store 6 (.t 7) (.t 27), none⟩,
    ⟨(some 8), .val (.mov (.t 28)), none⟩]
def g15_4 : List Am.Item := [
    ⟨(some 30), .val (.load (some 6) (.t 7)), none⟩,
    ⟨(some 31), .call (.f 17) [(.t 30)], none⟩,
    ⟨(some 29), .val (.mov (.t 31)), none⟩,
    ⟨(some 32), .val (.ext (.t 29) 0), none⟩,
    ⟨(some 33), .val (.ext (.t 29) 1), none⟩,
    ⟨(some 34), .val (.ext (.t 29) 2), none⟩,
    ⟨(some 10), .allocN 10 [.str [], .int .i64 0, .int .i64 0, .int .i64 0, .int .i64 0, .int .i64 0], none⟩,
    ⟨(some 9), .val (.mov (.t 32)), none⟩,
    ⟨none, .store 6 (.t 10) (.t 33), none⟩,
    ⟨(some 11), .val (.mov (.t 34)), none⟩]
def g15_5 : List Am.Item := [
    ⟨(some 35), .val (.mov (.t 2)), none⟩,
    ⟨(some 36), .val (.bin .num .eql (.t 35) (.c (.int .i64 0))), none⟩,
    ⟨(some 37), .val (.mov (.t 36)), none⟩,
    ⟨(some 38), .val (.mov (.t 5)), (some (37, true))⟩,
    ⟨(some 39), .val (.bin .num .eql (.t 38) (.c (.int .i64 0))), (some (37, true))⟩,
    ⟨(some 40), .val (.pick (.t 37) (.t 39) (.c (.bool false))), none⟩,
    ⟨(some 41), .val (.mov (.t 40)), none⟩,
    ⟨(some 42), .val (.mov (.t 3)), (some (41, true))⟩,
    ⟨(some 43), .val (.bin .num .eql (.t 42) (.c (.int .u8 5))), (some (41, true))⟩,
    ⟨(some 44), .val (.pick (.t 41) (.t 43) (.c (.bool false))), none⟩,
    ⟨(some 45), .val (.mov (.t 44)), none⟩,
    ⟨(some 46), .val (.mov (.t 8)), (some (45, true))⟩,
    ⟨(some 47), .val (.bin .num .eql (.t 46) (.c (.int .i64 0))), (some (45, true))⟩,
    ⟨(some 48), .val (.pick (.t 45) (.t 47) (.c (.bool false))), none⟩,
    ⟨(some 49), .val (.mov (.t 48)), none⟩,
    ⟨(some 50), .val (.mov (.t 6)), (some (49, true))⟩,
    ⟨(some 51), .val (.bin .str .eql (.t 50) (.c (.str [97, 98]))), (some (49, true))⟩,
    ⟨(some 52), .val (.pick (.t 49) (.t 51) (.c (.bool false))), none⟩,
    ⟨(some 53), .val (.mov (.t 52)), none⟩,
    ⟨(some 54), .val (.mov (.t 11)), (some (53, true))⟩,
    ⟨(some 55), .val (.bin .num .eql (.t 54) (.c (.int .i64 4))), (some (53, true))⟩,
    ⟨(some 56), .val (.pick (.t 53) (.t 55) (.c (.bool false))), none⟩,
    ⟨(some 57), .val (.mov (.t 56)), none⟩,
    ⟨(some 58), .val (.load (some 6) (.t 1)), (some (57, true))⟩,
    ⟨(some 59), .call (.f 13) [(.t 58)], (some (57, true))⟩,
    ⟨(some 60), .val (.bin .num .eql (.t 59) (.c (.int .i64 3))), (some (57, true))⟩,
    ⟨(some 61), .val (.pick (.t 57) (.t 60) (.c (.bool false))), none⟩,
    ⟨(some 62), .val (.mov (.t 61)), none⟩,
    ⟨(some 63), .val (.load (some 6) (.t 7)), (some (62, true))⟩,
    ⟨(some 64), .call (.f 11) [(.t 63)], (some (62, true))⟩,
    ⟨(some 65), .val (.pick (.t 62) (.t 64) (.c (.bool false))), none⟩,
    ⟨(some 0), .val (.mov (.t 65)), none⟩]
def r15 : RC := .seq (.reg g15_0) (.seq (.reg g15_1) (.seq (.reg g15_2) (.seq (.reg g15_3) (.seq (.reg g15_4) (.seq (.reg g15_5) (.ret))))))
def o15 : List RR := [.tmp 0]
theorem k15 : chkC Try.prog 66 r15 (Try.f15.body.getD .skip) = true := by decide +kernel
theorem q15 : chkR Try.prog Try.f15.results.toList o15 = true := by decide +kernel

/- wireschema/wireschemalaw02.step -/
def g26_0 : List Am.Item := [
    ⟨(some 2), .boxN 2 (.t 0), none⟩,
    ⟨(some 3), .boxN 3 (.t 1), none⟩,
    ⟨(some 4), .allocN 4 [.str [], .int .i64 0, .int .i64 0, .int .i64 0, .int .i64 0, .int .i64 0], none⟩,
    ⟨(some 5), .val (.mov (.c (.bool false))), none⟩]
def g26_1 : List Am.Item := [
    ⟨(some 34), .val (.faddr 0 (.t 3)), none⟩,
    ⟨(some 35), .val (.load none (.t 34)), none⟩]
def g26_2 : List Am.Item := [
    ⟨(some 37), .val (.bin .num .eql (.t 35) (.c (.int .i64 0))), none⟩,
    ⟨(some 36), .val (.mov (.t 37)), none⟩]
def g26_3 : List Am.Item := [
    ⟨(some 39), .val (.load (some 6) (.t 2)), none⟩,
    ⟨(some 40), .call (.f 17) [(.t 39)], none⟩,
    ⟨(some 38), .val (.mov (.t 40)), none⟩,
    ⟨(some 41), .val (.ext (.t 38) 0), none⟩,
    ⟨(some 42), .val (.ext (.t 38) 1), none⟩,
    ⟨(some 43), .val (.ext (.t 38) 2), none⟩,
    ⟨(some 7), .allocN 7 [.str [], .int .i64 0, .int .i64 0, .int .i64 0, .int .i64 0, .int .i64 0], none⟩,
    ⟨(some 6), .val (.mov (.t 41)), none⟩,
    ⟨none, .store 6 (.t 7) (.t 42), none⟩,
    ⟨(some 8), .val (.mov (.t 43)), none⟩]
def g26_4 : List Am.Item := [
    ⟨(some 45), .val (.load (some 6) (.t 2)), none⟩,
    ⟨(some 46), .call (.f 35) [(.t 45)], none⟩,
    ⟨(some 44), .val (.mov (.t 46)), none⟩,
    ⟨(some 47), .val (.ext (.t 44) 0), none⟩,
    ⟨(some 48), .val (.ext (.t 44) 1), none⟩,
    ⟨(some 49), .val (.ext (.t 44) 2), none⟩,
    ⟨(some 10), .allocN 10 [.str [], .int .i64 0, .int .i64 0, .int .i64 0, .int .i64 0, .int .i64 0], none⟩,
    ⟨(some 9), .val (.mov (.t 47)), none⟩,
    ⟨none, .store 6 (.t 10) (.t 48), none⟩,
    ⟨(some 11), .val (.mov (.t 49)), none⟩]
def g26_5 : List Am.Item := [
    ⟨(some 50), .val (.loadv 0 7 (some 6) (.t 7)), none⟩,
    ⟨(some 51), .val (.mov (.t 6)), none⟩,
    ⟨(some 52), .val (.mov (.t 9)), none⟩,
    ⟨(some 53), .val (.bin .num .eql (.t 51) (.t 52)), none⟩,
    ⟨(some 54), .val (.mov (.t 53)), none⟩,
    ⟨(some 55), .val (.loadv 0 7 (some 6) (.t 7)), (some (54, true))⟩,
    ⟨(some 56), .val (.loadv 0 10 (some 6) (.t 10)), (some (54, true))⟩,
    ⟨(some 57), .val (.eqs false [.str, .num, .num, .num, .num, .num] (.t 55) (.t 56)), (some (54, true))⟩,
    ⟨(some 58), .val (.pick (.t 54) (.t 57) (.c (.bool false))), none⟩,
    ⟨(some 59), .val (.mov (.t 58)), none⟩,
    ⟨(some 60), .val (.mov (.t 8)), (some (59, true))⟩,
    ⟨(some 61), .val (.mov (.t 11)), (some (59, true))⟩,
    ⟨(some 62), .val (.bin .num .eql (.t 60) (.t 61)), (some (59, true))⟩,
    ⟨(some 63), .val (.pick (.t 59) (.t 62) (.c (.bool false))), none⟩,
    ⟨none, .storev 0 4 6 (.t 4) (.t 50), none⟩,
    ⟨(some 5), .val (.mov (.t 63)), none⟩]
def g26_6 : List Am.Item := [
    ⟨(some 65), .val (.bin .num .eql (.t 35) (.c (.int .i64 1))), none⟩,
    ⟨(some 64), .val (.mov (.t 65)), none⟩]
def g26_7 : List Am.Item := [
    ⟨(some 67), .val (.load (some 6) (.t 2)), none⟩,
    ⟨(some 68), .call (.f 22) [(.t 67)], none⟩,
    ⟨(some 66), .val (.mov (.t 68)), none⟩,
    ⟨(some 69), .val (.ext (.t 66) 0), none⟩,
    ⟨(some 70), .val (.ext (.t 66) 1), none⟩,
    ⟨(some 71), .val (.ext (.t 66) 2), none⟩,
    ⟨(some 13), .allocN 13 [.str [], .int .i64 0, .int .i64 0, .int .i64 0, .int .i64 0, .int .i64 0], none⟩,
    ⟨(some 12), .val (.mov (.t 69)), none⟩,
    ⟨none, .store 6 (.t 13) (.t 70), none⟩,
    ⟨(some 14), .val (.mov (.t 71)), none⟩]
def g26_8 : List Am.Item := [
    ⟨(some 73), .val (.load (some 6) (.t 2)), none⟩,
    ⟨(some 74), .call (.f 36) [(.t 73)], none⟩,
    ⟨(some 72), .val (.mov (.t 74)), none⟩,
    ⟨(some 75), .val (.ext (.t 72) 0), none⟩,
    ⟨(some 76), .val (.ext (.t 72) 1), none⟩,
    ⟨(some 77), .val (.ext (.t 72) 2), none⟩,
    ⟨(some 16), .allocN 16 [.str [], .int .i64 0, .int .i64 0, .int .i64 0, .int .i64 0, .int .i64 0], none⟩,
    ⟨(some 15), .val (.mov (.t 75)), none⟩,
    ⟨none, .store 6 (.t 16) (.t 76), none⟩,
    ⟨(some 17), .val (.mov (.t 77)), none⟩]
def g26_9 : List Am.Item := [
    ⟨(some 78), .val (.loadv 0 13 (some 6) (.t 13)), none⟩,
    ⟨(some 79), .val (.mov (.t 12)), none⟩,
    ⟨(some 80), .val (.mov (.t 15)), none⟩,
    ⟨(some 81), .val (.bin .num .eql (.t 79) (.t 80)), none⟩,
    ⟨(some 82), .val (.mov (.t 81)), none⟩,
    ⟨(some 83), .val (.loadv 0 13 (some 6) (.t 13)), (some (82, true))⟩,
    ⟨(some 84), .val (.loadv 0 16 (some 6) (.t 16)), (some (82, true))⟩,
    ⟨(some 85), .val (.eqs false [.str, .num, .num, .num, .num, .num] (.t 83) (.t 84)), (some (82, true))⟩,
    ⟨(some 86), .val (.pick (.t 82) (.t 85) (.c (.bool false))), none⟩,
    ⟨(some 87), .val (.mov (.t 86)), none⟩,
    ⟨(some 88), .val (.mov (.t 14)), (some (87, true))⟩,
    ⟨(some 89), .val (.mov (.t 17)), (some (87, true))⟩,
    ⟨(some 90), .val (.bin .num .eql (.t 88) (.t 89)), (some (87, true))⟩,
    ⟨(some 91), .val (.pick (.t 87) (.t 90) (.c (.bool false))), none⟩,
    ⟨none, .storev 0 4 6 (.t 4) (.t 78), none⟩,
    ⟨(some 5), .val (.mov (.t 91)), none⟩]
def g26_10 : List Am.Item := [
    ⟨(some 93), .val (.bin .num .eql (.t 35) (.c (.int .i64 2))), none⟩,
    ⟨(some 92), .val (.mov (.t 93)), none⟩]
def g26_11 : List Am.Item := [
    ⟨(some 95), .val (.load (some 6) (.t 2)), none⟩,
    ⟨(some 96), .call (.f 23) [(.t 95)], none⟩,
    ⟨(some 94), .val (.mov (.t 96)), none⟩,
    ⟨(some 97), .val (.ext (.t 94) 0), none⟩,
    ⟨(some 98), .val (.ext (.t 94) 1), none⟩,
    ⟨(some 99), .val (.ext (.t 94) 2), none⟩,
    ⟨(some 19), .allocN 19 [.str [], .int .i64 0, .int .i64 0, .int .i64 0, .int .i64 0, .int .i64 0], none⟩,
    ⟨(some 18), .val (.mov (.t 97)), none⟩,
    ⟨none, .store 6 (.t 19) (.t 98), none⟩,
    ⟨(some 20), .val (.mov (.t 99)), none⟩]
def g26_12 : List Am.Item := [
    ⟨(some 101), .val (.load (some 6) (.t 2)), none⟩,
    ⟨(some 102), .call (.f 37) [(.t 101)], none⟩,
    ⟨(some 100), .val (.mov (.t 102)), none⟩,
    ⟨(some 103), .val (.ext (.t 100) 0), none⟩,
    ⟨(some 104), .val (.ext (.t 100) 1), none⟩,
    ⟨(some 105), .val (.ext (.t 100) 2), none⟩,
    ⟨(some 22), .allocN 22 [.str [], .int .i64 0, .int .i64 0, .int .i64 0, .int .i64 0, .int .i64 0], none⟩,
    ⟨(some 21), .val (.mov (.t 103)), none⟩,
    ⟨none, .store 6 (.t 22) (.t 104), none⟩,
    ⟨(some 23), .val (.mov (.t 105)), none⟩]
def g26_13 : List Am.Item := [
    ⟨(some 106), .val (.loadv 0 19 (some 6) (.t 19)), none⟩,
    ⟨(some 107), .val (.mov (.t 18)), none⟩,
    ⟨(some 108), .val (.mov (.t 21)), none⟩,
    ⟨(some 109), .val (.bin .num .eql (.t 107) (.t 108)), none⟩,
    ⟨(some 110), .val (.mov (.t 109)), none⟩,
    ⟨(some 111), .val (.loadv 0 19 (some 6) (.t 19)), (some (110, true))⟩,
    ⟨(some 112), .val (.loadv 0 22 (some 6) (.t 22)), (some (110, true))⟩,
    ⟨(some 113), .val (.eqs false [.str, .num, .num, .num, .num, .num] (.t 111) (.t 112)), (some (110, true))⟩,
    ⟨(some 114), .val (.pick (.t 110) (.t 113) (.c (.bool false))), none⟩,
    ⟨(some 115), .val (.mov (.t 114)), none⟩,
    ⟨(some 116), .val (.mov (.t 20)), (some (115, true))⟩,
    ⟨(some 117), .val (.mov (.t 23)), (some (115, true))⟩,
    ⟨(some 118), .val (.bin .num .eql (.t 116) (.t 117)), (some (115, true))⟩,
    ⟨(some 119), .val (.pick (.t 115) (.t 118) (.c (.bool false))), none⟩,
    ⟨none, .storev 0 4 6 (.t 4) (.t 106), none⟩,
    ⟨(some 5), .val (.mov (.t 119)), none⟩]
def g26_14 : List Am.Item := [
    ⟨(some 121), .val (.bin .num .eql (.t 35) (.c (.int .i64 3))), none⟩,
    ⟨(some 120), .val (.mov (.t 121)), none⟩]
def g26_15 : List Am.Item := [
    ⟨(some 123), .val (.load (some 6) (.t 2)), none⟩,
    ⟨(some 124), .val (.faddr 1 (.t 3)), none⟩,
    ⟨(some 125), .val (.load none (.t 124)), none⟩,
    ⟨(some 126), .call (.f 16) [(.t 123), (.t 125)], none⟩,
    ⟨(some 122), .val (.mov (.t 126)), none⟩,
    ⟨(some 127), .val (.ext (.t 122) 0), none⟩,
    ⟨(some 128), .val (.ext (.t 122) 1), none⟩,
    ⟨(some 129), .val (.ext (.t 122) 2), none⟩,
    ⟨(some 25), .allocN 25 [.str [], .int .i64 0, .int .i64 0, .int .i64 0, .int .i64 0, .int .i64 0], none⟩,
    ⟨(some 24), .val (.mov (.t 127)), none⟩,
    ⟨none, .store 6 (.t 25) (.t 128), none⟩,
    ⟨(some 26), .val (.mov (.t 129)), none⟩]
def g26_16 : List Am.Item := [
    ⟨(some 131), .val (.load (some 6) (.t 2)), none⟩,
    ⟨(some 132), .val (.faddr 1 (.t 3)), none⟩,
    ⟨(some 133), .val (.load none (.t 132)), none⟩,
    ⟨(some 134), .call (.f 38) [(.t 131), (.t 133)], none⟩,
    ⟨(some 130), .val (.mov (.t 134)), none⟩,
    ⟨(some 135), .val (.ext (.t 130) 0), none⟩,
    ⟨(some 136), .val (.ext (.t 130) 1), none⟩,
    ⟨(some 137), .val (.ext (.t 130) 2), none⟩,
    ⟨(some 28), .allocN 28 [.str [], .int .i64 0, .int .i64 0, .int .i64 0, .int .i64 0, .int .i64 0], none⟩,
    ⟨(some 27), .val (.mov (.t 135)), none⟩,
    ⟨none, .store 6 (.t 28) (.t 136), none⟩,
    ⟨(some 29), .val (.mov (.t 137)), none⟩]
def g26_17 : List Am.Item := [
    ⟨(some 138), .val (.loadv 0 25 (some 6) (.t 25)), none⟩,
    ⟨(some 139), .val (.mov (.t 24)), none⟩,
    ⟨(some 140), .val (.mov (.t 27)), none⟩,
    ⟨(some 141), .val (.bin .str .eql (.t 139) (.t 140)), none⟩,
    ⟨(some 142), .val (.mov (.t 141)), none⟩,
    ⟨(some 143), .val (.loadv 0 25 (some 6) (.t 25)), (some (142, true))⟩,
    ⟨(some 144), .val (.loadv 0 28 (some 6) (.t 28)), (some (142, true))⟩,
    ⟨(some 145), .val (.eqs false [.str, .num, .num, .num, .num, .num] (.t 143) (.t 144)), (some (142, true))⟩,
    ⟨(some 146), .val (.pick (.t 142) (.t 145) (.c (.bool false))), none⟩,
    ⟨(some 147), .val (.mov (.t 146)), none⟩,
    ⟨(some 148), .val (.mov (.t 26)), (some (147, true))⟩,
    ⟨(some 149), .val (.mov (.t 29)), (some (147, true))⟩,
    ⟨(some 150), .val (.bin .num .eql (.t 148) (.t 149)), (some (147, true))⟩,
    ⟨(some 151), .val (.pick (.t 147) (.t 150) (.c (.bool false))), none⟩,
    ⟨none, .storev 0 4 6 (.t 4) (.t 138), none⟩,
    ⟨(some 5), .val (.mov (.t 151)), none⟩]
def g26_18 : List Am.Item := [
    ⟨(some 153), .val (.bin .num .eql (.t 35) (.c (.int .i64 4))), none⟩,
    ⟨(some 152), .val (.mov (.t 153)), none⟩]
def g26_19 : List Am.Item := [
    ⟨(some 155), .val (.load (some 6) (.t 2)), none⟩,
    ⟨(some 156), .val (.faddr 1 (.t 3)), none⟩,
    ⟨(some 157), .val (.load none (.t 156)), none⟩,
    ⟨(some 158), .call (.f 39) [(.t 155), (.t 157)], none⟩,
    ⟨(some 154), .val (.mov (.t 158)), none⟩,
    ⟨(some 159), .val (.ext (.t 154) 0), none⟩,
    ⟨(some 160), .val (.ext (.t 154) 1), none⟩,
    ⟨(some 30), .allocN 30 [.str [], .int .i64 0, .int .i64 0, .int .i64 0, .int .i64 0, .int .i64 0], none⟩,
    ⟨none, .store 6 (.t 30) (.t 159), none⟩,
    ⟨(some 31), .val (.mov (.t 160)), none⟩]
def g26_20 : List Am.Item := [
    ⟨(some 162), .val (.load (some 6) (.t 2)), none⟩,
    ⟨(some 163), .val (.faddr 1 (.t 3)), none⟩,
    ⟨(some 164), .val (.load none (.t 163)), none⟩,
    ⟨(some 165), .call (.f 40) [(.t 162), (.t 164)], none⟩,
    ⟨(some 161), .val (.mov (.t 165)), none⟩,
    ⟨(some 166), .val (.ext (.t 161) 0), none⟩,
    ⟨(some 167), .val (.ext (.t 161) 1), none⟩,
    ⟨(some 32), .allocN 32 [.str [], .int .i64 0, .int .i64 0, .int .i64 0, .int .i64 0, .int .i64 0], none⟩,
    ⟨none, .store 6 (.t 32) (.t 166), none⟩,
    ⟨(some 33), .val (.mov (.t 167)), none⟩]
def g26_21 : List Am.Item := [
    ⟨(some 168), .val (.loadv 0 30 (some 6) (.t 30)), none⟩,
    ⟨(some 169), .val (.loadv 0 30 (some 6) (.t 30)), none⟩,
    ⟨(some 170), .val (.loadv 0 32 (some 6) (.t 32)), none⟩,
    ⟨(some 171), .val (.eqs false [.str, .num, .num, .num, .num, .num] (.t 169) (.t 170)), none⟩,
    ⟨(some 172), .val (.mov (.t 171)), none⟩,
    ⟨(some 173), .val (.mov (.t 31)), (some (172, true))⟩,
    ⟨(some 174), .val (.mov (.t 33)), (some (172, true))⟩,
    ⟨(some 175), .val (.bin .num .eql (.t 173) (.t 174)), (some (172, true))⟩,
    ⟨(some 176), .val (.pick (.t 172) (.t 175) (.c (.bool false))), none⟩,
    ⟨none, .storev 0 4 6 (.t 4) (.t 168), none⟩,
    ⟨(some 5), .val (.mov (.t 176)), none⟩]
def g26_22 : List Am.Item := [
    ⟨(some 177), .val (.load (some 6) (.t 2)), none⟩,
    ⟨none, .store 6 (.t 4) (.t 177), none⟩,
    ⟨(some 5), .val (.mov (.c (.bool true))), none⟩]
def r26 : RC := .seq (.reg g26_0) (.seq (.seq (.reg g26_1) (.block 0 (.seq (.reg g26_2) (.cond (.t 36) (.seq (.reg g26_3) (.seq (.reg g26_4) (.seq (.draw g26_5) (.ret)))) (.seq (.reg g26_6) (.cond (.t 64) (.seq (.reg g26_7) (.seq (.reg g26_8) (.seq (.draw g26_9) (.ret)))) (.seq (.reg g26_10) (.cond (.t 92) (.seq (.reg g26_11) (.seq (.reg g26_12) (.seq (.draw g26_13) (.ret)))) (.seq (.reg g26_14) (.cond (.t 120) (.seq (.reg g26_15) (.seq (.reg g26_16) (.seq (.draw g26_17) (.ret)))) (.seq (.reg g26_18) (.cond (.t 152) (.seq (.reg g26_19) (.seq (.reg g26_20) (.seq (.draw g26_21) (.ret)))) (.skip))))))))))))) (.seq (.reg g26_22) (.ret)))
def o26 : List RR := [.cell 4 (some 6), .tmp 5]
theorem k26 : chkC Try.prog 178 r26 (Try.f26.body.getD .skip) = true := by decide +kernel
theorem q26 : chkR Try.prog Try.f26.results.toList o26 = true := by decide +kernel

/- wireschema/wireschemalaw02.next -/
def g28_0 : List Am.Item := [
    ⟨(some 2), .boxN 2 (.t 0), none⟩,
    ⟨(some 3), .boxN 3 (.t 1), none⟩,
    ⟨(some 4), .allocN 4 [.str [], .int .i64 0, .int .i64 0, .int .i64 0, .int .i64 0, .int .i64 0], none⟩]
def g28_1 : List Am.Item := [
    ⟨(some 19), .val (.faddr 0 (.t 3)), none⟩,
    ⟨(some 20), .val (.load none (.t 19)), none⟩]
def g28_2 : List Am.Item := [
    ⟨(some 22), .val (.bin .num .eql (.t 20) (.c (.int .i64 0))), none⟩,
    ⟨(some 21), .val (.mov (.t 22)), none⟩]
def g28_3 : List Am.Item := [
    ⟨(some 24), .val (.load (some 6) (.t 2)), none⟩,
    ⟨(some 25), .call (.f 17) [(.t 24)], none⟩,
    ⟨(some 23), .val (.mov (.t 25)), none⟩,
    ⟨(some 26), .val (.ext (.t 23) 0), none⟩,
    ⟨(some 27), .val (.ext (.t 23) 1), none⟩,
    ⟨(some 28), .val (.ext (.t 23) 2), none⟩,
    ⟨(some 6), .allocN 6 [.str [], .int .i64 0, .int .i64 0, .int .i64 0, .int .i64 0, .int .i64 0], none⟩,
    ⟨(some 5), .val (.mov (.t 26)), none⟩,
    ⟨none, .store 6 (.t 6) (.t 27), none⟩,
    ⟨(some 7), .val (.mov (.t 28)), none⟩]
def g28_4 : List Am.Item := [
    ⟨(some 29), .val (.load (some 6) (.t 6)), none⟩,
    ⟨none, .store 6 (.t 4) (.t 29), none⟩]
def g28_5 : List Am.Item := [
    ⟨(some 31), .val (.bin .num .eql (.t 20) (.c (.int .i64 1))), none⟩,
    ⟨(some 30), .val (.mov (.t 31)), none⟩]
def g28_6 : List Am.Item := [
    ⟨(some 33), .val (.load (some 6) (.t 2)), none⟩,
    ⟨(some 34), .call (.f 22) [(.t 33)], none⟩,
    ⟨(some 32), .val (.mov (.t 34)), none⟩,
    ⟨(some 35), .val (.ext (.t 32) 0), none⟩,
    ⟨(some 36), .val (.ext (.t 32) 1), none⟩,
    ⟨(some 37), .val (.ext (.t 32) 2), none⟩,
    ⟨(some 9), .allocN 9 [.str [], .int .i64 0, .int .i64 0, .int .i64 0, .int .i64 0, .int .i64 0], none⟩,
    ⟨(some 8), .val (.mov (.t 35)), none⟩,
    ⟨none, .store 6 (.t 9) (.t 36), none⟩,
    ⟨(some 10), .val (.mov (.t 37)), none⟩]
def g28_7 : List Am.Item := [
    ⟨(some 38), .val (.load (some 6) (.t 9)), none⟩,
    ⟨none, .store 6 (.t 4) (.t 38), none⟩]
def g28_8 : List Am.Item := [
    ⟨(some 40), .val (.bin .num .eql (.t 20) (.c (.int .i64 2))), none⟩,
    ⟨(some 39), .val (.mov (.t 40)), none⟩]
def g28_9 : List Am.Item := [
    ⟨(some 42), .val (.load (some 6) (.t 2)), none⟩,
    ⟨(some 43), .call (.f 23) [(.t 42)], none⟩,
    ⟨(some 41), .val (.mov (.t 43)), none⟩,
    ⟨(some 44), .val (.ext (.t 41) 0), none⟩,
    ⟨(some 45), .val (.ext (.t 41) 1), none⟩,
    ⟨(some 46), .val (.ext (.t 41) 2), none⟩,
    ⟨(some 12), .allocN 12 [.str [], .int .i64 0, .int .i64 0, .int .i64 0, .int .i64 0, .int .i64 0], none⟩,
    ⟨(some 11), .val (.mov (.t 44)), none⟩,
    ⟨none, .store 6 (.t 12) (.t 45), none⟩,
    ⟨(some 13), .val (.mov (.t 46)), none⟩]
def g28_10 : List Am.Item := [
    ⟨(some 47), .val (.load (some 6) (.t 12)), none⟩,
    ⟨none, .store 6 (.t 4) (.t 47), none⟩]
def g28_11 : List Am.Item := [
    ⟨(some 49), .val (.bin .num .eql (.t 20) (.c (.int .i64 3))), none⟩,
    ⟨(some 48), .val (.mov (.t 49)), none⟩]
def g28_12 : List Am.Item := [
    ⟨(some 51), .val (.load (some 6) (.t 2)), none⟩,
    ⟨(some 52), .val (.faddr 1 (.t 3)), none⟩,
    ⟨(some 53), .val (.load none (.t 52)), none⟩,
    ⟨(some 54), .call (.f 16) [(.t 51), (.t 53)], none⟩,
    ⟨(some 50), .val (.mov (.t 54)), none⟩,
    ⟨(some 55), .val (.ext (.t 50) 0), none⟩,
    ⟨(some 56), .val (.ext (.t 50) 1), none⟩,
    ⟨(some 57), .val (.ext (.t 50) 2), none⟩,
    ⟨(some 15), .allocN 15 [.str [], .int .i64 0, .int .i64 0, .int .i64 0, .int .i64 0, .int .i64 0], none⟩,
    ⟨(some 14), .val (.mov (.t 55)), none⟩,
    ⟨none, .store 6 (.t 15) (.t 56), none⟩,
    ⟨(some 16), .val (.mov (.t 57)), none⟩]
def g28_13 : List Am.Item := [
    ⟨(some 58), .val (.load (some 6) (.t 15)), none⟩,
    ⟨none, .store 6 (.t 4) (.t 58), none⟩]
def g28_14 : List Am.Item := [
    ⟨(some 60), .val (.bin .num .eql (.t 20) (.c (.int .i64 4))), none⟩,
    ⟨(some 59), .val (.mov (.t 60)), none⟩]
def g28_15 : List Am.Item := [
    ⟨(some 62), .val (.load (some 6) (.t 2)), none⟩,
    ⟨(some 63), .val (.faddr 1 (.t 3)), none⟩,
    ⟨(some 64), .val (.load none (.t 63)), none⟩,
    ⟨(some 65), .call (.f 39) [(.t 62), (.t 64)], none⟩,
    ⟨(some 61), .val (.mov (.t 65)), none⟩,
    ⟨(some 66), .val (.ext (.t 61) 0), none⟩,
    ⟨(some 67), .val (.ext (.t 61) 1), none⟩,
    ⟨(some 17), .allocN 17 [.str [], .int .i64 0, .int .i64 0, .int .i64 0, .int .i64 0, .int .i64 0], none⟩,
    ⟨none, .store 6 (.t 17) (.t 66), none⟩,
    ⟨(some 18), .val (.mov (.t 67)), none⟩]
def g28_16 : List Am.Item := [
    ⟨(some 68), .val (.load (some 6) (.t 17)), none⟩,
    ⟨none, .store 6 (.t 4) (.t 68), none⟩]
def g28_17 : List Am.Item := [
    ⟨(some 69), .val (.load (some 6) (.t 2)), none⟩,
    ⟨none, .store 6 (.t 4) (.t 69), none⟩]
def r28 : RC := .seq (.reg g28_0) (.seq (.seq (.reg g28_1) (.block 0 (.seq (.reg g28_2) (.cond (.t 21) (.seq (.reg g28_3) (.seq (.reg g28_4) (.ret))) (.seq (.reg g28_5) (.cond (.t 30) (.seq (.reg g28_6) (.seq (.reg g28_7) (.ret))) (.seq (.reg g28_8) (.cond (.t 39) (.seq (.reg g28_9) (.seq (.reg g28_10) (.ret))) (.seq (.reg g28_11) (.cond (.t 48) (.seq (.reg g28_12) (.seq (.reg g28_13) (.ret))) (.seq (.reg g28_14) (.cond (.t 59) (.seq (.reg g28_15) (.seq (.reg g28_16) (.ret))) (.skip))))))))))))) (.seq (.reg g28_17) (.ret)))
def o28 : List RR := [.cell 4 (some 6)]
theorem k28 : chkC Try.prog 70 r28 (Try.f28.body.getD .skip) = true := by decide +kernel
theorem q28 : chkR Try.prog Try.f28.results.toList o28 = true := by decide +kernel

/- wireschema/wireschemalaw02.within -/
def g27_0 : List Am.Item := [
    ⟨(some 2), .boxN 2 (.t 0), none⟩,
    ⟨(some 3), .boxN 3 (.t 1), none⟩,
    ⟨(some 4), .val (.mov (.c (.bool false))), none⟩]
def g27_1 : List Am.Item := [
    ⟨(some 5), .val (.load (some 6) (.t 2)), none⟩,
    ⟨(some 6), .call (.f 11) [(.t 5)], none⟩,
    ⟨(some 7), .val (.mov (.t 6)), none⟩,
    ⟨(some 8), .val (.faddr 0 (.t 2)), (some (7, true))⟩,
    ⟨(some 9), .val (.load none (.t 8)), (some (7, true))⟩,
    ⟨(some 10), .val (.faddr 0 (.t 3)), (some (7, true))⟩,
    ⟨(some 11), .val (.load none (.t 10)), (some (7, true))⟩,
    ⟨(some 12), .val (.bin .str .eql (.t 9) (.t 11)), (some (7, true))⟩,
    ⟨(some 13), .val (.pick (.t 7) (.t 12) (.c (.bool false))), none⟩,
    ⟨(some 14), .val (.mov (.t 13)), none⟩,
    ⟨(some 15), .val (.faddr 1 (.t 2)), (some (14, true))⟩,
    ⟨(some 16), .val (.load none (.t 15)), (some (14, true))⟩,
    ⟨(some 17), .val (.faddr 1 (.t 3)), (some (14, true))⟩,
    ⟨(some 18), .val (.load none (.t 17)), (some (14, true))⟩,
    ⟨(some 19), .val (.bin .num .geq (.t 16) (.t 18)), (some (14, true))⟩,
    ⟨(some 20), .val (.pick (.t 14) (.t 19) (.c (.bool false))), none⟩,
    ⟨(some 21), .val (.mov (.t 20)), none⟩,
    ⟨(some 22), .val (.faddr 2 (.t 2)), (some (21, true))⟩,
    ⟨(some 23), .val (.load none (.t 22)), (some (21, true))⟩,
    ⟨(some 24), .val (.faddr 2 (.t 3)), (some (21, true))⟩,
    ⟨(some 25), .val (.load none (.t 24)), (some (21, true))⟩,
    ⟨(some 26), .val (.bin .num .leq (.t 23) (.t 25)), (some (21, true))⟩,
    ⟨(some 27), .val (.pick (.t 21) (.t 26) (.c (.bool false))), none⟩,
    ⟨(some 28), .val (.mov (.t 27)), none⟩,
    ⟨(some 29), .val (.faddr 3 (.t 2)), (some (28, true))⟩,
    ⟨(some 30), .val (.load none (.t 29)), (some (28, true))⟩,
    ⟨(some 31), .val (.faddr 3 (.t 3)), (some (28, true))⟩,
    ⟨(some 32), .val (.load none (.t 31)), (some (28, true))⟩,
    ⟨(some 33), .val (.bin .num .leq (.t 30) (.t 32)), (some (28, true))⟩,
    ⟨(some 34), .val (.pick (.t 28) (.t 33) (.c (.bool false))), none⟩,
    ⟨(some 35), .val (.mov (.t 34)), none⟩,
    ⟨(some 36), .val (.faddr 4 (.t 2)), (some (35, true))⟩,
    ⟨(some 37), .val (.load none (.t 36)), (some (35, true))⟩,
    ⟨(some 38), .val (.faddr 4 (.t 3)), (some (35, true))⟩,
    ⟨(some 39), .val (.load none (.t 38)), (some (35, true))⟩,
    ⟨(some 40), .val (.bin .num .leq (.t 37) (.t 39)), (some (35, true))⟩,
    ⟨(some 41), .val (.pick (.t 35) (.t 40) (.c (.bool false))), none⟩,
    ⟨(some 42), .val (.mov (.t 41)), none⟩,
    ⟨(some 43), .val (.faddr 5 (.t 2)), (some (42, true))⟩,
    ⟨(some 44), .val (.load none (.t 43)), (some (42, true))⟩,
    ⟨(some 45), .val (.faddr 5 (.t 3)), (some (42, true))⟩,
    ⟨(some 46), .val (.load none (.t 45)), (some (42, true))⟩,
    ⟨(some 47), .val (.bin .num .leq (.t 44) (.t 46)), (some (42, true))⟩,
    ⟨(some 48), .val (.pick (.t 42) (.t 47) (.c (.bool false))), none⟩,
    ⟨(some 4), .val (.mov (.t 48)), none⟩]
def r27 : RC := .seq (.reg g27_0) (.seq (.reg g27_1) (.ret))
def o27 : List RR := [.tmp 4]
theorem k27 : chkC Try.prog 49 r27 (Try.f27.body.getD .skip) = true := by decide +kernel
theorem q27 : chkR Try.prog Try.f27.results.toList o27 = true := by decide +kernel

/- wireschema/wireschemalaw02.CursorOpens -/
def g3_0 : List Am.Item := [
    ⟨(some 4), .boxN 4 (.t 1), none⟩,
    ⟨(some 5), .boxN 5 (.t 2), none⟩,
    ⟨(some 6), .val (.mov (.c (.bool false))), none⟩]
def g3_1 : List Am.Item := [
    ⟨(some 12), .val (.mov (.t 0)), none⟩,
    ⟨(some 13), .val (.load (some 4) (.t 4)), none⟩,
    ⟨(some 14), .call (.f 9) [(.t 12), (.t 13)], none⟩,
    ⟨(some 11), .val (.mov (.t 14)), none⟩,
    ⟨(some 15), .val (.ext (.t 11) 0), none⟩,
    ⟨(some 16), .val (.ext (.t 11) 1), none⟩,
    ⟨(some 7), .allocN 7 [.str [], .int .i64 0, .int .i64 0, .int .i64 0, .int .i64 0, .int .i64 0], none⟩,
    ⟨none, .store 6 (.t 7) (.t 15), none⟩,
    ⟨(some 8), .val (.mov (.t 16)), none⟩]
def g3_2 : List Am.Item := [
    ⟨(some 18), .val (.mov (.t 0)), none⟩,
    ⟨(some 19), .val (.load (some 4) (.t 4)), none⟩,
    ⟨(some 20), .call (.f 10) [(.t 18), (.t 19)], none⟩,
    ⟨(some 17), .val (.mov (.t 20)), none⟩,
    ⟨(some 21), .val (.ext (.t 17) 0), none⟩,
    ⟨(some 22), .val (.ext (.t 17) 1), none⟩,
    ⟨(some 9), .allocN 9 [.str [], .int .i64 0, .int .i64 0, .int .i64 0, .int .i64 0, .int .i64 0], none⟩,
    ⟨none, .store 6 (.t 9) (.t 21), none⟩,
    ⟨(some 10), .val (.mov (.t 22)), none⟩]
def g3_3 : List Am.Item := [
    ⟨(some 23), .val (.loadv 0 7 (some 6) (.t 7)), none⟩,
    ⟨(some 24), .val (.loadv 0 9 (some 6) (.t 9)), none⟩,
    ⟨(some 25), .val (.eqs false [.str, .num, .num, .num, .num, .num] (.t 23) (.t 24)), none⟩,
    ⟨(some 26), .val (.mov (.t 25)), none⟩,
    ⟨(some 27), .val (.mov (.t 8)), (some (26, true))⟩,
    ⟨(some 28), .val (.mov (.t 10)), (some (26, true))⟩,
    ⟨(some 29), .val (.bin .num .eql (.t 27) (.t 28)), (some (26, true))⟩,
    ⟨(some 30), .val (.pick (.t 26) (.t 29) (.c (.bool false))), none⟩,
    ⟨(some 31), .val (.mov (.t 30)), none⟩,
    ⟨(some 32), .val (.loadv 0 5 (some 6) (.t 5)), (some (31, true))⟩,
    ⟨(some 33), .call (.f 11) [(.t 32)], (some (31, true))⟩,
    ⟨(some 34), .val (.loadv 0 5 (some 6) (.t 5)), (some (31, true))⟩,
    ⟨(some 35), .call (.f 12) [(.t 34)], (some (31, true))⟩,
    ⟨(some 36), .val (.bin .bool .eql (.t 33) (.t 35)), (some (31, true))⟩,
    ⟨(some 37), .val (.pick (.t 31) (.t 36) (.c (.bool false))), none⟩,
    ⟨(some 38), .val (.mov (.t 37)), none⟩,
    ⟨(some 39), .val (.loadv 0 5 (some 6) (.t 5)), (some (38, true))⟩,
    ⟨(some 40), .call (.f 13) [(.t 39)], (some (38, true))⟩,
    ⟨(some 41), .val (.loadv 0 5 (some 6) (.t 5)), (some (38, true))⟩,
    ⟨(some 42), .call (.f 14) [(.t 41)], (some (38, true))⟩,
    ⟨(some 43), .val (.bin .num .eql (.t 40) (.t 42)), (some (38, true))⟩,
    ⟨(some 44), .val (.pick (.t 38) (.t 43) (.c (.bool false))), none⟩,
    ⟨(some 45), .val (.mov (.t 44)), none⟩,
    ⟨(some 46), .call (.f 15) [], (some (45, true))⟩,
    ⟨(some 47), .val (.pick (.t 45) (.t 46) (.c (.bool false))), none⟩,
    ⟨(some 6), .val (.mov (.t 47)), none⟩]
def r3 : RC := .seq (.reg g3_0) (.seq (.reg g3_1) (.seq (.reg g3_2) (.seq (.draw g3_3) (.ret))))
def o3 : List RR := [.tmp 6]
theorem k3 : chkC Try.prog 48 r3 (Try.f3.body.getD .skip) = true := by decide +kernel
theorem q3 : chkR Try.prog Try.f3.results.toList o3 = true := by decide +kernel

/- wireschema/wireschemalaw02.CursorLeaves -/
def g5_0 : List Am.Item := [
    ⟨(some 2), .boxN 2 (.t 0), none⟩,
    ⟨(some 3), .boxN 3 (.t 1), none⟩,
    ⟨(some 4), .val (.mov (.c (.bool false))), none⟩]
def g5_1 : List Am.Item := [
    ⟨(some 6), .val (.load (some 6) (.t 2)), none⟩,
    ⟨(some 7), .val (.load (some 6) (.t 3)), none⟩,
    ⟨(some 8), .call (.f 18) [(.t 6), (.t 7)], none⟩,
    ⟨(some 5), .allocN 5 [.str [], .int .i64 0, .int .i64 0, .int .i64 0, .int .i64 0, .int .i64 0], none⟩,
    ⟨none, .store 6 (.t 5) (.t 8), none⟩]
def g5_2 : List Am.Item := [
    ⟨(some 9), .val (.loadv 0 5 (some 6) (.t 5)), none⟩,
    ⟨(some 10), .val (.loadv 0 2 (some 6) (.t 2)), none⟩,
    ⟨(some 11), .val (.loadv 0 3 (some 6) (.t 3)), none⟩,
    ⟨(some 12), .call (.f 19) [(.t 10), (.t 11)], none⟩,
    ⟨(some 13), .val (.eqs false [.str, .num, .num, .num, .num, .num] (.t 9) (.t 12)), none⟩,
    ⟨(some 14), .val (.mov (.t 13)), none⟩,
    ⟨(some 15), .val (.faddr 0 (.t 5)), (some (14, true))⟩,
    ⟨(some 16), .val (.loadv 0 5 none (.t 15)), (some (14, true))⟩,
    ⟨(some 17), .val (.faddr 0 (.t 2)), (some (14, true))⟩,
    ⟨(some 18), .val (.loadv 0 2 none (.t 17)), (some (14, true))⟩,
    ⟨(some 19), .val (.bin .str .eql (.t 16) (.t 18)), (some (14, true))⟩,
    ⟨(some 20), .val (.pick (.t 14) (.t 19) (.c (.bool false))), none⟩,
    ⟨(some 21), .val (.mov (.t 20)), none⟩,
    ⟨(some 22), .val (.faddr 1 (.t 5)), (some (21, true))⟩,
    ⟨(some 23), .val (.loadv 0 5 none (.t 22)), (some (21, true))⟩,
    ⟨(some 24), .val (.faddr 1 (.t 2)), (some (21, true))⟩,
    ⟨(some 25), .val (.loadv 0 2 none (.t 24)), (some (21, true))⟩,
    ⟨(some 26), .val (.bin .num .geq (.t 23) (.t 25)), (some (21, true))⟩,
    ⟨(some 27), .val (.pick (.t 21) (.t 26) (.c (.bool false))), none⟩,
    ⟨(some 28), .val (.mov (.t 27)), none⟩,
    ⟨(some 29), .val (.faddr 2 (.t 5)), (some (28, true))⟩,
    ⟨(some 30), .val (.loadv 0 5 none (.t 29)), (some (28, true))⟩,
    ⟨(some 31), .val (.faddr 2 (.t 2)), (some (28, true))⟩,
    ⟨(some 32), .val (.loadv 0 2 none (.t 31)), (some (28, true))⟩,
    ⟨(some 33), .val (.bin .num .eql (.t 30) (.t 32)), (some (28, true))⟩,
    ⟨(some 34), .val (.pick (.t 28) (.t 33) (.c (.bool false))), none⟩,
    ⟨(some 35), .val (.mov (.t 34)), none⟩,
    ⟨(some 36), .val (.faddr 3 (.t 5)), (some (35, true))⟩,
    ⟨(some 37), .val (.loadv 0 5 none (.t 36)), (some (35, true))⟩,
    ⟨(some 38), .val (.faddr 3 (.t 2)), (some (35, true))⟩,
    ⟨(some 39), .val (.loadv 0 2 none (.t 38)), (some (35, true))⟩,
    ⟨(some 40), .val (.bin .num .eql (.t 37) (.t 39)), (some (35, true))⟩,
    ⟨(some 41), .val (.pick (.t 35) (.t 40) (.c (.bool false))), none⟩,
    ⟨(some 42), .val (.mov (.t 41)), none⟩,
    ⟨(some 43), .val (.faddr 4 (.t 5)), (some (42, true))⟩,
    ⟨(some 44), .val (.loadv 0 5 none (.t 43)), (some (42, true))⟩,
    ⟨(some 45), .val (.faddr 4 (.t 2)), (some (42, true))⟩,
    ⟨(some 46), .val (.loadv 0 2 none (.t 45)), (some (42, true))⟩,
    ⟨(some 47), .val (.bin .num .leq (.t 44) (.t 46)), (some (42, true))⟩,
    ⟨(some 48), .val (.pick (.t 42) (.t 47) (.c (.bool false))), none⟩,
    ⟨(some 49), .val (.mov (.t 48)), none⟩,
    ⟨(some 50), .val (.faddr 5 (.t 5)), (some (49, true))⟩,
    ⟨(some 51), .val (.loadv 0 5 none (.t 50)), (some (49, true))⟩,
    ⟨(some 52), .val (.faddr 5 (.t 2)), (some (49, true))⟩,
    ⟨(some 53), .val (.loadv 0 2 none (.t 52)), (some (49, true))⟩,
    ⟨(some 54), .val (.bin .num .eql (.t 51) (.t 53)), (some (49, true))⟩,
    ⟨(some 55), .val (.pick (.t 49) (.t 54) (.c (.bool false))), none⟩,
    ⟨(some 56), .val (.mov (.t 55)), none⟩,
    ⟨(some 57), .call (.f 15) [], (some (56, true))⟩,
    ⟨(some 58), .val (.pick (.t 56) (.t 57) (.c (.bool false))), none⟩,
    ⟨(some 4), .val (.mov (.t 58)), none⟩]
def r5 : RC := .seq (.reg g5_0) (.seq (.reg g5_1) (.seq (.draw g5_2) (.ret)))
def o5 : List RR := [.tmp 4]
theorem k5 : chkC Try.prog 59 r5 (Try.f5.body.getD .skip) = true := by decide +kernel
theorem q5 : chkR Try.prog Try.f5.results.toList o5 = true := by decide +kernel

/- wireschema/wireschemalaw02.CursorTexts -/
def g4_0 : List Am.Item := [
    ⟨(some 2), .boxN 2 (.t 0), none⟩,
    ⟨(some 4), .val (.mov (.c (.bool false))), none⟩]
def g4_1 : List Am.Item := [
    ⟨(some 12), .val (.faddr 0 (.t 2)), none⟩,
    ⟨(some 13), .val (.load none (.t 12)), none⟩,
    ⟨(some 14), .val (.len 0 (.t 13)), none⟩,
    ⟨(some 15), .val (.bin .num .gtr (.t 14) (.c (.int .i64 3000))), none⟩]
def g4_2 : List Am.Item := [
    ⟨(some 16), .call (.f 15) [], none⟩,
    ⟨(some 4), .val (.mov (.t 16)), none⟩]
def g4_3 : List Am.Item := [
    ⟨(some 18), .val (.load (some 6) (.t 2)), none⟩,
    ⟨(some 19), .val (.mov (.t 1)), none⟩,
    ⟨(some 20), .call (.f 16) [(.t 18), (.t 19)], none⟩,
    ⟨(some 17), .val (.mov (.t 20)), none⟩,
    ⟨(some 21), .val (.ext (.t 17) 0), none⟩,
    ⟨(some 22), .val (.ext (.t 17) 1), none⟩,
    ⟨(some 23), .val (.ext (.t 17) 2), none⟩,
    ⟨(some 6), .allocN 6 [.str [], .int .i64 0, .int .i64 0, .int .i64 0, .int .i64 0, .int .i64 0], none⟩,
    ⟨(some 5), .val (.mov (.t 21)), none⟩,
    ⟨none, .store 6 (.t 6) (.t 22), none⟩,
    ⟨(some 7), .val (.mov (.t 23)), none⟩]
def g4_4 : List Am.Item := [
    ⟨(some 24), .val (.mov (.t 7)), none⟩,
    ⟨(some 25), .val (.bin .num .neq (.t 24) (.c (.int .i64 0))), none⟩]
def g4_5 : List Am.Item := [
    ⟨(some 26), .val (.mov (.t 5)), none⟩,
    ⟨(some 27), .val (.bin .str .eql (.t 26) (.c (.str []))), none⟩,
    ⟨(some 28), .val (.mov (.t 27)), none⟩,
    ⟨(some 29), .val (.load (some 6) (.t 6)), (some (28, true))⟩,
    ⟨(some 30), .val (.load (some 6) (.t 2)), (some (28, true))⟩,
    ⟨(some 31), .val (.eqs false [.str, .num, .num, .num, .num, .num] (.t 29) (.t 30)), (some (28, true))⟩,
    ⟨(some 32), .val (.pick (.t 28) (.t 31) (.c (.bool false))), none⟩,
    ⟨(some 33), .val (.mov (.t 32)), none⟩,
    ⟨(some 34), .call (.f 15) [], (some (33, true))⟩,
    ⟨(some 35), .val (.pick (.t 33) (.t 34) (.c (.bool false))), none⟩,
    ⟨(some 4), .val (.mov (.t 35)), none⟩]
def g4_6 : List Am.Item := [
    ⟨(some 36), .val (.mov (.t 5)), none⟩,
    ⟨(some 37), .val (.len 0 (.t 36)), none⟩,
    ⟨(some 38), .val (.mov (.t 1)), none⟩,
    ⟨(some 39), .val (.bin .num .neq (.t 37) (.t 38)), none⟩,
    ⟨(some 40), .val (.mov (.t 39)), none⟩,
    ⟨(some 41), .val (.mov (.t 1)), (some (40, false))⟩,
    ⟨(some 42), .val (.faddr 0 (.t 2)), (some (40, false))⟩,
    ⟨(some 43), .val (.load none (.t 42)), (some (40, false))⟩,
    ⟨(some 44), .val (.len 0 (.t 43)), (some (40, false))⟩,
    ⟨(some 45), .val (.bin .num .gtr (.t 41) (.t 44)), (some (40, false))⟩,
    ⟨(some 46), .val (.pick (.t 40) (.c (.bool true)) (.t 45)), none⟩]
def g4_7 : List Am.Item := [
    ⟨(some 4), .val (.mov (.c (.bool false))), none⟩]
def g4_8 : List Am.Item := [
    ⟨(some 8), .val (.mov (.c (.int .i64 0))), none⟩]
def g4_9 : List Am.Item := [
    ⟨(some 47), .val (.mov (.t 8)), none⟩,
    ⟨(some 48), .val (.mov (.t 1)), none⟩,
    ⟨(some 49), .val (.bin .num .lss (.t 47) (.t 48)), none⟩]
def g4_11 : List Am.Item := [
    ⟨(some 53), .val (.load (some 6) (.t 2)), none⟩,
    ⟨(some 54), .call (.f 17) [(.t 53)], none⟩,
    ⟨(some 52), .val (.mov (.t 54)), none⟩,
    ⟨(some 55), .val (.ext (.t 52) 0), none⟩,
    ⟨(some 56), .val (.ext (.t 52) 1), none⟩,
    ⟨(some 57), .val (.ext (.t 52) 2), none⟩,
    ⟨(some 10), .allocN 10 [.str [], .int .i64 0, .int .i64 0, .int .i64 0, .int .i64 0, .int .i64 0], none⟩,
    ⟨(some 9), .val (.mov (.t 55)), none⟩,
    ⟨none, .store 6 (.t 10) (.t 56), none⟩,
    ⟨(some 11), .val (.mov (.t 57)), none⟩]
def g4_12 : List Am.Item := [
    ⟨(some 58), .val (.mov (.t 11)), none⟩,
    ⟨(some 59), .val (.bin .num .neq (.t 58) (.c (.int .i64 0))), none⟩,
    ⟨(some 60), .val (.mov (.t 59)), none⟩,
    ⟨(some 61), .val (.mov (.t 9)), (some (60, false))⟩,
    ⟨(some 62), .val (.mov (.t 5)), (some (60, false))⟩,
    ⟨(some 63), .val (.mov (.t 8)), (some (60, false))⟩,
    ⟨(some 64), .val (.idx (.t 62) (.t 63)), (some (60, false))⟩,
    ⟨(some 65), .val (.bin .num .neq (.t 61) (.t 64)), (some (60, false))⟩,
    ⟨(some 66), .val (.pick (.t 60) (.c (.bool true)) (.t 65)), none⟩]
def g4_13 : List Am.Item := [
    ⟨(some 4), .val (.mov (.c (.bool false))), none⟩]
def g4_14 : List Am.Item := [
    ⟨(some 67), .val (.load (some 6) (.t 10)), none⟩,
    ⟨none, .store 6 (.t 2) (.t 67), none⟩]
def g4_10 : List Am.Item := [
    ⟨(some 50), .val (.mov (.t 8)), none⟩,
    ⟨(some 51), .val (.bin .num .add (.t 50) (.c (.int .i64 1))), none⟩,
    ⟨(some 8), .val (.mov (.t 51)), none⟩]
def l4_0 : RC := .gho (.drop 10) (.seq (.seq (.reg g4_9) (.cond (.t 49) (.skip) (.exit 0))) (.seq (.block 1 (.seq (.reg g4_11) (.seq (.seq (.reg g4_12) (.cond (.t 66) (.seq (.reg g4_13) (.ret)) (.skip))) (.reg g4_14)))) (.reg g4_10)))
def g4_15 : List Am.Item := [
    ⟨(some 68), .val (.load (some 6) (.t 2)), none⟩,
    ⟨(some 69), .val (.load (some 6) (.t 6)), none⟩,
    ⟨(some 70), .val (.eqs false [.str, .num, .num, .num, .num, .num] (.t 68) (.t 69)), none⟩,
    ⟨(some 71), .val (.mov (.t 70)), none⟩,
    ⟨(some 72), .call (.f 15) [], (some (71, true))⟩,
    ⟨(some 73), .val (.pick (.t 71) (.t 72) (.c (.bool false))), none⟩,
    ⟨(some 4), .val (.mov (.t 73)), none⟩]
def r4 : RC := .seq (.reg g4_0) (.seq (.seq (.reg g4_1) (.cond (.t 15) (.seq (.reg g4_2) (.ret)) (.skip))) (.seq (.reg g4_3) (.seq (.seq (.reg g4_4) (.cond (.t 25) (.seq (.reg g4_5) (.ret)) (.skip))) (.seq (.seq (.reg g4_6) (.cond (.t 46) (.seq (.reg g4_7) (.ret)) (.skip))) (.seq (.seq (.reg g4_8) (.block 0 (.loop l4_0))) (.seq (.reg g4_15) (.ret)))))))
def o4 : List RR := [.tmp 4]
theorem k4 : chkC Try.prog 74 r4 (Try.f4.body.getD .skip) = true := by decide +kernel
theorem q4 : chkR Try.prog Try.f4.results.toList o4 = true := by decide +kernel

/- wireschema/wireschemalaw02.CursorNumbers -/
def g6_0 : List Am.Item := [
    ⟨(some 4), .val (.mov (.c (.bool false))), none⟩]
def g6_1 : List Am.Item := [
    ⟨(some 15), .val (.mov (.t 1)), none⟩,
    ⟨(some 16), .val (.len 0 (.t 15)), none⟩,
    ⟨(some 17), .val (.bin .num .gtr (.t 16) (.c (.int .i64 3000))), none⟩]
def g6_2 : List Am.Item := [
    ⟨(some 18), .call (.f 15) [], none⟩,
    ⟨(some 4), .val (.mov (.t 18)), none⟩]
def g6_3 : List Am.Item := [
    ⟨(some 20), .val (.mov (.t 0)), none⟩,
    ⟨(some 21), .call (.f 20) [(.t 20)], none⟩,
    ⟨(some 22), .val (.mov (.t 1)), none⟩,
    ⟨(some 23), .val (.bin .str .add (.t 21) (.t 22)), none⟩,
    ⟨(some 24), .val (.build [.int .i64 0, .int .i64 0, .int .i64 0, .int .i64 0] [(0, 1, (.c (.int .i64 4000)))]), none⟩,
    ⟨(some 25), .call (.f 9) [(.t 23), (.t 24)], none⟩,
    ⟨(some 19), .val (.mov (.t 25)), none⟩,
    ⟨(some 26), .val (.ext (.t 19) 0), none⟩,
    ⟨(some 27), .val (.ext (.t 19) 1), none⟩,
    ⟨(some 5), .allocN 5 [.str [], .int .i64 0, .int .i64 0, .int .i64 0, .int .i64 0, .int .i64 0], none⟩,
    ⟨none, .store 6 (.t 5) (.t 26), none⟩,
    ⟨(some 6), .val (.mov (.t 27)), none⟩]
def g6_4 : List Am.Item := [
    ⟨(some 29), .val (.mov (.t 0)), none⟩,
    ⟨(some 30), .call (.f 21) [(.t 29)], none⟩,
    ⟨(some 31), .val (.mov (.t 1)), none⟩,
    ⟨(some 32), .val (.bin .str .add (.t 30) (.t 31)), none⟩,
    ⟨(some 33), .val (.build [.int .i64 0, .int .i64 0, .int .i64 0, .int .i64 0] [(0, 1, (.c (.int .i64 4000)))]), none⟩,
    ⟨(some 34), .call (.f 9) [(.t 32), (.t 33)], none⟩,
    ⟨(some 28), .val (.mov (.t 34)), none⟩,
    ⟨(some 35), .val (.ext (.t 28) 0), none⟩,
    ⟨(some 36), .val (.ext (.t 28) 1), none⟩,
    ⟨(some 7), .allocN 7 [.str [], .int .i64 0, .int .i64 0, .int .i64 0, .int .i64 0, .int .i64 0], none⟩,
    ⟨none, .store 6 (.t 7) (.t 35), none⟩,
    ⟨(some 8), .val (.mov (.t 36)), none⟩]
def g6_5 : List Am.Item := [
    ⟨(some 37), .val (.mov (.t 6)), none⟩,
    ⟨(some 38), .val (.bin .num .neq (.t 37) (.c (.int .i64 0))), none⟩,
    ⟨(some 39), .val (.mov (.t 38)), none⟩,
    ⟨(some 40), .val (.mov (.t 8)), (some (39, false))⟩,
    ⟨(some 41), .val (.bin .num .neq (.t 40) (.c (.int .i64 0))), (some (39, false))⟩,
    ⟨(some 42), .val (.pick (.t 39) (.c (.bool true)) (.t 41)), none⟩]
def g6_6 : List Am.Item := [
    ⟨(some 4), .val (.mov (.c (.bool false))), none⟩]
def g6_7 : List Am.Item := [
    ⟨(some 44), .val (.load (some 6) (.t 5)), none⟩,
    ⟨(some 45), .call (.f 22) [(.t 44)], none⟩,
    ⟨(some 43), .val (.mov (.t 45)), none⟩,
    ⟨(some 46), .val (.ext (.t 43) 0), none⟩,
    ⟨(some 47), .val (.ext (.t 43) 1), none⟩,
    ⟨(some 48), .val (.ext (.t 43) 2), none⟩,
    ⟨(some 10), .allocN 10 [.str [], .int .i64 0, .int .i64 0, .int .i64 0, .int .i64 0, .int .i64 0], none⟩,
    ⟨(some 9), .val (.mov (.t 46)), none⟩,
    ⟨none, .store 6 (.t 10) (.t 47), none⟩,
    ⟨(some 11), .val (.mov (.t 48)), none⟩]
def g6_8 : List Am.Item := [
    ⟨(some 50), .val (.load (some 6) (.t 7)), none⟩,
    ⟨(some 51), .call (.f 23) [(.t 50)], none⟩,
    ⟨(some 49), .val (.mov (.t 51)), none⟩,
    ⟨(some 52), .val (.ext (.t 49) 0), none⟩,
    ⟨(some 53), .val (.ext (.t 49) 1), none⟩,
    ⟨(some 54), .val (.ext (.t 49) 2), none⟩,
    ⟨(some 13), .allocN 13 [.str [], .int .i64 0, .int .i64 0, .int .i64 0, .int .i64 0, .int .i64 0], none⟩,
    ⟨(some 12), .val (.mov (.t 52)), none⟩,
    ⟨none, .store 6 (.t 13) (.t 53), none⟩,
    ⟨(some 14), .val (.mov (.t 54)), none⟩]
def g6_9 : List Am.Item := [
    ⟨(some 55), .val (.mov (.t 9)), none⟩,
    ⟨(some 56), .val (.mov (.t 0)), none⟩,
    ⟨(some 57), .val (.bin .num .eql (.t 55) (.t 56)), none⟩,
    ⟨(some 58), .val (.mov (.t 57)), none⟩,
    ⟨(some 59), .val (.mov (.t 12)), (some (58, true))⟩,
    ⟨(some 60), .val (.mov (.t 0)), (some (58, true))⟩,
    ⟨(some 61), .val (.bin .num .eql (.t 59) (.t 60)), (some (58, true))⟩,
    ⟨(some 62), .val (.pick (.t 58) (.t 61) (.c (.bool false))), none⟩,
    ⟨(some 63), .val (.mov (.t 62)), none⟩,
    ⟨(some 64), .val (.mov (.t 11)), (some (63, true))⟩,
    ⟨(some 65), .val (.bin .num .eql (.t 64) (.c (.int .i64 0))), (some (63, true))⟩,
    ⟨(some 66), .val (.pick (.t 63) (.t 65) (.c (.bool false))), none⟩,
    ⟨(some 67), .val (.mov (.t 66)), none⟩,
    ⟨(some 68), .val (.mov (.t 14)), (some (67, true))⟩,
    ⟨(some 69), .val (.bin .num .eql (.t 68) (.c (.int .i64 0))), (some (67, true))⟩,
    ⟨(some 70), .val (.pick (.t 67) (.t 69) (.c (.bool false))), none⟩,
    ⟨(some 71), .val (.mov (.t 70)), none⟩,
    ⟨(some 72), .val (.load (some 6) (.t 10)), (some (71, true))⟩,
    ⟨(some 73), .call (.f 13) [(.t 72)], (some (71, true))⟩,
    ⟨(some 74), .val (.mov (.t 1)), (some (71, true))⟩,
    ⟨(some 75), .val (.len 0 (.t 74)), (some (71, true))⟩,
    ⟨(some 76), .val (.bin .num .eql (.t 73) (.t 75)), (some (71, true))⟩,
    ⟨(some 77), .val (.pick (.t 71) (.t 76) (.c (.bool false))), none⟩,
    ⟨(some 78), .val (.mov (.t 77)), none⟩,
    ⟨(some 79), .val (.load (some 6) (.t 13)), (some (78, true))⟩,
    ⟨(some 80), .call (.f 13) [(.t 79)], (some (78, true))⟩,
    ⟨(some 81), .val (.mov (.t 1)), (some (78, true))⟩,
    ⟨(some 82), .val (.len 0 (.t 81)), (some (78, true))⟩,
    ⟨(some 83), .val (.bin .num .eql (.t 80) (.t 82)), (some (78, true))⟩,
    ⟨(some 84), .val (.pick (.t 78) (.t 83) (.c (.bool false))), none⟩,
    ⟨(some 85), .val (.mov (.t 84)), none⟩,
    ⟨(some 86), .call (.f 15) [], (some (85, true))⟩,
    ⟨(some 87), .val (.pick (.t 85) (.t 86) (.c (.bool false))), none⟩,
    ⟨(some 4), .val (.mov (.t 87)), none⟩]
def r6 : RC := .seq (.reg g6_0) (.seq (.seq (.reg g6_1) (.cond (.t 17) (.seq (.reg g6_2) (.ret)) (.skip))) (.seq (.reg g6_3) (.seq (.reg g6_4) (.seq (.seq (.reg g6_5) (.cond (.t 42) (.seq (.reg g6_6) (.ret)) (.skip))) (.seq (.reg g6_7) (.seq (.reg g6_8) (.seq (.reg g6_9) (.ret))))))))
def o6 : List RR := [.tmp 4]
theorem k6 : chkC Try.prog 88 r6 (Try.f6.body.getD .skip) = true := by decide +kernel
theorem q6 : chkR Try.prog Try.f6.results.toList o6 = true := by decide +kernel

/- wireschema/wireschemalaw02.CursorRuns -/
def g7_0 : List Am.Item := [
    ⟨(some 2), .boxN 2 (.t 0), none⟩,
    ⟨(some 4), .val (.mov (.c (.bool false))), none⟩]
def g7_1 : List Am.Item := [
    ⟨(some 5), .val (.mov (.c (.nils))), none⟩]
def g7_2 : List Am.Item := [
    ⟨(some 6), .val (.mov (.c (.int .i64 0))), none⟩]
def g7_3 : List Am.Item := [
    ⟨(some 15), .val (.mov (.t 6)), none⟩,
    ⟨(some 16), .val (.mov (.t 1)), none⟩,
    ⟨(some 17), .val (.len 1 (.t 16)), none⟩,
    ⟨(some 18), .val (.bin .num .lss (.t 15) (.t 17)), none⟩,
    ⟨(some 19), .val (.mov (.t 18)), none⟩,
    ⟨(some 20), .val (.mov (.t 6)), (some (19, true))⟩,
    ⟨(some 21), .val (.bin .num .lss (.t 20) (.c (.int .i64 60))), (some (19, true))⟩,
    ⟨(some 22), .val (.pick (.t 19) (.t 21) (.c (.bool false))), none⟩]
def g7_5 : List Am.Item := [
    ⟨(some 25), .val (.loadv 0 2 (some 6) (.t 2)), none⟩,
    ⟨(some 26), .call (.f 11) [(.t 25)], none⟩,
    ⟨(some 27), .val (.loadv 0 2 (some 6) (.t 2)), none⟩,
    ⟨(some 28), .call (.f 12) [(.t 27)], none⟩,
    ⟨(some 29), .val (.bin .bool .neq (.t 26) (.t 28)), none⟩,
    ⟨(some 30), .val (.mov (.t 29)), none⟩,
    ⟨(some 31), .val (.loadv 0 2 (some 6) (.t 2)), (some (30, false))⟩,
    ⟨(some 32), .call (.f 13) [(.t 31)], (some (30, false))⟩,
    ⟨(some 33), .val (.loadv 0 2 (some 6) (.t 2)), (some (30, false))⟩,
    ⟨(some 34), .call (.f 14) [(.t 33)], (some (30, false))⟩,
    ⟨(some 35), .val (.bin .num .neq (.t 32) (.t 34)), (some (30, false))⟩,
    ⟨(some 36), .val (.pick (.t 30) (.c (.bool true)) (.t 35)), none⟩]
def g7_6 : List Am.Item := [
    ⟨(some 4), .val (.mov (.c (.bool false))), none⟩]
def g7_7 : List Am.Item := [
    ⟨(some 37), .val (.mov (.t 1)), none⟩,
    ⟨(some 38), .val (.mov (.t 6)), none⟩,
    ⟨(some 39), .val (.iaddr 2 none (.t 37) (.t 38)), none⟩,
    ⟨(some 40), .val (.faddr 0 (.t 39)), none⟩,
    ⟨(some 41), .val (.load none (.t 40)), none⟩,
    ⟨(some 42), .val (.bin .num .eql (.t 41) (.c (.int .i64 5))), none⟩]
def g7_8 : List Am.Item := [
    ⟨(some 44), .val (.loadv 0 2 (some 6) (.t 2)), none⟩,
    ⟨(some 45), .val (.mov (.t 1)), none⟩,
    ⟨(some 46), .val (.mov (.t 6)), none⟩,
    ⟨(some 47), .val (.iaddr 2 none (.t 45) (.t 46)), none⟩,
    ⟨(some 48), .val (.faddr 1 (.t 47)), none⟩,
    ⟨(some 49), .val (.loadr none (.t 48)), none⟩,
    ⟨(some 50), .call (.f 24) [(.t 44), (.t 49)], none⟩,
    ⟨(some 43), .val (.mov (.t 50)), none⟩,
    ⟨(some 51), .val (.ext (.t 43) 0), none⟩,
    ⟨(some 52), .val (.ext (.t 43) 1), none⟩,
    ⟨(some 7), .allocN 7 [.str [], .int .i64 0, .int .i64 0, .int .i64 0, .int .i64 0, .int .i64 0], none⟩,
    ⟨none, .storev 0 7 6 (.t 7) (.t 51), none⟩,
    ⟨(some 8), .val (.mov (.t 52)), none⟩]
def g7_9 : List Am.Item := [
    ⟨(some 54), .val (.loadv 0 2 (some 6) (.t 2)), none⟩,
    ⟨(some 55), .val (.mov (.t 1)), none⟩,
    ⟨(some 56), .val (.mov (.t 6)), none⟩,
    ⟨(some 57), .val (.iaddr 2 none (.t 55) (.t 56)), none⟩,
    ⟨(some 58), .val (.faddr 1 (.t 57)), none⟩,
    ⟨(some 59), .val (.loadr none (.t 58)), none⟩,
    ⟨(some 60), .call (.f 25) [(.t 54), (.t 59)], none⟩,
    ⟨(some 53), .val (.mov (.t 60)), none⟩,
    ⟨(some 61), .val (.ext (.t 53) 0), none⟩,
    ⟨(some 62), .val (.ext (.t 53) 1), none⟩,
    ⟨(some 9), .allocN 9 [.str [], .int .i64 0, .int .i64 0, .int .i64 0, .int .i64 0, .int .i64 0], none⟩,
    ⟨none, .storev 0 9 6 (.t 9) (.t 61), none⟩,
    ⟨(some 10), .val (.mov (.t 62)), none⟩]
def g7_10 : List Am.Item := [
    ⟨(some 63), .val (.load (some 6) (.t 7)), none⟩,
    ⟨(some 64), .val (.load (some 6) (.t 9)), none⟩,
    ⟨(some 65), .val (.eqs true [.str, .num, .num, .num, .num, .num] (.t 63) (.t 64)), none⟩,
    ⟨(some 66), .val (.mov (.t 65)), none⟩,
    ⟨(some 67), .val (.mov (.t 8)), (some (66, false))⟩,
    ⟨(some 68), .val (.mov (.t 10)), (some (66, false))⟩,
    ⟨(some 69), .val (.bin .num .neq (.t 67) (.t 68)), (some (66, false))⟩,
    ⟨(some 70), .val (.pick (.t 66) (.c (.bool true)) (.t 69)), none⟩]
def g7_11 : List Am.Item := [
    ⟨(some 4), .val (.mov (.c (.bool false))), none⟩]
def g7_12 : List Am.Item := [
    ⟨(some 71), .val (.mov (.t 8)), none⟩,
    ⟨(some 72), .val (.bin .num .eql (.t 71) (.c (.int .i64 0))), none⟩]
def g7_13 : List Am.Item := [
    ⟨(some 73), .val (.mov (.t 5)), none⟩,
    ⟨(some 74), .val (.load (some 6) (.t 2)), none⟩,
    ⟨(some 75), .bsl 6 1 [.str [], .int .i64 0, .int .i64 0, .int .i64 0, .int .i64 0, .int .i64 0] [(0, 6, (.t 74))], none⟩,
    ⟨(some 76), .app 6 56 25 (.t 73) (.t 75), none⟩,
    ⟨(some 5), .val (.mov (.t 76)), none⟩]
def g7_14 : List Am.Item := [
    ⟨(some 77), .val (.load (some 6) (.t 7)), none⟩,
    ⟨none, .store 6 (.t 2) (.t 77), none⟩]
def g7_15 : List Am.Item := [
    ⟨(some 78), .val (.mov (.t 1)), none⟩,
    ⟨(some 79), .val (.mov (.t 6)), none⟩,
    ⟨(some 80), .val (.iaddr 2 none (.t 78) (.t 79)), none⟩,
    ⟨(some 81), .val (.faddr 0 (.t 80)), none⟩,
    ⟨(some 82), .val (.load none (.t 81)), none⟩,
    ⟨(some 83), .val (.bin .num .eql (.t 82) (.c (.int .i64 6))), none⟩]
def g7_16 : List Am.Item := [
    ⟨(some 84), .val (.mov (.t 5)), none⟩,
    ⟨(some 85), .val (.len 1 (.t 84)), none⟩,
    ⟨(some 11), .val (.mov (.t 85)), none⟩]
def g7_17 : List Am.Item := [
    ⟨(some 86), .val (.mov (.t 11)), none⟩,
    ⟨(some 87), .val (.bin .num .gtr (.t 86) (.c (.int .i64 0))), none⟩]
def g7_18 : List Am.Item := [
    ⟨(some 88), .val (.mov (.t 5)), none⟩,
    ⟨(some 89), .val (.mov (.t 11)), none⟩,
    ⟨(some 90), .val (.bin .num .sub (.t 89) (.c (.int .i64 1))), none⟩,
    ⟨(some 91), .val (.iaddr 6 none (.t 88) (.t 90)), none⟩,
    ⟨(some 92), .val (.loadr (some 6) (.t 91)), none⟩,
    ⟨(some 93), .val (.loadv 0 2 (some 6) (.t 2)), none⟩,
    ⟨(some 94), .call (.f 18) [(.t 92), (.t 93)], none⟩,
    ⟨(some 12), .allocN 12 [.str [], .int .i64 0, .int .i64 0, .int .i64 0, .int .i64 0, .int .i64 0], none⟩,
    ⟨none, .storev 0 12 6 (.t 12) (.t 94), none⟩]
def g7_19 : List Am.Item := [
    ⟨(some 95), .val (.loadv 0 12 (some 6) (.t 12)), none⟩,
    ⟨(some 96), .val (.mov (.t 5)), none⟩,
    ⟨(some 97), .val (.mov (.t 11)), none⟩,
    ⟨(some 98), .val (.bin .num .sub (.t 97) (.c (.int .i64 1))), none⟩,
    ⟨(some 99), .val (.iaddr 6 none (.t 96) (.t 98)), none⟩,
    ⟨(some 100), .val (.loadr (some 6) (.t 99)), none⟩,
    ⟨(some 101), .val (.loadv 0 2 (some 6) (.t 2)), none⟩,
    ⟨(some 102), .call (.f 19) [(.t 100), (.t 101)], none⟩,
    ⟨(some 103), .val (.eqs true [.str, .num, .num, .num, .num, .num] (.t 95) (.t 102)), none⟩]
def g7_20 : List Am.Item := [
    ⟨(some 4), .val (.mov (.c (.bool false))), none⟩]
def g7_21 : List Am.Item := [
    ⟨(some 104), .val (.load (some 6) (.t 12)), none⟩,
    ⟨none, .store 6 (.t 2) (.t 104), none⟩]
def g7_22 : List Am.Item := [
    ⟨(some 105), .val (.mov (.t 5)), none⟩,
    ⟨(some 106), .val (.mov (.t 11)), none⟩,
    ⟨(some 107), .val (.bin .num .sub (.t 106) (.c (.int .i64 1))), none⟩,
    ⟨(some 108), .val (.slc (some 6) (.t 105) none (some (.t 107)) none), none⟩,
    ⟨(some 5), .val (.mov (.t 108)), none⟩]
def g7_23 : List Am.Item := [
    ⟨(some 110), .val (.loadv 0 2 (some 6) (.t 2)), none⟩,
    ⟨(some 111), .val (.mov (.t 1)), none⟩,
    ⟨(some 112), .val (.mov (.t 6)), none⟩,
    ⟨(some 113), .val (.iaddr 2 none (.t 111) (.t 112)), none⟩,
    ⟨(some 114), .val (.loadr (some 2) (.t 113)), none⟩,
    ⟨(some 115), .call (.f 26) [(.t 110), (.t 114)], none⟩,
    ⟨(some 109), .val (.mov (.t 115)), none⟩,
    ⟨(some 116), .val (.ext (.t 109) 0), none⟩,
    ⟨(some 117), .val (.ext (.t 109) 1), none⟩,
    ⟨(some 13), .allocN 13 [.str [], .int .i64 0, .int .i64 0, .int .i64 0, .int .i64 0, .int .i64 0], none⟩,
    ⟨none, .storev 0 13 6 (.t 13) (.t 116), none⟩,
    ⟨(some 14), .val (.mov (.t 117)), none⟩]
def g7_24 : List Am.Item := [
    ⟨(some 118), .val (.mov (.t 14)), none⟩,
    ⟨(some 119), .val (.un .not (.t 118)), none⟩]
def g7_25 : List Am.Item := [
    ⟨(some 4), .val (.mov (.c (.bool false))), none⟩]
def g7_26 : List Am.Item := [
    ⟨(some 120), .val (.load (some 6) (.t 13)), none⟩,
    ⟨none, .store 6 (.t 2) (.t 120), none⟩]
def g7_4 : List Am.Item := [
    ⟨(some 23), .val (.mov (.t 6)), none⟩,
    ⟨(some 24), .val (.bin .num .add (.t 23) (.c (.int .i64 1))), none⟩,
    ⟨(some 6), .val (.mov (.t 24)), none⟩]
def l7_0 : RC := .gho (.drop 13) (.gho (.drop 12) (.gho (.drop 9) (.gho (.drop 7) (.seq (.seq (.reg g7_3) (.cond (.t 22) (.skip) (.exit 0))) (.seq (.block 1 (.seq (.seq (.draw g7_5) (.cond (.t 36) (.seq (.reg g7_6) (.ret)) (.skip))) (.seq (.seq (.reg g7_7) (.cond (.t 42) (.seq (.draw g7_8) (.seq (.draw g7_9) (.seq (.seq (.reg g7_10) (.cond (.t 70) (.seq (.reg g7_11) (.ret)) (.skip))) (.seq (.seq (.reg g7_12) (.cond (.t 72) (.seq (.reg g7_13) (.reg g7_14)) (.skip))) (.exit 1))))) (.skip))) (.seq (.seq (.reg g7_15) (.cond (.t 83) (.seq (.reg g7_16) (.seq (.seq (.reg g7_17) (.cond (.t 87) (.seq (.draw g7_18) (.seq (.seq (.draw g7_19) (.cond (.t 103) (.seq (.reg g7_20) (.ret)) (.skip))) (.seq (.reg g7_21) (.reg g7_22)))) (.skip))) (.exit 1))) (.skip))) (.seq (.draw g7_23) (.seq (.seq (.reg g7_24) (.cond (.t 119) (.seq (.reg g7_25) (.ret)) (.skip))) (.reg g7_26))))))) (.reg g7_4))))))
def g7_27 : List Am.Item := [
    ⟨(some 121), .call (.f 15) [], none⟩,
    ⟨(some 4), .val (.mov (.t 121)), none⟩]
def r7 : RC := .seq (.reg g7_0) (.seq (.reg g7_1) (.gho (.vec 5 5 6) (.seq (.seq (.reg g7_2) (.block 0 (.loop l7_0))) (.seq (.reg g7_27) (.ret)))))
def o7 : List RR := [.tmp 4]
theorem k7 : chkC Try.prog 122 r7 (Try.f7.body.getD .skip) = true := by decide +kernel
theorem q7 : chkR Try.prog Try.f7.results.toList o7 = true := by decide +kernel

/- wireschema/wireschemalaw02.CursorStays -/
def g8_0 : List Am.Item := [
    ⟨(some 2), .boxN 2 (.t 0), none⟩,
    ⟨(some 4), .val (.mov (.c (.bool false))), none⟩]
def g8_1 : List Am.Item := [
    ⟨(some 12), .val (.load (some 6) (.t 2)), none⟩,
    ⟨(some 13), .call (.f 12) [(.t 12)], none⟩,
    ⟨(some 14), .val (.un .not (.t 13)), none⟩,
    ⟨(some 15), .val (.mov (.t 14)), none⟩,
    ⟨(some 16), .val (.faddr 4 (.t 2)), (some (15, false))⟩,
    ⟨(some 17), .val (.load none (.t 16)), (some (15, false))⟩,
    ⟨(some 18), .val (.bin .num .lss (.t 17) (.c (.int .i64 0))), (some (15, false))⟩,
    ⟨(some 19), .val (.pick (.t 15) (.c (.bool true)) (.t 18)), none⟩]
def g8_2 : List Am.Item := [
    ⟨(some 20), .val (.loadv 0 2 (some 6) (.t 2)), none⟩,
    ⟨(some 21), .call (.f 11) [(.t 20)], none⟩,
    ⟨(some 22), .val (.loadv 0 2 (some 6) (.t 2)), none⟩,
    ⟨(some 23), .call (.f 12) [(.t 22)], none⟩,
    ⟨(some 24), .val (.bin .bool .eql (.t 21) (.t 23)), none⟩,
    ⟨(some 25), .val (.mov (.t 24)), none⟩,
    ⟨(some 26), .call (.f 15) [], (some (25, true))⟩,
    ⟨(some 27), .val (.pick (.t 25) (.t 26) (.c (.bool false))), none⟩,
    ⟨(some 4), .val (.mov (.t 27)), none⟩]
def g8_3 : List Am.Item := [
    ⟨(some 5), .val (.mov (.c (.nils))), none⟩]
def g8_4 : List Am.Item := [
    ⟨(some 6), .val (.mov (.c (.int .i64 0))), none⟩]
def g8_5 : List Am.Item := [
    ⟨(some 28), .val (.mov (.t 6)), none⟩,
    ⟨(some 29), .val (.mov (.t 1)), none⟩,
    ⟨(some 30), .val (.len 1 (.t 29)), none⟩,
    ⟨(some 31), .val (.bin .num .lss (.t 28) (.t 30)), none⟩,
    ⟨(some 32), .val (.mov (.t 31)), none⟩,
    ⟨(some 33), .val (.mov (.t 6)), (some (32, true))⟩,
    ⟨(some 34), .val (.bin .num .lss (.t 33) (.c (.int .i64 60))), (some (32, true))⟩,
    ⟨(some 35), .val (.pick (.t 32) (.t 34) (.c (.bool false))), none⟩]
def g8_7 : List Am.Item := [
    ⟨(some 38), .val (.mov (.t 1)), none⟩,
    ⟨(some 39), .val (.mov (.t 6)), none⟩,
    ⟨(some 40), .val (.iaddr 2 none (.t 38) (.t 39)), none⟩,
    ⟨(some 41), .val (.faddr 0 (.t 40)), none⟩,
    ⟨(some 42), .val (.load none (.t 41)), none⟩,
    ⟨(some 43), .val (.bin .num .eql (.t 42) (.c (.int .i64 5))), none⟩]
def g8_8 : List Am.Item := [
    ⟨(some 45), .val (.loadv 0 2 (some 6) (.t 2)), none⟩,
    ⟨(some 46), .val (.mov (.t 1)), none⟩,
    ⟨(some 47), .val (.mov (.t 6)), none⟩,
    ⟨(some 48), .val (.iaddr 2 none (.t 46) (.t 47)), none⟩,
    ⟨(some 49), .val (.faddr 1 (.t 48)), none⟩,
    ⟨(some 50), .val (.loadr none (.t 49)), none⟩,
    ⟨(some 51), .call (.f 24) [(.t 45), (.t 50)], none⟩,
    ⟨(some 44), .val (.mov (.t 51)), none⟩,
    ⟨(some 52), .val (.ext (.t 44) 0), none⟩,
    ⟨(some 53), .val (.ext (.t 44) 1), none⟩,
    ⟨(some 7), .allocN 7 [.str [], .int .i64 0, .int .i64 0, .int .i64 0, .int .i64 0, .int .i64 0], none⟩,
    ⟨none, .storev 0 7 6 (.t 7) (.t 52), none⟩,
    ⟨(some 8), .val (.mov (.t 53)), none⟩]
def g8_9 : List Am.Item := [
    ⟨(some 54), .val (.load (some 6) (.t 7)), none⟩,
    ⟨(some 55), .val (.load (some 6) (.t 2)), none⟩,
    ⟨(some 56), .call (.f 27) [(.t 54), (.t 55)], none⟩,
    ⟨(some 57), .val (.un .not (.t 56)), none⟩]
def g8_10 : List Am.Item := [
    ⟨(some 4), .val (.mov (.c (.bool false))), none⟩]
def g8_11 : List Am.Item := [
    ⟨(some 58), .val (.mov (.t 8)), none⟩,
    ⟨(some 59), .val (.bin .num .eql (.t 58) (.c (.int .i64 0))), none⟩]
def g8_12 : List Am.Item := [
    ⟨(some 60), .val (.mov (.t 5)), none⟩,
    ⟨(some 61), .val (.load (some 6) (.t 2)), none⟩,
    ⟨(some 62), .bsl 6 1 [.str [], .int .i64 0, .int .i64 0, .int .i64 0, .int .i64 0, .int .i64 0] [(0, 6, (.t 61))], none⟩,
    ⟨(some 63), .app 6 56 25 (.t 60) (.t 62), none⟩,
    ⟨(some 5), .val (.mov (.t 63)), none⟩]
def g8_13 : List Am.Item := [
    ⟨(some 64), .val (.load (some 6) (.t 7)), none⟩,
    ⟨none, .store 6 (.t 2) (.t 64), none⟩]
def g8_14 : List Am.Item := [
    ⟨(some 65), .val (.mov (.t 5)), none⟩,
    ⟨(some 66), .val (.len 1 (.t 65)), none⟩,
    ⟨(some 9), .val (.mov (.t 66)), none⟩]
def g8_15 : List Am.Item := [
    ⟨(some 67), .val (.mov (.t 1)), none⟩,
    ⟨(some 68), .val (.mov (.t 6)), none⟩,
    ⟨(some 69), .val (.iaddr 2 none (.t 67) (.t 68)), none⟩,
    ⟨(some 70), .val (.faddr 0 (.t 69)), none⟩,
    ⟨(some 71), .val (.load none (.t 70)), none⟩,
    ⟨(some 72), .val (.bin .num .eql (.t 71) (.c (.int .i64 6))), none⟩,
    ⟨(some 73), .val (.mov (.t 72)), none⟩,
    ⟨(some 74), .val (.mov (.t 9)), (some (73, true))⟩,
    ⟨(some 75), .val (.bin .num .gtr (.t 74) (.c (.int .i64 0))), (some (73, true))⟩,
    ⟨(some 76), .val (.pick (.t 73) (.t 75) (.c (.bool false))), none⟩]
def g8_16 : List Am.Item := [
    ⟨(some 77), .val (.mov (.t 5)), none⟩,
    ⟨(some 78), .val (.mov (.t 9)), none⟩,
    ⟨(some 79), .val (.bin .num .sub (.t 78) (.c (.int .i64 1))), none⟩,
    ⟨(some 80), .val (.iaddr 6 none (.t 77) (.t 79)), none⟩,
    ⟨(some 81), .val (.loadr (some 6) (.t 80)), none⟩,
    ⟨(some 82), .val (.loadv 0 2 (some 6) (.t 2)), none⟩,
    ⟨(some 83), .call (.f 18) [(.t 81), (.t 82)], none⟩,
    ⟨(some 10), .allocN 10 [.str [], .int .i64 0, .int .i64 0, .int .i64 0, .int .i64 0, .int .i64 0], none⟩,
    ⟨none, .storev 0 10 6 (.t 10) (.t 83), none⟩]
def g8_17 : List Am.Item := [
    ⟨(some 84), .val (.loadv 0 10 (some 6) (.t 10)), none⟩,
    ⟨(some 85), .val (.mov (.t 5)), none⟩,
    ⟨(some 86), .val (.mov (.t 9)), none⟩,
    ⟨(some 87), .val (.bin .num .sub (.t 86) (.c (.int .i64 1))), none⟩,
    ⟨(some 88), .val (.iaddr 6 none (.t 85) (.t 87)), none⟩,
    ⟨(some 89), .val (.loadr (some 6) (.t 88)), none⟩,
    ⟨(some 90), .call (.f 27) [(.t 84), (.t 89)], none⟩,
    ⟨(some 91), .val (.un .not (.t 90)), none⟩,
    ⟨(some 92), .val (.mov (.t 91)), none⟩,
    ⟨(some 93), .val (.faddr 1 (.t 10)), (some (92, false))⟩,
    ⟨(some 94), .val (.loadv 0 10 none (.t 93)), (some (92, false))⟩,
    ⟨(some 95), .val (.faddr 1 (.t 2)), (some (92, false))⟩,
    ⟨(some 96), .val (.loadv 0 2 none (.t 95)), (some (92, false))⟩,
    ⟨(some 97), .val (.bin .num .lss (.t 94) (.t 96)), (some (92, false))⟩,
    ⟨(some 98), .val (.pick (.t 92) (.c (.bool true)) (.t 97)), none⟩,
    ⟨(some 99), .val (.mov (.t 98)), none⟩,
    ⟨(some 100), .val (.faddr 4 (.t 10)), (some (99, false))⟩,
    ⟨(some 101), .val (.loadv 0 10 none (.t 100)), (some (99, false))⟩,
    ⟨(some 102), .val (.faddr 4 (.t 2)), (some (99, false))⟩,
    ⟨(some 103), .val (.loadv 0 2 none (.t 102)), (some (99, false))⟩,
    ⟨(some 104), .val (.bin .num .gtr (.t 101) (.t 103)), (some (99, false))⟩,
    ⟨(some 105), .val (.pick (.t 99) (.c (.bool true)) (.t 104)), none⟩]
def g8_18 : List Am.Item := [
    ⟨(some 4), .val (.mov (.c (.bool false))), none⟩]
def g8_19 : List Am.Item := [
    ⟨(some 106), .val (.load (some 6) (.t 10)), none⟩,
    ⟨none, .store 6 (.t 2) (.t 106), none⟩]
def g8_20 : List Am.Item := [
    ⟨(some 107), .val (.mov (.t 5)), none⟩,
    ⟨(some 108), .val (.mov (.t 9)), none⟩,
    ⟨(some 109), .val (.bin .num .sub (.t 108) (.c (.int .i64 1))), none⟩,
    ⟨(some 110), .val (.slc (some 6) (.t 107) none (some (.t 109)) none), none⟩,
    ⟨(some 5), .val (.mov (.t 110)), none⟩]
def g8_21 : List Am.Item := [
    ⟨(some 111), .val (.loadv 0 2 (some 6) (.t 2)), none⟩,
    ⟨(some 112), .val (.mov (.t 1)), none⟩,
    ⟨(some 113), .val (.mov (.t 6)), none⟩,
    ⟨(some 114), .val (.iaddr 2 none (.t 112) (.t 113)), none⟩,
    ⟨(some 115), .val (.loadr (some 2) (.t 114)), none⟩,
    ⟨(some 116), .call (.f 28) [(.t 111), (.t 115)], none⟩,
    ⟨(some 11), .allocN 11 [.str [], .int .i64 0, .int .i64 0, .int .i64 0, .int .i64 0, .int .i64 0], none⟩,
    ⟨none, .storev 0 11 6 (.t 11) (.t 116), none⟩]
def g8_22 : List Am.Item := [
    ⟨(some 117), .val (.load (some 6) (.t 11)), none⟩,
    ⟨(some 118), .val (.load (some 6) (.t 2)), none⟩,
    ⟨(some 119), .call (.f 27) [(.t 117), (.t 118)], none⟩,
    ⟨(some 120), .val (.un .not (.t 119)), none⟩]
def g8_23 : List Am.Item := [
    ⟨(some 4), .val (.mov (.c (.bool false))), none⟩]
def g8_24 : List Am.Item := [
    ⟨(some 121), .val (.load (some 6) (.t 11)), none⟩,
    ⟨none, .store 6 (.t 2) (.t 121), none⟩]
def g8_6 : List Am.Item := [
    ⟨(some 36), .val (.mov (.t 6)), none⟩,
    ⟨(some 37), .val (.bin .num .add (.t 36) (.c (.int .i64 1))), none⟩,
    ⟨(some 6), .val (.mov (.t 37)), none⟩]
def l8_0 : RC := .gho (.drop 11) (.gho (.drop 10) (.gho (.drop 7) (.seq (.seq (.reg g8_5) (.cond (.t 35) (.skip) (.exit 0))) (.seq (.block 1 (.seq (.seq (.reg g8_7) (.cond (.t 43) (.seq (.draw g8_8) (.seq (.seq (.reg g8_9) (.cond (.t 57) (.seq (.reg g8_10) (.ret)) (.skip))) (.seq (.seq (.reg g8_11) (.cond (.t 59) (.seq (.reg g8_12) (.reg g8_13)) (.skip))) (.exit 1)))) (.skip))) (.seq (.reg g8_14) (.seq (.seq (.reg g8_15) (.cond (.t 76) (.seq (.draw g8_16) (.seq (.seq (.draw g8_17) (.cond (.t 105) (.seq (.reg g8_18) (.ret)) (.skip))) (.seq (.reg g8_19) (.seq (.reg g8_20) (.exit 1))))) (.skip))) (.seq (.draw g8_21) (.seq (.seq (.reg g8_22) (.cond (.t 120) (.seq (.reg g8_23) (.ret)) (.skip))) (.reg g8_24))))))) (.reg g8_6)))))
def g8_25 : List Am.Item := [
    ⟨(some 122), .call (.f 15) [], none⟩,
    ⟨(some 4), .val (.mov (.t 122)), none⟩]
def r8 : RC := .seq (.reg g8_0) (.seq (.seq (.reg g8_1) (.cond (.t 19) (.seq (.draw g8_2) (.ret)) (.skip))) (.seq (.reg g8_3) (.gho (.vec 5 5 6) (.seq (.seq (.reg g8_4) (.block 0 (.loop l8_0))) (.seq (.reg g8_25) (.ret))))))
def o8 : List RR := [.tmp 4]
theorem k8 : chkC Try.prog 123 r8 (Try.f8.body.getD .skip) = true := by decide +kernel
theorem q8 : chkR Try.prog Try.f8.results.toList o8 = true := by decide +kernel

end Go.Proofs.Ytbclhpemdpoagaa.Rc
